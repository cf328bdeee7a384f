/-
  pen: the walks of isColour, Sane, bounded, RGB, Parts, isByte.
-/
import Derived.Test.YtcempbgbdlmjfaaDoorPePlain
import Derived.Test.YtcempbgbdlmjfaaDoorPaG
namespace Go.Proofs.YtcempbgbdlmjfaaDoor
open Go.RowKit

theorem iscol_any (c : Int) (w : World) : Calls Tryd.prog 62 #[.int .i64 c] w fun e w' => e = .returned (.bool (isCol c)) ∧ w = w' := by
  by_cases h0 : 0 ≤ c
  · have d0 : decide (0 ≤ c) = true := by simp; omega
    by_cases h1 : c ≤ 256
    · have d1 : decide (c ≤ 256) = true := by simp; omega
      go_enter Tryd.func62, Tryd.ntmps62
      go_wp2
      go_ret
      exact ⟨ret_bool (by simp [isCol]; omega), rfl⟩
    · have d1 : decide (c ≤ 256) = false := by simp; omega
      by_cases h2 : 16777216 ≤ c
      · have d2 : decide (16777216 ≤ c) = true := by simp; omega
        go_enter Tryd.func62, Tryd.ntmps62
        go_wp2
        go_ret
        exact ⟨ret_bool (by rw [Bool.eq_iff_iff]; simp [isCol]; omega), rfl⟩
      · have d2 : decide (16777216 ≤ c) = false := by simp; omega
        go_enter Tryd.func62, Tryd.ntmps62
        go_wp2
        go_ret
        exact ⟨ret_bool (by rw [Bool.eq_iff_iff]; simp [isCol]; omega), rfl⟩
  · have d0 : decide (0 ≤ c) = false := by simp; omega
    have d2 : decide (16777216 ≤ c) = false := by simp; omega
    go_enter Tryd.func62, Tryd.ntmps62
    go_wp2
    go_ret
    exact ⟨ret_bool (by rw [Bool.eq_iff_iff]; simp [isCol]; omega), rfl⟩

set_option maxHeartbeats 800000 in
theorem sane7_any (p : Pn) (w : World) : Calls Tryd.prog 30 #[.agg #[.int .i64 p.fg, .int .i64 p.bg, .int .i64 p.fl]] w fun e w' => e = .returned (.bool (sanePn p)) ∧ Below w.heap.size w w' := by
  obtain ⟨fg, bg, fl⟩ := p
  simp only
  have hb : Below w.heap.size w (w.alloc (.cells #[.int .i64 fg, .int .i64 bg, .int .i64 fl] 40)) := (Below.refl _ _).alloc (Nat.le_refl _) _
  have HB := Lib.hid hb; clear hb
  obtain ⟨cf, hcf⟩ : ∃ cf, isCol fg = cf := ⟨_, rfl⟩
  obtain ⟨cb, hcb⟩ : ∃ cb, isCol bg = cb := ⟨_, rfl⟩
  have HE : Hid (sanePn ⟨fg, bg, fl⟩ = (cf && (cb && decide (0 ≤ fl ∧ fl ≤ 511)))) := Lib.hid (by simp only [sanePn]; rw [hcf, hcb])
  have HF := Lib.hid hcf; have HC := Lib.hid hcb
  clear hcf hcb
  cases cf <;> cases cb
  all_goals
    by_cases h0 : 0 ≤ fl
  all_goals
    first
      | have d0 : decide (0 ≤ fl) = true := decide_eq_true h0
      | have d0 : decide (0 ≤ fl) = false := decide_eq_false h0
  all_goals
    go_enter Tryd.func30, Tryd.ntmps30
    go_wp2_with (first
      | (go_at_call_of 62 (Value.int IntKind.i64 fg); refine (iscol_any fg _).mono ?_; rintro e w1 ⟨rfl, rfl⟩; simp only [HF.out])
      | (go_at_call_of 62 (Value.int IntKind.i64 bg); refine (iscol_any bg _).mono ?_; rintro e w1 ⟨rfl, rfl⟩; simp only [HC.out]))
    go_ret
    exact ⟨ret_bool (by rw [HE.out]; first | rfl | (simp [h0]; done) | (rw [Bool.eq_iff_iff]; simp; omega)), HB.out⟩
end Go.Proofs.YtcempbgbdlmjfaaDoor
