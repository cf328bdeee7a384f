/-
  utf: the walks of Sane and letter.
-/
import Derived.Test.YtcempbgbdlmjfaaUtA
namespace Go.Proofs.Ytcempbgbdlmjfaa
open Go.RowKit

def Bytes (b : List Int) : Prop := ∀ y ∈ b, 0 ≤ y ∧ y < 256

set_option maxHeartbeats 1600000 in
theorem saneU_any (s : List Int) (A : Option Addr) (cp : Nat) (w : World) (B : Nat) (hB : B ≤ w.heap.size) (hr0 : Rd w B A (byteCells s)) (hb : Bytes s) (hl : s.length ≤ maxLen) :
    Calls Try.prog 28 #[.agg #[.slice A s.length cp]] w fun e w' => e = .returned (.bool (sanU s)) ∧ Below w.heap.size w w' := by
  cases s with
  | nil =>
    go_enter Try.func28, Try.ntmps28
    go_wp2
    go_ret
    exact ⟨ret_bool (by simp [sanU]), (Below.refl _ _).alloc (Nat.le_refl _) _⟩
  | cons x r =>
    have hr1 := (hr0.below ((Below.refl w.heap.size w).alloc (Nat.le_refl _) (.cells #[.slice A (x :: r).length cp] 45)) hB)
    have g0 : ¬ (r.length + 1 = 0) := by omega
    rw [List.length_cons] at hr1 ⊢
    go_enter Try.func28, Try.ntmps28
    go_wp2_with (go_at_call 46; refine (begins_any x r A cp _ B (by simp; omega) hr1 hb hl).mono ?_; rintro e w1 ⟨rfl, hb1⟩; have nb := new_cell hb1 0 _ rfl)
    all_goals
      go_ret
      refine ⟨ret_bool ?_, bt ((Below.refl _ _).alloc (Nat.le_refl _) _) hb1 (by simp)⟩
      first | (rw [Bool.eq_iff_iff]; simp [sanU]; omega) | (symm; simp [sanU]; omega)
end Go.Proofs.Ytcempbgbdlmjfaa
