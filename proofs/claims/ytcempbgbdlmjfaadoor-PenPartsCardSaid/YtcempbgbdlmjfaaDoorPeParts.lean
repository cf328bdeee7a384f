/-
  pen: the walk of PenParts.
-/
import Derived.Test.YtcempbgbdlmjfaaDoorPeM
namespace Go.Proofs.YtcempbgbdlmjfaaDoor
open Go.RowKit

set_option maxRecDepth 100000 in
set_option maxHeartbeats 1600000 in
theorem penparts_walk (c : Int) (w : World) (hT : TabP w) : Calls Tryd.prog 9 #[.int .i64 c] w fun e w' => e = .returned (.bool true) ∧ Below w.heap.size w w' := by
  have HT := Lib.hid hT; clear hT
  by_cases h0 : c = 0
  · subst h0
    have HP := Lib.hid parts_0
    go_enter Tryd.func9, Tryd.ntmps9
    go_wp2_with (first
      | (go_at_call 29; refine (awake7_any _ HT.out).mono ?_; rintro e w1 ⟨rfl, hb1⟩; have HB := Lib.hid hb1; clear hb1)
      | (go_at_call 34; refine (parts_any 0 _).mono ?_; rintro e w2 ⟨rfl, rfl⟩; simp only [HP.out]))
    go_ret
    exact ⟨rfl, HB.out⟩
  by_cases h1 : 1 ≤ c ∧ c ≤ 256
  · have HP := Lib.hid (parts_1 c h1)
    have e1 : (c == c - 1 + 1) = true := beq_iff_eq.2 (by omega)
    obtain ⟨h1, h2⟩ := h1
    have d1 : decide (0 ≤ c - 1) = true := by simp; omega
    have d2 : decide (c - 1 ≤ 255) = true := by simp; omega
    clear h0
    go_enter Tryd.func9, Tryd.ntmps9
    go_wp2_with (first
      | (go_at_call 29; refine (awake7_any _ HT.out).mono ?_; rintro e w1 ⟨rfl, hb1⟩; have HB := Lib.hid hb1; clear hb1)
      | (go_at_call 34; refine (parts_any c _).mono ?_; rintro e w2 ⟨rfl, rfl⟩; simp only [HP.out]))
    go_ret
    exact ⟨rfl, HB.out⟩
  by_cases h2 : 16777216 ≤ c ∧ c < 33554432
  · have HP := Lib.hid (parts_2 c h2)
    have HR := Lib.hid (rgb_of c h2)
    clear h0 h1 h2
    go_enter Tryd.func9, Tryd.ntmps9
    go_wp2_with (first
      | (go_at_call 29; refine (awake7_any _ HT.out).mono ?_; rintro e w1 ⟨rfl, hb1⟩; have HB := Lib.hid hb1; clear hb1)
      | (go_at_call 34; refine (parts_any c _).mono ?_; rintro e w2 ⟨rfl, rfl⟩; simp only [HP.out])
      | (go_at_call 33; refine (rgb_any _ _ _ _).mono ?_; rintro e w3 ⟨rfl, rfl⟩; simp only [HR.out]))
    go_ret
    exact ⟨rfl, HB.out⟩
  · have hc : isCol c = false := by
      cases h : isCol c with
      | false => rfl
      | true => exact absurd ((isCol_iff c).1 h) (by omega)
    have HP : Hid (partsF c = (3, 0, 0, 0)) := Lib.hid (by unfold partsF; rw [if_neg h0, if_neg h1, if_neg (by rw [hc]; simp)])
    have HS : Hid (sanePn ⟨c, 0, 0⟩ = false) := Lib.hid (by unfold sanePn; simp only [hc, Bool.false_and])
    clear h0 h1 h2 hc
    go_enter Tryd.func9, Tryd.ntmps9
    go_wp2_with (first
      | (go_at_call 29; refine (awake7_any _ HT.out).mono ?_; rintro e w1 ⟨rfl, hb1⟩; have HB := Lib.hid hb1; clear hb1)
      | (go_at_call 34; refine (parts_any c _).mono ?_; rintro e w2 ⟨rfl, rfl⟩; simp only [HP.out])
      | (go_at_call 30; refine (sane7_any ⟨c, 0, 0⟩ _).mono ?_; rintro e w3 ⟨rfl, hb3⟩; have HB3 := Lib.hid hb3; clear hb3; simp only [HS.out]))
    go_ret
    exact ⟨rfl, HB.out.trans (HB3.out.mono HB.out.size)⟩
end Go.Proofs.YtcempbgbdlmjfaaDoor
