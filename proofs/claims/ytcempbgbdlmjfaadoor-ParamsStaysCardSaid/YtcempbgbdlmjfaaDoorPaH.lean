/-
  params: the walk of the laws' awake.
-/
import Derived.Test.YtcempbgbdlmjfaaDoorPaG
namespace Go.Proofs.YtcempbgbdlmjfaaDoor
open Go.RowKit

theorem parse_ex : parseGo ⟨[], false⟩ (bI ⟨#[49, 59, 51, 56, 58, 50, 58, 58, 53]⟩) = some ⟨[[1], [38, 2, -1, 5]], true⟩ := by kernel_rfl
set_option maxRecDepth 100000 in
set_option maxHeartbeats 1600000 in
theorem awake5_any (w : World) : Calls Tryd.prog 37 #[] w fun e w' => e = .returned (.bool true) ∧ Below w.heap.size w w' := by
  have g1 : getP [[1], [38, 2, -1, 5]] 0 9 = 1 := by decide
  have g2 : getP [[1], [38, 2, -1, 5]] 7 9 = 9 := by decide
  have G1 := Lib.hid g1; have G2 := Lib.hid g2; clear g1 g2
  go_enter Tryd.func37, Tryd.ntmps37
  go_wp2_with fail
  refine (parse_any _ _ (by decide)).mono ?_
  rintro e w1 ⟨hb1, hp⟩
  rw [parse_ex] at hp
  obtain ⟨v, rfl, hr⟩ := hp
  obtain ⟨A, c, rfl, hcap⟩ := rdLL_form hr
  obtain ⟨b, off, Ai, ci, rfl, hbB, hc, hci, hri⟩ := hr.at 1 (by simp)
  obtain ⟨b2, off2, rfl, hb2, hc2⟩ := hri (by simp [nC])
  have hc3 := hc2 2 (by simp [nC])
  have e3 : (nC ([[1], [38, 2, -1, 5]] : List (List Int))[1])[2]'(by simp [nC]) = .int .i64 (-1) := rfl
  rw [e3] at hc3
  simp only [List.getElem_cons_succ, List.getElem_cons_zero, List.length_cons, List.length_nil] at hc hcap hci
  have HR := Lib.hid hr; have HB := Lib.hid hb1
  clear hri hc2 e3 hr hb1
  simp only [List.length_cons, List.length_nil]
  go_wp2_with (first
    | (go_at_call_of 36 (Value.int IntKind.i64 0); refine (get5_any _ _ _ _ _ HR.out).mono ?_; rintro e w2 ⟨rfl, rfl⟩; simp only [G1.out])
    | (go_at_call_of 36 (Value.int IntKind.i64 7); refine (get5_any _ _ _ _ _ HR.out).mono ?_; rintro e w2 ⟨rfl, rfl⟩; simp only [G2.out]))
  go_ret
  exact ⟨rfl, HB.out⟩
end Go.Proofs.YtcempbgbdlmjfaaDoor
