/-
  utf: the walk of End.
-/
import Derived.Test.YtcempbgbdlmjfaaUtB
import Derived.Test.YtcempbgbdlmjfaaUtD
namespace Go.Proofs.Ytcempbgbdlmjfaa
open Go.RowKit

set_option maxHeartbeats 1600000 in
theorem end_any (s : List Int) (A : Option Addr) (cp : Nat) (w : World) (B : Nat) (hB : B ≤ w.heap.size) (hr0 : Rd w B A (byteCells s)) (hb : Bytes s) (hl : s.length ≤ maxLen) :
    Calls Try.prog 41 #[.agg #[.slice A s.length cp]] w fun e w' => ∃ A' c', e = .returned (.slice A' (endF s).length c') ∧ w'.ownsRow w.heap.size 3 1 (.slice A' (endF s).length c') (endF s).length (intCells (endF s)) ∧ Below w.heap.size w w' := by
  cases s with
  | nil =>
    go_enter Try.func41, Try.ntmps41
    go_wp2
    go_ret
    exact ⟨_, _, rfl, World.ownsRow_nil _ _ _ _, (Below.refl _ _).alloc (Nat.le_refl _) _⟩
  | cons x r =>
    have hr1 := (hr0.below ((Below.refl w.heap.size w).alloc (Nat.le_refl _) (.cells #[.slice A (x :: r).length cp] 45)) hB)
    rw [List.length_cons] at hr1 ⊢
    cases hs : sanU (x :: r) with
    | false =>
      have HS := Lib.hid hs; clear hs
      go_enter Try.func41, Try.ntmps41
      go_wp2_with (go_at_call 28; refine (saneU_any (x :: r) A cp _ B (by simp; omega) hr1 hb hl).mono ?_; rintro e w1 ⟨rfl, hb1⟩; simp only [HS.out]; have nb := new_cell hb1 0 _ rfl)
      go_ret
      have e0 : endF (x :: r) = [] := by simp [endF, HS.out]
      rw [e0]
      exact ⟨_, _, rfl, World.ownsRow_nil _ _ _ _, bt ((Below.refl _ _).alloc (Nat.le_refl _) _) hb1 (by simp)⟩
    | true =>
      have HS := Lib.hid hs; clear hs
      go_enter Try.func41, Try.ntmps41
      go_wp2_with (go_at_call 28; refine (saneU_any (x :: r) A cp _ B (by simp; omega) hr1 hb hl).mono ?_; rintro e w1 ⟨rfl, hb1⟩; simp only [HS.out]; have nb := new_cell hb1 0 _ rfl)
      go_ret
      have e0 : endF (x :: r) = [65533] := by simp [endF, HS.out]
      rw [e0]
      have hz := hb1.size
      simp at hz
      exact ⟨_, _, rfl, ⟨rfl, .inr ⟨w1.heap.size, 1, #[.int .i64 65533], rfl, by omega, heap_new_at rfl, Nat.le_refl _, by unfold maxLen; omega, rfl, rfl⟩⟩, (bt ((Below.refl _ _).alloc (Nat.le_refl _) _) hb1 (by simp)).alloc (by omega) _⟩
end Go.Proofs.Ytcempbgbdlmjfaa
