/-
  params: the walk of Get.
-/
import Derived.Test.YtcempbgbdlmjfaaDoorPaE
namespace Go.Proofs.YtcempbgbdlmjfaaDoor
open Go.RowKit

set_option maxRecDepth 100000 in
set_option maxHeartbeats 1600000 in
theorem get5_any {lo : Nat} (L : List (List Int)) (v : Value) (k usual : Int) (w : World) (hr : RdLL w lo w.heap.size v L) :
    Calls Tryd.prog 36 #[v, .int .i64 k, .int .i64 usual] w fun e w' => e = .returned (.int .i64 (getP L k usual)) ∧ w = w' := by
  obtain ⟨A, c, rfl, hcap⟩ := rdLL_form hr
  by_cases h0 : k < 0
  · have d0 : decide (k < 0) = true := by simp; omega
    have e1 : getP L k usual = usual := by unfold getP; rw [if_pos (.inl h0)]
    rw [e1]
    clear h0 hr e1
    go_enter Tryd.func36, Tryd.ntmps36
    go_wp2
    go_ret
    exact ⟨rfl, rfl⟩
  have d0 : decide (k < 0) = false := by simp; omega
  by_cases h1 : (L.length : Int) ≤ k
  · have d1 : decide ((L.length : Int) ≤ k) = true := by simp; omega
    have e1 : getP L k usual = usual := by unfold getP; rw [if_pos (.inr h1)]
    rw [e1]
    clear h0 h1 hr e1
    go_enter Tryd.func36, Tryd.ntmps36
    go_wp2
    go_ret
    exact ⟨rfl, rfl⟩
  obtain ⟨n, rfl⟩ := Int.eq_ofNat_of_zero_le (show 0 ≤ k by omega)
  have hn : n < L.length := by omega
  have d1 : decide (L.length ≤ n) = false := by simp; omega
  have d1' : decide ((L.length : Int) ≤ (n : Int)) = false := by simp; omega
  obtain ⟨b, off, Ai, ci, rfl, hbB, hc, hci, hri⟩ := hr.at n hn
  have e0 : getP L (n : Int) usual = match L[n] with | [] => usual | x :: _ => if x = -1 then usual else x := by
    unfold getP
    rw [if_neg (by omega)]
    have : L.getD (n : Int).toNat [] = L[n] := by simp [List.getD, hn]
    rw [this]
    cases L[n] <;> rfl
  rw [e0]
  obtain ⟨q, hq⟩ : ∃ q, L[n] = q := ⟨_, rfl⟩
  rw [hq] at hc hci hri ⊢
  clear hq e0 hr
  have i0 : (0 : Int) ≤ (n : Int) := by omega
  have i1 : (n : Int) < (L.length : Int) := by omega
  clear h0 h1
  cases q with
  | nil =>
    have HRI := Lib.hid hri; clear hri
    go_enter Tryd.func36, Tryd.ntmps36
    go_wp2
    go_ret
    exact ⟨rfl, rfl⟩
  | cons x q' =>
    obtain ⟨b2, off2, rfl, hb2, hc2⟩ := hri (by simp [nC])
    have hc3 := hc2 0 (by simp [nC])
    have e3 : (nC (x :: q'))[0]'(by simp [nC]) = .int .i64 x := rfl
    rw [e3, Nat.add_zero] at hc3
    clear e3 hc2 hri
    have z1 : ((q'.length : Int) + 1 == 0) = false := beq_eq_false_iff_ne.2 (by omega)
    by_cases hx : x = -1
    · subst hx
      go_enter Tryd.func36, Tryd.ntmps36
      go_wp2
      go_ret
      exact ⟨rfl, rfl⟩
    · have z2 : (x == -1) = false := beq_eq_false_iff_ne.2 hx
      have HX := Lib.hid hx; clear hx
      go_enter Tryd.func36, Tryd.ntmps36
      go_wp2
      go_ret
      exact ⟨rfl, rfl⟩

end Go.Proofs.YtcempbgbdlmjfaaDoor
