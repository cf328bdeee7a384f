/-
  modes: the walks of Sane, New, which, Mouse.
-/
import Derived.Test.YtcempbgbdlmjfaaDoorMoA
import Derived.Deep.RegionWith
namespace Go.Proofs.YtcempbgbdlmjfaaDoor
open Go.RowKit

theorem single_n (x : Nat) (w : World) (h : x < 16777216) :
    Calls Tryd.prog 60 #[.int .i64 (x : Int)] w fun e w' => e = .returned (.bool (sngB (BitVec.ofNat 64 x))) ∧ Below w.heap.size w w' := by
  have e : (BitVec.ofNat 64 x).toNat = x := by rw [BitVec.toNat_ofNat]; omega
  have h2 := single_any (BitVec.ofNat 64 x) w (by rw [e]; exact h)
  rw [e] at h2
  exact h2
theorem masks (b : Int) : ∃ x y : Nat, bits .and .i64 b 28800 = (x : Int) ∧ bits .and .i64 b 196608 = (y : Int) ∧ x < 16777216 ∧ y < 16777216 ∧ BitVec.ofInt 64 b &&& miceB = BitVec.ofNat 64 x ∧ BitVec.ofInt 64 b &&& encB = BitVec.ofNat 64 y :=
  ⟨_, _, mask_mice b, mask_enc b, Nat.lt_trans (and_lt_right _ _ 28801 (by decide)) (by decide), Nat.lt_trans (and_lt_right _ _ 196609 (by decide)) (by decide), by rw [BitVec.ofNat_toNat, BitVec.setWidth_eq], by rw [BitVec.ofNat_toNat, BitVec.setWidth_eq]⟩

set_option maxRecDepth 100000 in
set_option maxHeartbeats 1600000 in
theorem saneM_any (b : Int) (w : World) :
    Calls Tryd.prog 22 #[.agg #[.int .i64 b]] w fun e w' => e = .returned (.bool (saneM b)) ∧ Below w.heap.size w w' := by
  by_cases h0 : b < 0
  · go_enter Tryd.func22, Tryd.ntmps22
    go_wp2
    go_ret
    exact ⟨ret_bool (by simp [saneM]; omega), (Below.refl _ _).alloc (Nat.le_refl _) _⟩
  by_cases h1 : 16777216 ≤ b
  · go_enter Tryd.func22, Tryd.ntmps22
    go_wp2
    go_ret
    exact ⟨ret_bool (by simp [saneM]; omega), (Below.refl _ _).alloc (Nat.le_refl _) _⟩
  obtain ⟨x, y, mm, me, l1, l2, hX, hY⟩ := masks b
  have hs : saneM b = (sngB (BitVec.ofNat 64 x) && sngB (BitVec.ofNat 64 y)) := by
    unfold saneM
    rw [decide_eq_true (show 0 ≤ b ∧ b < 16777216 by omega), hX, hY]
    rfl
  clear hX hY
  have HS := Lib.hid hs; clear hs
  cases hx : sngB (BitVec.ofNat 64 x) with
  | false =>
    have HX := Lib.hid hx; clear hx
    go_enter Tryd.func22, Tryd.ntmps22
    go_wp2_with (go_at_call 60; refine (single_n x _ l1).mono ?_; rintro e w1 ⟨rfl, hb1⟩; simp only [HX.out])
    go_ret
    exact ⟨ret_bool (by rw [HS.out, HX.out]; rfl), bt ((Below.refl _ _).alloc (Nat.le_refl _) _) hb1 (by simp)⟩
  | true =>
    have HX := Lib.hid hx; clear hx
    go_enter Tryd.func22, Tryd.ntmps22
    go_wp2_with (first
      | (go_at_call_of 60 (Value.int IntKind.i64 (x : Int)); refine (single_n x _ l1).mono ?_; rintro e w1 ⟨rfl, hb1⟩; simp only [HX.out]; have nb := new_cell hb1 0 _ rfl)
      | (go_at_call_of 60 (Value.int IntKind.i64 (y : Int)); refine (single_n y _ l2).mono ?_; rintro e w2 ⟨rfl, hb2⟩))
    go_ret
    exact ⟨ret_bool (by rw [HS.out, HX.out]; rfl), bt (bt ((Below.refl _ _).alloc (Nat.le_refl _) _) hb1 (by simp)) hb2 (by have := hb1.size; simp at this; omega)⟩
end Go.Proofs.YtcempbgbdlmjfaaDoor
