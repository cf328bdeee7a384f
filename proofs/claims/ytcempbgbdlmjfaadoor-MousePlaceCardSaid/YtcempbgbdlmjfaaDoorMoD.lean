/-
  modes: the walks of Mouse and Has.
-/
import Derived.Test.YtcempbgbdlmjfaaDoorMoC
namespace Go.Proofs.YtcempbgbdlmjfaaDoor
open Go.RowKit

theorem TabM.after {w : World} (h : TabM w) (u : After w) : TabM u.get := h.below u.below
set_option maxRecDepth 100000 in
set_option maxHeartbeats 1600000 in
theorem mouse_any (b : Int) (w : World) (hT : TabM w) :
    Calls Tryd.prog 27 #[.agg #[.int .i64 b]] w fun e w' => e = .returned (.tuple #[.int .i64 (mouF b), .int .i64 (codF b)]) ∧ Below w.heap.size w w' := by
  cases hs : saneM b with
  | false =>
    have e1 : mouF b = 0 := by simp [mouF, hs]
    have e2 : codF b = 0 := by simp [codF, hs]
    rw [e1, e2]
    have HS := Lib.hid hs; clear hs e1 e2
    go_enter Tryd.func27, Tryd.ntmps27
    go_wp2_with (go_at_call 22; refine (saneM_any b _).mono ?_; rintro e w1 ⟨rfl, hb1⟩; simp only [HS.out])
    go_ret2
    exact ⟨rfl, bt ((Below.refl _ _).alloc (Nat.le_refl _) _) hb1 (by simp)⟩
  | true =>
    obtain ⟨x, y, mm, me, l1, l2, hX, hY⟩ := masks b
    have e1 : mouF b = whF (BitVec.ofNat 64 x) := by rw [← hX, wh_mice]; simp [mouF, hs]
    have e2 : codF b = whF (BitVec.ofNat 64 y) := by rw [← hY, wh_enc]; simp [codF, hs]
    rw [e1, e2]
    have HS := Lib.hid hs; clear hs e1 e2 hX hY
    have hT1 := hT.alloc (.cells #[.int .i64 b] 24)
    go_enter Tryd.func27, Tryd.ntmps27
    go_wp2_with (go_at_call 22; refine (saneM_any b _).mono ?_; rintro e w1 ⟨rfl, hb1⟩; simp only [HS.out]; have nb := new_cell hb1 0 _ rfl; have hT2 := hT1.below hb1)
    have y0 := fun u : After w1 => u.cell nb
    have y1 := fun u : After w1 => hT2.after u
    have Y1 := Lib.hid y1; clear y1
    refine wp_region_after (by kernel_rfl) (by kernel_rfl) ?_
    repeat (go_big_quiet_step (first
      | (go_at_call_of 61 (Value.int IntKind.i64 (x : Int)); exact Calls.after_int rfl (which_any x _ (Y1.out _)))
      | (go_at_call_of 61 (Value.int IntKind.i64 (y : Int)); exact Calls.after_int rfl (which_any y _ (Y1.out _)))))
    refine wpQuiet_nil ?_
    rintro _ ⟨u, rfl⟩
    clear y0
    go_wp2_with fail
    go_ret2
    exact ⟨rfl, bt (bt ((Below.refl _ _).alloc (Nat.le_refl _) _) hb1 (by simp)) u.below (by have := hb1.size; simp at this; omega)⟩

set_option maxRecDepth 100000 in
set_option maxHeartbeats 1600000 in
theorem has_any (b : Int) (p : Bool) (n : Int) (w : World) (hT : TabM w) :
    Calls Tryd.prog 25 #[.agg #[.int .i64 b], .bool p, .int .i64 n] w fun e w' => e = .returned (.bool (hasF b p n)) ∧ Below w.heap.size w w' := by
  have hT1 := hT.alloc (.cells #[.int .i64 b] 24)
  cases hs : saneM b with
  | false =>
    have e1 : hasF b p n = false := by simp [hasF, hs]
    rw [e1]
    have HS := Lib.hid hs; clear hs e1
    go_enter Tryd.func25, Tryd.ntmps25
    go_wp2_with (go_at_call 24; refine (place_any p n _ hT1).mono ?_; rintro e w1 ⟨rfl, hb1⟩; have nb := new_cell hb1 0 _ rfl)
    have y0 := fun u : After w1 => u.cell nb
    refine wp_region_after (by kernel_rfl) (by kernel_rfl) ?_
    repeat (go_big_quiet_step ((go_at_call 22; exact Calls.after_bool HS.out (saneM_any b _))))
    refine wpQuiet_nil ?_
    rintro _ ⟨u, rfl⟩
    clear y0
    go_wp2_with fail
    go_ret
    exact ⟨rfl, bt (bt ((Below.refl _ _).alloc (Nat.le_refl _) _) hb1 (by simp)) u.below (by have := hb1.size; simp at this; omega)⟩
  | true =>
    rcases plcF_spec p n with hp | ⟨i, hp, _⟩
    · have e1 : hasF b p n = false := by simp [hasF, hp]
      rw [e1]
      have HS := Lib.hid hs; have HP := Lib.hid hp; clear hs e1 hp
      go_enter Tryd.func25, Tryd.ntmps25
      go_wp2_with (go_at_call 24; refine (place_any p n _ hT1).mono ?_; rintro e w1 ⟨rfl, hb1⟩; simp only [HP.out]; have nb := new_cell hb1 0 _ rfl)
      have y0 := fun u : After w1 => u.cell nb
      refine wp_region_after (by kernel_rfl) (by kernel_rfl) ?_
      repeat (go_big_quiet_step ((go_at_call 22; exact Calls.after_bool HS.out (saneM_any b _))))
      refine wpQuiet_nil ?_
      rintro _ ⟨u, rfl⟩
      clear y0
      go_wp2_with fail
      go_ret
      exact ⟨rfl, bt (bt ((Below.refl _ _).alloc (Nat.le_refl _) _) hb1 (by simp)) u.below (by have := hb1.size; simp at this; omega)⟩
    · obtain ⟨k, hk⟩ := i
      simp only at hp
      have e1 : hasF b p n = (BitVec.ofInt 64 b).getLsbD k := by simp [hasF, hp, hs]
      have hbt := bit_test b k hk
      rw [e1]
      generalize (BitVec.ofInt 64 b).getLsbD k = t at hbt
      have HS := Lib.hid hs; have HP := Lib.hid hp; clear hs e1 hp
      have i0 : (0 : Int) ≤ (k : Int) := by omega
      have i1 : (k : Int) < 64 := by omega
      have i2 : decide (0 ≤ (k : Int)) = true := by simp
      go_enter Tryd.func25, Tryd.ntmps25
      go_wp2_with (go_at_call 24; refine (place_any p n _ hT1).mono ?_; rintro e w1 ⟨rfl, hb1⟩; simp only [HP.out]; have nb := new_cell hb1 0 _ rfl)
      have y0 := fun u : After w1 => u.cell nb
      refine wp_region_after (by kernel_rfl) (by kernel_rfl) ?_
      repeat (go_big_quiet_step ((go_at_call 22; exact Calls.after_bool HS.out (saneM_any b _))))
      refine wpQuiet_nil ?_
      rintro _ ⟨u, rfl⟩
      clear y0
      go_wp2_with fail
      go_ret
      exact ⟨rfl, bt (bt ((Below.refl _ _).alloc (Nat.le_refl _) _) hb1 (by simp)) u.below (by have := hb1.size; simp at this; omega)⟩
end Go.Proofs.YtcempbgbdlmjfaaDoor
