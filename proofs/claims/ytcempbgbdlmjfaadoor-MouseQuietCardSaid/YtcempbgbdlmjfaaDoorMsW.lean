/-
  mouse: the laws' awake.
-/
import Derived.Test.YtcempbgbdlmjfaaDoorMsC
import Derived.Test.YtcempbgbdlmjfaaDoorMsQ
namespace Go.Proofs.YtcempbgbdlmjfaaDoor
open Go.RowKit

set_option maxRecDepth 100000 in
set_option maxHeartbeats 1600000 in
theorem arrow_aw (w : World) (hM : TabM w) : Calls Tryd.prog 77 #[.agg #[.int .i64 69954], .int .u8 67, .bool true] w fun e w' => ∃ A c, e = .returned (.slice A 3 c) ∧ Rd w' w'.heap.size A ([27, 91, 68].map (.int .u8)) ∧ Below w.heap.size w w' := by
  have e1 : hasF 69954 true 1 = false := by decide +kernel
  have E1 := Lib.hid e1
  have hT1 := hM.alloc (.cells #[.int .i64 69954] 24)
  clear e1 hM
  go_enter Tryd.func77, Tryd.ntmps77
  go_wp2_with (go_at_call 25; refine (has_any 69954 true 1 _ hT1).mono ?_; rintro e w2 ⟨rfl, hb2⟩; simp only [E1.out])
  go_ret
  refine ⟨_, _, rfl, rd_of_block (cs := [.int .u8 27, .int .u8 91, .int .u8 68]) (heap_new_at rfl) (by simp), ?_⟩
  exact (bt ((Below.refl _ _).alloc (Nat.le_refl _) _) hb2 (by simp)).alloc (by have := hb2.size; simp at this; omega) _
theorem str_ev : sN [27, 91, 60, 48, 59, 51, 59, 52, 77] = ⟨#[27, 91, 60, 48, 59, 51, 59, 52, 77]⟩ := by kernel_rfl
theorem str_ar : sN [27, 91, 68] = ⟨#[27, 91, 68]⟩ := by kernel_rfl
theorem rep_aw : repL 0 (codeF (mouF 69954) 1006 0 0 0) (clampF 2 9) (clampF 3 9) = [27, 91, 60, 48, 59, 51, 59, 52, 77] := by decide +kernel
set_option maxRecDepth 100000 in
set_option maxHeartbeats 3200000 in
theorem awake22_any (w : World) (hM : TabM w) (hT : TabI w) : Calls Tryd.prog 47 #[] w fun e w' => e = .returned (.bool true) ∧ Below w.heap.size w w' := by
  have e1 : setF 322 true 1000 true = 4418 := by decide +kernel
  have e2 : setF 4418 true 1006 true = 69954 := by decide +kernel
  have E1 := Lib.hid e1; have E2 := Lib.hid e2
  clear e1 e2
  have HT := Lib.hid hT
  clear hT
  go_enter Tryd.func47, Tryd.ntmps47
  go_wp2_with fail
  refine (new_any _).mono ?_
  rintro e w1 ⟨rfl, hb1⟩
  have hT1 := hM.below hb1
  go_wp2_with fail
  refine (set_any 322 true 1000 true _ hT1).mono ?_
  rintro e w2 ⟨rfl, hb2⟩
  simp only [E1.out]
  have hT2 := hT1.below hb2
  go_wp2_with fail
  refine (set_any 4418 true 1006 true _ hT2).mono ?_
  rintro e w3 ⟨rfl, hb3⟩
  simp only [E2.out]
  have b3 := bt (bt hb1 hb2 hb1.size) hb3 (by have := hb1.size; have := hb2.size; omega)
  have hT3 := (hT2.below hb3).alloc (.cells #[.int .i64 69954] 24)
  have B3 := Lib.hid (b3.alloc b3.size (.cells #[.int .i64 69954] 24))
  have HI := Lib.hid (HT.out.below B3.out)
  clear hb1 hb2 hb3 hT1 hT2 b3
  go_wp2_with fail
  refine (rep_sgr 69954 0 0 0 2 3 9 9 _ hT3 HI.out (by unfold Wf; omega) (by unfold Wf; omega) (by unfold Wf; omega) (by unfold Wf; omega) (by decide +kernel) (by decide +kernel) (by unfold Wf; omega) (by decide +kernel) (by omega)).mono ?_
  rintro e w4 ⟨A4, N4, c4, rfl, hn4, hr4, hb4⟩
  rw [rep_aw] at hn4 hr4
  simp only [List.length_cons, List.length_nil, Nat.zero_add] at hn4
  subst hn4
  have q4 := new_cell hb4 0 _ rfl
  have hT4 := hT3.below hb4
  have cv := conv_sN _ c4 hr4 (by decide) (by decide)
  rw [str_ev] at cv
  simp only [List.length_cons, List.length_nil, Nat.zero_add] at cv
  have B4 := Lib.hid (bt B3.out hb4 (by have := B3.out.size; simpa using this))
  clear hb4 hr4 hT3
  go_wp2_with fail
  refine (place_lt 4 17 8 9 _ (by omega) (by omega) (by omega) (by omega) (by omega) (by omega) (by omega) (by omega) (by omega)).mono ?_
  rintro e _ ⟨rfl, rfl⟩
  go_wp2_with fail
  refine (arrow_aw _ hT4).mono ?_
  rintro e w5 ⟨A5, c5, rfl, hr5, hb5⟩
  have cv5 := conv_sN _ c5 hr5 (by decide) (by decide)
  rw [str_ar] at cv5
  simp only [List.length_cons, List.length_nil, Nat.zero_add] at cv5
  have B5 := Lib.hid (bt B4.out hb5 B4.out.size)
  clear hb5 hr5
  go_wp2_with fail
  go_ret
  exact ⟨rfl, B5.out⟩
end Go.Proofs.YtcempbgbdlmjfaaDoor
