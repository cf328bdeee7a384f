/-
  modes: the walk of the laws' awake.
-/
import Derived.Test.YtcempbgbdlmjfaaDoorMoE
namespace Go.Proofs.YtcempbgbdlmjfaaDoor
open Go.RowKit

set_option maxRecDepth 100000 in
set_option maxHeartbeats 1600000 in
theorem awake13_any (w : World) (hT : TabM w) : Calls Tryd.prog 21 #[] w fun e w' => e = .returned (.bool true) ∧ Below w.heap.size w w' := by
  have e1 : setF 322 true 1000 true = 4418 := by decide +kernel
  have e2 : setF 4418 true 1003 true = 16706 := by decide +kernel
  have e3 : mouF 16706 = 1003 := by decide +kernel
  have e4 : codF 16706 = 0 := by decide +kernel
  have e5 : hasF 16706 true 1003 = true := by decide +kernel
  have e6 : hasF 16706 true 1000 = false := by decide +kernel
  have e7 : hasF 16706 true 7 = true := by decide +kernel
  have e8 : saneM 16706 = true := by decide +kernel
  have E1 := Lib.hid e1; have E2 := Lib.hid e2; have E3 := Lib.hid e3; have E4 := Lib.hid e4; have E5 := Lib.hid e5; have E6 := Lib.hid e6; have E7 := Lib.hid e7; have E8 := Lib.hid e8
  clear e1 e2 e3 e4 e5 e6 e7 e8
  go_enter Tryd.func21, Tryd.ntmps21
  go_wp2_with fail
  refine (new_any _).mono ?_
  rintro e w1 ⟨rfl, hb1⟩
  have hT1 := hT.below hb1
  go_wp2_with fail
  refine (set_any 322 true 1000 true _ hT1).mono ?_
  rintro e w2 ⟨rfl, hb2⟩
  simp only [E1.out]
  have hT2 := hT1.below hb2
  go_wp2_with fail
  refine (set_any 4418 true 1003 true _ hT2).mono ?_
  rintro e w3 ⟨rfl, hb3⟩
  simp only [E2.out]
  have b3 := bt (bt hb1 hb2 hb1.size) hb3 (by have := hb1.size; have := hb2.size; omega)
  have hT3 := (hT2.below hb3).alloc (.cells #[.int .i64 16706] 24)
  clear hb1 hb2 hb3 hT1 hT2
  go_wp2_with fail
  refine (mouse_any 16706 _ hT3).mono ?_
  rintro e w4 ⟨rfl, hb4⟩
  simp only [E3.out, E4.out]
  have q4 := new_cell hb4 0 _ rfl
  have hT4 := hT3.below hb4
  have b4 := bt (b3.alloc b3.size (.cells #[.int .i64 16706] 24)) hb4 (by have := b3.size; simp; omega)
  clear hb4 hT3 b3
  go_wp2_with fail
  refine (has_any 16706 true 1003 _ hT4).mono ?_
  rintro e w5 ⟨rfl, hb5⟩
  simp only [E5.out]
  have q5 := past hb5 q4
  have hT5 := hT4.below hb5
  have b5 := bt b4 hb5 b4.size
  clear hb5 hT4 b4
  go_wp2_with fail
  refine (has_any 16706 true 1000 _ hT5).mono ?_
  rintro e w6 ⟨rfl, hb6⟩
  simp only [E6.out]
  have q6 := past hb6 q5
  have hT6 := hT5.below hb6
  have b6 := bt b5 hb6 b5.size
  clear hb6 hT5 b5
  go_wp2_with fail
  refine (has_any 16706 true 7 _ hT6).mono ?_
  rintro e w7 ⟨rfl, hb7⟩
  simp only [E7.out]
  have q7 := past hb7 q6
  have b7 := bt b6 hb7 b6.size
  clear hb7 b6 hT6
  go_wp2_with fail
  refine (saneM_any 16706 _).mono ?_
  rintro e w8 ⟨rfl, hb8⟩
  simp only [E8.out]
  go_wp2_with fail
  go_ret
  exact ⟨rfl, bt b7 hb8 b7.size⟩
end Go.Proofs.YtcempbgbdlmjfaaDoor
