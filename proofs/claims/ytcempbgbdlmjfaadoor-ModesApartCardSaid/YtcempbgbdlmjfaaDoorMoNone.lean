/-
  lapwinglaw13.ModesNone: for any number, two modes it answers true: what is no mode is reported as none, and switches nothing. No condition but the table of modes.
-/
import Derived.Test.YtcempbgbdlmjfaaDoorMoF
namespace Go.Proofs.YtcempbgbdlmjfaaDoor
open Go.RowKit

set_option maxRecDepth 100000 in
set_option maxHeartbeats 1600000 in
theorem report_any (b : Int) (p : Bool) (n : Int) (w : World) (hT : TabM w) :
    Calls Tryd.prog 28 #[.agg #[.int .i64 b], .bool p, .int .i64 n] w fun e w' => e = .returned (.int .i64 (repF b p n)) ∧ Below w.heap.size w w' := by
  have hT1 := hT.alloc (.cells #[.int .i64 b] 24)
  cases hs : saneM b with
  | false =>
    have e1 : repF b p n = 0 := by simp [repF, hs]
    rw [e1]
    have HS := Lib.hid hs; clear hs e1
    go_enter Tryd.func28, Tryd.ntmps28
    go_wp2_with (go_at_call 22; refine (saneM_any b _).mono ?_; rintro e w1 ⟨rfl, hb1⟩; simp only [HS.out])
    go_ret
    exact ⟨rfl, bt ((Below.refl _ _).alloc (Nat.le_refl _) _) hb1 (by simp)⟩
  | true =>
    rcases plcF_spec p n with hp | ⟨i, hp, _⟩
    · have e1 : repF b p n = 0 := by simp [repF, hp]
      rw [e1]
      have HS := Lib.hid hs; have HP := Lib.hid hp; clear hs hp e1
      go_enter Tryd.func28, Tryd.ntmps28
      go_wp2_with (first
        | (go_at_call 22; refine (saneM_any b _).mono ?_; rintro e w1 ⟨rfl, hb1⟩; simp only [HS.out]; have hT2 := hT1.below hb1)
        | (go_at_call 24; refine (place_any p n _ hT2).mono ?_; rintro e w2 ⟨rfl, hb2⟩; simp only [HP.out]))
      go_ret
      exact ⟨rfl, bt (bt ((Below.refl _ _).alloc (Nat.le_refl _) _) hb1 (by simp)) hb2 (by have := hb1.size; simp at this; omega)⟩
    · obtain ⟨k, hk⟩ := i
      simp only at hp
      cases hh : hasF b p n with
      | true =>
        have e1 : repF b p n = 1 := by
          unfold repF
          rw [if_neg (by simp [hs, hp]), hh]; rfl
        rw [e1]
        have HS := Lib.hid hs; have HP := Lib.hid hp; have HH := Lib.hid hh; clear hs hp hh e1
        have i0 : (0 : Int) ≤ (k : Int) := by omega
        go_enter Tryd.func28, Tryd.ntmps28
        go_wp2_with (first
          | (go_at_call 22; refine (saneM_any b _).mono ?_; rintro e w1 ⟨rfl, hb1⟩; simp only [HS.out]; have hT2 := hT1.below hb1; have nb := new_cell hb1 0 _ rfl)
          | (go_at_call 24; refine (place_any p n _ hT2).mono ?_; rintro e w2 ⟨rfl, hb2⟩; simp only [HP.out]; have hT3 := hT2.below hb2; have nb2 := past hb2 nb)
          | (go_at_call 25; refine (has_any b p n _ hT3).mono ?_; rintro e w3 ⟨rfl, hb3⟩; simp only [HH.out]))
        go_ret
        exact ⟨rfl, bt (bt (bt ((Below.refl _ _).alloc (Nat.le_refl _) _) hb1 (by simp)) hb2 (by have := hb1.size; simp at this; omega)) hb3 (by have := hb1.size; have := hb2.size; simp at *; omega)⟩
      | false =>
        have e1 : repF b p n = 2 := by
          unfold repF
          rw [if_neg (by simp [hs, hp]), hh]; rfl
        rw [e1]
        have HS := Lib.hid hs; have HP := Lib.hid hp; have HH := Lib.hid hh; clear hs hp hh e1
        have i0 : (0 : Int) ≤ (k : Int) := by omega
        go_enter Tryd.func28, Tryd.ntmps28
        go_wp2_with (first
          | (go_at_call 22; refine (saneM_any b _).mono ?_; rintro e w1 ⟨rfl, hb1⟩; simp only [HS.out]; have hT2 := hT1.below hb1; have nb := new_cell hb1 0 _ rfl)
          | (go_at_call 24; refine (place_any p n _ hT2).mono ?_; rintro e w2 ⟨rfl, hb2⟩; simp only [HP.out]; have hT3 := hT2.below hb2; have nb2 := past hb2 nb)
          | (go_at_call 25; refine (has_any b p n _ hT3).mono ?_; rintro e w3 ⟨rfl, hb3⟩; simp only [HH.out]))
        go_ret
        exact ⟨rfl, bt (bt (bt ((Below.refl _ _).alloc (Nat.le_refl _) _) hb1 (by simp)) hb2 (by have := hb1.size; simp at this; omega)) hb3 (by have := hb1.size; have := hb2.size; simp at *; omega)⟩

theorem field_modes (w : World) (x : Int) : (Instr.field 24 (.agg #[.int .i64 x]) 0).run Tryd.prog w = .ok (.int .i64 x) w := by kernel_rfl

set_option maxRecDepth 100000 in
set_option maxHeartbeats 3200000 in
theorem none_walk (b : Int) (p : Bool) (n : Int) (p' : Bool) (k : Int) (w : World) (hT : TabM w) :
    Calls Tryd.prog 5 #[.int .i64 b, .bool p, .int .i64 n, .bool p', .int .i64 k] w fun e w' => e = .returned (.bool true) ∧ Below w.heap.size w w' := by
  cases hs : saneM b with
  | false =>
    have HS := Lib.hid hs; clear hs
    go_enter Tryd.func5, Tryd.ntmps5
    go_wp2_with fail
    refine (awake13_any _ hT).mono ?_
    rintro e w1 ⟨rfl, hb1⟩
    go_wp2_with fail
    refine (saneM_any b _).mono ?_
    rintro e w2 ⟨rfl, hb2⟩
    simp only [HS.out]
    go_wp2_with fail
    go_ret
    exact ⟨rfl, bt (hb1.alloc hb1.size (.cells #[.int .i64 b] 24)) hb2 (by have := hb1.size; simp; omega)⟩
  | true =>
    obtain ⟨j, hj⟩ : ∃ j, plcF p' k = j := ⟨_, rfl⟩
    rcases plcF_spec p n with hi | ⟨ii, hi, _⟩
    · have hr : repF b p n = 0 := by simp [repF, hi]
      have hh : hasF b p n = false := by simp [hasF, hi]
      have hset : setF b p n p' = b := by simp [setF, hs, hi]
      have HS := Lib.hid hs; have HI := Lib.hid hi; have HJ := Lib.hid hj; have HR := Lib.hid hr; have HH := Lib.hid hh; have HSET := Lib.hid hset
      clear hs hi hj hr hh hset
      go_enter Tryd.func5, Tryd.ntmps5
      go_wp2_with fail
      refine (awake13_any _ hT).mono ?_
      rintro e w1 ⟨rfl, hb1⟩
      have hT1 := (hT.below hb1).alloc (.cells #[.int .i64 b] 24)
      go_wp2_with fail
      refine (saneM_any b _).mono ?_
      rintro e w2 ⟨rfl, hb2⟩
      simp only [HS.out]
      have b2 := bt (hb1.alloc hb1.size (.cells #[.int .i64 b] 24)) hb2 (by have := hb1.size; simp; omega)
      have q2 := new_cell hb2 0 _ rfl
      have hT2 := hT1.below hb2
      clear hb1 hb2 hT1
      go_wp2_with fail
      refine (place_any p n _ hT2).mono ?_
      rintro e w3 ⟨rfl, hb3⟩
      simp only [HI.out]
      have b3 := bt b2 hb3 b2.size
      have q3 := past hb3 q2
      have hT3 := hT2.below hb3
      clear hb3 b2 q2 hT2
      go_wp2_with fail
      refine (place_any p' k _ hT3).mono ?_
      rintro e w4 ⟨rfl, hb4⟩
      simp only [HJ.out]
      have b4 := bt b3 hb4 b3.size
      have q4 := past hb4 q3
      have hT4 := hT3.below hb4
      clear hb4 b3 q3 hT3
      go_wp2_with fail
      refine (report_any b p n _ hT4).mono ?_
      rintro e w5 ⟨rfl, hb5⟩
      simp only [HR.out]
      have b5 := bt b4 hb5 b4.size
      have q5 := past hb5 q4
      have hT5 := hT4.below hb5
      clear hb5 b4 q4 hT4
      go_wp2_with fail
      refine (has_any b p n _ hT5).mono ?_
      rintro e w6 ⟨rfl, hb6⟩
      simp only [HH.out]
      have b6 := bt b5 hb6 b5.size
      have q6 := past hb6 q5
      have hT6 := hT5.below hb6
      clear hb6 b5 q5 hT5
      go_wp2_with fail
      refine (set_any b p n p' _ hT6).mono ?_
      rintro e w7 ⟨rfl, hb7⟩
      simp only [HSET.out]
      have hfd := field_modes w7 b
      go_wp2_with fail
      go_ret
      exact ⟨rfl, bt b6 hb7 b6.size⟩
    · obtain ⟨i, hi24⟩ := ii
      simp only at hi
      have i0 : (0 : Int) ≤ (i : Int) := by omega
      have i1 : (i : Int) < 24 := by omega
      have i2 : (-1 : Int) ≤ (i : Int) := by omega
      cases hh : hasF b p n with
      | true =>
        have hr : repF b p n = 1 := by unfold repF; rw [if_neg (by simp [hs, hi]), hh]; rfl
        by_cases hij : (i : Int) = j
        · obtain ⟨rfl, rfl⟩ := plc_inj (p := p) (n := n) (p' := p') (k := k) (by omega) (by omega)
          obtain rfl : j = (i : Int) := hij.symm
          have HS := Lib.hid hs; have HI := Lib.hid hi; have HJ := Lib.hid hj; have HR := Lib.hid hr; have HH := Lib.hid hh
          clear hs hi hj hr hh
          go_enter Tryd.func5, Tryd.ntmps5
          go_wp2_with fail
          refine (awake13_any _ hT).mono ?_
          rintro e w1 ⟨rfl, hb1⟩
          have hT1 := (hT.below hb1).alloc (.cells #[.int .i64 b] 24)
          go_wp2_with fail
          refine (saneM_any b _).mono ?_
          rintro e w2 ⟨rfl, hb2⟩
          simp only [HS.out]
          have b2 := bt (hb1.alloc hb1.size (.cells #[.int .i64 b] 24)) hb2 (by have := hb1.size; simp; omega)
          have q2 := new_cell hb2 0 _ rfl
          have hT2 := hT1.below hb2
          clear hb1 hb2 hT1
          go_wp2_with fail
          refine (place_any p n _ hT2).mono ?_
          rintro e w3 ⟨rfl, hb3⟩
          simp only [HI.out]
          have b3 := bt b2 hb3 b2.size
          have q3 := past hb3 q2
          have hT3 := hT2.below hb3
          clear hb3 b2 q2 hT2
          go_wp2_with fail
          refine (place_any p n _ hT3).mono ?_
          rintro e w4 ⟨rfl, hb4⟩
          simp only [HJ.out]
          have b4 := bt b3 hb4 b3.size
          have q4 := past hb4 q3
          have hT4 := hT3.below hb4
          clear hb4 b3 q3 hT3
          go_wp2_with fail
          refine (report_any b p n _ hT4).mono ?_
          rintro e w5 ⟨rfl, hb5⟩
          simp only [HR.out]
          have b5 := bt b4 hb5 b4.size
          have q5 := past hb5 q4
          have hT5 := hT4.below hb5
          clear hb5 b4 q4 hT4
          go_wp2_with fail
          refine (has_any b p n _ hT5).mono ?_
          rintro e w6 ⟨rfl, hb6⟩
          simp only [HH.out]
          have b6 := bt b5 hb6 b5.size
          have q6 := past hb6 q5
          have hT6 := hT5.below hb6
          clear hb6 b5 q5 hT5
          go_wp2_with fail
          go_ret
          exact ⟨rfl, b6⟩
        · have e1 : ((i : Int) == j) = false := by simpa using hij
          have HS := Lib.hid hs; have HI := Lib.hid hi; have HJ := Lib.hid hj; have HR := Lib.hid hr; have HH := Lib.hid hh
          clear hs hi hj hr hh
          go_enter Tryd.func5, Tryd.ntmps5
          go_wp2_with fail
          refine (awake13_any _ hT).mono ?_
          rintro e w1 ⟨rfl, hb1⟩
          have hT1 := (hT.below hb1).alloc (.cells #[.int .i64 b] 24)
          go_wp2_with fail
          refine (saneM_any b _).mono ?_
          rintro e w2 ⟨rfl, hb2⟩
          simp only [HS.out]
          have b2 := bt (hb1.alloc hb1.size (.cells #[.int .i64 b] 24)) hb2 (by have := hb1.size; simp; omega)
          have q2 := new_cell hb2 0 _ rfl
          have hT2 := hT1.below hb2
          clear hb1 hb2 hT1
          go_wp2_with fail
          refine (place_any p n _ hT2).mono ?_
          rintro e w3 ⟨rfl, hb3⟩
          simp only [HI.out]
          have b3 := bt b2 hb3 b2.size
          have q3 := past hb3 q2
          have hT3 := hT2.below hb3
          clear hb3 b2 q2 hT2
          go_wp2_with fail
          refine (place_any p' k _ hT3).mono ?_
          rintro e w4 ⟨rfl, hb4⟩
          simp only [HJ.out]
          have b4 := bt b3 hb4 b3.size
          have q4 := past hb4 q3
          have hT4 := hT3.below hb4
          clear hb4 b3 q3 hT3
          go_wp2_with fail
          refine (report_any b p n _ hT4).mono ?_
          rintro e w5 ⟨rfl, hb5⟩
          simp only [HR.out]
          have b5 := bt b4 hb5 b4.size
          have q5 := past hb5 q4
          have hT5 := hT4.below hb5
          clear hb5 b4 q4 hT4
          go_wp2_with fail
          refine (has_any b p n _ hT5).mono ?_
          rintro e w6 ⟨rfl, hb6⟩
          simp only [HH.out]
          have b6 := bt b5 hb6 b5.size
          have q6 := past hb6 q5
          have hT6 := hT5.below hb6
          clear hb6 b5 q5 hT5
          go_wp2_with fail
          go_ret
          exact ⟨rfl, b6⟩
      | false =>
        have hr : repF b p n = 2 := by unfold repF; rw [if_neg (by simp [hs, hi]), hh]; rfl
        by_cases hij : (i : Int) = j
        · obtain ⟨rfl, rfl⟩ := plc_inj (p := p) (n := n) (p' := p') (k := k) (by omega) (by omega)
          obtain rfl : j = (i : Int) := hij.symm
          have HS := Lib.hid hs; have HI := Lib.hid hi; have HJ := Lib.hid hj; have HR := Lib.hid hr; have HH := Lib.hid hh
          clear hs hi hj hr hh
          go_enter Tryd.func5, Tryd.ntmps5
          go_wp2_with fail
          refine (awake13_any _ hT).mono ?_
          rintro e w1 ⟨rfl, hb1⟩
          have hT1 := (hT.below hb1).alloc (.cells #[.int .i64 b] 24)
          go_wp2_with fail
          refine (saneM_any b _).mono ?_
          rintro e w2 ⟨rfl, hb2⟩
          simp only [HS.out]
          have b2 := bt (hb1.alloc hb1.size (.cells #[.int .i64 b] 24)) hb2 (by have := hb1.size; simp; omega)
          have q2 := new_cell hb2 0 _ rfl
          have hT2 := hT1.below hb2
          clear hb1 hb2 hT1
          go_wp2_with fail
          refine (place_any p n _ hT2).mono ?_
          rintro e w3 ⟨rfl, hb3⟩
          simp only [HI.out]
          have b3 := bt b2 hb3 b2.size
          have q3 := past hb3 q2
          have hT3 := hT2.below hb3
          clear hb3 b2 q2 hT2
          go_wp2_with fail
          refine (place_any p n _ hT3).mono ?_
          rintro e w4 ⟨rfl, hb4⟩
          simp only [HJ.out]
          have b4 := bt b3 hb4 b3.size
          have q4 := past hb4 q3
          have hT4 := hT3.below hb4
          clear hb4 b3 q3 hT3
          go_wp2_with fail
          refine (report_any b p n _ hT4).mono ?_
          rintro e w5 ⟨rfl, hb5⟩
          simp only [HR.out]
          have b5 := bt b4 hb5 b4.size
          have q5 := past hb5 q4
          have hT5 := hT4.below hb5
          clear hb5 b4 q4 hT4
          go_wp2_with fail
          refine (has_any b p n _ hT5).mono ?_
          rintro e w6 ⟨rfl, hb6⟩
          simp only [HH.out]
          have b6 := bt b5 hb6 b5.size
          have q6 := past hb6 q5
          have hT6 := hT5.below hb6
          clear hb6 b5 q5 hT5
          go_wp2_with fail
          go_ret
          exact ⟨rfl, b6⟩
        · have e1 : ((i : Int) == j) = false := by simpa using hij
          have HS := Lib.hid hs; have HI := Lib.hid hi; have HJ := Lib.hid hj; have HR := Lib.hid hr; have HH := Lib.hid hh
          clear hs hi hj hr hh
          go_enter Tryd.func5, Tryd.ntmps5
          go_wp2_with fail
          refine (awake13_any _ hT).mono ?_
          rintro e w1 ⟨rfl, hb1⟩
          have hT1 := (hT.below hb1).alloc (.cells #[.int .i64 b] 24)
          go_wp2_with fail
          refine (saneM_any b _).mono ?_
          rintro e w2 ⟨rfl, hb2⟩
          simp only [HS.out]
          have b2 := bt (hb1.alloc hb1.size (.cells #[.int .i64 b] 24)) hb2 (by have := hb1.size; simp; omega)
          have q2 := new_cell hb2 0 _ rfl
          have hT2 := hT1.below hb2
          clear hb1 hb2 hT1
          go_wp2_with fail
          refine (place_any p n _ hT2).mono ?_
          rintro e w3 ⟨rfl, hb3⟩
          simp only [HI.out]
          have b3 := bt b2 hb3 b2.size
          have q3 := past hb3 q2
          have hT3 := hT2.below hb3
          clear hb3 b2 q2 hT2
          go_wp2_with fail
          refine (place_any p' k _ hT3).mono ?_
          rintro e w4 ⟨rfl, hb4⟩
          simp only [HJ.out]
          have b4 := bt b3 hb4 b3.size
          have q4 := past hb4 q3
          have hT4 := hT3.below hb4
          clear hb4 b3 q3 hT3
          go_wp2_with fail
          refine (report_any b p n _ hT4).mono ?_
          rintro e w5 ⟨rfl, hb5⟩
          simp only [HR.out]
          have b5 := bt b4 hb5 b4.size
          have q5 := past hb5 q4
          have hT5 := hT4.below hb5
          clear hb5 b4 q4 hT4
          go_wp2_with fail
          refine (has_any b p n _ hT5).mono ?_
          rintro e w6 ⟨rfl, hb6⟩
          simp only [HH.out]
          have b6 := bt b5 hb6 b5.size
          have q6 := past hb6 q5
          have hT6 := hT5.below hb6
          clear hb6 b5 q5 hT5
          go_wp2_with fail
          go_ret
          exact ⟨rfl, b6⟩
end Go.Proofs.YtcempbgbdlmjfaaDoor
