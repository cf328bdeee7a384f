/-
  lapwinglaw13.ModesApart: for any number, two modes and a switch it answers true: what is switched touches no other mode. No condition but the table of modes.
-/
import Derived.Test.YtcempbgbdlmjfaaDoorMoNone
namespace Go.Proofs.YtcempbgbdlmjfaaDoor
open Go.RowKit

def grpB (p : Bool) (n : Int) (on p' : Bool) (k : Int) : Bool := p && (p' && (on && ((isMouseN n && isMouseN k) || (isCodeN n && isCodeN k))))

set_option maxRecDepth 100000 in
set_option maxHeartbeats 3200000 in
theorem apart_walk (b : Int) (p : Bool) (n : Int) (on p' : Bool) (k : Int) (w : World) (hT : TabM w) :
    Calls Tryd.prog 3 #[.int .i64 b, .bool p, .int .i64 n, .bool on, .bool p', .int .i64 k] w fun e w' => e = .returned (.bool true) ∧ Below w.heap.size w w' := by
  cases hs : saneM b with
  | false =>
    have HS := Lib.hid hs; clear hs
    go_enter Tryd.func3, Tryd.ntmps3
    go_wp2_with fail
    refine (awake13_any _ hT).mono ?_
    rintro e w1 ⟨rfl, hb1⟩
    go_wp2_with fail
    refine (saneM_any b _).mono ?_
    rintro e w2 ⟨rfl, hb2⟩
    simp only [HS.out]
    go_wp2_with fail
    go_ret
    exact ⟨rfl, bt (hb1.alloc hb1.size (.cells #[.int .i64 b] 24)) hb2 (by have := hb1.size; simp; omega)⟩
  | true =>
    obtain ⟨z, hz⟩ : ∃ z, setF b p n on = z := ⟨_, rfl⟩
    obtain ⟨i, hi⟩ : ∃ i, plcF p n = i := ⟨_, rfl⟩
    have hbd := plc_bd p n
    rw [hi] at hbd
    have HS := Lib.hid hs; have HZ := Lib.hid hz; have HI := Lib.hid hi
    clear hs hz hi
    go_enter Tryd.func3, Tryd.ntmps3
    go_wp2_with fail
    refine (awake13_any _ hT).mono ?_
    rintro e w1 ⟨rfl, hb1⟩
    have hT1 := (hT.below hb1).alloc (.cells #[.int .i64 b] 24)
    go_wp2_with fail
    refine (saneM_any b _).mono ?_
    rintro e w2 ⟨rfl, hb2⟩
    simp only [HS.out]
    have b2 := bt (hb1.alloc hb1.size (.cells #[.int .i64 b] 24)) hb2 (by have := hb1.size; simp; omega)
    have q2 := new_cell hb2 0 _ rfl
    have hT2 := hT1.below hb2
    clear hb1 hb2 hT1
    go_wp2_with fail
    refine (set_any b p n on _ hT2).mono ?_
    rintro e w3 ⟨rfl, hb3⟩
    simp only [HZ.out]
    have b3 := (bt b2 hb3 b2.size).alloc (bt b2 hb3 b2.size).size (.cells #[.int .i64 z] 24)
    have q3 := (World.cell?_alloc_lt w3 (.cells #[.int .i64 z] 24) _ (World.block_lt_of_cell? w3 _ (past hb3 q2))).trans (past hb3 q2)
    have hT3 := (hT2.below hb3).alloc (.cells #[.int .i64 z] 24)
    clear hb3 b2 q2 hT2
    go_wp2_with fail
    refine (place_any p n _ hT3).mono ?_
    rintro e w4 ⟨rfl, hb4⟩
    simp only [HI.out]
    have b4 := bt b3 hb4 b3.size
    have q4 := past hb4 q3
    have z4 := new_cell hb4 0 _ rfl
    have hT4 := hT3.below hb4
    clear hb4 b3 q3 hT3
    by_cases hneg : i < 0
    · have hzb : z = b := by rw [← HZ.out]; exact apart_same on HS.out (by rw [HI.out]; exact hneg)
      subst hzb
      go_wp2_with fail
      go_ret
      exact ⟨rfl, b4⟩
    · skip
      go_upto_region 8 with (fail)
      go_cut [16] (fun s wx => s = .bool (isMouseN n) ∧ w4 = wx)
      case first =>
        as_aux_lemma =>
          cases h9 : (n == 9) <;> cases h1000 : (n == 1000) <;> cases h1002 : (n == 1002) <;> cases h1003 : (n == 1003)
          all_goals
            go_wp2_with fail
            go_meet
            exact ⟨congrArg Value.bool (by unfold isMouseN; rw [h9, h1000, h1002, h1003]; rfl), rfl⟩
      case rest =>
      obtain ⟨rfl, rfl⟩ := hcut
      go_upto_region 9 with (fail)
      go_cut [17] (fun s wx => s = .bool (isMouseN k) ∧ w4 = wx)
      case first =>
        as_aux_lemma =>
          cases h9 : (k == 9) <;> cases h1000 : (k == 1000) <;> cases h1002 : (k == 1002) <;> cases h1003 : (k == 1003)
          all_goals
            go_wp2_with fail
            go_meet
            exact ⟨congrArg Value.bool (by unfold isMouseN; rw [h9, h1000, h1002, h1003]; rfl), rfl⟩
      case rest =>
      obtain ⟨rfl, rfl⟩ := hcut
      go_upto_region 10 with (fail)
      go_cut [18] (fun s wx => s = .bool (isCodeN n) ∧ w4 = wx)
      case first =>
        as_aux_lemma =>
          cases h1006 : (n == 1006) <;> cases h1015 : (n == 1015)
          all_goals
            go_wp2_with fail
            go_meet
            exact ⟨congrArg Value.bool (by unfold isCodeN; rw [h1006, h1015]; rfl), rfl⟩
      case rest =>
      obtain ⟨rfl, rfl⟩ := hcut
      go_upto_region 11 with (fail)
      go_cut [19] (fun s wx => s = .bool (isCodeN k) ∧ w4 = wx)
      case first =>
        as_aux_lemma =>
          cases h1006 : (k == 1006) <;> cases h1015 : (k == 1015)
          all_goals
            go_wp2_with fail
            go_meet
            exact ⟨congrArg Value.bool (by unfold isCodeN; rw [h1006, h1015]; rfl), rfl⟩
      case rest =>
      obtain ⟨rfl, rfl⟩ := hcut
      go_upto_region 12 with (fail)
      go_cut [20] (fun s wx => s = .bool (grpB p n on p' k) ∧ w4 = wx)
      case first =>
        as_aux_lemma =>
          have hg : grpB p n on p' k = (p && (p' && (on && ((isMouseN n && isMouseN k) || (isCodeN n && isCodeN k))))) := rfl
          generalize isMouseN n = a1 at *
          generalize isMouseN k = a2 at *
          generalize isCodeN n = a3 at *
          generalize isCodeN k = a4 at *
          have HGR := Lib.hid hg
          clear hg
          clear HZ HI HS
          cases p
          · (go_wp2_with fail; go_meet; exact ⟨congrArg Value.bool (by rw [HGR.out]; simp), rfl⟩)
          cases p'
          · (go_wp2_with fail; go_meet; exact ⟨congrArg Value.bool (by rw [HGR.out]; simp), rfl⟩)
          cases on
          · (go_wp2_with fail; go_meet; exact ⟨congrArg Value.bool (by rw [HGR.out]; simp), rfl⟩)
          cases a1
          · cases a3
            · (go_wp2_with fail; go_meet; exact ⟨congrArg Value.bool (by rw [HGR.out]; simp), rfl⟩)
            · cases a4 <;> (go_wp2_with fail; go_meet; exact ⟨congrArg Value.bool (by rw [HGR.out]; simp), rfl⟩)
          · cases a2
            · cases a3
              · (go_wp2_with fail; go_meet; exact ⟨congrArg Value.bool (by rw [HGR.out]; simp), rfl⟩)
              · cases a4 <;> (go_wp2_with fail; go_meet; exact ⟨congrArg Value.bool (by rw [HGR.out]; simp), rfl⟩)
            · (go_wp2_with fail; go_meet; exact ⟨congrArg Value.bool (by rw [HGR.out]; simp), rfl⟩)
      case rest =>
      obtain ⟨rfl, rfl⟩ := hcut
      have hsane : saneM z = true := by rw [← HZ.out]; exact set_sane on HS.out
      have hi0 : 0 ≤ plcF p n := by rw [HI.out]; omega
      have hhas : hasF z p n = on := by rw [← HZ.out]; exact apart_has on HS.out hi0
      have hagain : setF z p n on = z := by rw [← HZ.out]; exact apart_again on HS.out hi0
      have hoth0 : (p' ≠ p ∨ k ≠ n) → grpB p n on p' k = false → hasF z p' k = hasF b p' k := fun h1 h2 => by rw [← HZ.out]; exact apart_other on HS.out hi0 h1 h2
      have HSZ := Lib.hid hsane; have HH := Lib.hid hhas; have HA := Lib.hid hagain
      clear hsane hhas hagain hi0
      obtain ⟨gr, hgr⟩ : ∃ gr, grpB p n on p' k = gr := ⟨_, rfl⟩
      rw [hgr] at hoth0
      rw [hgr]
      obtain ⟨hx, hhx⟩ : ∃ hx, hasF b p' k = hx := ⟨_, rfl⟩
      rw [hhx] at hoth0
      have HO := Lib.hid hoth0; have HX := Lib.hid hhx
      clear hoth0 hgr hhx
      go_upto_region 13 with (fail)
      go_cut [125] (fun s wx => s = .bool false ∧ ∃ u : After w4, wx = u.get)
      case first =>
        as_aux_lemma =>
          clear HZ HI HS HSZ HH HA
          have y0 := fun u : After w4 => u.cell q4
          have y1 := fun u : After w4 => u.cell z4
          have y2 := fun u : After w4 => hT4.after u
          have Y2 := Lib.hid y2; clear y2
          have d3 : (hx != hx) = false := by simp
          obtain ⟨kn, hkn⟩ : ∃ kn, (k != n) = kn := ⟨_, rfl⟩
          have hk1 : kn = true → k ≠ n := fun h => bne_iff_ne.1 (hkn.trans h)
          have HK1 := Lib.hid hk1; clear hk1
          cases p <;> cases p' <;> cases kn <;> cases gr
          all_goals
            first
            | (have HSM := Lib.hid (HO.out (by first | exact .inl (by decide) | exact .inr (HK1.out rfl)) rfl)
               refine wp_region_after (by kernel_rfl) (by kernel_rfl) ?_
               repeat (go_big_quiet_step (first
                  | (go_at_call_of 25 (Value.agg #[Value.int IntKind.i64 z]); exact Calls.after_bool HSM.out (has_any z _ k _ (Y2.out _)))
                  | (go_at_call_of 25 (Value.agg #[Value.int IntKind.i64 b]); exact Calls.after_bool HX.out (has_any b _ k _ (Y2.out _)))))
               refine wpQuiet_nil ?_
               rintro _ ⟨u, rfl⟩
               go_wp2_with fail
               go_meet
               exact ⟨rfl, u, rfl⟩)
            | (clear HO
               refine wp_region_after (by kernel_rfl) (by kernel_rfl) ?_
               repeat (go_big_quiet_step (fail))
               refine wpQuiet_nil ?_
               rintro _ ⟨u, rfl⟩
               go_wp2_with fail
               go_meet
               exact ⟨rfl, u, rfl⟩)
      case rest =>
      obtain ⟨rfl, u5, rfl⟩ := hcut
      have q5 := u5.cell q4
      have z5 := u5.cell z4
      have hT5 := hT4.after u5
      have b5 := bt b4 u5.below b4.size
      clear HZ HI HS HO HX q4 z4 hT4 b4
      generalize u5.get = w5 at *
      clear u5
      have y1 := fun u : After w5 => u.cell z5
      have y2 := fun u : After w5 => hT5.after u
      have Y2 := Lib.hid y2; clear y2
      have d4 : (on == on) = true := by simp
      have hfd := fun w' => field_modes w' z
      have hset : ∀ W : World, TabM W → Calls Tryd.prog 23 #[.agg #[.int .i64 z], .bool p, .int .i64 n, .bool on] W fun e w' => e = .returned (.agg #[.int .i64 z]) ∧ Below W.heap.size W w' := fun W hW => by
        have h := set_any z p n on W hW
        rw [HA.out] at h
        exact h
      have HSET := Lib.hid hset; clear hset
      go_upto_region 15 with (fail)
      refine wp_region_after (by kernel_rfl) (by kernel_rfl) ?_
      repeat (go_big_quiet_step (first
        | (go_at_call 25; exact Calls.after_bool HH.out (has_any z p n _ (Y2.out _)))
        | (go_at_call 23; exact Calls.after_of (HSET.out _ (Y2.out _)))
        | (go_at_call 22; exact Calls.after_bool HSZ.out (saneM_any z _))))
      refine wpQuiet_nil ?_
      rintro _ ⟨u, rfl⟩
      clear y1
      go_wp2_with fail
      go_ret
      exact ⟨rfl, bt b5 u.below b5.size⟩
end Go.Proofs.YtcempbgbdlmjfaaDoor
