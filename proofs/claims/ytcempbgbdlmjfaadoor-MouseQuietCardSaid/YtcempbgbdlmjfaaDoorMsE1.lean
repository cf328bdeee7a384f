/-
  lapwinglaw22.MouseQuiet: the walk: for any event and any numbers it answers true.
-/
import Derived.Test.YtcempbgbdlmjfaaDoorMsD
import Derived.Test.YtcempbgbdlmjfaaDoorBase6
import Derived.Deep.DeepCutAuto
import Derived.Deep.RegionWith
namespace Go.Proofs.YtcempbgbdlmjfaaDoor
open Go.RowKit

set_option maxRecDepth 100000 in
set_option maxHeartbeats 6400000 in
theorem mq_1 (k b m x y n h v : Int) (w : World) (hM : TabM w) (hT : TabI w) (hx : Wf x) (hy : Wf y) (hh : Wf h) (hv : Wf v) (hm : Wf m) (q : Nat) (hq : bits .and .i64 n 65535 = (q : Int)) (hq4 : (q : Int) % 4 = 1) : Calls Tryd.prog 13 #[.agg #[.int .i64 k, .int .i64 b, .int .i64 m, .int .i64 x, .int .i64 y], .int .i64 n, .int .i64 h, .int .i64 v] w fun e w' => e = .returned (.bool true) ∧ Below w.heap.size w w' := by
  have n1 : EvL (w.alloc (.cells #[.int .i64 k, .int .i64 b, .int .i64 m, .int .i64 x, .int .i64 y] 71)) w.heap.size k b m x y := heap_alloc_new w _
  have b1 : Below w.heap.size w (w.alloc (.cells #[.int .i64 k, .int .i64 b, .int .i64 m, .int .i64 x, .int .i64 y] 71)) := (Below.refl _ _).alloc (Nat.le_refl _) _
  have m1 := hM.below b1
  have t1 := hT.below b1
  have e1 : setF 322 true 1000 true = 4418 := by decide +kernel
  have e2 : setF 4418 true 1006 true = 69954 := by decide +kernel
  have e3 : setF 69954 true 1003 true = 82242 := by decide +kernel
  have k1 : codF 69954 = 1006 := by decide +kernel
  have k2 : codF 82242 = 1006 := by decide +kernel
  have E1 := Lib.hid e1; have E2 := Lib.hid e2; have E3 := Lib.hid e3; have K1 := Lib.hid k1; have K2 := Lib.hid k2
  have HX := Lib.hid hx; have HY := Lib.hid hy; have HH := Lib.hid hh; have HV := Lib.hid hv; have HMW := Lib.hid hm
  have N1 := Lib.hid n1; have B1 := Lib.hid b1; have M1 := Lib.hid m1; have T1 := Lib.hid t1
  obtain ⟨tl, htl⟩ : ∃ tl, tellF 69954 k b m = tl := ⟨_, rfl⟩
  have TL := Lib.hid htl
  clear hM hT n1 b1 m1 t1 e1 e2 e3 k1 k2 hx hy hh hv hm htl
  go_enter Tryd.func13, Tryd.ntmps13
  go_wp2_with fail
  refine (awake22_any _ M1.out T1.out).mono ?_
  rintro e w1 ⟨rfl, hb⟩
  have N2 := Lib.hid (N1.out.past hb); have B2 := Lib.hid (B1.out.trans (hb.mono B1.out.size)); have M2 := Lib.hid (M1.out.below hb); have T2 := Lib.hid (T1.out.below hb)
  clear hb
  go_wp2_with fail
  have W4b : Below w1.heap.size w1 (w1.alloc (.cells #[.int .i64 9, .int .i64 1000, .int .i64 1002, .int .i64 1003] 3)) := (Below.refl _ _).alloc (Nat.le_refl _) _
  have y4 : (w1.alloc (.cells #[.int .i64 9, .int .i64 1000, .int .i64 1002, .int .i64 1003] 3)).cell? ⟨w1.heap.size, 1, none⟩ = some (.int .i64 1000) := bk_cell (heap_alloc_new w1 _) 1 _ rfl
  have N4 := Lib.hid (N2.out.past W4b); have B4 := Lib.hid (B2.out.trans (W4b.mono B2.out.size)); have M4 := Lib.hid (M2.out.below W4b); have T4 := Lib.hid (T2.out.below W4b)
  clear W4b
  have z4 : w1.heap.size < (w1.alloc (.cells #[.int .i64 9, .int .i64 1000, .int .i64 1002, .int .i64 1003] 3)).heap.size := by simp
  generalize (w1.alloc (.cells #[.int .i64 9, .int .i64 1000, .int .i64 1002, .int .i64 1003] 3)) = W4 at y4 N4 B4 M4 T4 z4 ⊢
  have Z4 := Lib.hid z4
  have Y4 := Lib.hid y4
  clear N1 N2 B1 B2 M1 M2 T1 T2
  go_upto_region 4 with (fail)
  simp only [hq4]
  go_cut [12] (fun s wx => MdAt W4 wx s 69954)
  case first =>
    go_region_with (first
      | (go_at_call 26; refine (new_any _).mono ?_; rintro e wa ⟨rfl, hba⟩; have bb : Below W4.heap.size W4 wa := al_call (by (repeat first | exact Below.refl _ _ | assumption | apply al_drew | apply al_alloc)) hba; have y := past bb Y4.out; have hz := Nat.lt_of_lt_of_le Z4.out bb.size; have hsz := bb.size; first | (have hk := bk_past hk hba (Nat.le_refl _); have kf := bk_free hk 0; have kc := bk_cell hk 0 _ rfl) | (have hk : wa.heap[W4.heap.size]? = some (.cells #[.int .i64 0] 24 (0, 0)) := bk_past (heap_alloc_new W4.drew _) hba (Nat.le_refl _); have kf := bk_free hk 0; have kc := bk_cell hk 0 _ rfl) | (have hk := bk_past (heap_alloc_new _ _) hba (Nat.le_refl _); have kf := bk_free hk 0; have kc := bk_cell hk 0 _ rfl) | skip)
      | (go_at_call_of 23 (Value.agg #[.int .i64 322]); refine (set_any 322 true 1000 true _ (M4.out.below (by (repeat first | exact Below.refl _ _ | assumption | apply al_drew | apply al_alloc)))).mono ?_; rintro e wa ⟨rfl, hba⟩; simp only [E1.out]; have bb : Below W4.heap.size W4 wa := al_call (by (repeat first | exact Below.refl _ _ | assumption | apply al_drew | apply al_alloc)) hba; have y := past bb Y4.out; have hz := Nat.lt_of_lt_of_le Z4.out bb.size; have hsz := bb.size; first | (have hk := bk_past hk hba (Nat.le_refl _); have kf := bk_free hk 0; have kc := bk_cell hk 0 _ rfl) | (have hk : wa.heap[W4.heap.size]? = some (.cells #[.int .i64 0] 24 (0, 0)) := bk_past (heap_alloc_new W4.drew _) hba (Nat.le_refl _); have kf := bk_free hk 0; have kc := bk_cell hk 0 _ rfl) | (have hk := bk_past (heap_alloc_new _ _) hba (Nat.le_refl _); have kf := bk_free hk 0; have kc := bk_cell hk 0 _ rfl) | skip)
      | (go_at_call_of 23 (Value.agg #[.int .i64 4418]); refine (set_any 4418 true 1006 true _ (M4.out.below (by (repeat first | exact Below.refl _ _ | assumption | apply al_drew | apply al_alloc)))).mono ?_; rintro e wa ⟨rfl, hba⟩; simp only [E2.out]; have bb : Below W4.heap.size W4 wa := al_call (by (repeat first | exact Below.refl _ _ | assumption | apply al_drew | apply al_alloc)) hba; have y := past bb Y4.out; have hz := Nat.lt_of_lt_of_le Z4.out bb.size; have hsz := bb.size; first | (have hk := bk_past hk hba (Nat.le_refl _); have kf := bk_free hk 0; have kc := bk_cell hk 0 _ rfl) | (have hk : wa.heap[W4.heap.size]? = some (.cells #[.int .i64 0] 24 (0, 0)) := bk_past (heap_alloc_new W4.drew _) hba (Nat.le_refl _); have kf := bk_free hk 0; have kc := bk_cell hk 0 _ rfl) | (have hk := bk_past (heap_alloc_new _ _) hba (Nat.le_refl _); have kf := bk_free hk 0; have kc := bk_cell hk 0 _ rfl) | skip))
    all_goals
      go_wp2_with fail
      go_meet
      first
        | exact mdat_1 (by (repeat first | exact Below.refl _ _ | assumption | apply al_drew | apply al_alloc))
        | exact mdat_2 (by (repeat first | exact Below.refl _ _ | assumption | apply al_drew | apply al_alloc)) hk (by first | exact Nat.le_refl _ | omega)
  case rest =>
  obtain ⟨g, rfl, hkg, hge, hbc⟩ := hcut
  have N5 := Lib.hid (N4.out.past hbc); have B5 := Lib.hid (B4.out.trans (hbc.mono B4.out.size)); have M5 := Lib.hid (M4.out.below hbc); have T5 := Lib.hid (T4.out.below hbc); have G5 := Lib.hid hkg
  have mc := bk_cell hkg 0 _ rfl
  obtain ⟨e0, e1, e2, e3, e4⟩ := N5.out.cells
  have zg := bk_lt hkg
  have ze := bk_lt N5.out
  clear hkg hge hbc y4 z4 Y4 Z4 N4 B4 M4 T4
  go_wp2_with fail
  go_cut [13] (fun s wx => SlN wc wx s tl)
  case first =>
    have r0 := fun u : After wc => u.cell e0
    have r1 := fun u : After wc => u.cell e1
    have r2 := fun u : After wc => u.cell e2
    have r3 := fun u : After wc => u.cell e3
    have r4 := fun u : After wc => u.cell e4
    have rm := fun u : After wc => u.cell mc
    clear mc e0 e1 e2 e3 e4
    refine wp_region_after_tail 5 (by kernel_rfl) (by kernel_rfl) ?_
    simp only [List.take_succ_cons, List.take_zero, List.drop_succ_cons, List.drop_zero]
    repeat (go_big_quiet_step (first | (go_at_call 49; exact Calls.after_of (ours_any k b m x y _))))
    refine wpQuiet_nil ?_
    rintro _ ⟨u, rfl⟩
    go_wp2_with fail
    refine (rep_tells 69954 k b m x y h v _ (M5.out.below u.below) (T5.out.below u.below) HX.out HY.out HH.out HV.out HMW.out K1.out).mono ?_
    rintro e wa ⟨A, N, cp, rfl, hN, hba⟩
    have bb2 := al_call u.below hba
    go_wp2_with fail
    go_meet
    case rel => exact ⟨A, N, cp, rfl, by rw [← TL.out]; exact hN, bb2⟩
  case rest =>
  obtain ⟨A6, N6, cp6, rfl, hN6, hb6⟩ := hcut
  have N6' := Lib.hid (N5.out.past hb6); have B6 := Lib.hid (B5.out.trans (hb6.mono B5.out.size)); have M6 := Lib.hid (M5.out.below hb6); have T6 := Lib.hid (T5.out.below hb6); have G6 := Lib.hid (bk_past G5.out hb6 (Nat.le_refl _))
  clear mc e0 e1 e2 e3 e4 zg ze hb6 N5 B5 M5 T5 G5
  have mc := bk_cell G6.out 0 _ rfl
  obtain ⟨e0, e1, e2, e3, e4⟩ := N6'.out.cells
  have zg := bk_lt G6.out
  have ze := bk_lt N6'.out
  have HN6 := Lib.hid hN6
  clear hN6
  obtain ⟨W6, hW6⟩ : ∃ W6, W6 = wc := ⟨_, rfl⟩
  subst hW6
  go_wp2_with fail
  go_cut [14] (fun s wx => s = .slice none 0 0 ∧ Below W6.heap.size W6 wx)
  case first =>
    have r0 := fun u : After W6 => u.cell e0
    have r1 := fun u : After W6 => u.cell e1
    have r2 := fun u : After W6 => u.cell e2
    have r3 := fun u : After W6 => u.cell e3
    have r4 := fun u : After W6 => u.cell e4
    clear e0 e1 e2 e3 e4
    refine wp_region_after (by kernel_rfl) (by kernel_rfl) ?_
    repeat (go_big_quiet_step (first
      | (go_at_call 26; exact Calls.after_of (new_any _))
      | (go_at_call 49; exact Calls.after_of (ours_any k b m x y _))
      | (go_at_call 48; exact Calls.after_of (rep_new k b m x y h v _ (M6.out.below (After.below _))))))
    refine wpQuiet_nil ?_
    rintro _ ⟨u, rfl⟩
    go_wp2_with fail
    go_meet
    case rel => exact ⟨rfl, u.below⟩
  case rest =>
  obtain ⟨rfl, hb7⟩ := hcut
  have N7 := Lib.hid (N6'.out.past hb7); have B7 := Lib.hid (B6.out.trans (hb7.mono B6.out.size)); have M7 := Lib.hid (M6.out.below hb7); have T7 := Lib.hid (T6.out.below hb7); have G7 := Lib.hid (bk_past G6.out hb7 (Nat.le_refl _))
  clear mc e0 e1 e2 e3 e4 zg ze hb7 N6' B6 M6 T6 G6
  have mc := bk_cell G7.out 0 _ rfl
  obtain ⟨e0, e1, e2, e3, e4⟩ := N7.out.cells
  have zg := bk_lt G7.out
  have ze := bk_lt N7.out
  obtain ⟨W7, hW7⟩ : ∃ W7, W7 = wc := ⟨_, rfl⟩
  subst hW7
  have N8 := N7; have B8 := B7
  clear N7 B7
  have TLH := TL
  have hgf := good_fine k b m
  cases tl with
  | false =>
    have n0 : N6 = 0 := by have := HN6.out; simp at this; omega
    subst n0
    have gn : True := trivial
    have GNN := Lib.hid gn
    clear gn hgf TLH
    go_upto_region 9 with (fail)
    go_cut [15] (fun s wx => s = .bool (goodF k b m) ∧ W7 = wx)
    case first =>
      by_cases h5 : 0 ≤ k
      · have d5 : decide (0 ≤ k) = true := decide_eq_true (by omega)
        by_cases h4 : k ≤ 2
        · have d4 : decide (k ≤ 2) = true := decide_eq_true (by omega)
          by_cases h3 : 0 ≤ b
          · have d3 : decide (0 ≤ b) = true := decide_eq_true (by omega)
            by_cases h2 : b ≤ 2
            · have d2 : decide (b ≤ 2) = true := decide_eq_true (by omega)
              by_cases h1 : m = 0
              · have d1 : (m == 0) = true := by simp; omega
                have H1 := Lib.hid h1
                clear h1
                go_wp2_with fail; go_meet; case rel => exact ⟨congrArg Value.bool (by unfold goodF; first | exact (decide_eq_true (by omega)).symm | exact (decide_eq_false (by omega)).symm | exact (decide_eq_true (by have := H1.out; omega)).symm | exact (decide_eq_false (by have := H1.out; omega)).symm), rfl⟩
              · have d1 : (m == 0) = false := by simp; omega
                go_wp2_with fail; go_meet; case rel => exact ⟨congrArg Value.bool (by unfold goodF; first | exact (decide_eq_true (by omega)).symm | exact (decide_eq_false (by omega)).symm | exact (decide_eq_true (by have := H1.out; omega)).symm | exact (decide_eq_false (by have := H1.out; omega)).symm), rfl⟩
            · have d2 : decide (b ≤ 2) = false := decide_eq_false (by omega)
              go_wp2_with fail; go_meet; case rel => exact ⟨congrArg Value.bool (by unfold goodF; first | exact (decide_eq_true (by omega)).symm | exact (decide_eq_false (by omega)).symm | exact (decide_eq_true (by have := H1.out; omega)).symm | exact (decide_eq_false (by have := H1.out; omega)).symm), rfl⟩
          · have d3 : decide (0 ≤ b) = false := decide_eq_false (by omega)
            go_wp2_with fail; go_meet; case rel => exact ⟨congrArg Value.bool (by unfold goodF; first | exact (decide_eq_true (by omega)).symm | exact (decide_eq_false (by omega)).symm | exact (decide_eq_true (by have := H1.out; omega)).symm | exact (decide_eq_false (by have := H1.out; omega)).symm), rfl⟩
        · have d4 : decide (k ≤ 2) = false := decide_eq_false (by omega)
          go_wp2_with fail; go_meet; case rel => exact ⟨congrArg Value.bool (by unfold goodF; first | exact (decide_eq_true (by omega)).symm | exact (decide_eq_false (by omega)).symm | exact (decide_eq_true (by have := H1.out; omega)).symm | exact (decide_eq_false (by have := H1.out; omega)).symm), rfl⟩
      · have d5 : decide (0 ≤ k) = false := decide_eq_false (by omega)
        go_wp2_with fail; go_meet; case rel => exact ⟨congrArg Value.bool (by unfold goodF; first | exact (decide_eq_true (by omega)).symm | exact (decide_eq_false (by omega)).symm | exact (decide_eq_true (by have := H1.out; omega)).symm | exact (decide_eq_false (by have := H1.out; omega)).symm), rfl⟩
    case rest =>
    obtain ⟨rfl, rfl⟩ := hcut
    generalize goodF k b m = gd
    cases gd
    all_goals
      go_wp2_with fail
      refine wp_region_after (by kernel_rfl) (by kernel_rfl) ?_
      repeat (go_big_quiet_step (fail))
      refine wpQuiet_nil ?_
      rintro _ ⟨u, rfl⟩
      go_wp2_with fail
      go_ret
      exact ⟨rfl, B8.out.trans (u.below.mono B8.out.size)⟩
  | true =>
    have hpos : 0 < N6 := HN6.out.2 rfl
    have dN : decide (0 < (N6 : Int)) = true := by simp; omega
    have dz : ((N6 : Int) == 0) = false := by rw [beq_eq_false_iff_ne]; omega
    have htell : fineF k b m = true ∧ toldF (mouF 69954) k b = true := by have := TLH.out; unfold tellF at this; simpa using this
    have hmf : mouF 69954 = 1000 := by decide +kernel
    rw [hmf] at htell
    have t82 : tellF 82242 k b m = true := by
      have hm3 : mouF 82242 = 1003 := by decide +kernel
      unfold tellF
      rw [htell.1, hm3]
      rfl
    have T82 := Lib.hid t82
    clear t82 hmf hgf
    have dk : (k == 2) = false := by have := htell.2; unfold toldF at this; rw [beq_eq_false_iff_ne]; simpa using this
    clear htell
    go_upto_region 9 with (fail)
    go_cut [15] (fun s wx => s = .bool (goodF k b m) ∧ W7 = wx)
    case first =>
      by_cases h5 : 0 ≤ k
      · have d5 : decide (0 ≤ k) = true := decide_eq_true (by omega)
        by_cases h4 : k ≤ 2
        · have d4 : decide (k ≤ 2) = true := decide_eq_true (by omega)
          by_cases h3 : 0 ≤ b
          · have d3 : decide (0 ≤ b) = true := decide_eq_true (by omega)
            by_cases h2 : b ≤ 2
            · have d2 : decide (b ≤ 2) = true := decide_eq_true (by omega)
              by_cases h1 : m = 0
              · have d1 : (m == 0) = true := by simp; omega
                have H1 := Lib.hid h1
                clear h1
                go_wp2_with fail; go_meet; case rel => exact ⟨congrArg Value.bool (by unfold goodF; first | exact (decide_eq_true (by omega)).symm | exact (decide_eq_false (by omega)).symm | exact (decide_eq_true (by have := H1.out; omega)).symm | exact (decide_eq_false (by have := H1.out; omega)).symm), rfl⟩
              · have d1 : (m == 0) = false := by simp; omega
                go_wp2_with fail; go_meet; case rel => exact ⟨congrArg Value.bool (by unfold goodF; first | exact (decide_eq_true (by omega)).symm | exact (decide_eq_false (by omega)).symm | exact (decide_eq_true (by have := H1.out; omega)).symm | exact (decide_eq_false (by have := H1.out; omega)).symm), rfl⟩
            · have d2 : decide (b ≤ 2) = false := decide_eq_false (by omega)
              go_wp2_with fail; go_meet; case rel => exact ⟨congrArg Value.bool (by unfold goodF; first | exact (decide_eq_true (by omega)).symm | exact (decide_eq_false (by omega)).symm | exact (decide_eq_true (by have := H1.out; omega)).symm | exact (decide_eq_false (by have := H1.out; omega)).symm), rfl⟩
          · have d3 : decide (0 ≤ b) = false := decide_eq_false (by omega)
            go_wp2_with fail; go_meet; case rel => exact ⟨congrArg Value.bool (by unfold goodF; first | exact (decide_eq_true (by omega)).symm | exact (decide_eq_false (by omega)).symm | exact (decide_eq_true (by have := H1.out; omega)).symm | exact (decide_eq_false (by have := H1.out; omega)).symm), rfl⟩
        · have d4 : decide (k ≤ 2) = false := decide_eq_false (by omega)
          go_wp2_with fail; go_meet; case rel => exact ⟨congrArg Value.bool (by unfold goodF; first | exact (decide_eq_true (by omega)).symm | exact (decide_eq_false (by omega)).symm | exact (decide_eq_true (by have := H1.out; omega)).symm | exact (decide_eq_false (by have := H1.out; omega)).symm), rfl⟩
      · have d5 : decide (0 ≤ k) = false := decide_eq_false (by omega)
        go_wp2_with fail; go_meet; case rel => exact ⟨congrArg Value.bool (by unfold goodF; first | exact (decide_eq_true (by omega)).symm | exact (decide_eq_false (by omega)).symm | exact (decide_eq_true (by have := H1.out; omega)).symm | exact (decide_eq_false (by have := H1.out; omega)).symm), rfl⟩
    case rest =>
    obtain ⟨rfl, rfl⟩ := hcut
    generalize goodF k b m = gd
    cases gd
    all_goals
      go_wp2_with fail
      have hset : ∀ u : After W7, Calls Tryd.prog 23 #[.agg #[.int .i64 69954], .bool true, .int .i64 1003, .bool true] u.get fun e w' => e = .returned (.agg #[.int .i64 82242]) ∧ Below u.get.heap.size u.get w' := fun u => by
        refine (set_any 69954 true 1003 true _ (M7.out.below u.below)).mono ?_
        rintro e w' ⟨rfl, hb⟩
        simp only [E3.out]
        exact ⟨trivial, hb⟩
      have HST := Lib.hid hset
      have r0 := fun u : After W7 => u.cell e0
      have r1 := fun u : After W7 => u.cell e1
      have r2 := fun u : After W7 => u.cell e2
      have r3 := fun u : After W7 => u.cell e3
      have r4 := fun u : After W7 => u.cell e4
      have rm := fun u : After W7 => u.cell mc
      clear hset mc e0 e1 e2 e3 e4
      refine wp_region_after_tail 29 (by kernel_rfl) (by kernel_rfl) ?_
      simp only [List.take_succ_cons, List.take_zero, List.drop_succ_cons, List.drop_zero]
      repeat (go_big_quiet_step (first
        | (go_at_call 23; exact Calls.after_of (HST.out _))
        | (go_at_call 49; exact Calls.after_of (ours_any k b m x y _))))
      refine wpQuiet_nil ?_
      rintro _ ⟨u, rfl⟩
      go_wp2_with fail
      refine (rep_tells 82242 k b m x y h v _ (M7.out.below u.below) (T7.out.below u.below) HX.out HY.out HH.out HV.out HMW.out K2.out).mono ?_
      rintro e wa ⟨A, N, cp, rfl, hN, hba⟩
      have hN0 := hN.2 T82.out
      have dN2 : decide (0 < (N : Int)) = true := decide_eq_true (by omega)
      have bb2 := al_call u.below hba
      clear hN
      go_wp2_with fail
      go_ret
      exact ⟨rfl, B8.out.trans (bb2.mono B8.out.size)⟩
end Go.Proofs.YtcempbgbdlmjfaaDoor
