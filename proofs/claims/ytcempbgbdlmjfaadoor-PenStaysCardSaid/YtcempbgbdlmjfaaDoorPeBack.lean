/-
  pen: the walk of PenBack.
-/
import Derived.Test.YtcempbgbdlmjfaaDoorPeM
namespace Go.Proofs.YtcempbgbdlmjfaaDoor
open Go.RowKit

theorem Calls.after_pen {P : Program} {f : FuncId} {args : Array Value} {W : World} {u : After W} {p p' : Pn} (hp : p = p') (h : Calls P f args u.get (PenRet u.get p)) :
    Calls P f args u.get fun e w'' => e = .returned (.agg #[.int .i64 p'.fg, .int .i64 p'.bg, .int .i64 p'.fl]) ∧ ∃ u' : After W, w'' = u'.get := by
  subst hp
  exact Calls.after_of h
theorem TabP.far {w : World} (h : TabP w) {a : Addr} (ha : 3 < a.block) (u : Value) : TabP (w.setCell a u) := by
  obtain ⟨⟨t1, f1, h1⟩, ⟨t2, f2, h2⟩, ⟨t3, f3, h3⟩⟩ := h
  exact ⟨⟨t1, f1, bk_far h1 (by omega) u⟩, ⟨t2, f2, bk_far h2 (by omega) u⟩, ⟨t3, f3, bk_far h3 (by omega) u⟩⟩
theorem TabP.lt {w : World} (h : TabP w) : 3 < w.heap.size := by
  obtain ⟨t, f, h⟩ := h.un
  exact bk_lt h
theorem pens2 (w : World) (p q : Pn) : PenAt ((w.alloc (.cells #[.int .i64 p.fg, .int .i64 p.bg, .int .i64 p.fl] 40)).alloc (.cells #[.int .i64 q.fg, .int .i64 q.bg, .int .i64 q.fl] 40)) w.heap.size p ∧
    PenAt ((w.alloc (.cells #[.int .i64 p.fg, .int .i64 p.bg, .int .i64 p.fl] 40)).alloc (.cells #[.int .i64 q.fg, .int .i64 q.bg, .int .i64 q.fl] 40)) (w.heap.size + 1) q := two_new w _ _
set_option maxRecDepth 100000 in
set_option maxHeartbeats 1600000 in
theorem penback_walk (p q : Pn) (w : World) (hT : TabP w) : Calls Tryd.prog 6 #[.agg #[.int .i64 p.fg, .int .i64 p.bg, .int .i64 p.fl], .agg #[.int .i64 q.fg, .int .i64 q.bg, .int .i64 q.fl]] w fun e w' => e = .returned (.bool true) ∧ Below w.heap.size w w' := by
  obtain ⟨h1, h2⟩ := pens2 w p q
  have hlt := hT.lt
  have HT := Lib.hid ((hT.alloc (.cells #[.int .i64 p.fg, .int .i64 p.bg, .int .i64 p.fl] 40)).alloc (.cells #[.int .i64 q.fg, .int .i64 q.bg, .int .i64 q.fl] 40))
  have HB0 : Hid (Below w.heap.size w ((w.alloc (.cells #[.int .i64 p.fg, .int .i64 p.bg, .int .i64 p.fl] 40)).alloc (.cells #[.int .i64 q.fg, .int .i64 q.bg, .int .i64 q.fl] 40))) := Lib.hid (((Below.refl _ _).alloc (Nat.le_refl _) _).alloc (by simp) _)
  have HP := Lib.hid h1; have HQ := Lib.hid h2
  clear hT h1 h2
  obtain ⟨sp, hsp⟩ : ∃ s, sanePn p = s := ⟨_, rfl⟩
  obtain ⟨sq, hsq⟩ : ∃ s, sanePn q = s := ⟨_, rfl⟩
  obtain ⟨pf, pb, pl⟩ := p
  obtain ⟨qf, qb, ql⟩ := q
  simp only at HT HB0 HP HQ ⊢
  have HSP := Lib.hid hsp; have HSQ := Lib.hid hsq
  clear hsp hsq
  cases sp with
  | false =>
    have hpr : (printF ⟨pf, pb, pl⟩).length = 0 := by unfold printF; rw [if_pos HSP.out]; rfl
    have HPR := Lib.hid hpr
    clear hpr
    go_enter Tryd.func6, Tryd.ntmps6
    go_wp2_with fail
    refine (awake7_any _ HT.out).mono ?_
    rintro e w1 ⟨rfl, hb1⟩
    have hp1 := HP.out.past hb1
    obtain ⟨c0, c1, c2, _⟩ := hp1.cells
    simp only at c0 c1 c2
    have HB1 := Lib.hid (HB0.out.trans (hb1.mono HB0.out.size)); have HT1 := Lib.hid (HT.out.below hb1)
    have HP1 := Lib.hid hp1
    clear hp1 hb1
    go_wp2_with fail
    refine (sane7_any ⟨pf, pb, pl⟩ _).mono ?_
    rintro e w2 ⟨rfl, hb2⟩
    simp only [HSP.out]
    have hp2 := HP1.out.past hb2
    obtain ⟨d0, d1, d2, _⟩ := hp2.cells
    simp only at d0 d1 d2
    have HB2 := Lib.hid (HB1.out.trans (hb2.mono HB1.out.size)); have HT2 := Lib.hid (HT1.out.below hb2)
    have HP2 := Lib.hid hp2
    clear hp2 hb2
    go_wp2_with fail
    refine (sane7_any ⟨pf, pb, pl⟩ _).mono ?_
    rintro e w3 ⟨rfl, hb3⟩
    simp only [HSP.out]
    have hp3 := HP2.out.past hb3
    obtain ⟨e0, e1, e2, _⟩ := hp3.cells
    simp only at e0 e1 e2
    have HB3 := Lib.hid (HB2.out.trans (hb3.mono HB2.out.size)); have HT3 := Lib.hid (HT2.out.below hb3)
    clear hp3 hb3
    go_wp2_with fail
    refine (print_any ⟨pf, pb, pl⟩ _ HT3.out).mono ?_
    rintro e w4 ⟨A4, c4, rfl, _, hb4⟩
    simp only [HPR.out]
    have HB4 := Lib.hid (HB3.out.trans (hb4.mono HB3.out.size))
    clear hb4
    go_wp2_with fail
    go_ret
    exact ⟨rfl, HB4.out⟩
  | true =>
    cases sq with
    | false =>
      go_enter Tryd.func6, Tryd.ntmps6
      go_wp2_with fail
      refine (awake7_any _ HT.out).mono ?_
      rintro e w1 ⟨rfl, hb1⟩
      have hp1 := HP.out.past hb1
      obtain ⟨c0, c1, c2, _⟩ := hp1.cells
      simp only at c0 c1 c2
      have hq1 := HQ.out.past hb1
      have HB1 := Lib.hid (HB0.out.trans (hb1.mono HB0.out.size))
      have HP1 := Lib.hid hp1; have HQ1 := Lib.hid hq1
      clear hp1 hb1 hq1
      go_wp2_with fail
      refine (sane7_any ⟨pf, pb, pl⟩ _).mono ?_
      rintro e w2 ⟨rfl, hb2⟩
      simp only [HSP.out]
      have hp2 := HP1.out.past hb2
      have hq2 := HQ1.out.past hb2
      obtain ⟨d0, d1, d2, _⟩ := hp2.cells
      obtain ⟨x0, x1, x2, _⟩ := hq2.cells
      simp only at d0 d1 d2 x0 x1 x2
      have HB2 := Lib.hid (HB1.out.trans (hb2.mono HB1.out.size))
      have HP2 := Lib.hid hp2
      clear hp2 hb2 hq2
      go_wp2_with fail
      refine (sane7_any ⟨qf, qb, ql⟩ _).mono ?_
      rintro e w3 ⟨rfl, hb3⟩
      simp only [HSQ.out]
      have hp3 := HP2.out.past hb3
      obtain ⟨e0, e1, e2, _⟩ := hp3.cells
      simp only at e0 e1 e2
      have HB3 := Lib.hid (HB2.out.trans (hb3.mono HB2.out.size))
      clear hp3 hb3
      go_wp2_with fail
      refine (sane7_any ⟨pf, pb, pl⟩ _).mono ?_
      rintro e w4 ⟨rfl, hb4⟩
      simp only [HSP.out]
      have HB4 := Lib.hid (HB3.out.trans (hb4.mono HB3.out.size))
      clear hb4
      go_wp2_with fail
      go_ret
      exact ⟨rfl, HB4.out⟩
    | true =>
      have hfl := ((sane_iff _).1 HSP.out).2.2
      obtain ⟨fl0, fl1⟩ := hfl
      simp only at fl0 fl1
      have PA := Lib.hid (print_ap ⟨pf, pb, pl⟩ ⟨qf, qb, ql⟩ HSP.out HSQ.out)
      have PZ := Lib.hid (print_ap ⟨pf, pb, pl⟩ ⟨0, 0, 0⟩ HSP.out (by decide))
      have pl1 := print_len ⟨pf, pb, pl⟩ HSP.out
      have plm := print_len2 ⟨pf, pb, pl⟩
      obtain ⟨L, hL⟩ : ∃ L, printF ⟨pf, pb, pl⟩ = L := ⟨_, rfl⟩
      rw [hL] at PA PZ pl1 plm
      have HL := Lib.hid hL
      clear hL
      go_enter Tryd.func6, Tryd.ntmps6
      go_wp2_with fail
      refine (awake7_any _ HT.out).mono ?_
      rintro e w1 ⟨rfl, hb1⟩
      have hp1 := HP.out.past hb1
      obtain ⟨c0, c1, c2, _⟩ := hp1.cells
      simp only at c0 c1 c2
      have hq1 := HQ.out.past hb1
      have HB1 := Lib.hid (HB0.out.trans (hb1.mono HB0.out.size)); have HT1 := Lib.hid (HT.out.below hb1)
      have HP1 := Lib.hid hp1; have HQ1 := Lib.hid hq1
      clear hp1 hb1 hq1
      go_wp2_with fail
      refine (sane7_any ⟨pf, pb, pl⟩ _).mono ?_
      rintro e w2 ⟨rfl, hb2⟩
      simp only [HSP.out]
      have hp2 := HP1.out.past hb2
      have hq2 := HQ1.out.past hb2
      obtain ⟨x0, x1, x2, _⟩ := hq2.cells
      simp only at x0 x1 x2
      have HB2 := Lib.hid (HB1.out.trans (hb2.mono HB1.out.size)); have HT2 := Lib.hid (HT1.out.below hb2)
      have HP2 := Lib.hid hp2; have HQ2 := Lib.hid hq2
      clear hp2 hb2 hq2
      go_wp2_with fail
      refine (sane7_any ⟨qf, qb, ql⟩ _).mono ?_
      rintro e w3 ⟨rfl, hb3⟩
      simp only [HSQ.out]
      have hp3 := HP2.out.past hb3
      have hq3 := HQ2.out.past hb3
      obtain ⟨e0, e1, e2, _⟩ := hp3.cells
      simp only at e0 e1 e2
      have HB3 := Lib.hid (HB2.out.trans (hb3.mono HB2.out.size)); have HT3 := Lib.hid (HT2.out.below hb3)
      have HP3 := Lib.hid hp3; have HQ3 := Lib.hid hq3
      clear hp3 hb3 hq3
      go_wp2_with fail
      refine (print_any ⟨pf, pb, pl⟩ _ HT3.out).mono ?_
      rintro e w4 ⟨A, c, rfl, hr, hb4⟩
      rw [HL.out] at hr
      simp only [HL.out]
      have hp4 := HP3.out.past hb4
      have hq4 := HQ3.out.past hb4
      obtain ⟨y0, y1, y2, y3, y4, y5⟩ := hp4.cells
      simp only at y0 y1 y2
      have HB4 := Lib.hid (HB3.out.trans (hb4.mono HB3.out.size)); have HT4 := Lib.hid (HT3.out.below hb4)
      have HR := Lib.hid hr
      have HP4 := Lib.hid hp4; have HQ4 := Lib.hid hq4
      have hsz4 : w.heap.size + 1 < w4.heap.size := by
        have h := bk_lt hq4
        omega
      clear hp4 hb4 hq4 hr
      by_cases hbo : bits .and .i64 pl 264 = 264
      · have d1 : (bits .and .i64 pl 264 == 264) = true := beq_iff_eq.2 hbo
        have hfb : flagB pl = pl - 8 := by unfold flagB; rw [if_pos hbo]
        have HFB := Lib.hid hfb
        have h8 : 8 ≤ pl := fl_eight pl fl0 fl1 hbo
        clear hbo hfb
        go_wp2_with fail
        have HPX : Hid (PenAt (w4.setCell ⟨w.heap.size, 2, none⟩ (.int .i64 (pl - 8))) w.heap.size ⟨pf, pb, pl - 8⟩) := Lib.hid (bk_set HP4.out 2 _)
        have HQX : Hid (PenAt (w4.setCell ⟨w.heap.size, 2, none⟩ (.int .i64 (pl - 8))) (w.heap.size + 1) ⟨qf, qb, ql⟩) := Lib.hid (HQ4.out.far _ (by simp) _)
        have HTX : Hid (TabP (w4.setCell ⟨w.heap.size, 2, none⟩ (.int .i64 (pl - 8)))) := Lib.hid (HT4.out.far (by simp; omega) _)
        have HRX : Hid (RdLL (w4.setCell ⟨w.heap.size, 2, none⟩ (.int .i64 (pl - 8))) w3.heap.size (w4.setCell ⟨w.heap.size, 2, none⟩ (.int .i64 (pl - 8))).heap.size (.slice A L.length c) L) := Lib.hid (by simpa using HR.out.far (p := ⟨w.heap.size, 2, none⟩) (show w.heap.size < w3.heap.size by have h := bk_lt HQ3.out; omega) (.int .i64 (pl - 8)))
        have HBX : Hid (Below w.heap.size w (w4.setCell ⟨w.heap.size, 2, none⟩ (.int .i64 (pl - 8)))) := Lib.hid (HB4.out.setCell (by simp) _)
        clear y0 y1 y2 y3 y4 y5
        generalize w4.setCell ⟨w.heap.size, 2, none⟩ (.int .i64 (pl - 8)) = W at *
        obtain ⟨p0, p1, p2, _⟩ := HPX.out.cells
        obtain ⟨q0, q1, q2, _⟩ := HQX.out.cells
        simp only at p0 p1 p2 q0 q1 q2
        have r0 := fun u : After W => u.cell p0
        have r1 := fun u : After W => u.cell p1
        have r2 := fun u : After W => u.cell p2
        have s0 := fun u : After W => u.cell q0
        have s1 := fun u : After W => u.cell q1
        have s2 := fun u : After W => u.cell q2
        have RR : Hid (∀ u : After W, RdLL u.get w3.heap.size u.get.heap.size (.slice A L.length c) L) := Lib.hid (fun u => HRX.out.next u.below)
        have RT : Hid (∀ u : After W, TabP u.get) := Lib.hid (fun u => HTX.out.below u.below)
        have hml : L.length ≤ maxLen := by unfold maxLen; omega
        have d5 : (1 : Int) ≤ (L.length : Int) := by omega
        have HML := Lib.hid hml
        clear p0 p1 p2 q0 q1 q2 hml
        refine wp_region_after (by kernel_rfl) (by kernel_rfl) ?_
        repeat (go_big_quiet_step (first
          | (go_at_call_of 32 (Value.agg #[Value.int IntKind.i64 qf, Value.int IntKind.i64 qb, Value.int IntKind.i64 ql]); exact Calls.after_pen (p' := ⟨pf, pb, pl - 8⟩) (PA.out.trans (by rw [HFB.out])) (apply_any ⟨qf, qb, ql⟩ L A _ c rfl _ (RR.out _) (RT.out _) HML.out))
          | (go_at_call_of 32 (Value.agg #[Value.int IntKind.i64 0, Value.int IntKind.i64 0, Value.int IntKind.i64 0]); exact Calls.after_pen (p' := ⟨pf, pb, pl - 8⟩) (PZ.out.trans (by rw [HFB.out])) (apply_any ⟨0, 0, 0⟩ L A _ c rfl _ (RR.out _) (RT.out _) HML.out))))
        refine wpQuiet_nil ?_
        rintro _ ⟨u, rfl⟩
        clear r0 r1 r2 s0 s1 s2
        go_wp2_with fail
        go_ret
        exact ⟨rfl, HBX.out.trans (u.below.mono HBX.out.size)⟩
      · have d1 : (bits .and .i64 pl 264 == 264) = false := beq_eq_false_iff_ne.2 hbo
        have hfb : flagB pl = pl := by unfold flagB; rw [if_neg hbo]
        have HFB := Lib.hid hfb
        clear hbo hfb
        go_wp2_with fail
        have HPX := HP4; have HQX := HQ4; have HTX := HT4; have HRX := HR; have HBX := HB4
        obtain ⟨p0, p1, p2, _⟩ := HPX.out.cells
        obtain ⟨q0, q1, q2, _⟩ := HQX.out.cells
        simp only at p0 p1 p2 q0 q1 q2
        have r0 := fun u : After w4 => u.cell p0
        have r1 := fun u : After w4 => u.cell p1
        have r2 := fun u : After w4 => u.cell p2
        have s0 := fun u : After w4 => u.cell q0
        have s1 := fun u : After w4 => u.cell q1
        have s2 := fun u : After w4 => u.cell q2
        have RR : Hid (∀ u : After w4, RdLL u.get w3.heap.size u.get.heap.size (.slice A L.length c) L) := Lib.hid (fun u => HRX.out.next u.below)
        have RT : Hid (∀ u : After w4, TabP u.get) := Lib.hid (fun u => HTX.out.below u.below)
        have hml : L.length ≤ maxLen := by unfold maxLen; omega
        have d5 : (1 : Int) ≤ (L.length : Int) := by omega
        have HML := Lib.hid hml
        clear p0 p1 p2 q0 q1 q2 hml
        refine wp_region_after (by kernel_rfl) (by kernel_rfl) ?_
        repeat (go_big_quiet_step (first
          | (go_at_call_of 32 (Value.agg #[Value.int IntKind.i64 qf, Value.int IntKind.i64 qb, Value.int IntKind.i64 ql]); exact Calls.after_pen (p' := ⟨pf, pb, pl⟩) (PA.out.trans (by rw [HFB.out])) (apply_any ⟨qf, qb, ql⟩ L A _ c rfl _ (RR.out _) (RT.out _) HML.out))
          | (go_at_call_of 32 (Value.agg #[Value.int IntKind.i64 0, Value.int IntKind.i64 0, Value.int IntKind.i64 0]); exact Calls.after_pen (p' := ⟨pf, pb, pl⟩) (PZ.out.trans (by rw [HFB.out])) (apply_any ⟨0, 0, 0⟩ L A _ c rfl _ (RR.out _) (RT.out _) HML.out))))
        refine wpQuiet_nil ?_
        rintro _ ⟨u, rfl⟩
        clear r0 r1 r2 s0 s1 s2
        go_wp2_with fail
        go_ret
        exact ⟨rfl, HBX.out.trans (u.below.mono HBX.out.size)⟩
end Go.Proofs.YtcempbgbdlmjfaaDoor
