/-
  pen: the walk of PenColours.
-/
import Derived.Test.YtcempbgbdlmjfaaDoorPeBack
import Derived.Test.YtcempbgbdlmjfaaDoorPeColPlain
namespace Go.Proofs.YtcempbgbdlmjfaaDoor
open Go.RowKit

theorem and_8 (k : Int) : ∃ m : Nat, bits .and .i64 k 255 = (m : Int) ∧ m < 256 :=
  ⟨_, and_low k 8 (by omega) 255 (by decide), by have := Nat.mod_lt (BitVec.ofInt 64 k).toNat (show 0 < 2 ^ 8 by decide); omega⟩
theorem NewLL.rdll {w w' : World} {L : List (List Int)} {v : Value} (h : NewLL w L (.returned v) w') : RdLL w' 0 w'.heap.size v L := by
  obtain ⟨A, c, vs, e, hc, hr, hl, hi, _⟩ := h
  injection e with e
  subst e
  refine ⟨A, c, vs, rfl, hc, hr, fun _ _ _ => Nat.zero_le _, hl, fun i hi2 => ?_⟩
  obtain ⟨u, h1, g, ci, rfl, h3, h4, h5, h6⟩ := hi i hi2
  exact ⟨_, ci, h1, h3, (h6 w' rfl).more (by omega), fun _ _ _ => Nat.zero_le _⟩
theorem rd_row (w : World) (q : List Int) (t1 t2 : TypeId) : RdLL ((w.alloc (.cells (nC q).toArray t1)).alloc (.cells #[.slice (some ⟨w.heap.size, 0, none⟩) q.length q.length] t2)) 0
    ((w.alloc (.cells (nC q).toArray t1)).alloc (.cells #[.slice (some ⟨w.heap.size, 0, none⟩) q.length q.length] t2)).heap.size (.slice (some ⟨w.heap.size + 1, 0, none⟩) 1 1) [q] := by
  refine ⟨_, 1, [.slice (some ⟨w.heap.size, 0, none⟩) q.length q.length], rfl, by simp, rd_of_block (cs := [.slice (some ⟨w.heap.size, 0, none⟩) q.length q.length]) (heap_new_at (by simp)) (by simp), fun _ _ _ => Nat.zero_le _, rfl, fun i hi => ?_⟩
  obtain rfl : i = 0 := by simp at hi; omega
  exact ⟨_, q.length, rfl, Nat.le_refl _, rd_of_block (cs := nC q) (bk_alloc (heap_alloc_new w _) _) (by simp; omega), fun _ _ _ => Nat.zero_le _⟩

set_option maxRecDepth 100000 in
set_option maxHeartbeats 1600000 in
theorem pencol_walk (p : Pn) (r g b : Int) (back : Bool) (w : World) (hT : TabP w) : Calls Tryd.prog 7 #[.agg #[.int .i64 p.fg, .int .i64 p.bg, .int .i64 p.fl], .int .i64 r, .int .i64 g, .int .i64 b, .bool back] w fun e w' => e = .returned (.bool true) ∧ Below w.heap.size w w' := by
  have hlt := hT.lt
  have HP : Hid (PenAt (w.alloc (.cells #[.int .i64 p.fg, .int .i64 p.bg, .int .i64 p.fl] 40)) w.heap.size p) := Lib.hid (heap_alloc_new w _)
  have HT := Lib.hid (hT.alloc (.cells #[.int .i64 p.fg, .int .i64 p.bg, .int .i64 p.fl] 40))
  have HB0 : Hid (Below w.heap.size w (w.alloc (.cells #[.int .i64 p.fg, .int .i64 p.bg, .int .i64 p.fl] 40))) := Lib.hid ((Below.refl _ _).alloc (Nat.le_refl _) _)
  clear hT
  obtain ⟨x, hx, hx1⟩ := and_8 r
  obtain ⟨y, hy, hy1⟩ := and_8 g
  obtain ⟨z, hz, hz1⟩ := and_8 b
  obtain ⟨sp, hsp⟩ : ∃ s, sanePn p = s := ⟨_, rfl⟩
  obtain ⟨pf, pb, pl⟩ := p
  simp only at HT HB0 HP ⊢
  have HSP := Lib.hid hsp
  clear hsp
  cases sp with
  | false =>
    clear hx hy hz
    go_enter Tryd.func7, Tryd.ntmps7
    go_wp2_with fail
    refine (awake7_any _ HT.out).mono ?_
    rintro e w1 ⟨rfl, hb1⟩
    have hp1 := HP.out.past hb1
    obtain ⟨c0, c1, c2, _⟩ := hp1.cells
    simp only at c0 c1 c2
    have HB1 := Lib.hid (HB0.out.trans (hb1.mono HB0.out.size))
    clear hp1 hb1
    go_wp2_with fail
    refine (sane7_any ⟨pf, pb, pl⟩ _).mono ?_
    rintro e w2 ⟨rfl, hb2⟩
    simp only [HSP.out]
    have HB2 := Lib.hid (HB1.out.trans (hb2.mono HB1.out.size))
    clear hb2
    go_wp2_with fail
    go_ret
    exact ⟨rfl, HB2.out⟩
  | true =>
    cases back with
    | false =>
      have hx2 : (0 : Int) ≤ (x : Int) ∧ (x : Int) ≤ 255 := by omega
      have hy2 : (0 : Int) ≤ (y : Int) ∧ (y : Int) ≤ 255 := by omega
      have hz2 : (0 : Int) ≤ (z : Int) ∧ (z : Int) ≤ 255 := by omega
      have QA : Hid (applyF ⟨pf, pb, pl⟩ [[38], [2], [(x : Int)], [(y : Int)], [(z : Int)]] = ⟨rgbF x y z, pb, pl⟩) := Lib.hid ((col_a _ HSP.out 38 x y z (by simp) hx2 hy2 hz2).trans (set_38 _ _ (rgb_ne _ _ _)))
      have QC : Hid (applyF ⟨pf, pb, pl⟩ [[38, 2, (x : Int), (y : Int), (z : Int)]] = ⟨rgbF x y z, pb, pl⟩) := Lib.hid ((col_c _ HSP.out 38 x y z (by simp) hx2 hy2 hz2).trans (set_38 _ _ (rgb_ne _ _ _)))
      have QD : Hid (applyF ⟨pf, pb, pl⟩ [[38, 2, -1, (x : Int), (y : Int), (z : Int)]] = ⟨rgbF x y z, pb, pl⟩) := Lib.hid ((col_d _ HSP.out 38 x y z (by simp) hx2 hy2 hz2).trans (set_38 _ _ (rgb_ne _ _ _)))
      have QE : Hid (applyF ⟨pf, pb, pl⟩ [[38], [5], [(x : Int)]] = ⟨(x : Int) + 1, pb, pl⟩) := Lib.hid ((col_e _ HSP.out 38 x (by simp) hx2).trans (set_38 _ _ (by omega)))
      have QF : Hid (applyF ⟨pf, pb, pl⟩ [[38, 5, (x : Int)]] = ⟨(x : Int) + 1, pb, pl⟩) := Lib.hid ((col_f _ HSP.out 38 x (by simp) hx2).trans (set_38 _ _ (by omega)))
      have QP := Lib.hid (parts_rgb (x : Int) (y : Int) (z : Int) hx2 hy2 hz2)
      clear hx2 hy2 hz2
      go_enter Tryd.func7, Tryd.ntmps7
      go_wp2_with fail
      refine (awake7_any _ HT.out).mono ?_
      rintro e w1 ⟨rfl, hb1⟩
      have hp1 := HP.out.past hb1
      obtain ⟨c0, c1, c2, _⟩ := hp1.cells
      simp only at c0 c1 c2
      have HB1 := Lib.hid (HB0.out.trans (hb1.mono HB0.out.size)); have HT1 := Lib.hid (HT.out.below hb1)
      have HP1 := Lib.hid hp1
      clear hp1 hb1
      go_wp2_with fail
      refine (sane7_any ⟨pf, pb, pl⟩ _).mono ?_
      rintro e w2 ⟨rfl, hb2⟩
      simp only [HSP.out]
      have hp2 := HP1.out.past hb2
      obtain ⟨d0, d1, d2, _⟩ := hp2.cells
      simp only at d0 d1 d2
      have HB2 := Lib.hid (HB1.out.trans (hb2.mono HB1.out.size)); have HT2 := Lib.hid (HT1.out.below hb2)
      have HP2 := Lib.hid hp2
      have hsz2 := bk_lt hp2
      clear hp2 hb2 c0 c1 c2
      go_upto_region 18 with (go_at_call 33; refine (rgb_any _ _ _ _).mono ?_; rintro e w3 ⟨rfl, rfl⟩)
      clear d0 d1 d2
      have K0 : Hid (PenAt ((w2.alloc (.cells #[.int .i64 (rgbF x y z), .int .i64 (pb), .int .i64 (pl)] 40)).alloc (.cells #[.int .i64 ((x : Int) + 1), .int .i64 (pb), .int .i64 (pl)] 40)) w.heap.size ⟨pf, pb, pl⟩) := Lib.hid (bk_alloc (bk_alloc HP2.out _) _)
      have K1 : Hid (PenAt ((w2.alloc (.cells #[.int .i64 (rgbF x y z), .int .i64 (pb), .int .i64 (pl)] 40)).alloc (.cells #[.int .i64 ((x : Int) + 1), .int .i64 (pb), .int .i64 (pl)] 40)) w2.heap.size ⟨rgbF x y z, pb, pl⟩) := Lib.hid (two_new w2 _ _).1
      have K2 : Hid (PenAt ((w2.alloc (.cells #[.int .i64 (rgbF x y z), .int .i64 (pb), .int .i64 (pl)] 40)).alloc (.cells #[.int .i64 ((x : Int) + 1), .int .i64 (pb), .int .i64 (pl)] 40)) (w2.heap.size + 1) ⟨(x : Int) + 1, pb, pl⟩) := Lib.hid (two_new w2 _ _).2
      have KT : Hid (TabP ((w2.alloc (.cells #[.int .i64 (rgbF x y z), .int .i64 (pb), .int .i64 (pl)] 40)).alloc (.cells #[.int .i64 ((x : Int) + 1), .int .i64 (pb), .int .i64 (pl)] 40))) := Lib.hid ((HT2.out.alloc _).alloc _)
      have KB : Hid (Below w.heap.size w ((w2.alloc (.cells #[.int .i64 (rgbF x y z), .int .i64 (pb), .int .i64 (pl)] 40)).alloc (.cells #[.int .i64 ((x : Int) + 1), .int .i64 (pb), .int .i64 (pl)] 40))) := Lib.hid ((HB2.out.alloc HB2.out.size _).alloc (by have := HB2.out.size; simp; omega) _)
      generalize hW : (w2.alloc (.cells #[.int .i64 (rgbF x y z), .int .i64 (pb), .int .i64 (pl)] 40)).alloc (.cells #[.int .i64 ((x : Int) + 1), .int .i64 (pb), .int .i64 (pl)] 40) = W0 at *
      clear hW
      obtain ⟨a0, a1, a2, _⟩ := K0.out.cells
      simp only at a0 a1 a2
      have HR0 : Hid (RdLL ((((((W0.alloc (.cells #[.int .i64 38] 3)).alloc (.cells #[.int .i64 2] 3)).alloc (.cells #[.int .i64 (x : Int)] 3)).alloc (.cells #[.int .i64 (y : Int)] 3)).alloc (.cells #[.int .i64 (z : Int)] 3)).alloc (.cells #[.slice (some ⟨W0.heap.size, 0, none⟩) 1 1, .slice (some ⟨W0.heap.size + 1, 0, none⟩) 1 1, .slice (some ⟨W0.heap.size + 1 + 1, 0, none⟩) 1 1, .slice (some ⟨W0.heap.size + 1 + 1 + 1, 0, none⟩) 1 1, .slice (some ⟨W0.heap.size + 1 + 1 + 1 + 1, 0, none⟩) 1 1] 47)) 0 ((((((W0.alloc (.cells #[.int .i64 38] 3)).alloc (.cells #[.int .i64 2] 3)).alloc (.cells #[.int .i64 (x : Int)] 3)).alloc (.cells #[.int .i64 (y : Int)] 3)).alloc (.cells #[.int .i64 (z : Int)] 3)).alloc (.cells #[.slice (some ⟨W0.heap.size, 0, none⟩) 1 1, .slice (some ⟨W0.heap.size + 1, 0, none⟩) 1 1, .slice (some ⟨W0.heap.size + 1 + 1, 0, none⟩) 1 1, .slice (some ⟨W0.heap.size + 1 + 1 + 1, 0, none⟩) 1 1, .slice (some ⟨W0.heap.size + 1 + 1 + 1 + 1, 0, none⟩) 1 1] 47)).heap.size (.slice (some ⟨W0.heap.size + 1 + 1 + 1 + 1 + 1, 0, none⟩) 5 5) [[38], [2], [(x : Int)], [(y : Int)], [(z : Int)]]) := Lib.hid ((new5 W0 38 2 (x : Int) (y : Int) (z : Int) 3 47).rdll)
      have HTA0 : Hid (TabP ((((((W0.alloc (.cells #[.int .i64 38] 3)).alloc (.cells #[.int .i64 2] 3)).alloc (.cells #[.int .i64 (x : Int)] 3)).alloc (.cells #[.int .i64 (y : Int)] 3)).alloc (.cells #[.int .i64 (z : Int)] 3)).alloc (.cells #[.slice (some ⟨W0.heap.size, 0, none⟩) 1 1, .slice (some ⟨W0.heap.size + 1, 0, none⟩) 1 1, .slice (some ⟨W0.heap.size + 1 + 1, 0, none⟩) 1 1, .slice (some ⟨W0.heap.size + 1 + 1 + 1, 0, none⟩) 1 1, .slice (some ⟨W0.heap.size + 1 + 1 + 1 + 1, 0, none⟩) 1 1] 47))) := Lib.hid (((((((KT.out).alloc _).alloc _).alloc _).alloc _).alloc _).alloc _)
      have HBA0 : Hid (Below W0.heap.size W0 ((((((W0.alloc (.cells #[.int .i64 38] 3)).alloc (.cells #[.int .i64 2] 3)).alloc (.cells #[.int .i64 (x : Int)] 3)).alloc (.cells #[.int .i64 (y : Int)] 3)).alloc (.cells #[.int .i64 (z : Int)] 3)).alloc (.cells #[.slice (some ⟨W0.heap.size, 0, none⟩) 1 1, .slice (some ⟨W0.heap.size + 1, 0, none⟩) 1 1, .slice (some ⟨W0.heap.size + 1 + 1, 0, none⟩) 1 1, .slice (some ⟨W0.heap.size + 1 + 1 + 1, 0, none⟩) 1 1, .slice (some ⟨W0.heap.size + 1 + 1 + 1 + 1, 0, none⟩) 1 1] 47))) := Lib.hid (((((((Below.refl _ _).alloc (Nat.le_refl _) _).alloc (by simp; try omega) _).alloc (by simp; try omega) _).alloc (by simp; try omega) _).alloc (by simp; try omega) _).alloc (by simp; try omega) _)
      go_wp2_with fail
      refine (apply_any ⟨pf, pb, pl⟩ [[38], [2], [(x : Int)], [(y : Int)], [(z : Int)]] _ _ _ rfl _ HR0.out HTA0.out (show 5 ≤ maxLen by decide)).mono ?_
      rintro e v0 ⟨rfl, hb⟩
      simp only [QA.out]
      have hbw : Below W0.heap.size W0 v0 := HBA0.out.trans (hb.mono HBA0.out.size)
      have K0x : Hid (PenAt (v0.alloc (.cells #[.int .i64 (rgbF x y z), .int .i64 (pb), .int .i64 (pl)] 40)) w.heap.size ⟨pf, pb, pl⟩) := Lib.hid (bk_alloc (K0.out.past hbw) _)
      have K1x : Hid (PenAt (v0.alloc (.cells #[.int .i64 (rgbF x y z), .int .i64 (pb), .int .i64 (pl)] 40)) w2.heap.size ⟨rgbF x y z, pb, pl⟩) := Lib.hid (bk_alloc (K1.out.past hbw) _)
      have K2x : Hid (PenAt (v0.alloc (.cells #[.int .i64 (rgbF x y z), .int .i64 (pb), .int .i64 (pl)] 40)) (w2.heap.size + 1) ⟨(x : Int) + 1, pb, pl⟩) := Lib.hid (bk_alloc (K2.out.past hbw) _)
      have J0 : Hid (PenAt (v0.alloc (.cells #[.int .i64 (rgbF x y z), .int .i64 (pb), .int .i64 (pl)] 40)) v0.heap.size ⟨rgbF x y z, pb, pl⟩) := Lib.hid (heap_alloc_new v0 _)
      have KTx : Hid (TabP (v0.alloc (.cells #[.int .i64 (rgbF x y z), .int .i64 (pb), .int .i64 (pl)] 40))) := Lib.hid ((KT.out.below hbw).alloc _)
      have KBx : Hid (Below w.heap.size w (v0.alloc (.cells #[.int .i64 (rgbF x y z), .int .i64 (pb), .int .i64 (pl)] 40))) := Lib.hid ((KB.out.trans (hbw.mono KB.out.size)).alloc (by have := KB.out.size; have := hbw.size; omega) _)
      clear hb hbw a0 a1 a2 HR0 HTA0 HBA0 K0 K1 K2 KT KB
      go_upto_region 19 with (fail)
      generalize hW : v0.alloc (.cells #[.int .i64 (rgbF x y z), .int .i64 (pb), .int .i64 (pl)] 40) = W1 at *
      clear hW
      obtain ⟨a0, a1, a2, _⟩ := K0x.out.cells
      simp only at a0 a1 a2
      have HR1 : Hid (RdLL ((W1.alloc (.cells #[.int .i64 38, .int .i64 2, .int .i64 (x : Int), .int .i64 (y : Int), .int .i64 (z : Int)] 3)).alloc (.cells #[.slice (some ⟨W1.heap.size, 0, none⟩) 5 5] 47)) 0 ((W1.alloc (.cells #[.int .i64 38, .int .i64 2, .int .i64 (x : Int), .int .i64 (y : Int), .int .i64 (z : Int)] 3)).alloc (.cells #[.slice (some ⟨W1.heap.size, 0, none⟩) 5 5] 47)).heap.size (.slice (some ⟨W1.heap.size + 1, 0, none⟩) 1 1) [[38, 2, (x : Int), (y : Int), (z : Int)]]) := Lib.hid (rd_row W1 [38, 2, (x : Int), (y : Int), (z : Int)] 3 47)
      have HTA1 : Hid (TabP ((W1.alloc (.cells #[.int .i64 38, .int .i64 2, .int .i64 (x : Int), .int .i64 (y : Int), .int .i64 (z : Int)] 3)).alloc (.cells #[.slice (some ⟨W1.heap.size, 0, none⟩) 5 5] 47))) := Lib.hid (((KTx.out).alloc _).alloc _)
      have HBA1 : Hid (Below W1.heap.size W1 ((W1.alloc (.cells #[.int .i64 38, .int .i64 2, .int .i64 (x : Int), .int .i64 (y : Int), .int .i64 (z : Int)] 3)).alloc (.cells #[.slice (some ⟨W1.heap.size, 0, none⟩) 5 5] 47))) := Lib.hid (((Below.refl _ _).alloc (Nat.le_refl _) _).alloc (by simp; try omega) _)
      go_wp2_with fail
      refine (apply_any ⟨pf, pb, pl⟩ [[38, 2, (x : Int), (y : Int), (z : Int)]] _ _ _ rfl _ HR1.out HTA1.out (show 1 ≤ maxLen by decide)).mono ?_
      rintro e v1 ⟨rfl, hb⟩
      simp only [QC.out]
      have hbw : Below W1.heap.size W1 v1 := HBA1.out.trans (hb.mono HBA1.out.size)
      have K0xx : Hid (PenAt (v1.alloc (.cells #[.int .i64 (rgbF x y z), .int .i64 (pb), .int .i64 (pl)] 40)) w.heap.size ⟨pf, pb, pl⟩) := Lib.hid (bk_alloc (K0x.out.past hbw) _)
      have K1xx : Hid (PenAt (v1.alloc (.cells #[.int .i64 (rgbF x y z), .int .i64 (pb), .int .i64 (pl)] 40)) w2.heap.size ⟨rgbF x y z, pb, pl⟩) := Lib.hid (bk_alloc (K1x.out.past hbw) _)
      have K2xx : Hid (PenAt (v1.alloc (.cells #[.int .i64 (rgbF x y z), .int .i64 (pb), .int .i64 (pl)] 40)) (w2.heap.size + 1) ⟨(x : Int) + 1, pb, pl⟩) := Lib.hid (bk_alloc (K2x.out.past hbw) _)
      have J0x : Hid (PenAt (v1.alloc (.cells #[.int .i64 (rgbF x y z), .int .i64 (pb), .int .i64 (pl)] 40)) v0.heap.size ⟨rgbF x y z, pb, pl⟩) := Lib.hid (bk_alloc (J0.out.past hbw) _)
      have J1 : Hid (PenAt (v1.alloc (.cells #[.int .i64 (rgbF x y z), .int .i64 (pb), .int .i64 (pl)] 40)) v1.heap.size ⟨rgbF x y z, pb, pl⟩) := Lib.hid (heap_alloc_new v1 _)
      have KTxx : Hid (TabP (v1.alloc (.cells #[.int .i64 (rgbF x y z), .int .i64 (pb), .int .i64 (pl)] 40))) := Lib.hid ((KTx.out.below hbw).alloc _)
      have KBxx : Hid (Below w.heap.size w (v1.alloc (.cells #[.int .i64 (rgbF x y z), .int .i64 (pb), .int .i64 (pl)] 40))) := Lib.hid ((KBx.out.trans (hbw.mono KBx.out.size)).alloc (by have := KBx.out.size; have := hbw.size; omega) _)
      clear hb hbw a0 a1 a2 HR1 HTA1 HBA1 K0x K1x K2x J0 KTx KBx
      go_upto_region 20 with (fail)
      generalize hW : v1.alloc (.cells #[.int .i64 (rgbF x y z), .int .i64 (pb), .int .i64 (pl)] 40) = W2 at *
      clear hW
      obtain ⟨a0, a1, a2, _⟩ := K0xx.out.cells
      simp only at a0 a1 a2
      have HR2 : Hid (RdLL ((W2.alloc (.cells #[.int .i64 38, .int .i64 2, .int .i64 (-1), .int .i64 (x : Int), .int .i64 (y : Int), .int .i64 (z : Int)] 3)).alloc (.cells #[.slice (some ⟨W2.heap.size, 0, none⟩) 6 6] 47)) 0 ((W2.alloc (.cells #[.int .i64 38, .int .i64 2, .int .i64 (-1), .int .i64 (x : Int), .int .i64 (y : Int), .int .i64 (z : Int)] 3)).alloc (.cells #[.slice (some ⟨W2.heap.size, 0, none⟩) 6 6] 47)).heap.size (.slice (some ⟨W2.heap.size + 1, 0, none⟩) 1 1) [[38, 2, -1, (x : Int), (y : Int), (z : Int)]]) := Lib.hid (rd_row W2 [38, 2, -1, (x : Int), (y : Int), (z : Int)] 3 47)
      have HTA2 : Hid (TabP ((W2.alloc (.cells #[.int .i64 38, .int .i64 2, .int .i64 (-1), .int .i64 (x : Int), .int .i64 (y : Int), .int .i64 (z : Int)] 3)).alloc (.cells #[.slice (some ⟨W2.heap.size, 0, none⟩) 6 6] 47))) := Lib.hid (((KTxx.out).alloc _).alloc _)
      have HBA2 : Hid (Below W2.heap.size W2 ((W2.alloc (.cells #[.int .i64 38, .int .i64 2, .int .i64 (-1), .int .i64 (x : Int), .int .i64 (y : Int), .int .i64 (z : Int)] 3)).alloc (.cells #[.slice (some ⟨W2.heap.size, 0, none⟩) 6 6] 47))) := Lib.hid (((Below.refl _ _).alloc (Nat.le_refl _) _).alloc (by simp; try omega) _)
      go_wp2_with fail
      refine (apply_any ⟨pf, pb, pl⟩ [[38, 2, -1, (x : Int), (y : Int), (z : Int)]] _ _ _ rfl _ HR2.out HTA2.out (show 1 ≤ maxLen by decide)).mono ?_
      rintro e v2 ⟨rfl, hb⟩
      simp only [QD.out]
      have hbw : Below W2.heap.size W2 v2 := HBA2.out.trans (hb.mono HBA2.out.size)
      have K0xxx : Hid (PenAt (v2.alloc (.cells #[.int .i64 (rgbF x y z), .int .i64 (pb), .int .i64 (pl)] 40)) w.heap.size ⟨pf, pb, pl⟩) := Lib.hid (bk_alloc (K0xx.out.past hbw) _)
      have K1xxx : Hid (PenAt (v2.alloc (.cells #[.int .i64 (rgbF x y z), .int .i64 (pb), .int .i64 (pl)] 40)) w2.heap.size ⟨rgbF x y z, pb, pl⟩) := Lib.hid (bk_alloc (K1xx.out.past hbw) _)
      have K2xxx : Hid (PenAt (v2.alloc (.cells #[.int .i64 (rgbF x y z), .int .i64 (pb), .int .i64 (pl)] 40)) (w2.heap.size + 1) ⟨(x : Int) + 1, pb, pl⟩) := Lib.hid (bk_alloc (K2xx.out.past hbw) _)
      have J0xx : Hid (PenAt (v2.alloc (.cells #[.int .i64 (rgbF x y z), .int .i64 (pb), .int .i64 (pl)] 40)) v0.heap.size ⟨rgbF x y z, pb, pl⟩) := Lib.hid (bk_alloc (J0x.out.past hbw) _)
      have J1x : Hid (PenAt (v2.alloc (.cells #[.int .i64 (rgbF x y z), .int .i64 (pb), .int .i64 (pl)] 40)) v1.heap.size ⟨rgbF x y z, pb, pl⟩) := Lib.hid (bk_alloc (J1.out.past hbw) _)
      have J2 : Hid (PenAt (v2.alloc (.cells #[.int .i64 (rgbF x y z), .int .i64 (pb), .int .i64 (pl)] 40)) v2.heap.size ⟨rgbF x y z, pb, pl⟩) := Lib.hid (heap_alloc_new v2 _)
      have KTxxx : Hid (TabP (v2.alloc (.cells #[.int .i64 (rgbF x y z), .int .i64 (pb), .int .i64 (pl)] 40))) := Lib.hid ((KTxx.out.below hbw).alloc _)
      have KBxxx : Hid (Below w.heap.size w (v2.alloc (.cells #[.int .i64 (rgbF x y z), .int .i64 (pb), .int .i64 (pl)] 40))) := Lib.hid ((KBxx.out.trans (hbw.mono KBxx.out.size)).alloc (by have := KBxx.out.size; have := hbw.size; omega) _)
      clear hb hbw a0 a1 a2 HR2 HTA2 HBA2 K0xx K1xx K2xx J0x J1 KTxx KBxx
      go_upto_region 21 with (fail)
      generalize hW : v2.alloc (.cells #[.int .i64 (rgbF x y z), .int .i64 (pb), .int .i64 (pl)] 40) = W3 at *
      clear hW
      obtain ⟨a0, a1, a2, _⟩ := K0xxx.out.cells
      simp only at a0 a1 a2
      have HR3 : Hid (RdLL ((((W3.alloc (.cells #[.int .i64 38] 3)).alloc (.cells #[.int .i64 5] 3)).alloc (.cells #[.int .i64 (x : Int)] 3)).alloc (.cells #[.slice (some ⟨W3.heap.size, 0, none⟩) 1 1, .slice (some ⟨W3.heap.size + 1, 0, none⟩) 1 1, .slice (some ⟨W3.heap.size + 1 + 1, 0, none⟩) 1 1] 47)) 0 ((((W3.alloc (.cells #[.int .i64 38] 3)).alloc (.cells #[.int .i64 5] 3)).alloc (.cells #[.int .i64 (x : Int)] 3)).alloc (.cells #[.slice (some ⟨W3.heap.size, 0, none⟩) 1 1, .slice (some ⟨W3.heap.size + 1, 0, none⟩) 1 1, .slice (some ⟨W3.heap.size + 1 + 1, 0, none⟩) 1 1] 47)).heap.size (.slice (some ⟨W3.heap.size + 1 + 1 + 1, 0, none⟩) 3 3) [[38], [5], [(x : Int)]]) := Lib.hid ((new3 W3 38 5 (x : Int) 3 47).rdll)
      have HTA3 : Hid (TabP ((((W3.alloc (.cells #[.int .i64 38] 3)).alloc (.cells #[.int .i64 5] 3)).alloc (.cells #[.int .i64 (x : Int)] 3)).alloc (.cells #[.slice (some ⟨W3.heap.size, 0, none⟩) 1 1, .slice (some ⟨W3.heap.size + 1, 0, none⟩) 1 1, .slice (some ⟨W3.heap.size + 1 + 1, 0, none⟩) 1 1] 47))) := Lib.hid (((((KTxxx.out).alloc _).alloc _).alloc _).alloc _)
      have HBA3 : Hid (Below W3.heap.size W3 ((((W3.alloc (.cells #[.int .i64 38] 3)).alloc (.cells #[.int .i64 5] 3)).alloc (.cells #[.int .i64 (x : Int)] 3)).alloc (.cells #[.slice (some ⟨W3.heap.size, 0, none⟩) 1 1, .slice (some ⟨W3.heap.size + 1, 0, none⟩) 1 1, .slice (some ⟨W3.heap.size + 1 + 1, 0, none⟩) 1 1] 47))) := Lib.hid (((((Below.refl _ _).alloc (Nat.le_refl _) _).alloc (by simp; try omega) _).alloc (by simp; try omega) _).alloc (by simp; try omega) _)
      go_wp2_with fail
      refine (apply_any ⟨pf, pb, pl⟩ [[38], [5], [(x : Int)]] _ _ _ rfl _ HR3.out HTA3.out (show 3 ≤ maxLen by decide)).mono ?_
      rintro e v3 ⟨rfl, hb⟩
      simp only [QE.out]
      have hbw : Below W3.heap.size W3 v3 := HBA3.out.trans (hb.mono HBA3.out.size)
      have K0xxxx : Hid (PenAt (v3.alloc (.cells #[.int .i64 ((x : Int) + 1), .int .i64 (pb), .int .i64 (pl)] 40)) w.heap.size ⟨pf, pb, pl⟩) := Lib.hid (bk_alloc (K0xxx.out.past hbw) _)
      have K1xxxx : Hid (PenAt (v3.alloc (.cells #[.int .i64 ((x : Int) + 1), .int .i64 (pb), .int .i64 (pl)] 40)) w2.heap.size ⟨rgbF x y z, pb, pl⟩) := Lib.hid (bk_alloc (K1xxx.out.past hbw) _)
      have K2xxxx : Hid (PenAt (v3.alloc (.cells #[.int .i64 ((x : Int) + 1), .int .i64 (pb), .int .i64 (pl)] 40)) (w2.heap.size + 1) ⟨(x : Int) + 1, pb, pl⟩) := Lib.hid (bk_alloc (K2xxx.out.past hbw) _)
      have J0xxx : Hid (PenAt (v3.alloc (.cells #[.int .i64 ((x : Int) + 1), .int .i64 (pb), .int .i64 (pl)] 40)) v0.heap.size ⟨rgbF x y z, pb, pl⟩) := Lib.hid (bk_alloc (J0xx.out.past hbw) _)
      have J1xx : Hid (PenAt (v3.alloc (.cells #[.int .i64 ((x : Int) + 1), .int .i64 (pb), .int .i64 (pl)] 40)) v1.heap.size ⟨rgbF x y z, pb, pl⟩) := Lib.hid (bk_alloc (J1x.out.past hbw) _)
      have J2x : Hid (PenAt (v3.alloc (.cells #[.int .i64 ((x : Int) + 1), .int .i64 (pb), .int .i64 (pl)] 40)) v2.heap.size ⟨rgbF x y z, pb, pl⟩) := Lib.hid (bk_alloc (J2.out.past hbw) _)
      have J3 : Hid (PenAt (v3.alloc (.cells #[.int .i64 ((x : Int) + 1), .int .i64 (pb), .int .i64 (pl)] 40)) v3.heap.size ⟨(x : Int) + 1, pb, pl⟩) := Lib.hid (heap_alloc_new v3 _)
      have KTxxxx : Hid (TabP (v3.alloc (.cells #[.int .i64 ((x : Int) + 1), .int .i64 (pb), .int .i64 (pl)] 40))) := Lib.hid ((KTxxx.out.below hbw).alloc _)
      have KBxxxx : Hid (Below w.heap.size w (v3.alloc (.cells #[.int .i64 ((x : Int) + 1), .int .i64 (pb), .int .i64 (pl)] 40))) := Lib.hid ((KBxxx.out.trans (hbw.mono KBxxx.out.size)).alloc (by have := KBxxx.out.size; have := hbw.size; omega) _)
      clear hb hbw a0 a1 a2 HR3 HTA3 HBA3 K0xxx K1xxx K2xxx J0xx J1x J2 KTxxx KBxxx
      go_upto_region 22 with (fail)
      generalize hW : v3.alloc (.cells #[.int .i64 ((x : Int) + 1), .int .i64 (pb), .int .i64 (pl)] 40) = W4 at *
      clear hW
      obtain ⟨a0, a1, a2, _⟩ := K0xxxx.out.cells
      simp only at a0 a1 a2
      have HR4 : Hid (RdLL ((W4.alloc (.cells #[.int .i64 38, .int .i64 5, .int .i64 (x : Int)] 3)).alloc (.cells #[.slice (some ⟨W4.heap.size, 0, none⟩) 3 3] 47)) 0 ((W4.alloc (.cells #[.int .i64 38, .int .i64 5, .int .i64 (x : Int)] 3)).alloc (.cells #[.slice (some ⟨W4.heap.size, 0, none⟩) 3 3] 47)).heap.size (.slice (some ⟨W4.heap.size + 1, 0, none⟩) 1 1) [[38, 5, (x : Int)]]) := Lib.hid (rd_row W4 [38, 5, (x : Int)] 3 47)
      have HTA4 : Hid (TabP ((W4.alloc (.cells #[.int .i64 38, .int .i64 5, .int .i64 (x : Int)] 3)).alloc (.cells #[.slice (some ⟨W4.heap.size, 0, none⟩) 3 3] 47))) := Lib.hid (((KTxxxx.out).alloc _).alloc _)
      have HBA4 : Hid (Below W4.heap.size W4 ((W4.alloc (.cells #[.int .i64 38, .int .i64 5, .int .i64 (x : Int)] 3)).alloc (.cells #[.slice (some ⟨W4.heap.size, 0, none⟩) 3 3] 47))) := Lib.hid (((Below.refl _ _).alloc (Nat.le_refl _) _).alloc (by simp; try omega) _)
      go_wp2_with fail
      refine (apply_any ⟨pf, pb, pl⟩ [[38, 5, (x : Int)]] _ _ _ rfl _ HR4.out HTA4.out (show 1 ≤ maxLen by decide)).mono ?_
      rintro e v4 ⟨rfl, hb⟩
      simp only [QF.out]
      have hbw : Below W4.heap.size W4 v4 := HBA4.out.trans (hb.mono HBA4.out.size)
      have K0xxxxx : Hid (PenAt (v4.alloc (.cells #[.int .i64 ((x : Int) + 1), .int .i64 (pb), .int .i64 (pl)] 40)) w.heap.size ⟨pf, pb, pl⟩) := Lib.hid (bk_alloc (K0xxxx.out.past hbw) _)
      have K1xxxxx : Hid (PenAt (v4.alloc (.cells #[.int .i64 ((x : Int) + 1), .int .i64 (pb), .int .i64 (pl)] 40)) w2.heap.size ⟨rgbF x y z, pb, pl⟩) := Lib.hid (bk_alloc (K1xxxx.out.past hbw) _)
      have K2xxxxx : Hid (PenAt (v4.alloc (.cells #[.int .i64 ((x : Int) + 1), .int .i64 (pb), .int .i64 (pl)] 40)) (w2.heap.size + 1) ⟨(x : Int) + 1, pb, pl⟩) := Lib.hid (bk_alloc (K2xxxx.out.past hbw) _)
      have J0xxxx : Hid (PenAt (v4.alloc (.cells #[.int .i64 ((x : Int) + 1), .int .i64 (pb), .int .i64 (pl)] 40)) v0.heap.size ⟨rgbF x y z, pb, pl⟩) := Lib.hid (bk_alloc (J0xxx.out.past hbw) _)
      have J1xxx : Hid (PenAt (v4.alloc (.cells #[.int .i64 ((x : Int) + 1), .int .i64 (pb), .int .i64 (pl)] 40)) v1.heap.size ⟨rgbF x y z, pb, pl⟩) := Lib.hid (bk_alloc (J1xx.out.past hbw) _)
      have J2xx : Hid (PenAt (v4.alloc (.cells #[.int .i64 ((x : Int) + 1), .int .i64 (pb), .int .i64 (pl)] 40)) v2.heap.size ⟨rgbF x y z, pb, pl⟩) := Lib.hid (bk_alloc (J2x.out.past hbw) _)
      have J3x : Hid (PenAt (v4.alloc (.cells #[.int .i64 ((x : Int) + 1), .int .i64 (pb), .int .i64 (pl)] 40)) v3.heap.size ⟨(x : Int) + 1, pb, pl⟩) := Lib.hid (bk_alloc (J3.out.past hbw) _)
      have J4 : Hid (PenAt (v4.alloc (.cells #[.int .i64 ((x : Int) + 1), .int .i64 (pb), .int .i64 (pl)] 40)) v4.heap.size ⟨(x : Int) + 1, pb, pl⟩) := Lib.hid (heap_alloc_new v4 _)
      have KTxxxxx : Hid (TabP (v4.alloc (.cells #[.int .i64 ((x : Int) + 1), .int .i64 (pb), .int .i64 (pl)] 40))) := Lib.hid ((KTxxxx.out.below hbw).alloc _)
      have KBxxxxx : Hid (Below w.heap.size w (v4.alloc (.cells #[.int .i64 ((x : Int) + 1), .int .i64 (pb), .int .i64 (pl)] 40))) := Lib.hid ((KBxxxx.out.trans (hbw.mono KBxxxx.out.size)).alloc (by have := KBxxxx.out.size; have := hbw.size; omega) _)
      clear hb hbw a0 a1 a2 HR4 HTA4 HBA4 K0xxxx K1xxxx K2xxxx J0xxx J1xx J2x J3 KTxxxx KBxxxx
      go_upto_region 23 with (fail)
      generalize hW : v4.alloc (.cells #[.int .i64 ((x : Int) + 1), .int .i64 (pb), .int .i64 (pl)] 40) = W5 at *
      clear hW
      obtain ⟨m10, m11, m12, _⟩ := K1xxxxx.out.cells
      simp only at m10 m11 m12
      obtain ⟨m20, m21, m22, _⟩ := K2xxxxx.out.cells
      simp only at m20 m21 m22
      obtain ⟨m30, m31, m32, _⟩ := J0xxxx.out.cells
      simp only at m30 m31 m32
      obtain ⟨m40, m41, m42, _⟩ := J1xxx.out.cells
      simp only at m40 m41 m42
      obtain ⟨m50, m51, m52, _⟩ := J2xx.out.cells
      simp only at m50 m51 m52
      obtain ⟨m60, m61, m62, _⟩ := J3x.out.cells
      simp only at m60 m61 m62
      obtain ⟨m70, m71, m72, _⟩ := J4.out.cells
      simp only at m70 m71 m72
      go_wp2_with (first
        | (go_at_call 33; refine (rgb_any _ _ _ _).mono ?_; rintro e w3 ⟨rfl, rfl⟩)
        | (go_at_call 34; refine (parts_any _ _).mono ?_; rintro e w3 ⟨rfl, rfl⟩; simp only [QP.out]))
      go_ret
      exact ⟨rfl, KBxxxxx.out⟩
    | true =>
      have hx2 : (0 : Int) ≤ (x : Int) ∧ (x : Int) ≤ 255 := by omega
      have hy2 : (0 : Int) ≤ (y : Int) ∧ (y : Int) ≤ 255 := by omega
      have hz2 : (0 : Int) ≤ (z : Int) ∧ (z : Int) ≤ 255 := by omega
      have QA : Hid (applyF ⟨pf, pb, pl⟩ [[48], [2], [(x : Int)], [(y : Int)], [(z : Int)]] = ⟨pf, rgbF x y z, pl⟩) := Lib.hid ((col_a _ HSP.out 48 x y z (by simp) hx2 hy2 hz2).trans (set_48 _ _ (rgb_ne _ _ _)))
      have QC : Hid (applyF ⟨pf, pb, pl⟩ [[48, 2, (x : Int), (y : Int), (z : Int)]] = ⟨pf, rgbF x y z, pl⟩) := Lib.hid ((col_c _ HSP.out 48 x y z (by simp) hx2 hy2 hz2).trans (set_48 _ _ (rgb_ne _ _ _)))
      have QD : Hid (applyF ⟨pf, pb, pl⟩ [[48, 2, -1, (x : Int), (y : Int), (z : Int)]] = ⟨pf, rgbF x y z, pl⟩) := Lib.hid ((col_d _ HSP.out 48 x y z (by simp) hx2 hy2 hz2).trans (set_48 _ _ (rgb_ne _ _ _)))
      have QE : Hid (applyF ⟨pf, pb, pl⟩ [[48], [5], [(x : Int)]] = ⟨pf, (x : Int) + 1, pl⟩) := Lib.hid ((col_e _ HSP.out 48 x (by simp) hx2).trans (set_48 _ _ (by omega)))
      have QF : Hid (applyF ⟨pf, pb, pl⟩ [[48, 5, (x : Int)]] = ⟨pf, (x : Int) + 1, pl⟩) := Lib.hid ((col_f _ HSP.out 48 x (by simp) hx2).trans (set_48 _ _ (by omega)))
      have QP := Lib.hid (parts_rgb (x : Int) (y : Int) (z : Int) hx2 hy2 hz2)
      clear hx2 hy2 hz2
      go_enter Tryd.func7, Tryd.ntmps7
      go_wp2_with fail
      refine (awake7_any _ HT.out).mono ?_
      rintro e w1 ⟨rfl, hb1⟩
      have hp1 := HP.out.past hb1
      obtain ⟨c0, c1, c2, _⟩ := hp1.cells
      simp only at c0 c1 c2
      have HB1 := Lib.hid (HB0.out.trans (hb1.mono HB0.out.size)); have HT1 := Lib.hid (HT.out.below hb1)
      have HP1 := Lib.hid hp1
      clear hp1 hb1
      go_wp2_with fail
      refine (sane7_any ⟨pf, pb, pl⟩ _).mono ?_
      rintro e w2 ⟨rfl, hb2⟩
      simp only [HSP.out]
      have hp2 := HP1.out.past hb2
      obtain ⟨d0, d1, d2, _⟩ := hp2.cells
      simp only at d0 d1 d2
      have HB2 := Lib.hid (HB1.out.trans (hb2.mono HB1.out.size)); have HT2 := Lib.hid (HT1.out.below hb2)
      have HP2 := Lib.hid hp2
      have hsz2 := bk_lt hp2
      clear hp2 hb2 c0 c1 c2
      go_upto_region 18 with (go_at_call 33; refine (rgb_any _ _ _ _).mono ?_; rintro e w3 ⟨rfl, rfl⟩)
      clear d0 d1 d2
      have K0 : Hid (PenAt ((w2.alloc (.cells #[.int .i64 (pf), .int .i64 (rgbF x y z), .int .i64 (pl)] 40)).alloc (.cells #[.int .i64 (pf), .int .i64 ((x : Int) + 1), .int .i64 (pl)] 40)) w.heap.size ⟨pf, pb, pl⟩) := Lib.hid (bk_alloc (bk_alloc HP2.out _) _)
      have K1 : Hid (PenAt ((w2.alloc (.cells #[.int .i64 (pf), .int .i64 (rgbF x y z), .int .i64 (pl)] 40)).alloc (.cells #[.int .i64 (pf), .int .i64 ((x : Int) + 1), .int .i64 (pl)] 40)) w2.heap.size ⟨pf, rgbF x y z, pl⟩) := Lib.hid (two_new w2 _ _).1
      have K2 : Hid (PenAt ((w2.alloc (.cells #[.int .i64 (pf), .int .i64 (rgbF x y z), .int .i64 (pl)] 40)).alloc (.cells #[.int .i64 (pf), .int .i64 ((x : Int) + 1), .int .i64 (pl)] 40)) (w2.heap.size + 1) ⟨pf, (x : Int) + 1, pl⟩) := Lib.hid (two_new w2 _ _).2
      have KT : Hid (TabP ((w2.alloc (.cells #[.int .i64 (pf), .int .i64 (rgbF x y z), .int .i64 (pl)] 40)).alloc (.cells #[.int .i64 (pf), .int .i64 ((x : Int) + 1), .int .i64 (pl)] 40))) := Lib.hid ((HT2.out.alloc _).alloc _)
      have KB : Hid (Below w.heap.size w ((w2.alloc (.cells #[.int .i64 (pf), .int .i64 (rgbF x y z), .int .i64 (pl)] 40)).alloc (.cells #[.int .i64 (pf), .int .i64 ((x : Int) + 1), .int .i64 (pl)] 40))) := Lib.hid ((HB2.out.alloc HB2.out.size _).alloc (by have := HB2.out.size; simp; omega) _)
      generalize hW : (w2.alloc (.cells #[.int .i64 (pf), .int .i64 (rgbF x y z), .int .i64 (pl)] 40)).alloc (.cells #[.int .i64 (pf), .int .i64 ((x : Int) + 1), .int .i64 (pl)] 40) = W0 at *
      clear hW
      obtain ⟨a0, a1, a2, _⟩ := K0.out.cells
      simp only at a0 a1 a2
      have HR0 : Hid (RdLL ((((((W0.alloc (.cells #[.int .i64 48] 3)).alloc (.cells #[.int .i64 2] 3)).alloc (.cells #[.int .i64 (x : Int)] 3)).alloc (.cells #[.int .i64 (y : Int)] 3)).alloc (.cells #[.int .i64 (z : Int)] 3)).alloc (.cells #[.slice (some ⟨W0.heap.size, 0, none⟩) 1 1, .slice (some ⟨W0.heap.size + 1, 0, none⟩) 1 1, .slice (some ⟨W0.heap.size + 1 + 1, 0, none⟩) 1 1, .slice (some ⟨W0.heap.size + 1 + 1 + 1, 0, none⟩) 1 1, .slice (some ⟨W0.heap.size + 1 + 1 + 1 + 1, 0, none⟩) 1 1] 47)) 0 ((((((W0.alloc (.cells #[.int .i64 48] 3)).alloc (.cells #[.int .i64 2] 3)).alloc (.cells #[.int .i64 (x : Int)] 3)).alloc (.cells #[.int .i64 (y : Int)] 3)).alloc (.cells #[.int .i64 (z : Int)] 3)).alloc (.cells #[.slice (some ⟨W0.heap.size, 0, none⟩) 1 1, .slice (some ⟨W0.heap.size + 1, 0, none⟩) 1 1, .slice (some ⟨W0.heap.size + 1 + 1, 0, none⟩) 1 1, .slice (some ⟨W0.heap.size + 1 + 1 + 1, 0, none⟩) 1 1, .slice (some ⟨W0.heap.size + 1 + 1 + 1 + 1, 0, none⟩) 1 1] 47)).heap.size (.slice (some ⟨W0.heap.size + 1 + 1 + 1 + 1 + 1, 0, none⟩) 5 5) [[48], [2], [(x : Int)], [(y : Int)], [(z : Int)]]) := Lib.hid ((new5 W0 48 2 (x : Int) (y : Int) (z : Int) 3 47).rdll)
      have HTA0 : Hid (TabP ((((((W0.alloc (.cells #[.int .i64 48] 3)).alloc (.cells #[.int .i64 2] 3)).alloc (.cells #[.int .i64 (x : Int)] 3)).alloc (.cells #[.int .i64 (y : Int)] 3)).alloc (.cells #[.int .i64 (z : Int)] 3)).alloc (.cells #[.slice (some ⟨W0.heap.size, 0, none⟩) 1 1, .slice (some ⟨W0.heap.size + 1, 0, none⟩) 1 1, .slice (some ⟨W0.heap.size + 1 + 1, 0, none⟩) 1 1, .slice (some ⟨W0.heap.size + 1 + 1 + 1, 0, none⟩) 1 1, .slice (some ⟨W0.heap.size + 1 + 1 + 1 + 1, 0, none⟩) 1 1] 47))) := Lib.hid (((((((KT.out).alloc _).alloc _).alloc _).alloc _).alloc _).alloc _)
      have HBA0 : Hid (Below W0.heap.size W0 ((((((W0.alloc (.cells #[.int .i64 48] 3)).alloc (.cells #[.int .i64 2] 3)).alloc (.cells #[.int .i64 (x : Int)] 3)).alloc (.cells #[.int .i64 (y : Int)] 3)).alloc (.cells #[.int .i64 (z : Int)] 3)).alloc (.cells #[.slice (some ⟨W0.heap.size, 0, none⟩) 1 1, .slice (some ⟨W0.heap.size + 1, 0, none⟩) 1 1, .slice (some ⟨W0.heap.size + 1 + 1, 0, none⟩) 1 1, .slice (some ⟨W0.heap.size + 1 + 1 + 1, 0, none⟩) 1 1, .slice (some ⟨W0.heap.size + 1 + 1 + 1 + 1, 0, none⟩) 1 1] 47))) := Lib.hid (((((((Below.refl _ _).alloc (Nat.le_refl _) _).alloc (by simp; try omega) _).alloc (by simp; try omega) _).alloc (by simp; try omega) _).alloc (by simp; try omega) _).alloc (by simp; try omega) _)
      go_wp2_with fail
      refine (apply_any ⟨pf, pb, pl⟩ [[48], [2], [(x : Int)], [(y : Int)], [(z : Int)]] _ _ _ rfl _ HR0.out HTA0.out (show 5 ≤ maxLen by decide)).mono ?_
      rintro e v0 ⟨rfl, hb⟩
      simp only [QA.out]
      have hbw : Below W0.heap.size W0 v0 := HBA0.out.trans (hb.mono HBA0.out.size)
      have K0x : Hid (PenAt (v0.alloc (.cells #[.int .i64 (pf), .int .i64 (rgbF x y z), .int .i64 (pl)] 40)) w.heap.size ⟨pf, pb, pl⟩) := Lib.hid (bk_alloc (K0.out.past hbw) _)
      have K1x : Hid (PenAt (v0.alloc (.cells #[.int .i64 (pf), .int .i64 (rgbF x y z), .int .i64 (pl)] 40)) w2.heap.size ⟨pf, rgbF x y z, pl⟩) := Lib.hid (bk_alloc (K1.out.past hbw) _)
      have K2x : Hid (PenAt (v0.alloc (.cells #[.int .i64 (pf), .int .i64 (rgbF x y z), .int .i64 (pl)] 40)) (w2.heap.size + 1) ⟨pf, (x : Int) + 1, pl⟩) := Lib.hid (bk_alloc (K2.out.past hbw) _)
      have J0 : Hid (PenAt (v0.alloc (.cells #[.int .i64 (pf), .int .i64 (rgbF x y z), .int .i64 (pl)] 40)) v0.heap.size ⟨pf, rgbF x y z, pl⟩) := Lib.hid (heap_alloc_new v0 _)
      have KTx : Hid (TabP (v0.alloc (.cells #[.int .i64 (pf), .int .i64 (rgbF x y z), .int .i64 (pl)] 40))) := Lib.hid ((KT.out.below hbw).alloc _)
      have KBx : Hid (Below w.heap.size w (v0.alloc (.cells #[.int .i64 (pf), .int .i64 (rgbF x y z), .int .i64 (pl)] 40))) := Lib.hid ((KB.out.trans (hbw.mono KB.out.size)).alloc (by have := KB.out.size; have := hbw.size; omega) _)
      clear hb hbw a0 a1 a2 HR0 HTA0 HBA0 K0 K1 K2 KT KB
      go_upto_region 19 with (fail)
      generalize hW : v0.alloc (.cells #[.int .i64 (pf), .int .i64 (rgbF x y z), .int .i64 (pl)] 40) = W1 at *
      clear hW
      obtain ⟨a0, a1, a2, _⟩ := K0x.out.cells
      simp only at a0 a1 a2
      have HR1 : Hid (RdLL ((W1.alloc (.cells #[.int .i64 48, .int .i64 2, .int .i64 (x : Int), .int .i64 (y : Int), .int .i64 (z : Int)] 3)).alloc (.cells #[.slice (some ⟨W1.heap.size, 0, none⟩) 5 5] 47)) 0 ((W1.alloc (.cells #[.int .i64 48, .int .i64 2, .int .i64 (x : Int), .int .i64 (y : Int), .int .i64 (z : Int)] 3)).alloc (.cells #[.slice (some ⟨W1.heap.size, 0, none⟩) 5 5] 47)).heap.size (.slice (some ⟨W1.heap.size + 1, 0, none⟩) 1 1) [[48, 2, (x : Int), (y : Int), (z : Int)]]) := Lib.hid (rd_row W1 [48, 2, (x : Int), (y : Int), (z : Int)] 3 47)
      have HTA1 : Hid (TabP ((W1.alloc (.cells #[.int .i64 48, .int .i64 2, .int .i64 (x : Int), .int .i64 (y : Int), .int .i64 (z : Int)] 3)).alloc (.cells #[.slice (some ⟨W1.heap.size, 0, none⟩) 5 5] 47))) := Lib.hid (((KTx.out).alloc _).alloc _)
      have HBA1 : Hid (Below W1.heap.size W1 ((W1.alloc (.cells #[.int .i64 48, .int .i64 2, .int .i64 (x : Int), .int .i64 (y : Int), .int .i64 (z : Int)] 3)).alloc (.cells #[.slice (some ⟨W1.heap.size, 0, none⟩) 5 5] 47))) := Lib.hid (((Below.refl _ _).alloc (Nat.le_refl _) _).alloc (by simp; try omega) _)
      go_wp2_with fail
      refine (apply_any ⟨pf, pb, pl⟩ [[48, 2, (x : Int), (y : Int), (z : Int)]] _ _ _ rfl _ HR1.out HTA1.out (show 1 ≤ maxLen by decide)).mono ?_
      rintro e v1 ⟨rfl, hb⟩
      simp only [QC.out]
      have hbw : Below W1.heap.size W1 v1 := HBA1.out.trans (hb.mono HBA1.out.size)
      have K0xx : Hid (PenAt (v1.alloc (.cells #[.int .i64 (pf), .int .i64 (rgbF x y z), .int .i64 (pl)] 40)) w.heap.size ⟨pf, pb, pl⟩) := Lib.hid (bk_alloc (K0x.out.past hbw) _)
      have K1xx : Hid (PenAt (v1.alloc (.cells #[.int .i64 (pf), .int .i64 (rgbF x y z), .int .i64 (pl)] 40)) w2.heap.size ⟨pf, rgbF x y z, pl⟩) := Lib.hid (bk_alloc (K1x.out.past hbw) _)
      have K2xx : Hid (PenAt (v1.alloc (.cells #[.int .i64 (pf), .int .i64 (rgbF x y z), .int .i64 (pl)] 40)) (w2.heap.size + 1) ⟨pf, (x : Int) + 1, pl⟩) := Lib.hid (bk_alloc (K2x.out.past hbw) _)
      have J0x : Hid (PenAt (v1.alloc (.cells #[.int .i64 (pf), .int .i64 (rgbF x y z), .int .i64 (pl)] 40)) v0.heap.size ⟨pf, rgbF x y z, pl⟩) := Lib.hid (bk_alloc (J0.out.past hbw) _)
      have J1 : Hid (PenAt (v1.alloc (.cells #[.int .i64 (pf), .int .i64 (rgbF x y z), .int .i64 (pl)] 40)) v1.heap.size ⟨pf, rgbF x y z, pl⟩) := Lib.hid (heap_alloc_new v1 _)
      have KTxx : Hid (TabP (v1.alloc (.cells #[.int .i64 (pf), .int .i64 (rgbF x y z), .int .i64 (pl)] 40))) := Lib.hid ((KTx.out.below hbw).alloc _)
      have KBxx : Hid (Below w.heap.size w (v1.alloc (.cells #[.int .i64 (pf), .int .i64 (rgbF x y z), .int .i64 (pl)] 40))) := Lib.hid ((KBx.out.trans (hbw.mono KBx.out.size)).alloc (by have := KBx.out.size; have := hbw.size; omega) _)
      clear hb hbw a0 a1 a2 HR1 HTA1 HBA1 K0x K1x K2x J0 KTx KBx
      go_upto_region 20 with (fail)
      generalize hW : v1.alloc (.cells #[.int .i64 (pf), .int .i64 (rgbF x y z), .int .i64 (pl)] 40) = W2 at *
      clear hW
      obtain ⟨a0, a1, a2, _⟩ := K0xx.out.cells
      simp only at a0 a1 a2
      have HR2 : Hid (RdLL ((W2.alloc (.cells #[.int .i64 48, .int .i64 2, .int .i64 (-1), .int .i64 (x : Int), .int .i64 (y : Int), .int .i64 (z : Int)] 3)).alloc (.cells #[.slice (some ⟨W2.heap.size, 0, none⟩) 6 6] 47)) 0 ((W2.alloc (.cells #[.int .i64 48, .int .i64 2, .int .i64 (-1), .int .i64 (x : Int), .int .i64 (y : Int), .int .i64 (z : Int)] 3)).alloc (.cells #[.slice (some ⟨W2.heap.size, 0, none⟩) 6 6] 47)).heap.size (.slice (some ⟨W2.heap.size + 1, 0, none⟩) 1 1) [[48, 2, -1, (x : Int), (y : Int), (z : Int)]]) := Lib.hid (rd_row W2 [48, 2, -1, (x : Int), (y : Int), (z : Int)] 3 47)
      have HTA2 : Hid (TabP ((W2.alloc (.cells #[.int .i64 48, .int .i64 2, .int .i64 (-1), .int .i64 (x : Int), .int .i64 (y : Int), .int .i64 (z : Int)] 3)).alloc (.cells #[.slice (some ⟨W2.heap.size, 0, none⟩) 6 6] 47))) := Lib.hid (((KTxx.out).alloc _).alloc _)
      have HBA2 : Hid (Below W2.heap.size W2 ((W2.alloc (.cells #[.int .i64 48, .int .i64 2, .int .i64 (-1), .int .i64 (x : Int), .int .i64 (y : Int), .int .i64 (z : Int)] 3)).alloc (.cells #[.slice (some ⟨W2.heap.size, 0, none⟩) 6 6] 47))) := Lib.hid (((Below.refl _ _).alloc (Nat.le_refl _) _).alloc (by simp; try omega) _)
      go_wp2_with fail
      refine (apply_any ⟨pf, pb, pl⟩ [[48, 2, -1, (x : Int), (y : Int), (z : Int)]] _ _ _ rfl _ HR2.out HTA2.out (show 1 ≤ maxLen by decide)).mono ?_
      rintro e v2 ⟨rfl, hb⟩
      simp only [QD.out]
      have hbw : Below W2.heap.size W2 v2 := HBA2.out.trans (hb.mono HBA2.out.size)
      have K0xxx : Hid (PenAt (v2.alloc (.cells #[.int .i64 (pf), .int .i64 (rgbF x y z), .int .i64 (pl)] 40)) w.heap.size ⟨pf, pb, pl⟩) := Lib.hid (bk_alloc (K0xx.out.past hbw) _)
      have K1xxx : Hid (PenAt (v2.alloc (.cells #[.int .i64 (pf), .int .i64 (rgbF x y z), .int .i64 (pl)] 40)) w2.heap.size ⟨pf, rgbF x y z, pl⟩) := Lib.hid (bk_alloc (K1xx.out.past hbw) _)
      have K2xxx : Hid (PenAt (v2.alloc (.cells #[.int .i64 (pf), .int .i64 (rgbF x y z), .int .i64 (pl)] 40)) (w2.heap.size + 1) ⟨pf, (x : Int) + 1, pl⟩) := Lib.hid (bk_alloc (K2xx.out.past hbw) _)
      have J0xx : Hid (PenAt (v2.alloc (.cells #[.int .i64 (pf), .int .i64 (rgbF x y z), .int .i64 (pl)] 40)) v0.heap.size ⟨pf, rgbF x y z, pl⟩) := Lib.hid (bk_alloc (J0x.out.past hbw) _)
      have J1x : Hid (PenAt (v2.alloc (.cells #[.int .i64 (pf), .int .i64 (rgbF x y z), .int .i64 (pl)] 40)) v1.heap.size ⟨pf, rgbF x y z, pl⟩) := Lib.hid (bk_alloc (J1.out.past hbw) _)
      have J2 : Hid (PenAt (v2.alloc (.cells #[.int .i64 (pf), .int .i64 (rgbF x y z), .int .i64 (pl)] 40)) v2.heap.size ⟨pf, rgbF x y z, pl⟩) := Lib.hid (heap_alloc_new v2 _)
      have KTxxx : Hid (TabP (v2.alloc (.cells #[.int .i64 (pf), .int .i64 (rgbF x y z), .int .i64 (pl)] 40))) := Lib.hid ((KTxx.out.below hbw).alloc _)
      have KBxxx : Hid (Below w.heap.size w (v2.alloc (.cells #[.int .i64 (pf), .int .i64 (rgbF x y z), .int .i64 (pl)] 40))) := Lib.hid ((KBxx.out.trans (hbw.mono KBxx.out.size)).alloc (by have := KBxx.out.size; have := hbw.size; omega) _)
      clear hb hbw a0 a1 a2 HR2 HTA2 HBA2 K0xx K1xx K2xx J0x J1 KTxx KBxx
      go_upto_region 21 with (fail)
      generalize hW : v2.alloc (.cells #[.int .i64 (pf), .int .i64 (rgbF x y z), .int .i64 (pl)] 40) = W3 at *
      clear hW
      obtain ⟨a0, a1, a2, _⟩ := K0xxx.out.cells
      simp only at a0 a1 a2
      have HR3 : Hid (RdLL ((((W3.alloc (.cells #[.int .i64 48] 3)).alloc (.cells #[.int .i64 5] 3)).alloc (.cells #[.int .i64 (x : Int)] 3)).alloc (.cells #[.slice (some ⟨W3.heap.size, 0, none⟩) 1 1, .slice (some ⟨W3.heap.size + 1, 0, none⟩) 1 1, .slice (some ⟨W3.heap.size + 1 + 1, 0, none⟩) 1 1] 47)) 0 ((((W3.alloc (.cells #[.int .i64 48] 3)).alloc (.cells #[.int .i64 5] 3)).alloc (.cells #[.int .i64 (x : Int)] 3)).alloc (.cells #[.slice (some ⟨W3.heap.size, 0, none⟩) 1 1, .slice (some ⟨W3.heap.size + 1, 0, none⟩) 1 1, .slice (some ⟨W3.heap.size + 1 + 1, 0, none⟩) 1 1] 47)).heap.size (.slice (some ⟨W3.heap.size + 1 + 1 + 1, 0, none⟩) 3 3) [[48], [5], [(x : Int)]]) := Lib.hid ((new3 W3 48 5 (x : Int) 3 47).rdll)
      have HTA3 : Hid (TabP ((((W3.alloc (.cells #[.int .i64 48] 3)).alloc (.cells #[.int .i64 5] 3)).alloc (.cells #[.int .i64 (x : Int)] 3)).alloc (.cells #[.slice (some ⟨W3.heap.size, 0, none⟩) 1 1, .slice (some ⟨W3.heap.size + 1, 0, none⟩) 1 1, .slice (some ⟨W3.heap.size + 1 + 1, 0, none⟩) 1 1] 47))) := Lib.hid (((((KTxxx.out).alloc _).alloc _).alloc _).alloc _)
      have HBA3 : Hid (Below W3.heap.size W3 ((((W3.alloc (.cells #[.int .i64 48] 3)).alloc (.cells #[.int .i64 5] 3)).alloc (.cells #[.int .i64 (x : Int)] 3)).alloc (.cells #[.slice (some ⟨W3.heap.size, 0, none⟩) 1 1, .slice (some ⟨W3.heap.size + 1, 0, none⟩) 1 1, .slice (some ⟨W3.heap.size + 1 + 1, 0, none⟩) 1 1] 47))) := Lib.hid (((((Below.refl _ _).alloc (Nat.le_refl _) _).alloc (by simp; try omega) _).alloc (by simp; try omega) _).alloc (by simp; try omega) _)
      go_wp2_with fail
      refine (apply_any ⟨pf, pb, pl⟩ [[48], [5], [(x : Int)]] _ _ _ rfl _ HR3.out HTA3.out (show 3 ≤ maxLen by decide)).mono ?_
      rintro e v3 ⟨rfl, hb⟩
      simp only [QE.out]
      have hbw : Below W3.heap.size W3 v3 := HBA3.out.trans (hb.mono HBA3.out.size)
      have K0xxxx : Hid (PenAt (v3.alloc (.cells #[.int .i64 (pf), .int .i64 ((x : Int) + 1), .int .i64 (pl)] 40)) w.heap.size ⟨pf, pb, pl⟩) := Lib.hid (bk_alloc (K0xxx.out.past hbw) _)
      have K1xxxx : Hid (PenAt (v3.alloc (.cells #[.int .i64 (pf), .int .i64 ((x : Int) + 1), .int .i64 (pl)] 40)) w2.heap.size ⟨pf, rgbF x y z, pl⟩) := Lib.hid (bk_alloc (K1xxx.out.past hbw) _)
      have K2xxxx : Hid (PenAt (v3.alloc (.cells #[.int .i64 (pf), .int .i64 ((x : Int) + 1), .int .i64 (pl)] 40)) (w2.heap.size + 1) ⟨pf, (x : Int) + 1, pl⟩) := Lib.hid (bk_alloc (K2xxx.out.past hbw) _)
      have J0xxx : Hid (PenAt (v3.alloc (.cells #[.int .i64 (pf), .int .i64 ((x : Int) + 1), .int .i64 (pl)] 40)) v0.heap.size ⟨pf, rgbF x y z, pl⟩) := Lib.hid (bk_alloc (J0xx.out.past hbw) _)
      have J1xx : Hid (PenAt (v3.alloc (.cells #[.int .i64 (pf), .int .i64 ((x : Int) + 1), .int .i64 (pl)] 40)) v1.heap.size ⟨pf, rgbF x y z, pl⟩) := Lib.hid (bk_alloc (J1x.out.past hbw) _)
      have J2x : Hid (PenAt (v3.alloc (.cells #[.int .i64 (pf), .int .i64 ((x : Int) + 1), .int .i64 (pl)] 40)) v2.heap.size ⟨pf, rgbF x y z, pl⟩) := Lib.hid (bk_alloc (J2.out.past hbw) _)
      have J3 : Hid (PenAt (v3.alloc (.cells #[.int .i64 (pf), .int .i64 ((x : Int) + 1), .int .i64 (pl)] 40)) v3.heap.size ⟨pf, (x : Int) + 1, pl⟩) := Lib.hid (heap_alloc_new v3 _)
      have KTxxxx : Hid (TabP (v3.alloc (.cells #[.int .i64 (pf), .int .i64 ((x : Int) + 1), .int .i64 (pl)] 40))) := Lib.hid ((KTxxx.out.below hbw).alloc _)
      have KBxxxx : Hid (Below w.heap.size w (v3.alloc (.cells #[.int .i64 (pf), .int .i64 ((x : Int) + 1), .int .i64 (pl)] 40))) := Lib.hid ((KBxxx.out.trans (hbw.mono KBxxx.out.size)).alloc (by have := KBxxx.out.size; have := hbw.size; omega) _)
      clear hb hbw a0 a1 a2 HR3 HTA3 HBA3 K0xxx K1xxx K2xxx J0xx J1x J2 KTxxx KBxxx
      go_upto_region 22 with (fail)
      generalize hW : v3.alloc (.cells #[.int .i64 (pf), .int .i64 ((x : Int) + 1), .int .i64 (pl)] 40) = W4 at *
      clear hW
      obtain ⟨a0, a1, a2, _⟩ := K0xxxx.out.cells
      simp only at a0 a1 a2
      have HR4 : Hid (RdLL ((W4.alloc (.cells #[.int .i64 48, .int .i64 5, .int .i64 (x : Int)] 3)).alloc (.cells #[.slice (some ⟨W4.heap.size, 0, none⟩) 3 3] 47)) 0 ((W4.alloc (.cells #[.int .i64 48, .int .i64 5, .int .i64 (x : Int)] 3)).alloc (.cells #[.slice (some ⟨W4.heap.size, 0, none⟩) 3 3] 47)).heap.size (.slice (some ⟨W4.heap.size + 1, 0, none⟩) 1 1) [[48, 5, (x : Int)]]) := Lib.hid (rd_row W4 [48, 5, (x : Int)] 3 47)
      have HTA4 : Hid (TabP ((W4.alloc (.cells #[.int .i64 48, .int .i64 5, .int .i64 (x : Int)] 3)).alloc (.cells #[.slice (some ⟨W4.heap.size, 0, none⟩) 3 3] 47))) := Lib.hid (((KTxxxx.out).alloc _).alloc _)
      have HBA4 : Hid (Below W4.heap.size W4 ((W4.alloc (.cells #[.int .i64 48, .int .i64 5, .int .i64 (x : Int)] 3)).alloc (.cells #[.slice (some ⟨W4.heap.size, 0, none⟩) 3 3] 47))) := Lib.hid (((Below.refl _ _).alloc (Nat.le_refl _) _).alloc (by simp; try omega) _)
      go_wp2_with fail
      refine (apply_any ⟨pf, pb, pl⟩ [[48, 5, (x : Int)]] _ _ _ rfl _ HR4.out HTA4.out (show 1 ≤ maxLen by decide)).mono ?_
      rintro e v4 ⟨rfl, hb⟩
      simp only [QF.out]
      have hbw : Below W4.heap.size W4 v4 := HBA4.out.trans (hb.mono HBA4.out.size)
      have K0xxxxx : Hid (PenAt (v4.alloc (.cells #[.int .i64 (pf), .int .i64 ((x : Int) + 1), .int .i64 (pl)] 40)) w.heap.size ⟨pf, pb, pl⟩) := Lib.hid (bk_alloc (K0xxxx.out.past hbw) _)
      have K1xxxxx : Hid (PenAt (v4.alloc (.cells #[.int .i64 (pf), .int .i64 ((x : Int) + 1), .int .i64 (pl)] 40)) w2.heap.size ⟨pf, rgbF x y z, pl⟩) := Lib.hid (bk_alloc (K1xxxx.out.past hbw) _)
      have K2xxxxx : Hid (PenAt (v4.alloc (.cells #[.int .i64 (pf), .int .i64 ((x : Int) + 1), .int .i64 (pl)] 40)) (w2.heap.size + 1) ⟨pf, (x : Int) + 1, pl⟩) := Lib.hid (bk_alloc (K2xxxx.out.past hbw) _)
      have J0xxxx : Hid (PenAt (v4.alloc (.cells #[.int .i64 (pf), .int .i64 ((x : Int) + 1), .int .i64 (pl)] 40)) v0.heap.size ⟨pf, rgbF x y z, pl⟩) := Lib.hid (bk_alloc (J0xxx.out.past hbw) _)
      have J1xxx : Hid (PenAt (v4.alloc (.cells #[.int .i64 (pf), .int .i64 ((x : Int) + 1), .int .i64 (pl)] 40)) v1.heap.size ⟨pf, rgbF x y z, pl⟩) := Lib.hid (bk_alloc (J1xx.out.past hbw) _)
      have J2xx : Hid (PenAt (v4.alloc (.cells #[.int .i64 (pf), .int .i64 ((x : Int) + 1), .int .i64 (pl)] 40)) v2.heap.size ⟨pf, rgbF x y z, pl⟩) := Lib.hid (bk_alloc (J2x.out.past hbw) _)
      have J3x : Hid (PenAt (v4.alloc (.cells #[.int .i64 (pf), .int .i64 ((x : Int) + 1), .int .i64 (pl)] 40)) v3.heap.size ⟨pf, (x : Int) + 1, pl⟩) := Lib.hid (bk_alloc (J3.out.past hbw) _)
      have J4 : Hid (PenAt (v4.alloc (.cells #[.int .i64 (pf), .int .i64 ((x : Int) + 1), .int .i64 (pl)] 40)) v4.heap.size ⟨pf, (x : Int) + 1, pl⟩) := Lib.hid (heap_alloc_new v4 _)
      have KTxxxxx : Hid (TabP (v4.alloc (.cells #[.int .i64 (pf), .int .i64 ((x : Int) + 1), .int .i64 (pl)] 40))) := Lib.hid ((KTxxxx.out.below hbw).alloc _)
      have KBxxxxx : Hid (Below w.heap.size w (v4.alloc (.cells #[.int .i64 (pf), .int .i64 ((x : Int) + 1), .int .i64 (pl)] 40))) := Lib.hid ((KBxxxx.out.trans (hbw.mono KBxxxx.out.size)).alloc (by have := KBxxxx.out.size; have := hbw.size; omega) _)
      clear hb hbw a0 a1 a2 HR4 HTA4 HBA4 K0xxxx K1xxxx K2xxxx J0xxx J1xx J2x J3 KTxxxx KBxxxx
      go_upto_region 23 with (fail)
      generalize hW : v4.alloc (.cells #[.int .i64 (pf), .int .i64 ((x : Int) + 1), .int .i64 (pl)] 40) = W5 at *
      clear hW
      obtain ⟨m10, m11, m12, _⟩ := K1xxxxx.out.cells
      simp only at m10 m11 m12
      obtain ⟨m20, m21, m22, _⟩ := K2xxxxx.out.cells
      simp only at m20 m21 m22
      obtain ⟨m30, m31, m32, _⟩ := J0xxxx.out.cells
      simp only at m30 m31 m32
      obtain ⟨m40, m41, m42, _⟩ := J1xxx.out.cells
      simp only at m40 m41 m42
      obtain ⟨m50, m51, m52, _⟩ := J2xx.out.cells
      simp only at m50 m51 m52
      obtain ⟨m60, m61, m62, _⟩ := J3x.out.cells
      simp only at m60 m61 m62
      obtain ⟨m70, m71, m72, _⟩ := J4.out.cells
      simp only at m70 m71 m72
      go_wp2_with (first
        | (go_at_call 33; refine (rgb_any _ _ _ _).mono ?_; rintro e w3 ⟨rfl, rfl⟩)
        | (go_at_call 34; refine (parts_any _ _).mono ?_; rintro e w3 ⟨rfl, rfl⟩; simp only [QP.out]))
      go_ret
      exact ⟨rfl, KBxxxxx.out⟩
end Go.Proofs.YtcempbgbdlmjfaaDoor
