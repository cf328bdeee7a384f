/-
  pen: the walk of PenFlags.
-/
import Derived.Test.YtcempbgbdlmjfaaDoorPeBack
import Derived.Test.YtcempbgbdlmjfaaDoorPeColPlain
import Derived.Deep.RegionHeld3
import Derived.Deep.DeepCutAuto
namespace Go.Proofs.YtcempbgbdlmjfaaDoor
open Go.RowKit

theorem rd_lit {w : World} {g1 g2 : Nat} {t1 t2 : TypeId} {x : Int} (h2 : w.heap[g2]? = some (.cells #[.slice (some ⟨g1, 0, none⟩) 1 1] t2 (0, 0))) (h1 : w.heap[g1]? = some (.cells #[.int .i64 x] t1 (0, 0))) :
    RdLL w 0 w.heap.size (.slice (some ⟨g2, 0, none⟩) 1 1) [[x]] := by
  refine ⟨_, 1, [.slice (some ⟨g1, 0, none⟩) 1 1], rfl, by simp, rd_of_block (cs := [.slice (some ⟨g1, 0, none⟩) 1 1]) h2 (bk_lt h2), fun _ _ _ => Nat.zero_le _, rfl, fun i hi => ?_⟩
  obtain rfl : i = 0 := by simp at hi; omega
  exact ⟨_, 1, rfl, Nat.le_refl _, rd_of_block (cs := nC [x]) h1 (bk_lt h1), fun _ _ _ => Nat.zero_le _⟩
theorem tbl_at (l : List Int) (i : Nat) (hi : i < 7) (hl : l.length = 7 := by rfl) : (nC l).toArray[i]? = some (.int .i64 (l.getD i 0)) := by
  rw [List.getElem?_toArray, nC_get l i (by omega)]
  rw [List.getD_eq_getElem?_getD, List.getElem?_eq_getElem (by omega)]; rfl
theorem rd_A (w : World) (x : Int) (t1 t2 : TypeId) : RdLL ((w.alloc (.cells #[.int .i64 x] t1)).alloc (.cells #[.slice (some ⟨w.heap.size, 0, none⟩) 1 1] t2)) 0 ((w.alloc (.cells #[.int .i64 x] t1)).alloc (.cells #[.slice (some ⟨w.heap.size, 0, none⟩) 1 1] t2)).heap.size (.slice (some ⟨w.heap.size + 1, 0, none⟩) 1 1) [[x]] :=
  rd_lit (g1 := w.heap.size) (heap_new_at (by simp)) (bk_alloc (heap_new_at rfl) _)
theorem rd_B (w : World) (x : Int) (o : Obj) (t1 t2 : TypeId) : RdLL (((w.alloc o).alloc (.cells #[.int .i64 x] t1)).alloc (.cells #[.slice (some ⟨w.heap.size + 1, 0, none⟩) 1 1] t2)) 0 (((w.alloc o).alloc (.cells #[.int .i64 x] t1)).alloc (.cells #[.slice (some ⟨w.heap.size + 1, 0, none⟩) 1 1] t2)).heap.size (.slice (some ⟨w.heap.size + 1 + 1, 0, none⟩) 1 1) [[x]] :=
  rd_lit (g1 := w.heap.size + 1) (heap_new_at (by simp)) (bk_alloc (heap_new_at (by simp)) _)
theorem rd_C (w : World) (x : Int) (o : Obj) (t1 t2 : TypeId) : RdLL (((w.alloc (.cells #[.int .i64 x] t1)).alloc o).alloc (.cells #[.slice (some ⟨w.heap.size, 0, none⟩) 1 1] t2)) 0 (((w.alloc (.cells #[.int .i64 x] t1)).alloc o).alloc (.cells #[.slice (some ⟨w.heap.size, 0, none⟩) 1 1] t2)).heap.size (.slice (some ⟨w.heap.size + 1 + 1, 0, none⟩) 1 1) [[x]] :=
  rd_lit (g1 := w.heap.size) (heap_new_at (by simp)) (bk_alloc (bk_alloc (heap_new_at rfl) _) _)
theorem rd_D (w : World) (x : Int) (o : Obj) (t1 t2 : TypeId) : RdLL (((w.alloc (.cells #[.int .i64 x] t1)).alloc (.cells #[.slice (some ⟨w.heap.size, 0, none⟩) 1 1] t2)).alloc o) 0 (((w.alloc (.cells #[.int .i64 x] t1)).alloc (.cells #[.slice (some ⟨w.heap.size, 0, none⟩) 1 1] t2)).alloc o).heap.size (.slice (some ⟨w.heap.size + 1, 0, none⟩) 1 1) [[x]] :=
  rd_lit (g1 := w.heap.size) (bk_alloc (heap_new_at (by simp)) _) (bk_alloc (bk_alloc (heap_new_at rfl) _) _)
theorem cell_da {Y : World} {o : Obj} {a : Addr} {v : Value} (h : Y.drew.cell? a = some v) : (Y.alloc o).drew.cell? a = some v := by
  have h' : Y.cell? a = some v := h
  exact (World.cell?_alloc_lt Y o a (World.block_lt_of_cell? Y a h')).trans h'
theorem below_da {W Y : World} {o : Obj} (h : Below W.heap.size W Y.drew) : Below W.heap.size W (Y.alloc o).drew := by
  have h' : Below W.heap.size W Y := ⟨h.os, h.tape, h.output, h.size, h.block⟩
  exact (h'.alloc h'.size o).drew
theorem cell_3 {w : World} {g : Nat} {x y z v : Value} {a : Addr} (h : w.cell? a = some v) (hne : g ≠ a.block) : (((w.setCell ⟨g, 0, none⟩ x).setCell ⟨g, 1, none⟩ y).setCell ⟨g, 2, none⟩ z).cell? a = some v := by
  rw [World.cell?_setCell_far _ _ _ _ hne, World.cell?_setCell_far _ _ _ _ hne, World.cell?_setCell_far _ _ _ _ hne]; exact h
theorem below_3 {W w : World} {g : Nat} {x y z : Value} (h : Below W.heap.size W w) (hg : W.heap.size ≤ g) : Below W.heap.size W (((w.setCell ⟨g, 0, none⟩ x).setCell ⟨g, 1, none⟩ y).setCell ⟨g, 2, none⟩ z) :=
  ((h.setCell hg _).setCell hg _).setCell hg _
theorem RdLL.drew0 {w : World} {lo : Nat} {v : Value} {L : List (List Int)} (h : RdLL w lo w.heap.size v L) : RdLL w.drew lo w.drew.heap.size v L := h
theorem penAt_drew {w : World} {b : Nat} {p : Pn} (h : w.heap[b]? = some (.cells #[.int .i64 p.fg, .int .i64 p.bg, .int .i64 p.fl] 40 (0, 0))) : PenAt w.drew b p := h
/-- a pen in a block of its own -/
def PenNew (W wx : World) (s : Value) (p : Pn) : Prop := ∃ g, s = .pointer (some ⟨g, 0, none⟩) ∧ W.heap.size ≤ g ∧ PenAt wx g p ∧ Below W.heap.size W wx
set_option maxRecDepth 100000 in
set_option maxHeartbeats 12800000 in
theorem penfl_walk (p : Pn) (k : Int) (w : World) (hT : TabP w) : Calls Tryd.prog 8 #[.agg #[.int .i64 p.fg, .int .i64 p.bg, .int .i64 p.fl], .int .i64 k] w fun e w' => e = .returned (.bool true) ∧ Below w.heap.size w w' := by
  have hlt := hT.lt
  have HP : Hid (PenAt (w.alloc (.cells #[.int .i64 p.fg, .int .i64 p.bg, .int .i64 p.fl] 40)) w.heap.size p) := Lib.hid (heap_alloc_new w _)
  have HT := Lib.hid (hT.alloc (.cells #[.int .i64 p.fg, .int .i64 p.bg, .int .i64 p.fl] 40))
  have HB0 : Hid (Below w.heap.size w (w.alloc (.cells #[.int .i64 p.fg, .int .i64 p.bg, .int .i64 p.fl] 40))) := Lib.hid ((Below.refl _ _).alloc (Nat.le_refl _) _)
  clear hT
  obtain ⟨m, hm, hm1⟩ := and_16 k
  obtain ⟨sp, hsp⟩ : ∃ s, sanePn p = s := ⟨_, rfl⟩
  obtain ⟨pf, pb, pl⟩ := p
  simp only at HT HB0 HP ⊢
  have HSP := Lib.hid hsp
  clear hsp
  cases sp with
  | false =>
    clear hm
    go_enter Tryd.func8, Tryd.ntmps8
    go_wp2_with fail
    refine (awake7_any _ HT.out).mono ?_
    rintro e w1 ⟨rfl, hb1⟩
    have hp1 := HP.out.past hb1
    obtain ⟨c0, c1, c2, _⟩ := hp1.cells
    simp only at c0 c1 c2
    have HB1 := Lib.hid (HB0.out.trans (hb1.mono HB0.out.size))
    clear hp1 hb1
    go_wp2_with fail
    refine (sane7_any ⟨pf, pb, pl⟩ _).mono ?_
    rintro e w2 ⟨rfl, hb2⟩
    simp only [HSP.out]
    have HB2 := Lib.hid (HB1.out.trans (hb2.mono HB1.out.size))
    clear hb2
    go_wp2_with fail
    go_ret
    exact ⟨rfl, HB2.out⟩
  | true =>
    obtain ⟨i, hi, hi7⟩ : ∃ i : Nat, (m : Int) % 7 = (i : Int) ∧ i < 7 := ⟨m % 7, by omega, by omega⟩
    obtain ⟨l1, l2, l3⟩ := flags_law ⟨pf, pb, pl⟩ HSP.out i hi7
    have L1 := Lib.hid l1; have L2 := Lib.hid l2; have L3 := Lib.hid l3
    simp only at L1 L2 L3
    clear l1 l2 l3
    go_enter Tryd.func8, Tryd.ntmps8
    go_wp2_with fail
    refine (awake7_any _ HT.out).mono ?_
    rintro e w1 ⟨rfl, hb1⟩
    have hp1 := HP.out.past hb1
    obtain ⟨c0, c1, c2, _⟩ := hp1.cells
    simp only at c0 c1 c2
    have HB1 := Lib.hid (HB0.out.trans (hb1.mono HB0.out.size)); have HT1 := Lib.hid (HT.out.below hb1)
    have HP1 := Lib.hid hp1
    clear hp1 hb1
    go_wp2_with fail
    refine (sane7_any ⟨pf, pb, pl⟩ _).mono ?_
    rintro e w2 ⟨rfl, hb2⟩
    simp only [HSP.out]
    have hp2 := HP1.out.past hb2
    have HB2 := Lib.hid (HB1.out.trans (hb2.mono HB1.out.size)); have HT2 := Lib.hid (HT1.out.below hb2)
    have HP2 := Lib.hid hp2
    have hsz2 := bk_lt hp2
    clear hp2 hb2 c0 c1 c2
    go_upto_region 8 with (fail)
    simp only [hi]
    have K0 : Hid (PenAt (((w2.alloc (.cells #[.int .i64 1, .int .i64 2, .int .i64 3, .int .i64 5, .int .i64 7, .int .i64 8, .int .i64 9] 3)).alloc (.cells #[.int .i64 22, .int .i64 22, .int .i64 23, .int .i64 25, .int .i64 27, .int .i64 28, .int .i64 29] 3)).alloc (.cells #[.int .i64 1, .int .i64 2, .int .i64 4, .int .i64 16, .int .i64 32, .int .i64 64, .int .i64 128] 3)) w.heap.size ⟨pf, pb, pl⟩) := Lib.hid (bk_alloc (bk_alloc (bk_alloc HP2.out _) _) _)
    have N1 : Hid ((((w2.alloc (.cells #[.int .i64 1, .int .i64 2, .int .i64 3, .int .i64 5, .int .i64 7, .int .i64 8, .int .i64 9] 3)).alloc (.cells #[.int .i64 22, .int .i64 22, .int .i64 23, .int .i64 25, .int .i64 27, .int .i64 28, .int .i64 29] 3)).alloc (.cells #[.int .i64 1, .int .i64 2, .int .i64 4, .int .i64 16, .int .i64 32, .int .i64 64, .int .i64 128] 3)).heap[w2.heap.size]? = some (.cells (nC onT).toArray 3 (0, 0))) := Lib.hid (bk_alloc (bk_alloc (heap_alloc_new w2 _) _) _)
    have N2 : Hid ((((w2.alloc (.cells #[.int .i64 1, .int .i64 2, .int .i64 3, .int .i64 5, .int .i64 7, .int .i64 8, .int .i64 9] 3)).alloc (.cells #[.int .i64 22, .int .i64 22, .int .i64 23, .int .i64 25, .int .i64 27, .int .i64 28, .int .i64 29] 3)).alloc (.cells #[.int .i64 1, .int .i64 2, .int .i64 4, .int .i64 16, .int .i64 32, .int .i64 64, .int .i64 128] 3)).heap[w2.heap.size + 1]? = some (.cells (nC offT).toArray 3 (0, 0))) := Lib.hid (bk_alloc (heap_new_at (by simp)) _)
    have N3 : Hid ((((w2.alloc (.cells #[.int .i64 1, .int .i64 2, .int .i64 3, .int .i64 5, .int .i64 7, .int .i64 8, .int .i64 9] 3)).alloc (.cells #[.int .i64 22, .int .i64 22, .int .i64 23, .int .i64 25, .int .i64 27, .int .i64 28, .int .i64 29] 3)).alloc (.cells #[.int .i64 1, .int .i64 2, .int .i64 4, .int .i64 16, .int .i64 32, .int .i64 64, .int .i64 128] 3)).heap[w2.heap.size + 1 + 1]? = some (.cells (nC bitT).toArray 3 (0, 0))) := Lib.hid (heap_new_at (by simp))
    have KT : Hid (TabP (((w2.alloc (.cells #[.int .i64 1, .int .i64 2, .int .i64 3, .int .i64 5, .int .i64 7, .int .i64 8, .int .i64 9] 3)).alloc (.cells #[.int .i64 22, .int .i64 22, .int .i64 23, .int .i64 25, .int .i64 27, .int .i64 28, .int .i64 29] 3)).alloc (.cells #[.int .i64 1, .int .i64 2, .int .i64 4, .int .i64 16, .int .i64 32, .int .i64 64, .int .i64 128] 3))) := Lib.hid (((HT2.out.alloc _).alloc _).alloc _)
    have KB : Hid (Below w.heap.size w (((w2.alloc (.cells #[.int .i64 1, .int .i64 2, .int .i64 3, .int .i64 5, .int .i64 7, .int .i64 8, .int .i64 9] 3)).alloc (.cells #[.int .i64 22, .int .i64 22, .int .i64 23, .int .i64 25, .int .i64 27, .int .i64 28, .int .i64 29] 3)).alloc (.cells #[.int .i64 1, .int .i64 2, .int .i64 4, .int .i64 16, .int .i64 32, .int .i64 64, .int .i64 128] 3))) := Lib.hid (((HB2.out.alloc HB2.out.size _).alloc (by have := HB2.out.size; simp; omega) _).alloc (by have := HB2.out.size; simp; omega) _)
    have hz0 : w2.heap.size + 2 < (((w2.alloc (.cells #[.int .i64 1, .int .i64 2, .int .i64 3, .int .i64 5, .int .i64 7, .int .i64 8, .int .i64 9] 3)).alloc (.cells #[.int .i64 22, .int .i64 22, .int .i64 23, .int .i64 25, .int .i64 27, .int .i64 28, .int .i64 29] 3)).alloc (.cells #[.int .i64 1, .int .i64 2, .int .i64 4, .int .i64 16, .int .i64 32, .int .i64 64, .int .i64 128] 3)).heap.size := by simp
    generalize hW : (((w2.alloc (.cells #[.int .i64 1, .int .i64 2, .int .i64 3, .int .i64 5, .int .i64 7, .int .i64 8, .int .i64 9] 3)).alloc (.cells #[.int .i64 22, .int .i64 22, .int .i64 23, .int .i64 25, .int .i64 27, .int .i64 28, .int .i64 29] 3)).alloc (.cells #[.int .i64 1, .int .i64 2, .int .i64 4, .int .i64 16, .int .i64 32, .int .i64 64, .int .i64 128] 3)) = W0 at *
    clear hW
    have jo : (nC onT).toArray[i]? = some (.int .i64 (onT.getD i 0)) := tbl_at onT i hi7
    have jf : (nC offT).toArray[i]? = some (.int .i64 (offT.getD i 0)) := tbl_at offT i hi7
    have jb : (nC bitT).toArray[i]? = some (.int .i64 (bitT.getD i 0)) := tbl_at bitT i hi7
    have n1 := bk_cell N1.out i _ jo
    obtain ⟨k0, k1, k2, _⟩ := K0.out.cells
    simp only at k0 k1 k2
    have JF := Lib.hid jf; have JB := Lib.hid jb
    clear jo jf jb
    have i0 : (0 : Int) ≤ (i : Int) := by omega
    have i1 : (i : Int) < 7 := by omega
    obtain ⟨on, hon⟩ : ∃ on, onT.getD i 0 = on := ⟨_, rfl⟩
    rw [hon] at n1 L1
    obtain ⟨bt0, hbt⟩ : ∃ b, bitT.getD i 0 = b := ⟨_, rfl⟩
    rw [hbt] at L1 L2 L3 JB
    clear hon
    obtain ⟨fl1, hfl1⟩ : ∃ f, bits .or .i64 pl bt0 = f := ⟨_, rfl⟩
    rw [hfl1] at L1 L2 L3
    have HFL1 := Lib.hid hfl1
    obtain ⟨mm, m3, mb⟩ := msk_mem i hi7
    have hflb := ((sane_iff _).1 HSP.out).2.2
    have hsb := sub_bd pl hflb.1 hflb.2 _ mm
    have HSB := Lib.hid hsb; have M3 := Lib.hid m3; have MB := Lib.hid mb
    rw [hbt] at MB
    clear hfl1 hi hi7 hbt mm m3 mb hflb hsb
    go_cut [10] (fun s10 wx => PenNew W0 wx s10 ⟨pf, pb, fl1⟩)
    case first =>
      have tok := True.intro
      have hW0 : Below W0.heap.size W0 W0.drew := (Below.refl _ _).drew
      go_region_held3 (fun w' => w'.cell? ⟨w.heap.size, 0, none⟩ = some (.int .i64 pf) ∧ w'.cell? ⟨w.heap.size, 1, none⟩ = some (.int .i64 pb) ∧ w'.cell? ⟨w.heap.size, 2, none⟩ = some (.int .i64 pl) ∧ w'.cell? ⟨w2.heap.size, i, none⟩ = some (.int .i64 on) ∧ Below W0.heap.size W0 w')
        (first | (go_split_ands; refine ⟨?_, ?_, ?_, ?_, ?_⟩ <;> first | with_reducible assumption | with_reducible exact cell_da (by assumption) | with_reducible exact below_da (by assumption) | (with_reducible refine cell_3 (by assumption) ?_; dsimp only; omega) | (with_reducible refine below_3 (by assumption) ?_; omega) | (rw [World.cell?_alloc_some _ _ _ (by simp [*])]; assumption) | exact Below.drew (Below.refl _ _) | exact Below.drew ((Below.refl _ _).alloc (Nat.le_refl _) _) | exact Below.alloc (by assumption) (Below.size (by assumption)) _ | exact (World.cell?_setCell_far _ _ _ _ (by first | (simp; omega) | (dsimp only; omega))).trans (by assumption) | (refine Below.setCell (by assumption) ?_ _; first | exact Nat.le_refl _ | (dsimp only; omega) | (simp; omega))) | go_keep)
        (first | (go_at_call 32; have _t := tok; refine (apply_any ⟨pf, pb, pl⟩ [[on]] _ 1 _ rfl _ (by first | with_reducible exact RdLL.drew0 (rd_A _ _ _ _) | with_reducible exact RdLL.drew0 (rd_B _ _ _ _ _) | with_reducible exact RdLL.drew0 (rd_C _ _ _ _ _) | with_reducible exact RdLL.drew0 (rd_D _ _ _ _ _)) (KT.out.below (by go_split_ands; assumption)) (show 1 ≤ maxLen by decide)).mono ?_; rintro e w4 ⟨rfl, hb2⟩; simp only [L1.out]; (try (have g2 := PenAt.past (penAt_drew (b := W0.heap.size) (p := ⟨0, 0, 0⟩) (by first | ((with_reducible refine heap_new_at ?_); (first | exact rfl | exact World.size_alloc _ _ | exact (World.size_alloc _ _).trans (congrArg (· + 1) (World.size_alloc _ _)))) | ((with_reducible refine bk_alloc (heap_new_at ?_) _); (first | exact rfl | exact World.size_alloc _ _ | exact (World.size_alloc _ _).trans (congrArg (· + 1) (World.size_alloc _ _)))) | ((with_reducible refine bk_alloc (bk_alloc (heap_new_at ?_) _) _); (first | exact rfl | exact World.size_alloc _ _ | exact (World.size_alloc _ _).trans (congrArg (· + 1) (World.size_alloc _ _)))))) hb2; obtain ⟨z0, z1, z2, z3, z4, z5⟩ := g2.cells; simp only at z0 z1 z2; have G2 := Lib.hid g2; clear g2)); (try (have g2 := PenAt.past (penAt_drew (b := W0.heap.size + 1) (p := ⟨0, 0, 0⟩) (by first | ((with_reducible refine heap_new_at ?_); (first | exact rfl | exact World.size_alloc _ _ | exact (World.size_alloc _ _).trans (congrArg (· + 1) (World.size_alloc _ _)))) | ((with_reducible refine bk_alloc (heap_new_at ?_) _); (first | exact rfl | exact World.size_alloc _ _ | exact (World.size_alloc _ _).trans (congrArg (· + 1) (World.size_alloc _ _)))) | ((with_reducible refine bk_alloc (bk_alloc (heap_new_at ?_) _) _); (first | exact rfl | exact World.size_alloc _ _ | exact (World.size_alloc _ _).trans (congrArg (· + 1) (World.size_alloc _ _)))))) hb2; obtain ⟨z0, z1, z2, z3, z4, z5⟩ := g2.cells; simp only at z0 z1 z2; have G2 := Lib.hid g2; clear g2)); (try (have g2 := PenAt.past (penAt_drew (b := W0.heap.size + 1 + 1) (p := ⟨0, 0, 0⟩) (by first | ((with_reducible refine heap_new_at ?_); (first | exact rfl | exact World.size_alloc _ _ | exact (World.size_alloc _ _).trans (congrArg (· + 1) (World.size_alloc _ _)))) | ((with_reducible refine bk_alloc (heap_new_at ?_) _); (first | exact rfl | exact World.size_alloc _ _ | exact (World.size_alloc _ _).trans (congrArg (· + 1) (World.size_alloc _ _)))) | ((with_reducible refine bk_alloc (bk_alloc (heap_new_at ?_) _) _); (first | exact rfl | exact World.size_alloc _ _ | exact (World.size_alloc _ _).trans (congrArg (· + 1) (World.size_alloc _ _)))))) hb2; obtain ⟨z0, z1, z2, z3, z4, z5⟩ := g2.cells; simp only at z0 z1 z2; have G2 := Lib.hid g2; clear g2)); have mw0 : w4.cell? ⟨w.heap.size, 0, none⟩ = some (.int .i64 pf) := past hb2 (by go_split_ands; assumption); have mw1 : w4.cell? ⟨w.heap.size, 1, none⟩ = some (.int .i64 pb) := past hb2 (by go_split_ands; assumption); have mw2 : w4.cell? ⟨w.heap.size, 2, none⟩ = some (.int .i64 pl) := past hb2 (by go_split_ands; assumption); have mw3 : w4.cell? ⟨w2.heap.size, i, none⟩ = some (.int .i64 on) := past hb2 (by go_split_ands; assumption); have mB : Below W0.heap.size W0 w4 := bt (by go_split_ands; assumption) hb2 (Below.size (by go_split_ands; assumption)); have m4 := mB.size))
      all_goals
        go_wp2_with fail
        go_meet
        case rel =>
          first
            | exact ⟨_, rfl, m4, heap_alloc_new _ _, mB.alloc mB.size _⟩
            | exact ⟨_, rfl, by omega, G2.out.put pf pb fl1, below_3 mB (by omega)⟩
    case rest =>
      obtain ⟨ga, rfl, hga, hpa, hbx⟩ := hcut
      have KT1 := Lib.hid (KT.out.below hbx)
      have KB1 := Lib.hid (KB.out.trans (hbx.mono KB.out.size))
      have KA := Lib.hid hpa
      have KP := Lib.hid (K0.out.past hbx)
      have n2 := bk_cell (bk_past N2.out hbx (Nat.le_refl _)) i _ JF.out
      have NB := Lib.hid (bk_cell (bk_past N3.out hbx (Nat.le_refl _)) i _ JB.out)
      have hz1 : ga < wc.heap.size := bk_lt hpa
      obtain ⟨of, hof⟩ : ∃ o, offT.getD i 0 = o := ⟨_, rfl⟩
      rw [hof] at n2 L2
      obtain ⟨ms, hms⟩ : ∃ o, mskT.getD i 0 = o := ⟨_, rfl⟩
      rw [hms] at L2 HSB M3 MB
      obtain ⟨fl2, hfl2⟩ : ∃ f, pl - bits .and .i64 pl ms = f := ⟨_, rfl⟩
      rw [hfl2] at L2 HSB
      have HFL2 := Lib.hid hfl2
      obtain ⟨a0, a1, a2, _⟩ := hpa.cells
      simp only at a0 a1 a2
      have hsz0 := hbx.size
      clear hof hms hfl2 hpa hbx n1 k0 k1 k2 JF JB L1 N1 N2 N3 KT KB K0
      obtain ⟨W1, hW1⟩ : ∃ W1, W1 = wc := ⟨_, rfl⟩
      subst hW1
      go_wp2_with fail
      go_cut [11] (fun s11 wx => PenNew W1 wx s11 ⟨pf, pb, fl2⟩)
      case first =>
        have tok := True.intro
        have hW1 : Below W1.heap.size W1 W1.drew := (Below.refl _ _).drew
        go_region_held3 (fun w' => w'.cell? ⟨ga, 0, none⟩ = some (.int .i64 pf) ∧ w'.cell? ⟨ga, 1, none⟩ = some (.int .i64 pb) ∧ w'.cell? ⟨ga, 2, none⟩ = some (.int .i64 fl1) ∧ w'.cell? ⟨w2.heap.size + 1, i, none⟩ = some (.int .i64 of) ∧ Below W1.heap.size W1 w')
          (first | (go_split_ands; refine ⟨?_, ?_, ?_, ?_, ?_⟩ <;> first | with_reducible assumption | with_reducible exact cell_da (by assumption) | with_reducible exact below_da (by assumption) | (with_reducible refine cell_3 (by assumption) ?_; dsimp only; omega) | (with_reducible refine below_3 (by assumption) ?_; omega) | (rw [World.cell?_alloc_some _ _ _ (by simp [*])]; assumption) | exact Below.drew (Below.refl _ _) | exact Below.drew ((Below.refl _ _).alloc (Nat.le_refl _) _) | exact Below.alloc (by assumption) (Below.size (by assumption)) _ | exact (World.cell?_setCell_far _ _ _ _ (by first | (simp; omega) | (dsimp only; omega))).trans (by assumption) | (refine Below.setCell (by assumption) ?_ _; first | exact Nat.le_refl _ | (dsimp only; omega) | (simp; omega))) | go_keep)
          (first | (go_at_call 32; have _t := tok; refine (apply_any ⟨pf, pb, fl1⟩ [[of]] _ 1 _ rfl _ (by first | with_reducible exact RdLL.drew0 (rd_A _ _ _ _) | with_reducible exact RdLL.drew0 (rd_B _ _ _ _ _) | with_reducible exact RdLL.drew0 (rd_C _ _ _ _ _) | with_reducible exact RdLL.drew0 (rd_D _ _ _ _ _)) (KT1.out.below (by go_split_ands; assumption)) (show 1 ≤ maxLen by decide)).mono ?_; rintro e w5 ⟨rfl, hb2⟩; simp only [L2.out]; (try (have g2 := PenAt.past (penAt_drew (b := W1.heap.size) (p := ⟨0, 0, 0⟩) (by first | ((with_reducible refine heap_new_at ?_); (first | exact rfl | exact World.size_alloc _ _ | exact (World.size_alloc _ _).trans (congrArg (· + 1) (World.size_alloc _ _)))) | ((with_reducible refine bk_alloc (heap_new_at ?_) _); (first | exact rfl | exact World.size_alloc _ _ | exact (World.size_alloc _ _).trans (congrArg (· + 1) (World.size_alloc _ _)))) | ((with_reducible refine bk_alloc (bk_alloc (heap_new_at ?_) _) _); (first | exact rfl | exact World.size_alloc _ _ | exact (World.size_alloc _ _).trans (congrArg (· + 1) (World.size_alloc _ _)))))) hb2; obtain ⟨z0, z1, z2, z3, z4, z5⟩ := g2.cells; simp only at z0 z1 z2; have G2 := Lib.hid g2; clear g2)); (try (have g2 := PenAt.past (penAt_drew (b := W1.heap.size + 1) (p := ⟨0, 0, 0⟩) (by first | ((with_reducible refine heap_new_at ?_); (first | exact rfl | exact World.size_alloc _ _ | exact (World.size_alloc _ _).trans (congrArg (· + 1) (World.size_alloc _ _)))) | ((with_reducible refine bk_alloc (heap_new_at ?_) _); (first | exact rfl | exact World.size_alloc _ _ | exact (World.size_alloc _ _).trans (congrArg (· + 1) (World.size_alloc _ _)))) | ((with_reducible refine bk_alloc (bk_alloc (heap_new_at ?_) _) _); (first | exact rfl | exact World.size_alloc _ _ | exact (World.size_alloc _ _).trans (congrArg (· + 1) (World.size_alloc _ _)))))) hb2; obtain ⟨z0, z1, z2, z3, z4, z5⟩ := g2.cells; simp only at z0 z1 z2; have G2 := Lib.hid g2; clear g2)); (try (have g2 := PenAt.past (penAt_drew (b := W1.heap.size + 1 + 1) (p := ⟨0, 0, 0⟩) (by first | ((with_reducible refine heap_new_at ?_); (first | exact rfl | exact World.size_alloc _ _ | exact (World.size_alloc _ _).trans (congrArg (· + 1) (World.size_alloc _ _)))) | ((with_reducible refine bk_alloc (heap_new_at ?_) _); (first | exact rfl | exact World.size_alloc _ _ | exact (World.size_alloc _ _).trans (congrArg (· + 1) (World.size_alloc _ _)))) | ((with_reducible refine bk_alloc (bk_alloc (heap_new_at ?_) _) _); (first | exact rfl | exact World.size_alloc _ _ | exact (World.size_alloc _ _).trans (congrArg (· + 1) (World.size_alloc _ _)))))) hb2; obtain ⟨z0, z1, z2, z3, z4, z5⟩ := g2.cells; simp only at z0 z1 z2; have G2 := Lib.hid g2; clear g2)); have mw0 : w5.cell? ⟨ga, 0, none⟩ = some (.int .i64 pf) := past hb2 (by go_split_ands; assumption); have mw1 : w5.cell? ⟨ga, 1, none⟩ = some (.int .i64 pb) := past hb2 (by go_split_ands; assumption); have mw2 : w5.cell? ⟨ga, 2, none⟩ = some (.int .i64 fl1) := past hb2 (by go_split_ands; assumption); have mw3 : w5.cell? ⟨w2.heap.size + 1, i, none⟩ = some (.int .i64 of) := past hb2 (by go_split_ands; assumption); have mB : Below W1.heap.size W1 w5 := bt (by go_split_ands; assumption) hb2 (Below.size (by go_split_ands; assumption)); have m4 := mB.size))
        all_goals
          go_wp2_with fail
          go_meet
          case rel =>
            first
              | exact ⟨_, rfl, m4, heap_alloc_new _ _, mB.alloc mB.size _⟩
              | exact ⟨_, rfl, by omega, G2.out.put pf pb fl2, below_3 mB (by omega)⟩
      case rest =>
        obtain ⟨gb, rfl, hgb, hpb, hby⟩ := hcut
        obtain ⟨x0, x1, x2, _⟩ := (KP.out.past hby).cells
        obtain ⟨y0, y1, y2, _⟩ := (KA.out.past hby).cells
        obtain ⟨z0, z1, z2, _⟩ := hpb.cells
        have nb := past hby NB.out
        simp only at x0 x1 x2 y0 y1 y2 z0 z1 z2
        have HB9 := Lib.hid (KB1.out.trans (hby.mono KB1.out.size))
        clear hby hpb a0 a1 a2 n2 KA KP NB KT1 KB1 L2 L3
        have e1 := HFL1.out
        have hs2 := HSB.out
        have e2 : IntKind.i64.wrap (pl - bits .and .i64 pl ms) = fl2 := by rw [HFL2.out]; exact IntWalk.i64_in _ (by omega)
        clear hs2
        by_cases h2 : (i : Int) < 2
        · have em : ms = 3 := M3.out (by omega)
          subst em
          go_wp2_with fail
          go_quiet (fail)
          go_wp2_with fail
          go_ret
          exact ⟨rfl, below_drewN HB9.out _⟩
        · have em : ms = bt0 := MB.out (by omega)
          subst em
          go_wp2_with fail
          go_quiet (fail)
          go_wp2_with fail
          go_ret
          exact ⟨rfl, below_drewN HB9.out _⟩
end Go.Proofs.YtcempbgbdlmjfaaDoor
