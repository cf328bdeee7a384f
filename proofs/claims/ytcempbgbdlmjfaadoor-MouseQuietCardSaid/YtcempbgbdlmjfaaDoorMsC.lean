/-
  mouse: the walk of Report.
-/
import Derived.Test.YtcempbgbdlmjfaaDoorMsB
import Derived.Test.YtcempbgbdlmjfaaDoorMoE
import Derived.Test.YtcempbgbdlmjfaaDoorP6St
import Derived.Lib.ConvBytes
import Derived.Lib.ItoaLen
namespace Go.Proofs.YtcempbgbdlmjfaaDoor
open Go.RowKit

theorem mods_bd (m : Int) (hm : Wf m) (h : modsOk m = true) : 0 ≤ m ∧ m ≤ 28 := by
  unfold modsOk at h
  have h0 : IntKind.i64.wrap ((BitVec.ofInt 64 m &&& ~~~(BitVec.ofInt 64 28)).toNat : Int) = 0 := beq_iff_eq.1 h
  have h1 := (wrap_zero _ (BitVec.isLt _)).1 h0
  have h2 : BitVec.ofInt 64 m &&& ~~~(BitVec.ofInt 64 28) = 0#64 := BitVec.eq_of_toNat_eq (by simpa using h1)
  have h3 : BitVec.ofInt 64 m = BitVec.ofInt 64 m &&& BitVec.ofInt 64 28 := by
    apply BitVec.eq_of_getLsbD_eq
    intro i hi
    have h4 := congrArg (fun z : BitVec 64 => z.getLsbD i) h2
    simp only [BitVec.getLsbD_and, BitVec.getLsbD_not, BitVec.getLsbD_zero] at h4
    rw [BitVec.getLsbD_and]
    cases hb : (BitVec.ofInt 64 m).getLsbD i
    · simp
    · rw [hb] at h4
      have h5 : (BitVec.ofInt 64 28).getLsbD i = true := by
        cases hc : (BitVec.ofInt 64 28).getLsbD i
        · rw [hc] at h4
          simp [hi] at h4
        · rfl
      rw [h5]
      rfl
  have h5 : (BitVec.ofInt 64 m).toNat ≤ 28 := by
    rw [h3, BitVec.toNat_and]
    exact Nat.le_trans Nat.and_le_right (by decide)
  rw [BitVec.toNat_ofInt] at h5
  unfold Wf at hm
  have e : ((2 ^ 64 : Nat) : Int) = 18446744073709551616 := by decide
  rw [e] at h5
  omega
theorem conv_bytes (w : World) (s : ByteArray) : ∃ (c : Nat) (w' : World), (convert 9 72 (.string s)).run Tryd.prog w = .ok (.slice (some ⟨w.heap.size, 0, none⟩) s.size c) w' ∧ Rd w' w'.heap.size (some ⟨w.heap.size, 0, none⟩) ((bI s).map (.int .u8)) ∧ Below w.heap.size w w' := by
  refine ⟨_, _, Lib.run_convert_string_bytes w 9 72 5 s Tryd.underlying9 Tryd.underlying72 Tryd.underlying5, fun _ => ⟨w.heap.size, 0, rfl, by rw [Lib.bytesWorld_size]; omega, fun j hj => ?_⟩, ?_⟩
  · have hj' : j < s.size := by simpa [bI_len] using hj
    rw [Nat.zero_add, Lib.bytesWorld_cell w _ s j hj']
    have hd : j < s.data.toList.length := by rw [Array.length_toList]; exact hj'
    simp [bI, List.getD, List.getElem?_eq_getElem hd]
  · exact ⟨rfl, rfl, rfl, by rw [Lib.bytesWorld_size]; omega, fun i hi => Lib.bytesWorld_at_old w _ s i hi⟩
theorem itoa_s (n : Int) (h0 : 0 ≤ n) (h1 : n ≤ 9223372036854775807) : ∃ s : ByteArray, bI s = bL (Lib.itoa n) ∧ (0 < s.size ∧ s.size ≤ 20) ∧ ∀ W : World, TabI W → Calls Tryd.prog 69 #[.int .i64 n] W fun e w' => e = .returned (.string s) ∧ Below W.heap.size W w' := by
  refine ⟨⟨(Lib.itoa n).toArray⟩, by unfold bI bL; rw [List.toList_toArray], ?_, fun W hT => itoa_any n (by omega) h1 W hT⟩
  have e : (⟨(Lib.itoa n).toArray⟩ : ByteArray).size = (Lib.itoa n).length := by show (Lib.itoa n).toArray.size = _; simp
  rw [e]
  unfold Lib.itoa
  rw [if_neg (by omega), Lib.decDigits_length]
  exact ⟨Lib.nDigits_pos _, Lib.nDigits_le20 _ (by omega)⟩
theorem clamp_wf (v n : Int) (hn : Wf n) : 0 ≤ clampF v n ∧ clampF v n + 1 ≤ 9223372036854775807 := by
  unfold clampF Wf at *
  split <;> omega
/-- an event in a block of its own -/
def EvAt (w : World) (g : Nat) (k b m x y : Int) : Prop := w.heap[g]? = some (.cells #[.int .i64 k, .int .i64 b, .int .i64 m, .int .i64 x, .int .i64 y] 74 (0, 0))
theorem EvAt.cells {w : World} {g : Nat} {k b m x y : Int} (h : EvAt w g k b m x y) : w.cell? ⟨g, 0, none⟩ = some (.int .i64 k) ∧ w.cell? ⟨g, 1, none⟩ = some (.int .i64 b) ∧ w.cell? ⟨g, 2, none⟩ = some (.int .i64 m) ∧ w.cell? ⟨g, 3, none⟩ = some (.int .i64 x) ∧ w.cell? ⟨g, 4, none⟩ = some (.int .i64 y) ∧
    w.frozen? ⟨g, 0, none⟩ = false ∧ w.frozen? ⟨g, 1, none⟩ = false ∧ w.frozen? ⟨g, 2, none⟩ = false ∧ w.frozen? ⟨g, 3, none⟩ = false ∧ w.frozen? ⟨g, 4, none⟩ = false :=
  ⟨bk_cell h 0 _ rfl, bk_cell h 1 _ rfl, bk_cell h 2 _ rfl, bk_cell h 3 _ rfl, bk_cell h 4 _ rfl, bk_free h 0, bk_free h 1, bk_free h 2, bk_free h 3, bk_free h 4⟩
theorem EvAt.past {w w' : World} {g : Nat} {k b m x y : Int} (h : EvAt w g k b m x y) (hb : Below w.heap.size w w') : EvAt w' g k b m x y := bk_past h hb (Nat.le_refl _)
def World.put5 (w : World) (g : Nat) (k b m x y : Int) : World := (((((w.setCell ⟨g, 0, none⟩ (.int .i64 k)).setCell ⟨g, 1, none⟩ (.int .i64 b)).setCell ⟨g, 2, none⟩ (.int .i64 m)).setCell ⟨g, 3, none⟩ (.int .i64 x)).setCell ⟨g, 4, none⟩ (.int .i64 y))
theorem EvAt.put {w : World} {g : Nat} {k b m x y : Int} (h : EvAt w g k b m x y) (k' b' m' x' y' : Int) : EvAt (World.put5 w g k' b' m' x' y') g k' b' m' x' y' := by
  unfold EvAt at h
  have h1 := (bk_set (bk_set (bk_set (bk_set (bk_set h 0 (.int .i64 k')) 1 (.int .i64 b')) 2 (.int .i64 m')) 3 (.int .i64 x')) 4 (.int .i64 y'))
  have e : (((((#[Value.int .i64 k, .int .i64 b, .int .i64 m, .int .i64 x, .int .i64 y].setIfInBounds 0 (.int .i64 k')).setIfInBounds 1 (.int .i64 b')).setIfInBounds 2 (.int .i64 m')).setIfInBounds 3 (.int .i64 x')).setIfInBounds 4 (.int .i64 y')) = #[.int .i64 k', .int .i64 b', .int .i64 m', .int .i64 x', .int .i64 y'] := by simp
  rw [e] at h1
  exact h1
theorem below_put5 {B : Nat} {w w' : World} {g : Nat} (h : Below B w w') (hg : B ≤ g) (k b m x y : Int) : Below B w (World.put5 w' g k b m x y) := ((((h.setCell hg _).setCell hg _).setCell hg _).setCell hg _).setCell hg _
theorem put5_size (w : World) (g : Nat) (k b m x y : Int) : (World.put5 w g k b m x y).heap.size = w.heap.size := by simp [World.put5, World.setCell]
/-- what an event is told by -/
def repL (k n cx cy : Int) : List Int := 27 :: 91 :: 60 :: (bL (Lib.itoa n) ++ (59 :: (bL (Lib.itoa (cx + 1)) ++ (59 :: (bL (Lib.itoa (cy + 1)) ++ [if k = 1 then 109 else 77])))))
def repU (n cx cy : Int) : List Int := 27 :: 91 :: (bL (Lib.itoa (n + 32)) ++ (59 :: (bL (Lib.itoa (cx + 1)) ++ (59 :: (bL (Lib.itoa (cy + 1)) ++ [77])))))
def tellF (B k b m : Int) : Bool := fineF k b m && toldF (mouF B) k b
theorem mou_cases (B : Int) : mouF B = 0 ∨ mouF B = 9 ∨ mouF B = 1000 ∨ mouF B = 1002 ∨ mouF B = 1003 := by
  unfold mouF mouseB
  repeat (first | split | simp)
set_option maxRecDepth 100000 in
set_option maxHeartbeats 6400000 in
theorem rep_nofine (B k b m x y h v : Int) (w : World) (hM : TabM w) (hf : fineF k b m = false) : Calls Tryd.prog 48 #[.agg #[.int .i64 B], .agg #[.int .i64 k, .int .i64 b, .int .i64 m, .int .i64 x, .int .i64 y], .int .i64 h, .int .i64 v] w fun e w' => e = .returned (.slice none 0 0) ∧ Below w.heap.size w w' := by
  have bb : Below w.heap.size w ((w.alloc (.cells #[.int .i64 B] 24)).alloc (.cells #[.int .i64 k, .int .i64 b, .int .i64 m, .int .i64 x, .int .i64 y] 74)) := ((Below.refl _ _).alloc (Nat.le_refl _) _).alloc (by simp) _
  have n2 : EvAt ((w.alloc (.cells #[.int .i64 B] 24)).alloc (.cells #[.int .i64 k, .int .i64 b, .int .i64 m, .int .i64 x, .int .i64 y] 74)) (w.heap.size + 1) k b m x y := (two_new w _ _).2
  have hm0 : TabM ((w.alloc (.cells #[.int .i64 B] 24)).alloc (.cells #[.int .i64 k, .int .i64 b, .int .i64 m, .int .i64 x, .int .i64 y] 74)) := hM.below bb
  have HB := Lib.hid bb; have N := Lib.hid n2; have HM := Lib.hid hm0
  obtain ⟨q, hq⟩ : ∃ q, mouF B = q := ⟨_, rfl⟩
  obtain ⟨c, hc⟩ : ∃ c, codF B = c := ⟨_, rfl⟩
  have hqc := mou_cases B
  rw [hq] at hqc
  have HQ := Lib.hid hq; have HC := Lib.hid hc; have HQC := Lib.hid hqc
  clear bb n2 hm0 hqc hM
  have HFN := Lib.hid hf
  clear hf
  go_enter Tryd.func48, Tryd.ntmps48
  go_wp2_with fail
  refine (mouse_any B _ HM.out).mono ?_
  rintro e w1 ⟨rfl, hb⟩
  simp only [HQ.out, HC.out]
  have n1 := N.out.past hb
  have N1 := Lib.hid n1; have HB1 := Lib.hid (HB.out.trans (hb.mono HB.out.size))
  obtain ⟨e0, e1, e2, e3, e4, g0, g1, g2, g3, g4⟩ := n1.cells
  clear n1 hb N HB HM
  go_wp2_with fail
  refine (fine_any k b m x y _).mono ?_
  rintro e w2 ⟨rfl, hb⟩
  simp only [HFN.out]
  have n1 := N1.out.past hb
  have N2 := Lib.hid n1; have HB2 := Lib.hid (HB1.out.trans (hb.mono HB1.out.size))
  clear e0 e1 e2 e3 e4 g0 g1 g2 g3 g4
  obtain ⟨e0, e1, e2, e3, e4, g0, g1, g2, g3, g4⟩ := n1.cells
  clear n1 hb N1 HB1
  go_wp2_with fail
  go_ret
  exact ⟨rfl, HB2.out⟩
set_option maxRecDepth 100000 in
set_option maxHeartbeats 6400000 in
theorem rep_notold (B k b m x y h v : Int) (w : World) (hM : TabM w) (hf : fineF k b m = true) (ht : toldF (mouF B) k b = false) : Calls Tryd.prog 48 #[.agg #[.int .i64 B], .agg #[.int .i64 k, .int .i64 b, .int .i64 m, .int .i64 x, .int .i64 y], .int .i64 h, .int .i64 v] w fun e w' => e = .returned (.slice none 0 0) ∧ Below w.heap.size w w' := by
  have bb : Below w.heap.size w ((w.alloc (.cells #[.int .i64 B] 24)).alloc (.cells #[.int .i64 k, .int .i64 b, .int .i64 m, .int .i64 x, .int .i64 y] 74)) := ((Below.refl _ _).alloc (Nat.le_refl _) _).alloc (by simp) _
  have n2 : EvAt ((w.alloc (.cells #[.int .i64 B] 24)).alloc (.cells #[.int .i64 k, .int .i64 b, .int .i64 m, .int .i64 x, .int .i64 y] 74)) (w.heap.size + 1) k b m x y := (two_new w _ _).2
  have hm0 : TabM ((w.alloc (.cells #[.int .i64 B] 24)).alloc (.cells #[.int .i64 k, .int .i64 b, .int .i64 m, .int .i64 x, .int .i64 y] 74)) := hM.below bb
  have HB := Lib.hid bb; have N := Lib.hid n2; have HM := Lib.hid hm0
  obtain ⟨q, hq⟩ : ∃ q, mouF B = q := ⟨_, rfl⟩
  obtain ⟨c, hc⟩ : ∃ c, codF B = c := ⟨_, rfl⟩
  have hqc := mou_cases B
  rw [hq] at hqc
  have HQ := Lib.hid hq; have HC := Lib.hid hc; have HQC := Lib.hid hqc
  clear bb n2 hm0 hqc hM
  rw [HQ.out] at ht
  have HFN := Lib.hid hf; have HTL := Lib.hid ht
  clear hf ht
  go_enter Tryd.func48, Tryd.ntmps48
  go_wp2_with fail
  refine (mouse_any B _ HM.out).mono ?_
  rintro e w1 ⟨rfl, hb⟩
  simp only [HQ.out, HC.out]
  have n1 := N.out.past hb
  have N1 := Lib.hid n1; have HB1 := Lib.hid (HB.out.trans (hb.mono HB.out.size))
  obtain ⟨e0, e1, e2, e3, e4, g0, g1, g2, g3, g4⟩ := n1.cells
  clear n1 hb N HB HM
  go_wp2_with fail
  refine (fine_any k b m x y _).mono ?_
  rintro e w2 ⟨rfl, hb⟩
  simp only [HFN.out]
  have n1 := N1.out.past hb
  have N2 := Lib.hid n1; have HB2 := Lib.hid (HB1.out.trans (hb.mono HB1.out.size))
  clear e0 e1 e2 e3 e4 g0 g1 g2 g3 g4
  obtain ⟨e0, e1, e2, e3, e4, g0, g1, g2, g3, g4⟩ := n1.cells
  clear n1 hb N1 HB1
  go_wp2_with fail
  refine (told_any q k b m x y _ HQC.out).mono ?_
  rintro e w3 ⟨rfl, hb⟩
  simp only [HTL.out]
  have HB3 := Lib.hid (HB2.out.trans (hb.mono HB2.out.size))
  clear hb
  go_wp2_with fail
  go_ret
  exact ⟨rfl, HB3.out⟩
set_option maxRecDepth 100000 in
set_option maxHeartbeats 6400000 in
theorem rep_sgr1 (B k b m x y h v : Int) (w : World) (hM : TabM w) (hT : TabI w) (hx : Wf x) (hy : Wf y) (hh : Wf h) (hv : Wf v) (hf : fineF k b m = true) (ht : toldF (mouF B) k b = true) (hm : Wf m) (hcod : codF B = 1006) (hk1 : k = 1) : Calls Tryd.prog 48 #[.agg #[.int .i64 B], .agg #[.int .i64 k, .int .i64 b, .int .i64 m, .int .i64 x, .int .i64 y], .int .i64 h, .int .i64 v] w fun e w' => ∃ A N cp, e = .returned (.slice A N cp) ∧ N = (repL k (codeF (mouF B) 1006 k b m) (clampF x v) (clampF y h)).length ∧ Rd w' w'.heap.size A ((repL k (codeF (mouF B) 1006 k b m) (clampF x v) (clampF y h)).map (.int .u8)) ∧ Below w.heap.size w w' := by
  have bb : Below w.heap.size w ((w.alloc (.cells #[.int .i64 B] 24)).alloc (.cells #[.int .i64 k, .int .i64 b, .int .i64 m, .int .i64 x, .int .i64 y] 74)) := ((Below.refl _ _).alloc (Nat.le_refl _) _).alloc (by simp) _
  have n2 : EvAt ((w.alloc (.cells #[.int .i64 B] 24)).alloc (.cells #[.int .i64 k, .int .i64 b, .int .i64 m, .int .i64 x, .int .i64 y] 74)) (w.heap.size + 1) k b m x y := (two_new w _ _).2
  have hm0 : TabM ((w.alloc (.cells #[.int .i64 B] 24)).alloc (.cells #[.int .i64 k, .int .i64 b, .int .i64 m, .int .i64 x, .int .i64 y] 74)) := hM.below bb
  have HB := Lib.hid bb; have N := Lib.hid n2; have HM := Lib.hid hm0
  obtain ⟨q, hq⟩ : ∃ q, mouF B = q := ⟨_, rfl⟩
  obtain ⟨c, hc⟩ : ∃ c, codF B = c := ⟨_, rfl⟩
  have hqc := mou_cases B
  rw [hq] at hqc
  have HQ := Lib.hid hq; have HC := Lib.hid hc; have HQC := Lib.hid hqc
  clear bb n2 hm0 hqc hM
  rw [HQ.out] at ht
  have hsh : shapeF k b = true ∧ modsOk m = true := by unfold fineF at hf; simpa using hf
  have hmb := mods_bd m hm hsh.2
  have hkb := of_decide_eq_true hsh.1
  have hcx := clamp_wf x v hv
  have hcy := clamp_wf y h hh
  rw [HQ.out]
  rw [HC.out] at hcod
  subst hcod
  obtain ⟨cx, hcxe⟩ : ∃ z, clampF x v = z := ⟨_, rfl⟩
  obtain ⟨cy, hcye⟩ : ∃ z, clampF y h = z := ⟨_, rfl⟩
  obtain ⟨n, hne⟩ : ∃ z, codeF q 1006 k b m = z := ⟨_, rfl⟩
  have hnb : 0 ≤ n ∧ n ≤ 223 := by
    rw [← hne]
    unfold codeF
    repeat (first | split | omega)
  rw [hcxe] at hcx
  rw [hcye] at hcy
  rw [hcxe, hcye, hne]
  obtain ⟨cx0, cx1⟩ := hcx
  obtain ⟨cy0, cy1⟩ := hcy
  obtain ⟨nb0, nb1⟩ := hnb
  have hk4 : k = 0 ∨ k = 1 ∨ k = 2 ∨ k = 3 := by omega
  have hb3 : 0 ≤ b ∧ b ≤ 3 := by omega
  have HK4 := Lib.hid hk4; have HB3' := Lib.hid hb3; have HMB := Lib.hid hmb
  have HFN := Lib.hid hf; have HTL := Lib.hid ht; have HCX := Lib.hid hcxe; have HCY := Lib.hid hcye; have HNE := Lib.hid hne
  have HX := Lib.hid hx; have HY := Lib.hid hy; have HH := Lib.hid hh; have HV := Lib.hid hv
  obtain ⟨sx, hsx, ⟨sx0, sx1⟩, ix⟩ := itoa_s (cx + 1) (by omega) (by omega)
  obtain ⟨sy, hsy, ⟨sy0, sy1⟩, iy⟩ := itoa_s (cy + 1) (by omega) (by omega)
  obtain ⟨sn, hsn, ⟨sn0, sn1⟩, inn⟩ := itoa_s (n) (by omega) (by omega)
  have IX := Lib.hid ix; have IY := Lib.hid iy; have IN := Lib.hid inn; have SX := Lib.hid hsx; have SY := Lib.hid hsy; have SN := Lib.hid hsn
  have HT0 := Lib.hid hT; have HT := Lib.hid (hT.below HB.out)
  subst hk1
  clear hf ht hm hsh hmb hkb hk4 hb3 hcxe hcye hne hx hy hh hv ix iy inn hsx hsy hsn hT
  go_enter Tryd.func48, Tryd.ntmps48
  go_wp2_with fail
  refine (mouse_any B _ HM.out).mono ?_
  rintro e w1 ⟨rfl, hb⟩
  simp only [HQ.out, HC.out]
  have n1 := N.out.past hb
  have N1 := Lib.hid n1; have HB1 := Lib.hid (HB.out.trans (hb.mono HB.out.size)); have HT1 := Lib.hid (HT.out.below hb)
  obtain ⟨e0, e1, e2, e3, e4, g0, g1, g2, g3, g4⟩ := n1.cells
  clear n1 hb N HB HM HT
  go_wp2_with fail
  refine (fine_any 1 b m x y _).mono ?_
  rintro e w2 ⟨rfl, hb⟩
  simp only [HFN.out]
  have n1 := N1.out.past hb
  have N2 := Lib.hid n1; have HB2 := Lib.hid (HB1.out.trans (hb.mono HB1.out.size)); have HT2 := Lib.hid (HT1.out.below hb)
  clear e0 e1 e2 e3 e4 g0 g1 g2 g3 g4
  obtain ⟨e0, e1, e2, e3, e4, g0, g1, g2, g3, g4⟩ := n1.cells
  clear n1 hb N1 HB1 HT1
  go_wp2_with fail
  refine (told_any q 1 b m x y _ HQC.out).mono ?_
  rintro e w3 ⟨rfl, hb⟩
  simp only [HTL.out]
  have n1 := N2.out.past hb
  have N3 := Lib.hid n1; have HB3 := Lib.hid (HB2.out.trans (hb.mono HB2.out.size)); have HT3 := Lib.hid (HT2.out.below hb)
  clear e0 e1 e2 e3 e4 g0 g1 g2 g3 g4
  obtain ⟨e0, e1, e2, e3, e4, g0, g1, g2, g3, g4⟩ := n1.cells
  clear n1 hb N2 HB2 HT2
  go_wp2_with fail
  refine (clampE_any 1 b m x y h v _ HX.out HY.out HH.out HV.out).mono ?_
  rintro e w4 ⟨rfl, hb⟩
  simp only [HCX.out, HCY.out]
  have n1 := N3.out.past hb
  have hb4 := HB3.out.trans (hb.mono HB3.out.size)
  have n5 := n1.put 1 b m cx cy
  have b5 := below_put5 hb4 (show w.heap.size ≤ w.heap.size + 1 by omega) 1 b m cx cy
  have hz4 : w.heap.size + 1 < w4.heap.size := bk_lt n1
  have t5 := HT0.out.below b5
  clear e0 e1 e2 e3 e4 g0 g1 g2 g3 g4
  obtain ⟨e0, e1, e2, e3, e4, g0, g1, g2, g3, g4⟩ := n1.cells
  simp only [World.put5] at n5 b5 t5
  have N5 := Lib.hid n5; have HB5 := Lib.hid b5; have HT5 := Lib.hid t5
  clear n1 n5 b5 t5 hb hb4 N3 HB3 HT3
  go_wp2_with fail
  refine (code_any q 1006 1 b m cx cy _ (by rcases HQC.out with h | h | h | h | h <;> omega) (.inl rfl) ((by omega)) HB3'.out HMB.out).mono ?_
  rintro e w5 ⟨rfl, hb⟩
  simp only [HNE.out]
  have n6 := N5.out.past hb
  have hb6 := HB5.out.trans (hb.mono HB5.out.size)
  have ht6 := HT5.out.below hb
  clear e0 e1 e2 e3 e4 g0 g1 g2 g3 g4
  obtain ⟨e0, e1, e2, e3, e4, _⟩ := n6.cells
  have N6 := Lib.hid n6; have HB6 := Lib.hid hb6
  have RT : Hid (∀ u : After w5, TabI u.get) := Lib.hid (fun u => ht6.below u.below)
  have r0 := fun u : After w5 => u.cell e0
  have r3 := fun u : After w5 => u.cell e3
  have r4 := fun u : After w5 => u.cell e4
  clear e0 e1 e2 e3 e4 n6 hb6 ht6 hb N5 HB5 HT5
  go_wp2_with fail
  refine wp_region_after (by kernel_rfl) (by kernel_rfl) ?_
  repeat (go_big_quiet_step (first
    | (go_at_call_of 69 cx; exact Calls.after_of (IX.out _ (RT.out _)))
    | (go_at_call_of 69 cy; exact Calls.after_of (IY.out _ (RT.out _)))))
  refine wpQuiet_nil ?_
  rintro _ ⟨u, rfl⟩
  have c0 := r0 u; have c3 := r3 u; have c4 := r4 u
  have ht7 := RT.out u
  have hb7 := HB6.out.trans (u.below.mono HB6.out.size)
  clear r0 r3 r4 RT HB6 N6
  generalize u.get = w6 at c0 c3 c4 ht7 hb7 ⊢
  have HT7 := Lib.hid ht7; have HB7 := Lib.hid hb7
  clear ht7 hb7
  go_wp2_with fail
  refine (IN.out _ HT7.out).mono ?_
  rintro e w7 ⟨rfl, hb⟩
  have HB8 := Lib.hid (HB7.out.trans (hb.mono HB7.out.size))
  obtain ⟨cp, w8, hcv, hrd, hb8⟩ := conv_bytes w7 (((ByteArray.mk #[27, 91, 60] ++ sn) ++ (((ByteArray.mk #[59] ++ sx) ++ ByteArray.mk #[59]) ++ sy)) ++ ByteArray.mk #[109])
  have hbi : bI (((ByteArray.mk #[27, 91, 60] ++ sn) ++ (((ByteArray.mk #[59] ++ sx) ++ ByteArray.mk #[59]) ++ sy)) ++ ByteArray.mk #[109]) = repL 1 n cx cy := by
    have h1 : bI (ByteArray.mk #[27, 91, 60]) = [27, 91, 60] := rfl
    have h2 : bI (ByteArray.mk #[59]) = [59] := rfl
    have h3 : bI (ByteArray.mk #[109]) = [109] := rfl
    simp [bI_app, h1, h2, h3, SX.out, SY.out, SN.out, repL]
  rw [hbi] at hrd
  have HRD := Lib.hid hrd; have HB9 := Lib.hid (HB8.out.trans (hb8.mono HB8.out.size)); have HBI := Lib.hid hbi
  clear hrd hb8 hbi hb
  go_wp2_with fail
  go_ret
  have a1 := congrArg List.length SX.out
  have a2 := congrArg List.length SY.out
  have a3 := congrArg List.length SN.out
  rw [bI_len] at a1 a2 a3
  refine ⟨_, _, cp, rfl, ?_, HRD.out, HB9.out⟩
  simp only [repL, List.length_cons, List.length_append, List.length_nil]
  omega
set_option maxRecDepth 100000 in
set_option maxHeartbeats 6400000 in
theorem rep_sgr (B k b m x y h v : Int) (w : World) (hM : TabM w) (hT : TabI w) (hx : Wf x) (hy : Wf y) (hh : Wf h) (hv : Wf v) (hf : fineF k b m = true) (ht : toldF (mouF B) k b = true) (hm : Wf m) (hcod : codF B = 1006) (hk1 : k ≠ 1) : Calls Tryd.prog 48 #[.agg #[.int .i64 B], .agg #[.int .i64 k, .int .i64 b, .int .i64 m, .int .i64 x, .int .i64 y], .int .i64 h, .int .i64 v] w fun e w' => ∃ A N cp, e = .returned (.slice A N cp) ∧ N = (repL k (codeF (mouF B) 1006 k b m) (clampF x v) (clampF y h)).length ∧ Rd w' w'.heap.size A ((repL k (codeF (mouF B) 1006 k b m) (clampF x v) (clampF y h)).map (.int .u8)) ∧ Below w.heap.size w w' := by
  have bb : Below w.heap.size w ((w.alloc (.cells #[.int .i64 B] 24)).alloc (.cells #[.int .i64 k, .int .i64 b, .int .i64 m, .int .i64 x, .int .i64 y] 74)) := ((Below.refl _ _).alloc (Nat.le_refl _) _).alloc (by simp) _
  have n2 : EvAt ((w.alloc (.cells #[.int .i64 B] 24)).alloc (.cells #[.int .i64 k, .int .i64 b, .int .i64 m, .int .i64 x, .int .i64 y] 74)) (w.heap.size + 1) k b m x y := (two_new w _ _).2
  have hm0 : TabM ((w.alloc (.cells #[.int .i64 B] 24)).alloc (.cells #[.int .i64 k, .int .i64 b, .int .i64 m, .int .i64 x, .int .i64 y] 74)) := hM.below bb
  have HB := Lib.hid bb; have N := Lib.hid n2; have HM := Lib.hid hm0
  obtain ⟨q, hq⟩ : ∃ q, mouF B = q := ⟨_, rfl⟩
  obtain ⟨c, hc⟩ : ∃ c, codF B = c := ⟨_, rfl⟩
  have hqc := mou_cases B
  rw [hq] at hqc
  have HQ := Lib.hid hq; have HC := Lib.hid hc; have HQC := Lib.hid hqc
  clear bb n2 hm0 hqc hM
  rw [HQ.out] at ht
  have hsh : shapeF k b = true ∧ modsOk m = true := by unfold fineF at hf; simpa using hf
  have hmb := mods_bd m hm hsh.2
  have hkb := of_decide_eq_true hsh.1
  have hcx := clamp_wf x v hv
  have hcy := clamp_wf y h hh
  rw [HQ.out]
  rw [HC.out] at hcod
  subst hcod
  obtain ⟨cx, hcxe⟩ : ∃ z, clampF x v = z := ⟨_, rfl⟩
  obtain ⟨cy, hcye⟩ : ∃ z, clampF y h = z := ⟨_, rfl⟩
  obtain ⟨n, hne⟩ : ∃ z, codeF q 1006 k b m = z := ⟨_, rfl⟩
  have hnb : 0 ≤ n ∧ n ≤ 223 := by
    rw [← hne]
    unfold codeF
    repeat (first | split | omega)
  rw [hcxe] at hcx
  rw [hcye] at hcy
  rw [hcxe, hcye, hne]
  obtain ⟨cx0, cx1⟩ := hcx
  obtain ⟨cy0, cy1⟩ := hcy
  obtain ⟨nb0, nb1⟩ := hnb
  have hk4 : k = 0 ∨ k = 1 ∨ k = 2 ∨ k = 3 := by omega
  have hb3 : 0 ≤ b ∧ b ≤ 3 := by omega
  have HK4 := Lib.hid hk4; have HB3' := Lib.hid hb3; have HMB := Lib.hid hmb
  have HFN := Lib.hid hf; have HTL := Lib.hid ht; have HCX := Lib.hid hcxe; have HCY := Lib.hid hcye; have HNE := Lib.hid hne
  have HX := Lib.hid hx; have HY := Lib.hid hy; have HH := Lib.hid hh; have HV := Lib.hid hv
  obtain ⟨sx, hsx, ⟨sx0, sx1⟩, ix⟩ := itoa_s (cx + 1) (by omega) (by omega)
  obtain ⟨sy, hsy, ⟨sy0, sy1⟩, iy⟩ := itoa_s (cy + 1) (by omega) (by omega)
  obtain ⟨sn, hsn, ⟨sn0, sn1⟩, inn⟩ := itoa_s (n) (by omega) (by omega)
  have IX := Lib.hid ix; have IY := Lib.hid iy; have IN := Lib.hid inn; have SX := Lib.hid hsx; have SY := Lib.hid hsy; have SN := Lib.hid hsn
  have HT0 := Lib.hid hT; have HT := Lib.hid (hT.below HB.out)
  have fk : (k == 1) = false := beq_eq_false_iff_ne.2 hk1
  have HK1 := Lib.hid hk1
  clear hk1
  clear hf ht hm hsh hmb hkb hk4 hb3 hcxe hcye hne hx hy hh hv ix iy inn hsx hsy hsn hT
  go_enter Tryd.func48, Tryd.ntmps48
  go_wp2_with fail
  refine (mouse_any B _ HM.out).mono ?_
  rintro e w1 ⟨rfl, hb⟩
  simp only [HQ.out, HC.out]
  have n1 := N.out.past hb
  have N1 := Lib.hid n1; have HB1 := Lib.hid (HB.out.trans (hb.mono HB.out.size)); have HT1 := Lib.hid (HT.out.below hb)
  obtain ⟨e0, e1, e2, e3, e4, g0, g1, g2, g3, g4⟩ := n1.cells
  clear n1 hb N HB HM HT
  go_wp2_with fail
  refine (fine_any k b m x y _).mono ?_
  rintro e w2 ⟨rfl, hb⟩
  simp only [HFN.out]
  have n1 := N1.out.past hb
  have N2 := Lib.hid n1; have HB2 := Lib.hid (HB1.out.trans (hb.mono HB1.out.size)); have HT2 := Lib.hid (HT1.out.below hb)
  clear e0 e1 e2 e3 e4 g0 g1 g2 g3 g4
  obtain ⟨e0, e1, e2, e3, e4, g0, g1, g2, g3, g4⟩ := n1.cells
  clear n1 hb N1 HB1 HT1
  go_wp2_with fail
  refine (told_any q k b m x y _ HQC.out).mono ?_
  rintro e w3 ⟨rfl, hb⟩
  simp only [HTL.out]
  have n1 := N2.out.past hb
  have N3 := Lib.hid n1; have HB3 := Lib.hid (HB2.out.trans (hb.mono HB2.out.size)); have HT3 := Lib.hid (HT2.out.below hb)
  clear e0 e1 e2 e3 e4 g0 g1 g2 g3 g4
  obtain ⟨e0, e1, e2, e3, e4, g0, g1, g2, g3, g4⟩ := n1.cells
  clear n1 hb N2 HB2 HT2
  go_wp2_with fail
  refine (clampE_any k b m x y h v _ HX.out HY.out HH.out HV.out).mono ?_
  rintro e w4 ⟨rfl, hb⟩
  simp only [HCX.out, HCY.out]
  have n1 := N3.out.past hb
  have hb4 := HB3.out.trans (hb.mono HB3.out.size)
  have n5 := n1.put k b m cx cy
  have b5 := below_put5 hb4 (show w.heap.size ≤ w.heap.size + 1 by omega) k b m cx cy
  have hz4 : w.heap.size + 1 < w4.heap.size := bk_lt n1
  have t5 := HT0.out.below b5
  clear e0 e1 e2 e3 e4 g0 g1 g2 g3 g4
  obtain ⟨e0, e1, e2, e3, e4, g0, g1, g2, g3, g4⟩ := n1.cells
  simp only [World.put5] at n5 b5 t5
  have N5 := Lib.hid n5; have HB5 := Lib.hid b5; have HT5 := Lib.hid t5
  clear n1 n5 b5 t5 hb hb4 N3 HB3 HT3
  go_wp2_with fail
  refine (code_any q 1006 k b m cx cy _ (by rcases HQC.out with h | h | h | h | h <;> omega) (.inl rfl) (HK4.out) HB3'.out HMB.out).mono ?_
  rintro e w5 ⟨rfl, hb⟩
  simp only [HNE.out]
  have n6 := N5.out.past hb
  have hb6 := HB5.out.trans (hb.mono HB5.out.size)
  have ht6 := HT5.out.below hb
  clear e0 e1 e2 e3 e4 g0 g1 g2 g3 g4
  obtain ⟨e0, e1, e2, e3, e4, _⟩ := n6.cells
  have N6 := Lib.hid n6; have HB6 := Lib.hid hb6
  have RT : Hid (∀ u : After w5, TabI u.get) := Lib.hid (fun u => ht6.below u.below)
  have r0 := fun u : After w5 => u.cell e0
  have r3 := fun u : After w5 => u.cell e3
  have r4 := fun u : After w5 => u.cell e4
  clear e0 e1 e2 e3 e4 n6 hb6 ht6 hb N5 HB5 HT5
  go_wp2_with fail
  refine wp_region_after (by kernel_rfl) (by kernel_rfl) ?_
  repeat (go_big_quiet_step (first
    | (go_at_call_of 69 cx; exact Calls.after_of (IX.out _ (RT.out _)))
    | (go_at_call_of 69 cy; exact Calls.after_of (IY.out _ (RT.out _)))))
  refine wpQuiet_nil ?_
  rintro _ ⟨u, rfl⟩
  have c0 := r0 u; have c3 := r3 u; have c4 := r4 u
  have ht7 := RT.out u
  have hb7 := HB6.out.trans (u.below.mono HB6.out.size)
  clear r0 r3 r4 RT HB6 N6
  generalize u.get = w6 at c0 c3 c4 ht7 hb7 ⊢
  have HT7 := Lib.hid ht7; have HB7 := Lib.hid hb7
  clear ht7 hb7
  go_wp2_with fail
  refine (IN.out _ HT7.out).mono ?_
  rintro e w7 ⟨rfl, hb⟩
  have HB8 := Lib.hid (HB7.out.trans (hb.mono HB7.out.size))
  obtain ⟨cp, w8, hcv, hrd, hb8⟩ := conv_bytes w7 (((ByteArray.mk #[27, 91, 60] ++ sn) ++ (((ByteArray.mk #[59] ++ sx) ++ ByteArray.mk #[59]) ++ sy)) ++ ByteArray.mk #[77])
  have hbi : bI (((ByteArray.mk #[27, 91, 60] ++ sn) ++ (((ByteArray.mk #[59] ++ sx) ++ ByteArray.mk #[59]) ++ sy)) ++ ByteArray.mk #[77]) = repL k n cx cy := by
    have h1 : bI (ByteArray.mk #[27, 91, 60]) = [27, 91, 60] := rfl
    have h2 : bI (ByteArray.mk #[59]) = [59] := rfl
    have h3 : bI (ByteArray.mk #[77]) = [77] := rfl
    simp [bI_app, h1, h2, h3, SX.out, SY.out, SN.out, repL, HK1.out]
  rw [hbi] at hrd
  have HRD := Lib.hid hrd; have HB9 := Lib.hid (HB8.out.trans (hb8.mono HB8.out.size)); have HBI := Lib.hid hbi
  clear hrd hb8 hbi hb
  go_wp2_with fail
  go_ret
  have a1 := congrArg List.length SX.out
  have a2 := congrArg List.length SY.out
  have a3 := congrArg List.length SN.out
  rw [bI_len] at a1 a2 a3
  refine ⟨_, _, cp, rfl, ?_, HRD.out, HB9.out⟩
  simp only [repL, List.length_cons, List.length_append, List.length_nil]
  omega
set_option maxRecDepth 100000 in
set_option maxHeartbeats 6400000 in
theorem rep_urx (B k b m x y h v : Int) (w : World) (hM : TabM w) (hT : TabI w) (hx : Wf x) (hy : Wf y) (hh : Wf h) (hv : Wf v) (hf : fineF k b m = true) (ht : toldF (mouF B) k b = true) (hm : Wf m) (hcod : codF B = 1015)  : Calls Tryd.prog 48 #[.agg #[.int .i64 B], .agg #[.int .i64 k, .int .i64 b, .int .i64 m, .int .i64 x, .int .i64 y], .int .i64 h, .int .i64 v] w fun e w' => ∃ A N cp, e = .returned (.slice A N cp) ∧ N = (repU (codeF (mouF B) 1015 k b m) (clampF x v) (clampF y h)).length ∧ Rd w' w'.heap.size A ((repU (codeF (mouF B) 1015 k b m) (clampF x v) (clampF y h)).map (.int .u8)) ∧ Below w.heap.size w w' := by
  have bb : Below w.heap.size w ((w.alloc (.cells #[.int .i64 B] 24)).alloc (.cells #[.int .i64 k, .int .i64 b, .int .i64 m, .int .i64 x, .int .i64 y] 74)) := ((Below.refl _ _).alloc (Nat.le_refl _) _).alloc (by simp) _
  have n2 : EvAt ((w.alloc (.cells #[.int .i64 B] 24)).alloc (.cells #[.int .i64 k, .int .i64 b, .int .i64 m, .int .i64 x, .int .i64 y] 74)) (w.heap.size + 1) k b m x y := (two_new w _ _).2
  have hm0 : TabM ((w.alloc (.cells #[.int .i64 B] 24)).alloc (.cells #[.int .i64 k, .int .i64 b, .int .i64 m, .int .i64 x, .int .i64 y] 74)) := hM.below bb
  have HB := Lib.hid bb; have N := Lib.hid n2; have HM := Lib.hid hm0
  obtain ⟨q, hq⟩ : ∃ q, mouF B = q := ⟨_, rfl⟩
  obtain ⟨c, hc⟩ : ∃ c, codF B = c := ⟨_, rfl⟩
  have hqc := mou_cases B
  rw [hq] at hqc
  have HQ := Lib.hid hq; have HC := Lib.hid hc; have HQC := Lib.hid hqc
  clear bb n2 hm0 hqc hM
  rw [HQ.out] at ht
  have hsh : shapeF k b = true ∧ modsOk m = true := by unfold fineF at hf; simpa using hf
  have hmb := mods_bd m hm hsh.2
  have hkb := of_decide_eq_true hsh.1
  have hcx := clamp_wf x v hv
  have hcy := clamp_wf y h hh
  rw [HQ.out]
  rw [HC.out] at hcod
  subst hcod
  obtain ⟨cx, hcxe⟩ : ∃ z, clampF x v = z := ⟨_, rfl⟩
  obtain ⟨cy, hcye⟩ : ∃ z, clampF y h = z := ⟨_, rfl⟩
  obtain ⟨n, hne⟩ : ∃ z, codeF q 1015 k b m = z := ⟨_, rfl⟩
  have hnb : 0 ≤ n ∧ n ≤ 223 := by
    rw [← hne]
    unfold codeF
    repeat (first | split | omega)
  rw [hcxe] at hcx
  rw [hcye] at hcy
  rw [hcxe, hcye, hne]
  obtain ⟨cx0, cx1⟩ := hcx
  obtain ⟨cy0, cy1⟩ := hcy
  obtain ⟨nb0, nb1⟩ := hnb
  have hk4 : k = 0 ∨ k = 1 ∨ k = 2 ∨ k = 3 := by omega
  have hb3 : 0 ≤ b ∧ b ≤ 3 := by omega
  have HK4 := Lib.hid hk4; have HB3' := Lib.hid hb3; have HMB := Lib.hid hmb
  have HFN := Lib.hid hf; have HTL := Lib.hid ht; have HCX := Lib.hid hcxe; have HCY := Lib.hid hcye; have HNE := Lib.hid hne
  have HX := Lib.hid hx; have HY := Lib.hid hy; have HH := Lib.hid hh; have HV := Lib.hid hv
  obtain ⟨sx, hsx, ⟨sx0, sx1⟩, ix⟩ := itoa_s (cx + 1) (by omega) (by omega)
  obtain ⟨sy, hsy, ⟨sy0, sy1⟩, iy⟩ := itoa_s (cy + 1) (by omega) (by omega)
  obtain ⟨sn, hsn, ⟨sn0, sn1⟩, inn⟩ := itoa_s (n + 32) (by omega) (by omega)
  have IX := Lib.hid ix; have IY := Lib.hid iy; have IN := Lib.hid inn; have SX := Lib.hid hsx; have SY := Lib.hid hsy; have SN := Lib.hid hsn
  have HT0 := Lib.hid hT; have HT := Lib.hid (hT.below HB.out)
  clear hf ht hm hsh hmb hkb hk4 hb3 hcxe hcye hne hx hy hh hv ix iy inn hsx hsy hsn hT
  go_enter Tryd.func48, Tryd.ntmps48
  go_wp2_with fail
  refine (mouse_any B _ HM.out).mono ?_
  rintro e w1 ⟨rfl, hb⟩
  simp only [HQ.out, HC.out]
  have n1 := N.out.past hb
  have N1 := Lib.hid n1; have HB1 := Lib.hid (HB.out.trans (hb.mono HB.out.size)); have HT1 := Lib.hid (HT.out.below hb)
  obtain ⟨e0, e1, e2, e3, e4, g0, g1, g2, g3, g4⟩ := n1.cells
  clear n1 hb N HB HM HT
  go_wp2_with fail
  refine (fine_any k b m x y _).mono ?_
  rintro e w2 ⟨rfl, hb⟩
  simp only [HFN.out]
  have n1 := N1.out.past hb
  have N2 := Lib.hid n1; have HB2 := Lib.hid (HB1.out.trans (hb.mono HB1.out.size)); have HT2 := Lib.hid (HT1.out.below hb)
  clear e0 e1 e2 e3 e4 g0 g1 g2 g3 g4
  obtain ⟨e0, e1, e2, e3, e4, g0, g1, g2, g3, g4⟩ := n1.cells
  clear n1 hb N1 HB1 HT1
  go_wp2_with fail
  refine (told_any q k b m x y _ HQC.out).mono ?_
  rintro e w3 ⟨rfl, hb⟩
  simp only [HTL.out]
  have n1 := N2.out.past hb
  have N3 := Lib.hid n1; have HB3 := Lib.hid (HB2.out.trans (hb.mono HB2.out.size)); have HT3 := Lib.hid (HT2.out.below hb)
  clear e0 e1 e2 e3 e4 g0 g1 g2 g3 g4
  obtain ⟨e0, e1, e2, e3, e4, g0, g1, g2, g3, g4⟩ := n1.cells
  clear n1 hb N2 HB2 HT2
  go_wp2_with fail
  refine (clampE_any k b m x y h v _ HX.out HY.out HH.out HV.out).mono ?_
  rintro e w4 ⟨rfl, hb⟩
  simp only [HCX.out, HCY.out]
  have n1 := N3.out.past hb
  have hb4 := HB3.out.trans (hb.mono HB3.out.size)
  have n5 := n1.put k b m cx cy
  have b5 := below_put5 hb4 (show w.heap.size ≤ w.heap.size + 1 by omega) k b m cx cy
  have hz4 : w.heap.size + 1 < w4.heap.size := bk_lt n1
  have t5 := HT0.out.below b5
  clear e0 e1 e2 e3 e4 g0 g1 g2 g3 g4
  obtain ⟨e0, e1, e2, e3, e4, g0, g1, g2, g3, g4⟩ := n1.cells
  simp only [World.put5] at n5 b5 t5
  have N5 := Lib.hid n5; have HB5 := Lib.hid b5; have HT5 := Lib.hid t5
  clear n1 n5 b5 t5 hb hb4 N3 HB3 HT3
  go_wp2_with fail
  refine (code_any q 1015 k b m cx cy _ (by rcases HQC.out with h | h | h | h | h <;> omega) (.inr (by omega)) (HK4.out) HB3'.out HMB.out).mono ?_
  rintro e w5 ⟨rfl, hb⟩
  simp only [HNE.out]
  have n6 := N5.out.past hb
  have hb6 := HB5.out.trans (hb.mono HB5.out.size)
  have ht6 := HT5.out.below hb
  clear e0 e1 e2 e3 e4 g0 g1 g2 g3 g4
  obtain ⟨e0, e1, e2, e3, e4, _⟩ := n6.cells
  have N6 := Lib.hid n6; have HB6 := Lib.hid hb6
  have RT : Hid (∀ u : After w5, TabI u.get) := Lib.hid (fun u => ht6.below u.below)
  have r0 := fun u : After w5 => u.cell e0
  have r3 := fun u : After w5 => u.cell e3
  have r4 := fun u : After w5 => u.cell e4
  clear e0 e1 e2 e3 e4 n6 hb6 ht6 hb N5 HB5 HT5
  go_wp2_with fail
  refine wp_region_after (by kernel_rfl) (by kernel_rfl) ?_
  repeat (go_big_quiet_step (first
    | (go_at_call_of 69 cx; exact Calls.after_of (IX.out _ (RT.out _)))
    | (go_at_call_of 69 cy; exact Calls.after_of (IY.out _ (RT.out _)))))
  refine wpQuiet_nil ?_
  rintro _ ⟨u, rfl⟩
  have c0 := r0 u; have c3 := r3 u; have c4 := r4 u
  have ht7 := RT.out u
  have hb7 := HB6.out.trans (u.below.mono HB6.out.size)
  clear r0 r3 r4 RT HB6 N6
  generalize u.get = w6 at c0 c3 c4 ht7 hb7 ⊢
  have HT7 := Lib.hid ht7; have HB7 := Lib.hid hb7
  clear ht7 hb7
  go_wp2_with fail
  refine (IN.out _ HT7.out).mono ?_
  rintro e w7 ⟨rfl, hb⟩
  have HB8 := Lib.hid (HB7.out.trans (hb.mono HB7.out.size))
  obtain ⟨cp, w8, hcv, hrd, hb8⟩ := conv_bytes w7 (((ByteArray.mk #[27, 91] ++ sn) ++ (((ByteArray.mk #[59] ++ sx) ++ ByteArray.mk #[59]) ++ sy)) ++ ByteArray.mk #[77])
  have hbi : bI (((ByteArray.mk #[27, 91] ++ sn) ++ (((ByteArray.mk #[59] ++ sx) ++ ByteArray.mk #[59]) ++ sy)) ++ ByteArray.mk #[77]) = repU n cx cy := by
    have h1 : bI (ByteArray.mk #[27, 91]) = [27, 91] := rfl
    have h2 : bI (ByteArray.mk #[59]) = [59] := rfl
    have h3 : bI (ByteArray.mk #[77]) = [77] := rfl
    simp [bI_app, h1, h2, h3, SX.out, SY.out, SN.out, repU]
  rw [hbi] at hrd
  have HRD := Lib.hid hrd; have HB9 := Lib.hid (HB8.out.trans (hb8.mono HB8.out.size)); have HBI := Lib.hid hbi
  clear hrd hb8 hbi hb
  go_wp2_with fail
  go_ret
  have a1 := congrArg List.length SX.out
  have a2 := congrArg List.length SY.out
  have a3 := congrArg List.length SN.out
  rw [bI_len] at a1 a2 a3
  refine ⟨_, _, cp, rfl, ?_, HRD.out, HB9.out⟩
  simp only [repU, List.length_cons, List.length_append, List.length_nil]
  omega
end Go.Proofs.YtcempbgbdlmjfaaDoor
