/-
  parse: the walk of numbers.
-/
import Derived.Test.YtcempbgbdlmjfaaDoorP6Sq
namespace Go.Proofs.YtcempbgbdlmjfaaDoor
open Go.RowKit

set_option maxRecDepth 100000 in
set_option maxHeartbeats 1600000 in
theorem numbers_low (v : Sv) (c : Int) (w : World) (hv : v.Ok w) (c0 : 0 ≤ c) (c256 : c < 256) (h : c ≤ 47) : Calls Tryd.prog 97 #[v.val, .int .u8 c] w (StRet v w (numbersF v.s c).1 (numbersF v.s c).2) := by
  obtain ⟨n1, n2⟩ := s_two w v sv0
  obtain ⟨⟨a0, inter, over, l, o, text, kind⟩, ib, tb, A, cc⟩ := v
  have N1 := Lib.hid n1; have N2 := Lib.hid n2; have HV := Lib.hid hv
  clear n1 n2 hv
  have hf : numbersF ⟨a0, inter, over, l, o, text, kind⟩ c = (collectF ⟨a0, inter, over, l, o, text, kind⟩ c 5, []) := by unfold numbersF; rw [if_pos h]
  have HE := Lib.hid hf
  clear hf
  show Calls Tryd.prog 97 #[.agg #[.int .i64 a0, .string ib, .bool over, .slice A l.length cc, .bool o, .string tb, .int .u8 kind], .int .u8 c] w _
  go_enter Tryd.func97, Tryd.ntmps97
  go_wp2_with fail
  refine (collect_any ⟨⟨a0, inter, over, l, o, text, kind⟩, ib, tb, A, cc⟩ c 5 _ HV.out.tx c0 c256).mono ?_
  intro e w1 hret
  obtain ⟨a1, inter1, ov1, l1, o1, text1, k1, ib1, tb1, A1, c1, he1, rfl, htx, hpar, hb⟩ := hret.open
  clear hret
  simp only [size_two] at hb hpar
  have hs := N2.out.past (hb.mono (by simp))
  have HS := Lib.hid hs; have HP := Lib.hid hpar; have HB := Lib.hid hb; have HTX := Lib.hid htx; have HE1 := Lib.hid he1
  obtain ⟨q0, q1, q2, q3, q4, q5, q6, g0, g1, g2, g3, g4, g5, g6⟩ := hs.cells
  simp only [sv0, st0] at q0 q1 q2 q3 q4 q5 q6
  clear hs hpar hb htx he1
  go_wp2_with fail
  obtain ⟨hp7, hb7, hq7⟩ := st_put (v' := ⟨⟨a1, inter1, ov1, l1, o1, text1, k1⟩, ib1, tb1, A1, c1⟩) HS.out ((((Below.refl _ _).alloc (Nat.le_refl _) _).alloc (by simp) _ : Below w.heap.size w _).trans (HB.out.mono (by omega))) HP.out (by omega) (by omega)
  simp only [World.put7] at hp7 hb7 hq7
  generalize (((((((w1.setCell ⟨w.heap.size + 1, 0, none⟩ (.int .i64 a1)).setCell ⟨w.heap.size + 1, 1, none⟩ (.string ib1)).setCell ⟨w.heap.size + 1, 2, none⟩ (.bool ov1)).setCell ⟨w.heap.size + 1, 3, none⟩ (.slice A1 l1.length c1)).setCell ⟨w.heap.size + 1, 4, none⟩ (.bool o1)).setCell ⟨w.heap.size + 1, 5, none⟩ (.string tb1)).setCell ⟨w.heap.size + 1, 6, none⟩ (.int .u8 k1)) = W7 at hp7 hb7 hq7 ⊢
  obtain ⟨d0, d1, d2, d3, d4, d5, d6, _⟩ := hp7.cells
  simp only at d0 d1 d2 d3 d4 d5 d6
  refine bodyPost_ret (v := .tuple #[.agg #[.int .i64 a1, .string ib1, .bool ov1, .slice A1 l1.length c1, .bool o1, .string tb1, .int .u8 k1], .slice none 0 0]) (by simp [results, Tryd.results97, go_sem, d0, d1, d2, d3, d4, d5, d6]) rfl ?_
  rw [HE.out]
  exact ⟨⟨⟨a1, inter1, ov1, l1, o1, text1, k1⟩, ib1, tb1, A1, c1⟩, none, 0, [], HE1.out, rfl, HTX.out, hq7, Acts.nil _ _ _ _, Nat.le_refl _, hb7⟩
set_option maxRecDepth 100000 in
set_option maxHeartbeats 1600000 in
theorem numbers_seq (v : Sv) (c : Int) (w : World) (hv : v.Ok w) (c0 : 0 ≤ c) (c256 : c < 256) (h : 64 ≤ c) : Calls Tryd.prog 97 #[v.val, .int .u8 c] w (StRet v w (numbersF v.s c).1 (numbersF v.s c).2) := by
  obtain ⟨n1, n2⟩ := s_two w v sv0
  obtain ⟨⟨a0, inter, over, l, o, text, kind⟩, ib, tb, A, cc⟩ := v
  have N1 := Lib.hid n1; have N2 := Lib.hid n2; have HV := Lib.hid hv
  clear n1 n2 hv
  have hf : numbersF ⟨a0, inter, over, l, o, text, kind⟩ c = seqF ⟨a0, inter, over, l, o, text, kind⟩ c := by unfold numbersF; rw [if_neg (by omega), if_pos h]
  have HE := Lib.hid hf
  clear hf
  show Calls Tryd.prog 97 #[.agg #[.int .i64 a0, .string ib, .bool over, .slice A l.length cc, .bool o, .string tb, .int .u8 kind], .int .u8 c] w _
  go_enter Tryd.func97, Tryd.ntmps97
  go_wp2_with fail
  refine (sequence_any ⟨⟨a0, inter, over, l, o, text, kind⟩, ib, tb, A, cc⟩ c _ HV.out.tx).mono ?_
  intro e w1 hret
  obtain ⟨a1, inter1, ov1, l1, o1, text1, k1, ib1, tb1, A1, c1, Ac, cA, vs, he1, rfl, htx, hpar, hacts, hca, hb⟩ := hret.open
  clear hret
  simp only [size_two] at hb hpar hacts
  have hs := N2.out.past (hb.mono (by simp))
  have HS := Lib.hid hs; have HP := Lib.hid hpar; have HB := Lib.hid hb; have HTX := Lib.hid htx; have HE1 := Lib.hid he1; have HA := Lib.hid hacts; have HC := Lib.hid hca
  obtain ⟨q0, q1, q2, q3, q4, q5, q6, g0, g1, g2, g3, g4, g5, g6⟩ := hs.cells
  simp only [sv0, st0] at q0 q1 q2 q3 q4 q5 q6
  clear hs hpar hb htx he1 hacts hca
  go_wp2_with fail
  obtain ⟨hp7, hb7, hq7⟩ := st_put (v' := ⟨⟨a1, inter1, ov1, l1, o1, text1, k1⟩, ib1, tb1, A1, c1⟩) HS.out ((((Below.refl _ _).alloc (Nat.le_refl _) _).alloc (by simp) _ : Below w.heap.size w _).trans (HB.out.mono (by omega))) HP.out (by omega) (by omega)
  have ha7 := (HA.out.put7 (w.heap.size + 1) (by omega) ⟨⟨a1, inter1, ov1, l1, o1, text1, k1⟩, ib1, tb1, A1, c1⟩).less (show w.heap.size ≤ _ by omega)
  simp only [World.put7] at hp7 hb7 hq7 ha7
  generalize (((((((w1.setCell ⟨w.heap.size + 1, 0, none⟩ (.int .i64 a1)).setCell ⟨w.heap.size + 1, 1, none⟩ (.string ib1)).setCell ⟨w.heap.size + 1, 2, none⟩ (.bool ov1)).setCell ⟨w.heap.size + 1, 3, none⟩ (.slice A1 l1.length c1)).setCell ⟨w.heap.size + 1, 4, none⟩ (.bool o1)).setCell ⟨w.heap.size + 1, 5, none⟩ (.string tb1)).setCell ⟨w.heap.size + 1, 6, none⟩ (.int .u8 k1)) = W7 at hp7 hb7 hq7 ha7 ⊢
  obtain ⟨d0, d1, d2, d3, d4, d5, d6, _⟩ := hp7.cells
  simp only at d0 d1 d2 d3 d4 d5 d6
  refine bodyPost_ret (v := .tuple #[.agg #[.int .i64 a1, .string ib1, .bool ov1, .slice A1 l1.length c1, .bool o1, .string tb1, .int .u8 k1], .slice Ac ((seqF ⟨a0, inter, over, l, o, text, kind⟩ c).2).length cA]) (by simp [results, Tryd.results97, go_sem, d0, d1, d2, d3, d4, d5, d6]) rfl ?_
  rw [HE.out]
  exact ⟨⟨⟨a1, inter1, ov1, l1, o1, text1, k1⟩, ib1, tb1, A1, c1⟩, Ac, cA, vs, HE1.out, rfl, HTX.out, hq7, ha7, HC.out, hb7⟩
set_option maxRecDepth 100000 in
set_option maxHeartbeats 1600000 in
theorem numbers_mark (v : Sv) (c : Int) (w : World) (hv : v.Ok w) (c0 : 0 ≤ c) (c256 : c < 256) (h : 60 ≤ c) (h2 : c < 64) (ha : v.s.a = 3) : Calls Tryd.prog 97 #[v.val, .int .u8 c] w (StRet v w (numbersF v.s c).1 (numbersF v.s c).2) := by
  obtain ⟨n1, n2⟩ := s_two w v sv0
  obtain ⟨⟨a0, inter, over, l, o, text, kind⟩, ib, tb, A, cc⟩ := v
  have N1 := Lib.hid n1; have N2 := Lib.hid n2; have HV := Lib.hid hv
  clear n1 n2 hv
  simp only at ha
  subst ha
  have f0 : (c == 59) = false := beq_eq_false_iff_ne.2 (by omega)
  have f1 : (c == 58) = false := beq_eq_false_iff_ne.2 (by omega)
  have hf : numbersF ⟨3, inter, over, l, o, text, kind⟩ c = (collectF ⟨3, inter, over, l, o, text, kind⟩ c 4, []) := by unfold numbersF; rw [if_neg (by omega), if_neg (by omega), if_neg (by omega), if_neg (by omega), if_neg (by omega), if_pos rfl]
  have HE := Lib.hid hf
  clear hf
  show Calls Tryd.prog 97 #[.agg #[.int .i64 3, .string ib, .bool over, .slice A l.length cc, .bool o, .string tb, .int .u8 kind], .int .u8 c] w _
  go_enter Tryd.func97, Tryd.ntmps97
  go_wp2_with fail
  refine (collect_any ⟨⟨3, inter, over, l, o, text, kind⟩, ib, tb, A, cc⟩ c 4 _ HV.out.tx c0 c256).mono ?_
  intro e w1 hret
  obtain ⟨a1, inter1, ov1, l1, o1, text1, k1, ib1, tb1, A1, c1, he1, rfl, htx, hpar, hb⟩ := hret.open
  clear hret
  simp only [size_two] at hb hpar
  have hs := N2.out.past (hb.mono (by simp))
  have HS := Lib.hid hs; have HP := Lib.hid hpar; have HB := Lib.hid hb; have HTX := Lib.hid htx; have HE1 := Lib.hid he1
  obtain ⟨q0, q1, q2, q3, q4, q5, q6, g0, g1, g2, g3, g4, g5, g6⟩ := hs.cells
  simp only [sv0, st0] at q0 q1 q2 q3 q4 q5 q6
  clear hs hpar hb htx he1
  go_wp2_with fail
  obtain ⟨hp7, hb7, hq7⟩ := st_put (v' := ⟨⟨a1, inter1, ov1, l1, o1, text1, k1⟩, ib1, tb1, A1, c1⟩) HS.out ((((Below.refl _ _).alloc (Nat.le_refl _) _).alloc (by simp) _ : Below w.heap.size w _).trans (HB.out.mono (by omega))) HP.out (by omega) (by omega)
  simp only [World.put7] at hp7 hb7 hq7
  generalize (((((((w1.setCell ⟨w.heap.size + 1, 0, none⟩ (.int .i64 a1)).setCell ⟨w.heap.size + 1, 1, none⟩ (.string ib1)).setCell ⟨w.heap.size + 1, 2, none⟩ (.bool ov1)).setCell ⟨w.heap.size + 1, 3, none⟩ (.slice A1 l1.length c1)).setCell ⟨w.heap.size + 1, 4, none⟩ (.bool o1)).setCell ⟨w.heap.size + 1, 5, none⟩ (.string tb1)).setCell ⟨w.heap.size + 1, 6, none⟩ (.int .u8 k1)) = W7 at hp7 hb7 hq7 ⊢
  obtain ⟨d0, d1, d2, d3, d4, d5, d6, _⟩ := hp7.cells
  simp only at d0 d1 d2 d3 d4 d5 d6
  refine bodyPost_ret (v := .tuple #[.agg #[.int .i64 a1, .string ib1, .bool ov1, .slice A1 l1.length c1, .bool o1, .string tb1, .int .u8 k1], .slice none 0 0]) (by simp [results, Tryd.results97, go_sem, d0, d1, d2, d3, d4, d5, d6]) rfl ?_
  rw [HE.out]
  exact ⟨⟨⟨a1, inter1, ov1, l1, o1, text1, k1⟩, ib1, tb1, A1, c1⟩, none, 0, [], HE1.out, rfl, HTX.out, hq7, Acts.nil _ _ _ _, Nat.le_refl _, hb7⟩
set_option maxRecDepth 100000 in
set_option maxHeartbeats 1600000 in
theorem numbers_bad (v : Sv) (c : Int) (w : World) (hv : v.Ok w) (c0 : 0 ≤ c) (c256 : c < 256) (h : 60 ≤ c) (h2 : c < 64) (ha : v.s.a ≠ 3) : Calls Tryd.prog 97 #[v.val, .int .u8 c] w (StRet v w (numbersF v.s c).1 (numbersF v.s c).2) := by
  obtain ⟨n1, n2⟩ := s_two w v sv0
  obtain ⟨⟨a0, inter, over, l, o, text, kind⟩, ib, tb, A, cc⟩ := v
  have N1 := Lib.hid n1; have N2 := Lib.hid n2; have HV := Lib.hid hv
  clear n1 n2 hv
  simp only at ha
  have f0 : (c == 59) = false := beq_eq_false_iff_ne.2 (by omega)
  have f1 : (c == 58) = false := beq_eq_false_iff_ne.2 (by omega)
  have f2 : (a0 == 3) = false := beq_eq_false_iff_ne.2 ha
  have hf : numbersF ⟨a0, inter, over, l, o, text, kind⟩ c = (⟨6, inter, over, l, o, text, kind⟩, []) := by unfold numbersF; rw [if_neg (by omega), if_neg (by omega), if_neg (by omega), if_neg (by omega), if_neg (by omega), if_neg ha]
  have HE := Lib.hid hf
  clear hf ha
  show Calls Tryd.prog 97 #[.agg #[.int .i64 a0, .string ib, .bool over, .slice A l.length cc, .bool o, .string tb, .int .u8 kind], .int .u8 c] w _
  go_enter Tryd.func97, Tryd.ntmps97
  go_wp2
  refine bodyPost_ret (v := .tuple #[.agg #[.int .i64 6, .string ib, .bool over, .slice A l.length cc, .bool o, .string tb, .int .u8 kind], .slice none 0 0]) (by simp [results, Tryd.results97, go_sem]) rfl ?_
  rw [HE.out]
  exact ⟨⟨⟨6, inter, over, l, o, text, kind⟩, ib, tb, A, cc⟩, none, 0, [], rfl, rfl, ⟨HV.out.tx.ib, HV.out.tx.tb, HV.out.tx.k⟩, .inl ⟨rfl, rfl, rfl⟩, Acts.nil _ _ _ _, Nat.le_refl _, ((Below.refl _ _).alloc (Nat.le_refl _) _).alloc (by simp) _⟩
set_option maxRecDepth 100000 in
set_option maxHeartbeats 1600000 in
theorem numbers_next (v : Sv) (c : Int) (w : World) (hv : v.Ok w) (c0 : 0 ≤ c) (c256 : c < 256) (h : c = 59) : Calls Tryd.prog 97 #[v.val, .int .u8 c] w (StRet v w (numbersF v.s c).1 (numbersF v.s c).2) := by
  obtain ⟨n1, n2⟩ := s_two w v sv0
  obtain ⟨⟨a0, inter, over, l, o, text, kind⟩, ib, tb, A, cc⟩ := v
  have N1 := Lib.hid n1; have N2 := Lib.hid n2; have HV := Lib.hid hv
  clear n1 n2 hv
  subst h
  have hf : numbersF ⟨a0, inter, over, l, o, text, kind⟩ 59 = (⟨4, inter, over, (nextP ⟨l, o⟩).l, (nextP ⟨l, o⟩).o, text, kind⟩, []) := by unfold numbersF; rw [if_neg (by omega), if_neg (by omega), if_pos rfl]
  have HE := Lib.hid hf
  clear hf
  have hrd : RdLL ((w.alloc (.cells #[.int .i64 a0, .string ib, .bool over, .slice A l.length cc, .bool o, .string tb, .int .u8 kind] 82)).alloc (.cells #[.int .i64 0, .string ⟨#[]⟩, .bool false, .slice none 0 0, .bool false, .string ⟨#[]⟩, .int .u8 0] 82)) 0 ((w.alloc (.cells #[.int .i64 a0, .string ib, .bool over, .slice A l.length cc, .bool o, .string tb, .int .u8 kind] 82)).alloc (.cells #[.int .i64 0, .string ⟨#[]⟩, .bool false, .slice none 0 0, .bool false, .string ⟨#[]⟩, .int .u8 0] 82)).heap.size (.slice A l.length cc) l := HV.out.rd.next (((Below.refl _ _).alloc (Nat.le_refl _) _).alloc (by simp) _)
  have HRD := Lib.hid hrd
  clear hrd
  show Calls Tryd.prog 97 #[.agg #[.int .i64 a0, .string ib, .bool over, .slice A l.length cc, .bool o, .string tb, .int .u8 kind], .int .u8 59] w _
  go_enter Tryd.func97, Tryd.ntmps97
  go_wp2_with fail
  refine (next_any l o (.slice A l.length cc) _ HRD.out (Nat.le_refl _)).mono ?_
  rintro e w1 ⟨v1, rfl, hr, hb⟩
  simp only [size_two] at hb hr
  obtain ⟨A1, c1, rfl, hcap⟩ := rdLL_form hr
  have hs1 := N1.out.past (hb.mono (by simp))
  have hs2 := N2.out.past (hb.mono (by simp))
  have HS1 := Lib.hid hs1; have HS2 := Lib.hid hs2; have HB := Lib.hid hb; have HR := Lib.hid hr
  obtain ⟨p0, p1, p2, p3, p4, p5, p6, u0, u1, u2, u3, u4, u5, u6⟩ := hs1.cells
  obtain ⟨q0, q1, q2, q3, q4, q5, q6, g0, g1, g2, g3, g4, g5, g6⟩ := hs2.cells
  simp only [sv0, st0] at p0 p1 p2 p3 p4 p5 p6 q0 q1 q2 q3 q4 q5 q6
  clear hs1 hs2 hb hr
  go_wp2_with fail
  have hs3 : SAt (((w1.setCell ⟨w.heap.size, 3, none⟩ (.slice A1 (nextP ⟨l, o⟩).l.length c1)).setCell ⟨w.heap.size, 4, none⟩ (.bool (nextP ⟨l, o⟩).o)).setCell ⟨w.heap.size, 0, none⟩ (.int .i64 4)) (w.heap.size + 1) sv0 := ((HS2.out.far ⟨w.heap.size, 3, none⟩ (by simp) _).far ⟨w.heap.size, 4, none⟩ (by simp) _).far ⟨w.heap.size, 0, none⟩ (by simp) _
  have hb3 : Below w.heap.size w (((w1.setCell ⟨w.heap.size, 3, none⟩ (.slice A1 (nextP ⟨l, o⟩).l.length c1)).setCell ⟨w.heap.size, 4, none⟩ (.bool (nextP ⟨l, o⟩).o)).setCell ⟨w.heap.size, 0, none⟩ (.int .i64 4)) := (((((((Below.refl _ _).alloc (Nat.le_refl _) _).alloc (by simp) _ : Below w.heap.size w _).trans (HB.out.mono (by omega))).setCell (p := ⟨w.heap.size, 3, none⟩) (Nat.le_refl _) _).setCell (p := ⟨w.heap.size, 4, none⟩) (Nat.le_refl _) _).setCell (p := ⟨w.heap.size, 0, none⟩) (Nat.le_refl _) _)
  have hp3 : ParOk ⟨⟨a0, inter, over, l, o, text, kind⟩, ib, tb, A, cc⟩ (w.heap.size + 1 + 1) (((w1.setCell ⟨w.heap.size, 3, none⟩ (.slice A1 (nextP ⟨l, o⟩).l.length c1)).setCell ⟨w.heap.size, 4, none⟩ (.bool (nextP ⟨l, o⟩).o)).setCell ⟨w.heap.size, 0, none⟩ (.int .i64 4)) A1 c1 (nextP ⟨l, o⟩).l := ((ParOk.far (.inr HR.out) ⟨w.heap.size, 3, none⟩ (show w.heap.size < _ by omega) _).far ⟨w.heap.size, 4, none⟩ (show w.heap.size < _ by omega) _).far ⟨w.heap.size, 0, none⟩ (show w.heap.size < _ by omega) _
  obtain ⟨hp7, hb7, hq7⟩ := st_put (v' := ⟨⟨4, inter, over, (nextP ⟨l, o⟩).l, (nextP ⟨l, o⟩).o, text, kind⟩, ib, tb, A1, c1⟩) hs3 hb3 hp3 (by omega) (by omega)
  simp only [World.put7] at hp7 hb7 hq7
  generalize ((((((((((w1.setCell ⟨w.heap.size, 3, none⟩ (.slice A1 (nextP ⟨l, o⟩).l.length c1)).setCell ⟨w.heap.size, 4, none⟩ (.bool (nextP ⟨l, o⟩).o)).setCell ⟨w.heap.size, 0, none⟩ (.int .i64 4)).setCell ⟨w.heap.size + 1, 0, none⟩ (.int .i64 4)).setCell ⟨w.heap.size + 1, 1, none⟩ (.string ib)).setCell ⟨w.heap.size + 1, 2, none⟩ (.bool over)).setCell ⟨w.heap.size + 1, 3, none⟩ (.slice A1 (nextP ⟨l, o⟩).l.length c1)).setCell ⟨w.heap.size + 1, 4, none⟩ (.bool (nextP ⟨l, o⟩).o)).setCell ⟨w.heap.size + 1, 5, none⟩ (.string tb)).setCell ⟨w.heap.size + 1, 6, none⟩ (.int .u8 kind)) = W7 at hp7 hb7 hq7 ⊢
  obtain ⟨d0, d1, d2, d3, d4, d5, d6, _⟩ := hp7.cells
  simp only at d0 d1 d2 d3 d4 d5 d6
  refine bodyPost_ret (v := .tuple #[.agg #[.int .i64 4, .string ib, .bool over, .slice A1 (nextP ⟨l, o⟩).l.length c1, .bool (nextP ⟨l, o⟩).o, .string tb, .int .u8 kind], .slice none 0 0]) (by simp [results, Tryd.results97, go_sem, d0, d1, d2, d3, d4, d5, d6]) rfl ?_
  rw [HE.out]
  exact ⟨⟨⟨4, inter, over, (nextP ⟨l, o⟩).l, (nextP ⟨l, o⟩).o, text, kind⟩, ib, tb, A1, c1⟩, none, 0, [], rfl, rfl, ⟨HV.out.tx.ib, HV.out.tx.tb, HV.out.tx.k⟩, hq7, Acts.nil _ _ _ _, Nat.le_refl _, hb7⟩
set_option maxRecDepth 100000 in
set_option maxHeartbeats 1600000 in
theorem numbers_sub (v : Sv) (c : Int) (w : World) (hv : v.Ok w) (c0 : 0 ≤ c) (c256 : c < 256) (h : c = 58) : Calls Tryd.prog 97 #[v.val, .int .u8 c] w (StRet v w (numbersF v.s c).1 (numbersF v.s c).2) := by
  obtain ⟨n1, n2⟩ := s_two w v sv0
  obtain ⟨⟨a0, inter, over, l, o, text, kind⟩, ib, tb, A, cc⟩ := v
  have N1 := Lib.hid n1; have N2 := Lib.hid n2; have HV := Lib.hid hv
  clear n1 n2 hv
  subst h
  have hf : numbersF ⟨a0, inter, over, l, o, text, kind⟩ 58 = (⟨4, inter, over, (subP ⟨l, o⟩).l, (subP ⟨l, o⟩).o, text, kind⟩, []) := by unfold numbersF; rw [if_neg (by omega), if_neg (by omega), if_neg (by omega), if_pos rfl]
  have HE := Lib.hid hf
  clear hf
  have hrd : RdLL ((w.alloc (.cells #[.int .i64 a0, .string ib, .bool over, .slice A l.length cc, .bool o, .string tb, .int .u8 kind] 82)).alloc (.cells #[.int .i64 0, .string ⟨#[]⟩, .bool false, .slice none 0 0, .bool false, .string ⟨#[]⟩, .int .u8 0] 82)) 0 ((w.alloc (.cells #[.int .i64 a0, .string ib, .bool over, .slice A l.length cc, .bool o, .string tb, .int .u8 kind] 82)).alloc (.cells #[.int .i64 0, .string ⟨#[]⟩, .bool false, .slice none 0 0, .bool false, .string ⟨#[]⟩, .int .u8 0] 82)).heap.size (.slice A l.length cc) l := HV.out.rd.next (((Below.refl _ _).alloc (Nat.le_refl _) _).alloc (by simp) _)
  have HRD := Lib.hid hrd
  clear hrd
  show Calls Tryd.prog 97 #[.agg #[.int .i64 a0, .string ib, .bool over, .slice A l.length cc, .bool o, .string tb, .int .u8 kind], .int .u8 58] w _
  go_enter Tryd.func97, Tryd.ntmps97
  go_wp2_with fail
  refine (sub_any l o (.slice A l.length cc) _ HRD.out (Nat.le_refl _)).mono ?_
  rintro e w1 ⟨v1, rfl, hr, hb⟩
  simp only [size_two] at hb hr
  obtain ⟨A1, c1, rfl, hcap⟩ := rdLL_form hr
  have hs1 := N1.out.past (hb.mono (by simp))
  have hs2 := N2.out.past (hb.mono (by simp))
  have HS1 := Lib.hid hs1; have HS2 := Lib.hid hs2; have HB := Lib.hid hb; have HR := Lib.hid hr
  obtain ⟨p0, p1, p2, p3, p4, p5, p6, u0, u1, u2, u3, u4, u5, u6⟩ := hs1.cells
  obtain ⟨q0, q1, q2, q3, q4, q5, q6, g0, g1, g2, g3, g4, g5, g6⟩ := hs2.cells
  simp only [sv0, st0] at p0 p1 p2 p3 p4 p5 p6 q0 q1 q2 q3 q4 q5 q6
  clear hs1 hs2 hb hr
  go_wp2_with fail
  have hs3 : SAt (((w1.setCell ⟨w.heap.size, 3, none⟩ (.slice A1 (subP ⟨l, o⟩).l.length c1)).setCell ⟨w.heap.size, 4, none⟩ (.bool (subP ⟨l, o⟩).o)).setCell ⟨w.heap.size, 0, none⟩ (.int .i64 4)) (w.heap.size + 1) sv0 := ((HS2.out.far ⟨w.heap.size, 3, none⟩ (by simp) _).far ⟨w.heap.size, 4, none⟩ (by simp) _).far ⟨w.heap.size, 0, none⟩ (by simp) _
  have hb3 : Below w.heap.size w (((w1.setCell ⟨w.heap.size, 3, none⟩ (.slice A1 (subP ⟨l, o⟩).l.length c1)).setCell ⟨w.heap.size, 4, none⟩ (.bool (subP ⟨l, o⟩).o)).setCell ⟨w.heap.size, 0, none⟩ (.int .i64 4)) := (((((((Below.refl _ _).alloc (Nat.le_refl _) _).alloc (by simp) _ : Below w.heap.size w _).trans (HB.out.mono (by omega))).setCell (p := ⟨w.heap.size, 3, none⟩) (Nat.le_refl _) _).setCell (p := ⟨w.heap.size, 4, none⟩) (Nat.le_refl _) _).setCell (p := ⟨w.heap.size, 0, none⟩) (Nat.le_refl _) _)
  have hp3 : ParOk ⟨⟨a0, inter, over, l, o, text, kind⟩, ib, tb, A, cc⟩ (w.heap.size + 1 + 1) (((w1.setCell ⟨w.heap.size, 3, none⟩ (.slice A1 (subP ⟨l, o⟩).l.length c1)).setCell ⟨w.heap.size, 4, none⟩ (.bool (subP ⟨l, o⟩).o)).setCell ⟨w.heap.size, 0, none⟩ (.int .i64 4)) A1 c1 (subP ⟨l, o⟩).l := ((ParOk.far (.inr HR.out) ⟨w.heap.size, 3, none⟩ (show w.heap.size < _ by omega) _).far ⟨w.heap.size, 4, none⟩ (show w.heap.size < _ by omega) _).far ⟨w.heap.size, 0, none⟩ (show w.heap.size < _ by omega) _
  obtain ⟨hp7, hb7, hq7⟩ := st_put (v' := ⟨⟨4, inter, over, (subP ⟨l, o⟩).l, (subP ⟨l, o⟩).o, text, kind⟩, ib, tb, A1, c1⟩) hs3 hb3 hp3 (by omega) (by omega)
  simp only [World.put7] at hp7 hb7 hq7
  generalize ((((((((((w1.setCell ⟨w.heap.size, 3, none⟩ (.slice A1 (subP ⟨l, o⟩).l.length c1)).setCell ⟨w.heap.size, 4, none⟩ (.bool (subP ⟨l, o⟩).o)).setCell ⟨w.heap.size, 0, none⟩ (.int .i64 4)).setCell ⟨w.heap.size + 1, 0, none⟩ (.int .i64 4)).setCell ⟨w.heap.size + 1, 1, none⟩ (.string ib)).setCell ⟨w.heap.size + 1, 2, none⟩ (.bool over)).setCell ⟨w.heap.size + 1, 3, none⟩ (.slice A1 (subP ⟨l, o⟩).l.length c1)).setCell ⟨w.heap.size + 1, 4, none⟩ (.bool (subP ⟨l, o⟩).o)).setCell ⟨w.heap.size + 1, 5, none⟩ (.string tb)).setCell ⟨w.heap.size + 1, 6, none⟩ (.int .u8 kind)) = W7 at hp7 hb7 hq7 ⊢
  obtain ⟨d0, d1, d2, d3, d4, d5, d6, _⟩ := hp7.cells
  simp only at d0 d1 d2 d3 d4 d5 d6
  refine bodyPost_ret (v := .tuple #[.agg #[.int .i64 4, .string ib, .bool over, .slice A1 (subP ⟨l, o⟩).l.length c1, .bool (subP ⟨l, o⟩).o, .string tb, .int .u8 kind], .slice none 0 0]) (by simp [results, Tryd.results97, go_sem, d0, d1, d2, d3, d4, d5, d6]) rfl ?_
  rw [HE.out]
  exact ⟨⟨⟨4, inter, over, (subP ⟨l, o⟩).l, (subP ⟨l, o⟩).o, text, kind⟩, ib, tb, A1, c1⟩, none, 0, [], rfl, rfl, ⟨HV.out.tx.ib, HV.out.tx.tb, HV.out.tx.k⟩, hq7, Acts.nil _ _ _ _, Nat.le_refl _, hb7⟩
set_option maxRecDepth 100000 in
set_option maxHeartbeats 1600000 in
theorem numbers_digit (v : Sv) (c : Int) (w : World) (hv : v.Ok w) (c0 : 0 ≤ c) (c256 : c < 256) (h : 48 ≤ c) (h2 : c ≤ 57) : Calls Tryd.prog 97 #[v.val, .int .u8 c] w (StRet v w (numbersF v.s c).1 (numbersF v.s c).2) := by
  obtain ⟨n1, n2⟩ := s_two w v sv0
  obtain ⟨⟨a0, inter, over, l, o, text, kind⟩, ib, tb, A, cc⟩ := v
  have N1 := Lib.hid n1; have N2 := Lib.hid n2; have HV := Lib.hid hv
  clear n1 n2 hv
  have f0 : (c == 59) = false := beq_eq_false_iff_ne.2 (by omega)
  have f1 : (c == 58) = false := beq_eq_false_iff_ne.2 (by omega)
  have hf : numbersF ⟨a0, inter, over, l, o, text, kind⟩ c = (⟨4, inter, over, (digitP ⟨l, o⟩ c).l, (digitP ⟨l, o⟩ c).o, text, kind⟩, []) := by unfold numbersF; rw [if_neg (by omega), if_neg (by omega), if_neg (by omega), if_neg (by omega), if_pos h2]
  have HE := Lib.hid hf
  clear hf
  have hrd : RdLL ((w.alloc (.cells #[.int .i64 a0, .string ib, .bool over, .slice A l.length cc, .bool o, .string tb, .int .u8 kind] 82)).alloc (.cells #[.int .i64 0, .string ⟨#[]⟩, .bool false, .slice none 0 0, .bool false, .string ⟨#[]⟩, .int .u8 0] 82)) 0 ((w.alloc (.cells #[.int .i64 a0, .string ib, .bool over, .slice A l.length cc, .bool o, .string tb, .int .u8 kind] 82)).alloc (.cells #[.int .i64 0, .string ⟨#[]⟩, .bool false, .slice none 0 0, .bool false, .string ⟨#[]⟩, .int .u8 0] 82)).heap.size (.slice A l.length cc) l := HV.out.rd.next (((Below.refl _ _).alloc (Nat.le_refl _) _).alloc (by simp) _)
  have HRD := Lib.hid hrd
  clear hrd
  show Calls Tryd.prog 97 #[.agg #[.int .i64 a0, .string ib, .bool over, .slice A l.length cc, .bool o, .string tb, .int .u8 kind], .int .u8 c] w _
  go_enter Tryd.func97, Tryd.ntmps97
  go_wp2_with fail
  refine (digit_gen l o (.slice A l.length cc) c _ HRD.out (Nat.le_refl _) c0 c256 (.inl ⟨h, h2⟩)).mono ?_
  rintro e w1 ⟨v1, rfl, hr, hb⟩
  simp only [size_two] at hb hr
  obtain ⟨A1, c1, rfl, hcap⟩ := rdLL_form hr
  have hs1 := N1.out.past (hb.mono (by simp))
  have hs2 := N2.out.past (hb.mono (by simp))
  have HS1 := Lib.hid hs1; have HS2 := Lib.hid hs2; have HB := Lib.hid hb; have HR := Lib.hid hr
  obtain ⟨p0, p1, p2, p3, p4, p5, p6, u0, u1, u2, u3, u4, u5, u6⟩ := hs1.cells
  obtain ⟨q0, q1, q2, q3, q4, q5, q6, g0, g1, g2, g3, g4, g5, g6⟩ := hs2.cells
  simp only [sv0, st0] at p0 p1 p2 p3 p4 p5 p6 q0 q1 q2 q3 q4 q5 q6
  clear hs1 hs2 hb hr
  go_wp2_with fail
  have hs3 : SAt (((w1.setCell ⟨w.heap.size, 3, none⟩ (.slice A1 (digitP ⟨l, o⟩ c).l.length c1)).setCell ⟨w.heap.size, 4, none⟩ (.bool (digitP ⟨l, o⟩ c).o)).setCell ⟨w.heap.size, 0, none⟩ (.int .i64 4)) (w.heap.size + 1) sv0 := ((HS2.out.far ⟨w.heap.size, 3, none⟩ (by simp) _).far ⟨w.heap.size, 4, none⟩ (by simp) _).far ⟨w.heap.size, 0, none⟩ (by simp) _
  have hb3 : Below w.heap.size w (((w1.setCell ⟨w.heap.size, 3, none⟩ (.slice A1 (digitP ⟨l, o⟩ c).l.length c1)).setCell ⟨w.heap.size, 4, none⟩ (.bool (digitP ⟨l, o⟩ c).o)).setCell ⟨w.heap.size, 0, none⟩ (.int .i64 4)) := (((((((Below.refl _ _).alloc (Nat.le_refl _) _).alloc (by simp) _ : Below w.heap.size w _).trans (HB.out.mono (by omega))).setCell (p := ⟨w.heap.size, 3, none⟩) (Nat.le_refl _) _).setCell (p := ⟨w.heap.size, 4, none⟩) (Nat.le_refl _) _).setCell (p := ⟨w.heap.size, 0, none⟩) (Nat.le_refl _) _)
  have hp3 : ParOk ⟨⟨a0, inter, over, l, o, text, kind⟩, ib, tb, A, cc⟩ (w.heap.size + 1 + 1) (((w1.setCell ⟨w.heap.size, 3, none⟩ (.slice A1 (digitP ⟨l, o⟩ c).l.length c1)).setCell ⟨w.heap.size, 4, none⟩ (.bool (digitP ⟨l, o⟩ c).o)).setCell ⟨w.heap.size, 0, none⟩ (.int .i64 4)) A1 c1 (digitP ⟨l, o⟩ c).l := ((ParOk.far (.inr HR.out) ⟨w.heap.size, 3, none⟩ (show w.heap.size < _ by omega) _).far ⟨w.heap.size, 4, none⟩ (show w.heap.size < _ by omega) _).far ⟨w.heap.size, 0, none⟩ (show w.heap.size < _ by omega) _
  obtain ⟨hp7, hb7, hq7⟩ := st_put (v' := ⟨⟨4, inter, over, (digitP ⟨l, o⟩ c).l, (digitP ⟨l, o⟩ c).o, text, kind⟩, ib, tb, A1, c1⟩) hs3 hb3 hp3 (by omega) (by omega)
  simp only [World.put7] at hp7 hb7 hq7
  generalize ((((((((((w1.setCell ⟨w.heap.size, 3, none⟩ (.slice A1 (digitP ⟨l, o⟩ c).l.length c1)).setCell ⟨w.heap.size, 4, none⟩ (.bool (digitP ⟨l, o⟩ c).o)).setCell ⟨w.heap.size, 0, none⟩ (.int .i64 4)).setCell ⟨w.heap.size + 1, 0, none⟩ (.int .i64 4)).setCell ⟨w.heap.size + 1, 1, none⟩ (.string ib)).setCell ⟨w.heap.size + 1, 2, none⟩ (.bool over)).setCell ⟨w.heap.size + 1, 3, none⟩ (.slice A1 (digitP ⟨l, o⟩ c).l.length c1)).setCell ⟨w.heap.size + 1, 4, none⟩ (.bool (digitP ⟨l, o⟩ c).o)).setCell ⟨w.heap.size + 1, 5, none⟩ (.string tb)).setCell ⟨w.heap.size + 1, 6, none⟩ (.int .u8 kind)) = W7 at hp7 hb7 hq7 ⊢
  obtain ⟨d0, d1, d2, d3, d4, d5, d6, _⟩ := hp7.cells
  simp only at d0 d1 d2 d3 d4 d5 d6
  refine bodyPost_ret (v := .tuple #[.agg #[.int .i64 4, .string ib, .bool over, .slice A1 (digitP ⟨l, o⟩ c).l.length c1, .bool (digitP ⟨l, o⟩ c).o, .string tb, .int .u8 kind], .slice none 0 0]) (by simp [results, Tryd.results97, go_sem, d0, d1, d2, d3, d4, d5, d6]) rfl ?_
  rw [HE.out]
  exact ⟨⟨⟨4, inter, over, (digitP ⟨l, o⟩ c).l, (digitP ⟨l, o⟩ c).o, text, kind⟩, ib, tb, A1, c1⟩, none, 0, [], rfl, rfl, ⟨HV.out.tx.ib, HV.out.tx.tb, HV.out.tx.k⟩, hq7, Acts.nil _ _ _ _, Nat.le_refl _, hb7⟩
theorem numbers_any (v : Sv) (c : Int) (w : World) (hv : v.Ok w) (c0 : 0 ≤ c) (c256 : c < 256) : Calls Tryd.prog 97 #[v.val, .int .u8 c] w (StRet v w (numbersF v.s c).1 (numbersF v.s c).2) := by
  by_cases h1 : c ≤ 47
  · exact numbers_low v c w hv c0 c256 h1
  by_cases h2 : 64 ≤ c
  · exact numbers_seq v c w hv c0 c256 h2
  by_cases h3 : c = 59
  · exact numbers_next v c w hv c0 c256 h3
  by_cases h4 : c = 58
  · exact numbers_sub v c w hv c0 c256 h4
  by_cases h5 : c ≤ 57
  · exact numbers_digit v c w hv c0 c256 (by omega) h5
  by_cases ha : v.s.a = 3
  · exact numbers_mark v c w hv c0 c256 (by omega) (by omega) ha
  · exact numbers_bad v c w hv c0 c256 (by omega) (by omega) ha
end Go.Proofs.YtcempbgbdlmjfaaDoor
