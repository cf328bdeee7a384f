/-
  parse: the walk of Step: the ways that do not end a string.
-/
import Derived.Test.YtcempbgbdlmjfaaDoorP6Sc
import Derived.Test.YtcempbgbdlmjfaaDoorP6E
import Derived.Test.YtcempbgbdlmjfaaDoorP6Gr
import Derived.Test.YtcempbgbdlmjfaaDoorP6Ad
import Derived.WalkMore
namespace Go.Proofs.YtcempbgbdlmjfaaDoor
open Go.RowKit

set_option maxRecDepth 100000 in
set_option maxHeartbeats 3200000 in
theorem step_bad (v : Sv) (r : Int) (w : World) (hv : v.Ok w) (hs : saneS v.s = false) (hm : v.s.inter.length < 9223372036854775808) (hm2 : v.s.text.length < 9223372036854775808) : Calls Tryd.prog 58 #[v.val, .int .i64 r] w (StRet v w (stepS v.s r).1 (stepS v.s r).2) := by
  obtain ⟨n1, n2⟩ := s_two w v sv0
  obtain ⟨⟨a0, inter, over, l, o, text, kind⟩, ib, tb, A, cc⟩ := v
  simp only at hm hm2
  have hf : stepS ⟨a0, inter, over, l, o, text, kind⟩ r = (st0, []) := by unfold stepS; rw [if_pos hs]
  have HE := Lib.hid hf
  have N1 := Lib.hid n1; have N2 := Lib.hid n2
  have HOK : Hid (Sv.Ok ⟨⟨a0, inter, over, l, o, text, kind⟩, ib, tb, A, cc⟩ ((w.alloc (.cells #[.int .i64 a0, .string ib, .bool over, .slice A l.length cc, .bool o, .string tb, .int .u8 kind] 82)).alloc (.cells #[.int .i64 0, .string ⟨#[]⟩, .bool false, .slice none 0 0, .bool false, .string ⟨#[]⟩, .int .u8 0] 82))) := Lib.hid (hv.next (((Below.refl _ _).alloc (Nat.le_refl _) _).alloc (by simp) _))
  have HSN := Lib.hid hs
  clear hf n1 n2 hv hs
  show Calls Tryd.prog 58 #[.agg #[.int .i64 a0, .string ib, .bool over, .slice A l.length cc, .bool o, .string tb, .int .u8 kind], .int .i64 r] w _
  go_enter Tryd.func58, Tryd.ntmps58
  go_wp2
  go_step3
  go_wp2_with fail
  refine (sane6_any ⟨⟨a0, inter, over, l, o, text, kind⟩, ib, tb, A, cc⟩ _ HOK.out hm hm2).mono ?_
  rintro e w1 ⟨rfl, hb⟩
  simp only [HSN.out]
  have hb' : Below w.heap.size w w1 := (((Below.refl _ _).alloc (Nat.le_refl _) _).alloc (by simp) _).trans (hb.mono (by simp; omega))
  have hs2 := N2.out.past hb
  have HS := Lib.hid hs2; have HBL := Lib.hid hb'
  obtain ⟨e0, e1, e2, e3, e4, e5, e6, g0, g1, g2, g3, g4, g5, g6⟩ := hs2.cells
  simp only [sv0, st0] at e0 e1 e2 e3 e4 e5 e6
  clear hb hb' hs2 N1 N2
  obtain ⟨VV, hVV⟩ : ∃ x : Sv, x = ⟨⟨a0, inter, over, l, o, text, kind⟩, ib, tb, A, cc⟩ := ⟨_, rfl⟩
  have HVV := Lib.hid hVV; clear hVV
  go_wp2_with fail
  obtain ⟨hp7, hb7, hq7⟩ := st_put (v := VV) (v' := sv0) HS.out HBL.out (hi := w.heap.size + 2) (ParOk.nil _ _ _) (by omega) (by omega)
  have hp8 : SAt (((((((w1.setCell ⟨w.heap.size + 1, 0, none⟩ (.int .i64 0)).setCell ⟨w.heap.size + 1, 1, none⟩ (.string ⟨#[]⟩)).setCell ⟨w.heap.size + 1, 2, none⟩ (.bool false)).setCell ⟨w.heap.size + 1, 3, none⟩ (.slice none 0 0)).setCell ⟨w.heap.size + 1, 4, none⟩ (.bool false)).setCell ⟨w.heap.size + 1, 5, none⟩ (.string ⟨#[]⟩)).setCell ⟨w.heap.size + 1, 6, none⟩ (.int .u8 0)) (w.heap.size + 1) sv0 := hp7
  have hb8 : Below w.heap.size w (((((((w1.setCell ⟨w.heap.size + 1, 0, none⟩ (.int .i64 0)).setCell ⟨w.heap.size + 1, 1, none⟩ (.string ⟨#[]⟩)).setCell ⟨w.heap.size + 1, 2, none⟩ (.bool false)).setCell ⟨w.heap.size + 1, 3, none⟩ (.slice none 0 0)).setCell ⟨w.heap.size + 1, 4, none⟩ (.bool false)).setCell ⟨w.heap.size + 1, 5, none⟩ (.string ⟨#[]⟩)).setCell ⟨w.heap.size + 1, 6, none⟩ (.int .u8 0)) := hb7
  clear hp7 hb7 hq7
  generalize (((((((w1.setCell ⟨w.heap.size + 1, 0, none⟩ (.int .i64 0)).setCell ⟨w.heap.size + 1, 1, none⟩ (.string ⟨#[]⟩)).setCell ⟨w.heap.size + 1, 2, none⟩ (.bool false)).setCell ⟨w.heap.size + 1, 3, none⟩ (.slice none 0 0)).setCell ⟨w.heap.size + 1, 4, none⟩ (.bool false)).setCell ⟨w.heap.size + 1, 5, none⟩ (.string ⟨#[]⟩)).setCell ⟨w.heap.size + 1, 6, none⟩ (.int .u8 0)) = W7 at hp8 hb8 ⊢
  obtain ⟨d0, d1, d2, d3, d4, d5, d6, _⟩ := hp8.cells
  simp only [sv0, st0] at d0 d1 d2 d3 d4 d5 d6
  rw [Exit.noGoto_ret]
  refine bodyPost_ret (v := .tuple #[.agg #[.int .i64 0, .string ⟨#[]⟩, .bool false, .slice none 0 0, .bool false, .string ⟨#[]⟩, .int .u8 0], .slice none 0 0]) (by simp [results, Tryd.results58, go_sem, d0, d1, d2, d3, d4, d5, d6]) rfl ?_
  rw [HE.out]
  exact ⟨sv0, none, 0, [], rfl, rfl, sv0_tx, ParOk.nil _ _ _, Acts.nil _ _ _ _, Nat.le_refl _, hb8⟩
set_option maxRecDepth 100000 in
set_option maxHeartbeats 3200000 in
theorem step_24 (v : Sv) (r : Int) (w : World) (hv : v.Ok w) (hs : saneS v.s = true) (hr : r = 24) : Calls Tryd.prog 58 #[v.val, .int .i64 r] w (StRet v w (stepS v.s r).1 (stepS v.s r).2) := by
  obtain ⟨n1, n2⟩ := s_two w v sv0
  have hl := (saneS_iff v.s).1 hs
  have hi := hl.2.1
  have ht := hl.2.2.1
  clear hl
  obtain ⟨⟨a0, inter, over, l, o, text, kind⟩, ib, tb, A, cc⟩ := v
  simp only at hi ht
  subst hr
  have hf : stepS ⟨a0, inter, over, l, o, text, kind⟩ 24 = (st0, [axExec 24]) := by unfold stepS; rw [if_neg (by simp [hs]), if_pos (by omega)]
  have HE := Lib.hid hf
  have N1 := Lib.hid n1; have N2 := Lib.hid n2; have HV := Lib.hid hv
  have HOK : Hid (Sv.Ok ⟨⟨a0, inter, over, l, o, text, kind⟩, ib, tb, A, cc⟩ ((w.alloc (.cells #[.int .i64 a0, .string ib, .bool over, .slice A l.length cc, .bool o, .string tb, .int .u8 kind] 82)).alloc (.cells #[.int .i64 0, .string ⟨#[]⟩, .bool false, .slice none 0 0, .bool false, .string ⟨#[]⟩, .int .u8 0] 82))) := Lib.hid (hv.next (((Below.refl _ _).alloc (Nat.le_refl _) _).alloc (by simp) _))
  have HSN := Lib.hid hs
  clear hf n1 n2 hv hs
  show Calls Tryd.prog 58 #[.agg #[.int .i64 a0, .string ib, .bool over, .slice A l.length cc, .bool o, .string tb, .int .u8 kind], .int .i64 24] w _
  go_enter Tryd.func58, Tryd.ntmps58
  go_wp2
  go_step3
  go_wp2_with fail
  refine (sane6_any ⟨⟨a0, inter, over, l, o, text, kind⟩, ib, tb, A, cc⟩ _ HOK.out (by simp only; omega) (by simp only; omega)).mono ?_
  rintro e w1 ⟨rfl, hb⟩
  simp only [HSN.out]
  have hb' : Below w.heap.size w w1 := (((Below.refl _ _).alloc (Nat.le_refl _) _).alloc (by simp) _).trans (hb.mono (by simp; omega))
  have s1 := (N1.out.past hb).past ((Below.refl w1.heap.size w1).alloc (Nat.le_refl _) (.cells #[.int .i64 0, .string ⟨#[]⟩, .bool false, .slice none 0 0, .bool false, .string ⟨#[]⟩, .int .u8 0] 82))
  have s2 := (N2.out.past hb).past ((Below.refl w1.heap.size w1).alloc (Nat.le_refl _) (.cells #[.int .i64 0, .string ⟨#[]⟩, .bool false, .slice none 0 0, .bool false, .string ⟨#[]⟩, .int .u8 0] 82))
  have s3 : SAt (w1.alloc (.cells #[.int .i64 0, .string ⟨#[]⟩, .bool false, .slice none 0 0, .bool false, .string ⟨#[]⟩, .int .u8 0] 82)) w1.heap.size sv0 := heap_alloc_new w1 _
  obtain ⟨e0, e1, e2, e3, e4, e5, e6, _⟩ := (N1.out.past hb).cells
  simp only at e0 e1 e2 e3 e4 e5 e6
  have hz : w.heap.size + 1 < w1.heap.size := bk_lt (N2.out.past hb)
  have hz0 : w.heap.size < w1.heap.size := by omega
  have S1 := Lib.hid s1; have S2 := Lib.hid s2; have S3 := Lib.hid s3
  have HB : Hid (Below w.heap.size w (w1.alloc (.cells #[.int .i64 0, .string ⟨#[]⟩, .bool false, .slice none 0 0, .bool false, .string ⟨#[]⟩, .int .u8 0] 82))) := Lib.hid (hb'.alloc (by omega) _)
  have HO2 := Lib.hid ((HOK.out.next hb).next ((Below.refl w1.heap.size w1).alloc (Nat.le_refl _) (.cells #[.int .i64 0, .string ⟨#[]⟩, .bool false, .slice none 0 0, .bool false, .string ⟨#[]⟩, .int .u8 0] 82)))
  clear hb hb' s1 s2 s3 N1 N2 HOK
  obtain ⟨VV, hVV⟩ : ∃ x : Sv, x = ⟨⟨a0, inter, over, l, o, text, kind⟩, ib, tb, A, cc⟩ := ⟨_, rfl⟩
  have HVV := Lib.hid hVV; clear hVV
  go_wp2_with fail
  refine (control_any VV 24 _ (by omega) (by omega)).mono ?_
  rintro e w2 ⟨Ac, cA, vs, rfl, hacts, hca, hb2⟩
  simp only [World.size_alloc] at hb2 hacts
  have hs := S2.out.past (hb2.mono (by simp))
  have HS := Lib.hid hs
  have HBL := Lib.hid (HB.out.trans (hb2.mono (by omega)))
  obtain ⟨q0, q1, q2, q3, q4, q5, q6, g0, g1, g2, g3, g4, g5, g6⟩ := hs.cells
  simp only [sv0, st0] at q0 q1 q2 q3 q4 q5 q6
  have HA := Lib.hid hacts; have HC := Lib.hid hca
  clear hs hb2 hacts hca
  go_wp2_with fail
  obtain ⟨hp7, hb7, hq7⟩ := st_put (v := VV) (v' := sv0) HS.out HBL.out (hi := w.heap.size + 2) (ParOk.nil _ _ _) (by omega) (by omega)
  have ha7 := (HA.out.put7 (w.heap.size + 1) (by omega) sv0).less (show w.heap.size ≤ _ by omega)
  have hp8 : SAt (((((((w2.setCell ⟨w.heap.size + 1, 0, none⟩ (.int .i64 0)).setCell ⟨w.heap.size + 1, 1, none⟩ (.string ⟨#[]⟩)).setCell ⟨w.heap.size + 1, 2, none⟩ (.bool false)).setCell ⟨w.heap.size + 1, 3, none⟩ (.slice none 0 0)).setCell ⟨w.heap.size + 1, 4, none⟩ (.bool false)).setCell ⟨w.heap.size + 1, 5, none⟩ (.string ⟨#[]⟩)).setCell ⟨w.heap.size + 1, 6, none⟩ (.int .u8 0)) (w.heap.size + 1) sv0 := hp7
  have hb8 : Below w.heap.size w (((((((w2.setCell ⟨w.heap.size + 1, 0, none⟩ (.int .i64 0)).setCell ⟨w.heap.size + 1, 1, none⟩ (.string ⟨#[]⟩)).setCell ⟨w.heap.size + 1, 2, none⟩ (.bool false)).setCell ⟨w.heap.size + 1, 3, none⟩ (.slice none 0 0)).setCell ⟨w.heap.size + 1, 4, none⟩ (.bool false)).setCell ⟨w.heap.size + 1, 5, none⟩ (.string ⟨#[]⟩)).setCell ⟨w.heap.size + 1, 6, none⟩ (.int .u8 0)) := hb7
  have ha8 : Acts VV w.heap.size (((((((w2.setCell ⟨w.heap.size + 1, 0, none⟩ (.int .i64 0)).setCell ⟨w.heap.size + 1, 1, none⟩ (.string ⟨#[]⟩)).setCell ⟨w.heap.size + 1, 2, none⟩ (.bool false)).setCell ⟨w.heap.size + 1, 3, none⟩ (.slice none 0 0)).setCell ⟨w.heap.size + 1, 4, none⟩ (.bool false)).setCell ⟨w.heap.size + 1, 5, none⟩ (.string ⟨#[]⟩)).setCell ⟨w.heap.size + 1, 6, none⟩ (.int .u8 0)) Ac [axExec 24] vs := ha7
  clear hp7 hb7 hq7 ha7
  generalize (((((((w2.setCell ⟨w.heap.size + 1, 0, none⟩ (.int .i64 0)).setCell ⟨w.heap.size + 1, 1, none⟩ (.string ⟨#[]⟩)).setCell ⟨w.heap.size + 1, 2, none⟩ (.bool false)).setCell ⟨w.heap.size + 1, 3, none⟩ (.slice none 0 0)).setCell ⟨w.heap.size + 1, 4, none⟩ (.bool false)).setCell ⟨w.heap.size + 1, 5, none⟩ (.string ⟨#[]⟩)).setCell ⟨w.heap.size + 1, 6, none⟩ (.int .u8 0)) = W7 at hp8 hb8 ha8 ⊢
  obtain ⟨d0, d1, d2, d3, d4, d5, d6, _⟩ := hp8.cells
  simp only [sv0, st0] at d0 d1 d2 d3 d4 d5 d6
  rw [Exit.noGoto_ret]
  refine bodyPost_ret (v := .tuple #[.agg #[.int .i64 0, .string ⟨#[]⟩, .bool false, .slice none 0 0, .bool false, .string ⟨#[]⟩, .int .u8 0], .slice Ac 1 cA]) (by simp [results, Tryd.results58, go_sem, d0, d1, d2, d3, d4, d5, d6]) rfl ?_
  rw [HE.out]
  have hVV := HVV.out; subst hVV
  exact ⟨sv0, Ac, cA, vs, rfl, rfl, sv0_tx, ParOk.nil _ _ _, ha8, HC.out, hb8⟩
set_option maxRecDepth 100000 in
set_option maxHeartbeats 3200000 in
theorem step_26 (v : Sv) (r : Int) (w : World) (hv : v.Ok w) (hs : saneS v.s = true) (hr : r = 26) : Calls Tryd.prog 58 #[v.val, .int .i64 r] w (StRet v w (stepS v.s r).1 (stepS v.s r).2) := by
  obtain ⟨n1, n2⟩ := s_two w v sv0
  have hl := (saneS_iff v.s).1 hs
  have hi := hl.2.1
  have ht := hl.2.2.1
  clear hl
  obtain ⟨⟨a0, inter, over, l, o, text, kind⟩, ib, tb, A, cc⟩ := v
  simp only at hi ht
  subst hr
  have hf : stepS ⟨a0, inter, over, l, o, text, kind⟩ 26 = (st0, [axExec 26]) := by unfold stepS; rw [if_neg (by simp [hs]), if_pos (by omega)]
  have HE := Lib.hid hf
  have N1 := Lib.hid n1; have N2 := Lib.hid n2; have HV := Lib.hid hv
  have HOK : Hid (Sv.Ok ⟨⟨a0, inter, over, l, o, text, kind⟩, ib, tb, A, cc⟩ ((w.alloc (.cells #[.int .i64 a0, .string ib, .bool over, .slice A l.length cc, .bool o, .string tb, .int .u8 kind] 82)).alloc (.cells #[.int .i64 0, .string ⟨#[]⟩, .bool false, .slice none 0 0, .bool false, .string ⟨#[]⟩, .int .u8 0] 82))) := Lib.hid (hv.next (((Below.refl _ _).alloc (Nat.le_refl _) _).alloc (by simp) _))
  have HSN := Lib.hid hs
  clear hf n1 n2 hv hs
  show Calls Tryd.prog 58 #[.agg #[.int .i64 a0, .string ib, .bool over, .slice A l.length cc, .bool o, .string tb, .int .u8 kind], .int .i64 26] w _
  go_enter Tryd.func58, Tryd.ntmps58
  go_wp2
  go_step3
  go_wp2_with fail
  refine (sane6_any ⟨⟨a0, inter, over, l, o, text, kind⟩, ib, tb, A, cc⟩ _ HOK.out (by simp only; omega) (by simp only; omega)).mono ?_
  rintro e w1 ⟨rfl, hb⟩
  simp only [HSN.out]
  have hb' : Below w.heap.size w w1 := (((Below.refl _ _).alloc (Nat.le_refl _) _).alloc (by simp) _).trans (hb.mono (by simp; omega))
  have s1 := (N1.out.past hb).past ((Below.refl w1.heap.size w1).alloc (Nat.le_refl _) (.cells #[.int .i64 0, .string ⟨#[]⟩, .bool false, .slice none 0 0, .bool false, .string ⟨#[]⟩, .int .u8 0] 82))
  have s2 := (N2.out.past hb).past ((Below.refl w1.heap.size w1).alloc (Nat.le_refl _) (.cells #[.int .i64 0, .string ⟨#[]⟩, .bool false, .slice none 0 0, .bool false, .string ⟨#[]⟩, .int .u8 0] 82))
  have s3 : SAt (w1.alloc (.cells #[.int .i64 0, .string ⟨#[]⟩, .bool false, .slice none 0 0, .bool false, .string ⟨#[]⟩, .int .u8 0] 82)) w1.heap.size sv0 := heap_alloc_new w1 _
  obtain ⟨e0, e1, e2, e3, e4, e5, e6, _⟩ := (N1.out.past hb).cells
  simp only at e0 e1 e2 e3 e4 e5 e6
  have hz : w.heap.size + 1 < w1.heap.size := bk_lt (N2.out.past hb)
  have hz0 : w.heap.size < w1.heap.size := by omega
  have S1 := Lib.hid s1; have S2 := Lib.hid s2; have S3 := Lib.hid s3
  have HB : Hid (Below w.heap.size w (w1.alloc (.cells #[.int .i64 0, .string ⟨#[]⟩, .bool false, .slice none 0 0, .bool false, .string ⟨#[]⟩, .int .u8 0] 82))) := Lib.hid (hb'.alloc (by omega) _)
  have HO2 := Lib.hid ((HOK.out.next hb).next ((Below.refl w1.heap.size w1).alloc (Nat.le_refl _) (.cells #[.int .i64 0, .string ⟨#[]⟩, .bool false, .slice none 0 0, .bool false, .string ⟨#[]⟩, .int .u8 0] 82)))
  clear hb hb' s1 s2 s3 N1 N2 HOK
  obtain ⟨VV, hVV⟩ : ∃ x : Sv, x = ⟨⟨a0, inter, over, l, o, text, kind⟩, ib, tb, A, cc⟩ := ⟨_, rfl⟩
  have HVV := Lib.hid hVV; clear hVV
  go_wp2_with fail
  refine (control_any VV 26 _ (by omega) (by omega)).mono ?_
  rintro e w2 ⟨Ac, cA, vs, rfl, hacts, hca, hb2⟩
  simp only [World.size_alloc] at hb2 hacts
  have hs := S2.out.past (hb2.mono (by simp))
  have HS := Lib.hid hs
  have HBL := Lib.hid (HB.out.trans (hb2.mono (by omega)))
  obtain ⟨q0, q1, q2, q3, q4, q5, q6, g0, g1, g2, g3, g4, g5, g6⟩ := hs.cells
  simp only [sv0, st0] at q0 q1 q2 q3 q4 q5 q6
  have HA := Lib.hid hacts; have HC := Lib.hid hca
  clear hs hb2 hacts hca
  go_wp2_with fail
  obtain ⟨hp7, hb7, hq7⟩ := st_put (v := VV) (v' := sv0) HS.out HBL.out (hi := w.heap.size + 2) (ParOk.nil _ _ _) (by omega) (by omega)
  have ha7 := (HA.out.put7 (w.heap.size + 1) (by omega) sv0).less (show w.heap.size ≤ _ by omega)
  have hp8 : SAt (((((((w2.setCell ⟨w.heap.size + 1, 0, none⟩ (.int .i64 0)).setCell ⟨w.heap.size + 1, 1, none⟩ (.string ⟨#[]⟩)).setCell ⟨w.heap.size + 1, 2, none⟩ (.bool false)).setCell ⟨w.heap.size + 1, 3, none⟩ (.slice none 0 0)).setCell ⟨w.heap.size + 1, 4, none⟩ (.bool false)).setCell ⟨w.heap.size + 1, 5, none⟩ (.string ⟨#[]⟩)).setCell ⟨w.heap.size + 1, 6, none⟩ (.int .u8 0)) (w.heap.size + 1) sv0 := hp7
  have hb8 : Below w.heap.size w (((((((w2.setCell ⟨w.heap.size + 1, 0, none⟩ (.int .i64 0)).setCell ⟨w.heap.size + 1, 1, none⟩ (.string ⟨#[]⟩)).setCell ⟨w.heap.size + 1, 2, none⟩ (.bool false)).setCell ⟨w.heap.size + 1, 3, none⟩ (.slice none 0 0)).setCell ⟨w.heap.size + 1, 4, none⟩ (.bool false)).setCell ⟨w.heap.size + 1, 5, none⟩ (.string ⟨#[]⟩)).setCell ⟨w.heap.size + 1, 6, none⟩ (.int .u8 0)) := hb7
  have ha8 : Acts VV w.heap.size (((((((w2.setCell ⟨w.heap.size + 1, 0, none⟩ (.int .i64 0)).setCell ⟨w.heap.size + 1, 1, none⟩ (.string ⟨#[]⟩)).setCell ⟨w.heap.size + 1, 2, none⟩ (.bool false)).setCell ⟨w.heap.size + 1, 3, none⟩ (.slice none 0 0)).setCell ⟨w.heap.size + 1, 4, none⟩ (.bool false)).setCell ⟨w.heap.size + 1, 5, none⟩ (.string ⟨#[]⟩)).setCell ⟨w.heap.size + 1, 6, none⟩ (.int .u8 0)) Ac [axExec 26] vs := ha7
  clear hp7 hb7 hq7 ha7
  generalize (((((((w2.setCell ⟨w.heap.size + 1, 0, none⟩ (.int .i64 0)).setCell ⟨w.heap.size + 1, 1, none⟩ (.string ⟨#[]⟩)).setCell ⟨w.heap.size + 1, 2, none⟩ (.bool false)).setCell ⟨w.heap.size + 1, 3, none⟩ (.slice none 0 0)).setCell ⟨w.heap.size + 1, 4, none⟩ (.bool false)).setCell ⟨w.heap.size + 1, 5, none⟩ (.string ⟨#[]⟩)).setCell ⟨w.heap.size + 1, 6, none⟩ (.int .u8 0)) = W7 at hp8 hb8 ha8 ⊢
  obtain ⟨d0, d1, d2, d3, d4, d5, d6, _⟩ := hp8.cells
  simp only [sv0, st0] at d0 d1 d2 d3 d4 d5 d6
  rw [Exit.noGoto_ret]
  refine bodyPost_ret (v := .tuple #[.agg #[.int .i64 0, .string ⟨#[]⟩, .bool false, .slice none 0 0, .bool false, .string ⟨#[]⟩, .int .u8 0], .slice Ac 1 cA]) (by simp [results, Tryd.results58, go_sem, d0, d1, d2, d3, d4, d5, d6]) rfl ?_
  rw [HE.out]
  have hVV := HVV.out; subst hVV
  exact ⟨sv0, Ac, cA, vs, rfl, rfl, sv0_tx, ParOk.nil _ _ _, ha8, HC.out, hb8⟩
set_option maxRecDepth 100000 in
set_option maxHeartbeats 3200000 in
theorem step_del (v : Sv) (r : Int) (w : World) (hv : v.Ok w) (hs : saneS v.s = true) (hst : isStr v.s = false) (hr : r = 127) : Calls Tryd.prog 58 #[v.val, .int .i64 r] w (StRet v w (stepS v.s r).1 (stepS v.s r).2) := by
  obtain ⟨n1, n2⟩ := s_two w v sv0
  have hl := (saneS_iff v.s).1 hs
  have hi := hl.2.1
  have ht := hl.2.2.1
  clear hl
  obtain ⟨⟨a0, inter, over, l, o, text, kind⟩, ib, tb, A, cc⟩ := v
  simp only at hi ht
  have hna : a0 ≠ 7 ∧ a0 ≠ 8 ∧ a0 ≠ 9 := by
    refine ⟨fun e => ?_, fun e => ?_, fun e => ?_⟩ <;> simp [isStr, e] at hst
  have fa7 : (a0 == 7) = false := beq_eq_false_iff_ne.2 hna.1
  have HIS := Lib.hid hst
  subst hr
  have hf : stepS ⟨a0, inter, over, l, o, text, kind⟩ 127 = (⟨a0, inter, over, l, o, text, kind⟩, []) := by
    unfold stepS; rw [if_neg (by simp [hs]), if_neg (by omega), if_neg (by omega), if_neg (by omega), if_neg (by simp [hna.1]), if_neg (by simp [hst]), if_neg (by omega), if_pos (by omega)]
  clear hna hst
  have HE := Lib.hid hf
  have N1 := Lib.hid n1; have N2 := Lib.hid n2; have HV := Lib.hid hv
  have HOK : Hid (Sv.Ok ⟨⟨a0, inter, over, l, o, text, kind⟩, ib, tb, A, cc⟩ ((w.alloc (.cells #[.int .i64 a0, .string ib, .bool over, .slice A l.length cc, .bool o, .string tb, .int .u8 kind] 82)).alloc (.cells #[.int .i64 0, .string ⟨#[]⟩, .bool false, .slice none 0 0, .bool false, .string ⟨#[]⟩, .int .u8 0] 82))) := Lib.hid (hv.next (((Below.refl _ _).alloc (Nat.le_refl _) _).alloc (by simp) _))
  have HSN := Lib.hid hs
  clear hf n1 n2 hv hs
  show Calls Tryd.prog 58 #[.agg #[.int .i64 a0, .string ib, .bool over, .slice A l.length cc, .bool o, .string tb, .int .u8 kind], .int .i64 127] w _
  go_enter Tryd.func58, Tryd.ntmps58
  go_wp2
  go_step3
  go_wp2_with fail
  refine (sane6_any ⟨⟨a0, inter, over, l, o, text, kind⟩, ib, tb, A, cc⟩ _ HOK.out (by simp only; omega) (by simp only; omega)).mono ?_
  rintro e w1 ⟨rfl, hb⟩
  simp only [HSN.out]
  have hb' : Below w.heap.size w w1 := (((Below.refl _ _).alloc (Nat.le_refl _) _).alloc (by simp) _).trans (hb.mono (by simp; omega))
  have s1 := (N1.out.past hb).past ((Below.refl w1.heap.size w1).alloc (Nat.le_refl _) (.cells #[.int .i64 0, .string ⟨#[]⟩, .bool false, .slice none 0 0, .bool false, .string ⟨#[]⟩, .int .u8 0] 82))
  have s2 := (N2.out.past hb).past ((Below.refl w1.heap.size w1).alloc (Nat.le_refl _) (.cells #[.int .i64 0, .string ⟨#[]⟩, .bool false, .slice none 0 0, .bool false, .string ⟨#[]⟩, .int .u8 0] 82))
  have s3 : SAt (w1.alloc (.cells #[.int .i64 0, .string ⟨#[]⟩, .bool false, .slice none 0 0, .bool false, .string ⟨#[]⟩, .int .u8 0] 82)) w1.heap.size sv0 := heap_alloc_new w1 _
  obtain ⟨e0, e1, e2, e3, e4, e5, e6, _⟩ := (N1.out.past hb).cells
  simp only at e0 e1 e2 e3 e4 e5 e6
  have hz : w.heap.size + 1 < w1.heap.size := bk_lt (N2.out.past hb)
  have hz0 : w.heap.size < w1.heap.size := by omega
  have S1 := Lib.hid s1; have S2 := Lib.hid s2; have S3 := Lib.hid s3
  have HB : Hid (Below w.heap.size w (w1.alloc (.cells #[.int .i64 0, .string ⟨#[]⟩, .bool false, .slice none 0 0, .bool false, .string ⟨#[]⟩, .int .u8 0] 82))) := Lib.hid (hb'.alloc (by omega) _)
  have HO2 := Lib.hid ((HOK.out.next hb).next ((Below.refl w1.heap.size w1).alloc (Nat.le_refl _) (.cells #[.int .i64 0, .string ⟨#[]⟩, .bool false, .slice none 0 0, .bool false, .string ⟨#[]⟩, .int .u8 0] 82)))
  clear hb hb' s1 s2 s3 N1 N2 HOK
  obtain ⟨VV, hVV⟩ : ∃ x : Sv, x = ⟨⟨a0, inter, over, l, o, text, kind⟩, ib, tb, A, cc⟩ := ⟨_, rfl⟩
  have HVV := Lib.hid hVV; clear hVV
  go_wp2_with fail
  refine (isstr_any ⟨⟨a0, inter, over, l, o, text, kind⟩, ib, tb, A, cc⟩ _).mono ?_
  rintro e w2 ⟨rfl, hbi⟩
  simp only [HIS.out]
  have t1 := S1.out.past hbi; have t2 := S2.out.past hbi; have t3 := S3.out.past hbi
  have T1 := Lib.hid t1; have T2 := Lib.hid t2
  have HB2 := Lib.hid (HB.out.trans (hbi.mono (by simp; omega)))
  have HO3 := Lib.hid (HO2.out.next hbi)
  have hz2 : w.heap.size + 1 < w2.heap.size := bk_lt t2
  obtain ⟨i0, i1, i2, i3, i4, i5, i6, _⟩ := t1.cells
  simp only at i0 i1 i2 i3 i4 i5 i6
  obtain ⟨q0, q1, q2, q3, q4, q5, q6, g0, g1, g2, g3, g4, g5, g6⟩ := t2.cells
  simp only [sv0, st0] at q0 q1 q2 q3 q4 q5 q6
  clear hbi t1 t2 t3 e0 e1 e2 e3 e4 e5 e6
  have HS := T2; have HBL := HB2
  go_wp2_with fail
  obtain ⟨hp7, hb7, hq7⟩ := st_put (v := VV) (v' := ⟨⟨a0, inter, over, l, o, text, kind⟩, ib, tb, A, cc⟩) HS.out HBL.out (hi := w.heap.size + 2) (by rw [HVV.out]; exact ParOk.same ⟨⟨a0, inter, over, l, o, text, kind⟩, ib, tb, A, cc⟩ _ _) (by omega) (by omega)
  simp only [World.put7] at hp7 hb7 hq7
  generalize (((((((w2.setCell ⟨w.heap.size + 1, 0, none⟩ (.int .i64 a0)).setCell ⟨w.heap.size + 1, 1, none⟩ (.string ib)).setCell ⟨w.heap.size + 1, 2, none⟩ (.bool over)).setCell ⟨w.heap.size + 1, 3, none⟩ (.slice A l.length cc)).setCell ⟨w.heap.size + 1, 4, none⟩ (.bool o)).setCell ⟨w.heap.size + 1, 5, none⟩ (.string tb)).setCell ⟨w.heap.size + 1, 6, none⟩ (.int .u8 kind)) = W7 at hp7 hb7 hq7 ⊢
  obtain ⟨d0, d1, d2, d3, d4, d5, d6, _⟩ := hp7.cells
  simp only at d0 d1 d2 d3 d4 d5 d6
  rw [Exit.noGoto_ret]
  refine bodyPost_ret (v := .tuple #[.agg #[.int .i64 a0, .string ib, .bool over, .slice A l.length cc, .bool o, .string tb, .int .u8 kind], .slice none 0 0]) (by simp [results, Tryd.results58, go_sem, d0, d1, d2, d3, d4, d5, d6]) rfl ?_
  rw [HE.out]
  have hVV := HVV.out; subst hVV
  exact ⟨⟨⟨a0, inter, over, l, o, text, kind⟩, ib, tb, A, cc⟩, none, 0, [], rfl, rfl, HV.out.tx, hq7, Acts.nil _ _ _ _, Nat.le_refl _, hb7⟩
set_option maxRecDepth 100000 in
set_option maxHeartbeats 3200000 in
theorem step_big (v : Sv) (r : Int) (w : World) (hv : v.Ok w) (hs : saneS v.s = true) (hst : isStr v.s = false) (hr : 159 < r) : Calls Tryd.prog 58 #[v.val, .int .i64 r] w (StRet v w (stepS v.s r).1 (stepS v.s r).2) := by
  obtain ⟨n1, n2⟩ := s_two w v sv0
  have hl := (saneS_iff v.s).1 hs
  have hi := hl.2.1
  have ht := hl.2.2.1
  clear hl
  obtain ⟨⟨a0, inter, over, l, o, text, kind⟩, ib, tb, A, cc⟩ := v
  simp only at hi ht
  have hna : a0 ≠ 7 ∧ a0 ≠ 8 ∧ a0 ≠ 9 := by
    refine ⟨fun e => ?_, fun e => ?_, fun e => ?_⟩ <;> simp [isStr, e] at hst
  have fa7 : (a0 == 7) = false := beq_eq_false_iff_ne.2 hna.1
  have HIS := Lib.hid hst
  have f24 : (r == 24) = false := beq_eq_false_iff_ne.2 (by omega)
  have f26 : (r == 26) = false := beq_eq_false_iff_ne.2 (by omega)
  have f27 : (r == 27) = false := beq_eq_false_iff_ne.2 (by omega)
  have f127 : (r == 127) = false := beq_eq_false_iff_ne.2 (by omega)
  have hf : stepS ⟨a0, inter, over, l, o, text, kind⟩ r = (st0, [axPrint r]) := by
    unfold stepS; rw [if_neg (by simp [hs]), if_neg (by omega), if_neg (by omega), if_neg (by omega), if_neg (by simp [hna.1]), if_neg (by simp [hst]), if_neg (by omega), if_neg (by omega), if_pos (by omega)]
  clear hna hst
  have HE := Lib.hid hf
  have N1 := Lib.hid n1; have N2 := Lib.hid n2; have HV := Lib.hid hv
  have HOK : Hid (Sv.Ok ⟨⟨a0, inter, over, l, o, text, kind⟩, ib, tb, A, cc⟩ ((w.alloc (.cells #[.int .i64 a0, .string ib, .bool over, .slice A l.length cc, .bool o, .string tb, .int .u8 kind] 82)).alloc (.cells #[.int .i64 0, .string ⟨#[]⟩, .bool false, .slice none 0 0, .bool false, .string ⟨#[]⟩, .int .u8 0] 82))) := Lib.hid (hv.next (((Below.refl _ _).alloc (Nat.le_refl _) _).alloc (by simp) _))
  have HSN := Lib.hid hs
  clear hf n1 n2 hv hs
  show Calls Tryd.prog 58 #[.agg #[.int .i64 a0, .string ib, .bool over, .slice A l.length cc, .bool o, .string tb, .int .u8 kind], .int .i64 r] w _
  go_enter Tryd.func58, Tryd.ntmps58
  go_wp2
  go_step3
  go_wp2_with fail
  refine (sane6_any ⟨⟨a0, inter, over, l, o, text, kind⟩, ib, tb, A, cc⟩ _ HOK.out (by simp only; omega) (by simp only; omega)).mono ?_
  rintro e w1 ⟨rfl, hb⟩
  simp only [HSN.out]
  have hb' : Below w.heap.size w w1 := (((Below.refl _ _).alloc (Nat.le_refl _) _).alloc (by simp) _).trans (hb.mono (by simp; omega))
  have s1 := (N1.out.past hb).past ((Below.refl w1.heap.size w1).alloc (Nat.le_refl _) (.cells #[.int .i64 0, .string ⟨#[]⟩, .bool false, .slice none 0 0, .bool false, .string ⟨#[]⟩, .int .u8 0] 82))
  have s2 := (N2.out.past hb).past ((Below.refl w1.heap.size w1).alloc (Nat.le_refl _) (.cells #[.int .i64 0, .string ⟨#[]⟩, .bool false, .slice none 0 0, .bool false, .string ⟨#[]⟩, .int .u8 0] 82))
  have s3 : SAt (w1.alloc (.cells #[.int .i64 0, .string ⟨#[]⟩, .bool false, .slice none 0 0, .bool false, .string ⟨#[]⟩, .int .u8 0] 82)) w1.heap.size sv0 := heap_alloc_new w1 _
  obtain ⟨e0, e1, e2, e3, e4, e5, e6, _⟩ := (N1.out.past hb).cells
  simp only at e0 e1 e2 e3 e4 e5 e6
  have hz : w.heap.size + 1 < w1.heap.size := bk_lt (N2.out.past hb)
  have hz0 : w.heap.size < w1.heap.size := by omega
  have S1 := Lib.hid s1; have S2 := Lib.hid s2; have S3 := Lib.hid s3
  have HB : Hid (Below w.heap.size w (w1.alloc (.cells #[.int .i64 0, .string ⟨#[]⟩, .bool false, .slice none 0 0, .bool false, .string ⟨#[]⟩, .int .u8 0] 82))) := Lib.hid (hb'.alloc (by omega) _)
  have HO2 := Lib.hid ((HOK.out.next hb).next ((Below.refl w1.heap.size w1).alloc (Nat.le_refl _) (.cells #[.int .i64 0, .string ⟨#[]⟩, .bool false, .slice none 0 0, .bool false, .string ⟨#[]⟩, .int .u8 0] 82)))
  clear hb hb' s1 s2 s3 N1 N2 HOK
  obtain ⟨VV, hVV⟩ : ∃ x : Sv, x = ⟨⟨a0, inter, over, l, o, text, kind⟩, ib, tb, A, cc⟩ := ⟨_, rfl⟩
  have HVV := Lib.hid hVV; clear hVV
  go_wp2_with fail
  refine (isstr_any ⟨⟨a0, inter, over, l, o, text, kind⟩, ib, tb, A, cc⟩ _).mono ?_
  rintro e w2 ⟨rfl, hbi⟩
  simp only [HIS.out]
  have t1 := S1.out.past hbi; have t2 := S2.out.past hbi; have t3 := S3.out.past hbi
  have T1 := Lib.hid t1; have T2 := Lib.hid t2
  have HB2 := Lib.hid (HB.out.trans (hbi.mono (by simp; omega)))
  have HO3 := Lib.hid (HO2.out.next hbi)
  have hz2 : w.heap.size + 1 < w2.heap.size := bk_lt t2
  obtain ⟨i0, i1, i2, i3, i4, i5, i6, _⟩ := t1.cells
  simp only at i0 i1 i2 i3 i4 i5 i6
  obtain ⟨q0, q1, q2, q3, q4, q5, q6, g0, g1, g2, g3, g4, g5, g6⟩ := t2.cells
  simp only [sv0, st0] at q0 q1 q2 q3 q4 q5 q6
  clear hbi t1 t2 t3 e0 e1 e2 e3 e4 e5 e6
  go_wp2_with fail
  refine (letter6_any VV r _).mono ?_
  rintro e w3 ⟨Ac, cA, vs, rfl, hacts, hca, hb3⟩
  have hs := T2.out.past hb3
  have HS := Lib.hid hs
  have HBL := Lib.hid (HB2.out.trans (hb3.mono (by omega)))
  clear q0 q1 q2 q3 q4 q5 q6 g0 g1 g2 g3 g4 g5 g6 i0 i1 i2 i3 i4 i5 i6
  obtain ⟨q0, q1, q2, q3, q4, q5, q6, g0, g1, g2, g3, g4, g5, g6⟩ := hs.cells
  simp only [sv0, st0] at q0 q1 q2 q3 q4 q5 q6
  have HA := Lib.hid hacts; have HC := Lib.hid hca
  clear hs hb3 hacts hca
  go_wp2_with fail
  obtain ⟨hp7, hb7, hq7⟩ := st_put (v := VV) (v' := sv0) HS.out HBL.out (hi := w.heap.size + 2) (ParOk.nil _ _ _) (by omega) (by omega)
  have ha7 := (HA.out.put7 (w.heap.size + 1) (by omega) sv0).less (show w.heap.size ≤ _ by omega)
  have hp8 : SAt (((((((w3.setCell ⟨w.heap.size + 1, 0, none⟩ (.int .i64 0)).setCell ⟨w.heap.size + 1, 1, none⟩ (.string ⟨#[]⟩)).setCell ⟨w.heap.size + 1, 2, none⟩ (.bool false)).setCell ⟨w.heap.size + 1, 3, none⟩ (.slice none 0 0)).setCell ⟨w.heap.size + 1, 4, none⟩ (.bool false)).setCell ⟨w.heap.size + 1, 5, none⟩ (.string ⟨#[]⟩)).setCell ⟨w.heap.size + 1, 6, none⟩ (.int .u8 0)) (w.heap.size + 1) sv0 := hp7
  have hb8 : Below w.heap.size w (((((((w3.setCell ⟨w.heap.size + 1, 0, none⟩ (.int .i64 0)).setCell ⟨w.heap.size + 1, 1, none⟩ (.string ⟨#[]⟩)).setCell ⟨w.heap.size + 1, 2, none⟩ (.bool false)).setCell ⟨w.heap.size + 1, 3, none⟩ (.slice none 0 0)).setCell ⟨w.heap.size + 1, 4, none⟩ (.bool false)).setCell ⟨w.heap.size + 1, 5, none⟩ (.string ⟨#[]⟩)).setCell ⟨w.heap.size + 1, 6, none⟩ (.int .u8 0)) := hb7
  have ha8 : Acts VV w.heap.size (((((((w3.setCell ⟨w.heap.size + 1, 0, none⟩ (.int .i64 0)).setCell ⟨w.heap.size + 1, 1, none⟩ (.string ⟨#[]⟩)).setCell ⟨w.heap.size + 1, 2, none⟩ (.bool false)).setCell ⟨w.heap.size + 1, 3, none⟩ (.slice none 0 0)).setCell ⟨w.heap.size + 1, 4, none⟩ (.bool false)).setCell ⟨w.heap.size + 1, 5, none⟩ (.string ⟨#[]⟩)).setCell ⟨w.heap.size + 1, 6, none⟩ (.int .u8 0)) Ac [axPrint r] vs := ha7
  clear hp7 hb7 hq7 ha7
  generalize (((((((w3.setCell ⟨w.heap.size + 1, 0, none⟩ (.int .i64 0)).setCell ⟨w.heap.size + 1, 1, none⟩ (.string ⟨#[]⟩)).setCell ⟨w.heap.size + 1, 2, none⟩ (.bool false)).setCell ⟨w.heap.size + 1, 3, none⟩ (.slice none 0 0)).setCell ⟨w.heap.size + 1, 4, none⟩ (.bool false)).setCell ⟨w.heap.size + 1, 5, none⟩ (.string ⟨#[]⟩)).setCell ⟨w.heap.size + 1, 6, none⟩ (.int .u8 0)) = W7 at hp8 hb8 ha8 ⊢
  obtain ⟨d0, d1, d2, d3, d4, d5, d6, _⟩ := hp8.cells
  simp only [sv0, st0] at d0 d1 d2 d3 d4 d5 d6
  rw [Exit.noGoto_ret]
  refine bodyPost_ret (v := .tuple #[.agg #[.int .i64 0, .string ⟨#[]⟩, .bool false, .slice none 0 0, .bool false, .string ⟨#[]⟩, .int .u8 0], .slice Ac 1 cA]) (by simp [results, Tryd.results58, go_sem, d0, d1, d2, d3, d4, d5, d6]) rfl ?_
  rw [HE.out]
  have hVV := HVV.out; subst hVV
  exact ⟨sv0, Ac, cA, vs, rfl, rfl, sv0_tx, ParOk.nil _ _ _, ha8, HC.out, hb8⟩
set_option maxRecDepth 100000 in
set_option maxHeartbeats 3200000 in
theorem step_neg (v : Sv) (r : Int) (w : World) (hv : v.Ok w) (hs : saneS v.s = true) (hst : isStr v.s = false) (hr : r < 0) : Calls Tryd.prog 58 #[v.val, .int .i64 r] w (StRet v w (stepS v.s r).1 (stepS v.s r).2) := by
  obtain ⟨n1, n2⟩ := s_two w v sv0
  have hl := (saneS_iff v.s).1 hs
  have hi := hl.2.1
  have ht := hl.2.2.1
  clear hl
  obtain ⟨⟨a0, inter, over, l, o, text, kind⟩, ib, tb, A, cc⟩ := v
  simp only at hi ht
  have hna : a0 ≠ 7 ∧ a0 ≠ 8 ∧ a0 ≠ 9 := by
    refine ⟨fun e => ?_, fun e => ?_, fun e => ?_⟩ <;> simp [isStr, e] at hst
  have fa7 : (a0 == 7) = false := beq_eq_false_iff_ne.2 hna.1
  have HIS := Lib.hid hst
  have f24 : (r == 24) = false := beq_eq_false_iff_ne.2 (by omega)
  have f26 : (r == 26) = false := beq_eq_false_iff_ne.2 (by omega)
  have f27 : (r == 27) = false := beq_eq_false_iff_ne.2 (by omega)
  have f127 : (r == 127) = false := beq_eq_false_iff_ne.2 (by omega)
  have hf : stepS ⟨a0, inter, over, l, o, text, kind⟩ r = (st0, [axPrint r]) := by
    unfold stepS; rw [if_neg (by simp [hs]), if_neg (by omega), if_neg (by omega), if_neg (by omega), if_neg (by simp [hna.1]), if_neg (by simp [hst]), if_neg (by omega), if_neg (by omega), if_pos (by omega)]
  clear hna hst
  have HE := Lib.hid hf
  have N1 := Lib.hid n1; have N2 := Lib.hid n2; have HV := Lib.hid hv
  have HOK : Hid (Sv.Ok ⟨⟨a0, inter, over, l, o, text, kind⟩, ib, tb, A, cc⟩ ((w.alloc (.cells #[.int .i64 a0, .string ib, .bool over, .slice A l.length cc, .bool o, .string tb, .int .u8 kind] 82)).alloc (.cells #[.int .i64 0, .string ⟨#[]⟩, .bool false, .slice none 0 0, .bool false, .string ⟨#[]⟩, .int .u8 0] 82))) := Lib.hid (hv.next (((Below.refl _ _).alloc (Nat.le_refl _) _).alloc (by simp) _))
  have HSN := Lib.hid hs
  clear hf n1 n2 hv hs
  show Calls Tryd.prog 58 #[.agg #[.int .i64 a0, .string ib, .bool over, .slice A l.length cc, .bool o, .string tb, .int .u8 kind], .int .i64 r] w _
  go_enter Tryd.func58, Tryd.ntmps58
  go_wp2
  go_step3
  go_wp2_with fail
  refine (sane6_any ⟨⟨a0, inter, over, l, o, text, kind⟩, ib, tb, A, cc⟩ _ HOK.out (by simp only; omega) (by simp only; omega)).mono ?_
  rintro e w1 ⟨rfl, hb⟩
  simp only [HSN.out]
  have hb' : Below w.heap.size w w1 := (((Below.refl _ _).alloc (Nat.le_refl _) _).alloc (by simp) _).trans (hb.mono (by simp; omega))
  have s1 := (N1.out.past hb).past ((Below.refl w1.heap.size w1).alloc (Nat.le_refl _) (.cells #[.int .i64 0, .string ⟨#[]⟩, .bool false, .slice none 0 0, .bool false, .string ⟨#[]⟩, .int .u8 0] 82))
  have s2 := (N2.out.past hb).past ((Below.refl w1.heap.size w1).alloc (Nat.le_refl _) (.cells #[.int .i64 0, .string ⟨#[]⟩, .bool false, .slice none 0 0, .bool false, .string ⟨#[]⟩, .int .u8 0] 82))
  have s3 : SAt (w1.alloc (.cells #[.int .i64 0, .string ⟨#[]⟩, .bool false, .slice none 0 0, .bool false, .string ⟨#[]⟩, .int .u8 0] 82)) w1.heap.size sv0 := heap_alloc_new w1 _
  obtain ⟨e0, e1, e2, e3, e4, e5, e6, _⟩ := (N1.out.past hb).cells
  simp only at e0 e1 e2 e3 e4 e5 e6
  have hz : w.heap.size + 1 < w1.heap.size := bk_lt (N2.out.past hb)
  have hz0 : w.heap.size < w1.heap.size := by omega
  have S1 := Lib.hid s1; have S2 := Lib.hid s2; have S3 := Lib.hid s3
  have HB : Hid (Below w.heap.size w (w1.alloc (.cells #[.int .i64 0, .string ⟨#[]⟩, .bool false, .slice none 0 0, .bool false, .string ⟨#[]⟩, .int .u8 0] 82))) := Lib.hid (hb'.alloc (by omega) _)
  have HO2 := Lib.hid ((HOK.out.next hb).next ((Below.refl w1.heap.size w1).alloc (Nat.le_refl _) (.cells #[.int .i64 0, .string ⟨#[]⟩, .bool false, .slice none 0 0, .bool false, .string ⟨#[]⟩, .int .u8 0] 82)))
  clear hb hb' s1 s2 s3 N1 N2 HOK
  obtain ⟨VV, hVV⟩ : ∃ x : Sv, x = ⟨⟨a0, inter, over, l, o, text, kind⟩, ib, tb, A, cc⟩ := ⟨_, rfl⟩
  have HVV := Lib.hid hVV; clear hVV
  go_wp2_with fail
  refine (isstr_any ⟨⟨a0, inter, over, l, o, text, kind⟩, ib, tb, A, cc⟩ _).mono ?_
  rintro e w2 ⟨rfl, hbi⟩
  simp only [HIS.out]
  have t1 := S1.out.past hbi; have t2 := S2.out.past hbi; have t3 := S3.out.past hbi
  have T1 := Lib.hid t1; have T2 := Lib.hid t2
  have HB2 := Lib.hid (HB.out.trans (hbi.mono (by simp; omega)))
  have HO3 := Lib.hid (HO2.out.next hbi)
  have hz2 : w.heap.size + 1 < w2.heap.size := bk_lt t2
  obtain ⟨i0, i1, i2, i3, i4, i5, i6, _⟩ := t1.cells
  simp only at i0 i1 i2 i3 i4 i5 i6
  obtain ⟨q0, q1, q2, q3, q4, q5, q6, g0, g1, g2, g3, g4, g5, g6⟩ := t2.cells
  simp only [sv0, st0] at q0 q1 q2 q3 q4 q5 q6
  clear hbi t1 t2 t3 e0 e1 e2 e3 e4 e5 e6
  go_wp2_with fail
  refine (letter6_any VV r _).mono ?_
  rintro e w3 ⟨Ac, cA, vs, rfl, hacts, hca, hb3⟩
  have hs := T2.out.past hb3
  have HS := Lib.hid hs
  have HBL := Lib.hid (HB2.out.trans (hb3.mono (by omega)))
  clear q0 q1 q2 q3 q4 q5 q6 g0 g1 g2 g3 g4 g5 g6 i0 i1 i2 i3 i4 i5 i6
  obtain ⟨q0, q1, q2, q3, q4, q5, q6, g0, g1, g2, g3, g4, g5, g6⟩ := hs.cells
  simp only [sv0, st0] at q0 q1 q2 q3 q4 q5 q6
  have HA := Lib.hid hacts; have HC := Lib.hid hca
  clear hs hb3 hacts hca
  go_wp2_with fail
  obtain ⟨hp7, hb7, hq7⟩ := st_put (v := VV) (v' := sv0) HS.out HBL.out (hi := w.heap.size + 2) (ParOk.nil _ _ _) (by omega) (by omega)
  have ha7 := (HA.out.put7 (w.heap.size + 1) (by omega) sv0).less (show w.heap.size ≤ _ by omega)
  have hp8 : SAt (((((((w3.setCell ⟨w.heap.size + 1, 0, none⟩ (.int .i64 0)).setCell ⟨w.heap.size + 1, 1, none⟩ (.string ⟨#[]⟩)).setCell ⟨w.heap.size + 1, 2, none⟩ (.bool false)).setCell ⟨w.heap.size + 1, 3, none⟩ (.slice none 0 0)).setCell ⟨w.heap.size + 1, 4, none⟩ (.bool false)).setCell ⟨w.heap.size + 1, 5, none⟩ (.string ⟨#[]⟩)).setCell ⟨w.heap.size + 1, 6, none⟩ (.int .u8 0)) (w.heap.size + 1) sv0 := hp7
  have hb8 : Below w.heap.size w (((((((w3.setCell ⟨w.heap.size + 1, 0, none⟩ (.int .i64 0)).setCell ⟨w.heap.size + 1, 1, none⟩ (.string ⟨#[]⟩)).setCell ⟨w.heap.size + 1, 2, none⟩ (.bool false)).setCell ⟨w.heap.size + 1, 3, none⟩ (.slice none 0 0)).setCell ⟨w.heap.size + 1, 4, none⟩ (.bool false)).setCell ⟨w.heap.size + 1, 5, none⟩ (.string ⟨#[]⟩)).setCell ⟨w.heap.size + 1, 6, none⟩ (.int .u8 0)) := hb7
  have ha8 : Acts VV w.heap.size (((((((w3.setCell ⟨w.heap.size + 1, 0, none⟩ (.int .i64 0)).setCell ⟨w.heap.size + 1, 1, none⟩ (.string ⟨#[]⟩)).setCell ⟨w.heap.size + 1, 2, none⟩ (.bool false)).setCell ⟨w.heap.size + 1, 3, none⟩ (.slice none 0 0)).setCell ⟨w.heap.size + 1, 4, none⟩ (.bool false)).setCell ⟨w.heap.size + 1, 5, none⟩ (.string ⟨#[]⟩)).setCell ⟨w.heap.size + 1, 6, none⟩ (.int .u8 0)) Ac [axPrint r] vs := ha7
  clear hp7 hb7 hq7 ha7
  generalize (((((((w3.setCell ⟨w.heap.size + 1, 0, none⟩ (.int .i64 0)).setCell ⟨w.heap.size + 1, 1, none⟩ (.string ⟨#[]⟩)).setCell ⟨w.heap.size + 1, 2, none⟩ (.bool false)).setCell ⟨w.heap.size + 1, 3, none⟩ (.slice none 0 0)).setCell ⟨w.heap.size + 1, 4, none⟩ (.bool false)).setCell ⟨w.heap.size + 1, 5, none⟩ (.string ⟨#[]⟩)).setCell ⟨w.heap.size + 1, 6, none⟩ (.int .u8 0)) = W7 at hp8 hb8 ha8 ⊢
  obtain ⟨d0, d1, d2, d3, d4, d5, d6, _⟩ := hp8.cells
  simp only [sv0, st0] at d0 d1 d2 d3 d4 d5 d6
  rw [Exit.noGoto_ret]
  refine bodyPost_ret (v := .tuple #[.agg #[.int .i64 0, .string ⟨#[]⟩, .bool false, .slice none 0 0, .bool false, .string ⟨#[]⟩, .int .u8 0], .slice Ac 1 cA]) (by simp [results, Tryd.results58, go_sem, d0, d1, d2, d3, d4, d5, d6]) rfl ?_
  rw [HE.out]
  have hVV := HVV.out; subst hVV
  exact ⟨sv0, Ac, cA, vs, rfl, rfl, sv0_tx, ParOk.nil _ _ _, ha8, HC.out, hb8⟩
set_option maxRecDepth 100000 in
set_option maxHeartbeats 3200000 in
theorem step_graphic (v : Sv) (r : Int) (w : World) (hv : v.Ok w) (hs : saneS v.s = true) (hst : isStr v.s = false) (h0 : 32 ≤ r) (h1 : r ≤ 126) : Calls Tryd.prog 58 #[v.val, .int .i64 r] w (StRet v w (stepS v.s r).1 (stepS v.s r).2) := by
  obtain ⟨n1, n2⟩ := s_two w v sv0
  have hl := (saneS_iff v.s).1 hs
  have hi := hl.2.1
  have ht := hl.2.2.1
  clear hl
  obtain ⟨⟨a0, inter, over, l, o, text, kind⟩, ib, tb, A, cc⟩ := v
  simp only at hi ht
  have hna : a0 ≠ 7 ∧ a0 ≠ 8 ∧ a0 ≠ 9 := by
    refine ⟨fun e => ?_, fun e => ?_, fun e => ?_⟩ <;> simp [isStr, e] at hst
  have fa7 : (a0 == 7) = false := beq_eq_false_iff_ne.2 hna.1
  have HIS := Lib.hid hst
  have f24 : (r == 24) = false := beq_eq_false_iff_ne.2 (by omega)
  have f26 : (r == 26) = false := beq_eq_false_iff_ne.2 (by omega)
  have f27 : (r == 27) = false := beq_eq_false_iff_ne.2 (by omega)
  have f127 : (r == 127) = false := beq_eq_false_iff_ne.2 (by omega)
  have hf : stepS ⟨a0, inter, over, l, o, text, kind⟩ r = graphicF ⟨a0, inter, over, l, o, text, kind⟩ r := by
    unfold stepS; rw [if_neg (by simp [hs]), if_neg (by omega), if_neg (by omega), if_neg (by omega), if_neg (by simp [hna.1]), if_neg (by simp [hst]), if_neg (by omega), if_neg (by omega), if_neg (by omega)]
  clear hna hst
  have HE := Lib.hid hf
  have N1 := Lib.hid n1; have N2 := Lib.hid n2; have HV := Lib.hid hv
  have HOK : Hid (Sv.Ok ⟨⟨a0, inter, over, l, o, text, kind⟩, ib, tb, A, cc⟩ ((w.alloc (.cells #[.int .i64 a0, .string ib, .bool over, .slice A l.length cc, .bool o, .string tb, .int .u8 kind] 82)).alloc (.cells #[.int .i64 0, .string ⟨#[]⟩, .bool false, .slice none 0 0, .bool false, .string ⟨#[]⟩, .int .u8 0] 82))) := Lib.hid (hv.next (((Below.refl _ _).alloc (Nat.le_refl _) _).alloc (by simp) _))
  have HSN := Lib.hid hs
  clear hf n1 n2 hv hs
  show Calls Tryd.prog 58 #[.agg #[.int .i64 a0, .string ib, .bool over, .slice A l.length cc, .bool o, .string tb, .int .u8 kind], .int .i64 r] w _
  go_enter Tryd.func58, Tryd.ntmps58
  go_wp2
  go_step3
  go_wp2_with fail
  refine (sane6_any ⟨⟨a0, inter, over, l, o, text, kind⟩, ib, tb, A, cc⟩ _ HOK.out (by simp only; omega) (by simp only; omega)).mono ?_
  rintro e w1 ⟨rfl, hb⟩
  simp only [HSN.out]
  have hb' : Below w.heap.size w w1 := (((Below.refl _ _).alloc (Nat.le_refl _) _).alloc (by simp) _).trans (hb.mono (by simp; omega))
  have s1 := (N1.out.past hb).past ((Below.refl w1.heap.size w1).alloc (Nat.le_refl _) (.cells #[.int .i64 0, .string ⟨#[]⟩, .bool false, .slice none 0 0, .bool false, .string ⟨#[]⟩, .int .u8 0] 82))
  have s2 := (N2.out.past hb).past ((Below.refl w1.heap.size w1).alloc (Nat.le_refl _) (.cells #[.int .i64 0, .string ⟨#[]⟩, .bool false, .slice none 0 0, .bool false, .string ⟨#[]⟩, .int .u8 0] 82))
  have s3 : SAt (w1.alloc (.cells #[.int .i64 0, .string ⟨#[]⟩, .bool false, .slice none 0 0, .bool false, .string ⟨#[]⟩, .int .u8 0] 82)) w1.heap.size sv0 := heap_alloc_new w1 _
  obtain ⟨e0, e1, e2, e3, e4, e5, e6, _⟩ := (N1.out.past hb).cells
  simp only at e0 e1 e2 e3 e4 e5 e6
  have hz : w.heap.size + 1 < w1.heap.size := bk_lt (N2.out.past hb)
  have hz0 : w.heap.size < w1.heap.size := by omega
  have S1 := Lib.hid s1; have S2 := Lib.hid s2; have S3 := Lib.hid s3
  have HB : Hid (Below w.heap.size w (w1.alloc (.cells #[.int .i64 0, .string ⟨#[]⟩, .bool false, .slice none 0 0, .bool false, .string ⟨#[]⟩, .int .u8 0] 82))) := Lib.hid (hb'.alloc (by omega) _)
  have HO2 := Lib.hid ((HOK.out.next hb).next ((Below.refl w1.heap.size w1).alloc (Nat.le_refl _) (.cells #[.int .i64 0, .string ⟨#[]⟩, .bool false, .slice none 0 0, .bool false, .string ⟨#[]⟩, .int .u8 0] 82)))
  clear hb hb' s1 s2 s3 N1 N2 HOK
  obtain ⟨VV, hVV⟩ : ∃ x : Sv, x = ⟨⟨a0, inter, over, l, o, text, kind⟩, ib, tb, A, cc⟩ := ⟨_, rfl⟩
  have HVV := Lib.hid hVV; clear hVV
  go_wp2_with fail
  refine (isstr_any ⟨⟨a0, inter, over, l, o, text, kind⟩, ib, tb, A, cc⟩ _).mono ?_
  rintro e w2 ⟨rfl, hbi⟩
  simp only [HIS.out]
  have t1 := S1.out.past hbi; have t2 := S2.out.past hbi; have t3 := S3.out.past hbi
  have T1 := Lib.hid t1; have T2 := Lib.hid t2
  have HB2 := Lib.hid (HB.out.trans (hbi.mono (by simp; omega)))
  have HO3 := Lib.hid (HO2.out.next hbi)
  have hz2 : w.heap.size + 1 < w2.heap.size := bk_lt t2
  obtain ⟨i0, i1, i2, i3, i4, i5, i6, _⟩ := t1.cells
  simp only at i0 i1 i2 i3 i4 i5 i6
  obtain ⟨q0, q1, q2, q3, q4, q5, q6, g0, g1, g2, g3, g4, g5, g6⟩ := t2.cells
  simp only [sv0, st0] at q0 q1 q2 q3 q4 q5 q6
  clear hbi t1 t2 t3 e0 e1 e2 e3 e4 e5 e6
  go_wp2_with fail
  refine (graphic_any ⟨⟨a0, inter, over, l, o, text, kind⟩, ib, tb, A, cc⟩ r _ HO3.out (by omega) (by omega)).mono ?_
  intro e w3 hret
  obtain ⟨a1, inter1, ov1, l1, o1, text1, k1, ib1, tb1, A1, c1, Ac, cA, vs, he1, rfl, htx, hpar, hacts, hca, hb3⟩ := hret.open
  clear hret
  rw [← HVV.out] at hpar hacts
  have hs := T2.out.past hb3
  have HS := Lib.hid hs
  have HBL := Lib.hid (HB2.out.trans (hb3.mono (by omega)))
  clear q0 q1 q2 q3 q4 q5 q6 g0 g1 g2 g3 g4 g5 g6 i0 i1 i2 i3 i4 i5 i6
  obtain ⟨q0, q1, q2, q3, q4, q5, q6, g0, g1, g2, g3, g4, g5, g6⟩ := hs.cells
  simp only [sv0, st0] at q0 q1 q2 q3 q4 q5 q6
  have HA := Lib.hid hacts; have HC := Lib.hid hca; have HP := Lib.hid hpar; have HTX := Lib.hid htx; have HE1 := Lib.hid he1
  clear hs hb3 hacts hca hpar htx he1
  go_wp2_with fail
  obtain ⟨hp7, hb7, hq7⟩ := st_put (v := VV) (v' := ⟨⟨a1, inter1, ov1, l1, o1, text1, k1⟩, ib1, tb1, A1, c1⟩) HS.out HBL.out HP.out (by omega) (by omega)
  have ha7 := (HA.out.put7 (w.heap.size + 1) (by omega) ⟨⟨a1, inter1, ov1, l1, o1, text1, k1⟩, ib1, tb1, A1, c1⟩).less (show w.heap.size ≤ _ by omega)
  simp only [World.put7] at hp7 hb7 hq7 ha7
  generalize (((((((w3.setCell ⟨w.heap.size + 1, 0, none⟩ (.int .i64 a1)).setCell ⟨w.heap.size + 1, 1, none⟩ (.string ib1)).setCell ⟨w.heap.size + 1, 2, none⟩ (.bool ov1)).setCell ⟨w.heap.size + 1, 3, none⟩ (.slice A1 l1.length c1)).setCell ⟨w.heap.size + 1, 4, none⟩ (.bool o1)).setCell ⟨w.heap.size + 1, 5, none⟩ (.string tb1)).setCell ⟨w.heap.size + 1, 6, none⟩ (.int .u8 k1)) = W7 at hp7 hb7 hq7 ha7 ⊢
  obtain ⟨d0, d1, d2, d3, d4, d5, d6, _⟩ := hp7.cells
  simp only at d0 d1 d2 d3 d4 d5 d6
  rw [Exit.noGoto_ret]
  refine bodyPost_ret (v := .tuple #[.agg #[.int .i64 a1, .string ib1, .bool ov1, .slice A1 l1.length c1, .bool o1, .string tb1, .int .u8 k1], .slice Ac (graphicF ⟨a0, inter, over, l, o, text, kind⟩ r).2.length cA]) (by simp [results, Tryd.results58, go_sem, d0, d1, d2, d3, d4, d5, d6]) rfl ?_
  rw [HE.out]
  have hVV := HVV.out; subst hVV
  exact ⟨⟨⟨a1, inter1, ov1, l1, o1, text1, k1⟩, ib1, tb1, A1, c1⟩, Ac, cA, vs, HE1.out, rfl, HTX.out, hq7, ha7, HC.out, hb7⟩
set_option maxRecDepth 100000 in
set_option maxHeartbeats 3200000 in
theorem step_str7 (v : Sv) (r : Int) (w : World) (hv : v.Ok w) (hs : saneS v.s = true) (ha : v.s.a = 7) (hr7 : r ≠ 7) (hn : r ≠ 24 ∧ r ≠ 26 ∧ r ≠ 27) (hh : ¬ (128 ≤ r ∧ r ≤ 159)) : Calls Tryd.prog 58 #[v.val, .int .i64 r] w (StRet v w (stepS v.s r).1 (stepS v.s r).2) := by
  obtain ⟨n1, n2⟩ := s_two w v sv0
  have hl := (saneS_iff v.s).1 hs
  have hi := hl.2.1
  have ht := hl.2.2.1
  clear hl
  obtain ⟨⟨a0, inter, over, l, o, text, kind⟩, ib, tb, A, cc⟩ := v
  simp only at hi ht
  simp only at ha
  subst ha
  have f7 : (r == 7) = false := beq_eq_false_iff_ne.2 hr7
  have hst : isStr ⟨7, inter, over, l, o, text, kind⟩ = true := rfl
  have f24 : (r == 24) = false := beq_eq_false_iff_ne.2 (by omega)
  have f26 : (r == 26) = false := beq_eq_false_iff_ne.2 (by omega)
  have f27 : (r == 27) = false := beq_eq_false_iff_ne.2 (by omega)
  have hf : stepS ⟨7, inter, over, l, o, text, kind⟩ r = (addF ⟨7, inter, over, l, o, text, kind⟩ r, []) := by
    unfold stepS; rw [if_neg (by simp [hs]), if_neg (by omega), if_neg (by omega), if_neg (by omega), if_neg (by simp; omega), if_pos hst]
  have HIS := Lib.hid hst
  clear hst
  have HE := Lib.hid hf
  have N1 := Lib.hid n1; have N2 := Lib.hid n2; have HV := Lib.hid hv
  have HOK : Hid (Sv.Ok ⟨⟨7, inter, over, l, o, text, kind⟩, ib, tb, A, cc⟩ ((w.alloc (.cells #[.int .i64 7, .string ib, .bool over, .slice A l.length cc, .bool o, .string tb, .int .u8 kind] 82)).alloc (.cells #[.int .i64 0, .string ⟨#[]⟩, .bool false, .slice none 0 0, .bool false, .string ⟨#[]⟩, .int .u8 0] 82))) := Lib.hid (hv.next (((Below.refl _ _).alloc (Nat.le_refl _) _).alloc (by simp) _))
  have HSN := Lib.hid hs
  clear hf n1 n2 hv hs
  show Calls Tryd.prog 58 #[.agg #[.int .i64 7, .string ib, .bool over, .slice A l.length cc, .bool o, .string tb, .int .u8 kind], .int .i64 r] w _
  go_enter Tryd.func58, Tryd.ntmps58
  go_wp2
  go_step3
  go_wp2_with fail
  refine (sane6_any ⟨⟨7, inter, over, l, o, text, kind⟩, ib, tb, A, cc⟩ _ HOK.out (by simp only; omega) (by simp only; omega)).mono ?_
  rintro e w1 ⟨rfl, hb⟩
  simp only [HSN.out]
  have hb' : Below w.heap.size w w1 := (((Below.refl _ _).alloc (Nat.le_refl _) _).alloc (by simp) _).trans (hb.mono (by simp; omega))
  have s1 := (N1.out.past hb).past ((Below.refl w1.heap.size w1).alloc (Nat.le_refl _) (.cells #[.int .i64 0, .string ⟨#[]⟩, .bool false, .slice none 0 0, .bool false, .string ⟨#[]⟩, .int .u8 0] 82))
  have s2 := (N2.out.past hb).past ((Below.refl w1.heap.size w1).alloc (Nat.le_refl _) (.cells #[.int .i64 0, .string ⟨#[]⟩, .bool false, .slice none 0 0, .bool false, .string ⟨#[]⟩, .int .u8 0] 82))
  have s3 : SAt (w1.alloc (.cells #[.int .i64 0, .string ⟨#[]⟩, .bool false, .slice none 0 0, .bool false, .string ⟨#[]⟩, .int .u8 0] 82)) w1.heap.size sv0 := heap_alloc_new w1 _
  obtain ⟨e0, e1, e2, e3, e4, e5, e6, _⟩ := (N1.out.past hb).cells
  simp only at e0 e1 e2 e3 e4 e5 e6
  have hz : w.heap.size + 1 < w1.heap.size := bk_lt (N2.out.past hb)
  have hz0 : w.heap.size < w1.heap.size := by omega
  have S1 := Lib.hid s1; have S2 := Lib.hid s2; have S3 := Lib.hid s3
  have HB : Hid (Below w.heap.size w (w1.alloc (.cells #[.int .i64 0, .string ⟨#[]⟩, .bool false, .slice none 0 0, .bool false, .string ⟨#[]⟩, .int .u8 0] 82))) := Lib.hid (hb'.alloc (by omega) _)
  have HO2 := Lib.hid ((HOK.out.next hb).next ((Below.refl w1.heap.size w1).alloc (Nat.le_refl _) (.cells #[.int .i64 0, .string ⟨#[]⟩, .bool false, .slice none 0 0, .bool false, .string ⟨#[]⟩, .int .u8 0] 82)))
  clear hb hb' s1 s2 s3 N1 N2 HOK
  obtain ⟨VV, hVV⟩ : ∃ x : Sv, x = ⟨⟨7, inter, over, l, o, text, kind⟩, ib, tb, A, cc⟩ := ⟨_, rfl⟩
  have HVV := Lib.hid hVV; clear hVV
  by_cases hup : 128 ≤ r
  all_goals
    first
      | (have d1 : decide (r ≤ 159) = false := by simp; omega)
      | skip
    go_wp2_with fail
    refine (isstr_any ⟨⟨7, inter, over, l, o, text, kind⟩, ib, tb, A, cc⟩ _).mono ?_
    rintro e w2 ⟨rfl, hbi⟩
    simp only [HIS.out]
    have t1 := S1.out.past hbi; have t2 := S2.out.past hbi
    have T2 := Lib.hid t2
    have HB2 := Lib.hid (HB.out.trans (hbi.mono (by simp; omega)))
    have hz2 : w.heap.size + 1 < w2.heap.size := bk_lt t2
    obtain ⟨i0, i1, i2, i3, i4, i5, i6, _⟩ := t1.cells
    simp only at i0 i1 i2 i3 i4 i5 i6
    clear hbi t1 t2 e0 e1 e2 e3 e4 e5 e6
    go_wp2_with fail
    refine (add_any ⟨⟨7, inter, over, l, o, text, kind⟩, ib, tb, A, cc⟩ r _ HV.out.tx ht).mono ?_
    intro e w3 hret
    obtain ⟨a1, inter1, ov1, l1, o1, text1, k1, ib1, tb1, A1, c1, he1, rfl, htx, hpar, hb3⟩ := hret.open
    clear hret
    rw [← HVV.out] at hpar
    have hs := T2.out.past hb3
    have HS := Lib.hid hs
    have HBL := Lib.hid (HB2.out.trans (hb3.mono (by omega)))
    clear i0 i1 i2 i3 i4 i5 i6
    obtain ⟨q0, q1, q2, q3, q4, q5, q6, g0, g1, g2, g3, g4, g5, g6⟩ := hs.cells
    simp only [sv0, st0] at q0 q1 q2 q3 q4 q5 q6
    have HP := Lib.hid hpar; have HTX := Lib.hid htx; have HE1 := Lib.hid he1
    clear hs hb3 hpar htx he1
    go_wp2_with fail
    obtain ⟨hp7, hb7, hq7⟩ := st_put (v := VV) (v' := ⟨⟨a1, inter1, ov1, l1, o1, text1, k1⟩, ib1, tb1, A1, c1⟩) HS.out HBL.out HP.out (by omega) (by omega)
    simp only [World.put7] at hp7 hb7 hq7
    generalize (((((((w3.setCell ⟨w.heap.size + 1, 0, none⟩ (.int .i64 a1)).setCell ⟨w.heap.size + 1, 1, none⟩ (.string ib1)).setCell ⟨w.heap.size + 1, 2, none⟩ (.bool ov1)).setCell ⟨w.heap.size + 1, 3, none⟩ (.slice A1 l1.length c1)).setCell ⟨w.heap.size + 1, 4, none⟩ (.bool o1)).setCell ⟨w.heap.size + 1, 5, none⟩ (.string tb1)).setCell ⟨w.heap.size + 1, 6, none⟩ (.int .u8 k1)) = W7 at hp7 hb7 hq7 ⊢
    obtain ⟨d0, d1, d2, d3, d4, d5, d6, _⟩ := hp7.cells
    simp only at d0 d1 d2 d3 d4 d5 d6
    rw [Exit.noGoto_ret]
    refine bodyPost_ret (v := .tuple #[.agg #[.int .i64 a1, .string ib1, .bool ov1, .slice A1 l1.length c1, .bool o1, .string tb1, .int .u8 k1], .slice none 0 0]) (by simp [results, Tryd.results58, go_sem, d0, d1, d2, d3, d4, d5, d6]) rfl ?_
    rw [HE.out]
    have hVV := HVV.out; subst hVV
    exact ⟨⟨⟨a1, inter1, ov1, l1, o1, text1, k1⟩, ib1, tb1, A1, c1⟩, none, 0, [], HE1.out, rfl, HTX.out, hq7, Acts.nil _ _ _ _, Nat.le_refl _, hb7⟩
set_option maxRecDepth 100000 in
set_option maxHeartbeats 3200000 in
theorem step_str (v : Sv) (r : Int) (w : World) (hv : v.Ok w) (hs : saneS v.s = true) (ha : v.s.a ≠ 7) (hst : isStr v.s = true) (hn : r ≠ 24 ∧ r ≠ 26 ∧ r ≠ 27) (hh : ¬ (128 ≤ r ∧ r ≤ 159)) : Calls Tryd.prog 58 #[v.val, .int .i64 r] w (StRet v w (stepS v.s r).1 (stepS v.s r).2) := by
  obtain ⟨n1, n2⟩ := s_two w v sv0
  have hl := (saneS_iff v.s).1 hs
  have hi := hl.2.1
  have ht := hl.2.2.1
  clear hl
  obtain ⟨⟨a0, inter, over, l, o, text, kind⟩, ib, tb, A, cc⟩ := v
  simp only at hi ht
  simp only at ha
  have fa7 : (a0 == 7) = false := beq_eq_false_iff_ne.2 ha
  have f24 : (r == 24) = false := beq_eq_false_iff_ne.2 (by omega)
  have f26 : (r == 26) = false := beq_eq_false_iff_ne.2 (by omega)
  have f27 : (r == 27) = false := beq_eq_false_iff_ne.2 (by omega)
  have hf : stepS ⟨a0, inter, over, l, o, text, kind⟩ r = (addF ⟨a0, inter, over, l, o, text, kind⟩ r, []) := by
    unfold stepS; rw [if_neg (by simp [hs]), if_neg (by omega), if_neg (by omega), if_neg (by omega), if_neg (by simp; omega), if_pos hst]
  have HIS := Lib.hid hst
  clear hst
  have HE := Lib.hid hf
  have N1 := Lib.hid n1; have N2 := Lib.hid n2; have HV := Lib.hid hv
  have HOK : Hid (Sv.Ok ⟨⟨a0, inter, over, l, o, text, kind⟩, ib, tb, A, cc⟩ ((w.alloc (.cells #[.int .i64 a0, .string ib, .bool over, .slice A l.length cc, .bool o, .string tb, .int .u8 kind] 82)).alloc (.cells #[.int .i64 0, .string ⟨#[]⟩, .bool false, .slice none 0 0, .bool false, .string ⟨#[]⟩, .int .u8 0] 82))) := Lib.hid (hv.next (((Below.refl _ _).alloc (Nat.le_refl _) _).alloc (by simp) _))
  have HSN := Lib.hid hs
  clear hf n1 n2 hv hs
  show Calls Tryd.prog 58 #[.agg #[.int .i64 a0, .string ib, .bool over, .slice A l.length cc, .bool o, .string tb, .int .u8 kind], .int .i64 r] w _
  go_enter Tryd.func58, Tryd.ntmps58
  go_wp2
  go_step3
  go_wp2_with fail
  refine (sane6_any ⟨⟨a0, inter, over, l, o, text, kind⟩, ib, tb, A, cc⟩ _ HOK.out (by simp only; omega) (by simp only; omega)).mono ?_
  rintro e w1 ⟨rfl, hb⟩
  simp only [HSN.out]
  have hb' : Below w.heap.size w w1 := (((Below.refl _ _).alloc (Nat.le_refl _) _).alloc (by simp) _).trans (hb.mono (by simp; omega))
  have s1 := (N1.out.past hb).past ((Below.refl w1.heap.size w1).alloc (Nat.le_refl _) (.cells #[.int .i64 0, .string ⟨#[]⟩, .bool false, .slice none 0 0, .bool false, .string ⟨#[]⟩, .int .u8 0] 82))
  have s2 := (N2.out.past hb).past ((Below.refl w1.heap.size w1).alloc (Nat.le_refl _) (.cells #[.int .i64 0, .string ⟨#[]⟩, .bool false, .slice none 0 0, .bool false, .string ⟨#[]⟩, .int .u8 0] 82))
  have s3 : SAt (w1.alloc (.cells #[.int .i64 0, .string ⟨#[]⟩, .bool false, .slice none 0 0, .bool false, .string ⟨#[]⟩, .int .u8 0] 82)) w1.heap.size sv0 := heap_alloc_new w1 _
  obtain ⟨e0, e1, e2, e3, e4, e5, e6, _⟩ := (N1.out.past hb).cells
  simp only at e0 e1 e2 e3 e4 e5 e6
  have hz : w.heap.size + 1 < w1.heap.size := bk_lt (N2.out.past hb)
  have hz0 : w.heap.size < w1.heap.size := by omega
  have S1 := Lib.hid s1; have S2 := Lib.hid s2; have S3 := Lib.hid s3
  have HB : Hid (Below w.heap.size w (w1.alloc (.cells #[.int .i64 0, .string ⟨#[]⟩, .bool false, .slice none 0 0, .bool false, .string ⟨#[]⟩, .int .u8 0] 82))) := Lib.hid (hb'.alloc (by omega) _)
  have HO2 := Lib.hid ((HOK.out.next hb).next ((Below.refl w1.heap.size w1).alloc (Nat.le_refl _) (.cells #[.int .i64 0, .string ⟨#[]⟩, .bool false, .slice none 0 0, .bool false, .string ⟨#[]⟩, .int .u8 0] 82)))
  clear hb hb' s1 s2 s3 N1 N2 HOK
  obtain ⟨VV, hVV⟩ : ∃ x : Sv, x = ⟨⟨a0, inter, over, l, o, text, kind⟩, ib, tb, A, cc⟩ := ⟨_, rfl⟩
  have HVV := Lib.hid hVV; clear hVV
  by_cases hup : 128 ≤ r
  all_goals
    first
      | (have d1 : decide (r ≤ 159) = false := by simp; omega)
      | skip
    go_wp2_with fail
    refine (isstr_any ⟨⟨a0, inter, over, l, o, text, kind⟩, ib, tb, A, cc⟩ _).mono ?_
    rintro e w2 ⟨rfl, hbi⟩
    simp only [HIS.out]
    have t1 := S1.out.past hbi; have t2 := S2.out.past hbi
    have T2 := Lib.hid t2
    have HB2 := Lib.hid (HB.out.trans (hbi.mono (by simp; omega)))
    have hz2 : w.heap.size + 1 < w2.heap.size := bk_lt t2
    obtain ⟨i0, i1, i2, i3, i4, i5, i6, _⟩ := t1.cells
    simp only at i0 i1 i2 i3 i4 i5 i6
    clear hbi t1 t2 e0 e1 e2 e3 e4 e5 e6
    go_wp2_with fail
    refine (add_any ⟨⟨a0, inter, over, l, o, text, kind⟩, ib, tb, A, cc⟩ r _ HV.out.tx ht).mono ?_
    intro e w3 hret
    obtain ⟨a1, inter1, ov1, l1, o1, text1, k1, ib1, tb1, A1, c1, he1, rfl, htx, hpar, hb3⟩ := hret.open
    clear hret
    rw [← HVV.out] at hpar
    have hs := T2.out.past hb3
    have HS := Lib.hid hs
    have HBL := Lib.hid (HB2.out.trans (hb3.mono (by omega)))
    clear i0 i1 i2 i3 i4 i5 i6
    obtain ⟨q0, q1, q2, q3, q4, q5, q6, g0, g1, g2, g3, g4, g5, g6⟩ := hs.cells
    simp only [sv0, st0] at q0 q1 q2 q3 q4 q5 q6
    have HP := Lib.hid hpar; have HTX := Lib.hid htx; have HE1 := Lib.hid he1
    clear hs hb3 hpar htx he1
    go_wp2_with fail
    obtain ⟨hp7, hb7, hq7⟩ := st_put (v := VV) (v' := ⟨⟨a1, inter1, ov1, l1, o1, text1, k1⟩, ib1, tb1, A1, c1⟩) HS.out HBL.out HP.out (by omega) (by omega)
    simp only [World.put7] at hp7 hb7 hq7
    generalize (((((((w3.setCell ⟨w.heap.size + 1, 0, none⟩ (.int .i64 a1)).setCell ⟨w.heap.size + 1, 1, none⟩ (.string ib1)).setCell ⟨w.heap.size + 1, 2, none⟩ (.bool ov1)).setCell ⟨w.heap.size + 1, 3, none⟩ (.slice A1 l1.length c1)).setCell ⟨w.heap.size + 1, 4, none⟩ (.bool o1)).setCell ⟨w.heap.size + 1, 5, none⟩ (.string tb1)).setCell ⟨w.heap.size + 1, 6, none⟩ (.int .u8 k1)) = W7 at hp7 hb7 hq7 ⊢
    obtain ⟨d0, d1, d2, d3, d4, d5, d6, _⟩ := hp7.cells
    simp only at d0 d1 d2 d3 d4 d5 d6
    rw [Exit.noGoto_ret]
    refine bodyPost_ret (v := .tuple #[.agg #[.int .i64 a1, .string ib1, .bool ov1, .slice A1 l1.length c1, .bool o1, .string tb1, .int .u8 k1], .slice none 0 0]) (by simp [results, Tryd.results58, go_sem, d0, d1, d2, d3, d4, d5, d6]) rfl ?_
    rw [HE.out]
    have hVV := HVV.out; subst hVV
    exact ⟨⟨⟨a1, inter1, ov1, l1, o1, text1, k1⟩, ib1, tb1, A1, c1⟩, none, 0, [], HE1.out, rfl, HTX.out, hq7, Acts.nil _ _ _ _, Nat.le_refl _, hb7⟩
end Go.Proofs.YtcempbgbdlmjfaaDoor
