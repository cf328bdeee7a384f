/-
  parse: the walk of Step: the ways that do not end a string.
  parse: the walk of Step: a control that leaves the state as it is.
  parse: the walk of Step: where a string is ended.
-/
import Derived.Test.YtcempbgbdlmjfaaDoorP6Sc
import Derived.Test.YtcempbgbdlmjfaaDoorP6E
import Derived.Test.YtcempbgbdlmjfaaDoorP6Gr
import Derived.Test.YtcempbgbdlmjfaaDoorP6Ad
import Derived.WalkMore
import Derived.Deep.RegionHeld3
import Derived.ScopeJumps
namespace Go.Proofs.YtcempbgbdlmjfaaDoor
open Go.RowKit

set_option maxRecDepth 100000 in
set_option maxHeartbeats 3200000 in
theorem step_bad (v : Sv) (r : Int) (w : World) (hv : v.Ok w) (hs : saneS v.s = false) (hm : v.s.inter.length < 9223372036854775808) (hm2 : v.s.text.length < 9223372036854775808) : Calls Tryd.prog 58 #[v.val, .int .i64 r] w (StRet v w (stepS v.s r).1 (stepS v.s r).2) := by
  obtain ⟨n1, n2⟩ := s_two w v sv0
  obtain ⟨⟨a0, inter, over, l, o, text, kind⟩, ib, tb, A, cc⟩ := v
  simp only at hm hm2
  have hf : stepS ⟨a0, inter, over, l, o, text, kind⟩ r = (st0, []) := by unfold stepS; rw [if_pos hs]
  have HE := Lib.hid hf
  have N1 := Lib.hid n1; have N2 := Lib.hid n2
  have HOK : Hid (Sv.Ok ⟨⟨a0, inter, over, l, o, text, kind⟩, ib, tb, A, cc⟩ ((w.alloc (.cells #[.int .i64 a0, .string ib, .bool over, .slice A l.length cc, .bool o, .string tb, .int .u8 kind] 82)).alloc (.cells #[.int .i64 0, .string ⟨#[]⟩, .bool false, .slice none 0 0, .bool false, .string ⟨#[]⟩, .int .u8 0] 82))) := Lib.hid (hv.next (((Below.refl _ _).alloc (Nat.le_refl _) _).alloc (by simp) _))
  have HSN := Lib.hid hs
  clear hf n1 n2 hv hs
  show Calls Tryd.prog 58 #[.agg #[.int .i64 a0, .string ib, .bool over, .slice A l.length cc, .bool o, .string tb, .int .u8 kind], .int .i64 r] w _
  go_enter Tryd.func58, Tryd.ntmps58
  go_wp2
  go_step3
  go_wp2_with fail
  refine (sane6_any ⟨⟨a0, inter, over, l, o, text, kind⟩, ib, tb, A, cc⟩ _ HOK.out hm hm2).mono ?_
  rintro e w1 ⟨rfl, hb⟩
  simp only [HSN.out]
  have hb' : Below w.heap.size w w1 := (((Below.refl _ _).alloc (Nat.le_refl _) _).alloc (by simp) _).trans (hb.mono (by simp; omega))
  have hs2 := N2.out.past hb
  have HS := Lib.hid hs2; have HBL := Lib.hid hb'
  obtain ⟨e0, e1, e2, e3, e4, e5, e6, g0, g1, g2, g3, g4, g5, g6⟩ := hs2.cells
  simp only [sv0, st0] at e0 e1 e2 e3 e4 e5 e6
  clear hb hb' hs2 N1 N2
  obtain ⟨VV, hVV⟩ : ∃ x : Sv, x = ⟨⟨a0, inter, over, l, o, text, kind⟩, ib, tb, A, cc⟩ := ⟨_, rfl⟩
  have HVV := Lib.hid hVV; clear hVV
  go_wp2_with fail
  obtain ⟨hp7, hb7, hq7⟩ := st_put (v := VV) (v' := sv0) HS.out HBL.out (hi := w.heap.size + 2) (ParOk.nil _ _ _) (by omega) (by omega)
  have hp8 : SAt (((((((w1.setCell ⟨w.heap.size + 1, 0, none⟩ (.int .i64 0)).setCell ⟨w.heap.size + 1, 1, none⟩ (.string ⟨#[]⟩)).setCell ⟨w.heap.size + 1, 2, none⟩ (.bool false)).setCell ⟨w.heap.size + 1, 3, none⟩ (.slice none 0 0)).setCell ⟨w.heap.size + 1, 4, none⟩ (.bool false)).setCell ⟨w.heap.size + 1, 5, none⟩ (.string ⟨#[]⟩)).setCell ⟨w.heap.size + 1, 6, none⟩ (.int .u8 0)) (w.heap.size + 1) sv0 := hp7
  have hb8 : Below w.heap.size w (((((((w1.setCell ⟨w.heap.size + 1, 0, none⟩ (.int .i64 0)).setCell ⟨w.heap.size + 1, 1, none⟩ (.string ⟨#[]⟩)).setCell ⟨w.heap.size + 1, 2, none⟩ (.bool false)).setCell ⟨w.heap.size + 1, 3, none⟩ (.slice none 0 0)).setCell ⟨w.heap.size + 1, 4, none⟩ (.bool false)).setCell ⟨w.heap.size + 1, 5, none⟩ (.string ⟨#[]⟩)).setCell ⟨w.heap.size + 1, 6, none⟩ (.int .u8 0)) := hb7
  clear hp7 hb7 hq7
  generalize (((((((w1.setCell ⟨w.heap.size + 1, 0, none⟩ (.int .i64 0)).setCell ⟨w.heap.size + 1, 1, none⟩ (.string ⟨#[]⟩)).setCell ⟨w.heap.size + 1, 2, none⟩ (.bool false)).setCell ⟨w.heap.size + 1, 3, none⟩ (.slice none 0 0)).setCell ⟨w.heap.size + 1, 4, none⟩ (.bool false)).setCell ⟨w.heap.size + 1, 5, none⟩ (.string ⟨#[]⟩)).setCell ⟨w.heap.size + 1, 6, none⟩ (.int .u8 0)) = W7 at hp8 hb8 ⊢
  obtain ⟨d0, d1, d2, d3, d4, d5, d6, _⟩ := hp8.cells
  simp only [sv0, st0] at d0 d1 d2 d3 d4 d5 d6
  rw [Exit.noGoto_ret]
  refine bodyPost_ret (v := .tuple #[.agg #[.int .i64 0, .string ⟨#[]⟩, .bool false, .slice none 0 0, .bool false, .string ⟨#[]⟩, .int .u8 0], .slice none 0 0]) (by simp [results, Tryd.results58, go_sem, d0, d1, d2, d3, d4, d5, d6]) rfl ?_
  rw [HE.out]
  exact ⟨sv0, none, 0, [], rfl, rfl, sv0_tx, ParOk.nil _ _ _, Acts.nil _ _ _ _, Nat.le_refl _, hb8⟩
set_option maxRecDepth 100000 in
set_option maxHeartbeats 3200000 in
theorem step_24 (v : Sv) (r : Int) (w : World) (hv : v.Ok w) (hs : saneS v.s = true) (hr : r = 24) : Calls Tryd.prog 58 #[v.val, .int .i64 r] w (StRet v w (stepS v.s r).1 (stepS v.s r).2) := by
  obtain ⟨n1, n2⟩ := s_two w v sv0
  have hl := (saneS_iff v.s).1 hs
  have hi := hl.2.1
  have ht := hl.2.2.1
  clear hl
  obtain ⟨⟨a0, inter, over, l, o, text, kind⟩, ib, tb, A, cc⟩ := v
  simp only at hi ht
  subst hr
  have hf : stepS ⟨a0, inter, over, l, o, text, kind⟩ 24 = (st0, [axExec 24]) := by unfold stepS; rw [if_neg (by simp [hs]), if_pos (by omega)]
  have HE := Lib.hid hf
  have N1 := Lib.hid n1; have N2 := Lib.hid n2; have HV := Lib.hid hv
  have HOK : Hid (Sv.Ok ⟨⟨a0, inter, over, l, o, text, kind⟩, ib, tb, A, cc⟩ ((w.alloc (.cells #[.int .i64 a0, .string ib, .bool over, .slice A l.length cc, .bool o, .string tb, .int .u8 kind] 82)).alloc (.cells #[.int .i64 0, .string ⟨#[]⟩, .bool false, .slice none 0 0, .bool false, .string ⟨#[]⟩, .int .u8 0] 82))) := Lib.hid (hv.next (((Below.refl _ _).alloc (Nat.le_refl _) _).alloc (by simp) _))
  have HSN := Lib.hid hs
  clear hf n1 n2 hv hs
  show Calls Tryd.prog 58 #[.agg #[.int .i64 a0, .string ib, .bool over, .slice A l.length cc, .bool o, .string tb, .int .u8 kind], .int .i64 24] w _
  go_enter Tryd.func58, Tryd.ntmps58
  go_wp2
  go_step3
  go_wp2_with fail
  refine (sane6_any ⟨⟨a0, inter, over, l, o, text, kind⟩, ib, tb, A, cc⟩ _ HOK.out (by simp only; omega) (by simp only; omega)).mono ?_
  rintro e w1 ⟨rfl, hb⟩
  simp only [HSN.out]
  have hb' : Below w.heap.size w w1 := (((Below.refl _ _).alloc (Nat.le_refl _) _).alloc (by simp) _).trans (hb.mono (by simp; omega))
  have s1 := (N1.out.past hb).past ((Below.refl w1.heap.size w1).alloc (Nat.le_refl _) (.cells #[.int .i64 0, .string ⟨#[]⟩, .bool false, .slice none 0 0, .bool false, .string ⟨#[]⟩, .int .u8 0] 82))
  have s2 := (N2.out.past hb).past ((Below.refl w1.heap.size w1).alloc (Nat.le_refl _) (.cells #[.int .i64 0, .string ⟨#[]⟩, .bool false, .slice none 0 0, .bool false, .string ⟨#[]⟩, .int .u8 0] 82))
  have s3 : SAt (w1.alloc (.cells #[.int .i64 0, .string ⟨#[]⟩, .bool false, .slice none 0 0, .bool false, .string ⟨#[]⟩, .int .u8 0] 82)) w1.heap.size sv0 := heap_alloc_new w1 _
  obtain ⟨e0, e1, e2, e3, e4, e5, e6, _⟩ := (N1.out.past hb).cells
  simp only at e0 e1 e2 e3 e4 e5 e6
  have hz : w.heap.size + 1 < w1.heap.size := bk_lt (N2.out.past hb)
  have hz0 : w.heap.size < w1.heap.size := by omega
  have S1 := Lib.hid s1; have S2 := Lib.hid s2; have S3 := Lib.hid s3
  have P1 := Lib.hid (N1.out.past hb); have P2 := Lib.hid (N2.out.past hb); have PB := Lib.hid hb'
  have HB : Hid (Below w.heap.size w (w1.alloc (.cells #[.int .i64 0, .string ⟨#[]⟩, .bool false, .slice none 0 0, .bool false, .string ⟨#[]⟩, .int .u8 0] 82))) := Lib.hid (hb'.alloc (by omega) _)
  have HO2 := Lib.hid ((HOK.out.next hb).next ((Below.refl w1.heap.size w1).alloc (Nat.le_refl _) (.cells #[.int .i64 0, .string ⟨#[]⟩, .bool false, .slice none 0 0, .bool false, .string ⟨#[]⟩, .int .u8 0] 82)))
  clear hb hb' s1 s2 s3 N1 N2 HOK
  obtain ⟨VV, hVV⟩ : ∃ x : Sv, x = ⟨⟨a0, inter, over, l, o, text, kind⟩, ib, tb, A, cc⟩ := ⟨_, rfl⟩
  have HVV := Lib.hid hVV; clear hVV
  go_wp2_with fail
  refine (control_any VV 24 _ (by omega) (by omega)).mono ?_
  rintro e w2 ⟨Ac, cA, vs, rfl, hacts, hca, hb2⟩
  simp only [World.size_alloc] at hb2 hacts
  have hs := S2.out.past (hb2.mono (by simp))
  have HS := Lib.hid hs
  have HBL := Lib.hid (HB.out.trans (hb2.mono (by omega)))
  obtain ⟨q0, q1, q2, q3, q4, q5, q6, g0, g1, g2, g3, g4, g5, g6⟩ := hs.cells
  simp only [sv0, st0] at q0 q1 q2 q3 q4 q5 q6
  have HA := Lib.hid hacts; have HC := Lib.hid hca
  clear hs hb2 hacts hca
  go_wp2_with fail
  obtain ⟨hp7, hb7, hq7⟩ := st_put (v := VV) (v' := sv0) HS.out HBL.out (hi := w.heap.size + 2) (ParOk.nil _ _ _) (by omega) (by omega)
  have ha7 := (HA.out.put7 (w.heap.size + 1) (by omega) sv0).less (show w.heap.size ≤ _ by omega)
  have hp8 : SAt (((((((w2.setCell ⟨w.heap.size + 1, 0, none⟩ (.int .i64 0)).setCell ⟨w.heap.size + 1, 1, none⟩ (.string ⟨#[]⟩)).setCell ⟨w.heap.size + 1, 2, none⟩ (.bool false)).setCell ⟨w.heap.size + 1, 3, none⟩ (.slice none 0 0)).setCell ⟨w.heap.size + 1, 4, none⟩ (.bool false)).setCell ⟨w.heap.size + 1, 5, none⟩ (.string ⟨#[]⟩)).setCell ⟨w.heap.size + 1, 6, none⟩ (.int .u8 0)) (w.heap.size + 1) sv0 := hp7
  have hb8 : Below w.heap.size w (((((((w2.setCell ⟨w.heap.size + 1, 0, none⟩ (.int .i64 0)).setCell ⟨w.heap.size + 1, 1, none⟩ (.string ⟨#[]⟩)).setCell ⟨w.heap.size + 1, 2, none⟩ (.bool false)).setCell ⟨w.heap.size + 1, 3, none⟩ (.slice none 0 0)).setCell ⟨w.heap.size + 1, 4, none⟩ (.bool false)).setCell ⟨w.heap.size + 1, 5, none⟩ (.string ⟨#[]⟩)).setCell ⟨w.heap.size + 1, 6, none⟩ (.int .u8 0)) := hb7
  have ha8 : Acts VV w.heap.size (((((((w2.setCell ⟨w.heap.size + 1, 0, none⟩ (.int .i64 0)).setCell ⟨w.heap.size + 1, 1, none⟩ (.string ⟨#[]⟩)).setCell ⟨w.heap.size + 1, 2, none⟩ (.bool false)).setCell ⟨w.heap.size + 1, 3, none⟩ (.slice none 0 0)).setCell ⟨w.heap.size + 1, 4, none⟩ (.bool false)).setCell ⟨w.heap.size + 1, 5, none⟩ (.string ⟨#[]⟩)).setCell ⟨w.heap.size + 1, 6, none⟩ (.int .u8 0)) Ac [axExec 24] vs := ha7
  clear hp7 hb7 hq7 ha7
  generalize (((((((w2.setCell ⟨w.heap.size + 1, 0, none⟩ (.int .i64 0)).setCell ⟨w.heap.size + 1, 1, none⟩ (.string ⟨#[]⟩)).setCell ⟨w.heap.size + 1, 2, none⟩ (.bool false)).setCell ⟨w.heap.size + 1, 3, none⟩ (.slice none 0 0)).setCell ⟨w.heap.size + 1, 4, none⟩ (.bool false)).setCell ⟨w.heap.size + 1, 5, none⟩ (.string ⟨#[]⟩)).setCell ⟨w.heap.size + 1, 6, none⟩ (.int .u8 0)) = W7 at hp8 hb8 ha8 ⊢
  obtain ⟨d0, d1, d2, d3, d4, d5, d6, _⟩ := hp8.cells
  simp only [sv0, st0] at d0 d1 d2 d3 d4 d5 d6
  rw [Exit.noGoto_ret]
  refine bodyPost_ret (v := .tuple #[.agg #[.int .i64 0, .string ⟨#[]⟩, .bool false, .slice none 0 0, .bool false, .string ⟨#[]⟩, .int .u8 0], .slice Ac 1 cA]) (by simp [results, Tryd.results58, go_sem, d0, d1, d2, d3, d4, d5, d6]) rfl ?_
  rw [HE.out]
  have hVV := HVV.out; subst hVV
  exact ⟨sv0, Ac, cA, vs, rfl, rfl, sv0_tx, ParOk.nil _ _ _, ha8, HC.out, hb8⟩
set_option maxRecDepth 100000 in
set_option maxHeartbeats 3200000 in
theorem step_26 (v : Sv) (r : Int) (w : World) (hv : v.Ok w) (hs : saneS v.s = true) (hr : r = 26) : Calls Tryd.prog 58 #[v.val, .int .i64 r] w (StRet v w (stepS v.s r).1 (stepS v.s r).2) := by
  obtain ⟨n1, n2⟩ := s_two w v sv0
  have hl := (saneS_iff v.s).1 hs
  have hi := hl.2.1
  have ht := hl.2.2.1
  clear hl
  obtain ⟨⟨a0, inter, over, l, o, text, kind⟩, ib, tb, A, cc⟩ := v
  simp only at hi ht
  subst hr
  have hf : stepS ⟨a0, inter, over, l, o, text, kind⟩ 26 = (st0, [axExec 26]) := by unfold stepS; rw [if_neg (by simp [hs]), if_pos (by omega)]
  have HE := Lib.hid hf
  have N1 := Lib.hid n1; have N2 := Lib.hid n2; have HV := Lib.hid hv
  have HOK : Hid (Sv.Ok ⟨⟨a0, inter, over, l, o, text, kind⟩, ib, tb, A, cc⟩ ((w.alloc (.cells #[.int .i64 a0, .string ib, .bool over, .slice A l.length cc, .bool o, .string tb, .int .u8 kind] 82)).alloc (.cells #[.int .i64 0, .string ⟨#[]⟩, .bool false, .slice none 0 0, .bool false, .string ⟨#[]⟩, .int .u8 0] 82))) := Lib.hid (hv.next (((Below.refl _ _).alloc (Nat.le_refl _) _).alloc (by simp) _))
  have HSN := Lib.hid hs
  clear hf n1 n2 hv hs
  show Calls Tryd.prog 58 #[.agg #[.int .i64 a0, .string ib, .bool over, .slice A l.length cc, .bool o, .string tb, .int .u8 kind], .int .i64 26] w _
  go_enter Tryd.func58, Tryd.ntmps58
  go_wp2
  go_step3
  go_wp2_with fail
  refine (sane6_any ⟨⟨a0, inter, over, l, o, text, kind⟩, ib, tb, A, cc⟩ _ HOK.out (by simp only; omega) (by simp only; omega)).mono ?_
  rintro e w1 ⟨rfl, hb⟩
  simp only [HSN.out]
  have hb' : Below w.heap.size w w1 := (((Below.refl _ _).alloc (Nat.le_refl _) _).alloc (by simp) _).trans (hb.mono (by simp; omega))
  have s1 := (N1.out.past hb).past ((Below.refl w1.heap.size w1).alloc (Nat.le_refl _) (.cells #[.int .i64 0, .string ⟨#[]⟩, .bool false, .slice none 0 0, .bool false, .string ⟨#[]⟩, .int .u8 0] 82))
  have s2 := (N2.out.past hb).past ((Below.refl w1.heap.size w1).alloc (Nat.le_refl _) (.cells #[.int .i64 0, .string ⟨#[]⟩, .bool false, .slice none 0 0, .bool false, .string ⟨#[]⟩, .int .u8 0] 82))
  have s3 : SAt (w1.alloc (.cells #[.int .i64 0, .string ⟨#[]⟩, .bool false, .slice none 0 0, .bool false, .string ⟨#[]⟩, .int .u8 0] 82)) w1.heap.size sv0 := heap_alloc_new w1 _
  obtain ⟨e0, e1, e2, e3, e4, e5, e6, _⟩ := (N1.out.past hb).cells
  simp only at e0 e1 e2 e3 e4 e5 e6
  have hz : w.heap.size + 1 < w1.heap.size := bk_lt (N2.out.past hb)
  have hz0 : w.heap.size < w1.heap.size := by omega
  have S1 := Lib.hid s1; have S2 := Lib.hid s2; have S3 := Lib.hid s3
  have P1 := Lib.hid (N1.out.past hb); have P2 := Lib.hid (N2.out.past hb); have PB := Lib.hid hb'
  have HB : Hid (Below w.heap.size w (w1.alloc (.cells #[.int .i64 0, .string ⟨#[]⟩, .bool false, .slice none 0 0, .bool false, .string ⟨#[]⟩, .int .u8 0] 82))) := Lib.hid (hb'.alloc (by omega) _)
  have HO2 := Lib.hid ((HOK.out.next hb).next ((Below.refl w1.heap.size w1).alloc (Nat.le_refl _) (.cells #[.int .i64 0, .string ⟨#[]⟩, .bool false, .slice none 0 0, .bool false, .string ⟨#[]⟩, .int .u8 0] 82)))
  clear hb hb' s1 s2 s3 N1 N2 HOK
  obtain ⟨VV, hVV⟩ : ∃ x : Sv, x = ⟨⟨a0, inter, over, l, o, text, kind⟩, ib, tb, A, cc⟩ := ⟨_, rfl⟩
  have HVV := Lib.hid hVV; clear hVV
  go_wp2_with fail
  refine (control_any VV 26 _ (by omega) (by omega)).mono ?_
  rintro e w2 ⟨Ac, cA, vs, rfl, hacts, hca, hb2⟩
  simp only [World.size_alloc] at hb2 hacts
  have hs := S2.out.past (hb2.mono (by simp))
  have HS := Lib.hid hs
  have HBL := Lib.hid (HB.out.trans (hb2.mono (by omega)))
  obtain ⟨q0, q1, q2, q3, q4, q5, q6, g0, g1, g2, g3, g4, g5, g6⟩ := hs.cells
  simp only [sv0, st0] at q0 q1 q2 q3 q4 q5 q6
  have HA := Lib.hid hacts; have HC := Lib.hid hca
  clear hs hb2 hacts hca
  go_wp2_with fail
  obtain ⟨hp7, hb7, hq7⟩ := st_put (v := VV) (v' := sv0) HS.out HBL.out (hi := w.heap.size + 2) (ParOk.nil _ _ _) (by omega) (by omega)
  have ha7 := (HA.out.put7 (w.heap.size + 1) (by omega) sv0).less (show w.heap.size ≤ _ by omega)
  have hp8 : SAt (((((((w2.setCell ⟨w.heap.size + 1, 0, none⟩ (.int .i64 0)).setCell ⟨w.heap.size + 1, 1, none⟩ (.string ⟨#[]⟩)).setCell ⟨w.heap.size + 1, 2, none⟩ (.bool false)).setCell ⟨w.heap.size + 1, 3, none⟩ (.slice none 0 0)).setCell ⟨w.heap.size + 1, 4, none⟩ (.bool false)).setCell ⟨w.heap.size + 1, 5, none⟩ (.string ⟨#[]⟩)).setCell ⟨w.heap.size + 1, 6, none⟩ (.int .u8 0)) (w.heap.size + 1) sv0 := hp7
  have hb8 : Below w.heap.size w (((((((w2.setCell ⟨w.heap.size + 1, 0, none⟩ (.int .i64 0)).setCell ⟨w.heap.size + 1, 1, none⟩ (.string ⟨#[]⟩)).setCell ⟨w.heap.size + 1, 2, none⟩ (.bool false)).setCell ⟨w.heap.size + 1, 3, none⟩ (.slice none 0 0)).setCell ⟨w.heap.size + 1, 4, none⟩ (.bool false)).setCell ⟨w.heap.size + 1, 5, none⟩ (.string ⟨#[]⟩)).setCell ⟨w.heap.size + 1, 6, none⟩ (.int .u8 0)) := hb7
  have ha8 : Acts VV w.heap.size (((((((w2.setCell ⟨w.heap.size + 1, 0, none⟩ (.int .i64 0)).setCell ⟨w.heap.size + 1, 1, none⟩ (.string ⟨#[]⟩)).setCell ⟨w.heap.size + 1, 2, none⟩ (.bool false)).setCell ⟨w.heap.size + 1, 3, none⟩ (.slice none 0 0)).setCell ⟨w.heap.size + 1, 4, none⟩ (.bool false)).setCell ⟨w.heap.size + 1, 5, none⟩ (.string ⟨#[]⟩)).setCell ⟨w.heap.size + 1, 6, none⟩ (.int .u8 0)) Ac [axExec 26] vs := ha7
  clear hp7 hb7 hq7 ha7
  generalize (((((((w2.setCell ⟨w.heap.size + 1, 0, none⟩ (.int .i64 0)).setCell ⟨w.heap.size + 1, 1, none⟩ (.string ⟨#[]⟩)).setCell ⟨w.heap.size + 1, 2, none⟩ (.bool false)).setCell ⟨w.heap.size + 1, 3, none⟩ (.slice none 0 0)).setCell ⟨w.heap.size + 1, 4, none⟩ (.bool false)).setCell ⟨w.heap.size + 1, 5, none⟩ (.string ⟨#[]⟩)).setCell ⟨w.heap.size + 1, 6, none⟩ (.int .u8 0)) = W7 at hp8 hb8 ha8 ⊢
  obtain ⟨d0, d1, d2, d3, d4, d5, d6, _⟩ := hp8.cells
  simp only [sv0, st0] at d0 d1 d2 d3 d4 d5 d6
  rw [Exit.noGoto_ret]
  refine bodyPost_ret (v := .tuple #[.agg #[.int .i64 0, .string ⟨#[]⟩, .bool false, .slice none 0 0, .bool false, .string ⟨#[]⟩, .int .u8 0], .slice Ac 1 cA]) (by simp [results, Tryd.results58, go_sem, d0, d1, d2, d3, d4, d5, d6]) rfl ?_
  rw [HE.out]
  have hVV := HVV.out; subst hVV
  exact ⟨sv0, Ac, cA, vs, rfl, rfl, sv0_tx, ParOk.nil _ _ _, ha8, HC.out, hb8⟩
set_option maxRecDepth 100000 in
set_option maxHeartbeats 3200000 in
theorem step_del (v : Sv) (r : Int) (w : World) (hv : v.Ok w) (hs : saneS v.s = true) (hst : isStr v.s = false) (hr : r = 127) : Calls Tryd.prog 58 #[v.val, .int .i64 r] w (StRet v w (stepS v.s r).1 (stepS v.s r).2) := by
  obtain ⟨n1, n2⟩ := s_two w v sv0
  have hl := (saneS_iff v.s).1 hs
  have hi := hl.2.1
  have ht := hl.2.2.1
  clear hl
  obtain ⟨⟨a0, inter, over, l, o, text, kind⟩, ib, tb, A, cc⟩ := v
  simp only at hi ht
  have hna : a0 ≠ 7 ∧ a0 ≠ 8 ∧ a0 ≠ 9 := by
    refine ⟨fun e => ?_, fun e => ?_, fun e => ?_⟩ <;> simp [isStr, e] at hst
  have fa7 : (a0 == 7) = false := beq_eq_false_iff_ne.2 hna.1
  have HIS := Lib.hid hst
  subst hr
  have hf : stepS ⟨a0, inter, over, l, o, text, kind⟩ 127 = (⟨a0, inter, over, l, o, text, kind⟩, []) := by
    unfold stepS; rw [if_neg (by simp [hs]), if_neg (by omega), if_neg (by omega), if_neg (by omega), if_neg (by simp [hna.1]), if_neg (by simp [hst]), if_neg (by omega), if_pos (by omega)]
  clear hna hst
  have HE := Lib.hid hf
  have N1 := Lib.hid n1; have N2 := Lib.hid n2; have HV := Lib.hid hv
  have HOK : Hid (Sv.Ok ⟨⟨a0, inter, over, l, o, text, kind⟩, ib, tb, A, cc⟩ ((w.alloc (.cells #[.int .i64 a0, .string ib, .bool over, .slice A l.length cc, .bool o, .string tb, .int .u8 kind] 82)).alloc (.cells #[.int .i64 0, .string ⟨#[]⟩, .bool false, .slice none 0 0, .bool false, .string ⟨#[]⟩, .int .u8 0] 82))) := Lib.hid (hv.next (((Below.refl _ _).alloc (Nat.le_refl _) _).alloc (by simp) _))
  have HSN := Lib.hid hs
  clear hf n1 n2 hv hs
  show Calls Tryd.prog 58 #[.agg #[.int .i64 a0, .string ib, .bool over, .slice A l.length cc, .bool o, .string tb, .int .u8 kind], .int .i64 127] w _
  go_enter Tryd.func58, Tryd.ntmps58
  go_wp2
  go_step3
  go_wp2_with fail
  refine (sane6_any ⟨⟨a0, inter, over, l, o, text, kind⟩, ib, tb, A, cc⟩ _ HOK.out (by simp only; omega) (by simp only; omega)).mono ?_
  rintro e w1 ⟨rfl, hb⟩
  simp only [HSN.out]
  have hb' : Below w.heap.size w w1 := (((Below.refl _ _).alloc (Nat.le_refl _) _).alloc (by simp) _).trans (hb.mono (by simp; omega))
  have s1 := (N1.out.past hb).past ((Below.refl w1.heap.size w1).alloc (Nat.le_refl _) (.cells #[.int .i64 0, .string ⟨#[]⟩, .bool false, .slice none 0 0, .bool false, .string ⟨#[]⟩, .int .u8 0] 82))
  have s2 := (N2.out.past hb).past ((Below.refl w1.heap.size w1).alloc (Nat.le_refl _) (.cells #[.int .i64 0, .string ⟨#[]⟩, .bool false, .slice none 0 0, .bool false, .string ⟨#[]⟩, .int .u8 0] 82))
  have s3 : SAt (w1.alloc (.cells #[.int .i64 0, .string ⟨#[]⟩, .bool false, .slice none 0 0, .bool false, .string ⟨#[]⟩, .int .u8 0] 82)) w1.heap.size sv0 := heap_alloc_new w1 _
  obtain ⟨e0, e1, e2, e3, e4, e5, e6, _⟩ := (N1.out.past hb).cells
  simp only at e0 e1 e2 e3 e4 e5 e6
  have hz : w.heap.size + 1 < w1.heap.size := bk_lt (N2.out.past hb)
  have hz0 : w.heap.size < w1.heap.size := by omega
  have S1 := Lib.hid s1; have S2 := Lib.hid s2; have S3 := Lib.hid s3
  have P1 := Lib.hid (N1.out.past hb); have P2 := Lib.hid (N2.out.past hb); have PB := Lib.hid hb'
  have HB : Hid (Below w.heap.size w (w1.alloc (.cells #[.int .i64 0, .string ⟨#[]⟩, .bool false, .slice none 0 0, .bool false, .string ⟨#[]⟩, .int .u8 0] 82))) := Lib.hid (hb'.alloc (by omega) _)
  have HO2 := Lib.hid ((HOK.out.next hb).next ((Below.refl w1.heap.size w1).alloc (Nat.le_refl _) (.cells #[.int .i64 0, .string ⟨#[]⟩, .bool false, .slice none 0 0, .bool false, .string ⟨#[]⟩, .int .u8 0] 82)))
  clear hb hb' s1 s2 s3 N1 N2 HOK
  obtain ⟨VV, hVV⟩ : ∃ x : Sv, x = ⟨⟨a0, inter, over, l, o, text, kind⟩, ib, tb, A, cc⟩ := ⟨_, rfl⟩
  have HVV := Lib.hid hVV; clear hVV
  go_wp2_with fail
  refine (isstr_any ⟨⟨a0, inter, over, l, o, text, kind⟩, ib, tb, A, cc⟩ _).mono ?_
  rintro e w2 ⟨rfl, hbi⟩
  simp only [HIS.out]
  have t1 := S1.out.past hbi; have t2 := S2.out.past hbi; have t3 := S3.out.past hbi
  have T1 := Lib.hid t1; have T2 := Lib.hid t2
  have HB2 := Lib.hid (HB.out.trans (hbi.mono (by simp; omega)))
  have HO3 := Lib.hid (HO2.out.next hbi)
  have hz2 : w.heap.size + 1 < w2.heap.size := bk_lt t2
  obtain ⟨i0, i1, i2, i3, i4, i5, i6, _⟩ := t1.cells
  simp only at i0 i1 i2 i3 i4 i5 i6
  obtain ⟨q0, q1, q2, q3, q4, q5, q6, g0, g1, g2, g3, g4, g5, g6⟩ := t2.cells
  simp only [sv0, st0] at q0 q1 q2 q3 q4 q5 q6
  clear hbi t1 t2 t3 e0 e1 e2 e3 e4 e5 e6
  have HS := T2; have HBL := HB2
  go_wp2_with fail
  obtain ⟨hp7, hb7, hq7⟩ := st_put (v := VV) (v' := ⟨⟨a0, inter, over, l, o, text, kind⟩, ib, tb, A, cc⟩) HS.out HBL.out (hi := w.heap.size + 2) (by rw [HVV.out]; exact ParOk.same ⟨⟨a0, inter, over, l, o, text, kind⟩, ib, tb, A, cc⟩ _ _) (by omega) (by omega)
  simp only [World.put7] at hp7 hb7 hq7
  generalize (((((((w2.setCell ⟨w.heap.size + 1, 0, none⟩ (.int .i64 a0)).setCell ⟨w.heap.size + 1, 1, none⟩ (.string ib)).setCell ⟨w.heap.size + 1, 2, none⟩ (.bool over)).setCell ⟨w.heap.size + 1, 3, none⟩ (.slice A l.length cc)).setCell ⟨w.heap.size + 1, 4, none⟩ (.bool o)).setCell ⟨w.heap.size + 1, 5, none⟩ (.string tb)).setCell ⟨w.heap.size + 1, 6, none⟩ (.int .u8 kind)) = W7 at hp7 hb7 hq7 ⊢
  obtain ⟨d0, d1, d2, d3, d4, d5, d6, _⟩ := hp7.cells
  simp only at d0 d1 d2 d3 d4 d5 d6
  rw [Exit.noGoto_ret]
  refine bodyPost_ret (v := .tuple #[.agg #[.int .i64 a0, .string ib, .bool over, .slice A l.length cc, .bool o, .string tb, .int .u8 kind], .slice none 0 0]) (by simp [results, Tryd.results58, go_sem, d0, d1, d2, d3, d4, d5, d6]) rfl ?_
  rw [HE.out]
  have hVV := HVV.out; subst hVV
  exact ⟨⟨⟨a0, inter, over, l, o, text, kind⟩, ib, tb, A, cc⟩, none, 0, [], rfl, rfl, HV.out.tx, hq7, Acts.nil _ _ _ _, Nat.le_refl _, hb7⟩
set_option maxRecDepth 100000 in
set_option maxHeartbeats 3200000 in
theorem step_big (v : Sv) (r : Int) (w : World) (hv : v.Ok w) (hs : saneS v.s = true) (hst : isStr v.s = false) (hr : 159 < r) : Calls Tryd.prog 58 #[v.val, .int .i64 r] w (StRet v w (stepS v.s r).1 (stepS v.s r).2) := by
  obtain ⟨n1, n2⟩ := s_two w v sv0
  have hl := (saneS_iff v.s).1 hs
  have hi := hl.2.1
  have ht := hl.2.2.1
  clear hl
  obtain ⟨⟨a0, inter, over, l, o, text, kind⟩, ib, tb, A, cc⟩ := v
  simp only at hi ht
  have hna : a0 ≠ 7 ∧ a0 ≠ 8 ∧ a0 ≠ 9 := by
    refine ⟨fun e => ?_, fun e => ?_, fun e => ?_⟩ <;> simp [isStr, e] at hst
  have fa7 : (a0 == 7) = false := beq_eq_false_iff_ne.2 hna.1
  have HIS := Lib.hid hst
  have f24 : (r == 24) = false := beq_eq_false_iff_ne.2 (by omega)
  have f26 : (r == 26) = false := beq_eq_false_iff_ne.2 (by omega)
  have f27 : (r == 27) = false := beq_eq_false_iff_ne.2 (by omega)
  have f127 : (r == 127) = false := beq_eq_false_iff_ne.2 (by omega)
  have hf : stepS ⟨a0, inter, over, l, o, text, kind⟩ r = (st0, [axPrint r]) := by
    unfold stepS; rw [if_neg (by simp [hs]), if_neg (by omega), if_neg (by omega), if_neg (by omega), if_neg (by simp [hna.1]), if_neg (by simp [hst]), if_neg (by omega), if_neg (by omega), if_pos (by omega)]
  clear hna hst
  have HE := Lib.hid hf
  have N1 := Lib.hid n1; have N2 := Lib.hid n2; have HV := Lib.hid hv
  have HOK : Hid (Sv.Ok ⟨⟨a0, inter, over, l, o, text, kind⟩, ib, tb, A, cc⟩ ((w.alloc (.cells #[.int .i64 a0, .string ib, .bool over, .slice A l.length cc, .bool o, .string tb, .int .u8 kind] 82)).alloc (.cells #[.int .i64 0, .string ⟨#[]⟩, .bool false, .slice none 0 0, .bool false, .string ⟨#[]⟩, .int .u8 0] 82))) := Lib.hid (hv.next (((Below.refl _ _).alloc (Nat.le_refl _) _).alloc (by simp) _))
  have HSN := Lib.hid hs
  clear hf n1 n2 hv hs
  show Calls Tryd.prog 58 #[.agg #[.int .i64 a0, .string ib, .bool over, .slice A l.length cc, .bool o, .string tb, .int .u8 kind], .int .i64 r] w _
  go_enter Tryd.func58, Tryd.ntmps58
  go_wp2
  go_step3
  go_wp2_with fail
  refine (sane6_any ⟨⟨a0, inter, over, l, o, text, kind⟩, ib, tb, A, cc⟩ _ HOK.out (by simp only; omega) (by simp only; omega)).mono ?_
  rintro e w1 ⟨rfl, hb⟩
  simp only [HSN.out]
  have hb' : Below w.heap.size w w1 := (((Below.refl _ _).alloc (Nat.le_refl _) _).alloc (by simp) _).trans (hb.mono (by simp; omega))
  have s1 := (N1.out.past hb).past ((Below.refl w1.heap.size w1).alloc (Nat.le_refl _) (.cells #[.int .i64 0, .string ⟨#[]⟩, .bool false, .slice none 0 0, .bool false, .string ⟨#[]⟩, .int .u8 0] 82))
  have s2 := (N2.out.past hb).past ((Below.refl w1.heap.size w1).alloc (Nat.le_refl _) (.cells #[.int .i64 0, .string ⟨#[]⟩, .bool false, .slice none 0 0, .bool false, .string ⟨#[]⟩, .int .u8 0] 82))
  have s3 : SAt (w1.alloc (.cells #[.int .i64 0, .string ⟨#[]⟩, .bool false, .slice none 0 0, .bool false, .string ⟨#[]⟩, .int .u8 0] 82)) w1.heap.size sv0 := heap_alloc_new w1 _
  obtain ⟨e0, e1, e2, e3, e4, e5, e6, _⟩ := (N1.out.past hb).cells
  simp only at e0 e1 e2 e3 e4 e5 e6
  have hz : w.heap.size + 1 < w1.heap.size := bk_lt (N2.out.past hb)
  have hz0 : w.heap.size < w1.heap.size := by omega
  have S1 := Lib.hid s1; have S2 := Lib.hid s2; have S3 := Lib.hid s3
  have P1 := Lib.hid (N1.out.past hb); have P2 := Lib.hid (N2.out.past hb); have PB := Lib.hid hb'
  have HB : Hid (Below w.heap.size w (w1.alloc (.cells #[.int .i64 0, .string ⟨#[]⟩, .bool false, .slice none 0 0, .bool false, .string ⟨#[]⟩, .int .u8 0] 82))) := Lib.hid (hb'.alloc (by omega) _)
  have HO2 := Lib.hid ((HOK.out.next hb).next ((Below.refl w1.heap.size w1).alloc (Nat.le_refl _) (.cells #[.int .i64 0, .string ⟨#[]⟩, .bool false, .slice none 0 0, .bool false, .string ⟨#[]⟩, .int .u8 0] 82)))
  clear hb hb' s1 s2 s3 N1 N2 HOK
  obtain ⟨VV, hVV⟩ : ∃ x : Sv, x = ⟨⟨a0, inter, over, l, o, text, kind⟩, ib, tb, A, cc⟩ := ⟨_, rfl⟩
  have HVV := Lib.hid hVV; clear hVV
  go_wp2_with fail
  refine (isstr_any ⟨⟨a0, inter, over, l, o, text, kind⟩, ib, tb, A, cc⟩ _).mono ?_
  rintro e w2 ⟨rfl, hbi⟩
  simp only [HIS.out]
  have t1 := S1.out.past hbi; have t2 := S2.out.past hbi; have t3 := S3.out.past hbi
  have T1 := Lib.hid t1; have T2 := Lib.hid t2
  have HB2 := Lib.hid (HB.out.trans (hbi.mono (by simp; omega)))
  have HO3 := Lib.hid (HO2.out.next hbi)
  have hz2 : w.heap.size + 1 < w2.heap.size := bk_lt t2
  obtain ⟨i0, i1, i2, i3, i4, i5, i6, _⟩ := t1.cells
  simp only at i0 i1 i2 i3 i4 i5 i6
  obtain ⟨q0, q1, q2, q3, q4, q5, q6, g0, g1, g2, g3, g4, g5, g6⟩ := t2.cells
  simp only [sv0, st0] at q0 q1 q2 q3 q4 q5 q6
  clear hbi t1 t2 t3 e0 e1 e2 e3 e4 e5 e6
  go_wp2_with fail
  refine (letter6_any VV r _).mono ?_
  rintro e w3 ⟨Ac, cA, vs, rfl, hacts, hca, hb3⟩
  have hs := T2.out.past hb3
  have HS := Lib.hid hs
  have HBL := Lib.hid (HB2.out.trans (hb3.mono (by omega)))
  clear q0 q1 q2 q3 q4 q5 q6 g0 g1 g2 g3 g4 g5 g6 i0 i1 i2 i3 i4 i5 i6
  obtain ⟨q0, q1, q2, q3, q4, q5, q6, g0, g1, g2, g3, g4, g5, g6⟩ := hs.cells
  simp only [sv0, st0] at q0 q1 q2 q3 q4 q5 q6
  have HA := Lib.hid hacts; have HC := Lib.hid hca
  clear hs hb3 hacts hca
  go_wp2_with fail
  obtain ⟨hp7, hb7, hq7⟩ := st_put (v := VV) (v' := sv0) HS.out HBL.out (hi := w.heap.size + 2) (ParOk.nil _ _ _) (by omega) (by omega)
  have ha7 := (HA.out.put7 (w.heap.size + 1) (by omega) sv0).less (show w.heap.size ≤ _ by omega)
  have hp8 : SAt (((((((w3.setCell ⟨w.heap.size + 1, 0, none⟩ (.int .i64 0)).setCell ⟨w.heap.size + 1, 1, none⟩ (.string ⟨#[]⟩)).setCell ⟨w.heap.size + 1, 2, none⟩ (.bool false)).setCell ⟨w.heap.size + 1, 3, none⟩ (.slice none 0 0)).setCell ⟨w.heap.size + 1, 4, none⟩ (.bool false)).setCell ⟨w.heap.size + 1, 5, none⟩ (.string ⟨#[]⟩)).setCell ⟨w.heap.size + 1, 6, none⟩ (.int .u8 0)) (w.heap.size + 1) sv0 := hp7
  have hb8 : Below w.heap.size w (((((((w3.setCell ⟨w.heap.size + 1, 0, none⟩ (.int .i64 0)).setCell ⟨w.heap.size + 1, 1, none⟩ (.string ⟨#[]⟩)).setCell ⟨w.heap.size + 1, 2, none⟩ (.bool false)).setCell ⟨w.heap.size + 1, 3, none⟩ (.slice none 0 0)).setCell ⟨w.heap.size + 1, 4, none⟩ (.bool false)).setCell ⟨w.heap.size + 1, 5, none⟩ (.string ⟨#[]⟩)).setCell ⟨w.heap.size + 1, 6, none⟩ (.int .u8 0)) := hb7
  have ha8 : Acts VV w.heap.size (((((((w3.setCell ⟨w.heap.size + 1, 0, none⟩ (.int .i64 0)).setCell ⟨w.heap.size + 1, 1, none⟩ (.string ⟨#[]⟩)).setCell ⟨w.heap.size + 1, 2, none⟩ (.bool false)).setCell ⟨w.heap.size + 1, 3, none⟩ (.slice none 0 0)).setCell ⟨w.heap.size + 1, 4, none⟩ (.bool false)).setCell ⟨w.heap.size + 1, 5, none⟩ (.string ⟨#[]⟩)).setCell ⟨w.heap.size + 1, 6, none⟩ (.int .u8 0)) Ac [axPrint r] vs := ha7
  clear hp7 hb7 hq7 ha7
  generalize (((((((w3.setCell ⟨w.heap.size + 1, 0, none⟩ (.int .i64 0)).setCell ⟨w.heap.size + 1, 1, none⟩ (.string ⟨#[]⟩)).setCell ⟨w.heap.size + 1, 2, none⟩ (.bool false)).setCell ⟨w.heap.size + 1, 3, none⟩ (.slice none 0 0)).setCell ⟨w.heap.size + 1, 4, none⟩ (.bool false)).setCell ⟨w.heap.size + 1, 5, none⟩ (.string ⟨#[]⟩)).setCell ⟨w.heap.size + 1, 6, none⟩ (.int .u8 0)) = W7 at hp8 hb8 ha8 ⊢
  obtain ⟨d0, d1, d2, d3, d4, d5, d6, _⟩ := hp8.cells
  simp only [sv0, st0] at d0 d1 d2 d3 d4 d5 d6
  rw [Exit.noGoto_ret]
  refine bodyPost_ret (v := .tuple #[.agg #[.int .i64 0, .string ⟨#[]⟩, .bool false, .slice none 0 0, .bool false, .string ⟨#[]⟩, .int .u8 0], .slice Ac 1 cA]) (by simp [results, Tryd.results58, go_sem, d0, d1, d2, d3, d4, d5, d6]) rfl ?_
  rw [HE.out]
  have hVV := HVV.out; subst hVV
  exact ⟨sv0, Ac, cA, vs, rfl, rfl, sv0_tx, ParOk.nil _ _ _, ha8, HC.out, hb8⟩
set_option maxRecDepth 100000 in
set_option maxHeartbeats 3200000 in
theorem step_neg (v : Sv) (r : Int) (w : World) (hv : v.Ok w) (hs : saneS v.s = true) (hst : isStr v.s = false) (hr : r < 0) : Calls Tryd.prog 58 #[v.val, .int .i64 r] w (StRet v w (stepS v.s r).1 (stepS v.s r).2) := by
  obtain ⟨n1, n2⟩ := s_two w v sv0
  have hl := (saneS_iff v.s).1 hs
  have hi := hl.2.1
  have ht := hl.2.2.1
  clear hl
  obtain ⟨⟨a0, inter, over, l, o, text, kind⟩, ib, tb, A, cc⟩ := v
  simp only at hi ht
  have hna : a0 ≠ 7 ∧ a0 ≠ 8 ∧ a0 ≠ 9 := by
    refine ⟨fun e => ?_, fun e => ?_, fun e => ?_⟩ <;> simp [isStr, e] at hst
  have fa7 : (a0 == 7) = false := beq_eq_false_iff_ne.2 hna.1
  have HIS := Lib.hid hst
  have f24 : (r == 24) = false := beq_eq_false_iff_ne.2 (by omega)
  have f26 : (r == 26) = false := beq_eq_false_iff_ne.2 (by omega)
  have f27 : (r == 27) = false := beq_eq_false_iff_ne.2 (by omega)
  have f127 : (r == 127) = false := beq_eq_false_iff_ne.2 (by omega)
  have hf : stepS ⟨a0, inter, over, l, o, text, kind⟩ r = (st0, [axPrint r]) := by
    unfold stepS; rw [if_neg (by simp [hs]), if_neg (by omega), if_neg (by omega), if_neg (by omega), if_neg (by simp [hna.1]), if_neg (by simp [hst]), if_neg (by omega), if_neg (by omega), if_pos (by omega)]
  clear hna hst
  have HE := Lib.hid hf
  have N1 := Lib.hid n1; have N2 := Lib.hid n2; have HV := Lib.hid hv
  have HOK : Hid (Sv.Ok ⟨⟨a0, inter, over, l, o, text, kind⟩, ib, tb, A, cc⟩ ((w.alloc (.cells #[.int .i64 a0, .string ib, .bool over, .slice A l.length cc, .bool o, .string tb, .int .u8 kind] 82)).alloc (.cells #[.int .i64 0, .string ⟨#[]⟩, .bool false, .slice none 0 0, .bool false, .string ⟨#[]⟩, .int .u8 0] 82))) := Lib.hid (hv.next (((Below.refl _ _).alloc (Nat.le_refl _) _).alloc (by simp) _))
  have HSN := Lib.hid hs
  clear hf n1 n2 hv hs
  show Calls Tryd.prog 58 #[.agg #[.int .i64 a0, .string ib, .bool over, .slice A l.length cc, .bool o, .string tb, .int .u8 kind], .int .i64 r] w _
  go_enter Tryd.func58, Tryd.ntmps58
  go_wp2
  go_step3
  go_wp2_with fail
  refine (sane6_any ⟨⟨a0, inter, over, l, o, text, kind⟩, ib, tb, A, cc⟩ _ HOK.out (by simp only; omega) (by simp only; omega)).mono ?_
  rintro e w1 ⟨rfl, hb⟩
  simp only [HSN.out]
  have hb' : Below w.heap.size w w1 := (((Below.refl _ _).alloc (Nat.le_refl _) _).alloc (by simp) _).trans (hb.mono (by simp; omega))
  have s1 := (N1.out.past hb).past ((Below.refl w1.heap.size w1).alloc (Nat.le_refl _) (.cells #[.int .i64 0, .string ⟨#[]⟩, .bool false, .slice none 0 0, .bool false, .string ⟨#[]⟩, .int .u8 0] 82))
  have s2 := (N2.out.past hb).past ((Below.refl w1.heap.size w1).alloc (Nat.le_refl _) (.cells #[.int .i64 0, .string ⟨#[]⟩, .bool false, .slice none 0 0, .bool false, .string ⟨#[]⟩, .int .u8 0] 82))
  have s3 : SAt (w1.alloc (.cells #[.int .i64 0, .string ⟨#[]⟩, .bool false, .slice none 0 0, .bool false, .string ⟨#[]⟩, .int .u8 0] 82)) w1.heap.size sv0 := heap_alloc_new w1 _
  obtain ⟨e0, e1, e2, e3, e4, e5, e6, _⟩ := (N1.out.past hb).cells
  simp only at e0 e1 e2 e3 e4 e5 e6
  have hz : w.heap.size + 1 < w1.heap.size := bk_lt (N2.out.past hb)
  have hz0 : w.heap.size < w1.heap.size := by omega
  have S1 := Lib.hid s1; have S2 := Lib.hid s2; have S3 := Lib.hid s3
  have P1 := Lib.hid (N1.out.past hb); have P2 := Lib.hid (N2.out.past hb); have PB := Lib.hid hb'
  have HB : Hid (Below w.heap.size w (w1.alloc (.cells #[.int .i64 0, .string ⟨#[]⟩, .bool false, .slice none 0 0, .bool false, .string ⟨#[]⟩, .int .u8 0] 82))) := Lib.hid (hb'.alloc (by omega) _)
  have HO2 := Lib.hid ((HOK.out.next hb).next ((Below.refl w1.heap.size w1).alloc (Nat.le_refl _) (.cells #[.int .i64 0, .string ⟨#[]⟩, .bool false, .slice none 0 0, .bool false, .string ⟨#[]⟩, .int .u8 0] 82)))
  clear hb hb' s1 s2 s3 N1 N2 HOK
  obtain ⟨VV, hVV⟩ : ∃ x : Sv, x = ⟨⟨a0, inter, over, l, o, text, kind⟩, ib, tb, A, cc⟩ := ⟨_, rfl⟩
  have HVV := Lib.hid hVV; clear hVV
  go_wp2_with fail
  refine (isstr_any ⟨⟨a0, inter, over, l, o, text, kind⟩, ib, tb, A, cc⟩ _).mono ?_
  rintro e w2 ⟨rfl, hbi⟩
  simp only [HIS.out]
  have t1 := S1.out.past hbi; have t2 := S2.out.past hbi; have t3 := S3.out.past hbi
  have T1 := Lib.hid t1; have T2 := Lib.hid t2
  have HB2 := Lib.hid (HB.out.trans (hbi.mono (by simp; omega)))
  have HO3 := Lib.hid (HO2.out.next hbi)
  have hz2 : w.heap.size + 1 < w2.heap.size := bk_lt t2
  obtain ⟨i0, i1, i2, i3, i4, i5, i6, _⟩ := t1.cells
  simp only at i0 i1 i2 i3 i4 i5 i6
  obtain ⟨q0, q1, q2, q3, q4, q5, q6, g0, g1, g2, g3, g4, g5, g6⟩ := t2.cells
  simp only [sv0, st0] at q0 q1 q2 q3 q4 q5 q6
  clear hbi t1 t2 t3 e0 e1 e2 e3 e4 e5 e6
  go_wp2_with fail
  refine (letter6_any VV r _).mono ?_
  rintro e w3 ⟨Ac, cA, vs, rfl, hacts, hca, hb3⟩
  have hs := T2.out.past hb3
  have HS := Lib.hid hs
  have HBL := Lib.hid (HB2.out.trans (hb3.mono (by omega)))
  clear q0 q1 q2 q3 q4 q5 q6 g0 g1 g2 g3 g4 g5 g6 i0 i1 i2 i3 i4 i5 i6
  obtain ⟨q0, q1, q2, q3, q4, q5, q6, g0, g1, g2, g3, g4, g5, g6⟩ := hs.cells
  simp only [sv0, st0] at q0 q1 q2 q3 q4 q5 q6
  have HA := Lib.hid hacts; have HC := Lib.hid hca
  clear hs hb3 hacts hca
  go_wp2_with fail
  obtain ⟨hp7, hb7, hq7⟩ := st_put (v := VV) (v' := sv0) HS.out HBL.out (hi := w.heap.size + 2) (ParOk.nil _ _ _) (by omega) (by omega)
  have ha7 := (HA.out.put7 (w.heap.size + 1) (by omega) sv0).less (show w.heap.size ≤ _ by omega)
  have hp8 : SAt (((((((w3.setCell ⟨w.heap.size + 1, 0, none⟩ (.int .i64 0)).setCell ⟨w.heap.size + 1, 1, none⟩ (.string ⟨#[]⟩)).setCell ⟨w.heap.size + 1, 2, none⟩ (.bool false)).setCell ⟨w.heap.size + 1, 3, none⟩ (.slice none 0 0)).setCell ⟨w.heap.size + 1, 4, none⟩ (.bool false)).setCell ⟨w.heap.size + 1, 5, none⟩ (.string ⟨#[]⟩)).setCell ⟨w.heap.size + 1, 6, none⟩ (.int .u8 0)) (w.heap.size + 1) sv0 := hp7
  have hb8 : Below w.heap.size w (((((((w3.setCell ⟨w.heap.size + 1, 0, none⟩ (.int .i64 0)).setCell ⟨w.heap.size + 1, 1, none⟩ (.string ⟨#[]⟩)).setCell ⟨w.heap.size + 1, 2, none⟩ (.bool false)).setCell ⟨w.heap.size + 1, 3, none⟩ (.slice none 0 0)).setCell ⟨w.heap.size + 1, 4, none⟩ (.bool false)).setCell ⟨w.heap.size + 1, 5, none⟩ (.string ⟨#[]⟩)).setCell ⟨w.heap.size + 1, 6, none⟩ (.int .u8 0)) := hb7
  have ha8 : Acts VV w.heap.size (((((((w3.setCell ⟨w.heap.size + 1, 0, none⟩ (.int .i64 0)).setCell ⟨w.heap.size + 1, 1, none⟩ (.string ⟨#[]⟩)).setCell ⟨w.heap.size + 1, 2, none⟩ (.bool false)).setCell ⟨w.heap.size + 1, 3, none⟩ (.slice none 0 0)).setCell ⟨w.heap.size + 1, 4, none⟩ (.bool false)).setCell ⟨w.heap.size + 1, 5, none⟩ (.string ⟨#[]⟩)).setCell ⟨w.heap.size + 1, 6, none⟩ (.int .u8 0)) Ac [axPrint r] vs := ha7
  clear hp7 hb7 hq7 ha7
  generalize (((((((w3.setCell ⟨w.heap.size + 1, 0, none⟩ (.int .i64 0)).setCell ⟨w.heap.size + 1, 1, none⟩ (.string ⟨#[]⟩)).setCell ⟨w.heap.size + 1, 2, none⟩ (.bool false)).setCell ⟨w.heap.size + 1, 3, none⟩ (.slice none 0 0)).setCell ⟨w.heap.size + 1, 4, none⟩ (.bool false)).setCell ⟨w.heap.size + 1, 5, none⟩ (.string ⟨#[]⟩)).setCell ⟨w.heap.size + 1, 6, none⟩ (.int .u8 0)) = W7 at hp8 hb8 ha8 ⊢
  obtain ⟨d0, d1, d2, d3, d4, d5, d6, _⟩ := hp8.cells
  simp only [sv0, st0] at d0 d1 d2 d3 d4 d5 d6
  rw [Exit.noGoto_ret]
  refine bodyPost_ret (v := .tuple #[.agg #[.int .i64 0, .string ⟨#[]⟩, .bool false, .slice none 0 0, .bool false, .string ⟨#[]⟩, .int .u8 0], .slice Ac 1 cA]) (by simp [results, Tryd.results58, go_sem, d0, d1, d2, d3, d4, d5, d6]) rfl ?_
  rw [HE.out]
  have hVV := HVV.out; subst hVV
  exact ⟨sv0, Ac, cA, vs, rfl, rfl, sv0_tx, ParOk.nil _ _ _, ha8, HC.out, hb8⟩
set_option maxRecDepth 100000 in
set_option maxHeartbeats 3200000 in
theorem step_graphic (v : Sv) (r : Int) (w : World) (hv : v.Ok w) (hs : saneS v.s = true) (hst : isStr v.s = false) (h0 : 32 ≤ r) (h1 : r ≤ 126) : Calls Tryd.prog 58 #[v.val, .int .i64 r] w (StRet v w (stepS v.s r).1 (stepS v.s r).2) := by
  obtain ⟨n1, n2⟩ := s_two w v sv0
  have hl := (saneS_iff v.s).1 hs
  have hi := hl.2.1
  have ht := hl.2.2.1
  clear hl
  obtain ⟨⟨a0, inter, over, l, o, text, kind⟩, ib, tb, A, cc⟩ := v
  simp only at hi ht
  have hna : a0 ≠ 7 ∧ a0 ≠ 8 ∧ a0 ≠ 9 := by
    refine ⟨fun e => ?_, fun e => ?_, fun e => ?_⟩ <;> simp [isStr, e] at hst
  have fa7 : (a0 == 7) = false := beq_eq_false_iff_ne.2 hna.1
  have HIS := Lib.hid hst
  have f24 : (r == 24) = false := beq_eq_false_iff_ne.2 (by omega)
  have f26 : (r == 26) = false := beq_eq_false_iff_ne.2 (by omega)
  have f27 : (r == 27) = false := beq_eq_false_iff_ne.2 (by omega)
  have f127 : (r == 127) = false := beq_eq_false_iff_ne.2 (by omega)
  have hf : stepS ⟨a0, inter, over, l, o, text, kind⟩ r = graphicF ⟨a0, inter, over, l, o, text, kind⟩ r := by
    unfold stepS; rw [if_neg (by simp [hs]), if_neg (by omega), if_neg (by omega), if_neg (by omega), if_neg (by simp [hna.1]), if_neg (by simp [hst]), if_neg (by omega), if_neg (by omega), if_neg (by omega)]
  clear hna hst
  have HE := Lib.hid hf
  have N1 := Lib.hid n1; have N2 := Lib.hid n2; have HV := Lib.hid hv
  have HOK : Hid (Sv.Ok ⟨⟨a0, inter, over, l, o, text, kind⟩, ib, tb, A, cc⟩ ((w.alloc (.cells #[.int .i64 a0, .string ib, .bool over, .slice A l.length cc, .bool o, .string tb, .int .u8 kind] 82)).alloc (.cells #[.int .i64 0, .string ⟨#[]⟩, .bool false, .slice none 0 0, .bool false, .string ⟨#[]⟩, .int .u8 0] 82))) := Lib.hid (hv.next (((Below.refl _ _).alloc (Nat.le_refl _) _).alloc (by simp) _))
  have HSN := Lib.hid hs
  clear hf n1 n2 hv hs
  show Calls Tryd.prog 58 #[.agg #[.int .i64 a0, .string ib, .bool over, .slice A l.length cc, .bool o, .string tb, .int .u8 kind], .int .i64 r] w _
  go_enter Tryd.func58, Tryd.ntmps58
  go_wp2
  go_step3
  go_wp2_with fail
  refine (sane6_any ⟨⟨a0, inter, over, l, o, text, kind⟩, ib, tb, A, cc⟩ _ HOK.out (by simp only; omega) (by simp only; omega)).mono ?_
  rintro e w1 ⟨rfl, hb⟩
  simp only [HSN.out]
  have hb' : Below w.heap.size w w1 := (((Below.refl _ _).alloc (Nat.le_refl _) _).alloc (by simp) _).trans (hb.mono (by simp; omega))
  have s1 := (N1.out.past hb).past ((Below.refl w1.heap.size w1).alloc (Nat.le_refl _) (.cells #[.int .i64 0, .string ⟨#[]⟩, .bool false, .slice none 0 0, .bool false, .string ⟨#[]⟩, .int .u8 0] 82))
  have s2 := (N2.out.past hb).past ((Below.refl w1.heap.size w1).alloc (Nat.le_refl _) (.cells #[.int .i64 0, .string ⟨#[]⟩, .bool false, .slice none 0 0, .bool false, .string ⟨#[]⟩, .int .u8 0] 82))
  have s3 : SAt (w1.alloc (.cells #[.int .i64 0, .string ⟨#[]⟩, .bool false, .slice none 0 0, .bool false, .string ⟨#[]⟩, .int .u8 0] 82)) w1.heap.size sv0 := heap_alloc_new w1 _
  obtain ⟨e0, e1, e2, e3, e4, e5, e6, _⟩ := (N1.out.past hb).cells
  simp only at e0 e1 e2 e3 e4 e5 e6
  have hz : w.heap.size + 1 < w1.heap.size := bk_lt (N2.out.past hb)
  have hz0 : w.heap.size < w1.heap.size := by omega
  have S1 := Lib.hid s1; have S2 := Lib.hid s2; have S3 := Lib.hid s3
  have P1 := Lib.hid (N1.out.past hb); have P2 := Lib.hid (N2.out.past hb); have PB := Lib.hid hb'
  have HB : Hid (Below w.heap.size w (w1.alloc (.cells #[.int .i64 0, .string ⟨#[]⟩, .bool false, .slice none 0 0, .bool false, .string ⟨#[]⟩, .int .u8 0] 82))) := Lib.hid (hb'.alloc (by omega) _)
  have HO2 := Lib.hid ((HOK.out.next hb).next ((Below.refl w1.heap.size w1).alloc (Nat.le_refl _) (.cells #[.int .i64 0, .string ⟨#[]⟩, .bool false, .slice none 0 0, .bool false, .string ⟨#[]⟩, .int .u8 0] 82)))
  clear hb hb' s1 s2 s3 N1 N2 HOK
  obtain ⟨VV, hVV⟩ : ∃ x : Sv, x = ⟨⟨a0, inter, over, l, o, text, kind⟩, ib, tb, A, cc⟩ := ⟨_, rfl⟩
  have HVV := Lib.hid hVV; clear hVV
  go_wp2_with fail
  refine (isstr_any ⟨⟨a0, inter, over, l, o, text, kind⟩, ib, tb, A, cc⟩ _).mono ?_
  rintro e w2 ⟨rfl, hbi⟩
  simp only [HIS.out]
  have t1 := S1.out.past hbi; have t2 := S2.out.past hbi; have t3 := S3.out.past hbi
  have T1 := Lib.hid t1; have T2 := Lib.hid t2
  have HB2 := Lib.hid (HB.out.trans (hbi.mono (by simp; omega)))
  have HO3 := Lib.hid (HO2.out.next hbi)
  have hz2 : w.heap.size + 1 < w2.heap.size := bk_lt t2
  obtain ⟨i0, i1, i2, i3, i4, i5, i6, _⟩ := t1.cells
  simp only at i0 i1 i2 i3 i4 i5 i6
  obtain ⟨q0, q1, q2, q3, q4, q5, q6, g0, g1, g2, g3, g4, g5, g6⟩ := t2.cells
  simp only [sv0, st0] at q0 q1 q2 q3 q4 q5 q6
  clear hbi t1 t2 t3 e0 e1 e2 e3 e4 e5 e6
  go_wp2_with fail
  refine (graphic_any ⟨⟨a0, inter, over, l, o, text, kind⟩, ib, tb, A, cc⟩ r _ HO3.out (by omega) (by omega)).mono ?_
  intro e w3 hret
  obtain ⟨a1, inter1, ov1, l1, o1, text1, k1, ib1, tb1, A1, c1, Ac, cA, vs, he1, rfl, htx, hpar, hacts, hca, hb3⟩ := hret.open
  clear hret
  rw [← HVV.out] at hpar hacts
  have hs := T2.out.past hb3
  have HS := Lib.hid hs
  have HBL := Lib.hid (HB2.out.trans (hb3.mono (by omega)))
  clear q0 q1 q2 q3 q4 q5 q6 g0 g1 g2 g3 g4 g5 g6 i0 i1 i2 i3 i4 i5 i6
  obtain ⟨q0, q1, q2, q3, q4, q5, q6, g0, g1, g2, g3, g4, g5, g6⟩ := hs.cells
  simp only [sv0, st0] at q0 q1 q2 q3 q4 q5 q6
  have HA := Lib.hid hacts; have HC := Lib.hid hca; have HP := Lib.hid hpar; have HTX := Lib.hid htx; have HE1 := Lib.hid he1
  clear hs hb3 hacts hca hpar htx he1
  go_wp2_with fail
  obtain ⟨hp7, hb7, hq7⟩ := st_put (v := VV) (v' := ⟨⟨a1, inter1, ov1, l1, o1, text1, k1⟩, ib1, tb1, A1, c1⟩) HS.out HBL.out HP.out (by omega) (by omega)
  have ha7 := (HA.out.put7 (w.heap.size + 1) (by omega) ⟨⟨a1, inter1, ov1, l1, o1, text1, k1⟩, ib1, tb1, A1, c1⟩).less (show w.heap.size ≤ _ by omega)
  simp only [World.put7] at hp7 hb7 hq7 ha7
  generalize (((((((w3.setCell ⟨w.heap.size + 1, 0, none⟩ (.int .i64 a1)).setCell ⟨w.heap.size + 1, 1, none⟩ (.string ib1)).setCell ⟨w.heap.size + 1, 2, none⟩ (.bool ov1)).setCell ⟨w.heap.size + 1, 3, none⟩ (.slice A1 l1.length c1)).setCell ⟨w.heap.size + 1, 4, none⟩ (.bool o1)).setCell ⟨w.heap.size + 1, 5, none⟩ (.string tb1)).setCell ⟨w.heap.size + 1, 6, none⟩ (.int .u8 k1)) = W7 at hp7 hb7 hq7 ha7 ⊢
  obtain ⟨d0, d1, d2, d3, d4, d5, d6, _⟩ := hp7.cells
  simp only at d0 d1 d2 d3 d4 d5 d6
  rw [Exit.noGoto_ret]
  refine bodyPost_ret (v := .tuple #[.agg #[.int .i64 a1, .string ib1, .bool ov1, .slice A1 l1.length c1, .bool o1, .string tb1, .int .u8 k1], .slice Ac (graphicF ⟨a0, inter, over, l, o, text, kind⟩ r).2.length cA]) (by simp [results, Tryd.results58, go_sem, d0, d1, d2, d3, d4, d5, d6]) rfl ?_
  rw [HE.out]
  have hVV := HVV.out; subst hVV
  exact ⟨⟨⟨a1, inter1, ov1, l1, o1, text1, k1⟩, ib1, tb1, A1, c1⟩, Ac, cA, vs, HE1.out, rfl, HTX.out, hq7, ha7, HC.out, hb7⟩
set_option maxRecDepth 100000 in
set_option maxHeartbeats 3200000 in
theorem step_str7 (v : Sv) (r : Int) (w : World) (hv : v.Ok w) (hs : saneS v.s = true) (ha : v.s.a = 7) (hr7 : r ≠ 7) (hn : r ≠ 24 ∧ r ≠ 26 ∧ r ≠ 27) (hh : ¬ (128 ≤ r ∧ r ≤ 159)) : Calls Tryd.prog 58 #[v.val, .int .i64 r] w (StRet v w (stepS v.s r).1 (stepS v.s r).2) := by
  obtain ⟨n1, n2⟩ := s_two w v sv0
  have hl := (saneS_iff v.s).1 hs
  have hi := hl.2.1
  have ht := hl.2.2.1
  clear hl
  obtain ⟨⟨a0, inter, over, l, o, text, kind⟩, ib, tb, A, cc⟩ := v
  simp only at hi ht
  simp only at ha
  subst ha
  have f7 : (r == 7) = false := beq_eq_false_iff_ne.2 hr7
  have hst : isStr ⟨7, inter, over, l, o, text, kind⟩ = true := rfl
  have f24 : (r == 24) = false := beq_eq_false_iff_ne.2 (by omega)
  have f26 : (r == 26) = false := beq_eq_false_iff_ne.2 (by omega)
  have f27 : (r == 27) = false := beq_eq_false_iff_ne.2 (by omega)
  have hf : stepS ⟨7, inter, over, l, o, text, kind⟩ r = (addF ⟨7, inter, over, l, o, text, kind⟩ r, []) := by
    unfold stepS; rw [if_neg (by simp [hs]), if_neg (by omega), if_neg (by omega), if_neg (by omega), if_neg (by simp; omega), if_pos hst]
  have HIS := Lib.hid hst
  clear hst
  have HE := Lib.hid hf
  have N1 := Lib.hid n1; have N2 := Lib.hid n2; have HV := Lib.hid hv
  have HOK : Hid (Sv.Ok ⟨⟨7, inter, over, l, o, text, kind⟩, ib, tb, A, cc⟩ ((w.alloc (.cells #[.int .i64 7, .string ib, .bool over, .slice A l.length cc, .bool o, .string tb, .int .u8 kind] 82)).alloc (.cells #[.int .i64 0, .string ⟨#[]⟩, .bool false, .slice none 0 0, .bool false, .string ⟨#[]⟩, .int .u8 0] 82))) := Lib.hid (hv.next (((Below.refl _ _).alloc (Nat.le_refl _) _).alloc (by simp) _))
  have HSN := Lib.hid hs
  clear hf n1 n2 hv hs
  show Calls Tryd.prog 58 #[.agg #[.int .i64 7, .string ib, .bool over, .slice A l.length cc, .bool o, .string tb, .int .u8 kind], .int .i64 r] w _
  go_enter Tryd.func58, Tryd.ntmps58
  go_wp2
  go_step3
  go_wp2_with fail
  refine (sane6_any ⟨⟨7, inter, over, l, o, text, kind⟩, ib, tb, A, cc⟩ _ HOK.out (by simp only; omega) (by simp only; omega)).mono ?_
  rintro e w1 ⟨rfl, hb⟩
  simp only [HSN.out]
  have hb' : Below w.heap.size w w1 := (((Below.refl _ _).alloc (Nat.le_refl _) _).alloc (by simp) _).trans (hb.mono (by simp; omega))
  have s1 := (N1.out.past hb).past ((Below.refl w1.heap.size w1).alloc (Nat.le_refl _) (.cells #[.int .i64 0, .string ⟨#[]⟩, .bool false, .slice none 0 0, .bool false, .string ⟨#[]⟩, .int .u8 0] 82))
  have s2 := (N2.out.past hb).past ((Below.refl w1.heap.size w1).alloc (Nat.le_refl _) (.cells #[.int .i64 0, .string ⟨#[]⟩, .bool false, .slice none 0 0, .bool false, .string ⟨#[]⟩, .int .u8 0] 82))
  have s3 : SAt (w1.alloc (.cells #[.int .i64 0, .string ⟨#[]⟩, .bool false, .slice none 0 0, .bool false, .string ⟨#[]⟩, .int .u8 0] 82)) w1.heap.size sv0 := heap_alloc_new w1 _
  obtain ⟨e0, e1, e2, e3, e4, e5, e6, _⟩ := (N1.out.past hb).cells
  simp only at e0 e1 e2 e3 e4 e5 e6
  have hz : w.heap.size + 1 < w1.heap.size := bk_lt (N2.out.past hb)
  have hz0 : w.heap.size < w1.heap.size := by omega
  have S1 := Lib.hid s1; have S2 := Lib.hid s2; have S3 := Lib.hid s3
  have P1 := Lib.hid (N1.out.past hb); have P2 := Lib.hid (N2.out.past hb); have PB := Lib.hid hb'
  have HB : Hid (Below w.heap.size w (w1.alloc (.cells #[.int .i64 0, .string ⟨#[]⟩, .bool false, .slice none 0 0, .bool false, .string ⟨#[]⟩, .int .u8 0] 82))) := Lib.hid (hb'.alloc (by omega) _)
  have HO2 := Lib.hid ((HOK.out.next hb).next ((Below.refl w1.heap.size w1).alloc (Nat.le_refl _) (.cells #[.int .i64 0, .string ⟨#[]⟩, .bool false, .slice none 0 0, .bool false, .string ⟨#[]⟩, .int .u8 0] 82)))
  clear hb hb' s1 s2 s3 N1 N2 HOK
  obtain ⟨VV, hVV⟩ : ∃ x : Sv, x = ⟨⟨7, inter, over, l, o, text, kind⟩, ib, tb, A, cc⟩ := ⟨_, rfl⟩
  have HVV := Lib.hid hVV; clear hVV
  by_cases hup : 128 ≤ r
  all_goals
    first
      | (have d1 : decide (r ≤ 159) = false := by simp; omega)
      | skip
    go_wp2_with fail
    refine (isstr_any ⟨⟨7, inter, over, l, o, text, kind⟩, ib, tb, A, cc⟩ _).mono ?_
    rintro e w2 ⟨rfl, hbi⟩
    simp only [HIS.out]
    have t1 := S1.out.past hbi; have t2 := S2.out.past hbi
    have T2 := Lib.hid t2
    have HB2 := Lib.hid (HB.out.trans (hbi.mono (by simp; omega)))
    have hz2 : w.heap.size + 1 < w2.heap.size := bk_lt t2
    obtain ⟨i0, i1, i2, i3, i4, i5, i6, _⟩ := t1.cells
    simp only at i0 i1 i2 i3 i4 i5 i6
    clear hbi t1 t2 e0 e1 e2 e3 e4 e5 e6
    go_wp2_with fail
    refine (add_any ⟨⟨7, inter, over, l, o, text, kind⟩, ib, tb, A, cc⟩ r _ HV.out.tx ht).mono ?_
    intro e w3 hret
    obtain ⟨a1, inter1, ov1, l1, o1, text1, k1, ib1, tb1, A1, c1, he1, rfl, htx, hpar, hb3⟩ := hret.open
    clear hret
    rw [← HVV.out] at hpar
    have hs := T2.out.past hb3
    have HS := Lib.hid hs
    have HBL := Lib.hid (HB2.out.trans (hb3.mono (by omega)))
    clear i0 i1 i2 i3 i4 i5 i6
    obtain ⟨q0, q1, q2, q3, q4, q5, q6, g0, g1, g2, g3, g4, g5, g6⟩ := hs.cells
    simp only [sv0, st0] at q0 q1 q2 q3 q4 q5 q6
    have HP := Lib.hid hpar; have HTX := Lib.hid htx; have HE1 := Lib.hid he1
    clear hs hb3 hpar htx he1
    go_wp2_with fail
    obtain ⟨hp7, hb7, hq7⟩ := st_put (v := VV) (v' := ⟨⟨a1, inter1, ov1, l1, o1, text1, k1⟩, ib1, tb1, A1, c1⟩) HS.out HBL.out HP.out (by omega) (by omega)
    simp only [World.put7] at hp7 hb7 hq7
    generalize (((((((w3.setCell ⟨w.heap.size + 1, 0, none⟩ (.int .i64 a1)).setCell ⟨w.heap.size + 1, 1, none⟩ (.string ib1)).setCell ⟨w.heap.size + 1, 2, none⟩ (.bool ov1)).setCell ⟨w.heap.size + 1, 3, none⟩ (.slice A1 l1.length c1)).setCell ⟨w.heap.size + 1, 4, none⟩ (.bool o1)).setCell ⟨w.heap.size + 1, 5, none⟩ (.string tb1)).setCell ⟨w.heap.size + 1, 6, none⟩ (.int .u8 k1)) = W7 at hp7 hb7 hq7 ⊢
    obtain ⟨d0, d1, d2, d3, d4, d5, d6, _⟩ := hp7.cells
    simp only at d0 d1 d2 d3 d4 d5 d6
    rw [Exit.noGoto_ret]
    refine bodyPost_ret (v := .tuple #[.agg #[.int .i64 a1, .string ib1, .bool ov1, .slice A1 l1.length c1, .bool o1, .string tb1, .int .u8 k1], .slice none 0 0]) (by simp [results, Tryd.results58, go_sem, d0, d1, d2, d3, d4, d5, d6]) rfl ?_
    rw [HE.out]
    have hVV := HVV.out; subst hVV
    exact ⟨⟨⟨a1, inter1, ov1, l1, o1, text1, k1⟩, ib1, tb1, A1, c1⟩, none, 0, [], HE1.out, rfl, HTX.out, hq7, Acts.nil _ _ _ _, Nat.le_refl _, hb7⟩
set_option maxRecDepth 100000 in
set_option maxHeartbeats 3200000 in
theorem step_str (v : Sv) (r : Int) (w : World) (hv : v.Ok w) (hs : saneS v.s = true) (ha : v.s.a ≠ 7) (hst : isStr v.s = true) (hn : r ≠ 24 ∧ r ≠ 26 ∧ r ≠ 27) (hh : ¬ (128 ≤ r ∧ r ≤ 159)) : Calls Tryd.prog 58 #[v.val, .int .i64 r] w (StRet v w (stepS v.s r).1 (stepS v.s r).2) := by
  obtain ⟨n1, n2⟩ := s_two w v sv0
  have hl := (saneS_iff v.s).1 hs
  have hi := hl.2.1
  have ht := hl.2.2.1
  clear hl
  obtain ⟨⟨a0, inter, over, l, o, text, kind⟩, ib, tb, A, cc⟩ := v
  simp only at hi ht
  simp only at ha
  have fa7 : (a0 == 7) = false := beq_eq_false_iff_ne.2 ha
  have f24 : (r == 24) = false := beq_eq_false_iff_ne.2 (by omega)
  have f26 : (r == 26) = false := beq_eq_false_iff_ne.2 (by omega)
  have f27 : (r == 27) = false := beq_eq_false_iff_ne.2 (by omega)
  have hf : stepS ⟨a0, inter, over, l, o, text, kind⟩ r = (addF ⟨a0, inter, over, l, o, text, kind⟩ r, []) := by
    unfold stepS; rw [if_neg (by simp [hs]), if_neg (by omega), if_neg (by omega), if_neg (by omega), if_neg (by simp; omega), if_pos hst]
  have HIS := Lib.hid hst
  clear hst
  have HE := Lib.hid hf
  have N1 := Lib.hid n1; have N2 := Lib.hid n2; have HV := Lib.hid hv
  have HOK : Hid (Sv.Ok ⟨⟨a0, inter, over, l, o, text, kind⟩, ib, tb, A, cc⟩ ((w.alloc (.cells #[.int .i64 a0, .string ib, .bool over, .slice A l.length cc, .bool o, .string tb, .int .u8 kind] 82)).alloc (.cells #[.int .i64 0, .string ⟨#[]⟩, .bool false, .slice none 0 0, .bool false, .string ⟨#[]⟩, .int .u8 0] 82))) := Lib.hid (hv.next (((Below.refl _ _).alloc (Nat.le_refl _) _).alloc (by simp) _))
  have HSN := Lib.hid hs
  clear hf n1 n2 hv hs
  show Calls Tryd.prog 58 #[.agg #[.int .i64 a0, .string ib, .bool over, .slice A l.length cc, .bool o, .string tb, .int .u8 kind], .int .i64 r] w _
  go_enter Tryd.func58, Tryd.ntmps58
  go_wp2
  go_step3
  go_wp2_with fail
  refine (sane6_any ⟨⟨a0, inter, over, l, o, text, kind⟩, ib, tb, A, cc⟩ _ HOK.out (by simp only; omega) (by simp only; omega)).mono ?_
  rintro e w1 ⟨rfl, hb⟩
  simp only [HSN.out]
  have hb' : Below w.heap.size w w1 := (((Below.refl _ _).alloc (Nat.le_refl _) _).alloc (by simp) _).trans (hb.mono (by simp; omega))
  have s1 := (N1.out.past hb).past ((Below.refl w1.heap.size w1).alloc (Nat.le_refl _) (.cells #[.int .i64 0, .string ⟨#[]⟩, .bool false, .slice none 0 0, .bool false, .string ⟨#[]⟩, .int .u8 0] 82))
  have s2 := (N2.out.past hb).past ((Below.refl w1.heap.size w1).alloc (Nat.le_refl _) (.cells #[.int .i64 0, .string ⟨#[]⟩, .bool false, .slice none 0 0, .bool false, .string ⟨#[]⟩, .int .u8 0] 82))
  have s3 : SAt (w1.alloc (.cells #[.int .i64 0, .string ⟨#[]⟩, .bool false, .slice none 0 0, .bool false, .string ⟨#[]⟩, .int .u8 0] 82)) w1.heap.size sv0 := heap_alloc_new w1 _
  obtain ⟨e0, e1, e2, e3, e4, e5, e6, _⟩ := (N1.out.past hb).cells
  simp only at e0 e1 e2 e3 e4 e5 e6
  have hz : w.heap.size + 1 < w1.heap.size := bk_lt (N2.out.past hb)
  have hz0 : w.heap.size < w1.heap.size := by omega
  have S1 := Lib.hid s1; have S2 := Lib.hid s2; have S3 := Lib.hid s3
  have P1 := Lib.hid (N1.out.past hb); have P2 := Lib.hid (N2.out.past hb); have PB := Lib.hid hb'
  have HB : Hid (Below w.heap.size w (w1.alloc (.cells #[.int .i64 0, .string ⟨#[]⟩, .bool false, .slice none 0 0, .bool false, .string ⟨#[]⟩, .int .u8 0] 82))) := Lib.hid (hb'.alloc (by omega) _)
  have HO2 := Lib.hid ((HOK.out.next hb).next ((Below.refl w1.heap.size w1).alloc (Nat.le_refl _) (.cells #[.int .i64 0, .string ⟨#[]⟩, .bool false, .slice none 0 0, .bool false, .string ⟨#[]⟩, .int .u8 0] 82)))
  clear hb hb' s1 s2 s3 N1 N2 HOK
  obtain ⟨VV, hVV⟩ : ∃ x : Sv, x = ⟨⟨a0, inter, over, l, o, text, kind⟩, ib, tb, A, cc⟩ := ⟨_, rfl⟩
  have HVV := Lib.hid hVV; clear hVV
  by_cases hup : 128 ≤ r
  all_goals
    first
      | (have d1 : decide (r ≤ 159) = false := by simp; omega)
      | skip
    go_wp2_with fail
    refine (isstr_any ⟨⟨a0, inter, over, l, o, text, kind⟩, ib, tb, A, cc⟩ _).mono ?_
    rintro e w2 ⟨rfl, hbi⟩
    simp only [HIS.out]
    have t1 := S1.out.past hbi; have t2 := S2.out.past hbi
    have T2 := Lib.hid t2
    have HB2 := Lib.hid (HB.out.trans (hbi.mono (by simp; omega)))
    have hz2 : w.heap.size + 1 < w2.heap.size := bk_lt t2
    obtain ⟨i0, i1, i2, i3, i4, i5, i6, _⟩ := t1.cells
    simp only at i0 i1 i2 i3 i4 i5 i6
    clear hbi t1 t2 e0 e1 e2 e3 e4 e5 e6
    go_wp2_with fail
    refine (add_any ⟨⟨a0, inter, over, l, o, text, kind⟩, ib, tb, A, cc⟩ r _ HV.out.tx ht).mono ?_
    intro e w3 hret
    obtain ⟨a1, inter1, ov1, l1, o1, text1, k1, ib1, tb1, A1, c1, he1, rfl, htx, hpar, hb3⟩ := hret.open
    clear hret
    rw [← HVV.out] at hpar
    have hs := T2.out.past hb3
    have HS := Lib.hid hs
    have HBL := Lib.hid (HB2.out.trans (hb3.mono (by omega)))
    clear i0 i1 i2 i3 i4 i5 i6
    obtain ⟨q0, q1, q2, q3, q4, q5, q6, g0, g1, g2, g3, g4, g5, g6⟩ := hs.cells
    simp only [sv0, st0] at q0 q1 q2 q3 q4 q5 q6
    have HP := Lib.hid hpar; have HTX := Lib.hid htx; have HE1 := Lib.hid he1
    clear hs hb3 hpar htx he1
    go_wp2_with fail
    obtain ⟨hp7, hb7, hq7⟩ := st_put (v := VV) (v' := ⟨⟨a1, inter1, ov1, l1, o1, text1, k1⟩, ib1, tb1, A1, c1⟩) HS.out HBL.out HP.out (by omega) (by omega)
    simp only [World.put7] at hp7 hb7 hq7
    generalize (((((((w3.setCell ⟨w.heap.size + 1, 0, none⟩ (.int .i64 a1)).setCell ⟨w.heap.size + 1, 1, none⟩ (.string ib1)).setCell ⟨w.heap.size + 1, 2, none⟩ (.bool ov1)).setCell ⟨w.heap.size + 1, 3, none⟩ (.slice A1 l1.length c1)).setCell ⟨w.heap.size + 1, 4, none⟩ (.bool o1)).setCell ⟨w.heap.size + 1, 5, none⟩ (.string tb1)).setCell ⟨w.heap.size + 1, 6, none⟩ (.int .u8 k1)) = W7 at hp7 hb7 hq7 ⊢
    obtain ⟨d0, d1, d2, d3, d4, d5, d6, _⟩ := hp7.cells
    simp only at d0 d1 d2 d3 d4 d5 d6
    rw [Exit.noGoto_ret]
    refine bodyPost_ret (v := .tuple #[.agg #[.int .i64 a1, .string ib1, .bool ov1, .slice A1 l1.length c1, .bool o1, .string tb1, .int .u8 k1], .slice none 0 0]) (by simp [results, Tryd.results58, go_sem, d0, d1, d2, d3, d4, d5, d6]) rfl ?_
    rw [HE.out]
    have hVV := HVV.out; subst hVV
    exact ⟨⟨⟨a1, inter1, ov1, l1, o1, text1, k1⟩, ib1, tb1, A1, c1⟩, none, 0, [], HE1.out, rfl, HTX.out, hq7, Acts.nil _ _ _ _, Nat.le_refl _, hb7⟩
end Go.Proofs.YtcempbgbdlmjfaaDoor
namespace Go.Proofs.YtcempbgbdlmjfaaDoor
open Go.RowKit

set_option maxRecDepth 100000 in
set_option maxHeartbeats 3200000 in
theorem step_low (v : Sv) (r : Int) (w : World) (hv : v.Ok w) (hs : saneS v.s = true) (hst : isStr v.s = false) (h0 : 0 ≤ r) (h1 : r ≤ 31) (hn : r ≠ 24 ∧ r ≠ 26 ∧ r ≠ 27) : Calls Tryd.prog 58 #[v.val, .int .i64 r] w (StRet v w (stepS v.s r).1 (stepS v.s r).2) := by
  obtain ⟨n1, n2⟩ := s_two w v sv0
  have hl := (saneS_iff v.s).1 hs
  have hi := hl.2.1
  have ht := hl.2.2.1
  clear hl
  obtain ⟨⟨a0, inter, over, l, o, text, kind⟩, ib, tb, A, cc⟩ := v
  simp only at hi ht
  have hna : a0 ≠ 7 ∧ a0 ≠ 8 ∧ a0 ≠ 9 := by
    refine ⟨fun e => ?_, fun e => ?_, fun e => ?_⟩ <;> simp [isStr, e] at hst
  have fa7 : (a0 == 7) = false := beq_eq_false_iff_ne.2 hna.1
  have HIS := Lib.hid hst
  have f24 : (r == 24) = false := beq_eq_false_iff_ne.2 (by omega)
  have f26 : (r == 26) = false := beq_eq_false_iff_ne.2 (by omega)
  have f27 : (r == 27) = false := beq_eq_false_iff_ne.2 (by omega)
  have hf : stepS ⟨a0, inter, over, l, o, text, kind⟩ r = (⟨a0, inter, over, l, o, text, kind⟩, [axExec r]) := by
    unfold stepS; rw [if_neg (by simp [hs]), if_neg (by omega), if_neg (by omega), if_neg (by omega), if_neg (by simp [hna.1]), if_neg (by simp [hst]), if_pos (by omega)]
  clear hna hst
  have HE := Lib.hid hf
  have N1 := Lib.hid n1; have N2 := Lib.hid n2; have HV := Lib.hid hv
  have HOK : Hid (Sv.Ok ⟨⟨a0, inter, over, l, o, text, kind⟩, ib, tb, A, cc⟩ ((w.alloc (.cells #[.int .i64 a0, .string ib, .bool over, .slice A l.length cc, .bool o, .string tb, .int .u8 kind] 82)).alloc (.cells #[.int .i64 0, .string ⟨#[]⟩, .bool false, .slice none 0 0, .bool false, .string ⟨#[]⟩, .int .u8 0] 82))) := Lib.hid (hv.next (((Below.refl _ _).alloc (Nat.le_refl _) _).alloc (by simp) _))
  have HSN := Lib.hid hs
  clear hf n1 n2 hv hs
  show Calls Tryd.prog 58 #[.agg #[.int .i64 a0, .string ib, .bool over, .slice A l.length cc, .bool o, .string tb, .int .u8 kind], .int .i64 r] w _
  go_enter Tryd.func58, Tryd.ntmps58
  go_wp2
  go_step3
  go_wp2_with fail
  refine (sane6_any ⟨⟨a0, inter, over, l, o, text, kind⟩, ib, tb, A, cc⟩ _ HOK.out (by simp only; omega) (by simp only; omega)).mono ?_
  rintro e w1 ⟨rfl, hb⟩
  simp only [HSN.out]
  have hb' : Below w.heap.size w w1 := (((Below.refl _ _).alloc (Nat.le_refl _) _).alloc (by simp) _).trans (hb.mono (by simp; omega))
  have s1 := (N1.out.past hb).past ((Below.refl w1.heap.size w1).alloc (Nat.le_refl _) (.cells #[.int .i64 0, .string ⟨#[]⟩, .bool false, .slice none 0 0, .bool false, .string ⟨#[]⟩, .int .u8 0] 82))
  have s2 := (N2.out.past hb).past ((Below.refl w1.heap.size w1).alloc (Nat.le_refl _) (.cells #[.int .i64 0, .string ⟨#[]⟩, .bool false, .slice none 0 0, .bool false, .string ⟨#[]⟩, .int .u8 0] 82))
  have s3 : SAt (w1.alloc (.cells #[.int .i64 0, .string ⟨#[]⟩, .bool false, .slice none 0 0, .bool false, .string ⟨#[]⟩, .int .u8 0] 82)) w1.heap.size sv0 := heap_alloc_new w1 _
  obtain ⟨e0, e1, e2, e3, e4, e5, e6, _⟩ := (N1.out.past hb).cells
  simp only at e0 e1 e2 e3 e4 e5 e6
  have hz : w.heap.size + 1 < w1.heap.size := bk_lt (N2.out.past hb)
  have hz0 : w.heap.size < w1.heap.size := by omega
  have S1 := Lib.hid s1; have S2 := Lib.hid s2; have S3 := Lib.hid s3
  have P1 := Lib.hid (N1.out.past hb); have P2 := Lib.hid (N2.out.past hb); have PB := Lib.hid hb'
  have HB : Hid (Below w.heap.size w (w1.alloc (.cells #[.int .i64 0, .string ⟨#[]⟩, .bool false, .slice none 0 0, .bool false, .string ⟨#[]⟩, .int .u8 0] 82))) := Lib.hid (hb'.alloc (by omega) _)
  have HO2 := Lib.hid ((HOK.out.next hb).next ((Below.refl w1.heap.size w1).alloc (Nat.le_refl _) (.cells #[.int .i64 0, .string ⟨#[]⟩, .bool false, .slice none 0 0, .bool false, .string ⟨#[]⟩, .int .u8 0] 82)))
  clear hb hb' s1 s2 s3 N1 N2 HOK
  obtain ⟨VV, hVV⟩ : ∃ x : Sv, x = ⟨⟨a0, inter, over, l, o, text, kind⟩, ib, tb, A, cc⟩ := ⟨_, rfl⟩
  have HVV := Lib.hid hVV; clear hVV
  go_wp2_with fail
  refine (isstr_any ⟨⟨a0, inter, over, l, o, text, kind⟩, ib, tb, A, cc⟩ _).mono ?_
  rintro e w2 ⟨rfl, hbi⟩
  simp only [HIS.out]
  have t1 := S1.out.past hbi; have t2 := S2.out.past hbi; have t3 := S3.out.past hbi
  have T1 := Lib.hid t1; have T2 := Lib.hid t2
  have HB2 := Lib.hid (HB.out.trans (hbi.mono (by simp; omega)))
  have HO3 := Lib.hid (HO2.out.next hbi)
  have hz2 : w.heap.size + 1 < w2.heap.size := bk_lt t2
  obtain ⟨i0, i1, i2, i3, i4, i5, i6, _⟩ := t1.cells
  simp only at i0 i1 i2 i3 i4 i5 i6
  obtain ⟨q0, q1, q2, q3, q4, q5, q6, g0, g1, g2, g3, g4, g5, g6⟩ := t2.cells
  simp only [sv0, st0] at q0 q1 q2 q3 q4 q5 q6
  clear hbi t1 t2 t3 e0 e1 e2 e3 e4 e5 e6
  go_wp2_with fail
  go_upto_region 15 with (fail)
  go_region_with (go_at_call 84; refine (control_any VV r _ (by omega) (by omega)).mono ?_; rintro e w3 ⟨Ac, cA, vs, rfl, hacts, hca, hb3⟩; (try (have hs3 := SAt.past (w := w2.drew) T2.out hb3; obtain ⟨k0, k1, k2, k3, k4, k5, k6, l0, l1, l2, l3, l4, l5, l6⟩ := hs3.cells; simp only [sv0, st0] at k0 k1 k2 k3 k4 k5 k6; have HS3 := Lib.hid hs3; clear hs3)); (try (have hs4 := SAt.past (w := w2.drew) T1.out hb3; obtain ⟨u0, u1, u2, u3, u4, u5, u6, _⟩ := hs4.cells; simp only at u0 u1 u2 u3 u4 u5 u6; have HS4 := Lib.hid hs4; clear hs4)); have HA := Lib.hid hacts; have HC := Lib.hid hca; have HB3 := Lib.hid hb3; clear hacts hca hb3)
  all_goals go_wp2_with fail
  all_goals
    have hdr : w2.drew.heap.size = w2.heap.size := rfl
    have HS := HS3
    have HBL := Lib.hid (HB2.out.drew.trans (HB3.out.mono (show w.heap.size ≤ w2.heap.size by omega)))

    obtain ⟨hp7, hb7, hq7⟩ := st_put (v := VV) (v' := ⟨⟨a0, inter, over, l, o, text, kind⟩, ib, tb, A, cc⟩) HS.out HBL.out (hi := w.heap.size + 2) (by rw [HVV.out]; exact ParOk.same ⟨⟨a0, inter, over, l, o, text, kind⟩, ib, tb, A, cc⟩ _ _) (by omega) (by omega)
    have ha7 := (HA.out.put7 (w.heap.size + 1) (by omega) ⟨⟨a0, inter, over, l, o, text, kind⟩, ib, tb, A, cc⟩).less (show w.heap.size ≤ _ by omega)
    simp only [World.put7] at hp7 hb7 hq7 ha7
    generalize (((((((w3.setCell ⟨w.heap.size + 1, 0, none⟩ (.int .i64 a0)).setCell ⟨w.heap.size + 1, 1, none⟩ (.string ib)).setCell ⟨w.heap.size + 1, 2, none⟩ (.bool over)).setCell ⟨w.heap.size + 1, 3, none⟩ (.slice A l.length cc)).setCell ⟨w.heap.size + 1, 4, none⟩ (.bool o)).setCell ⟨w.heap.size + 1, 5, none⟩ (.string tb)).setCell ⟨w.heap.size + 1, 6, none⟩ (.int .u8 kind)) = W7 at hp7 hb7 hq7 ha7 ⊢
    obtain ⟨d0, d1, d2, d3, d4, d5, d6, _⟩ := hp7.cells
    simp only at d0 d1 d2 d3 d4 d5 d6
    rw [Exit.noGoto_ret]
    refine bodyPost_ret (v := .tuple #[.agg #[.int .i64 a0, .string ib, .bool over, .slice A l.length cc, .bool o, .string tb, .int .u8 kind], .slice Ac 1 cA]) (by simp [results, Tryd.results58, go_sem, d0, d1, d2, d3, d4, d5, d6]) rfl ?_
    rw [HE.out]
    have hVV := HVV.out; subst hVV
    exact ⟨⟨⟨a0, inter, over, l, o, text, kind⟩, ib, tb, A, cc⟩, Ac, cA, vs, rfl, rfl, HV.out.tx, hq7, ha7, HC.out, hb7⟩
end Go.Proofs.YtcempbgbdlmjfaaDoor
namespace Go.Proofs.YtcempbgbdlmjfaaDoor
open Go.RowKit

theorem wp_scope_fwd {P : Program} {a : Act} {w : World} {Q : Exit → Act → World → Prop} {c rest : Code} (l : Nat) (hf : findLabel c l = some rest)
    (h : ∀ Q1 : Exit → Act → World → Prop, (∀ a' w', rest.wp P (Exit.noGoto Q) a' w' → Q1 (.goto l) a' w') → c.wp P Q1 a w) : (Code.scope c).wp P Q a w :=
  wp_scope_jumps l (fun a' w' => rest.wp P (Exit.noGoto Q) a' w') (fun _ _ => 0) hf (h _ fun _ _ hr => ⟨rfl, hr⟩) fun _ _ hJ => Code.wp_mono (fun e _ _ q => by cases e <;> first | exact q | exact q.elim) hJ
theorem owned_row {v : Sv} {hi : Nat} {w : World} {A : Option Addr} {c n : Nat} {L : List Ax} {vs : List Av} (h : Owned v hi w A c L vs) (hn : L.length = n) : w.ownsRow hi 96 6 (.slice A n c) n (avC vs) := by
  subst hn; exact h.own
/-- the end of a string: the actions that came of it are appended to those of the end, the state is stored -/
theorem step_end {VV V' z : Sv} {w W w3 w5 : World} {R hiT n : Nat} {A3 A2 A5 : Option Addr} {c3 c5 : Nat} {E L2 : List Ax} {vs3 vs2 : List Av} (hB : Below w.heap.size w W) (hR : w.heap.size ≤ R) (hRT : R < hiT) (hT : hiT ≤ W.heap.size)
    (ho : Owned VV W.heap.size w3 A3 c3 E vs3) (hb3 : Below W.heap.size W w3) (ha : Acts VV hiT W A2 L2 vs2) (hp : ParOk VV hiT W V'.A V'.c V'.s.l)
    (hown : w5.ownsRow W.heap.size 96 6 (.slice A5 n c5) n (avC vs3 ++ avC vs2)) (hn : n = E.length + L2.length) (hg : w3.grownBy w5 (Value.slice A3 E.length c3).ownBlock)
    (hl : ∀ g, (Value.slice A5 n c5).ownBlock = some g → (Value.slice A3 E.length c3).ownBlock = some g ∨ w3.heap.size ≤ g) (hs : SAt w3 R z) :
    SAt (World.put7 w5 R V') R V' ∧ Below w.heap.size w (World.put7 w5 R V') ∧ ParOk VV w.heap.size (World.put7 w5 R V') V'.A V'.c V'.s.l ∧ Acts VV w.heap.size (World.put7 w5 R V') A5 (E ++ L2) (vs3 ++ vs2) ∧ (E ++ L2).length ≤ c5 := by
  subst hn
  have e : (E ++ L2).length = E.length + L2.length := List.length_append
  have hrow : ∀ g, (Value.slice A3 E.length c3).ownBlock = some g → W.heap.size ≤ g := own_ge ho.own
  have hb5 : Below W.heap.size w3 w5 := below_of_grown hg hb3.size hrow
  have hb : Below W.heap.size W w5 := hb3.trans hb5
  have hbb : Below w.heap.size w w5 := hB.trans (hb.mono (by omega))
  have hs5 : SAt w5 R z := bk_grown hs hg fun e => by have := hrow _ e; omega
  have keep : ∀ {A : Option Addr} {c : Nat} {l : List (List Int)}, ParOk VV hiT W A c l → ParOk VV w.heap.size (World.put7 w5 R V') A c l := fun h => ((h.next hb).put7 R hRT V').less (by omega)
  have hc : (E ++ L2).length ≤ c5 := by
    obtain ⟨A', c', e1, hc⟩ := own_slice hown
    injection e1 with e1 e2 e3
    omega
  refine ⟨hs5.put V', below_put7 hbb hR V', keep hp, ?_, hc⟩
  have hacts : Acts VV hiT w5 A5 (E ++ L2) (vs3 ++ vs2) := by
    refine ⟨by rw [List.map_append, ho.map, ha.map], by rw [avC_append]; exact Rd.of_own hown, fun _ a hA => Nat.le_trans hT (own_ge hown a.block (by rw [hA]; rfl)), fun x hx => ?_⟩
    rcases List.mem_append.1 hx with hx | hx
    · exact ⟨(ho.ok x hx).1, (((ho.ok x hx).2.grow hg hl).less hT).ok⟩
    · exact ⟨(ha.ok x hx).1, (ha.ok x hx).2.next hb⟩
  exact (hacts.put7 R hRT V').less (by omega)
set_option maxRecDepth 100000 in
set_option maxHeartbeats 3200000 in
theorem step_esc (v : Sv) (r : Int) (w : World) (hv : v.Ok w) (hs : saneS v.s = true) (hr : r = 27) : Calls Tryd.prog 58 #[v.val, .int .i64 r] w (StRet v w (stepS v.s r).1 (stepS v.s r).2) := by
  obtain ⟨n1, n2⟩ := s_two w v sv0
  have hl := (saneS_iff v.s).1 hs
  have hi := hl.2.1
  have ht := hl.2.2.1
  clear hl
  obtain ⟨⟨a0, inter, over, l, o, text, kind⟩, ib, tb, A, cc⟩ := v
  simp only at hi ht
  subst hr
  have hf : stepS ⟨a0, inter, over, l, o, text, kind⟩ 27 = (atS 1, endA ⟨a0, inter, over, l, o, text, kind⟩) := by unfold stepS; rw [if_neg (by simp [hs]), if_neg (by omega), if_pos (by omega)]
  obtain ⟨n3, hn3⟩ : ∃ n, (endA ⟨a0, inter, over, l, o, text, kind⟩).length = n := ⟨_, rfl⟩
  have hn1 : n3 ≤ 1 := by rw [← hn3]; exact Nat.le_trans (end_few ⟨a0, inter, over, l, o, text, kind⟩ hs).len (by split <;> omega)
  have HN3 := Lib.hid hn3
  clear hn3
  have HE := Lib.hid hf
  have N1 := Lib.hid n1; have N2 := Lib.hid n2; have HV := Lib.hid hv
  have HOK : Hid (Sv.Ok ⟨⟨a0, inter, over, l, o, text, kind⟩, ib, tb, A, cc⟩ ((w.alloc (.cells #[.int .i64 a0, .string ib, .bool over, .slice A l.length cc, .bool o, .string tb, .int .u8 kind] 82)).alloc (.cells #[.int .i64 0, .string ⟨#[]⟩, .bool false, .slice none 0 0, .bool false, .string ⟨#[]⟩, .int .u8 0] 82))) := Lib.hid (hv.next (((Below.refl _ _).alloc (Nat.le_refl _) _).alloc (by simp) _))
  have HSN := Lib.hid hs
  clear hf n1 n2 hv hs
  show Calls Tryd.prog 58 #[.agg #[.int .i64 a0, .string ib, .bool over, .slice A l.length cc, .bool o, .string tb, .int .u8 kind], .int .i64 27] w _
  go_enter Tryd.func58, Tryd.ntmps58
  go_wp2
  refine wp_scope_fwd 0 (by rfl) fun Q1 hq1 => ?_
  have HQ1 := Lib.hid hq1
  clear hq1
  go_wp2_with fail
  refine (sane6_any ⟨⟨a0, inter, over, l, o, text, kind⟩, ib, tb, A, cc⟩ _ HOK.out (by simp only; omega) (by simp only; omega)).mono ?_
  rintro e w1 ⟨rfl, hb⟩
  simp only [HSN.out]
  have hb' : Below w.heap.size w w1 := (((Below.refl _ _).alloc (Nat.le_refl _) _).alloc (by simp) _).trans (hb.mono (by simp; omega))
  have s1 := (N1.out.past hb).past ((Below.refl w1.heap.size w1).alloc (Nat.le_refl _) (.cells #[.int .i64 0, .string ⟨#[]⟩, .bool false, .slice none 0 0, .bool false, .string ⟨#[]⟩, .int .u8 0] 82))
  have s2 := (N2.out.past hb).past ((Below.refl w1.heap.size w1).alloc (Nat.le_refl _) (.cells #[.int .i64 0, .string ⟨#[]⟩, .bool false, .slice none 0 0, .bool false, .string ⟨#[]⟩, .int .u8 0] 82))
  have s3 : SAt (w1.alloc (.cells #[.int .i64 0, .string ⟨#[]⟩, .bool false, .slice none 0 0, .bool false, .string ⟨#[]⟩, .int .u8 0] 82)) w1.heap.size sv0 := heap_alloc_new w1 _
  obtain ⟨e0, e1, e2, e3, e4, e5, e6, _⟩ := (N1.out.past hb).cells
  simp only at e0 e1 e2 e3 e4 e5 e6
  have hz : w.heap.size + 1 < w1.heap.size := bk_lt (N2.out.past hb)
  have hz0 : w.heap.size < w1.heap.size := by omega
  have S1 := Lib.hid s1; have S2 := Lib.hid s2; have S3 := Lib.hid s3
  have P1 := Lib.hid (N1.out.past hb); have P2 := Lib.hid (N2.out.past hb); have PB := Lib.hid hb'
  have HB : Hid (Below w.heap.size w (w1.alloc (.cells #[.int .i64 0, .string ⟨#[]⟩, .bool false, .slice none 0 0, .bool false, .string ⟨#[]⟩, .int .u8 0] 82))) := Lib.hid (hb'.alloc (by omega) _)
  have HO2 := Lib.hid ((HOK.out.next hb).next ((Below.refl w1.heap.size w1).alloc (Nat.le_refl _) (.cells #[.int .i64 0, .string ⟨#[]⟩, .bool false, .slice none 0 0, .bool false, .string ⟨#[]⟩, .int .u8 0] 82)))
  clear hb hb' s1 s2 s3 N1 N2 HOK
  obtain ⟨VV, hVV⟩ : ∃ x : Sv, x = ⟨⟨a0, inter, over, l, o, text, kind⟩, ib, tb, A, cc⟩ := ⟨_, rfl⟩
  have HVV := Lib.hid hVV; clear hVV
  have hend : ∀ W : World, Calls Tryd.prog 90 #[.agg #[.int .i64 a0, .string ib, .bool over, .slice A l.length cc, .bool o, .string tb, .int .u8 kind]] W fun e w' => ∃ A c vs, e = .returned (.slice A n3 c) ∧ Owned VV W.heap.size w' A c (endA ⟨a0, inter, over, l, o, text, kind⟩) vs ∧ Below W.heap.size W w' := fun W => by
    have h := end_own ⟨⟨a0, inter, over, l, o, text, kind⟩, ib, tb, A, cc⟩ VV W HV.out.tx
    refine h.mono fun e w' hh => ?_
    obtain ⟨A', c', vs', h1, h2, h3⟩ := hh
    exact ⟨A', c', vs', by rw [← HN3.out]; exact h1, h2, h3⟩
  have HEND := Lib.hid hend
  clear hend
  go_wp2_with fail
  go_step3
  show Q1 (Exit.goto 0) _ _
  refine HQ1.out _ _ ?_
  clear HQ1
  have z1 := P1.out.past ((Below.refl w1.heap.size w1).alloc (Nat.le_refl _) (.cells #[.int .i64 1, .string ⟨#[]⟩, .bool false, .slice none 0 0, .bool false, .string ⟨#[]⟩, .int .u8 0] 82))
  have z2 := P2.out.past ((Below.refl w1.heap.size w1).alloc (Nat.le_refl _) (.cells #[.int .i64 1, .string ⟨#[]⟩, .bool false, .slice none 0 0, .bool false, .string ⟨#[]⟩, .int .u8 0] 82))
  have z3 : SAt (w1.alloc (.cells #[.int .i64 1, .string ⟨#[]⟩, .bool false, .slice none 0 0, .bool false, .string ⟨#[]⟩, .int .u8 0] 82)) w1.heap.size (svAt 1) := heap_alloc_new w1 _
  have zb : Below w.heap.size w (w1.alloc (.cells #[.int .i64 1, .string ⟨#[]⟩, .bool false, .slice none 0 0, .bool false, .string ⟨#[]⟩, .int .u8 0] 82)) := PB.out.alloc (by omega) _
  have zz : w1.heap.size < (w1.alloc (.cells #[.int .i64 1, .string ⟨#[]⟩, .bool false, .slice none 0 0, .bool false, .string ⟨#[]⟩, .int .u8 0] 82)).heap.size := by simp
  clear e0 e1 e2 e3 e4 e5 e6
  generalize (w1.alloc (.cells #[.int .i64 1, .string ⟨#[]⟩, .bool false, .slice none 0 0, .bool false, .string ⟨#[]⟩, .int .u8 0] 82)) = W at z1 z2 z3 zb zz ⊢
  obtain ⟨e0, e1, e2, e3, e4, e5, e6, _⟩ := z1.cells
  simp only at e0 e1 e2 e3 e4 e5 e6
  obtain ⟨q0, q1, q2, q3, q4, q5, q6, _⟩ := z3.cells
  simp only [svAt, atS] at q0 q1 q2 q3 q4 q5 q6
  have K1 := Lib.hid z1; have K2 := Lib.hid z2; have K3 := Lib.hid z3; have KB := Lib.hid zb
  clear z1 z2 z3 zb
  go_upto_region 21 with (fail)
  go_region_law (first | (go_simp; refine (HEND.out _).mono ?_; rintro e w3 ⟨A3, c3, vs3, rfl, ho3, hb3⟩; have y3 := SAt.past (w := W.drew) K3.out hb3; obtain ⟨u0, u1, u2, u3, u4, u5, u6, _⟩ := y3.cells; simp only [svAt, atS] at u0 u1 u2 u3 u4 u5 u6; have Y3 := Lib.hid y3; have Y2 := Lib.hid (SAt.past (w := W.drew) K2.out hb3); have HO3 : Hid (Owned VV W.heap.size w3 A3 c3 (endA ⟨a0, inter, over, l, o, text, kind⟩) vs3) := Lib.hid ho3; have HB3 : Hid (Below W.heap.size W.drew w3) := Lib.hid hb3; clear y3 ho3 hb3) | (refine step_cat (by rfl) _ _ _ el_act (by rfl) W.heap.size _ n3 (avC vs3) (by rfl) (owned_row HO3.out HN3.out) w3.heap.size none 0 0 [] (by rfl) (Rd.nil _ _ _) (by rfl) (by simp) (by unfold maxLen; omega) (by omega) HB3.out.size ?_; intro A5 c5 w5 ho5 hg5 hl5; have x3 := bk_grown Y3.out hg5 (fun e => by have := own_ge HO3.out.own _ (by rw [HN3.out]; exact e); have := bk_lt K3.out; omega); obtain ⟨v0, v1, v2, v3, v4, v5, v6, _⟩ := SAt.cells x3; simp only [svAt, atS] at v0 v1 v2 v3 v4 v5 v6; have x2 := bk_grown Y2.out hg5 (fun e => by have := own_ge HO3.out.own _ (by rw [HN3.out]; exact e); have := bk_lt K2.out; omega); obtain ⟨t0, t1, t2, t3, t4, t5, t6, j0, j1, j2, j3, j4, j5, j6⟩ := SAt.cells x2; simp only [sv0, st0] at t0 t1 t2 t3 t4 t5 t6; have HO5 := Lib.hid ho5; have HG5 := Lib.hid hg5; have HL5 := Lib.hid hl5; clear ho5 hg5 hl5 x3 x2))
  all_goals go_wp2
  all_goals
    obtain ⟨hp7, hb7, hq7, ha7, hc7⟩ := step_end (V' := (svAt 1)) (VV := VV) (n := n3 + 0) (vs2 := []) (L2 := []) (A2 := none) KB.out (show w.heap.size ≤ w.heap.size + 1 by omega) (show w.heap.size + 1 < w.heap.size + 2 by omega) (by have := bk_lt K2.out; omega) HO3.out ((Below.refl W.heap.size W).drew.trans HB3.out) (Acts.nil _ _ _ _) (ParOk.nil _ _ _) HO5.out (by rw [HN3.out]; rfl) (by rw [HN3.out]; exact HG5.out) (by rw [HN3.out]; exact HL5.out) Y2.out
    have hp8 : SAt (((((((w5.setCell ⟨w.heap.size + 1, 0, none⟩ (.int .i64 1)).setCell ⟨w.heap.size + 1, 1, none⟩ (.string ⟨#[]⟩)).setCell ⟨w.heap.size + 1, 2, none⟩ (.bool false)).setCell ⟨w.heap.size + 1, 3, none⟩ (.slice none 0 0)).setCell ⟨w.heap.size + 1, 4, none⟩ (.bool false)).setCell ⟨w.heap.size + 1, 5, none⟩ (.string ⟨#[]⟩)).setCell ⟨w.heap.size + 1, 6, none⟩ (.int .u8 0)) (w.heap.size + 1) (svAt 1) := hp7
    have hb8 : Below w.heap.size w (((((((w5.setCell ⟨w.heap.size + 1, 0, none⟩ (.int .i64 1)).setCell ⟨w.heap.size + 1, 1, none⟩ (.string ⟨#[]⟩)).setCell ⟨w.heap.size + 1, 2, none⟩ (.bool false)).setCell ⟨w.heap.size + 1, 3, none⟩ (.slice none 0 0)).setCell ⟨w.heap.size + 1, 4, none⟩ (.bool false)).setCell ⟨w.heap.size + 1, 5, none⟩ (.string ⟨#[]⟩)).setCell ⟨w.heap.size + 1, 6, none⟩ (.int .u8 0)) := hb7
    have hq8 : ParOk VV w.heap.size (((((((w5.setCell ⟨w.heap.size + 1, 0, none⟩ (.int .i64 1)).setCell ⟨w.heap.size + 1, 1, none⟩ (.string ⟨#[]⟩)).setCell ⟨w.heap.size + 1, 2, none⟩ (.bool false)).setCell ⟨w.heap.size + 1, 3, none⟩ (.slice none 0 0)).setCell ⟨w.heap.size + 1, 4, none⟩ (.bool false)).setCell ⟨w.heap.size + 1, 5, none⟩ (.string ⟨#[]⟩)).setCell ⟨w.heap.size + 1, 6, none⟩ (.int .u8 0)) ((svAt 1) : Sv).A ((svAt 1) : Sv).c ((svAt 1) : Sv).s.l := hq7
    have ha8 : Acts VV w.heap.size (((((((w5.setCell ⟨w.heap.size + 1, 0, none⟩ (.int .i64 1)).setCell ⟨w.heap.size + 1, 1, none⟩ (.string ⟨#[]⟩)).setCell ⟨w.heap.size + 1, 2, none⟩ (.bool false)).setCell ⟨w.heap.size + 1, 3, none⟩ (.slice none 0 0)).setCell ⟨w.heap.size + 1, 4, none⟩ (.bool false)).setCell ⟨w.heap.size + 1, 5, none⟩ (.string ⟨#[]⟩)).setCell ⟨w.heap.size + 1, 6, none⟩ (.int .u8 0)) A5 (endA ⟨a0, inter, over, l, o, text, kind⟩ ++ []) (vs3 ++ []) := ha7
    clear hp7 hb7 hq7 ha7
    generalize (((((((w5.setCell ⟨w.heap.size + 1, 0, none⟩ (.int .i64 1)).setCell ⟨w.heap.size + 1, 1, none⟩ (.string ⟨#[]⟩)).setCell ⟨w.heap.size + 1, 2, none⟩ (.bool false)).setCell ⟨w.heap.size + 1, 3, none⟩ (.slice none 0 0)).setCell ⟨w.heap.size + 1, 4, none⟩ (.bool false)).setCell ⟨w.heap.size + 1, 5, none⟩ (.string ⟨#[]⟩)).setCell ⟨w.heap.size + 1, 6, none⟩ (.int .u8 0)) = W7 at hp8 hb8 hq8 ha8 ⊢
    obtain ⟨d0, d1, d2, d3, d4, d5, d6, _⟩ := hp8.cells
    simp only [svAt, atS] at d0 d1 d2 d3 d4 d5 d6
    rw [Exit.noGoto_ret]
    refine bodyPost_ret (v := .tuple #[.agg #[.int .i64 1, .string ⟨#[]⟩, .bool false, .slice none 0 0, .bool false, .string ⟨#[]⟩, .int .u8 0], .slice A5 (n3) c5]) (by simp [results, Tryd.results58, go_sem, d0, d1, d2, d3, d4, d5, d6]) rfl ?_
    rw [HE.out]
    have hVV := HVV.out; subst hVV
    rw [List.append_nil] at ha8 hc7
    exact ⟨(svAt 1), A5, c5, _, rfl, by rw [HN3.out]; rfl, svAt_tx 1, hq8, ha8, hc7, hb8⟩
set_option maxRecDepth 100000 in
set_option maxHeartbeats 3200000 in
theorem step_bell (v : Sv) (r : Int) (w : World) (hv : v.Ok w) (hs : saneS v.s = true) (ha : v.s.a = 7) (hr : r = 7) : Calls Tryd.prog 58 #[v.val, .int .i64 r] w (StRet v w (stepS v.s r).1 (stepS v.s r).2) := by
  obtain ⟨n1, n2⟩ := s_two w v sv0
  have hl := (saneS_iff v.s).1 hs
  have hi := hl.2.1
  have ht := hl.2.2.1
  clear hl
  obtain ⟨⟨a0, inter, over, l, o, text, kind⟩, ib, tb, A, cc⟩ := v
  simp only at hi ht
  simp only at ha
  subst ha
  subst hr
  have hf : stepS ⟨7, inter, over, l, o, text, kind⟩ 7 = (st0, endA ⟨7, inter, over, l, o, text, kind⟩) := by unfold stepS; rw [if_neg (by simp [hs]), if_neg (by omega), if_neg (by omega), if_neg (by omega), if_pos ⟨rfl, rfl⟩]
  obtain ⟨n3, hn3⟩ : ∃ n, (endA ⟨7, inter, over, l, o, text, kind⟩).length = n := ⟨_, rfl⟩
  have hn1 : n3 ≤ 1 := by rw [← hn3]; exact Nat.le_trans (end_few ⟨7, inter, over, l, o, text, kind⟩ hs).len (by split <;> omega)
  have HN3 := Lib.hid hn3
  clear hn3
  have HE := Lib.hid hf
  have N1 := Lib.hid n1; have N2 := Lib.hid n2; have HV := Lib.hid hv
  have HOK : Hid (Sv.Ok ⟨⟨7, inter, over, l, o, text, kind⟩, ib, tb, A, cc⟩ ((w.alloc (.cells #[.int .i64 7, .string ib, .bool over, .slice A l.length cc, .bool o, .string tb, .int .u8 kind] 82)).alloc (.cells #[.int .i64 0, .string ⟨#[]⟩, .bool false, .slice none 0 0, .bool false, .string ⟨#[]⟩, .int .u8 0] 82))) := Lib.hid (hv.next (((Below.refl _ _).alloc (Nat.le_refl _) _).alloc (by simp) _))
  have HSN := Lib.hid hs
  clear hf n1 n2 hv hs
  show Calls Tryd.prog 58 #[.agg #[.int .i64 7, .string ib, .bool over, .slice A l.length cc, .bool o, .string tb, .int .u8 kind], .int .i64 7] w _
  go_enter Tryd.func58, Tryd.ntmps58
  go_wp2
  refine wp_scope_fwd 0 (by rfl) fun Q1 hq1 => ?_
  have HQ1 := Lib.hid hq1
  clear hq1
  go_wp2_with fail
  refine (sane6_any ⟨⟨7, inter, over, l, o, text, kind⟩, ib, tb, A, cc⟩ _ HOK.out (by simp only; omega) (by simp only; omega)).mono ?_
  rintro e w1 ⟨rfl, hb⟩
  simp only [HSN.out]
  have hb' : Below w.heap.size w w1 := (((Below.refl _ _).alloc (Nat.le_refl _) _).alloc (by simp) _).trans (hb.mono (by simp; omega))
  have s1 := (N1.out.past hb).past ((Below.refl w1.heap.size w1).alloc (Nat.le_refl _) (.cells #[.int .i64 0, .string ⟨#[]⟩, .bool false, .slice none 0 0, .bool false, .string ⟨#[]⟩, .int .u8 0] 82))
  have s2 := (N2.out.past hb).past ((Below.refl w1.heap.size w1).alloc (Nat.le_refl _) (.cells #[.int .i64 0, .string ⟨#[]⟩, .bool false, .slice none 0 0, .bool false, .string ⟨#[]⟩, .int .u8 0] 82))
  have s3 : SAt (w1.alloc (.cells #[.int .i64 0, .string ⟨#[]⟩, .bool false, .slice none 0 0, .bool false, .string ⟨#[]⟩, .int .u8 0] 82)) w1.heap.size sv0 := heap_alloc_new w1 _
  obtain ⟨e0, e1, e2, e3, e4, e5, e6, _⟩ := (N1.out.past hb).cells
  simp only at e0 e1 e2 e3 e4 e5 e6
  have hz : w.heap.size + 1 < w1.heap.size := bk_lt (N2.out.past hb)
  have hz0 : w.heap.size < w1.heap.size := by omega
  have S1 := Lib.hid s1; have S2 := Lib.hid s2; have S3 := Lib.hid s3
  have P1 := Lib.hid (N1.out.past hb); have P2 := Lib.hid (N2.out.past hb); have PB := Lib.hid hb'
  have HB : Hid (Below w.heap.size w (w1.alloc (.cells #[.int .i64 0, .string ⟨#[]⟩, .bool false, .slice none 0 0, .bool false, .string ⟨#[]⟩, .int .u8 0] 82))) := Lib.hid (hb'.alloc (by omega) _)
  have HO2 := Lib.hid ((HOK.out.next hb).next ((Below.refl w1.heap.size w1).alloc (Nat.le_refl _) (.cells #[.int .i64 0, .string ⟨#[]⟩, .bool false, .slice none 0 0, .bool false, .string ⟨#[]⟩, .int .u8 0] 82)))
  clear hb hb' s1 s2 s3 N1 N2 HOK
  obtain ⟨VV, hVV⟩ : ∃ x : Sv, x = ⟨⟨7, inter, over, l, o, text, kind⟩, ib, tb, A, cc⟩ := ⟨_, rfl⟩
  have HVV := Lib.hid hVV; clear hVV
  have hend : ∀ W : World, Calls Tryd.prog 90 #[.agg #[.int .i64 7, .string ib, .bool over, .slice A l.length cc, .bool o, .string tb, .int .u8 kind]] W fun e w' => ∃ A c vs, e = .returned (.slice A n3 c) ∧ Owned VV W.heap.size w' A c (endA ⟨7, inter, over, l, o, text, kind⟩) vs ∧ Below W.heap.size W w' := fun W => by
    have h := end_own ⟨⟨7, inter, over, l, o, text, kind⟩, ib, tb, A, cc⟩ VV W HV.out.tx
    refine h.mono fun e w' hh => ?_
    obtain ⟨A', c', vs', h1, h2, h3⟩ := hh
    exact ⟨A', c', vs', by rw [← HN3.out]; exact h1, h2, h3⟩
  have HEND := Lib.hid hend
  clear hend
  go_wp2_with fail
  go_step3
  show Q1 (Exit.goto 0) _ _
  refine HQ1.out _ _ ?_
  clear HQ1
  have z1 := P1.out.past ((Below.refl w1.heap.size w1).alloc (Nat.le_refl _) (.cells #[.int .i64 0, .string ⟨#[]⟩, .bool false, .slice none 0 0, .bool false, .string ⟨#[]⟩, .int .u8 0] 82))
  have z2 := P2.out.past ((Below.refl w1.heap.size w1).alloc (Nat.le_refl _) (.cells #[.int .i64 0, .string ⟨#[]⟩, .bool false, .slice none 0 0, .bool false, .string ⟨#[]⟩, .int .u8 0] 82))
  have z3 : SAt (w1.alloc (.cells #[.int .i64 0, .string ⟨#[]⟩, .bool false, .slice none 0 0, .bool false, .string ⟨#[]⟩, .int .u8 0] 82)) w1.heap.size sv0 := heap_alloc_new w1 _
  have zb : Below w.heap.size w (w1.alloc (.cells #[.int .i64 0, .string ⟨#[]⟩, .bool false, .slice none 0 0, .bool false, .string ⟨#[]⟩, .int .u8 0] 82)) := PB.out.alloc (by omega) _
  have zz : w1.heap.size < (w1.alloc (.cells #[.int .i64 0, .string ⟨#[]⟩, .bool false, .slice none 0 0, .bool false, .string ⟨#[]⟩, .int .u8 0] 82)).heap.size := by simp
  clear e0 e1 e2 e3 e4 e5 e6
  generalize (w1.alloc (.cells #[.int .i64 0, .string ⟨#[]⟩, .bool false, .slice none 0 0, .bool false, .string ⟨#[]⟩, .int .u8 0] 82)) = W at z1 z2 z3 zb zz ⊢
  obtain ⟨e0, e1, e2, e3, e4, e5, e6, _⟩ := z1.cells
  simp only at e0 e1 e2 e3 e4 e5 e6
  obtain ⟨q0, q1, q2, q3, q4, q5, q6, _⟩ := z3.cells
  simp only [sv0, st0] at q0 q1 q2 q3 q4 q5 q6
  have K1 := Lib.hid z1; have K2 := Lib.hid z2; have K3 := Lib.hid z3; have KB := Lib.hid zb
  clear z1 z2 z3 zb
  go_upto_region 21 with (fail)
  go_region_law (first | (go_simp; refine (HEND.out _).mono ?_; rintro e w3 ⟨A3, c3, vs3, rfl, ho3, hb3⟩; have y3 := SAt.past (w := W.drew) K3.out hb3; obtain ⟨u0, u1, u2, u3, u4, u5, u6, _⟩ := y3.cells; simp only [sv0, st0] at u0 u1 u2 u3 u4 u5 u6; have Y3 := Lib.hid y3; have Y2 := Lib.hid (SAt.past (w := W.drew) K2.out hb3); have HO3 : Hid (Owned VV W.heap.size w3 A3 c3 (endA ⟨7, inter, over, l, o, text, kind⟩) vs3) := Lib.hid ho3; have HB3 : Hid (Below W.heap.size W.drew w3) := Lib.hid hb3; clear y3 ho3 hb3) | (refine step_cat (by rfl) _ _ _ el_act (by rfl) W.heap.size _ n3 (avC vs3) (by rfl) (owned_row HO3.out HN3.out) w3.heap.size none 0 0 [] (by rfl) (Rd.nil _ _ _) (by rfl) (by simp) (by unfold maxLen; omega) (by omega) HB3.out.size ?_; intro A5 c5 w5 ho5 hg5 hl5; have x3 := bk_grown Y3.out hg5 (fun e => by have := own_ge HO3.out.own _ (by rw [HN3.out]; exact e); have := bk_lt K3.out; omega); obtain ⟨v0, v1, v2, v3, v4, v5, v6, _⟩ := SAt.cells x3; simp only [sv0, st0] at v0 v1 v2 v3 v4 v5 v6; have x2 := bk_grown Y2.out hg5 (fun e => by have := own_ge HO3.out.own _ (by rw [HN3.out]; exact e); have := bk_lt K2.out; omega); obtain ⟨t0, t1, t2, t3, t4, t5, t6, j0, j1, j2, j3, j4, j5, j6⟩ := SAt.cells x2; simp only [sv0, st0] at t0 t1 t2 t3 t4 t5 t6; have HO5 := Lib.hid ho5; have HG5 := Lib.hid hg5; have HL5 := Lib.hid hl5; clear ho5 hg5 hl5 x3 x2))
  all_goals go_wp2
  all_goals
    obtain ⟨hp7, hb7, hq7, ha7, hc7⟩ := step_end (V' := sv0) (VV := VV) (n := n3 + 0) (vs2 := []) (L2 := []) (A2 := none) KB.out (show w.heap.size ≤ w.heap.size + 1 by omega) (show w.heap.size + 1 < w.heap.size + 2 by omega) (by have := bk_lt K2.out; omega) HO3.out ((Below.refl W.heap.size W).drew.trans HB3.out) (Acts.nil _ _ _ _) (ParOk.nil _ _ _) HO5.out (by rw [HN3.out]; rfl) (by rw [HN3.out]; exact HG5.out) (by rw [HN3.out]; exact HL5.out) Y2.out
    have hp8 : SAt (((((((w5.setCell ⟨w.heap.size + 1, 0, none⟩ (.int .i64 0)).setCell ⟨w.heap.size + 1, 1, none⟩ (.string ⟨#[]⟩)).setCell ⟨w.heap.size + 1, 2, none⟩ (.bool false)).setCell ⟨w.heap.size + 1, 3, none⟩ (.slice none 0 0)).setCell ⟨w.heap.size + 1, 4, none⟩ (.bool false)).setCell ⟨w.heap.size + 1, 5, none⟩ (.string ⟨#[]⟩)).setCell ⟨w.heap.size + 1, 6, none⟩ (.int .u8 0)) (w.heap.size + 1) sv0 := hp7
    have hb8 : Below w.heap.size w (((((((w5.setCell ⟨w.heap.size + 1, 0, none⟩ (.int .i64 0)).setCell ⟨w.heap.size + 1, 1, none⟩ (.string ⟨#[]⟩)).setCell ⟨w.heap.size + 1, 2, none⟩ (.bool false)).setCell ⟨w.heap.size + 1, 3, none⟩ (.slice none 0 0)).setCell ⟨w.heap.size + 1, 4, none⟩ (.bool false)).setCell ⟨w.heap.size + 1, 5, none⟩ (.string ⟨#[]⟩)).setCell ⟨w.heap.size + 1, 6, none⟩ (.int .u8 0)) := hb7
    have hq8 : ParOk VV w.heap.size (((((((w5.setCell ⟨w.heap.size + 1, 0, none⟩ (.int .i64 0)).setCell ⟨w.heap.size + 1, 1, none⟩ (.string ⟨#[]⟩)).setCell ⟨w.heap.size + 1, 2, none⟩ (.bool false)).setCell ⟨w.heap.size + 1, 3, none⟩ (.slice none 0 0)).setCell ⟨w.heap.size + 1, 4, none⟩ (.bool false)).setCell ⟨w.heap.size + 1, 5, none⟩ (.string ⟨#[]⟩)).setCell ⟨w.heap.size + 1, 6, none⟩ (.int .u8 0)) (sv0 : Sv).A (sv0 : Sv).c (sv0 : Sv).s.l := hq7
    have ha8 : Acts VV w.heap.size (((((((w5.setCell ⟨w.heap.size + 1, 0, none⟩ (.int .i64 0)).setCell ⟨w.heap.size + 1, 1, none⟩ (.string ⟨#[]⟩)).setCell ⟨w.heap.size + 1, 2, none⟩ (.bool false)).setCell ⟨w.heap.size + 1, 3, none⟩ (.slice none 0 0)).setCell ⟨w.heap.size + 1, 4, none⟩ (.bool false)).setCell ⟨w.heap.size + 1, 5, none⟩ (.string ⟨#[]⟩)).setCell ⟨w.heap.size + 1, 6, none⟩ (.int .u8 0)) A5 (endA ⟨7, inter, over, l, o, text, kind⟩ ++ []) (vs3 ++ []) := ha7
    clear hp7 hb7 hq7 ha7
    generalize (((((((w5.setCell ⟨w.heap.size + 1, 0, none⟩ (.int .i64 0)).setCell ⟨w.heap.size + 1, 1, none⟩ (.string ⟨#[]⟩)).setCell ⟨w.heap.size + 1, 2, none⟩ (.bool false)).setCell ⟨w.heap.size + 1, 3, none⟩ (.slice none 0 0)).setCell ⟨w.heap.size + 1, 4, none⟩ (.bool false)).setCell ⟨w.heap.size + 1, 5, none⟩ (.string ⟨#[]⟩)).setCell ⟨w.heap.size + 1, 6, none⟩ (.int .u8 0)) = W7 at hp8 hb8 hq8 ha8 ⊢
    obtain ⟨d0, d1, d2, d3, d4, d5, d6, _⟩ := hp8.cells
    simp only [sv0, st0] at d0 d1 d2 d3 d4 d5 d6
    rw [Exit.noGoto_ret]
    refine bodyPost_ret (v := .tuple #[.agg #[.int .i64 0, .string ⟨#[]⟩, .bool false, .slice none 0 0, .bool false, .string ⟨#[]⟩, .int .u8 0], .slice A5 (n3) c5]) (by simp [results, Tryd.results58, go_sem, d0, d1, d2, d3, d4, d5, d6]) rfl ?_
    rw [HE.out]
    have hVV := HVV.out; subst hVV
    rw [List.append_nil] at ha8 hc7
    exact ⟨sv0, A5, c5, _, rfl, by rw [HN3.out]; rfl, sv0_tx, hq8, ha8, hc7, hb8⟩
set_option maxRecDepth 100000 in
set_option maxHeartbeats 3200000 in
theorem step_upper (v : Sv) (r : Int) (w : World) (hv : v.Ok w) (hs : saneS v.s = true) (h0 : 128 ≤ r) (h1 : r ≤ 159) : Calls Tryd.prog 58 #[v.val, .int .i64 r] w (StRet v w (stepS v.s r).1 (stepS v.s r).2) := by
  obtain ⟨n1, n2⟩ := s_two w v sv0
  have hl := (saneS_iff v.s).1 hs
  have hi := hl.2.1
  have ht := hl.2.2.1
  clear hl
  obtain ⟨⟨a0, inter, over, l, o, text, kind⟩, ib, tb, A, cc⟩ := v
  simp only at hi ht
  have f24 : (r == 24) = false := beq_eq_false_iff_ne.2 (by omega)
  have f26 : (r == 26) = false := beq_eq_false_iff_ne.2 (by omega)
  have f27 : (r == 27) = false := beq_eq_false_iff_ne.2 (by omega)
  have hf : stepS ⟨a0, inter, over, l, o, text, kind⟩ r = ((upperF r).1, endA ⟨a0, inter, over, l, o, text, kind⟩ ++ (upperF r).2) := by unfold stepS; rw [if_neg (by simp [hs]), if_neg (by omega), if_neg (by omega), if_pos ⟨h0, h1⟩]
  obtain ⟨m, hm⟩ : ∃ m, (upperF r).2.length = m := ⟨_, rfl⟩
  have hm1 : m ≤ 1 := by rw [← hm]; exact (upper_few r).len
  have HM := Lib.hid hm
  clear hm
  obtain ⟨n3, hn3⟩ : ∃ n, (endA ⟨a0, inter, over, l, o, text, kind⟩).length = n := ⟨_, rfl⟩
  have hn1 : n3 ≤ 1 := by rw [← hn3]; exact Nat.le_trans (end_few ⟨a0, inter, over, l, o, text, kind⟩ hs).len (by split <;> omega)
  have HN3 := Lib.hid hn3
  clear hn3
  have HE := Lib.hid hf
  have N1 := Lib.hid n1; have N2 := Lib.hid n2; have HV := Lib.hid hv
  have HOK : Hid (Sv.Ok ⟨⟨a0, inter, over, l, o, text, kind⟩, ib, tb, A, cc⟩ ((w.alloc (.cells #[.int .i64 a0, .string ib, .bool over, .slice A l.length cc, .bool o, .string tb, .int .u8 kind] 82)).alloc (.cells #[.int .i64 0, .string ⟨#[]⟩, .bool false, .slice none 0 0, .bool false, .string ⟨#[]⟩, .int .u8 0] 82))) := Lib.hid (hv.next (((Below.refl _ _).alloc (Nat.le_refl _) _).alloc (by simp) _))
  have HSN := Lib.hid hs
  clear hf n1 n2 hv hs
  show Calls Tryd.prog 58 #[.agg #[.int .i64 a0, .string ib, .bool over, .slice A l.length cc, .bool o, .string tb, .int .u8 kind], .int .i64 r] w _
  go_enter Tryd.func58, Tryd.ntmps58
  go_wp2
  refine wp_scope_fwd 0 (by rfl) fun Q1 hq1 => ?_
  have HQ1 := Lib.hid hq1
  clear hq1
  go_wp2_with fail
  refine (sane6_any ⟨⟨a0, inter, over, l, o, text, kind⟩, ib, tb, A, cc⟩ _ HOK.out (by simp only; omega) (by simp only; omega)).mono ?_
  rintro e w1 ⟨rfl, hb⟩
  simp only [HSN.out]
  have hb' : Below w.heap.size w w1 := (((Below.refl _ _).alloc (Nat.le_refl _) _).alloc (by simp) _).trans (hb.mono (by simp; omega))
  have s1 := (N1.out.past hb).past ((Below.refl w1.heap.size w1).alloc (Nat.le_refl _) (.cells #[.int .i64 0, .string ⟨#[]⟩, .bool false, .slice none 0 0, .bool false, .string ⟨#[]⟩, .int .u8 0] 82))
  have s2 := (N2.out.past hb).past ((Below.refl w1.heap.size w1).alloc (Nat.le_refl _) (.cells #[.int .i64 0, .string ⟨#[]⟩, .bool false, .slice none 0 0, .bool false, .string ⟨#[]⟩, .int .u8 0] 82))
  have s3 : SAt (w1.alloc (.cells #[.int .i64 0, .string ⟨#[]⟩, .bool false, .slice none 0 0, .bool false, .string ⟨#[]⟩, .int .u8 0] 82)) w1.heap.size sv0 := heap_alloc_new w1 _
  obtain ⟨e0, e1, e2, e3, e4, e5, e6, _⟩ := (N1.out.past hb).cells
  simp only at e0 e1 e2 e3 e4 e5 e6
  have hz : w.heap.size + 1 < w1.heap.size := bk_lt (N2.out.past hb)
  have hz0 : w.heap.size < w1.heap.size := by omega
  have S1 := Lib.hid s1; have S2 := Lib.hid s2; have S3 := Lib.hid s3
  have P1 := Lib.hid (N1.out.past hb); have P2 := Lib.hid (N2.out.past hb); have PB := Lib.hid hb'
  have HB : Hid (Below w.heap.size w (w1.alloc (.cells #[.int .i64 0, .string ⟨#[]⟩, .bool false, .slice none 0 0, .bool false, .string ⟨#[]⟩, .int .u8 0] 82))) := Lib.hid (hb'.alloc (by omega) _)
  have HO2 := Lib.hid ((HOK.out.next hb).next ((Below.refl w1.heap.size w1).alloc (Nat.le_refl _) (.cells #[.int .i64 0, .string ⟨#[]⟩, .bool false, .slice none 0 0, .bool false, .string ⟨#[]⟩, .int .u8 0] 82)))
  clear hb hb' s1 s2 s3 N1 N2 HOK
  obtain ⟨VV, hVV⟩ : ∃ x : Sv, x = ⟨⟨a0, inter, over, l, o, text, kind⟩, ib, tb, A, cc⟩ := ⟨_, rfl⟩
  have HVV := Lib.hid hVV; clear hVV
  have hend : ∀ W : World, Calls Tryd.prog 90 #[.agg #[.int .i64 a0, .string ib, .bool over, .slice A l.length cc, .bool o, .string tb, .int .u8 kind]] W fun e w' => ∃ A c vs, e = .returned (.slice A n3 c) ∧ Owned VV W.heap.size w' A c (endA ⟨a0, inter, over, l, o, text, kind⟩) vs ∧ Below W.heap.size W w' := fun W => by
    have h := end_own ⟨⟨a0, inter, over, l, o, text, kind⟩, ib, tb, A, cc⟩ VV W HV.out.tx
    refine h.mono fun e w' hh => ?_
    obtain ⟨A', c', vs', h1, h2, h3⟩ := hh
    exact ⟨A', c', vs', by rw [← HN3.out]; exact h1, h2, h3⟩
  have HEND := Lib.hid hend
  clear hend
  go_wp2_with fail
  refine (upper_any VV r _ h0 h1).mono ?_
  intro e w2 hret
  obtain ⟨a1, inter1, ov1, l1, o1, text1, k1, ib1, tb1, A1, c1, Ac, cA, vs2, he1, rfl, htx, hpar, hacts, hca, hb2⟩ := hret.open
  clear hret
  simp only [HM.out]
  rw [HM.out] at hca
  simp only [World.size_alloc] at hpar hacts hb2
  have hs3 := S3.out.past (hb2.mono (by simp))
  have T1 := Lib.hid (S1.out.past (hb2.mono (by simp))); have T2 := Lib.hid (S2.out.past (hb2.mono (by simp))); have T3 := Lib.hid hs3
  have HB2 := Lib.hid (HB.out.trans (hb2.mono (by omega)))
  have HP := Lib.hid hpar; have HA := Lib.hid hacts; have HTX := Lib.hid htx; have HE1 := Lib.hid he1
  have hz2 : w1.heap.size + 1 ≤ w2.heap.size := by have := hb2.size; simpa using this
  clear e0 e1 e2 e3 e4 e5 e6
  obtain ⟨q0, q1, q2, q3, q4, q5, q6, g0, g1, g2, g3, g4, g5, g6⟩ := hs3.cells
  simp only [sv0, st0] at q0 q1 q2 q3 q4 q5 q6
  clear hs3 hpar hacts hb2 htx he1
  go_wp2_with fail
  go_step3
  show Q1 (Exit.goto 0) _ _
  refine HQ1.out _ _ ?_
  clear HQ1
  have z1 := sat_put7_far T1.out (show w.heap.size ≠ w1.heap.size by omega) ⟨⟨a1, inter1, ov1, l1, o1, text1, k1⟩, ib1, tb1, A1, c1⟩
  have z2 := sat_put7_far T2.out (show w.heap.size + 1 ≠ w1.heap.size by omega) ⟨⟨a1, inter1, ov1, l1, o1, text1, k1⟩, ib1, tb1, A1, c1⟩
  have z3 := T3.out.put ⟨⟨a1, inter1, ov1, l1, o1, text1, k1⟩, ib1, tb1, A1, c1⟩
  have zb := below_put7 HB2.out (show w.heap.size ≤ w1.heap.size by omega) ⟨⟨a1, inter1, ov1, l1, o1, text1, k1⟩, ib1, tb1, A1, c1⟩
  have zp := (HP.out.put7 w1.heap.size (by omega) ⟨⟨a1, inter1, ov1, l1, o1, text1, k1⟩, ib1, tb1, A1, c1⟩).less (show w.heap.size + 2 ≤ _ by omega)
  have za := (HA.out.put7 w1.heap.size (by omega) ⟨⟨a1, inter1, ov1, l1, o1, text1, k1⟩, ib1, tb1, A1, c1⟩).less (show w.heap.size + 2 ≤ _ by omega)
  have zz : w1.heap.size + 1 ≤ (World.put7 w2 w1.heap.size ⟨⟨a1, inter1, ov1, l1, o1, text1, k1⟩, ib1, tb1, A1, c1⟩).heap.size := by rw [put7_size]; exact hz2
  simp only [World.put7] at z1 z2 z3 zb zp za zz
  clear q0 q1 q2 q3 q4 q5 q6 g0 g1 g2 g3 g4 g5 g6
  generalize (((((((w2.setCell ⟨w1.heap.size, 0, none⟩ (.int .i64 a1)).setCell ⟨w1.heap.size, 1, none⟩ (.string ib1)).setCell ⟨w1.heap.size, 2, none⟩ (.bool ov1)).setCell ⟨w1.heap.size, 3, none⟩ (.slice A1 l1.length c1)).setCell ⟨w1.heap.size, 4, none⟩ (.bool o1)).setCell ⟨w1.heap.size, 5, none⟩ (.string tb1)).setCell ⟨w1.heap.size, 6, none⟩ (.int .u8 k1)) = W at z1 z2 z3 zb zp za zz ⊢
  obtain ⟨e0, e1, e2, e3, e4, e5, e6, _⟩ := z1.cells
  simp only at e0 e1 e2 e3 e4 e5 e6
  obtain ⟨q0, q1, q2, q3, q4, q5, q6, _⟩ := z3.cells
  simp only at q0 q1 q2 q3 q4 q5 q6
  have hvl : vs2.length = m := by rw [za.len, HM.out]
  have HVL := Lib.hid hvl
  have K1 := Lib.hid z1; have K2 := Lib.hid z2; have K3 := Lib.hid z3; have KB := Lib.hid zb; have HPT := Lib.hid zp; have HAT := Lib.hid za
  clear z1 z2 z3 zb zp za hvl
  go_upto_region 21 with (fail)
  go_region_law (first | (go_simp; refine (HEND.out _).mono ?_; rintro e w3 ⟨A3, c3, vs3, rfl, ho3, hb3⟩; have y3 := SAt.past (w := W.drew) K3.out hb3; obtain ⟨u0, u1, u2, u3, u4, u5, u6, _⟩ := y3.cells; simp only at u0 u1 u2 u3 u4 u5 u6; have Y3 := Lib.hid y3; have Y2 := Lib.hid (SAt.past (w := W.drew) K2.out hb3); have HO3 : Hid (Owned VV W.heap.size w3 A3 c3 (endA ⟨a0, inter, over, l, o, text, kind⟩) vs3) := Lib.hid ho3; have HB3 : Hid (Below W.heap.size W.drew w3) := Lib.hid hb3; clear y3 ho3 hb3) | (refine step_cat (by rfl) _ _ _ el_act (by rfl) W.heap.size _ n3 (avC vs3) (by rfl) (owned_row HO3.out HN3.out) w3.heap.size Ac m cA (avC vs2) (by rfl) (HAT.out.next ((Below.refl W.heap.size W).drew.trans HB3.out)).rd (by rw [avC_len, HVL.out]) (avC_one _) (by unfold maxLen; omega) (by omega) HB3.out.size ?_; intro A5 c5 w5 ho5 hg5 hl5; have x3 := bk_grown Y3.out hg5 (fun e => by have := own_ge HO3.out.own _ (by rw [HN3.out]; exact e); have := bk_lt K3.out; omega); obtain ⟨v0, v1, v2, v3, v4, v5, v6, _⟩ := SAt.cells x3; simp only at v0 v1 v2 v3 v4 v5 v6; have x2 := bk_grown Y2.out hg5 (fun e => by have := own_ge HO3.out.own _ (by rw [HN3.out]; exact e); have := bk_lt K2.out; omega); obtain ⟨t0, t1, t2, t3, t4, t5, t6, j0, j1, j2, j3, j4, j5, j6⟩ := SAt.cells x2; simp only [sv0, st0] at t0 t1 t2 t3 t4 t5 t6; have HO5 := Lib.hid ho5; have HG5 := Lib.hid hg5; have HL5 := Lib.hid hl5; clear ho5 hg5 hl5 x3 x2))
  all_goals go_wp2
  all_goals
    obtain ⟨hp7, hb7, hq7, ha7, hc7⟩ := step_end (V' := ⟨⟨a1, inter1, ov1, l1, o1, text1, k1⟩, ib1, tb1, A1, c1⟩) (VV := VV) (n := n3 + m)  KB.out (show w.heap.size ≤ w.heap.size + 1 by omega) (show w.heap.size + 1 < w.heap.size + 2 by omega) (by have := bk_lt K2.out; omega) HO3.out ((Below.refl W.heap.size W).drew.trans HB3.out) HAT.out HPT.out HO5.out (by rw [HN3.out, HM.out]) (by rw [HN3.out]; exact HG5.out) (by rw [HN3.out]; exact HL5.out) Y2.out
    have hp8 : SAt (((((((w5.setCell ⟨w.heap.size + 1, 0, none⟩ (.int .i64 a1)).setCell ⟨w.heap.size + 1, 1, none⟩ (.string ib1)).setCell ⟨w.heap.size + 1, 2, none⟩ (.bool ov1)).setCell ⟨w.heap.size + 1, 3, none⟩ (.slice A1 l1.length c1)).setCell ⟨w.heap.size + 1, 4, none⟩ (.bool o1)).setCell ⟨w.heap.size + 1, 5, none⟩ (.string tb1)).setCell ⟨w.heap.size + 1, 6, none⟩ (.int .u8 k1)) (w.heap.size + 1) ⟨⟨a1, inter1, ov1, l1, o1, text1, k1⟩, ib1, tb1, A1, c1⟩ := hp7
    have hb8 : Below w.heap.size w (((((((w5.setCell ⟨w.heap.size + 1, 0, none⟩ (.int .i64 a1)).setCell ⟨w.heap.size + 1, 1, none⟩ (.string ib1)).setCell ⟨w.heap.size + 1, 2, none⟩ (.bool ov1)).setCell ⟨w.heap.size + 1, 3, none⟩ (.slice A1 l1.length c1)).setCell ⟨w.heap.size + 1, 4, none⟩ (.bool o1)).setCell ⟨w.heap.size + 1, 5, none⟩ (.string tb1)).setCell ⟨w.heap.size + 1, 6, none⟩ (.int .u8 k1)) := hb7
    have hq8 : ParOk VV w.heap.size (((((((w5.setCell ⟨w.heap.size + 1, 0, none⟩ (.int .i64 a1)).setCell ⟨w.heap.size + 1, 1, none⟩ (.string ib1)).setCell ⟨w.heap.size + 1, 2, none⟩ (.bool ov1)).setCell ⟨w.heap.size + 1, 3, none⟩ (.slice A1 l1.length c1)).setCell ⟨w.heap.size + 1, 4, none⟩ (.bool o1)).setCell ⟨w.heap.size + 1, 5, none⟩ (.string tb1)).setCell ⟨w.heap.size + 1, 6, none⟩ (.int .u8 k1)) (⟨⟨a1, inter1, ov1, l1, o1, text1, k1⟩, ib1, tb1, A1, c1⟩ : Sv).A (⟨⟨a1, inter1, ov1, l1, o1, text1, k1⟩, ib1, tb1, A1, c1⟩ : Sv).c (⟨⟨a1, inter1, ov1, l1, o1, text1, k1⟩, ib1, tb1, A1, c1⟩ : Sv).s.l := hq7
    have ha8 : Acts VV w.heap.size (((((((w5.setCell ⟨w.heap.size + 1, 0, none⟩ (.int .i64 a1)).setCell ⟨w.heap.size + 1, 1, none⟩ (.string ib1)).setCell ⟨w.heap.size + 1, 2, none⟩ (.bool ov1)).setCell ⟨w.heap.size + 1, 3, none⟩ (.slice A1 l1.length c1)).setCell ⟨w.heap.size + 1, 4, none⟩ (.bool o1)).setCell ⟨w.heap.size + 1, 5, none⟩ (.string tb1)).setCell ⟨w.heap.size + 1, 6, none⟩ (.int .u8 k1)) A5 (endA ⟨a0, inter, over, l, o, text, kind⟩ ++ (upperF r).2) (vs3 ++ vs2) := ha7
    clear hp7 hb7 hq7 ha7
    generalize (((((((w5.setCell ⟨w.heap.size + 1, 0, none⟩ (.int .i64 a1)).setCell ⟨w.heap.size + 1, 1, none⟩ (.string ib1)).setCell ⟨w.heap.size + 1, 2, none⟩ (.bool ov1)).setCell ⟨w.heap.size + 1, 3, none⟩ (.slice A1 l1.length c1)).setCell ⟨w.heap.size + 1, 4, none⟩ (.bool o1)).setCell ⟨w.heap.size + 1, 5, none⟩ (.string tb1)).setCell ⟨w.heap.size + 1, 6, none⟩ (.int .u8 k1)) = W7 at hp8 hb8 hq8 ha8 ⊢
    obtain ⟨d0, d1, d2, d3, d4, d5, d6, _⟩ := hp8.cells
    simp only at d0 d1 d2 d3 d4 d5 d6
    rw [Exit.noGoto_ret]
    refine bodyPost_ret (v := .tuple #[.agg #[.int .i64 a1, .string ib1, .bool ov1, .slice A1 l1.length c1, .bool o1, .string tb1, .int .u8 k1], .slice A5 (n3 + m) c5]) (by simp [results, Tryd.results58, go_sem, d0, d1, d2, d3, d4, d5, d6]) rfl ?_
    rw [HE.out]
    have hVV := HVV.out; subst hVV
    skip
    exact ⟨⟨⟨a1, inter1, ov1, l1, o1, text1, k1⟩, ib1, tb1, A1, c1⟩, A5, c5, _, HE1.out, by rw [List.length_append, HN3.out, HM.out]; rfl, HTX.out, hq8, ha8, hc7, hb8⟩
theorem step_any (v : Sv) (r : Int) (w : World) (hv : v.Ok w) (hm : v.s.inter.length < 9223372036854775808) (hm2 : v.s.text.length < 9223372036854775808) : Calls Tryd.prog 58 #[v.val, .int .i64 r] w (StRet v w (stepS v.s r).1 (stepS v.s r).2) := by
  cases hs : saneS v.s with
  | false => exact step_bad v r w hv hs hm hm2
  | true =>
    by_cases h24 : r = 24
    · exact step_24 v r w hv hs h24
    by_cases h26 : r = 26
    · exact step_26 v r w hv hs h26
    by_cases h27 : r = 27
    · exact step_esc v r w hv hs h27
    by_cases hup : 128 ≤ r ∧ r ≤ 159
    · exact step_upper v r w hv hs hup.1 hup.2
    by_cases ha : v.s.a = 7
    · by_cases h7 : r = 7
      · exact step_bell v r w hv hs ha h7
      · exact step_str7 v r w hv hs ha h7 ⟨h24, h26, h27⟩ hup
    cases hst : isStr v.s with
    | true => exact step_str v r w hv hs ha hst ⟨h24, h26, h27⟩ hup
    | false =>
      by_cases hlo : 0 ≤ r ∧ r ≤ 31
      · exact step_low v r w hv hs hst hlo.1 hlo.2 ⟨h24, h26, h27⟩
      by_cases hd : r = 127
      · exact step_del v r w hv hs hst hd
      by_cases hb : 159 < r
      · exact step_big v r w hv hs hst hb
      by_cases hn : r < 0
      · exact step_neg v r w hv hs hst hn
      · exact step_graphic v r w hv hs hst (by omega) (by omega)
end Go.Proofs.YtcempbgbdlmjfaaDoor
