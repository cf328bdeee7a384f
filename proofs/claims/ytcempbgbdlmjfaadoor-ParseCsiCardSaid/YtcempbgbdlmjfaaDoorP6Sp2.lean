/-
  parse: the walk of Step: a control that leaves the state as it is.
-/
import Derived.Test.YtcempbgbdlmjfaaDoorP6Sp1
import Derived.Deep.RegionHeld3
namespace Go.Proofs.YtcempbgbdlmjfaaDoor
open Go.RowKit

set_option maxRecDepth 100000 in
set_option maxHeartbeats 3200000 in
theorem step_low (v : Sv) (r : Int) (w : World) (hv : v.Ok w) (hs : saneS v.s = true) (hst : isStr v.s = false) (h0 : 0 ≤ r) (h1 : r ≤ 31) (hn : r ≠ 24 ∧ r ≠ 26 ∧ r ≠ 27) : Calls Tryd.prog 58 #[v.val, .int .i64 r] w (StRet v w (stepS v.s r).1 (stepS v.s r).2) := by
  obtain ⟨n1, n2⟩ := s_two w v sv0
  have hl := (saneS_iff v.s).1 hs
  have hi := hl.2.1
  have ht := hl.2.2.1
  clear hl
  obtain ⟨⟨a0, inter, over, l, o, text, kind⟩, ib, tb, A, cc⟩ := v
  simp only at hi ht
  have hna : a0 ≠ 7 ∧ a0 ≠ 8 ∧ a0 ≠ 9 := by
    refine ⟨fun e => ?_, fun e => ?_, fun e => ?_⟩ <;> simp [isStr, e] at hst
  have fa7 : (a0 == 7) = false := beq_eq_false_iff_ne.2 hna.1
  have HIS := Lib.hid hst
  have f24 : (r == 24) = false := beq_eq_false_iff_ne.2 (by omega)
  have f26 : (r == 26) = false := beq_eq_false_iff_ne.2 (by omega)
  have f27 : (r == 27) = false := beq_eq_false_iff_ne.2 (by omega)
  have hf : stepS ⟨a0, inter, over, l, o, text, kind⟩ r = (⟨a0, inter, over, l, o, text, kind⟩, [axExec r]) := by
    unfold stepS; rw [if_neg (by simp [hs]), if_neg (by omega), if_neg (by omega), if_neg (by omega), if_neg (by simp [hna.1]), if_neg (by simp [hst]), if_pos (by omega)]
  clear hna hst
  have HE := Lib.hid hf
  have N1 := Lib.hid n1; have N2 := Lib.hid n2; have HV := Lib.hid hv
  have HOK : Hid (Sv.Ok ⟨⟨a0, inter, over, l, o, text, kind⟩, ib, tb, A, cc⟩ ((w.alloc (.cells #[.int .i64 a0, .string ib, .bool over, .slice A l.length cc, .bool o, .string tb, .int .u8 kind] 82)).alloc (.cells #[.int .i64 0, .string ⟨#[]⟩, .bool false, .slice none 0 0, .bool false, .string ⟨#[]⟩, .int .u8 0] 82))) := Lib.hid (hv.next (((Below.refl _ _).alloc (Nat.le_refl _) _).alloc (by simp) _))
  have HSN := Lib.hid hs
  clear hf n1 n2 hv hs
  show Calls Tryd.prog 58 #[.agg #[.int .i64 a0, .string ib, .bool over, .slice A l.length cc, .bool o, .string tb, .int .u8 kind], .int .i64 r] w _
  go_enter Tryd.func58, Tryd.ntmps58
  go_wp2
  go_step3
  go_wp2_with fail
  refine (sane6_any ⟨⟨a0, inter, over, l, o, text, kind⟩, ib, tb, A, cc⟩ _ HOK.out (by simp only; omega) (by simp only; omega)).mono ?_
  rintro e w1 ⟨rfl, hb⟩
  simp only [HSN.out]
  have hb' : Below w.heap.size w w1 := (((Below.refl _ _).alloc (Nat.le_refl _) _).alloc (by simp) _).trans (hb.mono (by simp; omega))
  have s1 := (N1.out.past hb).past ((Below.refl w1.heap.size w1).alloc (Nat.le_refl _) (.cells #[.int .i64 0, .string ⟨#[]⟩, .bool false, .slice none 0 0, .bool false, .string ⟨#[]⟩, .int .u8 0] 82))
  have s2 := (N2.out.past hb).past ((Below.refl w1.heap.size w1).alloc (Nat.le_refl _) (.cells #[.int .i64 0, .string ⟨#[]⟩, .bool false, .slice none 0 0, .bool false, .string ⟨#[]⟩, .int .u8 0] 82))
  have s3 : SAt (w1.alloc (.cells #[.int .i64 0, .string ⟨#[]⟩, .bool false, .slice none 0 0, .bool false, .string ⟨#[]⟩, .int .u8 0] 82)) w1.heap.size sv0 := heap_alloc_new w1 _
  obtain ⟨e0, e1, e2, e3, e4, e5, e6, _⟩ := (N1.out.past hb).cells
  simp only at e0 e1 e2 e3 e4 e5 e6
  have hz : w.heap.size + 1 < w1.heap.size := bk_lt (N2.out.past hb)
  have hz0 : w.heap.size < w1.heap.size := by omega
  have S1 := Lib.hid s1; have S2 := Lib.hid s2; have S3 := Lib.hid s3
  have HB : Hid (Below w.heap.size w (w1.alloc (.cells #[.int .i64 0, .string ⟨#[]⟩, .bool false, .slice none 0 0, .bool false, .string ⟨#[]⟩, .int .u8 0] 82))) := Lib.hid (hb'.alloc (by omega) _)
  have HO2 := Lib.hid ((HOK.out.next hb).next ((Below.refl w1.heap.size w1).alloc (Nat.le_refl _) (.cells #[.int .i64 0, .string ⟨#[]⟩, .bool false, .slice none 0 0, .bool false, .string ⟨#[]⟩, .int .u8 0] 82)))
  clear hb hb' s1 s2 s3 N1 N2 HOK
  obtain ⟨VV, hVV⟩ : ∃ x : Sv, x = ⟨⟨a0, inter, over, l, o, text, kind⟩, ib, tb, A, cc⟩ := ⟨_, rfl⟩
  have HVV := Lib.hid hVV; clear hVV
  go_wp2_with fail
  refine (isstr_any ⟨⟨a0, inter, over, l, o, text, kind⟩, ib, tb, A, cc⟩ _).mono ?_
  rintro e w2 ⟨rfl, hbi⟩
  simp only [HIS.out]
  have t1 := S1.out.past hbi; have t2 := S2.out.past hbi; have t3 := S3.out.past hbi
  have T1 := Lib.hid t1; have T2 := Lib.hid t2
  have HB2 := Lib.hid (HB.out.trans (hbi.mono (by simp; omega)))
  have HO3 := Lib.hid (HO2.out.next hbi)
  have hz2 : w.heap.size + 1 < w2.heap.size := bk_lt t2
  obtain ⟨i0, i1, i2, i3, i4, i5, i6, _⟩ := t1.cells
  simp only at i0 i1 i2 i3 i4 i5 i6
  obtain ⟨q0, q1, q2, q3, q4, q5, q6, g0, g1, g2, g3, g4, g5, g6⟩ := t2.cells
  simp only [sv0, st0] at q0 q1 q2 q3 q4 q5 q6
  clear hbi t1 t2 t3 e0 e1 e2 e3 e4 e5 e6
  go_wp2_with fail
  go_upto_region 15 with (fail)
  go_region_with (go_at_call 84; refine (control_any VV r _ (by omega) (by omega)).mono ?_; rintro e w3 ⟨Ac, cA, vs, rfl, hacts, hca, hb3⟩; (try (have hs3 := SAt.past (w := w2.drew) T2.out hb3; obtain ⟨k0, k1, k2, k3, k4, k5, k6, l0, l1, l2, l3, l4, l5, l6⟩ := hs3.cells; simp only [sv0, st0] at k0 k1 k2 k3 k4 k5 k6; have HS3 := Lib.hid hs3; clear hs3)); (try (have hs4 := SAt.past (w := w2.drew) T1.out hb3; obtain ⟨u0, u1, u2, u3, u4, u5, u6, _⟩ := hs4.cells; simp only at u0 u1 u2 u3 u4 u5 u6; have HS4 := Lib.hid hs4; clear hs4)); have HA := Lib.hid hacts; have HC := Lib.hid hca; have HB3 := Lib.hid hb3; clear hacts hca hb3)
  all_goals go_wp2_with fail
  all_goals
    have hdr : w2.drew.heap.size = w2.heap.size := rfl
    have HS := HS3
    have HBL := Lib.hid (HB2.out.drew.trans (HB3.out.mono (show w.heap.size ≤ w2.heap.size by omega)))

    obtain ⟨hp7, hb7, hq7⟩ := st_put (v := VV) (v' := ⟨⟨a0, inter, over, l, o, text, kind⟩, ib, tb, A, cc⟩) HS.out HBL.out (hi := w.heap.size + 2) (by rw [HVV.out]; exact ParOk.same ⟨⟨a0, inter, over, l, o, text, kind⟩, ib, tb, A, cc⟩ _ _) (by omega) (by omega)
    have ha7 := (HA.out.put7 (w.heap.size + 1) (by omega) ⟨⟨a0, inter, over, l, o, text, kind⟩, ib, tb, A, cc⟩).less (show w.heap.size ≤ _ by omega)
    simp only [World.put7] at hp7 hb7 hq7 ha7
    generalize (((((((w3.setCell ⟨w.heap.size + 1, 0, none⟩ (.int .i64 a0)).setCell ⟨w.heap.size + 1, 1, none⟩ (.string ib)).setCell ⟨w.heap.size + 1, 2, none⟩ (.bool over)).setCell ⟨w.heap.size + 1, 3, none⟩ (.slice A l.length cc)).setCell ⟨w.heap.size + 1, 4, none⟩ (.bool o)).setCell ⟨w.heap.size + 1, 5, none⟩ (.string tb)).setCell ⟨w.heap.size + 1, 6, none⟩ (.int .u8 kind)) = W7 at hp7 hb7 hq7 ha7 ⊢
    obtain ⟨d0, d1, d2, d3, d4, d5, d6, _⟩ := hp7.cells
    simp only at d0 d1 d2 d3 d4 d5 d6
    rw [Exit.noGoto_ret]
    refine bodyPost_ret (v := .tuple #[.agg #[.int .i64 a0, .string ib, .bool over, .slice A l.length cc, .bool o, .string tb, .int .u8 kind], .slice Ac 1 cA]) (by simp [results, Tryd.results58, go_sem, d0, d1, d2, d3, d4, d5, d6]) rfl ?_
    rw [HE.out]
    have hVV := HVV.out; subst hVV
    exact ⟨⟨⟨a0, inter, over, l, o, text, kind⟩, ib, tb, A, cc⟩, Ac, cA, vs, rfl, rfl, HV.out.tx, hq7, ha7, HC.out, hb7⟩
end Go.Proofs.YtcempbgbdlmjfaaDoor
