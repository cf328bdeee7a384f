/-
  parse: the walk of add.
-/
import Derived.Test.YtcempbgbdlmjfaaDoorP6Sq
import Derived.Test.YtcempbgbdlmjfaaDoorP6Put
namespace Go.Proofs.YtcempbgbdlmjfaaDoor
open Go.RowKit

theorem bytes_put (r : Int) : ∀ x ∈ putF r, 0 ≤ x ∧ x < 256 := by
  have h : Letter (okR r) := okR_letter r
  unfold Letter at h
  unfold putF encF
  intro x hx
  repeat' split at hx
  all_goals simp only [List.mem_cons, List.not_mem_nil, or_false] at hx
  all_goals rcases hx with rfl | rfl | rfl | rfl <;> omega
set_option maxRecDepth 100000 in
set_option maxHeartbeats 1600000 in
theorem add_low (v : Sv) (r : Int) (w : World) (hv : v.Tx) (r0 : 0 ≤ r) (r1 : r ≤ 31) : Calls Tryd.prog 87 #[v.val, .int .i64 r] w (SvRet v w (addF v.s r)) := by
  obtain ⟨⟨a0, inter, over, l, o, text, kind⟩, ib, tb, A, cc⟩ := v
  have HV := Lib.hid hv
  clear hv
  have hf : addF ⟨a0, inter, over, l, o, text, kind⟩ r = ⟨a0, inter, over, l, o, text, kind⟩ := by unfold addF; rw [if_pos (.inl ⟨r0, r1⟩)]
  have HE := Lib.hid hf
  clear hf
  show Calls Tryd.prog 87 #[.agg #[.int .i64 a0, .string ib, .bool over, .slice A l.length cc, .bool o, .string tb, .int .u8 kind], .int .i64 r] w _
  go_enter Tryd.func87, Tryd.ntmps87
  go_wp2
  refine bodyPost_ret (v := .agg #[.int .i64 a0, .string ib, .bool over, .slice A l.length cc, .bool o, .string tb, .int .u8 kind]) (by simp [results, Tryd.results87, go_sem]) rfl ?_
  rw [HE.out]
  exact ⟨⟨⟨a0, inter, over, l, o, text, kind⟩, ib, tb, A, cc⟩, rfl, rfl, HV.out, .inl ⟨rfl, rfl, rfl⟩, ((Below.refl _ _).alloc (Nat.le_refl _) _).alloc (by simp) _⟩
set_option maxRecDepth 100000 in
set_option maxHeartbeats 1600000 in
theorem add_del (v : Sv) (r : Int) (w : World) (hv : v.Tx) (hr : r = 127) : Calls Tryd.prog 87 #[v.val, .int .i64 r] w (SvRet v w (addF v.s r)) := by
  obtain ⟨⟨a0, inter, over, l, o, text, kind⟩, ib, tb, A, cc⟩ := v
  have HV := Lib.hid hv
  clear hv
  have hf : addF ⟨a0, inter, over, l, o, text, kind⟩ r = ⟨a0, inter, over, l, o, text, kind⟩ := by unfold addF; rw [if_pos (.inr hr)]
  subst hr
  have HE := Lib.hid hf
  clear hf
  show Calls Tryd.prog 87 #[.agg #[.int .i64 a0, .string ib, .bool over, .slice A l.length cc, .bool o, .string tb, .int .u8 kind], .int .i64 127] w _
  go_enter Tryd.func87, Tryd.ntmps87
  go_wp2
  refine bodyPost_ret (v := .agg #[.int .i64 a0, .string ib, .bool over, .slice A l.length cc, .bool o, .string tb, .int .u8 kind]) (by simp [results, Tryd.results87, go_sem]) rfl ?_
  rw [HE.out]
  exact ⟨⟨⟨a0, inter, over, l, o, text, kind⟩, ib, tb, A, cc⟩, rfl, rfl, HV.out, .inl ⟨rfl, rfl, rfl⟩, ((Below.refl _ _).alloc (Nat.le_refl _) _).alloc (by simp) _⟩
set_option maxRecDepth 100000 in
set_option maxHeartbeats 1600000 in
theorem add_neg (v : Sv) (r : Int) (w : World) (hv : v.Tx) (hT : v.s.text.length ≤ 1024) (h0 : r < 0) : Calls Tryd.prog 87 #[v.val, .int .i64 r] w (SvRet v w (addF v.s r)) := by
  obtain ⟨n1, n2⟩ := s_two w v sv0
  obtain ⟨⟨a0, inter, over, l, o, text, kind⟩, ib, tb, A, cc⟩ := v
  have HV := Lib.hid hv
  clear hv
  have N1 := Lib.hid n1; have N2 := Lib.hid n2
  clear n1 n2
  have hlen : tb.size = text.length := by have h := HV.out.tb; simp only at h; rw [ba_size2, h]
  simp only at hT
  have hpl := put_len r
  have BP := Lib.hid (bytes_put r)
  have hg : ¬ ((0 ≤ r ∧ r ≤ 31) ∨ r = 127) := by omega
  have f0 : (r == 127) = false := beq_eq_false_iff_ne.2 (by omega)
  have key : ∀ n : Nat, (putF r).length = n → n = (putF r).length := fun _ h => h.symm
  clear key
  by_cases hfit : text.length + (putF r).length ≤ 1024
  · have hf : addF ⟨a0, inter, over, l, o, text, kind⟩ r = ⟨a0, inter, over, l, o, text ++ putF r, kind⟩ := by unfold addF; rw [if_neg hg, if_pos hfit]
    have HE := Lib.hid hf
    clear hf hg
    show Calls Tryd.prog 87 #[.agg #[.int .i64 a0, .string ib, .bool over, .slice A l.length cc, .bool o, .string tb, .int .u8 kind], .int .i64 r] w _
    go_enter Tryd.func87, Tryd.ntmps87
    go_wp2_with fail
    refine (put_any r _).mono ?_
    rintro e w1 ⟨Ap, cp, rfl, hown, hb⟩
    obtain ⟨A', c', hsl, hcl, hrd, hlo⟩ := rd_own hown
    injection hsl with i1 i2 i3
    subst i1; subst i3
    have hcv := conv_sN (W := w1) (putF r) cp hrd BP.out (by omega)
    have hz1 : (sN (putF r)).size = (putF r).length := sN_size _
    have hbs : bI (sN (putF r)) = putF r := bI_sN _ BP.out
    obtain ⟨sc, hsc⟩ : ∃ sc, sN (putF r) = sc := ⟨_, rfl⟩
    rw [hsc] at hcv hz1 hbs
    have HBS := Lib.hid hbs
    simp only [size_two] at hb
    have hs1 := N1.out.past (hb.mono (by simp))
    have hs2 := N2.out.past (hb.mono (by simp))
    have HS1 := Lib.hid hs1; have HS2 := Lib.hid hs2; have HB := Lib.hid hb
    obtain ⟨p0, p1, p2, p3, p4, p5, p6, u0, u1, u2, u3, u4, u5, u6⟩ := hs1.cells
    obtain ⟨q0, q1, q2, q3, q4, q5, q6, g0, g1, g2, g3, g4, g5, g6⟩ := hs2.cells
    simp only [sv0, st0] at p0 p1 p2 p3 p4 p5 p6 q0 q1 q2 q3 q4 q5 q6
    clear hs1 hs2 hb hbs hsc hown hrd hlo
    go_wp2_with fail
    have hs3 : SAt (w1.setCell ⟨w.heap.size, 5, none⟩ (.string (tb ++ sc))) (w.heap.size + 1) sv0 := HS2.out.far ⟨w.heap.size, 5, none⟩ (by simp) _
    have hb3 : Below w.heap.size w (w1.setCell ⟨w.heap.size, 5, none⟩ (.string (tb ++ sc))) := (((((Below.refl _ _).alloc (Nat.le_refl _) _).alloc (by simp) _ : Below w.heap.size w _).trans (HB.out.mono (by omega)))).setCell (p := ⟨w.heap.size, 5, none⟩) (Nat.le_refl _) _
    obtain ⟨hp7, hb7, hq7⟩ := st_put (v' := ⟨⟨a0, inter, over, l, o, text ++ putF r, kind⟩, ib, tb ++ sc, A, cc⟩) (v := ⟨⟨a0, inter, over, l, o, text, kind⟩, ib, tb, A, cc⟩) (hi := w.heap.size + 2) hs3 hb3 (.inl ⟨rfl, rfl, rfl⟩) (by omega) (by omega)
    simp only [World.put7] at hp7 hb7 hq7
    generalize ((((((((w1.setCell ⟨w.heap.size, 5, none⟩ (.string (tb ++ sc))).setCell ⟨w.heap.size + 1, 0, none⟩ (.int .i64 a0)).setCell ⟨w.heap.size + 1, 1, none⟩ (.string ib)).setCell ⟨w.heap.size + 1, 2, none⟩ (.bool over)).setCell ⟨w.heap.size + 1, 3, none⟩ (.slice A l.length cc)).setCell ⟨w.heap.size + 1, 4, none⟩ (.bool o)).setCell ⟨w.heap.size + 1, 5, none⟩ (.string (tb ++ sc))).setCell ⟨w.heap.size + 1, 6, none⟩ (.int .u8 kind)) = W7 at hp7 hb7 hq7 ⊢
    obtain ⟨d0, d1, d2, d3, d4, d5, d6, _⟩ := hp7.cells
    simp only at d0 d1 d2 d3 d4 d5 d6
    refine bodyPost_ret (v := .agg #[.int .i64 a0, .string ib, .bool over, .slice A l.length cc, .bool o, .string (tb ++ sc), .int .u8 kind]) (by simp [results, Tryd.results87, go_sem, d0, d1, d2, d3, d4, d5, d6]) rfl ?_
    rw [HE.out]
    exact ⟨⟨⟨a0, inter, over, l, o, text ++ putF r, kind⟩, ib, tb ++ sc, A, cc⟩, rfl, rfl, ⟨HV.out.ib, by rw [bI_app, HBS.out]; exact congrArg (· ++ putF r) HV.out.tb, HV.out.k⟩, hq7, hb7⟩
  · have hf : addF ⟨a0, inter, over, l, o, text, kind⟩ r = ⟨a0, inter, over, l, o, text, kind⟩ := by unfold addF; rw [if_neg hg, if_neg hfit]
    have dfit : decide ((text.length : Int) + ((putF r).length : Int) ≤ 1024) = false := by simp; omega
    have dfit' : ¬ (text.length : Int) + ((putF r).length : Int) ≤ 1024 := by omega
    have HE := Lib.hid hf
    clear hf hg
    show Calls Tryd.prog 87 #[.agg #[.int .i64 a0, .string ib, .bool over, .slice A l.length cc, .bool o, .string tb, .int .u8 kind], .int .i64 r] w _
    go_enter Tryd.func87, Tryd.ntmps87
    go_wp2_with fail
    refine (put_any r _).mono ?_
    rintro e w1 ⟨Ap, cp, rfl, hown, hb⟩
    simp only [size_two] at hb
    have hs1 := N1.out.past (hb.mono (by simp))
    have hs2 := N2.out.past (hb.mono (by simp))
    have HS1 := Lib.hid hs1; have HS2 := Lib.hid hs2; have HB := Lib.hid hb
    obtain ⟨p0, p1, p2, p3, p4, p5, p6, u0, u1, u2, u3, u4, u5, u6⟩ := hs1.cells
    obtain ⟨q0, q1, q2, q3, q4, q5, q6, g0, g1, g2, g3, g4, g5, g6⟩ := hs2.cells
    simp only [sv0, st0] at p0 p1 p2 p3 p4 p5 p6 q0 q1 q2 q3 q4 q5 q6
    clear hs1 hs2 hb hown
    go_wp2_with fail
    have hs3 : SAt w1 (w.heap.size + 1) sv0 := HS2.out
    have hb3 : Below w.heap.size w w1 := ((((Below.refl _ _).alloc (Nat.le_refl _) _).alloc (by simp) _ : Below w.heap.size w _).trans (HB.out.mono (by omega)))
    obtain ⟨hp7, hb7, hq7⟩ := st_put (v' := ⟨⟨a0, inter, over, l, o, text, kind⟩, ib, tb, A, cc⟩) (v := ⟨⟨a0, inter, over, l, o, text, kind⟩, ib, tb, A, cc⟩) (hi := w.heap.size + 2) hs3 hb3 (.inl ⟨rfl, rfl, rfl⟩) (by omega) (by omega)
    simp only [World.put7] at hp7 hb7 hq7
    generalize (((((((w1.setCell ⟨w.heap.size + 1, 0, none⟩ (.int .i64 a0)).setCell ⟨w.heap.size + 1, 1, none⟩ (.string ib)).setCell ⟨w.heap.size + 1, 2, none⟩ (.bool over)).setCell ⟨w.heap.size + 1, 3, none⟩ (.slice A l.length cc)).setCell ⟨w.heap.size + 1, 4, none⟩ (.bool o)).setCell ⟨w.heap.size + 1, 5, none⟩ (.string (tb))).setCell ⟨w.heap.size + 1, 6, none⟩ (.int .u8 kind)) = W7 at hp7 hb7 hq7 ⊢
    obtain ⟨d0, d1, d2, d3, d4, d5, d6, _⟩ := hp7.cells
    simp only at d0 d1 d2 d3 d4 d5 d6
    refine bodyPost_ret (v := .agg #[.int .i64 a0, .string ib, .bool over, .slice A l.length cc, .bool o, .string (tb), .int .u8 kind]) (by simp [results, Tryd.results87, go_sem, d0, d1, d2, d3, d4, d5, d6]) rfl ?_
    rw [HE.out]
    exact ⟨⟨⟨a0, inter, over, l, o, text, kind⟩, ib, tb, A, cc⟩, rfl, rfl, HV.out, hq7, hb7⟩
set_option maxRecDepth 100000 in
set_option maxHeartbeats 1600000 in
theorem add_pos (v : Sv) (r : Int) (w : World) (hv : v.Tx) (hT : v.s.text.length ≤ 1024) (h0 : 31 < r) (h1 : r ≠ 127) : Calls Tryd.prog 87 #[v.val, .int .i64 r] w (SvRet v w (addF v.s r)) := by
  obtain ⟨n1, n2⟩ := s_two w v sv0
  obtain ⟨⟨a0, inter, over, l, o, text, kind⟩, ib, tb, A, cc⟩ := v
  have HV := Lib.hid hv
  clear hv
  have N1 := Lib.hid n1; have N2 := Lib.hid n2
  clear n1 n2
  have hlen : tb.size = text.length := by have h := HV.out.tb; simp only at h; rw [ba_size2, h]
  simp only at hT
  have hpl := put_len r
  have BP := Lib.hid (bytes_put r)
  have hg : ¬ ((0 ≤ r ∧ r ≤ 31) ∨ r = 127) := by omega
  have f0 : (r == 127) = false := beq_eq_false_iff_ne.2 h1
  have key : ∀ n : Nat, (putF r).length = n → n = (putF r).length := fun _ h => h.symm
  clear key
  by_cases hfit : text.length + (putF r).length ≤ 1024
  · have hf : addF ⟨a0, inter, over, l, o, text, kind⟩ r = ⟨a0, inter, over, l, o, text ++ putF r, kind⟩ := by unfold addF; rw [if_neg hg, if_pos hfit]
    have HE := Lib.hid hf
    clear hf hg
    show Calls Tryd.prog 87 #[.agg #[.int .i64 a0, .string ib, .bool over, .slice A l.length cc, .bool o, .string tb, .int .u8 kind], .int .i64 r] w _
    go_enter Tryd.func87, Tryd.ntmps87
    go_wp2_with fail
    refine (put_any r _).mono ?_
    rintro e w1 ⟨Ap, cp, rfl, hown, hb⟩
    obtain ⟨A', c', hsl, hcl, hrd, hlo⟩ := rd_own hown
    injection hsl with i1 i2 i3
    subst i1; subst i3
    have hcv := conv_sN (W := w1) (putF r) cp hrd BP.out (by omega)
    have hz1 : (sN (putF r)).size = (putF r).length := sN_size _
    have hbs : bI (sN (putF r)) = putF r := bI_sN _ BP.out
    obtain ⟨sc, hsc⟩ : ∃ sc, sN (putF r) = sc := ⟨_, rfl⟩
    rw [hsc] at hcv hz1 hbs
    have HBS := Lib.hid hbs
    simp only [size_two] at hb
    have hs1 := N1.out.past (hb.mono (by simp))
    have hs2 := N2.out.past (hb.mono (by simp))
    have HS1 := Lib.hid hs1; have HS2 := Lib.hid hs2; have HB := Lib.hid hb
    obtain ⟨p0, p1, p2, p3, p4, p5, p6, u0, u1, u2, u3, u4, u5, u6⟩ := hs1.cells
    obtain ⟨q0, q1, q2, q3, q4, q5, q6, g0, g1, g2, g3, g4, g5, g6⟩ := hs2.cells
    simp only [sv0, st0] at p0 p1 p2 p3 p4 p5 p6 q0 q1 q2 q3 q4 q5 q6
    clear hs1 hs2 hb hbs hsc hown hrd hlo
    go_wp2_with fail
    have hs3 : SAt (w1.setCell ⟨w.heap.size, 5, none⟩ (.string (tb ++ sc))) (w.heap.size + 1) sv0 := HS2.out.far ⟨w.heap.size, 5, none⟩ (by simp) _
    have hb3 : Below w.heap.size w (w1.setCell ⟨w.heap.size, 5, none⟩ (.string (tb ++ sc))) := (((((Below.refl _ _).alloc (Nat.le_refl _) _).alloc (by simp) _ : Below w.heap.size w _).trans (HB.out.mono (by omega)))).setCell (p := ⟨w.heap.size, 5, none⟩) (Nat.le_refl _) _
    obtain ⟨hp7, hb7, hq7⟩ := st_put (v' := ⟨⟨a0, inter, over, l, o, text ++ putF r, kind⟩, ib, tb ++ sc, A, cc⟩) (v := ⟨⟨a0, inter, over, l, o, text, kind⟩, ib, tb, A, cc⟩) (hi := w.heap.size + 2) hs3 hb3 (.inl ⟨rfl, rfl, rfl⟩) (by omega) (by omega)
    simp only [World.put7] at hp7 hb7 hq7
    generalize ((((((((w1.setCell ⟨w.heap.size, 5, none⟩ (.string (tb ++ sc))).setCell ⟨w.heap.size + 1, 0, none⟩ (.int .i64 a0)).setCell ⟨w.heap.size + 1, 1, none⟩ (.string ib)).setCell ⟨w.heap.size + 1, 2, none⟩ (.bool over)).setCell ⟨w.heap.size + 1, 3, none⟩ (.slice A l.length cc)).setCell ⟨w.heap.size + 1, 4, none⟩ (.bool o)).setCell ⟨w.heap.size + 1, 5, none⟩ (.string (tb ++ sc))).setCell ⟨w.heap.size + 1, 6, none⟩ (.int .u8 kind)) = W7 at hp7 hb7 hq7 ⊢
    obtain ⟨d0, d1, d2, d3, d4, d5, d6, _⟩ := hp7.cells
    simp only at d0 d1 d2 d3 d4 d5 d6
    refine bodyPost_ret (v := .agg #[.int .i64 a0, .string ib, .bool over, .slice A l.length cc, .bool o, .string (tb ++ sc), .int .u8 kind]) (by simp [results, Tryd.results87, go_sem, d0, d1, d2, d3, d4, d5, d6]) rfl ?_
    rw [HE.out]
    exact ⟨⟨⟨a0, inter, over, l, o, text ++ putF r, kind⟩, ib, tb ++ sc, A, cc⟩, rfl, rfl, ⟨HV.out.ib, by rw [bI_app, HBS.out]; exact congrArg (· ++ putF r) HV.out.tb, HV.out.k⟩, hq7, hb7⟩
  · have hf : addF ⟨a0, inter, over, l, o, text, kind⟩ r = ⟨a0, inter, over, l, o, text, kind⟩ := by unfold addF; rw [if_neg hg, if_neg hfit]
    have dfit : decide ((text.length : Int) + ((putF r).length : Int) ≤ 1024) = false := by simp; omega
    have dfit' : ¬ (text.length : Int) + ((putF r).length : Int) ≤ 1024 := by omega
    have HE := Lib.hid hf
    clear hf hg
    show Calls Tryd.prog 87 #[.agg #[.int .i64 a0, .string ib, .bool over, .slice A l.length cc, .bool o, .string tb, .int .u8 kind], .int .i64 r] w _
    go_enter Tryd.func87, Tryd.ntmps87
    go_wp2_with fail
    refine (put_any r _).mono ?_
    rintro e w1 ⟨Ap, cp, rfl, hown, hb⟩
    simp only [size_two] at hb
    have hs1 := N1.out.past (hb.mono (by simp))
    have hs2 := N2.out.past (hb.mono (by simp))
    have HS1 := Lib.hid hs1; have HS2 := Lib.hid hs2; have HB := Lib.hid hb
    obtain ⟨p0, p1, p2, p3, p4, p5, p6, u0, u1, u2, u3, u4, u5, u6⟩ := hs1.cells
    obtain ⟨q0, q1, q2, q3, q4, q5, q6, g0, g1, g2, g3, g4, g5, g6⟩ := hs2.cells
    simp only [sv0, st0] at p0 p1 p2 p3 p4 p5 p6 q0 q1 q2 q3 q4 q5 q6
    clear hs1 hs2 hb hown
    go_wp2_with fail
    have hs3 : SAt w1 (w.heap.size + 1) sv0 := HS2.out
    have hb3 : Below w.heap.size w w1 := ((((Below.refl _ _).alloc (Nat.le_refl _) _).alloc (by simp) _ : Below w.heap.size w _).trans (HB.out.mono (by omega)))
    obtain ⟨hp7, hb7, hq7⟩ := st_put (v' := ⟨⟨a0, inter, over, l, o, text, kind⟩, ib, tb, A, cc⟩) (v := ⟨⟨a0, inter, over, l, o, text, kind⟩, ib, tb, A, cc⟩) (hi := w.heap.size + 2) hs3 hb3 (.inl ⟨rfl, rfl, rfl⟩) (by omega) (by omega)
    simp only [World.put7] at hp7 hb7 hq7
    generalize (((((((w1.setCell ⟨w.heap.size + 1, 0, none⟩ (.int .i64 a0)).setCell ⟨w.heap.size + 1, 1, none⟩ (.string ib)).setCell ⟨w.heap.size + 1, 2, none⟩ (.bool over)).setCell ⟨w.heap.size + 1, 3, none⟩ (.slice A l.length cc)).setCell ⟨w.heap.size + 1, 4, none⟩ (.bool o)).setCell ⟨w.heap.size + 1, 5, none⟩ (.string (tb))).setCell ⟨w.heap.size + 1, 6, none⟩ (.int .u8 kind)) = W7 at hp7 hb7 hq7 ⊢
    obtain ⟨d0, d1, d2, d3, d4, d5, d6, _⟩ := hp7.cells
    simp only at d0 d1 d2 d3 d4 d5 d6
    refine bodyPost_ret (v := .agg #[.int .i64 a0, .string ib, .bool over, .slice A l.length cc, .bool o, .string (tb), .int .u8 kind]) (by simp [results, Tryd.results87, go_sem, d0, d1, d2, d3, d4, d5, d6]) rfl ?_
    rw [HE.out]
    exact ⟨⟨⟨a0, inter, over, l, o, text, kind⟩, ib, tb, A, cc⟩, rfl, rfl, HV.out, hq7, hb7⟩
theorem add_any (v : Sv) (r : Int) (w : World) (hv : v.Tx) (hT : v.s.text.length ≤ 1024) : Calls Tryd.prog 87 #[v.val, .int .i64 r] w (SvRet v w (addF v.s r)) := by
  by_cases h0 : r < 0
  · exact add_neg v r w hv hT h0
  by_cases h1 : r ≤ 31
  · exact add_low v r w hv (by omega) h1
  by_cases h2 : r = 127
  · exact add_del v r w hv h2
  · exact add_pos v r w hv hT (by omega) h2
end Go.Proofs.YtcempbgbdlmjfaaDoor
