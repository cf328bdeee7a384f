/-
  mouse: Report without an encoding.
-/
import Derived.Test.YtcempbgbdlmjfaaDoorMsC
import Derived.ArgAppend
import Derived.Lib.SlBytesConst
namespace Go.Proofs.YtcempbgbdlmjfaaDoor
open Go.RowKit

section
variable {P : Program} {w : World} {ops : Array Oper} {rest : List Oper} {o : Oper} {a : Act} {Q : Exit → Act → World → Prop}
/-- append to a slice that has no room -/
theorem wpList_more (hgd : o.guard = none) (s x : Operand) (t : TypeId) {e : TypeId} {sz bytes : Nat} (hE : El P t e sz bytes)
    (ho : o.op = .call { callee := .builtin .append, args := #[s, x], argTypes := #[t, t] })
    (b off n cap : Nat) (olds : List Value) (hs : a.eval s = .slice (some ⟨b, off, none⟩) n cap) (hlo : olds.length = n * sz) (holds : ∀ (j : Nat) (u : Value), olds[j]? = some u → w.cell? ⟨b, off + j, none⟩ = some u)
    (B : Nat) (A : Option Addr) (m c : Nat) (news : List Value) (hx : a.eval x = .slice A m c) (hr : Rd w B A news) (hl : news.length = m * sz) (h1 : ∀ u ∈ news, u.oneCell' = true) (hm : 0 < m)
    (hfull : cap < n + m) (h63 : n + m ≤ maxLen) (hbytes : (n + m) * bytes ≤ 140737488355328)
    (h : ∀ (g c' : Nat) (w' : World), w'.ownsRow w.heap.size e sz (.slice (some ⟨g, 0, none⟩) (n + m) c') (n + m) (olds ++ news) → w.grownBy w' none → wpList P ops Q rest (a.put o.dst (.slice (some ⟨g, 0, none⟩) (n + m) c')) w') : wpList P ops Q (o :: rest) a w := by
  obtain ⟨i, z, q1, q2, q3, q4, q5, q6, q7⟩ := hE.out
  obtain ⟨b', off', rfl, hb', hc'⟩ := hr (by rw [hl]; exact Nat.mul_pos hm q7)
  refine wpList_append_grows w hgd s x t ho e i z sz bytes q1 q2 q3 q4 q5 q6 q7 (some ⟨b, off, none⟩) n cap olds hs (by simp) hlo ?_ ⟨b', off', none⟩ m c news hx hl (rd_cells (fun _ => ⟨b', off', rfl, hb', hc'⟩ : Rd w B (some ⟨b', off', none⟩) news)) h1 hfull h63 hbytes ?_
  · intro b2 hb2 j u hj
    injection hb2 with hb2
    subst hb2
    rw [Addr.add_lit]
    exact holds j u hj
  · intro v' w' ho' hg'
    rcases ho'.2 with ⟨_, h0⟩ | ⟨g, c', cur, hv, _⟩
    · omega
    · subst hv
      exact h g c' w' ho' hg'
end
set_option maxRecDepth 100000 in
set_option maxHeartbeats 6400000 in
theorem rep_old (B k b m x y h v : Int) (w : World) (hM : TabM w) (hT : TabI w) (hx : Wf x) (hy : Wf y) (hh : Wf h) (hv : Wf v) (hf : fineF k b m = true) (ht : toldF (mouF B) k b = true) (hm : Wf m) (hcod : codF B = 0)  : Calls Tryd.prog 48 #[.agg #[.int .i64 B], .agg #[.int .i64 k, .int .i64 b, .int .i64 m, .int .i64 x, .int .i64 y], .int .i64 h, .int .i64 v] w fun e w' => ∃ A N cp, e = .returned (.slice A N cp) ∧ Below w.heap.size w w' := by
  have bb : Below w.heap.size w ((w.alloc (.cells #[.int .i64 B] 24)).alloc (.cells #[.int .i64 k, .int .i64 b, .int .i64 m, .int .i64 x, .int .i64 y] 74)) := ((Below.refl _ _).alloc (Nat.le_refl _) _).alloc (by simp) _
  have n2 : EvAt ((w.alloc (.cells #[.int .i64 B] 24)).alloc (.cells #[.int .i64 k, .int .i64 b, .int .i64 m, .int .i64 x, .int .i64 y] 74)) (w.heap.size + 1) k b m x y := (two_new w _ _).2
  have hm0 : TabM ((w.alloc (.cells #[.int .i64 B] 24)).alloc (.cells #[.int .i64 k, .int .i64 b, .int .i64 m, .int .i64 x, .int .i64 y] 74)) := hM.below bb
  have HB := Lib.hid bb; have N := Lib.hid n2; have HM := Lib.hid hm0
  obtain ⟨q, hq⟩ : ∃ q, mouF B = q := ⟨_, rfl⟩
  obtain ⟨c, hc⟩ : ∃ c, codF B = c := ⟨_, rfl⟩
  have hqc := mou_cases B
  rw [hq] at hqc
  have HQ := Lib.hid hq; have HC := Lib.hid hc; have HQC := Lib.hid hqc
  clear bb n2 hm0 hqc hM
  rw [HQ.out] at ht
  have hsh : shapeF k b = true ∧ modsOk m = true := by unfold fineF at hf; simpa using hf
  have hmb := mods_bd m hm hsh.2
  have hkb := of_decide_eq_true hsh.1
  have hcx := clamp_wf x v hv
  have hcy := clamp_wf y h hh
  rw [HC.out] at hcod
  subst hcod
  obtain ⟨cx, hcxe⟩ : ∃ z, clampF x v = z := ⟨_, rfl⟩
  obtain ⟨cy, hcye⟩ : ∃ z, clampF y h = z := ⟨_, rfl⟩
  obtain ⟨n, hne⟩ : ∃ z, codeF q 0 k b m = z := ⟨_, rfl⟩
  have hnb : 0 ≤ n ∧ n ≤ 223 := by
    rw [← hne]
    unfold codeF
    repeat (first | split | omega)
  rw [hcxe] at hcx
  rw [hcye] at hcy
  obtain ⟨cx0, cx1⟩ := hcx
  obtain ⟨cy0, cy1⟩ := hcy
  obtain ⟨nb0, nb1⟩ := hnb
  have hk4 : k = 0 ∨ k = 1 ∨ k = 2 ∨ k = 3 := by omega
  have hb3 : 0 ≤ b ∧ b ≤ 3 := by omega
  have HK4 := Lib.hid hk4; have HB3' := Lib.hid hb3; have HMB := Lib.hid hmb
  have HFN := Lib.hid hf; have HTL := Lib.hid ht; have HCX := Lib.hid hcxe; have HCY := Lib.hid hcye; have HNE := Lib.hid hne
  have HX := Lib.hid hx; have HY := Lib.hid hy; have HH := Lib.hid hh; have HV := Lib.hid hv
  obtain ⟨sx, hsx, ⟨sx0, sx1⟩, ix⟩ := itoa_s (cx + 1) (by omega) (by omega)
  obtain ⟨sy, hsy, ⟨sy0, sy1⟩, iy⟩ := itoa_s (cy + 1) (by omega) (by omega)
  obtain ⟨sn, hsn, ⟨sn0, sn1⟩, inn⟩ := itoa_s (n) (by omega) (by omega)
  have IX := Lib.hid ix; have IY := Lib.hid iy; have IN := Lib.hid inn; have SX := Lib.hid hsx; have SY := Lib.hid hsy; have SN := Lib.hid hsn
  have HT0 := Lib.hid hT; have HT := Lib.hid (hT.below HB.out)
  clear hf ht hm hsh hmb hkb hk4 hb3 hcxe hcye hne hx hy hh hv ix iy inn hsx hsy hsn hT
  go_enter Tryd.func48, Tryd.ntmps48
  go_wp2_with fail
  refine (mouse_any B _ HM.out).mono ?_
  rintro e w1 ⟨rfl, hb⟩
  simp only [HQ.out, HC.out]
  have n1 := N.out.past hb
  have N1 := Lib.hid n1; have HB1 := Lib.hid (HB.out.trans (hb.mono HB.out.size)); have HT1 := Lib.hid (HT.out.below hb)
  obtain ⟨e0, e1, e2, e3, e4, g0, g1, g2, g3, g4⟩ := n1.cells
  clear n1 hb N HB HM HT
  go_wp2_with fail
  refine (fine_any k b m x y _).mono ?_
  rintro e w2 ⟨rfl, hb⟩
  simp only [HFN.out]
  have n1 := N1.out.past hb
  have N2 := Lib.hid n1; have HB2 := Lib.hid (HB1.out.trans (hb.mono HB1.out.size)); have HT2 := Lib.hid (HT1.out.below hb)
  clear e0 e1 e2 e3 e4 g0 g1 g2 g3 g4
  obtain ⟨e0, e1, e2, e3, e4, g0, g1, g2, g3, g4⟩ := n1.cells
  clear n1 hb N1 HB1 HT1
  go_wp2_with fail
  refine (told_any q k b m x y _ HQC.out).mono ?_
  rintro e w3 ⟨rfl, hb⟩
  simp only [HTL.out]
  have n1 := N2.out.past hb
  have N3 := Lib.hid n1; have HB3 := Lib.hid (HB2.out.trans (hb.mono HB2.out.size)); have HT3 := Lib.hid (HT2.out.below hb)
  clear e0 e1 e2 e3 e4 g0 g1 g2 g3 g4
  obtain ⟨e0, e1, e2, e3, e4, g0, g1, g2, g3, g4⟩ := n1.cells
  clear n1 hb N2 HB2 HT2
  go_wp2_with fail
  refine (clampE_any k b m x y h v _ HX.out HY.out HH.out HV.out).mono ?_
  rintro e w4 ⟨rfl, hb⟩
  simp only [HCX.out, HCY.out]
  have n1 := N3.out.past hb
  have hb4 := HB3.out.trans (hb.mono HB3.out.size)
  have n5 := n1.put k b m cx cy
  have b5 := below_put5 hb4 (show w.heap.size ≤ w.heap.size + 1 by omega) k b m cx cy
  have hz4 : w.heap.size + 1 < w4.heap.size := bk_lt n1
  have t5 := HT0.out.below b5
  clear e0 e1 e2 e3 e4 g0 g1 g2 g3 g4
  obtain ⟨e0, e1, e2, e3, e4, g0, g1, g2, g3, g4⟩ := n1.cells
  simp only [World.put5] at n5 b5 t5
  have N5 := Lib.hid n5; have HB5 := Lib.hid b5; have HT5 := Lib.hid t5
  clear n1 n5 b5 t5 hb hb4 N3 HB3 HT3
  go_wp2_with fail
  refine (code_any q 0 k b m cx cy _ (by rcases HQC.out with h | h | h | h | h <;> omega) (.inr (by omega)) (HK4.out) HB3'.out HMB.out).mono ?_
  rintro e w5 ⟨rfl, hb⟩
  simp only [HNE.out]
  have n6 := N5.out.past hb
  have hb6 := HB5.out.trans (hb.mono HB5.out.size)
  have ht6 := HT5.out.below hb
  clear e0 e1 e2 e3 e4 g0 g1 g2 g3 g4
  obtain ⟨e0, e1, e2, e3, e4, _⟩ := n6.cells
  have N6 := Lib.hid n6; have HB6 := Lib.hid hb6
  have RT : Hid (∀ u : After w5, TabI u.get) := Lib.hid (fun u => ht6.below u.below)
  have r0 := fun u : After w5 => u.cell e0
  have r3 := fun u : After w5 => u.cell e3
  have r4 := fun u : After w5 => u.cell e4
  clear e0 e1 e2 e3 e4 n6 hb6 ht6 hb N5 HB5 HT5
  go_wp2_with fail
  refine wp_region_after (by kernel_rfl) (by kernel_rfl) ?_
  repeat (go_big_quiet_step (first
    | (go_at_call_of 69 cx; exact Calls.after_of (IX.out _ (RT.out _)))
    | (go_at_call_of 69 cy; exact Calls.after_of (IY.out _ (RT.out _)))))
  refine wpQuiet_nil ?_
  rintro _ ⟨u, rfl⟩
  have c0 := r0 u; have c3 := r3 u; have c4 := r4 u
  have ht7 := RT.out u
  have hb7 := HB6.out.trans (u.below.mono HB6.out.size)
  clear r0 r3 r4 RT HB6 N6
  generalize u.get = w6 at c0 c3 c4 ht7 hb7 ⊢
  have HT7 := Lib.hid ht7; have HB7 := Lib.hid hb7
  clear ht7 hb7
  have hcv : (convert 72 72 (.slice (some ⟨w6.heap.size, 0, none⟩) 3 3)).run Tryd.prog (w6.alloc (.cells #[.int .u8 27, .int .u8 91, .int .u8 77] 5)) = .ok (.slice (some ⟨w6.heap.size, 0, none⟩) 3 3) (w6.alloc (.cells #[.int .u8 27, .int .u8 91, .int .u8 77] 5 (3, 4))) := Lib.run_convert_bytes_const (P := Tryd.prog) w6 72 5 #[.int .u8 27, .int .u8 91, .int .u8 77] 3 3 Tryd.underlying72 Tryd.underlying5
  have hw1 : ((w6.alloc (.cells #[.int .u8 27, .int .u8 91, .int .u8 77] 5 (3, 4))).alloc (.cells #[.int .u8 (n + 32), .int .u8 (cx + 33), .int .u8 (cy + 33)] 5)).heap[w6.heap.size]? = some (.cells #[.int .u8 27, .int .u8 91, .int .u8 77] 5 (3, 4)) := (two_new w6 _ _).1
  have hw2 : ((w6.alloc (.cells #[.int .u8 27, .int .u8 91, .int .u8 77] 5 (3, 4))).alloc (.cells #[.int .u8 (n + 32), .int .u8 (cx + 33), .int .u8 (cy + 33)] 5)).heap[w6.heap.size + 1]? = some (.cells #[.int .u8 (n + 32), .int .u8 (cx + 33), .int .u8 (cy + 33)] 5 (0, 0)) := (two_new w6 _ _).2
  have d3 : (w6.alloc (.cells #[.int .u8 27, .int .u8 91, .int .u8 77] 5 (3, 4))).cell? ⟨w.heap.size + 1, 3, none⟩ = some (.int .i64 cx) := past ((Below.refl _ _).alloc (Nat.le_refl _) (.cells #[.int .u8 27, .int .u8 91, .int .u8 77] 5 (3, 4))) c3
  have d4 : (w6.alloc (.cells #[.int .u8 27, .int .u8 91, .int .u8 77] 5 (3, 4))).cell? ⟨w.heap.size + 1, 4, none⟩ = some (.int .i64 cy) := past ((Below.refl _ _).alloc (Nat.le_refl _) (.cells #[.int .u8 27, .int .u8 91, .int .u8 77] 5 (3, 4))) c4
  have hold : ∀ (j : Nat) (u : Value), ([.int .u8 27, .int .u8 91, .int .u8 77] : List Value)[j]? = some u → ((w6.alloc (.cells #[.int .u8 27, .int .u8 91, .int .u8 77] 5 (3, 4))).alloc (.cells #[.int .u8 (n + 32), .int .u8 (cx + 33), .int .u8 (cy + 33)] 5)).cell? ⟨w6.heap.size, 0 + j, none⟩ = some u := fun j u hj => bk_cell hw1 (0 + j) u (by rw [Nat.zero_add, List.getElem?_toArray]; exact hj)
  have hrd : Rd ((w6.alloc (.cells #[.int .u8 27, .int .u8 91, .int .u8 77] 5 (3, 4))).alloc (.cells #[.int .u8 (n + 32), .int .u8 (cx + 33), .int .u8 (cy + 33)] 5)) (w6.heap.size + 2) (some ⟨w6.heap.size + 1, 0, none⟩) [.int .u8 (n + 32), .int .u8 (cx + 33), .int .u8 (cy + 33)] := rd_of_block (cs := [.int .u8 (n + 32), .int .u8 (cx + 33), .int .u8 (cy + 33)]) hw2 (by omega)
  have hbb : Below w6.heap.size w6 ((w6.alloc (.cells #[.int .u8 27, .int .u8 91, .int .u8 77] 5 (3, 4))).alloc (.cells #[.int .u8 (n + 32), .int .u8 (cx + 33), .int .u8 (cy + 33)] 5)) := ((Below.refl _ _).alloc (Nat.le_refl _) _).alloc (by simp) _
  have HOW := Lib.hid hold; have HRD := Lib.hid hrd; have HBB := Lib.hid hbb
  clear hold hrd hbb hw1 hw2
  go_wp2_with (at_builtin; go_loud (refine wpList_more (by rfl) (.tmp 84) (.tmp 96) 72 el_u8 (by rfl) w6.heap.size 0 3 3 [.int .u8 27, .int .u8 91, .int .u8 77] (by rfl) rfl HOW.out (w6.heap.size + 2) (some ⟨w6.heap.size + 1, 0, none⟩) 3 3 [.int .u8 (n + 32), .int .u8 (cx + 33), .int .u8 (cy + 33)] (by rfl) HRD.out rfl (by simp [Value.oneCell']) (by omega) (by omega) (by unfold maxLen; omega) (by omega) ?_); intro g5 c5 w9 ho5 hg5; refine Hid.out ?_)
  all_goals first
    | (go_ret; exact ⟨none, 0, 0, rfl, HB7.out⟩)
    | (go_ret; exact ⟨⟨none, 0, 0, rfl⟩, HB7.out⟩)
    | (have hb9 : Below w.heap.size w w9 := (HB7.out.trans (HBB.out.mono HB7.out.size)).trans (below_of_grown hg5 (by have := HB7.out.size; simp; omega) fun g hg => by simp at hg)
       refine Lib.hid ?_
       clear ho5 hg5
       go_wp2_with fail
       go_ret
       first | exact ⟨_, _, c5, rfl, hb9⟩ | exact ⟨⟨_, _, c5, rfl⟩, hb9⟩)
end Go.Proofs.YtcempbgbdlmjfaaDoor
