/-
  parse: the walk of escape.
-/
import Derived.Test.YtcempbgbdlmjfaaDoorP6Sq
namespace Go.Proofs.YtcempbgbdlmjfaaDoor
open Go.RowKit

set_option maxRecDepth 100000 in
set_option maxHeartbeats 1600000 in
theorem escape_91 (v : Sv) (c : Int) (w : World) (hv : v.Tx) (ha : v.s.a = 1) (hc : c = 91) : Calls Tryd.prog 96 #[v.val, .int .u8 c] w (StRet v w (escapeF v.s c).1 (escapeF v.s c).2) := by
  obtain ⟨⟨a0, inter, over, l, o, text, kind⟩, ib, tb, A, cc⟩ := v
  have HV := Lib.hid hv
  clear hv
  simp only at ha
  subst ha; subst hc
  have hf : escapeF ⟨1, inter, over, l, o, text, kind⟩ 91 = (atS 3, []) := by simp [escapeF]
  have HE := Lib.hid hf
  clear hf
  show Calls Tryd.prog 96 #[.agg #[.int .i64 1, .string ib, .bool over, .slice A l.length cc, .bool o, .string tb, .int .u8 kind], .int .u8 91] w _
  go_enter Tryd.func96, Tryd.ntmps96
  go_wp2
  refine bodyPost_ret (v := .tuple #[.agg #[.int .i64 3, .string ⟨#[]⟩, .bool false, .slice none 0 0, .bool false, .string ⟨#[]⟩, .int .u8 0], .slice none 0 0]) (by simp [results, Tryd.results96, go_sem]) rfl ?_
  rw [HE.out]
  exact ⟨svAt 3, none, 0, [], rfl, rfl, svAt_tx _, ParOk.nil _ _ _, Acts.nil _ _ _ _, Nat.le_refl _, ((Below.refl _ _).alloc (Nat.le_refl _) _).alloc (by simp) _⟩
set_option maxRecDepth 100000 in
set_option maxHeartbeats 1600000 in
theorem escape_93 (v : Sv) (c : Int) (w : World) (hv : v.Tx) (ha : v.s.a = 1) (hc : c = 93) : Calls Tryd.prog 96 #[v.val, .int .u8 c] w (StRet v w (escapeF v.s c).1 (escapeF v.s c).2) := by
  obtain ⟨⟨a0, inter, over, l, o, text, kind⟩, ib, tb, A, cc⟩ := v
  have HV := Lib.hid hv
  clear hv
  simp only at ha
  subst ha; subst hc
  have hf : escapeF ⟨1, inter, over, l, o, text, kind⟩ 93 = (atS 7, []) := by simp [escapeF]
  have HE := Lib.hid hf
  clear hf
  show Calls Tryd.prog 96 #[.agg #[.int .i64 1, .string ib, .bool over, .slice A l.length cc, .bool o, .string tb, .int .u8 kind], .int .u8 93] w _
  go_enter Tryd.func96, Tryd.ntmps96
  go_wp2
  refine bodyPost_ret (v := .tuple #[.agg #[.int .i64 7, .string ⟨#[]⟩, .bool false, .slice none 0 0, .bool false, .string ⟨#[]⟩, .int .u8 0], .slice none 0 0]) (by simp [results, Tryd.results96, go_sem]) rfl ?_
  rw [HE.out]
  exact ⟨svAt 7, none, 0, [], rfl, rfl, svAt_tx _, ParOk.nil _ _ _, Acts.nil _ _ _ _, Nat.le_refl _, ((Below.refl _ _).alloc (Nat.le_refl _) _).alloc (by simp) _⟩
set_option maxRecDepth 100000 in
set_option maxHeartbeats 1600000 in
theorem escape_80 (v : Sv) (c : Int) (w : World) (hv : v.Tx) (ha : v.s.a = 1) (hc : c = 80) : Calls Tryd.prog 96 #[v.val, .int .u8 c] w (StRet v w (escapeF v.s c).1 (escapeF v.s c).2) := by
  obtain ⟨⟨a0, inter, over, l, o, text, kind⟩, ib, tb, A, cc⟩ := v
  have HV := Lib.hid hv
  clear hv
  simp only at ha
  subst ha; subst hc
  have hf : escapeF ⟨1, inter, over, l, o, text, kind⟩ 80 = (atS 8, []) := by simp [escapeF]
  have HE := Lib.hid hf
  clear hf
  show Calls Tryd.prog 96 #[.agg #[.int .i64 1, .string ib, .bool over, .slice A l.length cc, .bool o, .string tb, .int .u8 kind], .int .u8 80] w _
  go_enter Tryd.func96, Tryd.ntmps96
  go_wp2
  refine bodyPost_ret (v := .tuple #[.agg #[.int .i64 8, .string ⟨#[]⟩, .bool false, .slice none 0 0, .bool false, .string ⟨#[]⟩, .int .u8 0], .slice none 0 0]) (by simp [results, Tryd.results96, go_sem]) rfl ?_
  rw [HE.out]
  exact ⟨svAt 8, none, 0, [], rfl, rfl, svAt_tx _, ParOk.nil _ _ _, Acts.nil _ _ _ _, Nat.le_refl _, ((Below.refl _ _).alloc (Nat.le_refl _) _).alloc (by simp) _⟩
set_option maxRecDepth 100000 in
set_option maxHeartbeats 1600000 in
theorem escape_88 (v : Sv) (c : Int) (w : World) (hv : v.Tx) (ha : v.s.a = 1) (hc : c = 88) : Calls Tryd.prog 96 #[v.val, .int .u8 c] w (StRet v w (escapeF v.s c).1 (escapeF v.s c).2) := by
  obtain ⟨⟨a0, inter, over, l, o, text, kind⟩, ib, tb, A, cc⟩ := v
  have HV := Lib.hid hv
  clear hv
  simp only at ha
  subst ha; subst hc
  have hf : escapeF ⟨1, inter, over, l, o, text, kind⟩ 88 = (sosS 88, []) := by simp [escapeF]
  have HE := Lib.hid hf
  clear hf
  show Calls Tryd.prog 96 #[.agg #[.int .i64 1, .string ib, .bool over, .slice A l.length cc, .bool o, .string tb, .int .u8 kind], .int .u8 88] w _
  go_enter Tryd.func96, Tryd.ntmps96
  go_wp2
  refine bodyPost_ret (v := .tuple #[.agg #[.int .i64 9, .string ⟨#[]⟩, .bool false, .slice none 0 0, .bool false, .string ⟨#[]⟩, .int .u8 88], .slice none 0 0]) (by simp [results, Tryd.results96, go_sem]) rfl ?_
  rw [HE.out]
  exact ⟨svSos 88, none, 0, [], rfl, rfl, svSos_tx _ (by omega), ParOk.nil _ _ _, Acts.nil _ _ _ _, Nat.le_refl _, ((Below.refl _ _).alloc (Nat.le_refl _) _).alloc (by simp) _⟩
set_option maxRecDepth 100000 in
set_option maxHeartbeats 1600000 in
theorem escape_94 (v : Sv) (c : Int) (w : World) (hv : v.Tx) (ha : v.s.a = 1) (hc : c = 94) : Calls Tryd.prog 96 #[v.val, .int .u8 c] w (StRet v w (escapeF v.s c).1 (escapeF v.s c).2) := by
  obtain ⟨⟨a0, inter, over, l, o, text, kind⟩, ib, tb, A, cc⟩ := v
  have HV := Lib.hid hv
  clear hv
  simp only at ha
  subst ha; subst hc
  have hf : escapeF ⟨1, inter, over, l, o, text, kind⟩ 94 = (sosS 94, []) := by simp [escapeF]
  have HE := Lib.hid hf
  clear hf
  show Calls Tryd.prog 96 #[.agg #[.int .i64 1, .string ib, .bool over, .slice A l.length cc, .bool o, .string tb, .int .u8 kind], .int .u8 94] w _
  go_enter Tryd.func96, Tryd.ntmps96
  go_wp2
  refine bodyPost_ret (v := .tuple #[.agg #[.int .i64 9, .string ⟨#[]⟩, .bool false, .slice none 0 0, .bool false, .string ⟨#[]⟩, .int .u8 94], .slice none 0 0]) (by simp [results, Tryd.results96, go_sem]) rfl ?_
  rw [HE.out]
  exact ⟨svSos 94, none, 0, [], rfl, rfl, svSos_tx _ (by omega), ParOk.nil _ _ _, Acts.nil _ _ _ _, Nat.le_refl _, ((Below.refl _ _).alloc (Nat.le_refl _) _).alloc (by simp) _⟩
set_option maxRecDepth 100000 in
set_option maxHeartbeats 1600000 in
theorem escape_95 (v : Sv) (c : Int) (w : World) (hv : v.Tx) (ha : v.s.a = 1) (hc : c = 95) : Calls Tryd.prog 96 #[v.val, .int .u8 c] w (StRet v w (escapeF v.s c).1 (escapeF v.s c).2) := by
  obtain ⟨⟨a0, inter, over, l, o, text, kind⟩, ib, tb, A, cc⟩ := v
  have HV := Lib.hid hv
  clear hv
  simp only at ha
  subst ha; subst hc
  have hf : escapeF ⟨1, inter, over, l, o, text, kind⟩ 95 = (sosS 95, []) := by simp [escapeF]
  have HE := Lib.hid hf
  clear hf
  show Calls Tryd.prog 96 #[.agg #[.int .i64 1, .string ib, .bool over, .slice A l.length cc, .bool o, .string tb, .int .u8 kind], .int .u8 95] w _
  go_enter Tryd.func96, Tryd.ntmps96
  go_wp2
  refine bodyPost_ret (v := .tuple #[.agg #[.int .i64 9, .string ⟨#[]⟩, .bool false, .slice none 0 0, .bool false, .string ⟨#[]⟩, .int .u8 95], .slice none 0 0]) (by simp [results, Tryd.results96, go_sem]) rfl ?_
  rw [HE.out]
  exact ⟨svSos 95, none, 0, [], rfl, rfl, svSos_tx _ (by omega), ParOk.nil _ _ _, Acts.nil _ _ _ _, Nat.le_refl _, ((Below.refl _ _).alloc (Nat.le_refl _) _).alloc (by simp) _⟩
set_option maxRecDepth 100000 in
set_option maxHeartbeats 1600000 in
theorem escape_one_true (v : Sv) (c : Int) (w : World) (hv : v.Tx) (hlo : 47 < c) (hc1 : c < 256) (hov : v.s.over = true) (ha : v.s.a = 1) (n0 : c ≠ 91) (n1 : c ≠ 93) (n2 : c ≠ 80) (n3 : c ≠ 88) (n4 : c ≠ 94) (n5 : c ≠ 95) : Calls Tryd.prog 96 #[v.val, .int .u8 c] w (StRet v w (escapeF v.s c).1 (escapeF v.s c).2) := by
  obtain ⟨⟨a0, inter, over, l, o, text, kind⟩, ib, tb, A, cc⟩ := v
  have HV := Lib.hid hv
  clear hv
  simp only at ha hov
  subst hov
  subst ha
  have f0 : (c == 91) = false := beq_eq_false_iff_ne.2 n0
  have f1 : (c == 93) = false := beq_eq_false_iff_ne.2 n1
  have f2 : (c == 80) = false := beq_eq_false_iff_ne.2 n2
  have f3 : (c == 88) = false := beq_eq_false_iff_ne.2 n3
  have f4 : (c == 94) = false := beq_eq_false_iff_ne.2 n4
  have f5 : (c == 95) = false := beq_eq_false_iff_ne.2 n5
  have hf : escapeF ⟨1, inter, true, l, o, text, kind⟩ c = (st0, []) := by unfold escapeF; rw [if_neg (by omega)]; simp [n0, n1, n2, n3, n4, n5]
  clear n0 n1 n2 n3 n4 n5
  have HE := Lib.hid hf
  clear hf
  show Calls Tryd.prog 96 #[.agg #[.int .i64 1, .string ib, .bool true, .slice A l.length cc, .bool o, .string tb, .int .u8 kind], .int .u8 c] w _
  go_enter Tryd.func96, Tryd.ntmps96
  go_wp2
  refine bodyPost_ret (v := .tuple #[.agg #[.int .i64 0, .string ⟨#[]⟩, .bool false, .slice none 0 0, .bool false, .string ⟨#[]⟩, .int .u8 0], .slice none 0 0]) (by simp [results, Tryd.results96, go_sem]) rfl ?_
  rw [HE.out]
  exact ⟨sv0, none, 0, [], rfl, rfl, sv0_tx, ParOk.nil _ _ _, Acts.nil _ _ _ _, Nat.le_refl _, ((Below.refl _ _).alloc (Nat.le_refl _) _).alloc (by simp) _⟩
set_option maxRecDepth 100000 in
set_option maxHeartbeats 1600000 in
theorem escape_one_false (v : Sv) (c : Int) (w : World) (hv : v.Tx) (hlo : 47 < c) (hc1 : c < 256) (hov : v.s.over = false) (ha : v.s.a = 1) (n0 : c ≠ 91) (n1 : c ≠ 93) (n2 : c ≠ 80) (n3 : c ≠ 88) (n4 : c ≠ 94) (n5 : c ≠ 95) : Calls Tryd.prog 96 #[v.val, .int .u8 c] w (StRet v w (escapeF v.s c).1 (escapeF v.s c).2) := by
  obtain ⟨⟨a0, inter, over, l, o, text, kind⟩, ib, tb, A, cc⟩ := v
  have HV := Lib.hid hv
  clear hv
  simp only at ha hov
  subst hov
  subst ha
  have f0 : (c == 91) = false := beq_eq_false_iff_ne.2 n0
  have f1 : (c == 93) = false := beq_eq_false_iff_ne.2 n1
  have f2 : (c == 80) = false := beq_eq_false_iff_ne.2 n2
  have f3 : (c == 88) = false := beq_eq_false_iff_ne.2 n3
  have f4 : (c == 94) = false := beq_eq_false_iff_ne.2 n4
  have f5 : (c == 95) = false := beq_eq_false_iff_ne.2 n5
  have hf : escapeF ⟨1, inter, false, l, o, text, kind⟩ c = (st0, [axEsc ⟨1, inter, false, l, o, text, kind⟩ c]) := by unfold escapeF; rw [if_neg (by omega)]; simp [n0, n1, n2, n3, n4, n5]
  clear n0 n1 n2 n3 n4 n5
  have HE := Lib.hid hf
  clear hf
  show Calls Tryd.prog 96 #[.agg #[.int .i64 1, .string ib, .bool false, .slice A l.length cc, .bool o, .string tb, .int .u8 kind], .int .u8 c] w _
  go_enter Tryd.func96, Tryd.ntmps96
  go_upto_region 17 with (fail)
  go_region_law (fail)
  all_goals go_wp2
  all_goals
    refine bodyPost_ret (v := .tuple #[.agg #[.int .i64 0, .string ⟨#[]⟩, .bool false, .slice none 0 0, .bool false, .string ⟨#[]⟩, .int .u8 0], .slice (some ⟨w.heap.size + 1 + 1, 0, none⟩) 1 1]) (by simp [results, Tryd.results96, go_sem]) rfl ?_
    rw [HE.out]
    have ha := acts_new ⟨⟨1, inter, false, l, o, text, kind⟩, ib, tb, A, cc⟩ w.heap.size ((w.alloc (.cells #[.int .i64 1, .string ib, .bool false, .slice A l.length cc, .bool o, .string tb, .int .u8 kind] 82)).alloc (.cells #[.int .i64 0, .string ⟨#[]⟩, .bool false, .slice none 0 0, .bool false, .string ⟨#[]⟩, .int .u8 0] 82)) ⟨axEsc ⟨1, inter, false, l, o, text, kind⟩ c, ib, ⟨#[]⟩, none, 0⟩ 96 ⟨HV.out.ib, rfl⟩ (fun _ => ParOk.nil _ _ _) (by simp; omega)
    simp only [size_two] at ha
    exact ⟨sv0, _, 1, _, rfl, rfl, sv0_tx, ParOk.nil _ _ _, ha, Nat.le_refl _, (((((Below.refl _ _).alloc (Nat.le_refl _) _).alloc (by simp) _).alloc (by simp; omega) _).drew)⟩
set_option maxRecDepth 100000 in
set_option maxHeartbeats 1600000 in
theorem escape_two_true (v : Sv) (c : Int) (w : World) (hv : v.Tx) (hlo : 47 < c) (hc1 : c < 256) (hov : v.s.over = true) (ha : v.s.a ≠ 1) : Calls Tryd.prog 96 #[v.val, .int .u8 c] w (StRet v w (escapeF v.s c).1 (escapeF v.s c).2) := by
  obtain ⟨⟨a0, inter, over, l, o, text, kind⟩, ib, tb, A, cc⟩ := v
  have HV := Lib.hid hv
  clear hv
  simp only at ha hov
  subst hov
  have f0 : (a0 == 1) = false := beq_eq_false_iff_ne.2 ha
  have hf : escapeF ⟨a0, inter, true, l, o, text, kind⟩ c = (st0, []) := by unfold escapeF; rw [if_neg (by omega)]; simp [ha]
  clear ha
  have HE := Lib.hid hf
  clear hf
  show Calls Tryd.prog 96 #[.agg #[.int .i64 a0, .string ib, .bool true, .slice A l.length cc, .bool o, .string tb, .int .u8 kind], .int .u8 c] w _
  go_enter Tryd.func96, Tryd.ntmps96
  go_wp2
  refine bodyPost_ret (v := .tuple #[.agg #[.int .i64 0, .string ⟨#[]⟩, .bool false, .slice none 0 0, .bool false, .string ⟨#[]⟩, .int .u8 0], .slice none 0 0]) (by simp [results, Tryd.results96, go_sem]) rfl ?_
  rw [HE.out]
  exact ⟨sv0, none, 0, [], rfl, rfl, sv0_tx, ParOk.nil _ _ _, Acts.nil _ _ _ _, Nat.le_refl _, ((Below.refl _ _).alloc (Nat.le_refl _) _).alloc (by simp) _⟩
set_option maxRecDepth 100000 in
set_option maxHeartbeats 1600000 in
theorem escape_two_false (v : Sv) (c : Int) (w : World) (hv : v.Tx) (hlo : 47 < c) (hc1 : c < 256) (hov : v.s.over = false) (ha : v.s.a ≠ 1) : Calls Tryd.prog 96 #[v.val, .int .u8 c] w (StRet v w (escapeF v.s c).1 (escapeF v.s c).2) := by
  obtain ⟨⟨a0, inter, over, l, o, text, kind⟩, ib, tb, A, cc⟩ := v
  have HV := Lib.hid hv
  clear hv
  simp only at ha hov
  subst hov
  have f0 : (a0 == 1) = false := beq_eq_false_iff_ne.2 ha
  have hf : escapeF ⟨a0, inter, false, l, o, text, kind⟩ c = (st0, [axEsc ⟨a0, inter, false, l, o, text, kind⟩ c]) := by unfold escapeF; rw [if_neg (by omega)]; simp [ha]
  clear ha
  have HE := Lib.hid hf
  clear hf
  show Calls Tryd.prog 96 #[.agg #[.int .i64 a0, .string ib, .bool false, .slice A l.length cc, .bool o, .string tb, .int .u8 kind], .int .u8 c] w _
  go_enter Tryd.func96, Tryd.ntmps96
  go_upto_region 17 with (fail)
  go_region_law (fail)
  all_goals go_wp2
  all_goals
    refine bodyPost_ret (v := .tuple #[.agg #[.int .i64 0, .string ⟨#[]⟩, .bool false, .slice none 0 0, .bool false, .string ⟨#[]⟩, .int .u8 0], .slice (some ⟨w.heap.size + 1 + 1, 0, none⟩) 1 1]) (by simp [results, Tryd.results96, go_sem]) rfl ?_
    rw [HE.out]
    have ha := acts_new ⟨⟨a0, inter, false, l, o, text, kind⟩, ib, tb, A, cc⟩ w.heap.size ((w.alloc (.cells #[.int .i64 a0, .string ib, .bool false, .slice A l.length cc, .bool o, .string tb, .int .u8 kind] 82)).alloc (.cells #[.int .i64 0, .string ⟨#[]⟩, .bool false, .slice none 0 0, .bool false, .string ⟨#[]⟩, .int .u8 0] 82)) ⟨axEsc ⟨a0, inter, false, l, o, text, kind⟩ c, ib, ⟨#[]⟩, none, 0⟩ 96 ⟨HV.out.ib, rfl⟩ (fun _ => ParOk.nil _ _ _) (by simp; omega)
    simp only [size_two] at ha
    exact ⟨sv0, _, 1, _, rfl, rfl, sv0_tx, ParOk.nil _ _ _, ha, Nat.le_refl _, (((((Below.refl _ _).alloc (Nat.le_refl _) _).alloc (by simp) _).alloc (by simp; omega) _).drew)⟩
theorem escape_any (v : Sv) (c : Int) (w : World) (hv : v.Tx) (c0 : 0 ≤ c) (c1 : c < 256) : Calls Tryd.prog 96 #[v.val, .int .u8 c] w (StRet v w (escapeF v.s c).1 (escapeF v.s c).2) := by
  by_cases h : c ≤ 47
  · exact escape_low v c w hv c0 h
  have hlo : 47 < c := by omega
  have hov : v.s.over = true ∨ v.s.over = false := by cases v.s.over <;> simp
  by_cases ha : v.s.a = 1
  · by_cases n0 : c = 91
    · exact escape_91 v c w hv ha n0
    by_cases n1 : c = 93
    · exact escape_93 v c w hv ha n1
    by_cases n2 : c = 80
    · exact escape_80 v c w hv ha n2
    by_cases n3 : c = 88
    · exact escape_88 v c w hv ha n3
    by_cases n4 : c = 94
    · exact escape_94 v c w hv ha n4
    by_cases n5 : c = 95
    · exact escape_95 v c w hv ha n5
    rcases hov with hov | hov
    · exact escape_one_true v c w hv hlo c1 hov ha n0 n1 n2 n3 n4 n5
    · exact escape_one_false v c w hv hlo c1 hov ha n0 n1 n2 n3 n4 n5
  · rcases hov with hov | hov
    · exact escape_two_true v c w hv hlo c1 hov ha
    · exact escape_two_false v c w hv hlo c1 hov ha
end Go.Proofs.YtcempbgbdlmjfaaDoor
