/-
  parse: the walk of escape.
  parse: the walk of numbers.
  parse: the walk of graphic.
-/
import Derived.Test.YtcempbgbdlmjfaaDoorP6Sq
namespace Go.Proofs.YtcempbgbdlmjfaaDoor
open Go.RowKit

set_option maxRecDepth 100000 in
set_option maxHeartbeats 1600000 in
theorem escape_91 (v : Sv) (c : Int) (w : World) (hv : v.Tx) (ha : v.s.a = 1) (hc : c = 91) : Calls Tryd.prog 96 #[v.val, .int .u8 c] w (StRet v w (escapeF v.s c).1 (escapeF v.s c).2) := by
  obtain ⟨⟨a0, inter, over, l, o, text, kind⟩, ib, tb, A, cc⟩ := v
  have HV := Lib.hid hv
  clear hv
  simp only at ha
  subst ha; subst hc
  have hf : escapeF ⟨1, inter, over, l, o, text, kind⟩ 91 = (atS 3, []) := by simp [escapeF]
  have HE := Lib.hid hf
  clear hf
  show Calls Tryd.prog 96 #[.agg #[.int .i64 1, .string ib, .bool over, .slice A l.length cc, .bool o, .string tb, .int .u8 kind], .int .u8 91] w _
  go_enter Tryd.func96, Tryd.ntmps96
  go_wp2
  refine bodyPost_ret (v := .tuple #[.agg #[.int .i64 3, .string ⟨#[]⟩, .bool false, .slice none 0 0, .bool false, .string ⟨#[]⟩, .int .u8 0], .slice none 0 0]) (by simp [results, Tryd.results96, go_sem]) rfl ?_
  rw [HE.out]
  exact ⟨svAt 3, none, 0, [], rfl, rfl, svAt_tx _, ParOk.nil _ _ _, Acts.nil _ _ _ _, Nat.le_refl _, ((Below.refl _ _).alloc (Nat.le_refl _) _).alloc (by simp) _⟩
set_option maxRecDepth 100000 in
set_option maxHeartbeats 1600000 in
theorem escape_93 (v : Sv) (c : Int) (w : World) (hv : v.Tx) (ha : v.s.a = 1) (hc : c = 93) : Calls Tryd.prog 96 #[v.val, .int .u8 c] w (StRet v w (escapeF v.s c).1 (escapeF v.s c).2) := by
  obtain ⟨⟨a0, inter, over, l, o, text, kind⟩, ib, tb, A, cc⟩ := v
  have HV := Lib.hid hv
  clear hv
  simp only at ha
  subst ha; subst hc
  have hf : escapeF ⟨1, inter, over, l, o, text, kind⟩ 93 = (atS 7, []) := by simp [escapeF]
  have HE := Lib.hid hf
  clear hf
  show Calls Tryd.prog 96 #[.agg #[.int .i64 1, .string ib, .bool over, .slice A l.length cc, .bool o, .string tb, .int .u8 kind], .int .u8 93] w _
  go_enter Tryd.func96, Tryd.ntmps96
  go_wp2
  refine bodyPost_ret (v := .tuple #[.agg #[.int .i64 7, .string ⟨#[]⟩, .bool false, .slice none 0 0, .bool false, .string ⟨#[]⟩, .int .u8 0], .slice none 0 0]) (by simp [results, Tryd.results96, go_sem]) rfl ?_
  rw [HE.out]
  exact ⟨svAt 7, none, 0, [], rfl, rfl, svAt_tx _, ParOk.nil _ _ _, Acts.nil _ _ _ _, Nat.le_refl _, ((Below.refl _ _).alloc (Nat.le_refl _) _).alloc (by simp) _⟩
set_option maxRecDepth 100000 in
set_option maxHeartbeats 1600000 in
theorem escape_80 (v : Sv) (c : Int) (w : World) (hv : v.Tx) (ha : v.s.a = 1) (hc : c = 80) : Calls Tryd.prog 96 #[v.val, .int .u8 c] w (StRet v w (escapeF v.s c).1 (escapeF v.s c).2) := by
  obtain ⟨⟨a0, inter, over, l, o, text, kind⟩, ib, tb, A, cc⟩ := v
  have HV := Lib.hid hv
  clear hv
  simp only at ha
  subst ha; subst hc
  have hf : escapeF ⟨1, inter, over, l, o, text, kind⟩ 80 = (atS 8, []) := by simp [escapeF]
  have HE := Lib.hid hf
  clear hf
  show Calls Tryd.prog 96 #[.agg #[.int .i64 1, .string ib, .bool over, .slice A l.length cc, .bool o, .string tb, .int .u8 kind], .int .u8 80] w _
  go_enter Tryd.func96, Tryd.ntmps96
  go_wp2
  refine bodyPost_ret (v := .tuple #[.agg #[.int .i64 8, .string ⟨#[]⟩, .bool false, .slice none 0 0, .bool false, .string ⟨#[]⟩, .int .u8 0], .slice none 0 0]) (by simp [results, Tryd.results96, go_sem]) rfl ?_
  rw [HE.out]
  exact ⟨svAt 8, none, 0, [], rfl, rfl, svAt_tx _, ParOk.nil _ _ _, Acts.nil _ _ _ _, Nat.le_refl _, ((Below.refl _ _).alloc (Nat.le_refl _) _).alloc (by simp) _⟩
set_option maxRecDepth 100000 in
set_option maxHeartbeats 1600000 in
theorem escape_88 (v : Sv) (c : Int) (w : World) (hv : v.Tx) (ha : v.s.a = 1) (hc : c = 88) : Calls Tryd.prog 96 #[v.val, .int .u8 c] w (StRet v w (escapeF v.s c).1 (escapeF v.s c).2) := by
  obtain ⟨⟨a0, inter, over, l, o, text, kind⟩, ib, tb, A, cc⟩ := v
  have HV := Lib.hid hv
  clear hv
  simp only at ha
  subst ha; subst hc
  have hf : escapeF ⟨1, inter, over, l, o, text, kind⟩ 88 = (sosS 88, []) := by simp [escapeF]
  have HE := Lib.hid hf
  clear hf
  show Calls Tryd.prog 96 #[.agg #[.int .i64 1, .string ib, .bool over, .slice A l.length cc, .bool o, .string tb, .int .u8 kind], .int .u8 88] w _
  go_enter Tryd.func96, Tryd.ntmps96
  go_wp2
  refine bodyPost_ret (v := .tuple #[.agg #[.int .i64 9, .string ⟨#[]⟩, .bool false, .slice none 0 0, .bool false, .string ⟨#[]⟩, .int .u8 88], .slice none 0 0]) (by simp [results, Tryd.results96, go_sem]) rfl ?_
  rw [HE.out]
  exact ⟨svSos 88, none, 0, [], rfl, rfl, svSos_tx _ (by omega), ParOk.nil _ _ _, Acts.nil _ _ _ _, Nat.le_refl _, ((Below.refl _ _).alloc (Nat.le_refl _) _).alloc (by simp) _⟩
set_option maxRecDepth 100000 in
set_option maxHeartbeats 1600000 in
theorem escape_94 (v : Sv) (c : Int) (w : World) (hv : v.Tx) (ha : v.s.a = 1) (hc : c = 94) : Calls Tryd.prog 96 #[v.val, .int .u8 c] w (StRet v w (escapeF v.s c).1 (escapeF v.s c).2) := by
  obtain ⟨⟨a0, inter, over, l, o, text, kind⟩, ib, tb, A, cc⟩ := v
  have HV := Lib.hid hv
  clear hv
  simp only at ha
  subst ha; subst hc
  have hf : escapeF ⟨1, inter, over, l, o, text, kind⟩ 94 = (sosS 94, []) := by simp [escapeF]
  have HE := Lib.hid hf
  clear hf
  show Calls Tryd.prog 96 #[.agg #[.int .i64 1, .string ib, .bool over, .slice A l.length cc, .bool o, .string tb, .int .u8 kind], .int .u8 94] w _
  go_enter Tryd.func96, Tryd.ntmps96
  go_wp2
  refine bodyPost_ret (v := .tuple #[.agg #[.int .i64 9, .string ⟨#[]⟩, .bool false, .slice none 0 0, .bool false, .string ⟨#[]⟩, .int .u8 94], .slice none 0 0]) (by simp [results, Tryd.results96, go_sem]) rfl ?_
  rw [HE.out]
  exact ⟨svSos 94, none, 0, [], rfl, rfl, svSos_tx _ (by omega), ParOk.nil _ _ _, Acts.nil _ _ _ _, Nat.le_refl _, ((Below.refl _ _).alloc (Nat.le_refl _) _).alloc (by simp) _⟩
set_option maxRecDepth 100000 in
set_option maxHeartbeats 1600000 in
theorem escape_95 (v : Sv) (c : Int) (w : World) (hv : v.Tx) (ha : v.s.a = 1) (hc : c = 95) : Calls Tryd.prog 96 #[v.val, .int .u8 c] w (StRet v w (escapeF v.s c).1 (escapeF v.s c).2) := by
  obtain ⟨⟨a0, inter, over, l, o, text, kind⟩, ib, tb, A, cc⟩ := v
  have HV := Lib.hid hv
  clear hv
  simp only at ha
  subst ha; subst hc
  have hf : escapeF ⟨1, inter, over, l, o, text, kind⟩ 95 = (sosS 95, []) := by simp [escapeF]
  have HE := Lib.hid hf
  clear hf
  show Calls Tryd.prog 96 #[.agg #[.int .i64 1, .string ib, .bool over, .slice A l.length cc, .bool o, .string tb, .int .u8 kind], .int .u8 95] w _
  go_enter Tryd.func96, Tryd.ntmps96
  go_wp2
  refine bodyPost_ret (v := .tuple #[.agg #[.int .i64 9, .string ⟨#[]⟩, .bool false, .slice none 0 0, .bool false, .string ⟨#[]⟩, .int .u8 95], .slice none 0 0]) (by simp [results, Tryd.results96, go_sem]) rfl ?_
  rw [HE.out]
  exact ⟨svSos 95, none, 0, [], rfl, rfl, svSos_tx _ (by omega), ParOk.nil _ _ _, Acts.nil _ _ _ _, Nat.le_refl _, ((Below.refl _ _).alloc (Nat.le_refl _) _).alloc (by simp) _⟩
set_option maxRecDepth 100000 in
set_option maxHeartbeats 1600000 in
theorem escape_one_true (v : Sv) (c : Int) (w : World) (hv : v.Tx) (hlo : 47 < c) (hc1 : c < 256) (hov : v.s.over = true) (ha : v.s.a = 1) (n0 : c ≠ 91) (n1 : c ≠ 93) (n2 : c ≠ 80) (n3 : c ≠ 88) (n4 : c ≠ 94) (n5 : c ≠ 95) : Calls Tryd.prog 96 #[v.val, .int .u8 c] w (StRet v w (escapeF v.s c).1 (escapeF v.s c).2) := by
  obtain ⟨⟨a0, inter, over, l, o, text, kind⟩, ib, tb, A, cc⟩ := v
  have HV := Lib.hid hv
  clear hv
  simp only at ha hov
  subst hov
  subst ha
  have f0 : (c == 91) = false := beq_eq_false_iff_ne.2 n0
  have f1 : (c == 93) = false := beq_eq_false_iff_ne.2 n1
  have f2 : (c == 80) = false := beq_eq_false_iff_ne.2 n2
  have f3 : (c == 88) = false := beq_eq_false_iff_ne.2 n3
  have f4 : (c == 94) = false := beq_eq_false_iff_ne.2 n4
  have f5 : (c == 95) = false := beq_eq_false_iff_ne.2 n5
  have hf : escapeF ⟨1, inter, true, l, o, text, kind⟩ c = (st0, []) := by unfold escapeF; rw [if_neg (by omega)]; simp [n0, n1, n2, n3, n4, n5]
  clear n0 n1 n2 n3 n4 n5
  have HE := Lib.hid hf
  clear hf
  show Calls Tryd.prog 96 #[.agg #[.int .i64 1, .string ib, .bool true, .slice A l.length cc, .bool o, .string tb, .int .u8 kind], .int .u8 c] w _
  go_enter Tryd.func96, Tryd.ntmps96
  go_wp2
  refine bodyPost_ret (v := .tuple #[.agg #[.int .i64 0, .string ⟨#[]⟩, .bool false, .slice none 0 0, .bool false, .string ⟨#[]⟩, .int .u8 0], .slice none 0 0]) (by simp [results, Tryd.results96, go_sem]) rfl ?_
  rw [HE.out]
  exact ⟨sv0, none, 0, [], rfl, rfl, sv0_tx, ParOk.nil _ _ _, Acts.nil _ _ _ _, Nat.le_refl _, ((Below.refl _ _).alloc (Nat.le_refl _) _).alloc (by simp) _⟩
set_option maxRecDepth 100000 in
set_option maxHeartbeats 1600000 in
theorem escape_one_false (v : Sv) (c : Int) (w : World) (hv : v.Tx) (hlo : 47 < c) (hc1 : c < 256) (hov : v.s.over = false) (ha : v.s.a = 1) (n0 : c ≠ 91) (n1 : c ≠ 93) (n2 : c ≠ 80) (n3 : c ≠ 88) (n4 : c ≠ 94) (n5 : c ≠ 95) : Calls Tryd.prog 96 #[v.val, .int .u8 c] w (StRet v w (escapeF v.s c).1 (escapeF v.s c).2) := by
  obtain ⟨⟨a0, inter, over, l, o, text, kind⟩, ib, tb, A, cc⟩ := v
  have HV := Lib.hid hv
  clear hv
  simp only at ha hov
  subst hov
  subst ha
  have f0 : (c == 91) = false := beq_eq_false_iff_ne.2 n0
  have f1 : (c == 93) = false := beq_eq_false_iff_ne.2 n1
  have f2 : (c == 80) = false := beq_eq_false_iff_ne.2 n2
  have f3 : (c == 88) = false := beq_eq_false_iff_ne.2 n3
  have f4 : (c == 94) = false := beq_eq_false_iff_ne.2 n4
  have f5 : (c == 95) = false := beq_eq_false_iff_ne.2 n5
  have hf : escapeF ⟨1, inter, false, l, o, text, kind⟩ c = (st0, [axEsc ⟨1, inter, false, l, o, text, kind⟩ c]) := by unfold escapeF; rw [if_neg (by omega)]; simp [n0, n1, n2, n3, n4, n5]
  clear n0 n1 n2 n3 n4 n5
  have HE := Lib.hid hf
  clear hf
  show Calls Tryd.prog 96 #[.agg #[.int .i64 1, .string ib, .bool false, .slice A l.length cc, .bool o, .string tb, .int .u8 kind], .int .u8 c] w _
  go_enter Tryd.func96, Tryd.ntmps96
  go_upto_region 17 with (fail)
  go_region_law (fail)
  all_goals go_wp2
  all_goals
    refine bodyPost_ret (v := .tuple #[.agg #[.int .i64 0, .string ⟨#[]⟩, .bool false, .slice none 0 0, .bool false, .string ⟨#[]⟩, .int .u8 0], .slice (some ⟨w.heap.size + 1 + 1, 0, none⟩) 1 1]) (by simp [results, Tryd.results96, go_sem]) rfl ?_
    rw [HE.out]
    have ha := acts_new ⟨⟨1, inter, false, l, o, text, kind⟩, ib, tb, A, cc⟩ w.heap.size ((w.alloc (.cells #[.int .i64 1, .string ib, .bool false, .slice A l.length cc, .bool o, .string tb, .int .u8 kind] 82)).alloc (.cells #[.int .i64 0, .string ⟨#[]⟩, .bool false, .slice none 0 0, .bool false, .string ⟨#[]⟩, .int .u8 0] 82)) ⟨axEsc ⟨1, inter, false, l, o, text, kind⟩ c, ib, ⟨#[]⟩, none, 0⟩ 96 ⟨HV.out.ib, rfl⟩ (fun _ => ParOk.nil _ _ _) (by simp; omega)
    simp only [size_two] at ha
    exact ⟨sv0, _, 1, _, rfl, rfl, sv0_tx, ParOk.nil _ _ _, ha, Nat.le_refl _, (((((Below.refl _ _).alloc (Nat.le_refl _) _).alloc (by simp) _).alloc (by simp; omega) _).drew)⟩
set_option maxRecDepth 100000 in
set_option maxHeartbeats 1600000 in
theorem escape_two_true (v : Sv) (c : Int) (w : World) (hv : v.Tx) (hlo : 47 < c) (hc1 : c < 256) (hov : v.s.over = true) (ha : v.s.a ≠ 1) : Calls Tryd.prog 96 #[v.val, .int .u8 c] w (StRet v w (escapeF v.s c).1 (escapeF v.s c).2) := by
  obtain ⟨⟨a0, inter, over, l, o, text, kind⟩, ib, tb, A, cc⟩ := v
  have HV := Lib.hid hv
  clear hv
  simp only at ha hov
  subst hov
  have f0 : (a0 == 1) = false := beq_eq_false_iff_ne.2 ha
  have hf : escapeF ⟨a0, inter, true, l, o, text, kind⟩ c = (st0, []) := by unfold escapeF; rw [if_neg (by omega)]; simp [ha]
  clear ha
  have HE := Lib.hid hf
  clear hf
  show Calls Tryd.prog 96 #[.agg #[.int .i64 a0, .string ib, .bool true, .slice A l.length cc, .bool o, .string tb, .int .u8 kind], .int .u8 c] w _
  go_enter Tryd.func96, Tryd.ntmps96
  go_wp2
  refine bodyPost_ret (v := .tuple #[.agg #[.int .i64 0, .string ⟨#[]⟩, .bool false, .slice none 0 0, .bool false, .string ⟨#[]⟩, .int .u8 0], .slice none 0 0]) (by simp [results, Tryd.results96, go_sem]) rfl ?_
  rw [HE.out]
  exact ⟨sv0, none, 0, [], rfl, rfl, sv0_tx, ParOk.nil _ _ _, Acts.nil _ _ _ _, Nat.le_refl _, ((Below.refl _ _).alloc (Nat.le_refl _) _).alloc (by simp) _⟩
set_option maxRecDepth 100000 in
set_option maxHeartbeats 1600000 in
theorem escape_two_false (v : Sv) (c : Int) (w : World) (hv : v.Tx) (hlo : 47 < c) (hc1 : c < 256) (hov : v.s.over = false) (ha : v.s.a ≠ 1) : Calls Tryd.prog 96 #[v.val, .int .u8 c] w (StRet v w (escapeF v.s c).1 (escapeF v.s c).2) := by
  obtain ⟨⟨a0, inter, over, l, o, text, kind⟩, ib, tb, A, cc⟩ := v
  have HV := Lib.hid hv
  clear hv
  simp only at ha hov
  subst hov
  have f0 : (a0 == 1) = false := beq_eq_false_iff_ne.2 ha
  have hf : escapeF ⟨a0, inter, false, l, o, text, kind⟩ c = (st0, [axEsc ⟨a0, inter, false, l, o, text, kind⟩ c]) := by unfold escapeF; rw [if_neg (by omega)]; simp [ha]
  clear ha
  have HE := Lib.hid hf
  clear hf
  show Calls Tryd.prog 96 #[.agg #[.int .i64 a0, .string ib, .bool false, .slice A l.length cc, .bool o, .string tb, .int .u8 kind], .int .u8 c] w _
  go_enter Tryd.func96, Tryd.ntmps96
  go_upto_region 17 with (fail)
  go_region_law (fail)
  all_goals go_wp2
  all_goals
    refine bodyPost_ret (v := .tuple #[.agg #[.int .i64 0, .string ⟨#[]⟩, .bool false, .slice none 0 0, .bool false, .string ⟨#[]⟩, .int .u8 0], .slice (some ⟨w.heap.size + 1 + 1, 0, none⟩) 1 1]) (by simp [results, Tryd.results96, go_sem]) rfl ?_
    rw [HE.out]
    have ha := acts_new ⟨⟨a0, inter, false, l, o, text, kind⟩, ib, tb, A, cc⟩ w.heap.size ((w.alloc (.cells #[.int .i64 a0, .string ib, .bool false, .slice A l.length cc, .bool o, .string tb, .int .u8 kind] 82)).alloc (.cells #[.int .i64 0, .string ⟨#[]⟩, .bool false, .slice none 0 0, .bool false, .string ⟨#[]⟩, .int .u8 0] 82)) ⟨axEsc ⟨a0, inter, false, l, o, text, kind⟩ c, ib, ⟨#[]⟩, none, 0⟩ 96 ⟨HV.out.ib, rfl⟩ (fun _ => ParOk.nil _ _ _) (by simp; omega)
    simp only [size_two] at ha
    exact ⟨sv0, _, 1, _, rfl, rfl, sv0_tx, ParOk.nil _ _ _, ha, Nat.le_refl _, (((((Below.refl _ _).alloc (Nat.le_refl _) _).alloc (by simp) _).alloc (by simp; omega) _).drew)⟩
theorem escape_any (v : Sv) (c : Int) (w : World) (hv : v.Tx) (c0 : 0 ≤ c) (c1 : c < 256) : Calls Tryd.prog 96 #[v.val, .int .u8 c] w (StRet v w (escapeF v.s c).1 (escapeF v.s c).2) := by
  by_cases h : c ≤ 47
  · exact escape_low v c w hv c0 h
  have hlo : 47 < c := by omega
  have hov : v.s.over = true ∨ v.s.over = false := by cases v.s.over <;> simp
  by_cases ha : v.s.a = 1
  · by_cases n0 : c = 91
    · exact escape_91 v c w hv ha n0
    by_cases n1 : c = 93
    · exact escape_93 v c w hv ha n1
    by_cases n2 : c = 80
    · exact escape_80 v c w hv ha n2
    by_cases n3 : c = 88
    · exact escape_88 v c w hv ha n3
    by_cases n4 : c = 94
    · exact escape_94 v c w hv ha n4
    by_cases n5 : c = 95
    · exact escape_95 v c w hv ha n5
    rcases hov with hov | hov
    · exact escape_one_true v c w hv hlo c1 hov ha n0 n1 n2 n3 n4 n5
    · exact escape_one_false v c w hv hlo c1 hov ha n0 n1 n2 n3 n4 n5
  · rcases hov with hov | hov
    · exact escape_two_true v c w hv hlo c1 hov ha
    · exact escape_two_false v c w hv hlo c1 hov ha
end Go.Proofs.YtcempbgbdlmjfaaDoor
namespace Go.Proofs.YtcempbgbdlmjfaaDoor
open Go.RowKit

set_option maxRecDepth 100000 in
set_option maxHeartbeats 1600000 in
theorem numbers_low (v : Sv) (c : Int) (w : World) (hv : v.Ok w) (c0 : 0 ≤ c) (c256 : c < 256) (h : c ≤ 47) : Calls Tryd.prog 97 #[v.val, .int .u8 c] w (StRet v w (numbersF v.s c).1 (numbersF v.s c).2) := by
  obtain ⟨n1, n2⟩ := s_two w v sv0
  obtain ⟨⟨a0, inter, over, l, o, text, kind⟩, ib, tb, A, cc⟩ := v
  have N1 := Lib.hid n1; have N2 := Lib.hid n2; have HV := Lib.hid hv
  clear n1 n2 hv
  have hf : numbersF ⟨a0, inter, over, l, o, text, kind⟩ c = (collectF ⟨a0, inter, over, l, o, text, kind⟩ c 5, []) := by unfold numbersF; rw [if_pos h]
  have HE := Lib.hid hf
  clear hf
  show Calls Tryd.prog 97 #[.agg #[.int .i64 a0, .string ib, .bool over, .slice A l.length cc, .bool o, .string tb, .int .u8 kind], .int .u8 c] w _
  go_enter Tryd.func97, Tryd.ntmps97
  go_wp2_with fail
  refine (collect_any ⟨⟨a0, inter, over, l, o, text, kind⟩, ib, tb, A, cc⟩ c 5 _ HV.out.tx c0 c256).mono ?_
  intro e w1 hret
  obtain ⟨a1, inter1, ov1, l1, o1, text1, k1, ib1, tb1, A1, c1, he1, rfl, htx, hpar, hb⟩ := hret.open
  clear hret
  simp only [size_two] at hb hpar
  have hs := N2.out.past (hb.mono (by simp))
  have HS := Lib.hid hs; have HP := Lib.hid hpar; have HB := Lib.hid hb; have HTX := Lib.hid htx; have HE1 := Lib.hid he1
  obtain ⟨q0, q1, q2, q3, q4, q5, q6, g0, g1, g2, g3, g4, g5, g6⟩ := hs.cells
  simp only [sv0, st0] at q0 q1 q2 q3 q4 q5 q6
  clear hs hpar hb htx he1
  go_wp2_with fail
  obtain ⟨hp7, hb7, hq7⟩ := st_put (v' := ⟨⟨a1, inter1, ov1, l1, o1, text1, k1⟩, ib1, tb1, A1, c1⟩) HS.out ((((Below.refl _ _).alloc (Nat.le_refl _) _).alloc (by simp) _ : Below w.heap.size w _).trans (HB.out.mono (by omega))) HP.out (by omega) (by omega)
  simp only [World.put7] at hp7 hb7 hq7
  generalize (((((((w1.setCell ⟨w.heap.size + 1, 0, none⟩ (.int .i64 a1)).setCell ⟨w.heap.size + 1, 1, none⟩ (.string ib1)).setCell ⟨w.heap.size + 1, 2, none⟩ (.bool ov1)).setCell ⟨w.heap.size + 1, 3, none⟩ (.slice A1 l1.length c1)).setCell ⟨w.heap.size + 1, 4, none⟩ (.bool o1)).setCell ⟨w.heap.size + 1, 5, none⟩ (.string tb1)).setCell ⟨w.heap.size + 1, 6, none⟩ (.int .u8 k1)) = W7 at hp7 hb7 hq7 ⊢
  obtain ⟨d0, d1, d2, d3, d4, d5, d6, _⟩ := hp7.cells
  simp only at d0 d1 d2 d3 d4 d5 d6
  refine bodyPost_ret (v := .tuple #[.agg #[.int .i64 a1, .string ib1, .bool ov1, .slice A1 l1.length c1, .bool o1, .string tb1, .int .u8 k1], .slice none 0 0]) (by simp [results, Tryd.results97, go_sem, d0, d1, d2, d3, d4, d5, d6]) rfl ?_
  rw [HE.out]
  exact ⟨⟨⟨a1, inter1, ov1, l1, o1, text1, k1⟩, ib1, tb1, A1, c1⟩, none, 0, [], HE1.out, rfl, HTX.out, hq7, Acts.nil _ _ _ _, Nat.le_refl _, hb7⟩
set_option maxRecDepth 100000 in
set_option maxHeartbeats 1600000 in
theorem numbers_seq (v : Sv) (c : Int) (w : World) (hv : v.Ok w) (c0 : 0 ≤ c) (c256 : c < 256) (h : 64 ≤ c) : Calls Tryd.prog 97 #[v.val, .int .u8 c] w (StRet v w (numbersF v.s c).1 (numbersF v.s c).2) := by
  obtain ⟨n1, n2⟩ := s_two w v sv0
  obtain ⟨⟨a0, inter, over, l, o, text, kind⟩, ib, tb, A, cc⟩ := v
  have N1 := Lib.hid n1; have N2 := Lib.hid n2; have HV := Lib.hid hv
  clear n1 n2 hv
  have hf : numbersF ⟨a0, inter, over, l, o, text, kind⟩ c = seqF ⟨a0, inter, over, l, o, text, kind⟩ c := by unfold numbersF; rw [if_neg (by omega), if_pos h]
  have HE := Lib.hid hf
  clear hf
  show Calls Tryd.prog 97 #[.agg #[.int .i64 a0, .string ib, .bool over, .slice A l.length cc, .bool o, .string tb, .int .u8 kind], .int .u8 c] w _
  go_enter Tryd.func97, Tryd.ntmps97
  go_wp2_with fail
  refine (sequence_any ⟨⟨a0, inter, over, l, o, text, kind⟩, ib, tb, A, cc⟩ c _ HV.out.tx).mono ?_
  intro e w1 hret
  obtain ⟨a1, inter1, ov1, l1, o1, text1, k1, ib1, tb1, A1, c1, Ac, cA, vs, he1, rfl, htx, hpar, hacts, hca, hb⟩ := hret.open
  clear hret
  simp only [size_two] at hb hpar hacts
  have hs := N2.out.past (hb.mono (by simp))
  have HS := Lib.hid hs; have HP := Lib.hid hpar; have HB := Lib.hid hb; have HTX := Lib.hid htx; have HE1 := Lib.hid he1; have HA := Lib.hid hacts; have HC := Lib.hid hca
  obtain ⟨q0, q1, q2, q3, q4, q5, q6, g0, g1, g2, g3, g4, g5, g6⟩ := hs.cells
  simp only [sv0, st0] at q0 q1 q2 q3 q4 q5 q6
  clear hs hpar hb htx he1 hacts hca
  go_wp2_with fail
  obtain ⟨hp7, hb7, hq7⟩ := st_put (v' := ⟨⟨a1, inter1, ov1, l1, o1, text1, k1⟩, ib1, tb1, A1, c1⟩) HS.out ((((Below.refl _ _).alloc (Nat.le_refl _) _).alloc (by simp) _ : Below w.heap.size w _).trans (HB.out.mono (by omega))) HP.out (by omega) (by omega)
  have ha7 := (HA.out.put7 (w.heap.size + 1) (by omega) ⟨⟨a1, inter1, ov1, l1, o1, text1, k1⟩, ib1, tb1, A1, c1⟩).less (show w.heap.size ≤ _ by omega)
  simp only [World.put7] at hp7 hb7 hq7 ha7
  generalize (((((((w1.setCell ⟨w.heap.size + 1, 0, none⟩ (.int .i64 a1)).setCell ⟨w.heap.size + 1, 1, none⟩ (.string ib1)).setCell ⟨w.heap.size + 1, 2, none⟩ (.bool ov1)).setCell ⟨w.heap.size + 1, 3, none⟩ (.slice A1 l1.length c1)).setCell ⟨w.heap.size + 1, 4, none⟩ (.bool o1)).setCell ⟨w.heap.size + 1, 5, none⟩ (.string tb1)).setCell ⟨w.heap.size + 1, 6, none⟩ (.int .u8 k1)) = W7 at hp7 hb7 hq7 ha7 ⊢
  obtain ⟨d0, d1, d2, d3, d4, d5, d6, _⟩ := hp7.cells
  simp only at d0 d1 d2 d3 d4 d5 d6
  refine bodyPost_ret (v := .tuple #[.agg #[.int .i64 a1, .string ib1, .bool ov1, .slice A1 l1.length c1, .bool o1, .string tb1, .int .u8 k1], .slice Ac ((seqF ⟨a0, inter, over, l, o, text, kind⟩ c).2).length cA]) (by simp [results, Tryd.results97, go_sem, d0, d1, d2, d3, d4, d5, d6]) rfl ?_
  rw [HE.out]
  exact ⟨⟨⟨a1, inter1, ov1, l1, o1, text1, k1⟩, ib1, tb1, A1, c1⟩, Ac, cA, vs, HE1.out, rfl, HTX.out, hq7, ha7, HC.out, hb7⟩
set_option maxRecDepth 100000 in
set_option maxHeartbeats 1600000 in
theorem numbers_mark (v : Sv) (c : Int) (w : World) (hv : v.Ok w) (c0 : 0 ≤ c) (c256 : c < 256) (h : 60 ≤ c) (h2 : c < 64) (ha : v.s.a = 3) : Calls Tryd.prog 97 #[v.val, .int .u8 c] w (StRet v w (numbersF v.s c).1 (numbersF v.s c).2) := by
  obtain ⟨n1, n2⟩ := s_two w v sv0
  obtain ⟨⟨a0, inter, over, l, o, text, kind⟩, ib, tb, A, cc⟩ := v
  have N1 := Lib.hid n1; have N2 := Lib.hid n2; have HV := Lib.hid hv
  clear n1 n2 hv
  simp only at ha
  subst ha
  have f0 : (c == 59) = false := beq_eq_false_iff_ne.2 (by omega)
  have f1 : (c == 58) = false := beq_eq_false_iff_ne.2 (by omega)
  have hf : numbersF ⟨3, inter, over, l, o, text, kind⟩ c = (collectF ⟨3, inter, over, l, o, text, kind⟩ c 4, []) := by unfold numbersF; rw [if_neg (by omega), if_neg (by omega), if_neg (by omega), if_neg (by omega), if_neg (by omega), if_pos rfl]
  have HE := Lib.hid hf
  clear hf
  show Calls Tryd.prog 97 #[.agg #[.int .i64 3, .string ib, .bool over, .slice A l.length cc, .bool o, .string tb, .int .u8 kind], .int .u8 c] w _
  go_enter Tryd.func97, Tryd.ntmps97
  go_wp2_with fail
  refine (collect_any ⟨⟨3, inter, over, l, o, text, kind⟩, ib, tb, A, cc⟩ c 4 _ HV.out.tx c0 c256).mono ?_
  intro e w1 hret
  obtain ⟨a1, inter1, ov1, l1, o1, text1, k1, ib1, tb1, A1, c1, he1, rfl, htx, hpar, hb⟩ := hret.open
  clear hret
  simp only [size_two] at hb hpar
  have hs := N2.out.past (hb.mono (by simp))
  have HS := Lib.hid hs; have HP := Lib.hid hpar; have HB := Lib.hid hb; have HTX := Lib.hid htx; have HE1 := Lib.hid he1
  obtain ⟨q0, q1, q2, q3, q4, q5, q6, g0, g1, g2, g3, g4, g5, g6⟩ := hs.cells
  simp only [sv0, st0] at q0 q1 q2 q3 q4 q5 q6
  clear hs hpar hb htx he1
  go_wp2_with fail
  obtain ⟨hp7, hb7, hq7⟩ := st_put (v' := ⟨⟨a1, inter1, ov1, l1, o1, text1, k1⟩, ib1, tb1, A1, c1⟩) HS.out ((((Below.refl _ _).alloc (Nat.le_refl _) _).alloc (by simp) _ : Below w.heap.size w _).trans (HB.out.mono (by omega))) HP.out (by omega) (by omega)
  simp only [World.put7] at hp7 hb7 hq7
  generalize (((((((w1.setCell ⟨w.heap.size + 1, 0, none⟩ (.int .i64 a1)).setCell ⟨w.heap.size + 1, 1, none⟩ (.string ib1)).setCell ⟨w.heap.size + 1, 2, none⟩ (.bool ov1)).setCell ⟨w.heap.size + 1, 3, none⟩ (.slice A1 l1.length c1)).setCell ⟨w.heap.size + 1, 4, none⟩ (.bool o1)).setCell ⟨w.heap.size + 1, 5, none⟩ (.string tb1)).setCell ⟨w.heap.size + 1, 6, none⟩ (.int .u8 k1)) = W7 at hp7 hb7 hq7 ⊢
  obtain ⟨d0, d1, d2, d3, d4, d5, d6, _⟩ := hp7.cells
  simp only at d0 d1 d2 d3 d4 d5 d6
  refine bodyPost_ret (v := .tuple #[.agg #[.int .i64 a1, .string ib1, .bool ov1, .slice A1 l1.length c1, .bool o1, .string tb1, .int .u8 k1], .slice none 0 0]) (by simp [results, Tryd.results97, go_sem, d0, d1, d2, d3, d4, d5, d6]) rfl ?_
  rw [HE.out]
  exact ⟨⟨⟨a1, inter1, ov1, l1, o1, text1, k1⟩, ib1, tb1, A1, c1⟩, none, 0, [], HE1.out, rfl, HTX.out, hq7, Acts.nil _ _ _ _, Nat.le_refl _, hb7⟩
set_option maxRecDepth 100000 in
set_option maxHeartbeats 1600000 in
theorem numbers_bad (v : Sv) (c : Int) (w : World) (hv : v.Ok w) (c0 : 0 ≤ c) (c256 : c < 256) (h : 60 ≤ c) (h2 : c < 64) (ha : v.s.a ≠ 3) : Calls Tryd.prog 97 #[v.val, .int .u8 c] w (StRet v w (numbersF v.s c).1 (numbersF v.s c).2) := by
  obtain ⟨n1, n2⟩ := s_two w v sv0
  obtain ⟨⟨a0, inter, over, l, o, text, kind⟩, ib, tb, A, cc⟩ := v
  have N1 := Lib.hid n1; have N2 := Lib.hid n2; have HV := Lib.hid hv
  clear n1 n2 hv
  simp only at ha
  have f0 : (c == 59) = false := beq_eq_false_iff_ne.2 (by omega)
  have f1 : (c == 58) = false := beq_eq_false_iff_ne.2 (by omega)
  have f2 : (a0 == 3) = false := beq_eq_false_iff_ne.2 ha
  have hf : numbersF ⟨a0, inter, over, l, o, text, kind⟩ c = (⟨6, inter, over, l, o, text, kind⟩, []) := by unfold numbersF; rw [if_neg (by omega), if_neg (by omega), if_neg (by omega), if_neg (by omega), if_neg (by omega), if_neg ha]
  have HE := Lib.hid hf
  clear hf ha
  show Calls Tryd.prog 97 #[.agg #[.int .i64 a0, .string ib, .bool over, .slice A l.length cc, .bool o, .string tb, .int .u8 kind], .int .u8 c] w _
  go_enter Tryd.func97, Tryd.ntmps97
  go_wp2
  refine bodyPost_ret (v := .tuple #[.agg #[.int .i64 6, .string ib, .bool over, .slice A l.length cc, .bool o, .string tb, .int .u8 kind], .slice none 0 0]) (by simp [results, Tryd.results97, go_sem]) rfl ?_
  rw [HE.out]
  exact ⟨⟨⟨6, inter, over, l, o, text, kind⟩, ib, tb, A, cc⟩, none, 0, [], rfl, rfl, ⟨HV.out.tx.ib, HV.out.tx.tb, HV.out.tx.k⟩, .inl ⟨rfl, rfl, rfl⟩, Acts.nil _ _ _ _, Nat.le_refl _, ((Below.refl _ _).alloc (Nat.le_refl _) _).alloc (by simp) _⟩
set_option maxRecDepth 100000 in
set_option maxHeartbeats 1600000 in
theorem numbers_next (v : Sv) (c : Int) (w : World) (hv : v.Ok w) (c0 : 0 ≤ c) (c256 : c < 256) (h : c = 59) : Calls Tryd.prog 97 #[v.val, .int .u8 c] w (StRet v w (numbersF v.s c).1 (numbersF v.s c).2) := by
  obtain ⟨n1, n2⟩ := s_two w v sv0
  obtain ⟨⟨a0, inter, over, l, o, text, kind⟩, ib, tb, A, cc⟩ := v
  have N1 := Lib.hid n1; have N2 := Lib.hid n2; have HV := Lib.hid hv
  clear n1 n2 hv
  subst h
  have hf : numbersF ⟨a0, inter, over, l, o, text, kind⟩ 59 = (⟨4, inter, over, (nextP ⟨l, o⟩).l, (nextP ⟨l, o⟩).o, text, kind⟩, []) := by unfold numbersF; rw [if_neg (by omega), if_neg (by omega), if_pos rfl]
  have HE := Lib.hid hf
  clear hf
  have hrd : RdLL ((w.alloc (.cells #[.int .i64 a0, .string ib, .bool over, .slice A l.length cc, .bool o, .string tb, .int .u8 kind] 82)).alloc (.cells #[.int .i64 0, .string ⟨#[]⟩, .bool false, .slice none 0 0, .bool false, .string ⟨#[]⟩, .int .u8 0] 82)) 0 ((w.alloc (.cells #[.int .i64 a0, .string ib, .bool over, .slice A l.length cc, .bool o, .string tb, .int .u8 kind] 82)).alloc (.cells #[.int .i64 0, .string ⟨#[]⟩, .bool false, .slice none 0 0, .bool false, .string ⟨#[]⟩, .int .u8 0] 82)).heap.size (.slice A l.length cc) l := HV.out.rd.next (((Below.refl _ _).alloc (Nat.le_refl _) _).alloc (by simp) _)
  have HRD := Lib.hid hrd
  clear hrd
  show Calls Tryd.prog 97 #[.agg #[.int .i64 a0, .string ib, .bool over, .slice A l.length cc, .bool o, .string tb, .int .u8 kind], .int .u8 59] w _
  go_enter Tryd.func97, Tryd.ntmps97
  go_wp2_with fail
  refine (next_any l o (.slice A l.length cc) _ HRD.out (Nat.le_refl _)).mono ?_
  rintro e w1 ⟨v1, rfl, hr, hb⟩
  simp only [size_two] at hb hr
  obtain ⟨A1, c1, rfl, hcap⟩ := rdLL_form hr
  have hs1 := N1.out.past (hb.mono (by simp))
  have hs2 := N2.out.past (hb.mono (by simp))
  have HS1 := Lib.hid hs1; have HS2 := Lib.hid hs2; have HB := Lib.hid hb; have HR := Lib.hid hr
  obtain ⟨p0, p1, p2, p3, p4, p5, p6, u0, u1, u2, u3, u4, u5, u6⟩ := hs1.cells
  obtain ⟨q0, q1, q2, q3, q4, q5, q6, g0, g1, g2, g3, g4, g5, g6⟩ := hs2.cells
  simp only [sv0, st0] at p0 p1 p2 p3 p4 p5 p6 q0 q1 q2 q3 q4 q5 q6
  clear hs1 hs2 hb hr
  go_wp2_with fail
  have hs3 : SAt (((w1.setCell ⟨w.heap.size, 3, none⟩ (.slice A1 (nextP ⟨l, o⟩).l.length c1)).setCell ⟨w.heap.size, 4, none⟩ (.bool (nextP ⟨l, o⟩).o)).setCell ⟨w.heap.size, 0, none⟩ (.int .i64 4)) (w.heap.size + 1) sv0 := ((HS2.out.far ⟨w.heap.size, 3, none⟩ (by simp) _).far ⟨w.heap.size, 4, none⟩ (by simp) _).far ⟨w.heap.size, 0, none⟩ (by simp) _
  have hb3 : Below w.heap.size w (((w1.setCell ⟨w.heap.size, 3, none⟩ (.slice A1 (nextP ⟨l, o⟩).l.length c1)).setCell ⟨w.heap.size, 4, none⟩ (.bool (nextP ⟨l, o⟩).o)).setCell ⟨w.heap.size, 0, none⟩ (.int .i64 4)) := (((((((Below.refl _ _).alloc (Nat.le_refl _) _).alloc (by simp) _ : Below w.heap.size w _).trans (HB.out.mono (by omega))).setCell (p := ⟨w.heap.size, 3, none⟩) (Nat.le_refl _) _).setCell (p := ⟨w.heap.size, 4, none⟩) (Nat.le_refl _) _).setCell (p := ⟨w.heap.size, 0, none⟩) (Nat.le_refl _) _)
  have hp3 : ParOk ⟨⟨a0, inter, over, l, o, text, kind⟩, ib, tb, A, cc⟩ (w.heap.size + 1 + 1) (((w1.setCell ⟨w.heap.size, 3, none⟩ (.slice A1 (nextP ⟨l, o⟩).l.length c1)).setCell ⟨w.heap.size, 4, none⟩ (.bool (nextP ⟨l, o⟩).o)).setCell ⟨w.heap.size, 0, none⟩ (.int .i64 4)) A1 c1 (nextP ⟨l, o⟩).l := ((ParOk.far (.inr HR.out) ⟨w.heap.size, 3, none⟩ (show w.heap.size < _ by omega) _).far ⟨w.heap.size, 4, none⟩ (show w.heap.size < _ by omega) _).far ⟨w.heap.size, 0, none⟩ (show w.heap.size < _ by omega) _
  obtain ⟨hp7, hb7, hq7⟩ := st_put (v' := ⟨⟨4, inter, over, (nextP ⟨l, o⟩).l, (nextP ⟨l, o⟩).o, text, kind⟩, ib, tb, A1, c1⟩) hs3 hb3 hp3 (by omega) (by omega)
  simp only [World.put7] at hp7 hb7 hq7
  generalize ((((((((((w1.setCell ⟨w.heap.size, 3, none⟩ (.slice A1 (nextP ⟨l, o⟩).l.length c1)).setCell ⟨w.heap.size, 4, none⟩ (.bool (nextP ⟨l, o⟩).o)).setCell ⟨w.heap.size, 0, none⟩ (.int .i64 4)).setCell ⟨w.heap.size + 1, 0, none⟩ (.int .i64 4)).setCell ⟨w.heap.size + 1, 1, none⟩ (.string ib)).setCell ⟨w.heap.size + 1, 2, none⟩ (.bool over)).setCell ⟨w.heap.size + 1, 3, none⟩ (.slice A1 (nextP ⟨l, o⟩).l.length c1)).setCell ⟨w.heap.size + 1, 4, none⟩ (.bool (nextP ⟨l, o⟩).o)).setCell ⟨w.heap.size + 1, 5, none⟩ (.string tb)).setCell ⟨w.heap.size + 1, 6, none⟩ (.int .u8 kind)) = W7 at hp7 hb7 hq7 ⊢
  obtain ⟨d0, d1, d2, d3, d4, d5, d6, _⟩ := hp7.cells
  simp only at d0 d1 d2 d3 d4 d5 d6
  refine bodyPost_ret (v := .tuple #[.agg #[.int .i64 4, .string ib, .bool over, .slice A1 (nextP ⟨l, o⟩).l.length c1, .bool (nextP ⟨l, o⟩).o, .string tb, .int .u8 kind], .slice none 0 0]) (by simp [results, Tryd.results97, go_sem, d0, d1, d2, d3, d4, d5, d6]) rfl ?_
  rw [HE.out]
  exact ⟨⟨⟨4, inter, over, (nextP ⟨l, o⟩).l, (nextP ⟨l, o⟩).o, text, kind⟩, ib, tb, A1, c1⟩, none, 0, [], rfl, rfl, ⟨HV.out.tx.ib, HV.out.tx.tb, HV.out.tx.k⟩, hq7, Acts.nil _ _ _ _, Nat.le_refl _, hb7⟩
set_option maxRecDepth 100000 in
set_option maxHeartbeats 1600000 in
theorem numbers_sub (v : Sv) (c : Int) (w : World) (hv : v.Ok w) (c0 : 0 ≤ c) (c256 : c < 256) (h : c = 58) : Calls Tryd.prog 97 #[v.val, .int .u8 c] w (StRet v w (numbersF v.s c).1 (numbersF v.s c).2) := by
  obtain ⟨n1, n2⟩ := s_two w v sv0
  obtain ⟨⟨a0, inter, over, l, o, text, kind⟩, ib, tb, A, cc⟩ := v
  have N1 := Lib.hid n1; have N2 := Lib.hid n2; have HV := Lib.hid hv
  clear n1 n2 hv
  subst h
  have hf : numbersF ⟨a0, inter, over, l, o, text, kind⟩ 58 = (⟨4, inter, over, (subP ⟨l, o⟩).l, (subP ⟨l, o⟩).o, text, kind⟩, []) := by unfold numbersF; rw [if_neg (by omega), if_neg (by omega), if_neg (by omega), if_pos rfl]
  have HE := Lib.hid hf
  clear hf
  have hrd : RdLL ((w.alloc (.cells #[.int .i64 a0, .string ib, .bool over, .slice A l.length cc, .bool o, .string tb, .int .u8 kind] 82)).alloc (.cells #[.int .i64 0, .string ⟨#[]⟩, .bool false, .slice none 0 0, .bool false, .string ⟨#[]⟩, .int .u8 0] 82)) 0 ((w.alloc (.cells #[.int .i64 a0, .string ib, .bool over, .slice A l.length cc, .bool o, .string tb, .int .u8 kind] 82)).alloc (.cells #[.int .i64 0, .string ⟨#[]⟩, .bool false, .slice none 0 0, .bool false, .string ⟨#[]⟩, .int .u8 0] 82)).heap.size (.slice A l.length cc) l := HV.out.rd.next (((Below.refl _ _).alloc (Nat.le_refl _) _).alloc (by simp) _)
  have HRD := Lib.hid hrd
  clear hrd
  show Calls Tryd.prog 97 #[.agg #[.int .i64 a0, .string ib, .bool over, .slice A l.length cc, .bool o, .string tb, .int .u8 kind], .int .u8 58] w _
  go_enter Tryd.func97, Tryd.ntmps97
  go_wp2_with fail
  refine (sub_any l o (.slice A l.length cc) _ HRD.out (Nat.le_refl _)).mono ?_
  rintro e w1 ⟨v1, rfl, hr, hb⟩
  simp only [size_two] at hb hr
  obtain ⟨A1, c1, rfl, hcap⟩ := rdLL_form hr
  have hs1 := N1.out.past (hb.mono (by simp))
  have hs2 := N2.out.past (hb.mono (by simp))
  have HS1 := Lib.hid hs1; have HS2 := Lib.hid hs2; have HB := Lib.hid hb; have HR := Lib.hid hr
  obtain ⟨p0, p1, p2, p3, p4, p5, p6, u0, u1, u2, u3, u4, u5, u6⟩ := hs1.cells
  obtain ⟨q0, q1, q2, q3, q4, q5, q6, g0, g1, g2, g3, g4, g5, g6⟩ := hs2.cells
  simp only [sv0, st0] at p0 p1 p2 p3 p4 p5 p6 q0 q1 q2 q3 q4 q5 q6
  clear hs1 hs2 hb hr
  go_wp2_with fail
  have hs3 : SAt (((w1.setCell ⟨w.heap.size, 3, none⟩ (.slice A1 (subP ⟨l, o⟩).l.length c1)).setCell ⟨w.heap.size, 4, none⟩ (.bool (subP ⟨l, o⟩).o)).setCell ⟨w.heap.size, 0, none⟩ (.int .i64 4)) (w.heap.size + 1) sv0 := ((HS2.out.far ⟨w.heap.size, 3, none⟩ (by simp) _).far ⟨w.heap.size, 4, none⟩ (by simp) _).far ⟨w.heap.size, 0, none⟩ (by simp) _
  have hb3 : Below w.heap.size w (((w1.setCell ⟨w.heap.size, 3, none⟩ (.slice A1 (subP ⟨l, o⟩).l.length c1)).setCell ⟨w.heap.size, 4, none⟩ (.bool (subP ⟨l, o⟩).o)).setCell ⟨w.heap.size, 0, none⟩ (.int .i64 4)) := (((((((Below.refl _ _).alloc (Nat.le_refl _) _).alloc (by simp) _ : Below w.heap.size w _).trans (HB.out.mono (by omega))).setCell (p := ⟨w.heap.size, 3, none⟩) (Nat.le_refl _) _).setCell (p := ⟨w.heap.size, 4, none⟩) (Nat.le_refl _) _).setCell (p := ⟨w.heap.size, 0, none⟩) (Nat.le_refl _) _)
  have hp3 : ParOk ⟨⟨a0, inter, over, l, o, text, kind⟩, ib, tb, A, cc⟩ (w.heap.size + 1 + 1) (((w1.setCell ⟨w.heap.size, 3, none⟩ (.slice A1 (subP ⟨l, o⟩).l.length c1)).setCell ⟨w.heap.size, 4, none⟩ (.bool (subP ⟨l, o⟩).o)).setCell ⟨w.heap.size, 0, none⟩ (.int .i64 4)) A1 c1 (subP ⟨l, o⟩).l := ((ParOk.far (.inr HR.out) ⟨w.heap.size, 3, none⟩ (show w.heap.size < _ by omega) _).far ⟨w.heap.size, 4, none⟩ (show w.heap.size < _ by omega) _).far ⟨w.heap.size, 0, none⟩ (show w.heap.size < _ by omega) _
  obtain ⟨hp7, hb7, hq7⟩ := st_put (v' := ⟨⟨4, inter, over, (subP ⟨l, o⟩).l, (subP ⟨l, o⟩).o, text, kind⟩, ib, tb, A1, c1⟩) hs3 hb3 hp3 (by omega) (by omega)
  simp only [World.put7] at hp7 hb7 hq7
  generalize ((((((((((w1.setCell ⟨w.heap.size, 3, none⟩ (.slice A1 (subP ⟨l, o⟩).l.length c1)).setCell ⟨w.heap.size, 4, none⟩ (.bool (subP ⟨l, o⟩).o)).setCell ⟨w.heap.size, 0, none⟩ (.int .i64 4)).setCell ⟨w.heap.size + 1, 0, none⟩ (.int .i64 4)).setCell ⟨w.heap.size + 1, 1, none⟩ (.string ib)).setCell ⟨w.heap.size + 1, 2, none⟩ (.bool over)).setCell ⟨w.heap.size + 1, 3, none⟩ (.slice A1 (subP ⟨l, o⟩).l.length c1)).setCell ⟨w.heap.size + 1, 4, none⟩ (.bool (subP ⟨l, o⟩).o)).setCell ⟨w.heap.size + 1, 5, none⟩ (.string tb)).setCell ⟨w.heap.size + 1, 6, none⟩ (.int .u8 kind)) = W7 at hp7 hb7 hq7 ⊢
  obtain ⟨d0, d1, d2, d3, d4, d5, d6, _⟩ := hp7.cells
  simp only at d0 d1 d2 d3 d4 d5 d6
  refine bodyPost_ret (v := .tuple #[.agg #[.int .i64 4, .string ib, .bool over, .slice A1 (subP ⟨l, o⟩).l.length c1, .bool (subP ⟨l, o⟩).o, .string tb, .int .u8 kind], .slice none 0 0]) (by simp [results, Tryd.results97, go_sem, d0, d1, d2, d3, d4, d5, d6]) rfl ?_
  rw [HE.out]
  exact ⟨⟨⟨4, inter, over, (subP ⟨l, o⟩).l, (subP ⟨l, o⟩).o, text, kind⟩, ib, tb, A1, c1⟩, none, 0, [], rfl, rfl, ⟨HV.out.tx.ib, HV.out.tx.tb, HV.out.tx.k⟩, hq7, Acts.nil _ _ _ _, Nat.le_refl _, hb7⟩
set_option maxRecDepth 100000 in
set_option maxHeartbeats 1600000 in
theorem numbers_digit (v : Sv) (c : Int) (w : World) (hv : v.Ok w) (c0 : 0 ≤ c) (c256 : c < 256) (h : 48 ≤ c) (h2 : c ≤ 57) : Calls Tryd.prog 97 #[v.val, .int .u8 c] w (StRet v w (numbersF v.s c).1 (numbersF v.s c).2) := by
  obtain ⟨n1, n2⟩ := s_two w v sv0
  obtain ⟨⟨a0, inter, over, l, o, text, kind⟩, ib, tb, A, cc⟩ := v
  have N1 := Lib.hid n1; have N2 := Lib.hid n2; have HV := Lib.hid hv
  clear n1 n2 hv
  have f0 : (c == 59) = false := beq_eq_false_iff_ne.2 (by omega)
  have f1 : (c == 58) = false := beq_eq_false_iff_ne.2 (by omega)
  have hf : numbersF ⟨a0, inter, over, l, o, text, kind⟩ c = (⟨4, inter, over, (digitP ⟨l, o⟩ c).l, (digitP ⟨l, o⟩ c).o, text, kind⟩, []) := by unfold numbersF; rw [if_neg (by omega), if_neg (by omega), if_neg (by omega), if_neg (by omega), if_pos h2]
  have HE := Lib.hid hf
  clear hf
  have hrd : RdLL ((w.alloc (.cells #[.int .i64 a0, .string ib, .bool over, .slice A l.length cc, .bool o, .string tb, .int .u8 kind] 82)).alloc (.cells #[.int .i64 0, .string ⟨#[]⟩, .bool false, .slice none 0 0, .bool false, .string ⟨#[]⟩, .int .u8 0] 82)) 0 ((w.alloc (.cells #[.int .i64 a0, .string ib, .bool over, .slice A l.length cc, .bool o, .string tb, .int .u8 kind] 82)).alloc (.cells #[.int .i64 0, .string ⟨#[]⟩, .bool false, .slice none 0 0, .bool false, .string ⟨#[]⟩, .int .u8 0] 82)).heap.size (.slice A l.length cc) l := HV.out.rd.next (((Below.refl _ _).alloc (Nat.le_refl _) _).alloc (by simp) _)
  have HRD := Lib.hid hrd
  clear hrd
  show Calls Tryd.prog 97 #[.agg #[.int .i64 a0, .string ib, .bool over, .slice A l.length cc, .bool o, .string tb, .int .u8 kind], .int .u8 c] w _
  go_enter Tryd.func97, Tryd.ntmps97
  go_wp2_with fail
  refine (digit_gen l o (.slice A l.length cc) c _ HRD.out (Nat.le_refl _) c0 c256 (.inl ⟨h, h2⟩)).mono ?_
  rintro e w1 ⟨v1, rfl, hr, hb⟩
  simp only [size_two] at hb hr
  obtain ⟨A1, c1, rfl, hcap⟩ := rdLL_form hr
  have hs1 := N1.out.past (hb.mono (by simp))
  have hs2 := N2.out.past (hb.mono (by simp))
  have HS1 := Lib.hid hs1; have HS2 := Lib.hid hs2; have HB := Lib.hid hb; have HR := Lib.hid hr
  obtain ⟨p0, p1, p2, p3, p4, p5, p6, u0, u1, u2, u3, u4, u5, u6⟩ := hs1.cells
  obtain ⟨q0, q1, q2, q3, q4, q5, q6, g0, g1, g2, g3, g4, g5, g6⟩ := hs2.cells
  simp only [sv0, st0] at p0 p1 p2 p3 p4 p5 p6 q0 q1 q2 q3 q4 q5 q6
  clear hs1 hs2 hb hr
  go_wp2_with fail
  have hs3 : SAt (((w1.setCell ⟨w.heap.size, 3, none⟩ (.slice A1 (digitP ⟨l, o⟩ c).l.length c1)).setCell ⟨w.heap.size, 4, none⟩ (.bool (digitP ⟨l, o⟩ c).o)).setCell ⟨w.heap.size, 0, none⟩ (.int .i64 4)) (w.heap.size + 1) sv0 := ((HS2.out.far ⟨w.heap.size, 3, none⟩ (by simp) _).far ⟨w.heap.size, 4, none⟩ (by simp) _).far ⟨w.heap.size, 0, none⟩ (by simp) _
  have hb3 : Below w.heap.size w (((w1.setCell ⟨w.heap.size, 3, none⟩ (.slice A1 (digitP ⟨l, o⟩ c).l.length c1)).setCell ⟨w.heap.size, 4, none⟩ (.bool (digitP ⟨l, o⟩ c).o)).setCell ⟨w.heap.size, 0, none⟩ (.int .i64 4)) := (((((((Below.refl _ _).alloc (Nat.le_refl _) _).alloc (by simp) _ : Below w.heap.size w _).trans (HB.out.mono (by omega))).setCell (p := ⟨w.heap.size, 3, none⟩) (Nat.le_refl _) _).setCell (p := ⟨w.heap.size, 4, none⟩) (Nat.le_refl _) _).setCell (p := ⟨w.heap.size, 0, none⟩) (Nat.le_refl _) _)
  have hp3 : ParOk ⟨⟨a0, inter, over, l, o, text, kind⟩, ib, tb, A, cc⟩ (w.heap.size + 1 + 1) (((w1.setCell ⟨w.heap.size, 3, none⟩ (.slice A1 (digitP ⟨l, o⟩ c).l.length c1)).setCell ⟨w.heap.size, 4, none⟩ (.bool (digitP ⟨l, o⟩ c).o)).setCell ⟨w.heap.size, 0, none⟩ (.int .i64 4)) A1 c1 (digitP ⟨l, o⟩ c).l := ((ParOk.far (.inr HR.out) ⟨w.heap.size, 3, none⟩ (show w.heap.size < _ by omega) _).far ⟨w.heap.size, 4, none⟩ (show w.heap.size < _ by omega) _).far ⟨w.heap.size, 0, none⟩ (show w.heap.size < _ by omega) _
  obtain ⟨hp7, hb7, hq7⟩ := st_put (v' := ⟨⟨4, inter, over, (digitP ⟨l, o⟩ c).l, (digitP ⟨l, o⟩ c).o, text, kind⟩, ib, tb, A1, c1⟩) hs3 hb3 hp3 (by omega) (by omega)
  simp only [World.put7] at hp7 hb7 hq7
  generalize ((((((((((w1.setCell ⟨w.heap.size, 3, none⟩ (.slice A1 (digitP ⟨l, o⟩ c).l.length c1)).setCell ⟨w.heap.size, 4, none⟩ (.bool (digitP ⟨l, o⟩ c).o)).setCell ⟨w.heap.size, 0, none⟩ (.int .i64 4)).setCell ⟨w.heap.size + 1, 0, none⟩ (.int .i64 4)).setCell ⟨w.heap.size + 1, 1, none⟩ (.string ib)).setCell ⟨w.heap.size + 1, 2, none⟩ (.bool over)).setCell ⟨w.heap.size + 1, 3, none⟩ (.slice A1 (digitP ⟨l, o⟩ c).l.length c1)).setCell ⟨w.heap.size + 1, 4, none⟩ (.bool (digitP ⟨l, o⟩ c).o)).setCell ⟨w.heap.size + 1, 5, none⟩ (.string tb)).setCell ⟨w.heap.size + 1, 6, none⟩ (.int .u8 kind)) = W7 at hp7 hb7 hq7 ⊢
  obtain ⟨d0, d1, d2, d3, d4, d5, d6, _⟩ := hp7.cells
  simp only at d0 d1 d2 d3 d4 d5 d6
  refine bodyPost_ret (v := .tuple #[.agg #[.int .i64 4, .string ib, .bool over, .slice A1 (digitP ⟨l, o⟩ c).l.length c1, .bool (digitP ⟨l, o⟩ c).o, .string tb, .int .u8 kind], .slice none 0 0]) (by simp [results, Tryd.results97, go_sem, d0, d1, d2, d3, d4, d5, d6]) rfl ?_
  rw [HE.out]
  exact ⟨⟨⟨4, inter, over, (digitP ⟨l, o⟩ c).l, (digitP ⟨l, o⟩ c).o, text, kind⟩, ib, tb, A1, c1⟩, none, 0, [], rfl, rfl, ⟨HV.out.tx.ib, HV.out.tx.tb, HV.out.tx.k⟩, hq7, Acts.nil _ _ _ _, Nat.le_refl _, hb7⟩
theorem numbers_any (v : Sv) (c : Int) (w : World) (hv : v.Ok w) (c0 : 0 ≤ c) (c256 : c < 256) : Calls Tryd.prog 97 #[v.val, .int .u8 c] w (StRet v w (numbersF v.s c).1 (numbersF v.s c).2) := by
  by_cases h1 : c ≤ 47
  · exact numbers_low v c w hv c0 c256 h1
  by_cases h2 : 64 ≤ c
  · exact numbers_seq v c w hv c0 c256 h2
  by_cases h3 : c = 59
  · exact numbers_next v c w hv c0 c256 h3
  by_cases h4 : c = 58
  · exact numbers_sub v c w hv c0 c256 h4
  by_cases h5 : c ≤ 57
  · exact numbers_digit v c w hv c0 c256 (by omega) h5
  by_cases ha : v.s.a = 3
  · exact numbers_mark v c w hv c0 c256 (by omega) (by omega) ha
  · exact numbers_bad v c w hv c0 c256 (by omega) (by omega) ha
end Go.Proofs.YtcempbgbdlmjfaaDoor
namespace Go.Proofs.YtcempbgbdlmjfaaDoor
open Go.RowKit

set_option maxRecDepth 100000 in
set_option maxHeartbeats 1600000 in
theorem graphic_1 (v : Sv) (c : Int) (w : World) (hv : v.Ok w) (c0 : 0 ≤ c) (c256 : c < 256) (ha : v.s.a = 1) : Calls Tryd.prog 89 #[v.val, .int .u8 c] w (StRet v w (graphicF v.s c).1 (graphicF v.s c).2) := by
  obtain ⟨n1, n2⟩ := s_two w v sv0
  obtain ⟨⟨a0, inter, over, l, o, text, kind⟩, ib, tb, A, cc⟩ := v
  have N1 := Lib.hid n1; have N2 := Lib.hid n2; have HV := Lib.hid hv
  clear n1 n2 hv
  simp only at ha
  subst ha
  have hf : graphicF ⟨1, inter, over, l, o, text, kind⟩ c = escapeF ⟨1, inter, over, l, o, text, kind⟩ c := by unfold graphicF; rw [if_pos (by simp)]
  have HE := Lib.hid hf
  clear hf
  show Calls Tryd.prog 89 #[.agg #[.int .i64 1, .string ib, .bool over, .slice A l.length cc, .bool o, .string tb, .int .u8 kind], .int .u8 c] w _
  go_enter Tryd.func89, Tryd.ntmps89
  go_wp2_with fail
  refine (escape_any ⟨⟨1, inter, over, l, o, text, kind⟩, ib, tb, A, cc⟩ c _ HV.out.tx c0 c256).mono ?_
  intro e w1 hret
  obtain ⟨a1, inter1, ov1, l1, o1, text1, k1, ib1, tb1, A1, c1, Ac, cA, vs, he1, rfl, htx, hpar, hacts, hca, hb⟩ := hret.open
  clear hret
  simp only [size_two] at hb hpar hacts
  have hs := N2.out.past (hb.mono (by simp))
  have HS := Lib.hid hs; have HP := Lib.hid hpar; have HB := Lib.hid hb; have HTX := Lib.hid htx; have HE1 := Lib.hid he1; have HA := Lib.hid hacts; have HC := Lib.hid hca
  obtain ⟨q0, q1, q2, q3, q4, q5, q6, g0, g1, g2, g3, g4, g5, g6⟩ := hs.cells
  simp only [sv0, st0] at q0 q1 q2 q3 q4 q5 q6
  clear hs hpar hb htx he1 hacts hca
  go_wp2_with fail
  obtain ⟨hp7, hb7, hq7⟩ := st_put (v' := ⟨⟨a1, inter1, ov1, l1, o1, text1, k1⟩, ib1, tb1, A1, c1⟩) HS.out ((((Below.refl _ _).alloc (Nat.le_refl _) _).alloc (by simp) _ : Below w.heap.size w _).trans (HB.out.mono (by omega))) HP.out (by omega) (by omega)
  have ha7 := (HA.out.put7 (w.heap.size + 1) (by omega) ⟨⟨a1, inter1, ov1, l1, o1, text1, k1⟩, ib1, tb1, A1, c1⟩).less (show w.heap.size ≤ _ by omega)
  simp only [World.put7] at hp7 hb7 hq7 ha7
  generalize (((((((w1.setCell ⟨w.heap.size + 1, 0, none⟩ (.int .i64 a1)).setCell ⟨w.heap.size + 1, 1, none⟩ (.string ib1)).setCell ⟨w.heap.size + 1, 2, none⟩ (.bool ov1)).setCell ⟨w.heap.size + 1, 3, none⟩ (.slice A1 l1.length c1)).setCell ⟨w.heap.size + 1, 4, none⟩ (.bool o1)).setCell ⟨w.heap.size + 1, 5, none⟩ (.string tb1)).setCell ⟨w.heap.size + 1, 6, none⟩ (.int .u8 k1)) = W7 at hp7 hb7 hq7 ha7 ⊢
  obtain ⟨d0, d1, d2, d3, d4, d5, d6, _⟩ := hp7.cells
  simp only at d0 d1 d2 d3 d4 d5 d6
  refine bodyPost_ret (v := .tuple #[.agg #[.int .i64 a1, .string ib1, .bool ov1, .slice A1 l1.length c1, .bool o1, .string tb1, .int .u8 k1], .slice Ac ((escapeF ⟨1, inter, over, l, o, text, kind⟩ c).2).length cA]) (by simp [results, Tryd.results89, go_sem, d0, d1, d2, d3, d4, d5, d6]) rfl ?_
  rw [HE.out]
  exact ⟨⟨⟨a1, inter1, ov1, l1, o1, text1, k1⟩, ib1, tb1, A1, c1⟩, Ac, cA, vs, HE1.out, rfl, HTX.out, hq7, ha7, HC.out, hb7⟩
set_option maxRecDepth 100000 in
set_option maxHeartbeats 1600000 in
theorem graphic_2 (v : Sv) (c : Int) (w : World) (hv : v.Ok w) (c0 : 0 ≤ c) (c256 : c < 256) (ha : v.s.a = 2) : Calls Tryd.prog 89 #[v.val, .int .u8 c] w (StRet v w (graphicF v.s c).1 (graphicF v.s c).2) := by
  obtain ⟨n1, n2⟩ := s_two w v sv0
  obtain ⟨⟨a0, inter, over, l, o, text, kind⟩, ib, tb, A, cc⟩ := v
  have N1 := Lib.hid n1; have N2 := Lib.hid n2; have HV := Lib.hid hv
  clear n1 n2 hv
  simp only at ha
  subst ha
  have hf : graphicF ⟨2, inter, over, l, o, text, kind⟩ c = escapeF ⟨2, inter, over, l, o, text, kind⟩ c := by unfold graphicF; rw [if_pos (by simp)]
  have HE := Lib.hid hf
  clear hf
  show Calls Tryd.prog 89 #[.agg #[.int .i64 2, .string ib, .bool over, .slice A l.length cc, .bool o, .string tb, .int .u8 kind], .int .u8 c] w _
  go_enter Tryd.func89, Tryd.ntmps89
  go_wp2_with fail
  refine (escape_any ⟨⟨2, inter, over, l, o, text, kind⟩, ib, tb, A, cc⟩ c _ HV.out.tx c0 c256).mono ?_
  intro e w1 hret
  obtain ⟨a1, inter1, ov1, l1, o1, text1, k1, ib1, tb1, A1, c1, Ac, cA, vs, he1, rfl, htx, hpar, hacts, hca, hb⟩ := hret.open
  clear hret
  simp only [size_two] at hb hpar hacts
  have hs := N2.out.past (hb.mono (by simp))
  have HS := Lib.hid hs; have HP := Lib.hid hpar; have HB := Lib.hid hb; have HTX := Lib.hid htx; have HE1 := Lib.hid he1; have HA := Lib.hid hacts; have HC := Lib.hid hca
  obtain ⟨q0, q1, q2, q3, q4, q5, q6, g0, g1, g2, g3, g4, g5, g6⟩ := hs.cells
  simp only [sv0, st0] at q0 q1 q2 q3 q4 q5 q6
  clear hs hpar hb htx he1 hacts hca
  go_wp2_with fail
  obtain ⟨hp7, hb7, hq7⟩ := st_put (v' := ⟨⟨a1, inter1, ov1, l1, o1, text1, k1⟩, ib1, tb1, A1, c1⟩) HS.out ((((Below.refl _ _).alloc (Nat.le_refl _) _).alloc (by simp) _ : Below w.heap.size w _).trans (HB.out.mono (by omega))) HP.out (by omega) (by omega)
  have ha7 := (HA.out.put7 (w.heap.size + 1) (by omega) ⟨⟨a1, inter1, ov1, l1, o1, text1, k1⟩, ib1, tb1, A1, c1⟩).less (show w.heap.size ≤ _ by omega)
  simp only [World.put7] at hp7 hb7 hq7 ha7
  generalize (((((((w1.setCell ⟨w.heap.size + 1, 0, none⟩ (.int .i64 a1)).setCell ⟨w.heap.size + 1, 1, none⟩ (.string ib1)).setCell ⟨w.heap.size + 1, 2, none⟩ (.bool ov1)).setCell ⟨w.heap.size + 1, 3, none⟩ (.slice A1 l1.length c1)).setCell ⟨w.heap.size + 1, 4, none⟩ (.bool o1)).setCell ⟨w.heap.size + 1, 5, none⟩ (.string tb1)).setCell ⟨w.heap.size + 1, 6, none⟩ (.int .u8 k1)) = W7 at hp7 hb7 hq7 ha7 ⊢
  obtain ⟨d0, d1, d2, d3, d4, d5, d6, _⟩ := hp7.cells
  simp only at d0 d1 d2 d3 d4 d5 d6
  refine bodyPost_ret (v := .tuple #[.agg #[.int .i64 a1, .string ib1, .bool ov1, .slice A1 l1.length c1, .bool o1, .string tb1, .int .u8 k1], .slice Ac ((escapeF ⟨2, inter, over, l, o, text, kind⟩ c).2).length cA]) (by simp [results, Tryd.results89, go_sem, d0, d1, d2, d3, d4, d5, d6]) rfl ?_
  rw [HE.out]
  exact ⟨⟨⟨a1, inter1, ov1, l1, o1, text1, k1⟩, ib1, tb1, A1, c1⟩, Ac, cA, vs, HE1.out, rfl, HTX.out, hq7, ha7, HC.out, hb7⟩
set_option maxRecDepth 100000 in
set_option maxHeartbeats 1600000 in
theorem graphic_3 (v : Sv) (c : Int) (w : World) (hv : v.Ok w) (c0 : 0 ≤ c) (c256 : c < 256) (ha : v.s.a = 3) : Calls Tryd.prog 89 #[v.val, .int .u8 c] w (StRet v w (graphicF v.s c).1 (graphicF v.s c).2) := by
  obtain ⟨n1, n2⟩ := s_two w v sv0
  obtain ⟨⟨a0, inter, over, l, o, text, kind⟩, ib, tb, A, cc⟩ := v
  have N1 := Lib.hid n1; have N2 := Lib.hid n2; have HV := Lib.hid hv
  clear n1 n2 hv
  simp only at ha
  subst ha
  have hf : graphicF ⟨3, inter, over, l, o, text, kind⟩ c = numbersF ⟨3, inter, over, l, o, text, kind⟩ c := by unfold graphicF; rw [if_neg (by simp), if_pos (by simp)]
  have HE := Lib.hid hf
  clear hf
  show Calls Tryd.prog 89 #[.agg #[.int .i64 3, .string ib, .bool over, .slice A l.length cc, .bool o, .string tb, .int .u8 kind], .int .u8 c] w _
  go_enter Tryd.func89, Tryd.ntmps89
  go_wp2_with fail
  refine (numbers_any ⟨⟨3, inter, over, l, o, text, kind⟩, ib, tb, A, cc⟩ c _ (HV.out.next (((Below.refl _ _).alloc (Nat.le_refl _) _).alloc (by simp) _)) c0 c256).mono ?_
  intro e w1 hret
  obtain ⟨a1, inter1, ov1, l1, o1, text1, k1, ib1, tb1, A1, c1, Ac, cA, vs, he1, rfl, htx, hpar, hacts, hca, hb⟩ := hret.open
  clear hret
  simp only [size_two] at hb hpar hacts
  have hs := N2.out.past (hb.mono (by simp))
  have HS := Lib.hid hs; have HP := Lib.hid hpar; have HB := Lib.hid hb; have HTX := Lib.hid htx; have HE1 := Lib.hid he1; have HA := Lib.hid hacts; have HC := Lib.hid hca
  obtain ⟨q0, q1, q2, q3, q4, q5, q6, g0, g1, g2, g3, g4, g5, g6⟩ := hs.cells
  simp only [sv0, st0] at q0 q1 q2 q3 q4 q5 q6
  clear hs hpar hb htx he1 hacts hca
  go_wp2_with fail
  obtain ⟨hp7, hb7, hq7⟩ := st_put (v' := ⟨⟨a1, inter1, ov1, l1, o1, text1, k1⟩, ib1, tb1, A1, c1⟩) HS.out ((((Below.refl _ _).alloc (Nat.le_refl _) _).alloc (by simp) _ : Below w.heap.size w _).trans (HB.out.mono (by omega))) HP.out (by omega) (by omega)
  have ha7 := (HA.out.put7 (w.heap.size + 1) (by omega) ⟨⟨a1, inter1, ov1, l1, o1, text1, k1⟩, ib1, tb1, A1, c1⟩).less (show w.heap.size ≤ _ by omega)
  simp only [World.put7] at hp7 hb7 hq7 ha7
  generalize (((((((w1.setCell ⟨w.heap.size + 1, 0, none⟩ (.int .i64 a1)).setCell ⟨w.heap.size + 1, 1, none⟩ (.string ib1)).setCell ⟨w.heap.size + 1, 2, none⟩ (.bool ov1)).setCell ⟨w.heap.size + 1, 3, none⟩ (.slice A1 l1.length c1)).setCell ⟨w.heap.size + 1, 4, none⟩ (.bool o1)).setCell ⟨w.heap.size + 1, 5, none⟩ (.string tb1)).setCell ⟨w.heap.size + 1, 6, none⟩ (.int .u8 k1)) = W7 at hp7 hb7 hq7 ha7 ⊢
  obtain ⟨d0, d1, d2, d3, d4, d5, d6, _⟩ := hp7.cells
  simp only at d0 d1 d2 d3 d4 d5 d6
  refine bodyPost_ret (v := .tuple #[.agg #[.int .i64 a1, .string ib1, .bool ov1, .slice A1 l1.length c1, .bool o1, .string tb1, .int .u8 k1], .slice Ac ((numbersF ⟨3, inter, over, l, o, text, kind⟩ c).2).length cA]) (by simp [results, Tryd.results89, go_sem, d0, d1, d2, d3, d4, d5, d6]) rfl ?_
  rw [HE.out]
  exact ⟨⟨⟨a1, inter1, ov1, l1, o1, text1, k1⟩, ib1, tb1, A1, c1⟩, Ac, cA, vs, HE1.out, rfl, HTX.out, hq7, ha7, HC.out, hb7⟩
set_option maxRecDepth 100000 in
set_option maxHeartbeats 1600000 in
theorem graphic_4 (v : Sv) (c : Int) (w : World) (hv : v.Ok w) (c0 : 0 ≤ c) (c256 : c < 256) (ha : v.s.a = 4) : Calls Tryd.prog 89 #[v.val, .int .u8 c] w (StRet v w (graphicF v.s c).1 (graphicF v.s c).2) := by
  obtain ⟨n1, n2⟩ := s_two w v sv0
  obtain ⟨⟨a0, inter, over, l, o, text, kind⟩, ib, tb, A, cc⟩ := v
  have N1 := Lib.hid n1; have N2 := Lib.hid n2; have HV := Lib.hid hv
  clear n1 n2 hv
  simp only at ha
  subst ha
  have hf : graphicF ⟨4, inter, over, l, o, text, kind⟩ c = numbersF ⟨4, inter, over, l, o, text, kind⟩ c := by unfold graphicF; rw [if_neg (by simp), if_pos (by simp)]
  have HE := Lib.hid hf
  clear hf
  show Calls Tryd.prog 89 #[.agg #[.int .i64 4, .string ib, .bool over, .slice A l.length cc, .bool o, .string tb, .int .u8 kind], .int .u8 c] w _
  go_enter Tryd.func89, Tryd.ntmps89
  go_wp2_with fail
  refine (numbers_any ⟨⟨4, inter, over, l, o, text, kind⟩, ib, tb, A, cc⟩ c _ (HV.out.next (((Below.refl _ _).alloc (Nat.le_refl _) _).alloc (by simp) _)) c0 c256).mono ?_
  intro e w1 hret
  obtain ⟨a1, inter1, ov1, l1, o1, text1, k1, ib1, tb1, A1, c1, Ac, cA, vs, he1, rfl, htx, hpar, hacts, hca, hb⟩ := hret.open
  clear hret
  simp only [size_two] at hb hpar hacts
  have hs := N2.out.past (hb.mono (by simp))
  have HS := Lib.hid hs; have HP := Lib.hid hpar; have HB := Lib.hid hb; have HTX := Lib.hid htx; have HE1 := Lib.hid he1; have HA := Lib.hid hacts; have HC := Lib.hid hca
  obtain ⟨q0, q1, q2, q3, q4, q5, q6, g0, g1, g2, g3, g4, g5, g6⟩ := hs.cells
  simp only [sv0, st0] at q0 q1 q2 q3 q4 q5 q6
  clear hs hpar hb htx he1 hacts hca
  go_wp2_with fail
  obtain ⟨hp7, hb7, hq7⟩ := st_put (v' := ⟨⟨a1, inter1, ov1, l1, o1, text1, k1⟩, ib1, tb1, A1, c1⟩) HS.out ((((Below.refl _ _).alloc (Nat.le_refl _) _).alloc (by simp) _ : Below w.heap.size w _).trans (HB.out.mono (by omega))) HP.out (by omega) (by omega)
  have ha7 := (HA.out.put7 (w.heap.size + 1) (by omega) ⟨⟨a1, inter1, ov1, l1, o1, text1, k1⟩, ib1, tb1, A1, c1⟩).less (show w.heap.size ≤ _ by omega)
  simp only [World.put7] at hp7 hb7 hq7 ha7
  generalize (((((((w1.setCell ⟨w.heap.size + 1, 0, none⟩ (.int .i64 a1)).setCell ⟨w.heap.size + 1, 1, none⟩ (.string ib1)).setCell ⟨w.heap.size + 1, 2, none⟩ (.bool ov1)).setCell ⟨w.heap.size + 1, 3, none⟩ (.slice A1 l1.length c1)).setCell ⟨w.heap.size + 1, 4, none⟩ (.bool o1)).setCell ⟨w.heap.size + 1, 5, none⟩ (.string tb1)).setCell ⟨w.heap.size + 1, 6, none⟩ (.int .u8 k1)) = W7 at hp7 hb7 hq7 ha7 ⊢
  obtain ⟨d0, d1, d2, d3, d4, d5, d6, _⟩ := hp7.cells
  simp only at d0 d1 d2 d3 d4 d5 d6
  refine bodyPost_ret (v := .tuple #[.agg #[.int .i64 a1, .string ib1, .bool ov1, .slice A1 l1.length c1, .bool o1, .string tb1, .int .u8 k1], .slice Ac ((numbersF ⟨4, inter, over, l, o, text, kind⟩ c).2).length cA]) (by simp [results, Tryd.results89, go_sem, d0, d1, d2, d3, d4, d5, d6]) rfl ?_
  rw [HE.out]
  exact ⟨⟨⟨a1, inter1, ov1, l1, o1, text1, k1⟩, ib1, tb1, A1, c1⟩, Ac, cA, vs, HE1.out, rfl, HTX.out, hq7, ha7, HC.out, hb7⟩
set_option maxRecDepth 100000 in
set_option maxHeartbeats 1600000 in
theorem graphic_5a (v : Sv) (c : Int) (w : World) (hv : v.Ok w) (c0 : 0 ≤ c) (c256 : c < 256) (ha : v.s.a = 5) (h : c ≤ 47) : Calls Tryd.prog 89 #[v.val, .int .u8 c] w (StRet v w (graphicF v.s c).1 (graphicF v.s c).2) := by
  obtain ⟨n1, n2⟩ := s_two w v sv0
  obtain ⟨⟨a0, inter, over, l, o, text, kind⟩, ib, tb, A, cc⟩ := v
  have N1 := Lib.hid n1; have N2 := Lib.hid n2; have HV := Lib.hid hv
  clear n1 n2 hv
  simp only at ha
  subst ha
  have hf : graphicF ⟨5, inter, over, l, o, text, kind⟩ c = (collectF ⟨5, inter, over, l, o, text, kind⟩ c 5, []) := by unfold graphicF; rw [if_neg (by simp), if_neg (by simp), if_pos rfl, if_pos h]
  have HE := Lib.hid hf
  clear hf
  show Calls Tryd.prog 89 #[.agg #[.int .i64 5, .string ib, .bool over, .slice A l.length cc, .bool o, .string tb, .int .u8 kind], .int .u8 c] w _
  go_enter Tryd.func89, Tryd.ntmps89
  go_wp2_with fail
  refine (collect_any ⟨⟨5, inter, over, l, o, text, kind⟩, ib, tb, A, cc⟩ c 5 _ HV.out.tx c0 c256).mono ?_
  intro e w1 hret
  obtain ⟨a1, inter1, ov1, l1, o1, text1, k1, ib1, tb1, A1, c1, he1, rfl, htx, hpar, hb⟩ := hret.open
  clear hret
  simp only [size_two] at hb hpar
  have hs := N2.out.past (hb.mono (by simp))
  have HS := Lib.hid hs; have HP := Lib.hid hpar; have HB := Lib.hid hb; have HTX := Lib.hid htx; have HE1 := Lib.hid he1
  obtain ⟨q0, q1, q2, q3, q4, q5, q6, g0, g1, g2, g3, g4, g5, g6⟩ := hs.cells
  simp only [sv0, st0] at q0 q1 q2 q3 q4 q5 q6
  clear hs hpar hb htx he1
  go_wp2_with fail
  obtain ⟨hp7, hb7, hq7⟩ := st_put (v' := ⟨⟨a1, inter1, ov1, l1, o1, text1, k1⟩, ib1, tb1, A1, c1⟩) HS.out ((((Below.refl _ _).alloc (Nat.le_refl _) _).alloc (by simp) _ : Below w.heap.size w _).trans (HB.out.mono (by omega))) HP.out (by omega) (by omega)
  simp only [World.put7] at hp7 hb7 hq7
  generalize (((((((w1.setCell ⟨w.heap.size + 1, 0, none⟩ (.int .i64 a1)).setCell ⟨w.heap.size + 1, 1, none⟩ (.string ib1)).setCell ⟨w.heap.size + 1, 2, none⟩ (.bool ov1)).setCell ⟨w.heap.size + 1, 3, none⟩ (.slice A1 l1.length c1)).setCell ⟨w.heap.size + 1, 4, none⟩ (.bool o1)).setCell ⟨w.heap.size + 1, 5, none⟩ (.string tb1)).setCell ⟨w.heap.size + 1, 6, none⟩ (.int .u8 k1)) = W7 at hp7 hb7 hq7 ⊢
  obtain ⟨d0, d1, d2, d3, d4, d5, d6, _⟩ := hp7.cells
  simp only at d0 d1 d2 d3 d4 d5 d6
  refine bodyPost_ret (v := .tuple #[.agg #[.int .i64 a1, .string ib1, .bool ov1, .slice A1 l1.length c1, .bool o1, .string tb1, .int .u8 k1], .slice none 0 0]) (by simp [results, Tryd.results89, go_sem, d0, d1, d2, d3, d4, d5, d6]) rfl ?_
  rw [HE.out]
  exact ⟨⟨⟨a1, inter1, ov1, l1, o1, text1, k1⟩, ib1, tb1, A1, c1⟩, none, 0, [], HE1.out, rfl, HTX.out, hq7, Acts.nil _ _ _ _, Nat.le_refl _, hb7⟩
set_option maxRecDepth 100000 in
set_option maxHeartbeats 1600000 in
theorem graphic_5b (v : Sv) (c : Int) (w : World) (hv : v.Ok w) (c0 : 0 ≤ c) (c256 : c < 256) (ha : v.s.a = 5) (h : 47 < c) (h2 : c ≤ 63) : Calls Tryd.prog 89 #[v.val, .int .u8 c] w (StRet v w (graphicF v.s c).1 (graphicF v.s c).2) := by
  obtain ⟨n1, n2⟩ := s_two w v sv0
  obtain ⟨⟨a0, inter, over, l, o, text, kind⟩, ib, tb, A, cc⟩ := v
  have N1 := Lib.hid n1; have N2 := Lib.hid n2; have HV := Lib.hid hv
  clear n1 n2 hv
  simp only at ha
  subst ha
  have hf : graphicF ⟨5, inter, over, l, o, text, kind⟩ c = (⟨6, inter, over, l, o, text, kind⟩, []) := by unfold graphicF; rw [if_neg (by simp), if_neg (by simp), if_pos rfl, if_neg (by omega), if_pos h2]
  have HE := Lib.hid hf
  clear hf
  show Calls Tryd.prog 89 #[.agg #[.int .i64 5, .string ib, .bool over, .slice A l.length cc, .bool o, .string tb, .int .u8 kind], .int .u8 c] w _
  go_enter Tryd.func89, Tryd.ntmps89
  go_wp2
  refine bodyPost_ret (v := .tuple #[.agg #[.int .i64 6, .string ib, .bool over, .slice A l.length cc, .bool o, .string tb, .int .u8 kind], .slice none 0 0]) (by simp [results, Tryd.results89, go_sem]) rfl ?_
  rw [HE.out]
  exact ⟨⟨⟨6, inter, over, l, o, text, kind⟩, ib, tb, A, cc⟩, none, 0, [], rfl, rfl, ⟨HV.out.tx.ib, HV.out.tx.tb, HV.out.tx.k⟩, .inl ⟨rfl, rfl, rfl⟩, Acts.nil _ _ _ _, Nat.le_refl _, ((Below.refl _ _).alloc (Nat.le_refl _) _).alloc (by simp) _⟩
set_option maxRecDepth 100000 in
set_option maxHeartbeats 1600000 in
theorem graphic_5c (v : Sv) (c : Int) (w : World) (hv : v.Ok w) (c0 : 0 ≤ c) (c256 : c < 256) (ha : v.s.a = 5) (h : 63 < c) : Calls Tryd.prog 89 #[v.val, .int .u8 c] w (StRet v w (graphicF v.s c).1 (graphicF v.s c).2) := by
  obtain ⟨n1, n2⟩ := s_two w v sv0
  obtain ⟨⟨a0, inter, over, l, o, text, kind⟩, ib, tb, A, cc⟩ := v
  have N1 := Lib.hid n1; have N2 := Lib.hid n2; have HV := Lib.hid hv
  clear n1 n2 hv
  simp only at ha
  subst ha
  have hf : graphicF ⟨5, inter, over, l, o, text, kind⟩ c = seqF ⟨5, inter, over, l, o, text, kind⟩ c := by unfold graphicF; rw [if_neg (by simp), if_neg (by simp), if_pos rfl, if_neg (by omega), if_neg (by omega)]
  have HE := Lib.hid hf
  clear hf
  show Calls Tryd.prog 89 #[.agg #[.int .i64 5, .string ib, .bool over, .slice A l.length cc, .bool o, .string tb, .int .u8 kind], .int .u8 c] w _
  go_enter Tryd.func89, Tryd.ntmps89
  go_wp2_with fail
  refine (sequence_any ⟨⟨5, inter, over, l, o, text, kind⟩, ib, tb, A, cc⟩ c _ HV.out.tx).mono ?_
  intro e w1 hret
  obtain ⟨a1, inter1, ov1, l1, o1, text1, k1, ib1, tb1, A1, c1, Ac, cA, vs, he1, rfl, htx, hpar, hacts, hca, hb⟩ := hret.open
  clear hret
  simp only [size_two] at hb hpar hacts
  have hs := N2.out.past (hb.mono (by simp))
  have HS := Lib.hid hs; have HP := Lib.hid hpar; have HB := Lib.hid hb; have HTX := Lib.hid htx; have HE1 := Lib.hid he1; have HA := Lib.hid hacts; have HC := Lib.hid hca
  obtain ⟨q0, q1, q2, q3, q4, q5, q6, g0, g1, g2, g3, g4, g5, g6⟩ := hs.cells
  simp only [sv0, st0] at q0 q1 q2 q3 q4 q5 q6
  clear hs hpar hb htx he1 hacts hca
  go_wp2_with fail
  obtain ⟨hp7, hb7, hq7⟩ := st_put (v' := ⟨⟨a1, inter1, ov1, l1, o1, text1, k1⟩, ib1, tb1, A1, c1⟩) HS.out ((((Below.refl _ _).alloc (Nat.le_refl _) _).alloc (by simp) _ : Below w.heap.size w _).trans (HB.out.mono (by omega))) HP.out (by omega) (by omega)
  have ha7 := (HA.out.put7 (w.heap.size + 1) (by omega) ⟨⟨a1, inter1, ov1, l1, o1, text1, k1⟩, ib1, tb1, A1, c1⟩).less (show w.heap.size ≤ _ by omega)
  simp only [World.put7] at hp7 hb7 hq7 ha7
  generalize (((((((w1.setCell ⟨w.heap.size + 1, 0, none⟩ (.int .i64 a1)).setCell ⟨w.heap.size + 1, 1, none⟩ (.string ib1)).setCell ⟨w.heap.size + 1, 2, none⟩ (.bool ov1)).setCell ⟨w.heap.size + 1, 3, none⟩ (.slice A1 l1.length c1)).setCell ⟨w.heap.size + 1, 4, none⟩ (.bool o1)).setCell ⟨w.heap.size + 1, 5, none⟩ (.string tb1)).setCell ⟨w.heap.size + 1, 6, none⟩ (.int .u8 k1)) = W7 at hp7 hb7 hq7 ha7 ⊢
  obtain ⟨d0, d1, d2, d3, d4, d5, d6, _⟩ := hp7.cells
  simp only at d0 d1 d2 d3 d4 d5 d6
  refine bodyPost_ret (v := .tuple #[.agg #[.int .i64 a1, .string ib1, .bool ov1, .slice A1 l1.length c1, .bool o1, .string tb1, .int .u8 k1], .slice Ac ((seqF ⟨5, inter, over, l, o, text, kind⟩ c).2).length cA]) (by simp [results, Tryd.results89, go_sem, d0, d1, d2, d3, d4, d5, d6]) rfl ?_
  rw [HE.out]
  exact ⟨⟨⟨a1, inter1, ov1, l1, o1, text1, k1⟩, ib1, tb1, A1, c1⟩, Ac, cA, vs, HE1.out, rfl, HTX.out, hq7, ha7, HC.out, hb7⟩
set_option maxRecDepth 100000 in
set_option maxHeartbeats 1600000 in
theorem graphic_6a (v : Sv) (c : Int) (w : World) (hv : v.Ok w) (_c0 : 0 ≤ c) (_c256 : c < 256) (ha : v.s.a = 6) (h : 64 ≤ c) : Calls Tryd.prog 89 #[v.val, .int .u8 c] w (StRet v w (graphicF v.s c).1 (graphicF v.s c).2) := by
  obtain ⟨n1, n2⟩ := s_two w v sv0
  obtain ⟨⟨a0, inter, over, l, o, text, kind⟩, ib, tb, A, cc⟩ := v
  have N1 := Lib.hid n1; have N2 := Lib.hid n2; have HV := Lib.hid hv
  clear n1 n2 hv
  simp only at ha
  subst ha
  have hf : graphicF ⟨6, inter, over, l, o, text, kind⟩ c = (st0, []) := by unfold graphicF; rw [if_neg (by simp), if_neg (by simp), if_neg (by simp), if_pos rfl, if_pos h]
  have HE := Lib.hid hf
  clear hf
  show Calls Tryd.prog 89 #[.agg #[.int .i64 6, .string ib, .bool over, .slice A l.length cc, .bool o, .string tb, .int .u8 kind], .int .u8 c] w _
  go_enter Tryd.func89, Tryd.ntmps89
  go_wp2
  refine bodyPost_ret (v := .tuple #[.agg #[.int .i64 0, .string ⟨#[]⟩, .bool false, .slice none 0 0, .bool false, .string ⟨#[]⟩, .int .u8 0], .slice none 0 0]) (by simp [results, Tryd.results89, go_sem]) rfl ?_
  rw [HE.out]
  exact ⟨sv0, none, 0, [], rfl, rfl, sv0_tx, ParOk.nil _ _ _, Acts.nil _ _ _ _, Nat.le_refl _, ((Below.refl _ _).alloc (Nat.le_refl _) _).alloc (by simp) _⟩
set_option maxRecDepth 100000 in
set_option maxHeartbeats 1600000 in
theorem graphic_6b (v : Sv) (c : Int) (w : World) (hv : v.Ok w) (c0 : 0 ≤ c) (c256 : c < 256) (ha : v.s.a = 6) (h : c < 64) : Calls Tryd.prog 89 #[v.val, .int .u8 c] w (StRet v w (graphicF v.s c).1 (graphicF v.s c).2) := by
  obtain ⟨n1, n2⟩ := s_two w v sv0
  obtain ⟨⟨a0, inter, over, l, o, text, kind⟩, ib, tb, A, cc⟩ := v
  have N1 := Lib.hid n1; have N2 := Lib.hid n2; have HV := Lib.hid hv
  clear n1 n2 hv
  simp only at ha
  subst ha
  have hf : graphicF ⟨6, inter, over, l, o, text, kind⟩ c = (⟨6, inter, over, l, o, text, kind⟩, []) := by unfold graphicF; rw [if_neg (by simp), if_neg (by simp), if_neg (by simp), if_pos rfl, if_neg (by omega)]
  have HE := Lib.hid hf
  clear hf
  show Calls Tryd.prog 89 #[.agg #[.int .i64 6, .string ib, .bool over, .slice A l.length cc, .bool o, .string tb, .int .u8 kind], .int .u8 c] w _
  go_enter Tryd.func89, Tryd.ntmps89
  go_wp2
  refine bodyPost_ret (v := .tuple #[.agg #[.int .i64 6, .string ib, .bool over, .slice A l.length cc, .bool o, .string tb, .int .u8 kind], .slice none 0 0]) (by simp [results, Tryd.results89, go_sem]) rfl ?_
  rw [HE.out]
  exact ⟨⟨⟨6, inter, over, l, o, text, kind⟩, ib, tb, A, cc⟩, none, 0, [], rfl, rfl, ⟨HV.out.tx.ib, HV.out.tx.tb, HV.out.tx.k⟩, .inl ⟨rfl, rfl, rfl⟩, Acts.nil _ _ _ _, Nat.le_refl _, ((Below.refl _ _).alloc (Nat.le_refl _) _).alloc (by simp) _⟩
set_option maxRecDepth 100000 in
set_option maxHeartbeats 1600000 in
theorem graphic_else (v : Sv) (c : Int) (w : World) (hv : v.Ok w) (c0 : 0 ≤ c) (c256 : c < 256) (ha : v.s.a ≠ 1 ∧ v.s.a ≠ 2 ∧ v.s.a ≠ 3 ∧ v.s.a ≠ 4 ∧ v.s.a ≠ 5 ∧ v.s.a ≠ 6) : Calls Tryd.prog 89 #[v.val, .int .u8 c] w (StRet v w (graphicF v.s c).1 (graphicF v.s c).2) := by
  obtain ⟨n1, n2⟩ := s_two w v sv0
  obtain ⟨⟨a0, inter, over, l, o, text, kind⟩, ib, tb, A, cc⟩ := v
  have N1 := Lib.hid n1; have N2 := Lib.hid n2; have HV := Lib.hid hv
  clear n1 n2 hv
  simp only at ha
  obtain ⟨e1, e2, e3, e4, e5, e6⟩ := ha
  have hf : graphicF ⟨a0, inter, over, l, o, text, kind⟩ c = (st0, [axPrint c]) := by unfold graphicF; rw [if_neg (by simp [e1, e2]), if_neg (by simp [e3, e4]), if_neg e5, if_neg e6]
  have HE := Lib.hid hf
  clear hf
  have f1 : (a0 == 1) = false := beq_eq_false_iff_ne.2 e1
  have f2 : (a0 == 2) = false := beq_eq_false_iff_ne.2 e2
  have f3 : (a0 == 3) = false := beq_eq_false_iff_ne.2 e3
  have f4 : (a0 == 4) = false := beq_eq_false_iff_ne.2 e4
  have f5 : (a0 == 5) = false := beq_eq_false_iff_ne.2 e5
  have f6 : (a0 == 6) = false := beq_eq_false_iff_ne.2 e6
  clear e1 e2 e3 e4 e5 e6
  show Calls Tryd.prog 89 #[.agg #[.int .i64 a0, .string ib, .bool over, .slice A l.length cc, .bool o, .string tb, .int .u8 kind], .int .u8 c] w _
  go_enter Tryd.func89, Tryd.ntmps89
  go_wp2_with fail
  refine (letter6_any ⟨⟨a0, inter, over, l, o, text, kind⟩, ib, tb, A, cc⟩ c _).mono ?_
  rintro e w1 ⟨Ac, cA, vs, rfl, hacts, hca, hb⟩
  simp only [size_two] at hb hacts
  have hs := N2.out.past (hb.mono (by simp))
  have HS := Lib.hid hs; have HB := Lib.hid hb; have HA := Lib.hid hacts; have HC := Lib.hid hca
  obtain ⟨q0, q1, q2, q3, q4, q5, q6, g0, g1, g2, g3, g4, g5, g6⟩ := hs.cells
  simp only [sv0, st0] at q0 q1 q2 q3 q4 q5 q6
  clear hs hb hacts hca
  go_wp2_with fail
  obtain ⟨hp7, hb7, hq7⟩ := st_put (v' := sv0) (v := ⟨⟨a0, inter, over, l, o, text, kind⟩, ib, tb, A, cc⟩) (hi := w.heap.size + 2) HS.out ((((Below.refl _ _).alloc (Nat.le_refl _) _).alloc (by simp) _ : Below w.heap.size w _).trans (HB.out.mono (by omega))) (ParOk.nil _ _ _) (by omega) (by omega)
  have ha7 := (HA.out.put7 (w.heap.size + 1) (by omega) sv0).less (show w.heap.size ≤ _ by omega)
  simp only [World.put7] at hp7 hb7 hq7 ha7
  have hp8 : SAt (((((((w1.setCell ⟨w.heap.size + 1, 0, none⟩ (.int .i64 0)).setCell ⟨w.heap.size + 1, 1, none⟩ (.string ⟨#[]⟩)).setCell ⟨w.heap.size + 1, 2, none⟩ (.bool false)).setCell ⟨w.heap.size + 1, 3, none⟩ (.slice none 0 0)).setCell ⟨w.heap.size + 1, 4, none⟩ (.bool false)).setCell ⟨w.heap.size + 1, 5, none⟩ (.string ⟨#[]⟩)).setCell ⟨w.heap.size + 1, 6, none⟩ (.int .u8 0)) (w.heap.size + 1) sv0 := hp7
  have hb8 : Below w.heap.size w (((((((w1.setCell ⟨w.heap.size + 1, 0, none⟩ (.int .i64 0)).setCell ⟨w.heap.size + 1, 1, none⟩ (.string ⟨#[]⟩)).setCell ⟨w.heap.size + 1, 2, none⟩ (.bool false)).setCell ⟨w.heap.size + 1, 3, none⟩ (.slice none 0 0)).setCell ⟨w.heap.size + 1, 4, none⟩ (.bool false)).setCell ⟨w.heap.size + 1, 5, none⟩ (.string ⟨#[]⟩)).setCell ⟨w.heap.size + 1, 6, none⟩ (.int .u8 0)) := hb7
  have ha8 : Acts ⟨⟨a0, inter, over, l, o, text, kind⟩, ib, tb, A, cc⟩ w.heap.size (((((((w1.setCell ⟨w.heap.size + 1, 0, none⟩ (.int .i64 0)).setCell ⟨w.heap.size + 1, 1, none⟩ (.string ⟨#[]⟩)).setCell ⟨w.heap.size + 1, 2, none⟩ (.bool false)).setCell ⟨w.heap.size + 1, 3, none⟩ (.slice none 0 0)).setCell ⟨w.heap.size + 1, 4, none⟩ (.bool false)).setCell ⟨w.heap.size + 1, 5, none⟩ (.string ⟨#[]⟩)).setCell ⟨w.heap.size + 1, 6, none⟩ (.int .u8 0)) Ac [axPrint c] vs := ha7
  clear hp7 hb7 hq7 ha7
  generalize (((((((w1.setCell ⟨w.heap.size + 1, 0, none⟩ (.int .i64 0)).setCell ⟨w.heap.size + 1, 1, none⟩ (.string ⟨#[]⟩)).setCell ⟨w.heap.size + 1, 2, none⟩ (.bool false)).setCell ⟨w.heap.size + 1, 3, none⟩ (.slice none 0 0)).setCell ⟨w.heap.size + 1, 4, none⟩ (.bool false)).setCell ⟨w.heap.size + 1, 5, none⟩ (.string ⟨#[]⟩)).setCell ⟨w.heap.size + 1, 6, none⟩ (.int .u8 0)) = W7 at hp8 hb8 ha8 ⊢
  obtain ⟨d0, d1, d2, d3, d4, d5, d6, _⟩ := hp8.cells
  simp only [sv0, st0] at d0 d1 d2 d3 d4 d5 d6
  refine bodyPost_ret (v := .tuple #[.agg #[.int .i64 0, .string ⟨#[]⟩, .bool false, .slice none 0 0, .bool false, .string ⟨#[]⟩, .int .u8 0], .slice Ac 1 cA]) (by simp [results, Tryd.results89, go_sem, d0, d1, d2, d3, d4, d5, d6]) rfl ?_
  rw [HE.out]
  exact ⟨sv0, Ac, cA, vs, rfl, rfl, sv0_tx, ParOk.nil _ _ _, ha8, HC.out, hb8⟩
theorem graphic_any (v : Sv) (c : Int) (w : World) (hv : v.Ok w) (c0 : 0 ≤ c) (c256 : c < 256) : Calls Tryd.prog 89 #[v.val, .int .u8 c] w (StRet v w (graphicF v.s c).1 (graphicF v.s c).2) := by
  by_cases e1 : v.s.a = 1
  · exact graphic_1 v c w hv c0 c256 e1
  by_cases e2 : v.s.a = 2
  · exact graphic_2 v c w hv c0 c256 e2
  by_cases e3 : v.s.a = 3
  · exact graphic_3 v c w hv c0 c256 e3
  by_cases e4 : v.s.a = 4
  · exact graphic_4 v c w hv c0 c256 e4
  by_cases e5 : v.s.a = 5
  · by_cases h : c ≤ 47
    · exact graphic_5a v c w hv c0 c256 e5 h
    by_cases h2 : c ≤ 63
    · exact graphic_5b v c w hv c0 c256 e5 (by omega) h2
    · exact graphic_5c v c w hv c0 c256 e5 (by omega)
  by_cases e6 : v.s.a = 6
  · by_cases h : 64 ≤ c
    · exact graphic_6a v c w hv c0 c256 e6 h
    · exact graphic_6b v c w hv c0 c256 e6 (by omega)
  · exact graphic_else v c w hv c0 c256 ⟨e1, e2, e3, e4, e5, e6⟩
end Go.Proofs.YtcempbgbdlmjfaaDoor
