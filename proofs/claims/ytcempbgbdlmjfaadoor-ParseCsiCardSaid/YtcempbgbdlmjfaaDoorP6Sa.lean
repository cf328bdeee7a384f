/-
  parse: the walk of Sane: the ways that end ahead of its loop.
-/
import Derived.Test.YtcempbgbdlmjfaaDoorP6St
namespace Go.Proofs.YtcempbgbdlmjfaaDoor
open Go.RowKit

theorem s_one (w : World) (v : Sv) : SAt (w.alloc (.cells v.cells.toArray 82)) w.heap.size v := heap_alloc_new w _
set_option maxRecDepth 100000 in
set_option maxHeartbeats 1600000 in
theorem sane_neg (v : Sv) (w : World) (hv : v.Ok w) (h : v.s.a < 0) : Calls Tryd.prog 56 #[v.val] w fun e w' => e = .returned (.bool (saneS v.s)) ∧ Below w.heap.size w w' := by
  have n1 := s_one w v
  obtain ⟨⟨a0, inter, over, l, o, text, kind⟩, ib, tb, A, cc⟩ := v
  have N1 := Lib.hid n1; have HV := Lib.hid hv
  have hib : ib.size = inter.length := by have h := hv.tx.ib; simp only at h; rw [ba_size2, h]
  have htb : tb.size = text.length := by have h := hv.tx.tb; simp only at h; rw [ba_size2, h]
  clear n1 hv
  simp only at h
  have he : saneS ⟨a0, inter, over, l, o, text, kind⟩ = false := by
    unfold saneS; simp only [show (decide (0 ≤ a0 ∧ a0 ≤ 9)) = false by simp; omega, Bool.false_and]
  have HE := Lib.hid he
  clear he
  show Calls Tryd.prog 56 #[.agg #[.int .i64 a0, .string ib, .bool over, .slice A l.length cc, .bool o, .string tb, .int .u8 kind]] w _
  go_enter Tryd.func56, Tryd.ntmps56
  go_wp2
  go_ret
  exact ⟨by rw [HE.out]; rfl, (Below.refl _ _).alloc (Nat.le_refl _) _⟩
set_option maxRecDepth 100000 in
set_option maxHeartbeats 1600000 in
theorem sane_big (v : Sv) (w : World) (hv : v.Ok w) (h0 : 0 ≤ v.s.a) (h : 9 < v.s.a) : Calls Tryd.prog 56 #[v.val] w fun e w' => e = .returned (.bool (saneS v.s)) ∧ Below w.heap.size w w' := by
  have n1 := s_one w v
  obtain ⟨⟨a0, inter, over, l, o, text, kind⟩, ib, tb, A, cc⟩ := v
  have N1 := Lib.hid n1; have HV := Lib.hid hv
  have hib : ib.size = inter.length := by have h := hv.tx.ib; simp only at h; rw [ba_size2, h]
  have htb : tb.size = text.length := by have h := hv.tx.tb; simp only at h; rw [ba_size2, h]
  clear n1 hv
  simp only at h h0
  have he : saneS ⟨a0, inter, over, l, o, text, kind⟩ = false := by
    unfold saneS; simp only [show (decide (0 ≤ a0 ∧ a0 ≤ 9)) = false by simp; omega, Bool.false_and]
  have HE := Lib.hid he
  clear he
  show Calls Tryd.prog 56 #[.agg #[.int .i64 a0, .string ib, .bool over, .slice A l.length cc, .bool o, .string tb, .int .u8 kind]] w _
  go_enter Tryd.func56, Tryd.ntmps56
  go_wp2
  go_ret
  exact ⟨by rw [HE.out]; rfl, (Below.refl _ _).alloc (Nat.le_refl _) _⟩
set_option maxRecDepth 100000 in
set_option maxHeartbeats 1600000 in
theorem sane_inter (v : Sv) (w : World) (hv : v.Ok w) (h0 : 0 ≤ v.s.a) (h9 : v.s.a ≤ 9) (hm : v.s.inter.length < 9223372036854775808) (h : 2 < v.s.inter.length) : Calls Tryd.prog 56 #[v.val] w fun e w' => e = .returned (.bool (saneS v.s)) ∧ Below w.heap.size w w' := by
  have n1 := s_one w v
  obtain ⟨⟨a0, inter, over, l, o, text, kind⟩, ib, tb, A, cc⟩ := v
  have N1 := Lib.hid n1; have HV := Lib.hid hv
  have hib : ib.size = inter.length := by have h := hv.tx.ib; simp only at h; rw [ba_size2, h]
  have htb : tb.size = text.length := by have h := hv.tx.tb; simp only at h; rw [ba_size2, h]
  clear n1 hv
  simp only at h h0 h9 hm
  have he : saneS ⟨a0, inter, over, l, o, text, kind⟩ = false := by
    unfold saneS; simp only [show (decide (inter.length ≤ 2)) = false by simp; omega, Bool.false_and, Bool.and_false]
  have HE := Lib.hid he
  clear he
  show Calls Tryd.prog 56 #[.agg #[.int .i64 a0, .string ib, .bool over, .slice A l.length cc, .bool o, .string tb, .int .u8 kind]] w _
  go_enter Tryd.func56, Tryd.ntmps56
  go_wp2
  go_ret
  exact ⟨by rw [HE.out]; rfl, (Below.refl _ _).alloc (Nat.le_refl _) _⟩
set_option maxRecDepth 100000 in
set_option maxHeartbeats 1600000 in
theorem sane_text (v : Sv) (w : World) (hv : v.Ok w) (h0 : 0 ≤ v.s.a) (h9 : v.s.a ≤ 9) (hi : v.s.inter.length ≤ 2) (hm : v.s.text.length < 9223372036854775808) (h : 1024 < v.s.text.length) : Calls Tryd.prog 56 #[v.val] w fun e w' => e = .returned (.bool (saneS v.s)) ∧ Below w.heap.size w w' := by
  have n1 := s_one w v
  obtain ⟨⟨a0, inter, over, l, o, text, kind⟩, ib, tb, A, cc⟩ := v
  have N1 := Lib.hid n1; have HV := Lib.hid hv
  have hib : ib.size = inter.length := by have h := hv.tx.ib; simp only at h; rw [ba_size2, h]
  have htb : tb.size = text.length := by have h := hv.tx.tb; simp only at h; rw [ba_size2, h]
  clear n1 hv
  simp only at h h0 h9 hi hm
  have he : saneS ⟨a0, inter, over, l, o, text, kind⟩ = false := by
    unfold saneS; simp only [show (decide (text.length ≤ 1024)) = false by simp; omega, Bool.false_and, Bool.and_false]
  have HE := Lib.hid he
  clear he
  show Calls Tryd.prog 56 #[.agg #[.int .i64 a0, .string ib, .bool over, .slice A l.length cc, .bool o, .string tb, .int .u8 kind]] w _
  go_enter Tryd.func56, Tryd.ntmps56
  go_wp2
  go_ret
  exact ⟨by rw [HE.out]; rfl, (Below.refl _ _).alloc (Nat.le_refl _) _⟩
set_option maxRecDepth 100000 in
set_option maxHeartbeats 1600000 in
theorem sane_par (v : Sv) (w : World) (hv : v.Ok w) (h0 : 0 ≤ v.s.a) (h9 : v.s.a ≤ 9) (hi : v.s.inter.length ≤ 2) (ht : v.s.text.length ≤ 1024) (h : saneP ⟨v.s.l, v.s.o⟩ = false) : Calls Tryd.prog 56 #[v.val] w fun e w' => e = .returned (.bool (saneS v.s)) ∧ Below w.heap.size w w' := by
  have n1 := s_one w v
  obtain ⟨⟨a0, inter, over, l, o, text, kind⟩, ib, tb, A, cc⟩ := v
  have N1 := Lib.hid n1; have HV := Lib.hid hv
  have hib : ib.size = inter.length := by have h := hv.tx.ib; simp only at h; rw [ba_size2, h]
  have htb : tb.size = text.length := by have h := hv.tx.tb; simp only at h; rw [ba_size2, h]
  clear n1 hv
  simp only at h h0 h9 hi ht
  have hrd := HV.out.rd.next ((Below.refl _ _).alloc (Nat.le_refl _) (.cells #[.int .i64 a0, .string ib, .bool over, .slice A l.length cc, .bool o, .string tb, .int .u8 kind] 82))
  have HRD := Lib.hid hrd
  clear hrd
  have he : saneS ⟨a0, inter, over, l, o, text, kind⟩ = false := by
    unfold saneS; rw [h]; simp only [Bool.false_and, Bool.and_false]
  have HH := Lib.hid h
  clear h
  have HE := Lib.hid he
  clear he
  show Calls Tryd.prog 56 #[.agg #[.int .i64 a0, .string ib, .bool over, .slice A l.length cc, .bool o, .string tb, .int .u8 kind]] w _
  go_enter Tryd.func56, Tryd.ntmps56
  go_wp2_with (go_at_call 38; refine (sanep_any l o _ _ HRD.out).mono ?_; rintro e w1 ⟨rfl, hb1⟩; rw [HH.out])
  go_ret
  exact ⟨by rw [HE.out]; rfl, ((Below.refl _ _).alloc (Nat.le_refl _) _).trans (hb1.mono (by simp))⟩
end Go.Proofs.YtcempbgbdlmjfaaDoor
