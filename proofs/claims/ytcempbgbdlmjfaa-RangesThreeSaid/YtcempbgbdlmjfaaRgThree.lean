/-
  lapwinglaw01.RangesThree: for any three lists of rows it answers true: over what lies over another one: whichever two are laid first, it is the same. No condition.
-/
import Derived.Test.YtcempbgbdlmjfaaRgH
import Derived.Test.YtcempbgbdlmjfaaRgG
import Derived.Deep.CutRange
import Derived.Deep.DeepCutAuto
namespace Go.Proofs.Ytcempbgbdlmjfaa
open Go.RowKit

theorem make_zero {l : List R} (h : (makeF l).2 = 0) : saneF (makeF l).1 = true ∧ (makeF l).1.length ≤ l.length := by
  unfold makeF at h ⊢
  split at h
  · rename_i hok
    rw [if_pos hok]
    split at h
    · simp at h
    · rename_i h4
      rw [if_neg h4]
      have := makeL_spec l hok
      exact ⟨(saneF_iff _).2 ⟨by show (makeGo l []).length ≤ 4096; omega, this.1⟩, this.2.2.2⟩
  · simp at h

theorem field_table (A : Option Addr) (n c : Nat) (w : World) : (Instr.field 27 (.agg #[.slice A n c]) 0).run Try.prog w = .ok (.slice A n c) w := by kernel_rfl

set_option maxRecDepth 100000 in
set_option maxHeartbeats 3200000 in
theorem three_walk (a b c : List R) (Aa Ab Ac : Option Addr) (ca cb cc : Nat) (w : World) (hra : Rd w w.heap.size Aa (rowCells a)) (hrb : Rd w w.heap.size Ab (rowCells b)) (hrc : Rd w w.heap.size Ac (rowCells c))
    (la : a.length ≤ maxLen) (lb : b.length ≤ maxLen) (lc : c.length ≤ maxLen) :
    Calls Try.prog 5 #[.slice Aa a.length ca, .slice Ab b.length cb, .slice Ac c.length cc] w fun e w' => e = .returned (.bool true) ∧ Below w.heap.size w w' := by
  unfold maxLen at la lb lc
  have RA := Lib.hid hra
  have RB := Lib.hid hrb
  have RC := Lib.hid hrc
  clear hra hrb hrc
  by_cases ha30 : 30 < a.length
  · have b0 := (Below.refl w.heap.size w)
    go_enter Try.func5, Try.ntmps5
    go_wp2_with fail
    refine (awake_any _).mono ?_
    rintro e w1 ⟨rfl, hb1⟩
    have c1B := bt b0 hb1 b0.size
    replace RA := Lib.hid (Rd.next RA.out hb1)
    replace RB := Lib.hid (Rd.next RB.out hb1)
    replace RC := Lib.hid (Rd.next RC.out hb1)
    clear b0
    clear hb1
    go_wp2_with fail
    go_ret
    exact ⟨rfl, c1B⟩
  by_cases hb30 : 30 < b.length
  · have b0 := (Below.refl w.heap.size w)
    go_enter Try.func5, Try.ntmps5
    go_wp2_with fail
    refine (awake_any _).mono ?_
    rintro e w1 ⟨rfl, hb1⟩
    have c1B := bt b0 hb1 b0.size
    replace RA := Lib.hid (Rd.next RA.out hb1)
    replace RB := Lib.hid (Rd.next RB.out hb1)
    replace RC := Lib.hid (Rd.next RC.out hb1)
    clear b0
    clear hb1
    go_wp2_with fail
    go_ret
    exact ⟨rfl, c1B⟩
  by_cases hc30 : 30 < c.length
  · have b0 := (Below.refl w.heap.size w)
    go_enter Try.func5, Try.ntmps5
    go_wp2_with fail
    refine (awake_any _).mono ?_
    rintro e w1 ⟨rfl, hb1⟩
    have c1B := bt b0 hb1 b0.size
    replace RA := Lib.hid (Rd.next RA.out hb1)
    replace RB := Lib.hid (Rd.next RB.out hb1)
    replace RC := Lib.hid (Rd.next RC.out hb1)
    clear b0
    clear hb1
    go_wp2_with fail
    go_ret
    exact ⟨rfl, c1B⟩
  obtain ⟨ea, hea⟩ : ∃ z, z = (makeF a).2 := ⟨_, rfl⟩
  obtain ⟨eb, heb⟩ : ∃ z, z = (makeF b).2 := ⟨_, rfl⟩
  obtain ⟨ec, hec⟩ : ∃ z, z = (makeF c).2 := ⟨_, rfl⟩
  obtain ⟨ta, hta⟩ : ∃ z, z = (makeF a).1 := ⟨_, rfl⟩
  obtain ⟨tb, htb⟩ : ∃ z, z = (makeF b).1 := ⟨_, rfl⟩
  obtain ⟨tc, htc⟩ : ∃ z, z = (makeF c).1 := ⟨_, rfl⟩
  have hsa : ea = 0 → saneF ta = true ∧ ta.length ≤ 30 := fun h => by have := make_zero (l := a) (by rw [← hea]; exact h); rw [hta]; exact ⟨this.1, by omega⟩
  have hsb : eb = 0 → saneF tb = true ∧ tb.length ≤ 30 := fun h => by have := make_zero (l := b) (by rw [← heb]; exact h); rw [htb]; exact ⟨this.1, by omega⟩
  have hsc : ec = 0 → saneF tc = true ∧ tc.length ≤ 30 := fun h => by have := make_zero (l := c) (by rw [← hec]; exact h); rw [htc]; exact ⟨this.1, by omega⟩
  have MA := fun (A : Option Addr) (k : Nat) (w' : World) (h : Rd w' w'.heap.size A (rowCells a)) => make_any a A k w' _ (Nat.le_refl _) h (by omega)
  have MB := fun (A : Option Addr) (k : Nat) (w' : World) (h : Rd w' w'.heap.size A (rowCells b)) => make_any b A k w' _ (Nat.le_refl _) h (by omega)
  have MC := fun (A : Option Addr) (k : Nat) (w' : World) (h : Rd w' w'.heap.size A (rowCells c)) => make_any c A k w' _ (Nat.le_refl _) h (by omega)
  rw [← hea, ← hta] at MA
  rw [← heb, ← htb] at MB
  rw [← hec, ← htc] at MC
  have HMA := Lib.hid MA
  have HMB := Lib.hid MB
  have HMC := Lib.hid MC
  have HSA := Lib.hid hsa
  have HSB := Lib.hid hsb
  have HSC := Lib.hid hsc
  clear MA MB MC hsa hsb hsc hea heb hec hta htb htc
  by_cases za : ea = 0
  case neg =>
    have na : (ea != 0) = true := by simpa using za
    have b0 := (Below.refl w.heap.size w)
    go_enter Try.func5, Try.ntmps5
    go_wp2_with fail
    refine (awake_any _).mono ?_
    rintro e w1 ⟨rfl, hb1⟩
    have c1B := bt b0 hb1 b0.size
    replace RA := Lib.hid (Rd.next RA.out hb1)
    replace RB := Lib.hid (Rd.next RB.out hb1)
    replace RC := Lib.hid (Rd.next RC.out hb1)
    clear b0
    clear hb1
    go_wp2_with fail
    refine (ours_any a _ _ _ _ (Nat.le_refl _) RA.out (by omega)).mono ?_
    rintro e w2 ⟨A2, c2, rfl, o2, hb2⟩
    have c2B := bt c1B hb2 c1B.size
    replace RA := Lib.hid (Rd.next RA.out hb2)
    replace RB := Lib.hid (Rd.next RB.out hb2)
    replace RC := Lib.hid (Rd.next RC.out hb2)
    clear c1B
    have U2 := Lib.hid (Rd.of_own o2)
    clear o2
    clear hb2
    go_wp2_with fail
    refine (HMA.out _ _ _ U2.out).mono ?_
    rintro e w3 ⟨A3, c3, rfl, o3, hb3⟩
    have c3B := bt c2B hb3 c2B.size
    replace RA := Lib.hid (Rd.next RA.out hb3)
    replace RB := Lib.hid (Rd.next RB.out hb3)
    replace RC := Lib.hid (Rd.next RC.out hb3)
    replace U2 := Lib.hid (Rd.next U2.out hb3)
    clear c2B
    have Ta := Lib.hid (Rd.of_own o3)
    clear o3
    clear hb3
    clear U2
    have Ka := Lib.hid (heap_alloc_new w3 (.cells #[.slice A3 ta.length c3] 27))
    go_wp2_with fail
    have c4B := c3B.alloc c3B.size (.cells #[.slice A3 ta.length c3] 27)
    clear c3B
    replace RA := Lib.hid (Rd.nextA RA.out (.cells #[.slice A3 ta.length c3] 27))
    replace RB := Lib.hid (Rd.nextA RB.out (.cells #[.slice A3 ta.length c3] 27))
    replace RC := Lib.hid (Rd.nextA RC.out (.cells #[.slice A3 ta.length c3] 27))
    replace Ta := Lib.hid (Rd.nextA Ta.out (.cells #[.slice A3 ta.length c3] 27))
    refine (ours_any b _ _ _ _ (Nat.le_refl _) RB.out (by omega)).mono ?_
    rintro e w5 ⟨A5, c5, rfl, o5, hb5⟩
    have c5B := bt c4B hb5 c4B.size
    replace RA := Lib.hid (Rd.next RA.out hb5)
    replace RB := Lib.hid (Rd.next RB.out hb5)
    replace RC := Lib.hid (Rd.next RC.out hb5)
    replace Ta := Lib.hid (Rd.next Ta.out hb5)
    replace Ka := Lib.hid (blk_past Ka.out hb5 (Nat.le_refl _))
    clear c4B
    have U5 := Lib.hid (Rd.of_own o5)
    clear o5
    clear hb5
    go_wp2_with fail
    refine (HMB.out _ _ _ U5.out).mono ?_
    rintro e w6 ⟨A6, c6, rfl, o6, hb6⟩
    have c6B := bt c5B hb6 c5B.size
    replace RA := Lib.hid (Rd.next RA.out hb6)
    replace RB := Lib.hid (Rd.next RB.out hb6)
    replace RC := Lib.hid (Rd.next RC.out hb6)
    replace Ta := Lib.hid (Rd.next Ta.out hb6)
    replace Ka := Lib.hid (blk_past Ka.out hb6 (Nat.le_refl _))
    replace U5 := Lib.hid (Rd.next U5.out hb6)
    clear c5B
    have Tb := Lib.hid (Rd.of_own o6)
    clear o6
    clear hb6
    clear U5
    have Kb := Lib.hid (heap_alloc_new w6 (.cells #[.slice A6 tb.length c6] 27))
    go_wp2_with fail
    have c7B := c6B.alloc c6B.size (.cells #[.slice A6 tb.length c6] 27)
    clear c6B
    replace RA := Lib.hid (Rd.nextA RA.out (.cells #[.slice A6 tb.length c6] 27))
    replace RB := Lib.hid (Rd.nextA RB.out (.cells #[.slice A6 tb.length c6] 27))
    replace RC := Lib.hid (Rd.nextA RC.out (.cells #[.slice A6 tb.length c6] 27))
    replace Ta := Lib.hid (Rd.nextA Ta.out (.cells #[.slice A6 tb.length c6] 27))
    replace Ka := Lib.hid (blk_alloc Ka.out (.cells #[.slice A6 tb.length c6] 27))
    replace Tb := Lib.hid (Rd.nextA Tb.out (.cells #[.slice A6 tb.length c6] 27))
    refine (ours_any c _ _ _ _ (Nat.le_refl _) RC.out (by omega)).mono ?_
    rintro e w8 ⟨A8, c8, rfl, o8, hb8⟩
    have c8B := bt c7B hb8 c7B.size
    replace RA := Lib.hid (Rd.next RA.out hb8)
    replace RB := Lib.hid (Rd.next RB.out hb8)
    replace RC := Lib.hid (Rd.next RC.out hb8)
    replace Ta := Lib.hid (Rd.next Ta.out hb8)
    replace Ka := Lib.hid (blk_past Ka.out hb8 (Nat.le_refl _))
    replace Tb := Lib.hid (Rd.next Tb.out hb8)
    replace Kb := Lib.hid (blk_past Kb.out hb8 (Nat.le_refl _))
    clear c7B
    have U8 := Lib.hid (Rd.of_own o8)
    clear o8
    clear hb8
    go_wp2_with fail
    refine (HMC.out _ _ _ U8.out).mono ?_
    rintro e w9 ⟨A9, c9, rfl, o9, hb9⟩
    have c9B := bt c8B hb9 c8B.size
    replace RA := Lib.hid (Rd.next RA.out hb9)
    replace RB := Lib.hid (Rd.next RB.out hb9)
    replace RC := Lib.hid (Rd.next RC.out hb9)
    replace Ta := Lib.hid (Rd.next Ta.out hb9)
    replace Ka := Lib.hid (blk_past Ka.out hb9 (Nat.le_refl _))
    replace Tb := Lib.hid (Rd.next Tb.out hb9)
    replace Kb := Lib.hid (blk_past Kb.out hb9 (Nat.le_refl _))
    replace U8 := Lib.hid (Rd.next U8.out hb9)
    clear c8B
    have Tc := Lib.hid (Rd.of_own o9)
    clear o9
    clear hb9
    clear U8
    have Kc := Lib.hid (heap_alloc_new w9 (.cells #[.slice A9 tc.length c9] 27))
    go_wp2_with fail
    have c10B := c9B.alloc c9B.size (.cells #[.slice A9 tc.length c9] 27)
    clear c9B
    replace RA := Lib.hid (Rd.nextA RA.out (.cells #[.slice A9 tc.length c9] 27))
    replace RB := Lib.hid (Rd.nextA RB.out (.cells #[.slice A9 tc.length c9] 27))
    replace RC := Lib.hid (Rd.nextA RC.out (.cells #[.slice A9 tc.length c9] 27))
    replace Ta := Lib.hid (Rd.nextA Ta.out (.cells #[.slice A9 tc.length c9] 27))
    replace Ka := Lib.hid (blk_alloc Ka.out (.cells #[.slice A9 tc.length c9] 27))
    replace Tb := Lib.hid (Rd.nextA Tb.out (.cells #[.slice A9 tc.length c9] 27))
    replace Kb := Lib.hid (blk_alloc Kb.out (.cells #[.slice A9 tc.length c9] 27))
    replace Tc := Lib.hid (Rd.nextA Tc.out (.cells #[.slice A9 tc.length c9] 27))
    go_ret
    exact ⟨rfl, c10B⟩
  subst za
  by_cases zb : eb = 0
  case neg =>
    have nb : (eb != 0) = true := by simpa using zb
    have b0 := (Below.refl w.heap.size w)
    go_enter Try.func5, Try.ntmps5
    go_wp2_with fail
    refine (awake_any _).mono ?_
    rintro e w1 ⟨rfl, hb1⟩
    have c1B := bt b0 hb1 b0.size
    replace RA := Lib.hid (Rd.next RA.out hb1)
    replace RB := Lib.hid (Rd.next RB.out hb1)
    replace RC := Lib.hid (Rd.next RC.out hb1)
    clear b0
    clear hb1
    go_wp2_with fail
    refine (ours_any a _ _ _ _ (Nat.le_refl _) RA.out (by omega)).mono ?_
    rintro e w2 ⟨A2, c2, rfl, o2, hb2⟩
    have c2B := bt c1B hb2 c1B.size
    replace RA := Lib.hid (Rd.next RA.out hb2)
    replace RB := Lib.hid (Rd.next RB.out hb2)
    replace RC := Lib.hid (Rd.next RC.out hb2)
    clear c1B
    have U2 := Lib.hid (Rd.of_own o2)
    clear o2
    clear hb2
    go_wp2_with fail
    refine (HMA.out _ _ _ U2.out).mono ?_
    rintro e w3 ⟨A3, c3, rfl, o3, hb3⟩
    have c3B := bt c2B hb3 c2B.size
    replace RA := Lib.hid (Rd.next RA.out hb3)
    replace RB := Lib.hid (Rd.next RB.out hb3)
    replace RC := Lib.hid (Rd.next RC.out hb3)
    replace U2 := Lib.hid (Rd.next U2.out hb3)
    clear c2B
    have Ta := Lib.hid (Rd.of_own o3)
    clear o3
    clear hb3
    clear U2
    have Ka := Lib.hid (heap_alloc_new w3 (.cells #[.slice A3 ta.length c3] 27))
    go_wp2_with fail
    have c4B := c3B.alloc c3B.size (.cells #[.slice A3 ta.length c3] 27)
    clear c3B
    replace RA := Lib.hid (Rd.nextA RA.out (.cells #[.slice A3 ta.length c3] 27))
    replace RB := Lib.hid (Rd.nextA RB.out (.cells #[.slice A3 ta.length c3] 27))
    replace RC := Lib.hid (Rd.nextA RC.out (.cells #[.slice A3 ta.length c3] 27))
    replace Ta := Lib.hid (Rd.nextA Ta.out (.cells #[.slice A3 ta.length c3] 27))
    refine (ours_any b _ _ _ _ (Nat.le_refl _) RB.out (by omega)).mono ?_
    rintro e w5 ⟨A5, c5, rfl, o5, hb5⟩
    have c5B := bt c4B hb5 c4B.size
    replace RA := Lib.hid (Rd.next RA.out hb5)
    replace RB := Lib.hid (Rd.next RB.out hb5)
    replace RC := Lib.hid (Rd.next RC.out hb5)
    replace Ta := Lib.hid (Rd.next Ta.out hb5)
    replace Ka := Lib.hid (blk_past Ka.out hb5 (Nat.le_refl _))
    clear c4B
    have U5 := Lib.hid (Rd.of_own o5)
    clear o5
    clear hb5
    go_wp2_with fail
    refine (HMB.out _ _ _ U5.out).mono ?_
    rintro e w6 ⟨A6, c6, rfl, o6, hb6⟩
    have c6B := bt c5B hb6 c5B.size
    replace RA := Lib.hid (Rd.next RA.out hb6)
    replace RB := Lib.hid (Rd.next RB.out hb6)
    replace RC := Lib.hid (Rd.next RC.out hb6)
    replace Ta := Lib.hid (Rd.next Ta.out hb6)
    replace Ka := Lib.hid (blk_past Ka.out hb6 (Nat.le_refl _))
    replace U5 := Lib.hid (Rd.next U5.out hb6)
    clear c5B
    have Tb := Lib.hid (Rd.of_own o6)
    clear o6
    clear hb6
    clear U5
    have Kb := Lib.hid (heap_alloc_new w6 (.cells #[.slice A6 tb.length c6] 27))
    go_wp2_with fail
    have c7B := c6B.alloc c6B.size (.cells #[.slice A6 tb.length c6] 27)
    clear c6B
    replace RA := Lib.hid (Rd.nextA RA.out (.cells #[.slice A6 tb.length c6] 27))
    replace RB := Lib.hid (Rd.nextA RB.out (.cells #[.slice A6 tb.length c6] 27))
    replace RC := Lib.hid (Rd.nextA RC.out (.cells #[.slice A6 tb.length c6] 27))
    replace Ta := Lib.hid (Rd.nextA Ta.out (.cells #[.slice A6 tb.length c6] 27))
    replace Ka := Lib.hid (blk_alloc Ka.out (.cells #[.slice A6 tb.length c6] 27))
    replace Tb := Lib.hid (Rd.nextA Tb.out (.cells #[.slice A6 tb.length c6] 27))
    refine (ours_any c _ _ _ _ (Nat.le_refl _) RC.out (by omega)).mono ?_
    rintro e w8 ⟨A8, c8, rfl, o8, hb8⟩
    have c8B := bt c7B hb8 c7B.size
    replace RA := Lib.hid (Rd.next RA.out hb8)
    replace RB := Lib.hid (Rd.next RB.out hb8)
    replace RC := Lib.hid (Rd.next RC.out hb8)
    replace Ta := Lib.hid (Rd.next Ta.out hb8)
    replace Ka := Lib.hid (blk_past Ka.out hb8 (Nat.le_refl _))
    replace Tb := Lib.hid (Rd.next Tb.out hb8)
    replace Kb := Lib.hid (blk_past Kb.out hb8 (Nat.le_refl _))
    clear c7B
    have U8 := Lib.hid (Rd.of_own o8)
    clear o8
    clear hb8
    go_wp2_with fail
    refine (HMC.out _ _ _ U8.out).mono ?_
    rintro e w9 ⟨A9, c9, rfl, o9, hb9⟩
    have c9B := bt c8B hb9 c8B.size
    replace RA := Lib.hid (Rd.next RA.out hb9)
    replace RB := Lib.hid (Rd.next RB.out hb9)
    replace RC := Lib.hid (Rd.next RC.out hb9)
    replace Ta := Lib.hid (Rd.next Ta.out hb9)
    replace Ka := Lib.hid (blk_past Ka.out hb9 (Nat.le_refl _))
    replace Tb := Lib.hid (Rd.next Tb.out hb9)
    replace Kb := Lib.hid (blk_past Kb.out hb9 (Nat.le_refl _))
    replace U8 := Lib.hid (Rd.next U8.out hb9)
    clear c8B
    have Tc := Lib.hid (Rd.of_own o9)
    clear o9
    clear hb9
    clear U8
    have Kc := Lib.hid (heap_alloc_new w9 (.cells #[.slice A9 tc.length c9] 27))
    go_wp2_with fail
    have c10B := c9B.alloc c9B.size (.cells #[.slice A9 tc.length c9] 27)
    clear c9B
    replace RA := Lib.hid (Rd.nextA RA.out (.cells #[.slice A9 tc.length c9] 27))
    replace RB := Lib.hid (Rd.nextA RB.out (.cells #[.slice A9 tc.length c9] 27))
    replace RC := Lib.hid (Rd.nextA RC.out (.cells #[.slice A9 tc.length c9] 27))
    replace Ta := Lib.hid (Rd.nextA Ta.out (.cells #[.slice A9 tc.length c9] 27))
    replace Ka := Lib.hid (blk_alloc Ka.out (.cells #[.slice A9 tc.length c9] 27))
    replace Tb := Lib.hid (Rd.nextA Tb.out (.cells #[.slice A9 tc.length c9] 27))
    replace Kb := Lib.hid (blk_alloc Kb.out (.cells #[.slice A9 tc.length c9] 27))
    replace Tc := Lib.hid (Rd.nextA Tc.out (.cells #[.slice A9 tc.length c9] 27))
    go_ret
    exact ⟨rfl, c10B⟩
  subst zb
  by_cases zc : ec = 0
  case neg =>
    have nc : (ec != 0) = true := by simpa using zc
    have b0 := (Below.refl w.heap.size w)
    go_enter Try.func5, Try.ntmps5
    go_wp2_with fail
    refine (awake_any _).mono ?_
    rintro e w1 ⟨rfl, hb1⟩
    have c1B := bt b0 hb1 b0.size
    replace RA := Lib.hid (Rd.next RA.out hb1)
    replace RB := Lib.hid (Rd.next RB.out hb1)
    replace RC := Lib.hid (Rd.next RC.out hb1)
    clear b0
    clear hb1
    go_wp2_with fail
    refine (ours_any a _ _ _ _ (Nat.le_refl _) RA.out (by omega)).mono ?_
    rintro e w2 ⟨A2, c2, rfl, o2, hb2⟩
    have c2B := bt c1B hb2 c1B.size
    replace RA := Lib.hid (Rd.next RA.out hb2)
    replace RB := Lib.hid (Rd.next RB.out hb2)
    replace RC := Lib.hid (Rd.next RC.out hb2)
    clear c1B
    have U2 := Lib.hid (Rd.of_own o2)
    clear o2
    clear hb2
    go_wp2_with fail
    refine (HMA.out _ _ _ U2.out).mono ?_
    rintro e w3 ⟨A3, c3, rfl, o3, hb3⟩
    have c3B := bt c2B hb3 c2B.size
    replace RA := Lib.hid (Rd.next RA.out hb3)
    replace RB := Lib.hid (Rd.next RB.out hb3)
    replace RC := Lib.hid (Rd.next RC.out hb3)
    replace U2 := Lib.hid (Rd.next U2.out hb3)
    clear c2B
    have Ta := Lib.hid (Rd.of_own o3)
    clear o3
    clear hb3
    clear U2
    have Ka := Lib.hid (heap_alloc_new w3 (.cells #[.slice A3 ta.length c3] 27))
    go_wp2_with fail
    have c4B := c3B.alloc c3B.size (.cells #[.slice A3 ta.length c3] 27)
    clear c3B
    replace RA := Lib.hid (Rd.nextA RA.out (.cells #[.slice A3 ta.length c3] 27))
    replace RB := Lib.hid (Rd.nextA RB.out (.cells #[.slice A3 ta.length c3] 27))
    replace RC := Lib.hid (Rd.nextA RC.out (.cells #[.slice A3 ta.length c3] 27))
    replace Ta := Lib.hid (Rd.nextA Ta.out (.cells #[.slice A3 ta.length c3] 27))
    refine (ours_any b _ _ _ _ (Nat.le_refl _) RB.out (by omega)).mono ?_
    rintro e w5 ⟨A5, c5, rfl, o5, hb5⟩
    have c5B := bt c4B hb5 c4B.size
    replace RA := Lib.hid (Rd.next RA.out hb5)
    replace RB := Lib.hid (Rd.next RB.out hb5)
    replace RC := Lib.hid (Rd.next RC.out hb5)
    replace Ta := Lib.hid (Rd.next Ta.out hb5)
    replace Ka := Lib.hid (blk_past Ka.out hb5 (Nat.le_refl _))
    clear c4B
    have U5 := Lib.hid (Rd.of_own o5)
    clear o5
    clear hb5
    go_wp2_with fail
    refine (HMB.out _ _ _ U5.out).mono ?_
    rintro e w6 ⟨A6, c6, rfl, o6, hb6⟩
    have c6B := bt c5B hb6 c5B.size
    replace RA := Lib.hid (Rd.next RA.out hb6)
    replace RB := Lib.hid (Rd.next RB.out hb6)
    replace RC := Lib.hid (Rd.next RC.out hb6)
    replace Ta := Lib.hid (Rd.next Ta.out hb6)
    replace Ka := Lib.hid (blk_past Ka.out hb6 (Nat.le_refl _))
    replace U5 := Lib.hid (Rd.next U5.out hb6)
    clear c5B
    have Tb := Lib.hid (Rd.of_own o6)
    clear o6
    clear hb6
    clear U5
    have Kb := Lib.hid (heap_alloc_new w6 (.cells #[.slice A6 tb.length c6] 27))
    go_wp2_with fail
    have c7B := c6B.alloc c6B.size (.cells #[.slice A6 tb.length c6] 27)
    clear c6B
    replace RA := Lib.hid (Rd.nextA RA.out (.cells #[.slice A6 tb.length c6] 27))
    replace RB := Lib.hid (Rd.nextA RB.out (.cells #[.slice A6 tb.length c6] 27))
    replace RC := Lib.hid (Rd.nextA RC.out (.cells #[.slice A6 tb.length c6] 27))
    replace Ta := Lib.hid (Rd.nextA Ta.out (.cells #[.slice A6 tb.length c6] 27))
    replace Ka := Lib.hid (blk_alloc Ka.out (.cells #[.slice A6 tb.length c6] 27))
    replace Tb := Lib.hid (Rd.nextA Tb.out (.cells #[.slice A6 tb.length c6] 27))
    refine (ours_any c _ _ _ _ (Nat.le_refl _) RC.out (by omega)).mono ?_
    rintro e w8 ⟨A8, c8, rfl, o8, hb8⟩
    have c8B := bt c7B hb8 c7B.size
    replace RA := Lib.hid (Rd.next RA.out hb8)
    replace RB := Lib.hid (Rd.next RB.out hb8)
    replace RC := Lib.hid (Rd.next RC.out hb8)
    replace Ta := Lib.hid (Rd.next Ta.out hb8)
    replace Ka := Lib.hid (blk_past Ka.out hb8 (Nat.le_refl _))
    replace Tb := Lib.hid (Rd.next Tb.out hb8)
    replace Kb := Lib.hid (blk_past Kb.out hb8 (Nat.le_refl _))
    clear c7B
    have U8 := Lib.hid (Rd.of_own o8)
    clear o8
    clear hb8
    go_wp2_with fail
    refine (HMC.out _ _ _ U8.out).mono ?_
    rintro e w9 ⟨A9, c9, rfl, o9, hb9⟩
    have c9B := bt c8B hb9 c8B.size
    replace RA := Lib.hid (Rd.next RA.out hb9)
    replace RB := Lib.hid (Rd.next RB.out hb9)
    replace RC := Lib.hid (Rd.next RC.out hb9)
    replace Ta := Lib.hid (Rd.next Ta.out hb9)
    replace Ka := Lib.hid (blk_past Ka.out hb9 (Nat.le_refl _))
    replace Tb := Lib.hid (Rd.next Tb.out hb9)
    replace Kb := Lib.hid (blk_past Kb.out hb9 (Nat.le_refl _))
    replace U8 := Lib.hid (Rd.next U8.out hb9)
    clear c8B
    have Tc := Lib.hid (Rd.of_own o9)
    clear o9
    clear hb9
    clear U8
    have Kc := Lib.hid (heap_alloc_new w9 (.cells #[.slice A9 tc.length c9] 27))
    go_wp2_with fail
    have c10B := c9B.alloc c9B.size (.cells #[.slice A9 tc.length c9] 27)
    clear c9B
    replace RA := Lib.hid (Rd.nextA RA.out (.cells #[.slice A9 tc.length c9] 27))
    replace RB := Lib.hid (Rd.nextA RB.out (.cells #[.slice A9 tc.length c9] 27))
    replace RC := Lib.hid (Rd.nextA RC.out (.cells #[.slice A9 tc.length c9] 27))
    replace Ta := Lib.hid (Rd.nextA Ta.out (.cells #[.slice A9 tc.length c9] 27))
    replace Ka := Lib.hid (blk_alloc Ka.out (.cells #[.slice A9 tc.length c9] 27))
    replace Tb := Lib.hid (Rd.nextA Tb.out (.cells #[.slice A9 tc.length c9] 27))
    replace Kb := Lib.hid (blk_alloc Kb.out (.cells #[.slice A9 tc.length c9] 27))
    replace Tc := Lib.hid (Rd.nextA Tc.out (.cells #[.slice A9 tc.length c9] 27))
    go_ret
    exact ⟨rfl, c10B⟩
  subst zc
  obtain ⟨sa, ka⟩ := HSA.out rfl
  obtain ⟨sb, kb⟩ := HSB.out rfl
  obtain ⟨sc, kc⟩ := HSC.out rfl
  have s1 := (overF_spec sa sb (by omega)).1
  have s2 := (overF_spec sb sc (by omega)).1
  have l1 := (overF_spec sa sb (by omega)).2.2.1
  have l2 := (overF_spec sb sc (by omega)).2.2.1
  have SL := Lib.hid (over_assoc sa sb sc (by omega) (by omega) (by omega))
  have SS := Lib.hid (over_self sa (by omega))
  have L3 : (overF (overF ta tb) tc).length ≤ 5000 := by
    have := (overF_spec s1 sc (by omega)).2.2.1; omega
  have L1 : (overF ta tb).length ≤ 5000 := by omega
  have L2 : (overF tb tc).length ≤ 5000 := by omega
  clear sa sb sc s1 s2 l1 l2
  have b0 := (Below.refl w.heap.size w)
  go_enter Try.func5, Try.ntmps5
  go_wp2_with fail
  refine (awake_any _).mono ?_
  rintro e w1 ⟨rfl, hb1⟩
  have c1B := bt b0 hb1 b0.size
  replace RA := Lib.hid (Rd.next RA.out hb1)
  replace RB := Lib.hid (Rd.next RB.out hb1)
  replace RC := Lib.hid (Rd.next RC.out hb1)
  clear b0
  clear hb1
  go_wp2_with fail
  refine (ours_any a _ _ _ _ (Nat.le_refl _) RA.out (by omega)).mono ?_
  rintro e w2 ⟨A2, c2, rfl, o2, hb2⟩
  have c2B := bt c1B hb2 c1B.size
  replace RA := Lib.hid (Rd.next RA.out hb2)
  replace RB := Lib.hid (Rd.next RB.out hb2)
  replace RC := Lib.hid (Rd.next RC.out hb2)
  clear c1B
  have U2 := Lib.hid (Rd.of_own o2)
  clear o2
  clear hb2
  go_wp2_with fail
  refine (HMA.out _ _ _ U2.out).mono ?_
  rintro e w3 ⟨A3, c3, rfl, o3, hb3⟩
  have c3B := bt c2B hb3 c2B.size
  replace RA := Lib.hid (Rd.next RA.out hb3)
  replace RB := Lib.hid (Rd.next RB.out hb3)
  replace RC := Lib.hid (Rd.next RC.out hb3)
  replace U2 := Lib.hid (Rd.next U2.out hb3)
  clear c2B
  have Ta := Lib.hid (Rd.of_own o3)
  clear o3
  clear hb3
  clear U2
  have Ka := Lib.hid (heap_alloc_new w3 (.cells #[.slice A3 ta.length c3] 27))
  go_wp2_with fail
  have c4B := c3B.alloc c3B.size (.cells #[.slice A3 ta.length c3] 27)
  clear c3B
  replace RA := Lib.hid (Rd.nextA RA.out (.cells #[.slice A3 ta.length c3] 27))
  replace RB := Lib.hid (Rd.nextA RB.out (.cells #[.slice A3 ta.length c3] 27))
  replace RC := Lib.hid (Rd.nextA RC.out (.cells #[.slice A3 ta.length c3] 27))
  replace Ta := Lib.hid (Rd.nextA Ta.out (.cells #[.slice A3 ta.length c3] 27))
  refine (ours_any b _ _ _ _ (Nat.le_refl _) RB.out (by omega)).mono ?_
  rintro e w5 ⟨A5, c5, rfl, o5, hb5⟩
  have c5B := bt c4B hb5 c4B.size
  replace RA := Lib.hid (Rd.next RA.out hb5)
  replace RB := Lib.hid (Rd.next RB.out hb5)
  replace RC := Lib.hid (Rd.next RC.out hb5)
  replace Ta := Lib.hid (Rd.next Ta.out hb5)
  replace Ka := Lib.hid (blk_past Ka.out hb5 (Nat.le_refl _))
  clear c4B
  have U5 := Lib.hid (Rd.of_own o5)
  clear o5
  clear hb5
  go_wp2_with fail
  refine (HMB.out _ _ _ U5.out).mono ?_
  rintro e w6 ⟨A6, c6, rfl, o6, hb6⟩
  have c6B := bt c5B hb6 c5B.size
  replace RA := Lib.hid (Rd.next RA.out hb6)
  replace RB := Lib.hid (Rd.next RB.out hb6)
  replace RC := Lib.hid (Rd.next RC.out hb6)
  replace Ta := Lib.hid (Rd.next Ta.out hb6)
  replace Ka := Lib.hid (blk_past Ka.out hb6 (Nat.le_refl _))
  replace U5 := Lib.hid (Rd.next U5.out hb6)
  clear c5B
  have Tb := Lib.hid (Rd.of_own o6)
  clear o6
  clear hb6
  clear U5
  have Kb := Lib.hid (heap_alloc_new w6 (.cells #[.slice A6 tb.length c6] 27))
  go_wp2_with fail
  have c7B := c6B.alloc c6B.size (.cells #[.slice A6 tb.length c6] 27)
  clear c6B
  replace RA := Lib.hid (Rd.nextA RA.out (.cells #[.slice A6 tb.length c6] 27))
  replace RB := Lib.hid (Rd.nextA RB.out (.cells #[.slice A6 tb.length c6] 27))
  replace RC := Lib.hid (Rd.nextA RC.out (.cells #[.slice A6 tb.length c6] 27))
  replace Ta := Lib.hid (Rd.nextA Ta.out (.cells #[.slice A6 tb.length c6] 27))
  replace Ka := Lib.hid (blk_alloc Ka.out (.cells #[.slice A6 tb.length c6] 27))
  replace Tb := Lib.hid (Rd.nextA Tb.out (.cells #[.slice A6 tb.length c6] 27))
  refine (ours_any c _ _ _ _ (Nat.le_refl _) RC.out (by omega)).mono ?_
  rintro e w8 ⟨A8, c8, rfl, o8, hb8⟩
  have c8B := bt c7B hb8 c7B.size
  replace RA := Lib.hid (Rd.next RA.out hb8)
  replace RB := Lib.hid (Rd.next RB.out hb8)
  replace RC := Lib.hid (Rd.next RC.out hb8)
  replace Ta := Lib.hid (Rd.next Ta.out hb8)
  replace Ka := Lib.hid (blk_past Ka.out hb8 (Nat.le_refl _))
  replace Tb := Lib.hid (Rd.next Tb.out hb8)
  replace Kb := Lib.hid (blk_past Kb.out hb8 (Nat.le_refl _))
  clear c7B
  have U8 := Lib.hid (Rd.of_own o8)
  clear o8
  clear hb8
  go_wp2_with fail
  refine (HMC.out _ _ _ U8.out).mono ?_
  rintro e w9 ⟨A9, c9, rfl, o9, hb9⟩
  have c9B := bt c8B hb9 c8B.size
  replace RA := Lib.hid (Rd.next RA.out hb9)
  replace RB := Lib.hid (Rd.next RB.out hb9)
  replace RC := Lib.hid (Rd.next RC.out hb9)
  replace Ta := Lib.hid (Rd.next Ta.out hb9)
  replace Ka := Lib.hid (blk_past Ka.out hb9 (Nat.le_refl _))
  replace Tb := Lib.hid (Rd.next Tb.out hb9)
  replace Kb := Lib.hid (blk_past Kb.out hb9 (Nat.le_refl _))
  replace U8 := Lib.hid (Rd.next U8.out hb9)
  clear c8B
  have Tc := Lib.hid (Rd.of_own o9)
  clear o9
  clear hb9
  clear U8
  have Kc := Lib.hid (heap_alloc_new w9 (.cells #[.slice A9 tc.length c9] 27))
  go_wp2_with fail
  have c10B := c9B.alloc c9B.size (.cells #[.slice A9 tc.length c9] 27)
  clear c9B
  replace RA := Lib.hid (Rd.nextA RA.out (.cells #[.slice A9 tc.length c9] 27))
  replace RB := Lib.hid (Rd.nextA RB.out (.cells #[.slice A9 tc.length c9] 27))
  replace RC := Lib.hid (Rd.nextA RC.out (.cells #[.slice A9 tc.length c9] 27))
  replace Ta := Lib.hid (Rd.nextA Ta.out (.cells #[.slice A9 tc.length c9] 27))
  replace Ka := Lib.hid (blk_alloc Ka.out (.cells #[.slice A9 tc.length c9] 27))
  replace Tb := Lib.hid (Rd.nextA Tb.out (.cells #[.slice A9 tc.length c9] 27))
  replace Kb := Lib.hid (blk_alloc Kb.out (.cells #[.slice A9 tc.length c9] 27))
  replace Tc := Lib.hid (Rd.nextA Tc.out (.cells #[.slice A9 tc.length c9] 27))
  generalize hW : (w9.alloc (.cells #[.slice A9 tc.length c9] 27)) = W0 at Ta Tb Tc Ka Kb Kc c10B ⊢
  clear hW RA RB RC HMA HMB HMC HSA HSB HSC
  go_cut [14] (fun s14 wx => ∃ g A' c', s14 = .pointer (some ⟨g, 0, none⟩) ∧ W0.heap.size ≤ g ∧ wx.heap[g]? = some (.cells #[.slice A' (overF (overF ta tb) tc).length c'] 27 (0, 0)) ∧ Rd wx wx.heap.size A' (rowCells (overF (overF ta tb) tc)) ∧ Below W0.heap.size W0 wx)
  case first =>
    have k0 := blk_cell Ka.out 0 _ rfl
    have k1 := blk_cell Kb.out 0 _ rfl
    have k2 := blk_cell Kc.out 0 _ rfl
    have n0 := World.block_lt_of_cell? W0 _ k0
    have n1 := World.block_lt_of_cell? W0 _ k1
    have n2 := World.block_lt_of_cell? W0 _ k2
    simp only at n0 n1 n2
    have hW0 : Below W0.heap.size W0 W0.drew := (Below.refl _ _).drew
    go_region_held3 (fun w' => w'.cell? ⟨w3.heap.size, 0, none⟩ = some (.slice A3 ta.length c3) ∧ w'.cell? ⟨w6.heap.size, 0, none⟩ = some (.slice A6 tb.length c6) ∧ w'.cell? ⟨w9.heap.size, 0, none⟩ = some (.slice A9 tc.length c9) ∧ Below W0.heap.size W0 w')
      (first | (go_split_ands; refine ⟨?_, ?_, ?_, ?_⟩ <;> first | exact past hb2 (by assumption) | exact bt (by assumption) hb2 (Below.size (by assumption))) | (go_split_ands; refine ⟨?_, ?_, ?_, ?_⟩ <;> first | (rw [World.cell?_alloc_some _ _ _ (by simp [*])]; assumption) | exact Below.drew ((Below.refl _ _).alloc (Nat.le_refl _) _) | exact Below.alloc (by assumption) (Below.size (by assumption)) _ | exact (World.cell?_setCell_far _ _ _ _ (by first | (simp; omega) | (dsimp only; omega))).trans (by assumption) | (refine Below.setCell (by assumption) ?_ _; first | exact Nat.le_refl _ | (dsimp only; omega) | (simp; omega)) | (simp [*, World.cell?_alloc_some, World.cell?_setCell_far]; done)) | go_keep)
      (first | (go_at_call 24; have _t := tok1; refine (over_any (overF ta tb) tc _ _ _ _ _ _ (Nat.le_refl _) (by first | exact r20 | exact Rd.nextA r20 _) (by exact Rd.more (Rd.below Tc.out (by go_split_ands; assumption) (Nat.le_refl _)) (Below.size (by go_split_ands; assumption))) (by omega) (by omega)).mono ?_; rintro e w21 ⟨A21, c21, rfl, o21, hb2⟩; have r21 := Rd.of_own o21; (try (have g2 := blk_past (heap_alloc_new w20 (.cells #[.slice none 0 0] 27)) hb2 (Nat.le_refl _); have f2 := blk_cell g2 0 _ rfl; have f3 := blk_free g2 0)); (try (have g2 := blk_past g0 hb2 (Nat.le_refl _); have f2 := blk_cell g2 0 _ rfl; have f3 := blk_free g2 0)); have z21 := hb2.size; have mw210 : w21.cell? ⟨w3.heap.size, 0, none⟩ = some (.slice A3 ta.length c3) := past hb2 (by go_split_ands; assumption); have mw211 : w21.cell? ⟨w6.heap.size, 0, none⟩ = some (.slice A6 tb.length c6) := past hb2 (by go_split_ands; assumption); have mw212 : w21.cell? ⟨w9.heap.size, 0, none⟩ = some (.slice A9 tc.length c9) := past hb2 (by go_split_ands; assumption); have mw21B : Below W0.heap.size W0 w21 := bt (by go_split_ands; assumption) hb2 (Below.size (by go_split_ands; assumption))) | (go_at_call 24; refine (over_any ta tb _ _ _ _ _ W0.heap.size (Below.size (by go_split_ands; assumption)) (Rd.below Ta.out (by go_split_ands; assumption) (Nat.le_refl _)) (Rd.below Tb.out (by go_split_ands; assumption) (Nat.le_refl _)) (by omega) (by omega)).mono ?_; rintro e w20 ⟨A20, c20, rfl, o20, hb2⟩; have r20 := Rd.of_own o20; have tok1 : True := trivial; (try (have f0 := new_cell hb2 0 _ rfl; have f1 := new_frozen hb2 0)); (try (have g0 := blk_past (w := (W0.alloc (.cells #[.slice none 0 0] 27)).drew) (heap_alloc_new W0 (.cells #[.slice none 0 0] 27)) hb2 (Nat.le_refl _); have f0 := blk_cell g0 0 _ rfl; have f1 := blk_free g0 0)); have z20 := hb2.size; (try simp only [World.size_alloc, World.size_drew] at z20); have mw200 : w20.cell? ⟨w3.heap.size, 0, none⟩ = some (.slice A3 ta.length c3) := past hb2 (by go_split_ands; assumption); have mw201 : w20.cell? ⟨w6.heap.size, 0, none⟩ = some (.slice A6 tb.length c6) := past hb2 (by go_split_ands; assumption); have mw202 : w20.cell? ⟨w9.heap.size, 0, none⟩ = some (.slice A9 tc.length c9) := past hb2 (by go_split_ands; assumption); have mw20B : Below W0.heap.size W0 w20 := bt (by go_split_ands; assumption) hb2 (Below.size (by go_split_ands; assumption))))
    all_goals
      go_wp2_with fail
      go_meet
      case rel =>
        first
          | exact ⟨_, A21, c21, rfl, mw21B.size, heap_alloc_new _ _, Rd.nextA r21 _, mw21B.alloc mw21B.size _⟩
          | exact ⟨_, A21, c21, rfl, by first | exact Nat.le_refl _ | omega, by simpa using blk_set g2 0 _, Rd.of_own (ownsRow_setCell_below o21 (by first | (simp; omega) | simp) _), mw21B.setCell (by first | exact Nat.le_refl _ | (dsimp only; omega)) _⟩
  case rest =>
    obtain ⟨g1, B1, d1, rfl, hg1, hblk1, hrd1, hbel1⟩ := hcut
    replace Ta := Lib.hid ((Rd.below Ta.out hbel1 (Nat.le_refl _)).more hbel1.size)
    replace Tb := Lib.hid ((Rd.below Tb.out hbel1 (Nat.le_refl _)).more hbel1.size)
    replace Tc := Lib.hid ((Rd.below Tc.out hbel1 (Nat.le_refl _)).more hbel1.size)
    replace Ka := Lib.hid (blk_past Ka.out hbel1 (Nat.le_refl _))
    replace Kb := Lib.hid (blk_past Kb.out hbel1 (Nat.le_refl _))
    replace Kc := Lib.hid (blk_past Kc.out hbel1 (Nat.le_refl _))
    have HR1 := Lib.hid hrd1
    have HB1 := Lib.hid hblk1
    have BW := bt c10B hbel1 c10B.size
    clear hrd1 hblk1 hbel1 c10B hg1
    obtain ⟨W1, hW1⟩ : ∃ W1, W1 = wc := ⟨_, rfl⟩
    subst hW1
    go_wp2_with fail
    go_cut [15] (fun s15 wx => ∃ g A' c', s15 = .pointer (some ⟨g, 0, none⟩) ∧ wx.heap[g]? = some (.cells #[.slice A' (overF (overF ta tb) tc).length c'] 27 (0, 0)) ∧ Rd wx wx.heap.size A' (rowCells (overF (overF ta tb) tc)) ∧ Below W1.heap.size W1 wx)
    case first =>
      have k0 := blk_cell Ka.out 0 _ rfl
      have k1 := blk_cell Kb.out 0 _ rfl
      have k2 := blk_cell Kc.out 0 _ rfl
      have n0 := World.block_lt_of_cell? W1 _ k0
      have n1 := World.block_lt_of_cell? W1 _ k1
      have n2 := World.block_lt_of_cell? W1 _ k2
      simp only at n0 n1 n2
      have hW0 : Below W1.heap.size W1 W1.drew := (Below.refl _ _).drew
      go_region_held3 (fun w' => w'.cell? ⟨w3.heap.size, 0, none⟩ = some (.slice A3 ta.length c3) ∧ w'.cell? ⟨w6.heap.size, 0, none⟩ = some (.slice A6 tb.length c6) ∧ w'.cell? ⟨w9.heap.size, 0, none⟩ = some (.slice A9 tc.length c9) ∧ Below W1.heap.size W1 w')
        (first | (go_split_ands; refine ⟨?_, ?_, ?_, ?_⟩ <;> first | exact past hb2 (by assumption) | exact bt (by assumption) hb2 (Below.size (by assumption))) | (go_split_ands; refine ⟨?_, ?_, ?_, ?_⟩ <;> first | (rw [World.cell?_alloc_some _ _ _ (by simp [*])]; assumption) | exact Below.drew ((Below.refl _ _).alloc (Nat.le_refl _) _) | exact Below.alloc (by assumption) (Below.size (by assumption)) _ | exact (World.cell?_setCell_far _ _ _ _ (by first | (simp; omega) | (dsimp only; omega))).trans (by assumption) | (refine Below.setCell (by assumption) ?_ _; first | exact Nat.le_refl _ | (dsimp only; omega) | (simp; omega)) | (simp [*, World.cell?_alloc_some, World.cell?_setCell_far]; done)) | go_keep)
        (first | (go_at_call 24; have _t := tok1; refine (over_any ta (overF tb tc) _ _ _ _ _ _ (Nat.le_refl _) (by exact Rd.more (Rd.below Ta.out (by go_split_ands; assumption) (Nat.le_refl _)) (Below.size (by go_split_ands; assumption))) (by first | exact r22 | exact Rd.nextA r22 _) (by omega) (by omega)).mono ?_; rintro e w23 ⟨A23, c23, rfl, o23, hb2⟩; simp only [← SL.out] at o23 ⊢; have r23 := Rd.of_own o23; (try (have g2 := blk_past (heap_alloc_new w22 (.cells #[.slice none 0 0] 27)) hb2 (Nat.le_refl _); have f2 := blk_cell g2 0 _ rfl; have f3 := blk_free g2 0)); (try (have g2 := blk_past g0 hb2 (Nat.le_refl _); have f2 := blk_cell g2 0 _ rfl; have f3 := blk_free g2 0)); have z23 := hb2.size; have mw230 : w23.cell? ⟨w3.heap.size, 0, none⟩ = some (.slice A3 ta.length c3) := past hb2 (by go_split_ands; assumption); have mw231 : w23.cell? ⟨w6.heap.size, 0, none⟩ = some (.slice A6 tb.length c6) := past hb2 (by go_split_ands; assumption); have mw232 : w23.cell? ⟨w9.heap.size, 0, none⟩ = some (.slice A9 tc.length c9) := past hb2 (by go_split_ands; assumption); have mw23B : Below W1.heap.size W1 w23 := bt (by go_split_ands; assumption) hb2 (Below.size (by go_split_ands; assumption))) | (go_at_call 24; refine (over_any tb tc _ _ _ _ _ W1.heap.size (Below.size (by go_split_ands; assumption)) (Rd.below Tb.out (by go_split_ands; assumption) (Nat.le_refl _)) (Rd.below Tc.out (by go_split_ands; assumption) (Nat.le_refl _)) (by omega) (by omega)).mono ?_; rintro e w22 ⟨A22, c22, rfl, o22, hb2⟩; have r22 := Rd.of_own o22; have tok1 : True := trivial; (try (have g0 := blk_past (w := (W1.alloc (.cells #[.slice none 0 0] 27)).drew) (heap_alloc_new W1 (.cells #[.slice none 0 0] 27)) hb2 (Nat.le_refl _))); have z22 := hb2.size; (try simp only [World.size_alloc, World.size_drew] at z22); have mw220 : w22.cell? ⟨w3.heap.size, 0, none⟩ = some (.slice A3 ta.length c3) := past hb2 (by go_split_ands; assumption); have mw221 : w22.cell? ⟨w6.heap.size, 0, none⟩ = some (.slice A6 tb.length c6) := past hb2 (by go_split_ands; assumption); have mw222 : w22.cell? ⟨w9.heap.size, 0, none⟩ = some (.slice A9 tc.length c9) := past hb2 (by go_split_ands; assumption); have mw22B : Below W1.heap.size W1 w22 := bt (by go_split_ands; assumption) hb2 (Below.size (by go_split_ands; assumption))))
      all_goals
        go_wp2_with fail
        go_meet
        case rel =>
          first
            | exact ⟨_, A23, c23, rfl, heap_alloc_new _ _, Rd.nextA r23 _, mw23B.alloc mw23B.size _⟩
            | exact ⟨_, A23, c23, rfl, by simpa using blk_set g2 0 _, Rd.of_own (ownsRow_setCell_below o23 (by first | (simp; omega) | simp) _), mw23B.setCell (by first | exact Nat.le_refl _ | (dsimp only; omega)) _⟩
    case rest =>
      obtain ⟨g2, B2, d2, rfl, hblk2, hrd2, hbel2⟩ := hcut
      have R1 := Lib.hid ((Rd.below HR1.out hbel2 (Nat.le_refl _)).more hbel2.size)
      have R2 := Lib.hid hrd2
      replace Ta := Lib.hid ((Rd.below Ta.out hbel2 (Nat.le_refl _)).more hbel2.size)
      have k0 := blk_cell (blk_past HB1.out hbel2 (Nat.le_refl _)) 0 _ rfl
      have k1 := blk_cell hblk2 0 _ rfl
      have k2 := blk_cell (blk_past Ka.out hbel2 (Nat.le_refl _)) 0 _ rfl
      have BW2 := bt BW hbel2 BW.size
      clear HR1 HB1 hrd2 hblk2 hbel2 Tb Tc Ka Kb Kc
      obtain ⟨W2, hW2⟩ : ∃ W2, W2 = wc := ⟨_, rfl⟩
      subst hW2
      have hfld := fun A n c w => field_table A n c w
      go_wp2_with fail
      go_region_held3 (fun w' => w'.cell? ⟨g1, 0, none⟩ = some (.slice B1 (overF (overF ta tb) tc).length d1) ∧ w'.cell? ⟨g2, 0, none⟩ = some (.slice B2 (overF (overF ta tb) tc).length d2) ∧ w'.cell? ⟨w3.heap.size, 0, none⟩ = some (.slice A3 ta.length c3) ∧ Below W2.heap.size W2 w')
        (first | (go_split_ands; refine ⟨?_, ?_, ?_, ?_⟩ <;> first | exact past hb2 (by assumption) | exact bt (by assumption) hb2 (Below.size (by assumption))) | (go_split_ands; refine ⟨?_, ?_, ?_, ?_⟩ <;> first | assumption | exact Below.drew (Below.refl _ _)) | go_keep)
        (first
          | (go_at_call_of 23 (Value.slice B1 (overF (overF ta tb) tc).length d1); refine (theirs_any (overF (overF ta tb) tc) _ _ _ W2.heap.size (Below.size (by go_split_ands; assumption)) (Rd.below R1.out (by go_split_ands; assumption) (Nat.le_refl _)) (by omega)).mono ?_; rintro e w30 ⟨A30, c30, rfl, o30, hb2⟩; have r30 := Lib.hid (Rd.of_own o30); clear o30)
          | (go_at_call_of 23 (Value.slice B2 (overF (overF ta tb) tc).length d2); refine (theirs_any (overF (overF ta tb) tc) _ _ _ W2.heap.size (Below.size (by go_split_ands; assumption)) (Rd.below R2.out (by go_split_ands; assumption) (Nat.le_refl _)) (by omega)).mono ?_; rintro e w31 ⟨A31, c31, rfl, o31, hb2⟩; have r31 := Lib.hid (Rd.of_own o31); have r32 := Lib.hid (Rd.next r30.out hb2); clear o31)
          | (go_at_call 22; have _t := tok3; refine (same_any ta _ _ _ _ _ _ r37.out r36.out (by unfold maxLen; omega)).mono ?_; rintro e w38 ⟨rfl, hb2⟩)
          | (go_at_call 22; refine (same_any (overF (overF ta tb) tc) _ _ _ _ _ _ r32.out r31.out (by unfold maxLen; omega)).mono ?_; rintro e w33 ⟨rfl, hb2⟩)
          | (go_at_call 24; refine (over_any ta ta _ _ _ _ _ W2.heap.size (Below.size (by go_split_ands; assumption)) (Rd.below Ta.out (by go_split_ands; assumption) (Nat.le_refl _)) (Rd.below Ta.out (by go_split_ands; assumption) (Nat.le_refl _)) (by omega) (by omega)).mono ?_; rintro e w34 ⟨A34, c34, rfl, o34, hb2⟩; simp only [SS.out] at o34 ⊢; have r34 := Lib.hid (Rd.of_own o34); clear o34; have tok2 : True := trivial)
          | (go_at_call_of 23 (Value.slice A3 ta.length c3); refine (theirs_any ta _ _ _ W2.heap.size (Below.size (by go_split_ands; assumption)) (Rd.below Ta.out (by go_split_ands; assumption) (Nat.le_refl _)) (by omega)).mono ?_; rintro e w36 ⟨A36, c36, rfl, o36, hb2⟩; have r36 := Lib.hid (Rd.of_own o36); have r37 := Lib.hid (Rd.next r35.out hb2); clear o36; have tok3 : True := trivial)
          | (go_at_call 23; have _t := tok2; refine (theirs_any ta _ _ _ _ (Nat.le_refl _) r34.out (by omega)).mono ?_; rintro e w35 ⟨A35, c35, rfl, o35, hb2⟩; have r35 := Lib.hid (Rd.of_own o35); clear o35))
      go_wp2_with fail
      go_ret
      exact ⟨rfl, bt BW2 (by go_split_ands; assumption) BW2.size⟩
end Go.Proofs.Ytcempbgbdlmjfaa
