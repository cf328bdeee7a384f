/-
  pen: the walk of PenStays.
-/
import Derived.Test.YtcempbgbdlmjfaaDoorPeBack
import Derived.Test.YtcempbgbdlmjfaaDoorPaFew
namespace Go.Proofs.YtcempbgbdlmjfaaDoor
open Go.RowKit

theorem brk_step (L : List (List Int)) (k : Nat) (h : k < L.length) : brk (L.take (k + 1)) = (brk (L.take k) || (getP L (k : Int) 0 == 38 || getP L (k : Int) 0 == 48)) := by
  unfold brk
  rw [List.take_succ_eq_append_getElem h, List.any_append]
  have hg : getP L (k : Int) 0 = match L[k] with | [] => 0 | x :: _ => if x = -1 then 0 else x := by
    unfold getP
    rw [if_neg (by omega)]
    have : L.getD (k : Int).toNat [] = L[k] := by simp [List.getD, h]
    rw [this]
    cases L[k] <;> rfl
  rw [hg]
  congr 1
  cases L[k] with
  | nil => rfl
  | cons x xs =>
    simp only [List.any_cons, List.any_nil, Bool.or_false, List.headD_cons]
    by_cases hx : x = -1
    · subst hx; rfl
    · rw [if_neg hx]
/-- cells that are slices, each of which reads as a list of numbers -/
def RdVals (w : World) (B : Nat) (vs : List Value) (L : List (List Int)) : Prop := vs.length = L.length ∧ ∀ i (h : i < L.length), ∃ Ai ci, vs[i]? = some (.slice Ai L[i].length ci) ∧ L[i].length ≤ ci ∧ Rd w B Ai (nC L[i])
theorem RdVals.below {w w' : World} {B B' : Nat} {vs : List Value} {L : List (List Int)} (h : RdVals w B vs L) (hb : Below B' w w') (hB : B ≤ B') : RdVals w' B vs L :=
  ⟨h.1, fun i hi => by
    obtain ⟨Ai, ci, h1, h2, h3⟩ := h.2 i hi
    exact ⟨Ai, ci, h1, h2, h3.below hb hB⟩⟩
theorem RdVals.append {w : World} {B : Nat} {vs us : List Value} {L M : List (List Int)} (h : RdVals w B vs L) (k : RdVals w B us M) : RdVals w B (vs ++ us) (L ++ M) := by
  refine ⟨by simp [h.1, k.1], fun i hi => ?_⟩
  by_cases e : i < L.length
  · obtain ⟨Ai, ci, h1, h2, h3⟩ := h.2 i e
    rw [List.getElem_append_left e]
    exact ⟨Ai, ci, by rw [List.getElem?_append_left (by rw [h.1]; exact e)]; exact h1, h2, h3⟩
  · simp at hi
    obtain ⟨Ai, ci, h1, h2, h3⟩ := k.2 (i - L.length) (by omega)
    rw [List.getElem_append_right (by omega)]
    exact ⟨Ai, ci, by rw [List.getElem?_append_right (by rw [h.1]; omega), h.1]; exact h1, h2, h3⟩
theorem RdVals.one {w : World} {B : Nat} {vs : List Value} {L : List (List Int)} (h : RdVals w B vs L) : ∀ u ∈ vs, u.oneCell' = true := by
  intro u hu
  obtain ⟨i, hi, rfl⟩ := List.getElem_of_mem hu
  obtain ⟨Ai, ci, h1, _⟩ := h.2 i (by rw [← h.1]; exact hi)
  rw [List.getElem?_eq_getElem hi] at h1
  injection h1 with h1
  rw [h1]
  rfl
theorem RdLL.vals {w : World} {lo B n c : Nat} {A : Option Addr} {L : List (List Int)} (h : RdLL w lo B (.slice A n c) L) : ∃ vs, Rd w B A vs ∧ RdVals w B vs L := by
  obtain ⟨A', c', vs, e, _, h3, _, h4, h5⟩ := h
  injection e with e1 e2 e3
  subst e1
  exact ⟨vs, h3, h4, fun i hi => by
    obtain ⟨Ai, ci, g1, g2, g3, _⟩ := h5 i hi
    exact ⟨Ai, ci, g1, g2, g3⟩⟩
theorem rdll_own {w : World} {base B n : Nat} {e : TypeId} {A : Option Addr} {c : Nat} {vs : List Value} {L : List (List Int)} (h : w.ownsRow base e 1 (.slice A n c) n vs) (hn : L.length = n) (hv : RdVals w B vs L) (hB : B ≤ w.heap.size) : RdLL w 0 w.heap.size (.slice A n c) L := by
  subst hn
  obtain ⟨A', c', e1, hc, hr, _⟩ := rd_own h
  injection e1 with e1 e2 e3
  subst e1; subst e3
  exact ⟨A, c, vs, rfl, hc, hr, fun _ _ _ => Nat.zero_le _, hv.1, fun i hi => by
    obtain ⟨Ai, ci, g1, g2, g3⟩ := hv.2 i hi
    exact ⟨Ai, ci, g1, g2, g3.more hB, fun _ _ _ => Nat.zero_le _⟩⟩
theorem both_of {pl al : Int} (h : nb pl = true → nb al = true) (ha : nb al = false) : (bits .and .i64 pl 264 == 264) = true := by
  cases hp : nb pl with
  | true => rw [h hp] at ha; cases ha
  | false => unfold nb at hp; simpa using hp
theorem nb_iff (f : Int) : nb f = (bits .and .i64 f 264 != 264) := rfl

set_option maxRecDepth 100000 in
set_option maxHeartbeats 3200000 in
theorem st_1 (p : Pn) (L M : List (List Int)) (A A' : Option Addr) (c c' : Nat) (w : World) (hr : RdLL w 0 w.heap.size (.slice A L.length c) L) (hr' : RdLL w 0 w.heap.size (.slice A' M.length c') M) (hT : TabP w) (fl : fewF L = false) : Calls Tryd.prog 10 #[.agg #[.int .i64 p.fg, .int .i64 p.bg, .int .i64 p.fl], .slice A L.length c, .slice A' M.length c'] w fun e w' => e = .returned (.bool true) ∧ Below w.heap.size w w' := by
  have hlt := hT.lt
  have HP : Hid (PenAt (w.alloc (.cells #[.int .i64 p.fg, .int .i64 p.bg, .int .i64 p.fl] 40)) w.heap.size p) := Lib.hid (heap_alloc_new w _)
  have HT := Lib.hid (hT.alloc (.cells #[.int .i64 p.fg, .int .i64 p.bg, .int .i64 p.fl] 40))
  have HB0 : Hid (Below w.heap.size w (w.alloc (.cells #[.int .i64 p.fg, .int .i64 p.bg, .int .i64 p.fl] 40))) := Lib.hid ((Below.refl _ _).alloc (Nat.le_refl _) _)
  have HR := Lib.hid hr; have HR' := Lib.hid hr'
  clear hT hr hr'
  obtain ⟨pf, pb, pl⟩ := p
  simp only at HT HB0 HP ⊢
  have FL := Lib.hid fl; clear fl
  go_enter Tryd.func10, Tryd.ntmps10
  go_wp2_with fail
  refine (awake7_any _ HT.out).mono ?_
  rintro e w1 ⟨rfl, hb1⟩
  have hp1 := HP.out.past hb1
  obtain ⟨c0, c1, c2, _⟩ := hp1.cells
  simp only at c0 c1 c2
  have HB1 := Lib.hid (HB0.out.trans (hb1.mono HB0.out.size)); have HT1 := Lib.hid (HT.out.below hb1)
  have HP1 := Lib.hid hp1
  have HR1 := Lib.hid (HR.out.next HB1.out); have HR1' := Lib.hid (HR'.out.next HB1.out)
  clear hp1 hb1
  go_wp2_with fail
  refine (few_any L _ _ HR1.out).mono ?_
  rintro e _ ⟨rfl, rfl⟩
  simp only [FL.out]
  go_wp2_with fail
  go_ret
  exact ⟨rfl, HB1.out⟩

set_option maxRecDepth 100000 in
set_option maxHeartbeats 3200000 in
theorem st_2 (p : Pn) (L M : List (List Int)) (A A' : Option Addr) (c c' : Nat) (w : World) (hr : RdLL w 0 w.heap.size (.slice A L.length c) L) (hr' : RdLL w 0 w.heap.size (.slice A' M.length c') M) (hT : TabP w) (fl : fewF L = true) (fm : fewF M = false) : Calls Tryd.prog 10 #[.agg #[.int .i64 p.fg, .int .i64 p.bg, .int .i64 p.fl], .slice A L.length c, .slice A' M.length c'] w fun e w' => e = .returned (.bool true) ∧ Below w.heap.size w w' := by
  have hlt := hT.lt
  have HP : Hid (PenAt (w.alloc (.cells #[.int .i64 p.fg, .int .i64 p.bg, .int .i64 p.fl] 40)) w.heap.size p) := Lib.hid (heap_alloc_new w _)
  have HT := Lib.hid (hT.alloc (.cells #[.int .i64 p.fg, .int .i64 p.bg, .int .i64 p.fl] 40))
  have HB0 : Hid (Below w.heap.size w (w.alloc (.cells #[.int .i64 p.fg, .int .i64 p.bg, .int .i64 p.fl] 40))) := Lib.hid ((Below.refl _ _).alloc (Nat.le_refl _) _)
  have HR := Lib.hid hr; have HR' := Lib.hid hr'
  clear hT hr hr'
  obtain ⟨pf, pb, pl⟩ := p
  simp only at HT HB0 HP ⊢
  have FL := Lib.hid fl; clear fl
  have FM := Lib.hid fm; clear fm
  go_enter Tryd.func10, Tryd.ntmps10
  go_wp2_with fail
  refine (awake7_any _ HT.out).mono ?_
  rintro e w1 ⟨rfl, hb1⟩
  have hp1 := HP.out.past hb1
  obtain ⟨c0, c1, c2, _⟩ := hp1.cells
  simp only at c0 c1 c2
  have HB1 := Lib.hid (HB0.out.trans (hb1.mono HB0.out.size)); have HT1 := Lib.hid (HT.out.below hb1)
  have HP1 := Lib.hid hp1
  have HR1 := Lib.hid (HR.out.next HB1.out); have HR1' := Lib.hid (HR'.out.next HB1.out)
  clear hp1 hb1
  go_wp2_with fail
  refine (few_any L _ _ HR1.out).mono ?_
  rintro e _ ⟨rfl, rfl⟩
  simp only [FL.out]
  go_wp2_with fail
  refine (few_any M _ _ HR1'.out).mono ?_
  rintro e _ ⟨rfl, rfl⟩
  simp only [FM.out]
  go_wp2_with fail
  go_ret
  exact ⟨rfl, HB1.out⟩

set_option maxRecDepth 100000 in
set_option maxHeartbeats 3200000 in
theorem st_3 (p : Pn) (L M : List (List Int)) (A A' : Option Addr) (c c' : Nat) (w : World) (hr : RdLL w 0 w.heap.size (.slice A L.length c) L) (hr' : RdLL w 0 w.heap.size (.slice A' M.length c') M) (hT : TabP w) (fl : fewF L = true) (fm : fewF M = true) (sp : sanePn p = false) : Calls Tryd.prog 10 #[.agg #[.int .i64 p.fg, .int .i64 p.bg, .int .i64 p.fl], .slice A L.length c, .slice A' M.length c'] w fun e w' => e = .returned (.bool true) ∧ Below w.heap.size w w' := by
  have hlt := hT.lt
  have HP : Hid (PenAt (w.alloc (.cells #[.int .i64 p.fg, .int .i64 p.bg, .int .i64 p.fl] 40)) w.heap.size p) := Lib.hid (heap_alloc_new w _)
  have HT := Lib.hid (hT.alloc (.cells #[.int .i64 p.fg, .int .i64 p.bg, .int .i64 p.fl] 40))
  have HB0 : Hid (Below w.heap.size w (w.alloc (.cells #[.int .i64 p.fg, .int .i64 p.bg, .int .i64 p.fl] 40))) := Lib.hid ((Below.refl _ _).alloc (Nat.le_refl _) _)
  have HR := Lib.hid hr; have HR' := Lib.hid hr'
  clear hT hr hr'
  obtain ⟨pf, pb, pl⟩ := p
  simp only at HT HB0 HP ⊢
  have FL := Lib.hid fl; clear fl
  have FM := Lib.hid fm; clear fm
  have SP := Lib.hid sp; clear sp
  go_enter Tryd.func10, Tryd.ntmps10
  go_wp2_with fail
  refine (awake7_any _ HT.out).mono ?_
  rintro e w1 ⟨rfl, hb1⟩
  have hp1 := HP.out.past hb1
  obtain ⟨c0, c1, c2, _⟩ := hp1.cells
  simp only at c0 c1 c2
  have HB1 := Lib.hid (HB0.out.trans (hb1.mono HB0.out.size)); have HT1 := Lib.hid (HT.out.below hb1)
  have HP1 := Lib.hid hp1
  have HR1 := Lib.hid (HR.out.next HB1.out); have HR1' := Lib.hid (HR'.out.next HB1.out)
  clear hp1 hb1
  go_wp2_with fail
  refine (few_any L _ _ HR1.out).mono ?_
  rintro e _ ⟨rfl, rfl⟩
  simp only [FL.out]
  go_wp2_with fail
  refine (few_any M _ _ HR1'.out).mono ?_
  rintro e _ ⟨rfl, rfl⟩
  simp only [FM.out]
  go_wp2_with fail
  refine (sane7_any ⟨pf, pb, pl⟩ _).mono ?_
  rintro e w2 ⟨rfl, hb2⟩
  simp only [SP.out]
  have HB2 := Lib.hid (HB1.out.trans (hb2.mono HB1.out.size))
  clear hb2
  go_wp2_with fail
  go_ret
  exact ⟨rfl, HB2.out⟩

set_option maxRecDepth 100000 in
set_option maxHeartbeats 3200000 in
theorem st_4 (p : Pn) (L M : List (List Int)) (A A' : Option Addr) (c c' : Nat) (w : World) (hr : RdLL w 0 w.heap.size (.slice A L.length c) L) (hr' : RdLL w 0 w.heap.size (.slice A' M.length c') M) (hT : TabP w) (fl : fewF L = true) (fm : fewF M = true) (sp : sanePn p = true) (hl : L = []) : Calls Tryd.prog 10 #[.agg #[.int .i64 p.fg, .int .i64 p.bg, .int .i64 p.fl], .slice A L.length c, .slice A' M.length c'] w fun e w' => e = .returned (.bool true) ∧ Below w.heap.size w w' := by
  have hlt := hT.lt
  have HP : Hid (PenAt (w.alloc (.cells #[.int .i64 p.fg, .int .i64 p.bg, .int .i64 p.fl] 40)) w.heap.size p) := Lib.hid (heap_alloc_new w _)
  have HT := Lib.hid (hT.alloc (.cells #[.int .i64 p.fg, .int .i64 p.bg, .int .i64 p.fl] 40))
  have HB0 : Hid (Below w.heap.size w (w.alloc (.cells #[.int .i64 p.fg, .int .i64 p.bg, .int .i64 p.fl] 40))) := Lib.hid ((Below.refl _ _).alloc (Nat.le_refl _) _)
  have HR := Lib.hid hr; have HR' := Lib.hid hr'
  clear hT hr hr'
  obtain ⟨pf, pb, pl⟩ := p
  simp only at HT HB0 HP ⊢
  have FL := Lib.hid fl; clear fl
  have FM := Lib.hid fm; clear fm
  have SP := Lib.hid sp; clear sp
  have z : ((L.length : Int) == 0) = true := by rw [hl]; rfl
  clear hl
  go_enter Tryd.func10, Tryd.ntmps10
  go_wp2_with fail
  refine (awake7_any _ HT.out).mono ?_
  rintro e w1 ⟨rfl, hb1⟩
  have hp1 := HP.out.past hb1
  obtain ⟨c0, c1, c2, _⟩ := hp1.cells
  simp only at c0 c1 c2
  have HB1 := Lib.hid (HB0.out.trans (hb1.mono HB0.out.size)); have HT1 := Lib.hid (HT.out.below hb1)
  have HP1 := Lib.hid hp1
  have HR1 := Lib.hid (HR.out.next HB1.out); have HR1' := Lib.hid (HR'.out.next HB1.out)
  clear hp1 hb1
  go_wp2_with fail
  refine (few_any L _ _ HR1.out).mono ?_
  rintro e _ ⟨rfl, rfl⟩
  simp only [FL.out]
  go_wp2_with fail
  refine (few_any M _ _ HR1'.out).mono ?_
  rintro e _ ⟨rfl, rfl⟩
  simp only [FM.out]
  go_wp2_with fail
  refine (sane7_any ⟨pf, pb, pl⟩ _).mono ?_
  rintro e w2 ⟨rfl, hb2⟩
  simp only [SP.out]
  have HB2 := Lib.hid (HB1.out.trans (hb2.mono HB1.out.size))
  clear hb2
  go_wp2_with fail
  go_ret
  exact ⟨rfl, HB2.out⟩

set_option maxRecDepth 100000 in
set_option maxHeartbeats 3200000 in
theorem st_5 (p : Pn) (L M : List (List Int)) (A A' : Option Addr) (c c' : Nat) (w : World) (hr : RdLL w 0 w.heap.size (.slice A L.length c) L) (hr' : RdLL w 0 w.heap.size (.slice A' M.length c') M) (hT : TabP w) (fl : fewF L = true) (fm : fewF M = true) (sp : sanePn p = true) (hl : L ≠ []) (hm : M = []) : Calls Tryd.prog 10 #[.agg #[.int .i64 p.fg, .int .i64 p.bg, .int .i64 p.fl], .slice A L.length c, .slice A' M.length c'] w fun e w' => e = .returned (.bool true) ∧ Below w.heap.size w w' := by
  have hlt := hT.lt
  have HP : Hid (PenAt (w.alloc (.cells #[.int .i64 p.fg, .int .i64 p.bg, .int .i64 p.fl] 40)) w.heap.size p) := Lib.hid (heap_alloc_new w _)
  have HT := Lib.hid (hT.alloc (.cells #[.int .i64 p.fg, .int .i64 p.bg, .int .i64 p.fl] 40))
  have HB0 : Hid (Below w.heap.size w (w.alloc (.cells #[.int .i64 p.fg, .int .i64 p.bg, .int .i64 p.fl] 40))) := Lib.hid ((Below.refl _ _).alloc (Nat.le_refl _) _)
  have HR := Lib.hid hr; have HR' := Lib.hid hr'
  clear hT hr hr'
  obtain ⟨pf, pb, pl⟩ := p
  simp only at HT HB0 HP ⊢
  have FL := Lib.hid fl; clear fl
  have FM := Lib.hid fm; clear fm
  have SP := Lib.hid sp; clear sp
  have z1 : ((L.length : Int) == 0) = false := beq_eq_false_iff_ne.2 (by have := List.length_pos_iff.2 hl; omega)
  have z : ((M.length : Int) == 0) = true := by rw [hm]; rfl
  clear hl hm
  go_enter Tryd.func10, Tryd.ntmps10
  go_wp2_with fail
  refine (awake7_any _ HT.out).mono ?_
  rintro e w1 ⟨rfl, hb1⟩
  have hp1 := HP.out.past hb1
  obtain ⟨c0, c1, c2, _⟩ := hp1.cells
  simp only at c0 c1 c2
  have HB1 := Lib.hid (HB0.out.trans (hb1.mono HB0.out.size)); have HT1 := Lib.hid (HT.out.below hb1)
  have HP1 := Lib.hid hp1
  have HR1 := Lib.hid (HR.out.next HB1.out); have HR1' := Lib.hid (HR'.out.next HB1.out)
  clear hp1 hb1
  go_wp2_with fail
  refine (few_any L _ _ HR1.out).mono ?_
  rintro e _ ⟨rfl, rfl⟩
  simp only [FL.out]
  go_wp2_with fail
  refine (few_any M _ _ HR1'.out).mono ?_
  rintro e _ ⟨rfl, rfl⟩
  simp only [FM.out]
  go_wp2_with fail
  refine (sane7_any ⟨pf, pb, pl⟩ _).mono ?_
  rintro e w2 ⟨rfl, hb2⟩
  simp only [SP.out]
  have HB2 := Lib.hid (HB1.out.trans (hb2.mono HB1.out.size))
  clear hb2
  go_wp2_with fail
  go_ret
  exact ⟨rfl, HB2.out⟩

set_option maxRecDepth 100000 in
set_option maxHeartbeats 3200000 in
theorem st_6 (p : Pn) (L M : List (List Int)) (A A' : Option Addr) (c c' : Nat) (w : World) (hr : RdLL w 0 w.heap.size (.slice A L.length c) L) (hr' : RdLL w 0 w.heap.size (.slice A' M.length c') M) (hT : TabP w) (fl : fewF L = true) (fm : fewF M = true) (sp : sanePn p = true) (hl : L ≠ []) (hm : M ≠ []) : Calls Tryd.prog 10 #[.agg #[.int .i64 p.fg, .int .i64 p.bg, .int .i64 p.fl], .slice A L.length c, .slice A' M.length c'] w fun e w' => e = .returned (.bool true) ∧ Below w.heap.size w w' := by
  have hlt := hT.lt
  have HP : Hid (PenAt (w.alloc (.cells #[.int .i64 p.fg, .int .i64 p.bg, .int .i64 p.fl] 40)) w.heap.size p) := Lib.hid (heap_alloc_new w _)
  have HT := Lib.hid (hT.alloc (.cells #[.int .i64 p.fg, .int .i64 p.bg, .int .i64 p.fl] 40))
  have HB0 : Hid (Below w.heap.size w (w.alloc (.cells #[.int .i64 p.fg, .int .i64 p.bg, .int .i64 p.fl] 40))) := Lib.hid ((Below.refl _ _).alloc (Nat.le_refl _) _)
  have HR := Lib.hid hr; have HR' := Lib.hid hr'
  clear hT hr hr'
  obtain ⟨pf, pb, pl⟩ := p
  simp only at HT HB0 HP ⊢
  have hl30 := ((few_iff L).1 fl).1
  have hm30 := ((few_iff M).1 fm).1
  have hl0 := List.length_pos_iff.2 hl
  have hm0 := List.length_pos_iff.2 hm
  have z1 : ((L.length : Int) == 0) = false := beq_eq_false_iff_ne.2 (by omega)
  have z2 : ((M.length : Int) == 0) = false := beq_eq_false_iff_ne.2 (by omega)
  have oka : Ok (nb pl) (applyF ⟨pf, pb, pl⟩ L) := ok_ap ⟨sp, fun h => h⟩ L hl
  have okb : Ok (nb pl) (applyF (applyF ⟨pf, pb, pl⟩ L) M) := ok_ap oka M hm
  have okc : Ok (nb pl) (applyF ⟨pf, pb, pl⟩ (L ++ M)) := ok_ap ⟨sp, fun h => h⟩ (L ++ M) (by simp [hl])
  have hst : brk L = false → applyF ⟨pf, pb, pl⟩ (L ++ M) = applyF (applyF ⟨pf, pb, pl⟩ L) M := stays_app sp hl hm
  obtain ⟨a, ha⟩ : ∃ a, applyF ⟨pf, pb, pl⟩ L = a := ⟨_, rfl⟩
  rw [ha] at oka okb hst
  obtain ⟨b, hb⟩ : ∃ b, applyF a M = b := ⟨_, rfl⟩
  rw [hb] at okb hst
  obtain ⟨d, hd⟩ : ∃ d, applyF ⟨pf, pb, pl⟩ (L ++ M) = d := ⟨_, rfl⟩
  rw [hd] at okc hst
  have HA := Lib.hid ha; have HBB := Lib.hid hb; have HD := Lib.hid hd
  have SA := Lib.hid oka.1; have SB := Lib.hid okb.1; have SD := Lib.hid okc.1; have NA := Lib.hid oka.2; have HST := Lib.hid hst
  clear ha hb hd oka okb okc hst hl hm
  have FL := Lib.hid fl; clear fl
  have FM := Lib.hid fm; clear fm
  have SP := Lib.hid sp; clear sp
  obtain ⟨af, ab, al⟩ := a
  obtain ⟨bf, bb, bl⟩ := b
  obtain ⟨df, db, dl⟩ := d
  simp only at NA
  go_enter Tryd.func10, Tryd.ntmps10
  go_wp2_with fail
  refine (awake7_any _ HT.out).mono ?_
  rintro e w1 ⟨rfl, hb1⟩
  have hp1 := HP.out.past hb1
  obtain ⟨c0, c1, c2, _⟩ := hp1.cells
  simp only at c0 c1 c2
  have HB1 := Lib.hid (HB0.out.trans (hb1.mono HB0.out.size)); have HT1 := Lib.hid (HT.out.below hb1)
  have HP1 := Lib.hid hp1
  have HR1 := Lib.hid (HR.out.next HB1.out); have HR1' := Lib.hid (HR'.out.next HB1.out)
  clear hp1 hb1
  go_wp2_with fail
  refine (few_any L _ _ HR1.out).mono ?_
  rintro e _ ⟨rfl, rfl⟩
  simp only [FL.out]
  go_wp2_with fail
  refine (few_any M _ _ HR1'.out).mono ?_
  rintro e _ ⟨rfl, rfl⟩
  simp only [FM.out]
  go_wp2_with fail
  refine (sane7_any ⟨pf, pb, pl⟩ _).mono ?_
  rintro e w2 ⟨rfl, hb2⟩
  simp only [SP.out]
  have HB2 := Lib.hid (HB1.out.trans (hb2.mono HB1.out.size))
  have HT2 := Lib.hid (HT1.out.below hb2)
  have hp2 := HP1.out.past hb2
  have HP2 := Lib.hid hp2
  obtain ⟨d0, d1, d2, _⟩ := hp2.cells
  simp only at d0 d1 d2
  have HR2 := Lib.hid (HR1.out.next hb2); have HR2' := Lib.hid (HR1'.out.next hb2)
  have hsz2 := bk_lt hp2
  clear hb2 hp2 c0 c1 c2 HR1 HR1' HP1 HT1 HB1
  go_wp2_with fail
  refine (apply_any ⟨pf, pb, pl⟩ L _ _ _ rfl _ HR2.out HT2.out (by unfold maxLen; omega)).mono ?_
  rintro e w3 ⟨rfl, hb3⟩
  simp only [HA.out]
  have k0 : Hid (PenAt (w3.alloc (.cells #[.int .i64 af, .int .i64 ab, .int .i64 al] 40)) w3.heap.size ⟨af, ab, al⟩) := Lib.hid (heap_alloc_new w3 _)
  have HT3 : Hid (TabP (w3.alloc (.cells #[.int .i64 af, .int .i64 ab, .int .i64 al] 40))) := Lib.hid ((HT2.out.below hb3).alloc _)
  have HP3 : Hid (PenAt (w3.alloc (.cells #[.int .i64 af, .int .i64 ab, .int .i64 al] 40)) w.heap.size ⟨pf, pb, pl⟩) := Lib.hid (bk_alloc (HP2.out.past hb3) _)
  have HR3' : Hid (RdLL (w3.alloc (.cells #[.int .i64 af, .int .i64 ab, .int .i64 al] 40)) 0 (w3.alloc (.cells #[.int .i64 af, .int .i64 ab, .int .i64 al] 40)).heap.size (.slice A' M.length c') M) := Lib.hid ((HR2'.out.next hb3).nextA _)
  have HB3 : Hid (Below w.heap.size w (w3.alloc (.cells #[.int .i64 af, .int .i64 ab, .int .i64 al] 40))) := Lib.hid ((HB2.out.trans (hb3.mono HB2.out.size)).alloc (by have := HB2.out.size; have := hb3.size; omega) _)
  clear hb3 d0 d1 d2 HP2 HT2 HB2 HR2 HR2'
  go_upto_region 5 with (fail)
  generalize hW : w3.alloc (.cells #[.int .i64 af, .int .i64 ab, .int .i64 al] 40) = W3 at *
  clear hW
  obtain ⟨a0, a1, a2, _⟩ := k0.out.cells
  simp only at a0 a1 a2
  go_wp2_with fail
  refine (apply_any ⟨af, ab, al⟩ M _ _ _ rfl _ HR3'.out HT3.out (by unfold maxLen; omega)).mono ?_
  rintro e w4 ⟨rfl, hb4⟩
  simp only [HBB.out]
  have k1 : Hid (PenAt (w4.alloc (.cells #[.int .i64 bf, .int .i64 bb, .int .i64 bl] 40)) w4.heap.size ⟨bf, bb, bl⟩) := Lib.hid (heap_alloc_new w4 _)
  have k2 : Hid (PenAt (w4.alloc (.cells #[.int .i64 bf, .int .i64 bb, .int .i64 bl] 40)) w3.heap.size ⟨af, ab, al⟩) := Lib.hid (bk_alloc (k0.out.past hb4) _)
  have HT4 : Hid (TabP (w4.alloc (.cells #[.int .i64 bf, .int .i64 bb, .int .i64 bl] 40))) := Lib.hid ((HT3.out.below hb4).alloc _)
  have HP4 : Hid (PenAt (w4.alloc (.cells #[.int .i64 bf, .int .i64 bb, .int .i64 bl] 40)) w.heap.size ⟨pf, pb, pl⟩) := Lib.hid (bk_alloc (HP3.out.past hb4) _)
  have HB4 : Hid (Below w.heap.size w (w4.alloc (.cells #[.int .i64 bf, .int .i64 bb, .int .i64 bl] 40))) := Lib.hid ((HB3.out.trans (hb4.mono HB3.out.size)).alloc (by have := HB3.out.size; have := hb4.size; omega) _)
  clear hb4 HP3 HT3 HB3 HR3' k0 a0 a1 a2
  go_upto_region 6 with (fail)
  generalize hW : w4.alloc (.cells #[.int .i64 bf, .int .i64 bb, .int .i64 bl] 40) = W4 at *
  clear hW
  have HR4 := Lib.hid (HR.out.next HB4.out); have HR4' := Lib.hid (HR'.out.next HB4.out)
  go_wp2_with fail
  go_loop [10, 11] (fun s10 i => ∃ (k : Nat) (br : Bool), k ≤ L.length ∧ i = .int .i64 k ∧ s10 = .bool br ∧ br = brk (L.take k)) (fun _ i => L.length - (intOf i).toNat)
  case atStart => exact ⟨0, false, Nat.zero_le _, rfl, rfl, rfl⟩
  case round =>
    obtain ⟨k, br, hk, rfl, rfl, hbr⟩ := hrel
    have HBR := Lib.hid hbr; clear hbr
    by_cases hlt : k < L.length
    · have hbs := brk_step L k hlt
      obtain ⟨n, hn⟩ : ∃ n, getP L (k : Int) 0 = n := ⟨_, rfl⟩
      rw [hn, ← HBR.out] at hbs
      have HBS := Lib.hid hbs; have HN := Lib.hid hn
      clear hbs hn
      cases br with
      | true =>
        go_wp2_with (go_at_call 36; refine (get5_any L _ _ _ _ HR4.out).mono ?_; rintro e w5 ⟨rfl, rfl⟩; simp only [HN.out])
        go_round
        case rel => exact ⟨k + 1, true, by omega, by go_num, rfl, by rw [HBS.out]; rfl⟩
        case measure => simp [intOf]; omega
      | false =>
        by_cases n38 : n = 38
        · subst n38
          go_wp2_with (go_at_call 36; refine (get5_any L _ _ _ _ HR4.out).mono ?_; rintro e w5 ⟨rfl, rfl⟩; simp only [HN.out])
          go_round
          case rel => exact ⟨k + 1, true, by omega, by go_num, rfl, by rw [HBS.out]; rfl⟩
          case measure => simp [intOf]; omega
        have e38 : (n == 38) = false := beq_eq_false_iff_ne.2 n38
        by_cases n48 : n = 48
        · subst n48
          clear n38 e38
          go_wp2_with (go_at_call 36; refine (get5_any L _ _ _ _ HR4.out).mono ?_; rintro e w5 ⟨rfl, rfl⟩; simp only [HN.out])
          go_round
          case rel => exact ⟨k + 1, true, by omega, by go_num, rfl, by rw [HBS.out]; rfl⟩
          case measure => simp [intOf]; omega
        · have e48 : (n == 48) = false := beq_eq_false_iff_ne.2 n48
          clear n38 n48
          go_wp2_with (go_at_call 36; refine (get5_any L _ _ _ _ HR4.out).mono ?_; rintro e w5 ⟨rfl, rfl⟩; simp only [HN.out])
          go_round
          case rel => exact ⟨k + 1, false, by omega, by go_num, rfl, by rw [HBS.out, e38, e48]; rfl⟩
          case measure => simp [intOf]; omega
    · obtain rfl : k = L.length := by omega
      have hbr := HBR.out
      rw [List.take_length] at hbr
      have HBRL := Lib.hid hbr
      clear hbr HBR
      obtain ⟨vl, hvl1, hvl2⟩ := HR4.out.vals
      obtain ⟨vm, hvm1, hvm2⟩ := HR4'.out.vals
      have VL1 := Lib.hid hvl1; have VL2 := Lib.hid hvl2; have VM1 := Lib.hid hvm1; have VM2 := Lib.hid hvm2
      clear hvl1 hvl2 hvm1 hvm2
      go_wp2_with (at_builtin; go_loud (refine wpList_cat (by rfl) (.tmp 64) (.tmp 65) 42 el_row (by rfl) W4.heap.size _ 0 [] (by rfl) (World.ownsRow_nil _ _ _ _) W4.heap.size A L.length c vl (by rfl) VL1.out (by rw [VL2.out.1]; omega) VL2.out.one (by unfold maxLen; omega) (by omega) (Nat.le_refl _) ?_); intro A5 c5 w5 ho5 hg5 hl5; refine Hid.out ?_)
      refine Lib.hid ?_
      simp only [Nat.zero_add, List.nil_append] at ho5 ⊢
      have hb5 : Below W4.heap.size W4 w5 := below_of_grown hg5 (Nat.le_refl _) (by simp [Value.ownBlock])
      have HO5 := Lib.hid ho5; have HB5 := Lib.hid hb5
      have hz5 := hb5.size
      clear ho5 hg5 hl5 hb5
      go_wp2_with (at_builtin; go_loud (refine wpList_cat (by rfl) (.tmp 67) (.tmp 68) 42 el_row (by rfl) W4.heap.size _ L.length vl (by rfl) HO5.out W4.heap.size A' M.length c' vm (by rfl) (VM1.out.below HB5.out (Nat.le_refl _)) (by rw [VM2.out.1]; omega) VM2.out.one (by unfold maxLen; omega) (by omega) hz5 ?_); intro A6 c6 w6 ho6 hg6 hl6; refine Hid.out ?_)
      refine Lib.hid ?_
      have hb6 : Below W4.heap.size W4 w6 := HB5.out.trans (below_of_grown hg6 hz5 (fun g e => own_ge HO5.out g e))
      have hv6 := (VL2.out.append VM2.out).below hb6 (Nat.le_refl _)
      have hr6 := rdll_own (L := L ++ M) ho6 (by simp) hv6 hb6.size
      have HR6 := Lib.hid hr6; have HB6 := Lib.hid hb6
      have HT6 := Lib.hid (HT4.out.below hb6)
      have hp6 := HP4.out.past hb6
      obtain ⟨d0, d1, d2, _⟩ := hp6.cells
      simp only at d0 d1 d2
      have HP6 := Lib.hid hp6
      have j1 := Lib.hid (k1.out.past hb6); have j2 := Lib.hid (k2.out.past hb6)
      have HBB6 := Lib.hid (HB4.out.trans (hb6.mono HB4.out.size))
      clear ho6 hg6 hl6 hb6 hv6 hr6 hp6
      go_wp2_with fail
      refine (apply_any ⟨pf, pb, pl⟩ (L ++ M) _ _ _ (by simp) _ HR6.out HT6.out (by unfold maxLen; omega)).mono ?_
      rintro e w7 ⟨rfl, hb7⟩
      simp only [HD.out]
      have q0 : Hid (PenAt (w7.alloc (.cells #[.int .i64 df, .int .i64 db, .int .i64 dl] 40)) w7.heap.size ⟨df, db, dl⟩) := Lib.hid (heap_alloc_new w7 _)
      have q1 : Hid (PenAt (w7.alloc (.cells #[.int .i64 df, .int .i64 db, .int .i64 dl] 40)) w4.heap.size ⟨bf, bb, bl⟩) := Lib.hid (bk_alloc (j1.out.past hb7) _)
      have q2 : Hid (PenAt (w7.alloc (.cells #[.int .i64 df, .int .i64 db, .int .i64 dl] 40)) w3.heap.size ⟨af, ab, al⟩) := Lib.hid (bk_alloc (j2.out.past hb7) _)
      have q3 : Hid (PenAt (w7.alloc (.cells #[.int .i64 df, .int .i64 db, .int .i64 dl] 40)) w.heap.size ⟨pf, pb, pl⟩) := Lib.hid (bk_alloc (HP6.out.past hb7) _)
      have q4 : Hid (Below w.heap.size w (w7.alloc (.cells #[.int .i64 df, .int .i64 db, .int .i64 dl] 40))) := Lib.hid ((HBB6.out.trans (hb7.mono HBB6.out.size)).alloc (by have := HBB6.out.size; have := hb7.size; omega) _)
      clear hb7 d0 d1 d2 HP6 j1 j2 HBB6 HT6 HR6 HB6 HB5 HO5 VL1 VL2 VM1 VM2
      go_upto_region 16 with (fail)
      generalize hW : w7.alloc (.cells #[.int .i64 df, .int .i64 db, .int .i64 dl] 40) = W7 at *
      clear hW
      obtain ⟨x0, x1, x2, _⟩ := q2.out.cells
      simp only at x0 x1 x2
      go_wp2_with fail
      refine (sane7_any ⟨af, ab, al⟩ _).mono ?_
      rintro e w8 ⟨rfl, hb8⟩
      simp only [SA.out]
      have r0 := Lib.hid (q0.out.past hb8); have r1 := Lib.hid (q1.out.past hb8); have r2 := Lib.hid (q2.out.past hb8); have r3 := Lib.hid (q3.out.past hb8); have r4 := Lib.hid (q4.out.trans (hb8.mono q4.out.size))
      clear x0 x1 x2 hb8 q0 q1 q2 q3 q4
      obtain ⟨x0, x1, x2, _⟩ := r1.out.cells
      simp only at x0 x1 x2
      go_wp2_with fail
      refine (sane7_any ⟨bf, bb, bl⟩ _).mono ?_
      rintro e w9 ⟨rfl, hb9⟩
      simp only [SB.out]
      have s0 := Lib.hid (r0.out.past hb9); have s1 := Lib.hid (r1.out.past hb9); have s2 := Lib.hid (r2.out.past hb9); have s3 := Lib.hid (r3.out.past hb9); have s4 := Lib.hid (r4.out.trans (hb9.mono r4.out.size))
      clear x0 x1 x2 hb9 r0 r1 r2 r3 r4
      obtain ⟨x0, x1, x2, _⟩ := s0.out.cells
      simp only at x0 x1 x2
      go_wp2_with fail
      refine (sane7_any ⟨df, db, dl⟩ _).mono ?_
      rintro e w10 ⟨rfl, hb10⟩
      simp only [SD.out]
      have t0 := Lib.hid (s0.out.past hb10); have t1 := Lib.hid (s1.out.past hb10); have t2 := Lib.hid (s2.out.past hb10); have t3 := Lib.hid (s3.out.past hb10); have t4 := Lib.hid (s4.out.trans (hb10.mono s4.out.size))
      clear x0 x1 x2 hb10 s0 s1 s2 s3 s4
      obtain ⟨x0, x1, x2, _⟩ := t0.out.cells
      obtain ⟨y0, y1, y2, _⟩ := t1.out.cells
      obtain ⟨z0, z3, z4, _⟩ := t2.out.cells
      obtain ⟨v0, v1, v2, _⟩ := t3.out.cells
      simp only at x0 x1 x2 y0 y1 y2 z0 z3 z4 v0 v1 v2
      clear t0 t1 t2 t3
      cases br with
      | true =>
        clear HST
        cases hna : nb al with
        | true =>
          have ea : (bits .and .i64 al 264 != 264) = true := hna
          clear hna NA
          go_wp2_with fail
          go_ret
          exact ⟨rfl, t4.out⟩
        | false =>
          have ea : (bits .and .i64 al 264 != 264) = false := hna
          have ep : (bits .and .i64 pl 264 == 264) = true := both_of NA.out hna
          clear hna NA
          go_wp2_with fail
          go_ret
          exact ⟨rfl, t4.out⟩
      | false =>
        have he := HST.out HBRL.out.symm
        simp only [Pn.mk.injEq] at he
        obtain ⟨rfl, rfl, rfl⟩ := he
        clear HST
        cases hna : nb al with
        | true =>
          have ea : (bits .and .i64 al 264 != 264) = true := hna
          clear hna NA
          go_wp2_with fail
          go_ret
          exact ⟨rfl, t4.out⟩
        | false =>
          have ea : (bits .and .i64 al 264 != 264) = false := hna
          have ep : (bits .and .i64 pl 264 == 264) = true := both_of NA.out hna
          clear hna NA
          go_wp2_with fail
          go_ret
          exact ⟨rfl, t4.out⟩
theorem penstays_walk (p : Pn) (L M : List (List Int)) (A A' : Option Addr) (c c' : Nat) (w : World) (hr : RdLL w 0 w.heap.size (.slice A L.length c) L) (hr' : RdLL w 0 w.heap.size (.slice A' M.length c') M) (hT : TabP w) : Calls Tryd.prog 10 #[.agg #[.int .i64 p.fg, .int .i64 p.bg, .int .i64 p.fl], .slice A L.length c, .slice A' M.length c'] w fun e w' => e = .returned (.bool true) ∧ Below w.heap.size w w' := by
  cases fl : fewF L with
  | false => exact st_1 p L M A A' c c' w hr hr' hT fl
  | true =>
    cases fm : fewF M with
    | false => exact st_2 p L M A A' c c' w hr hr' hT fl fm
    | true =>
      cases sp : sanePn p with
      | false => exact st_3 p L M A A' c c' w hr hr' hT fl fm sp
      | true =>
        by_cases hl : L = []
        · exact st_4 p L M A A' c c' w hr hr' hT fl fm sp hl
        by_cases hm : M = []
        · exact st_5 p L M A A' c c' w hr hr' hT fl fm sp hl hm
        · exact st_6 p L M A A' c c' w hr hr' hT fl fm sp hl hm
end Go.Proofs.YtcempbgbdlmjfaaDoor
