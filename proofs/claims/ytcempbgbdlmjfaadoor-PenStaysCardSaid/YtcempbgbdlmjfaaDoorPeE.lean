/-
  pen: the tables, and the walk of one.
-/
import Derived.Test.YtcempbgbdlmjfaaDoorPeD
import Derived.Deep.RegionLaw
namespace Go.Proofs.YtcempbgbdlmjfaaDoor
open Go.RowKit

/-- the three tables stand in their blocks -/
structure TabP (w : World) : Prop where
  codes : ∃ t fr, w.heap[(1 : Nat)]? = some (.cells (nC codesT).toArray t fr)
  sw : ∃ t fr, w.heap[(2 : Nat)]? = some (.cells (nC swT).toArray t fr)
  un : ∃ t fr, w.heap[(3 : Nat)]? = some (.cells (nC unT).toArray t fr)
theorem TabP.below {w w' : World} (h : TabP w) (hb : Below w.heap.size w w') : TabP w' := by
  obtain ⟨⟨t1, f1, h1⟩, ⟨t2, f2, h2⟩, ⟨t3, f3, h3⟩⟩ := h
  exact ⟨⟨t1, f1, bk_past h1 hb (Nat.le_refl _)⟩, ⟨t2, f2, bk_past h2 hb (Nat.le_refl _)⟩, ⟨t3, f3, bk_past h3 hb (Nat.le_refl _)⟩⟩
theorem TabP.alloc {w : World} (h : TabP w) (o : Obj) : TabP (w.alloc o) := h.below ((Below.refl _ _).alloc (Nat.le_refl _) o)
theorem TabP.swc {w : World} (h : TabP w) (i : Nat) (u : Int) (hi : (nC swT).toArray[i]? = some (.int .i64 u)) : w.cell? ⟨2, i, none⟩ = some (.int .i64 u) := by
  obtain ⟨t, f, hh⟩ := h.sw
  exact bk_cell hh i _ hi
theorem TabP.unc {w : World} (h : TabP w) (i : Nat) (u : Int) (hi : (nC unT).toArray[i]? = some (.int .i64 u)) : w.cell? ⟨3, i, none⟩ = some (.int .i64 u) := by
  obtain ⟨t, f, hh⟩ := h.un
  exact bk_cell hh i _ hi
def PenRet (w : World) (p : Pn) (e : Ending) (w' : World) : Prop := e = .returned (.agg #[.int .i64 p.fg, .int .i64 p.bg, .int .i64 p.fl]) ∧ Below w.heap.size w w'

set_option maxRecDepth 100000 in
set_option maxHeartbeats 1600000 in
theorem one_r30 (fg bg fl n : Int) (q : List Int) (A : Option Addr) (c : Nat) (w : World) (hr : Rd w w.heap.size A (nC (n :: q))) (h : 30 ≤ n ∧ n ≤ 37) :
    Calls Tryd.prog 64 #[.agg #[.int .i64 fg, .int .i64 bg, .int .i64 fl], .slice A (q.length + 1) c] w (PenRet w (oneF ⟨fg, bg, fl⟩ (n :: q))) := by
  have he : oneF ⟨fg, bg, fl⟩ (n :: q) = ⟨n - 30 + 1, bg, fl⟩ := by
    unfold oneF
    rw [if_neg (by simp; try omega), if_neg (by simp; try omega), if_neg (by simp; try omega), if_neg (by simp; try omega), if_neg (by simp; try omega), if_neg (by simp; try omega), if_pos (by simp; try omega)]
    try rfl
  have HE := Lib.hid he
  clear he
  obtain ⟨b, off, rfl, hbB, hcl⟩ := nums_cells hr (by simp)
  have c0 := hcl 0 (by simp)
  simp only [List.getElem_cons_zero, Nat.add_zero] at c0
  obtain ⟨h1, h2⟩ := h
  have e0 : (n == 0) = false := beq_eq_false_iff_ne.2 (by omega)
  have e1 : (n == -1) = false := beq_eq_false_iff_ne.2 (by omega)
  have e2 : (n == 4) = false := beq_eq_false_iff_ne.2 (by omega)
  have e3 : (n == 21) = false := beq_eq_false_iff_ne.2 (by omega)
  have e4 : (n == 39) = false := beq_eq_false_iff_ne.2 (by omega)
  have e5 : (n == 49) = false := beq_eq_false_iff_ne.2 (by omega)
  clear hcl hr
  go_enter Tryd.func64, Tryd.ntmps64
  go_wp2
  all_goals
    exact bodyPost_ret (v := .agg #[.int .i64 (n - 30 + 1), .int .i64 (bg), .int .i64 (fl)]) (by simp [results, Tryd.results64, go_sem]) rfl ⟨by rw [HE.out], ((Below.refl _ _).alloc (Nat.le_refl _) _).alloc (by simp) _⟩

set_option maxRecDepth 100000 in
set_option maxHeartbeats 1600000 in
theorem one_r40 (fg bg fl n : Int) (q : List Int) (A : Option Addr) (c : Nat) (w : World) (hr : Rd w w.heap.size A (nC (n :: q))) (h : 40 ≤ n ∧ n ≤ 47) :
    Calls Tryd.prog 64 #[.agg #[.int .i64 fg, .int .i64 bg, .int .i64 fl], .slice A (q.length + 1) c] w (PenRet w (oneF ⟨fg, bg, fl⟩ (n :: q))) := by
  have he : oneF ⟨fg, bg, fl⟩ (n :: q) = ⟨fg, n - 40 + 1, fl⟩ := by
    unfold oneF
    rw [if_neg (by simp; try omega), if_neg (by simp; try omega), if_neg (by simp; try omega), if_neg (by simp; try omega), if_neg (by simp; try omega), if_neg (by simp; try omega), if_neg (by simp; try omega), if_neg (by simp; try omega), if_pos (by simp; try omega)]
    try rfl
  have HE := Lib.hid he
  clear he
  obtain ⟨b, off, rfl, hbB, hcl⟩ := nums_cells hr (by simp)
  have c0 := hcl 0 (by simp)
  simp only [List.getElem_cons_zero, Nat.add_zero] at c0
  obtain ⟨h1, h2⟩ := h
  have e0 : (n == 0) = false := beq_eq_false_iff_ne.2 (by omega)
  have e1 : (n == -1) = false := beq_eq_false_iff_ne.2 (by omega)
  have e2 : (n == 4) = false := beq_eq_false_iff_ne.2 (by omega)
  have e3 : (n == 21) = false := beq_eq_false_iff_ne.2 (by omega)
  have e4 : (n == 39) = false := beq_eq_false_iff_ne.2 (by omega)
  have e5 : (n == 49) = false := beq_eq_false_iff_ne.2 (by omega)
  clear hcl hr
  go_enter Tryd.func64, Tryd.ntmps64
  go_wp2
  all_goals
    exact bodyPost_ret (v := .agg #[.int .i64 (fg), .int .i64 (n - 40 + 1), .int .i64 (fl)]) (by simp [results, Tryd.results64, go_sem]) rfl ⟨by rw [HE.out], ((Below.refl _ _).alloc (Nat.le_refl _) _).alloc (by simp) _⟩

set_option maxRecDepth 100000 in
set_option maxHeartbeats 1600000 in
theorem one_r90 (fg bg fl n : Int) (q : List Int) (A : Option Addr) (c : Nat) (w : World) (hr : Rd w w.heap.size A (nC (n :: q))) (h : 90 ≤ n ∧ n ≤ 97) :
    Calls Tryd.prog 64 #[.agg #[.int .i64 fg, .int .i64 bg, .int .i64 fl], .slice A (q.length + 1) c] w (PenRet w (oneF ⟨fg, bg, fl⟩ (n :: q))) := by
  have he : oneF ⟨fg, bg, fl⟩ (n :: q) = ⟨n - 90 + 8 + 1, bg, fl⟩ := by
    unfold oneF
    rw [if_neg (by simp; try omega), if_neg (by simp; try omega), if_neg (by simp; try omega), if_neg (by simp; try omega), if_neg (by simp; try omega), if_neg (by simp; try omega), if_neg (by simp; try omega), if_neg (by simp; try omega), if_neg (by simp; try omega), if_neg (by simp; try omega), if_pos (by simp; try omega)]
    try rfl
  have HE := Lib.hid he
  clear he
  obtain ⟨b, off, rfl, hbB, hcl⟩ := nums_cells hr (by simp)
  have c0 := hcl 0 (by simp)
  simp only [List.getElem_cons_zero, Nat.add_zero] at c0
  obtain ⟨h1, h2⟩ := h
  have e0 : (n == 0) = false := beq_eq_false_iff_ne.2 (by omega)
  have e1 : (n == -1) = false := beq_eq_false_iff_ne.2 (by omega)
  have e2 : (n == 4) = false := beq_eq_false_iff_ne.2 (by omega)
  have e3 : (n == 21) = false := beq_eq_false_iff_ne.2 (by omega)
  have e4 : (n == 39) = false := beq_eq_false_iff_ne.2 (by omega)
  have e5 : (n == 49) = false := beq_eq_false_iff_ne.2 (by omega)
  clear hcl hr
  go_enter Tryd.func64, Tryd.ntmps64
  go_wp2
  all_goals
    exact bodyPost_ret (v := .agg #[.int .i64 (n - 90 + 8 + 1), .int .i64 (bg), .int .i64 (fl)]) (by simp [results, Tryd.results64, go_sem]) rfl ⟨by rw [HE.out], ((Below.refl _ _).alloc (Nat.le_refl _) _).alloc (by simp) _⟩

set_option maxRecDepth 100000 in
set_option maxHeartbeats 1600000 in
theorem one_r100 (fg bg fl n : Int) (q : List Int) (A : Option Addr) (c : Nat) (w : World) (hr : Rd w w.heap.size A (nC (n :: q))) (h : 100 ≤ n ∧ n ≤ 107) :
    Calls Tryd.prog 64 #[.agg #[.int .i64 fg, .int .i64 bg, .int .i64 fl], .slice A (q.length + 1) c] w (PenRet w (oneF ⟨fg, bg, fl⟩ (n :: q))) := by
  have he : oneF ⟨fg, bg, fl⟩ (n :: q) = ⟨fg, n - 100 + 8 + 1, fl⟩ := by
    unfold oneF
    rw [if_neg (by simp; try omega), if_neg (by simp; try omega), if_neg (by simp; try omega), if_neg (by simp; try omega), if_neg (by simp; try omega), if_neg (by simp; try omega), if_neg (by simp; try omega), if_neg (by simp; try omega), if_neg (by simp; try omega), if_neg (by simp; try omega), if_neg (by simp; try omega), if_pos (by simp; try omega)]
    try rfl
  have HE := Lib.hid he
  clear he
  obtain ⟨b, off, rfl, hbB, hcl⟩ := nums_cells hr (by simp)
  have c0 := hcl 0 (by simp)
  simp only [List.getElem_cons_zero, Nat.add_zero] at c0
  obtain ⟨h1, h2⟩ := h
  have e0 : (n == 0) = false := beq_eq_false_iff_ne.2 (by omega)
  have e1 : (n == -1) = false := beq_eq_false_iff_ne.2 (by omega)
  have e2 : (n == 4) = false := beq_eq_false_iff_ne.2 (by omega)
  have e3 : (n == 21) = false := beq_eq_false_iff_ne.2 (by omega)
  have e4 : (n == 39) = false := beq_eq_false_iff_ne.2 (by omega)
  have e5 : (n == 49) = false := beq_eq_false_iff_ne.2 (by omega)
  clear hcl hr
  go_enter Tryd.func64, Tryd.ntmps64
  go_wp2
  all_goals
    exact bodyPost_ret (v := .agg #[.int .i64 (fg), .int .i64 (n - 100 + 8 + 1), .int .i64 (fl)]) (by simp [results, Tryd.results64, go_sem]) rfl ⟨by rw [HE.out], ((Below.refl _ _).alloc (Nat.le_refl _) _).alloc (by simp) _⟩

set_option maxRecDepth 100000 in
set_option maxHeartbeats 1600000 in
theorem one_x0 (fg bg fl n : Int) (q : List Int) (A : Option Addr) (c : Nat) (w : World) (hr : Rd w w.heap.size A (nC (n :: q))) (h : n < -1) :
    Calls Tryd.prog 64 #[.agg #[.int .i64 fg, .int .i64 bg, .int .i64 fl], .slice A (q.length + 1) c] w (PenRet w (oneF ⟨fg, bg, fl⟩ (n :: q))) := by
  have he : oneF ⟨fg, bg, fl⟩ (n :: q) = ⟨fg, bg, fl⟩ := by
    unfold oneF
    rw [if_neg (by simp; try omega), if_neg (by simp; try omega), if_neg (by simp; try omega), if_neg (by simp; try omega), if_neg (by simp; try omega), if_neg (by simp; try omega), if_neg (by simp; try omega), if_neg (by simp; try omega), if_neg (by simp; try omega), if_neg (by simp; try omega), if_neg (by simp; try omega), if_neg (by simp; try omega)]
    try rfl
  have HE := Lib.hid he
  clear he
  obtain ⟨b, off, rfl, hbB, hcl⟩ := nums_cells hr (by simp)
  have c0 := hcl 0 (by simp)
  simp only [List.getElem_cons_zero, Nat.add_zero] at c0
  have e0 : (n == 0) = false := beq_eq_false_iff_ne.2 (by omega)
  have e1 : (n == -1) = false := beq_eq_false_iff_ne.2 (by omega)
  have e2 : (n == 4) = false := beq_eq_false_iff_ne.2 (by omega)
  have e3 : (n == 21) = false := beq_eq_false_iff_ne.2 (by omega)
  have e4 : (n == 39) = false := beq_eq_false_iff_ne.2 (by omega)
  have e5 : (n == 49) = false := beq_eq_false_iff_ne.2 (by omega)
  clear hcl hr
  go_enter Tryd.func64, Tryd.ntmps64
  go_wp2
  all_goals
    exact bodyPost_ret (v := .agg #[.int .i64 (fg), .int .i64 (bg), .int .i64 (fl)]) (by simp [results, Tryd.results64, go_sem]) rfl ⟨by rw [HE.out], ((Below.refl _ _).alloc (Nat.le_refl _) _).alloc (by simp) _⟩

set_option maxRecDepth 100000 in
set_option maxHeartbeats 1600000 in
theorem one_x10 (fg bg fl n : Int) (q : List Int) (A : Option Addr) (c : Nat) (w : World) (hr : Rd w w.heap.size A (nC (n :: q))) (h : 10 ≤ n ∧ n ≤ 20) :
    Calls Tryd.prog 64 #[.agg #[.int .i64 fg, .int .i64 bg, .int .i64 fl], .slice A (q.length + 1) c] w (PenRet w (oneF ⟨fg, bg, fl⟩ (n :: q))) := by
  have he : oneF ⟨fg, bg, fl⟩ (n :: q) = ⟨fg, bg, fl⟩ := by
    unfold oneF
    rw [if_neg (by simp; try omega), if_neg (by simp; try omega), if_neg (by simp; try omega), if_neg (by simp; try omega), if_neg (by simp; try omega), if_neg (by simp; try omega), if_neg (by simp; try omega), if_neg (by simp; try omega), if_neg (by simp; try omega), if_neg (by simp; try omega), if_neg (by simp; try omega), if_neg (by simp; try omega)]
    try rfl
  have HE := Lib.hid he
  clear he
  obtain ⟨b, off, rfl, hbB, hcl⟩ := nums_cells hr (by simp)
  have c0 := hcl 0 (by simp)
  simp only [List.getElem_cons_zero, Nat.add_zero] at c0
  obtain ⟨h1, h2⟩ := h
  have e0 : (n == 0) = false := beq_eq_false_iff_ne.2 (by omega)
  have e1 : (n == -1) = false := beq_eq_false_iff_ne.2 (by omega)
  have e2 : (n == 4) = false := beq_eq_false_iff_ne.2 (by omega)
  have e3 : (n == 21) = false := beq_eq_false_iff_ne.2 (by omega)
  have e4 : (n == 39) = false := beq_eq_false_iff_ne.2 (by omega)
  have e5 : (n == 49) = false := beq_eq_false_iff_ne.2 (by omega)
  clear hcl hr
  go_enter Tryd.func64, Tryd.ntmps64
  go_wp2
  all_goals
    exact bodyPost_ret (v := .agg #[.int .i64 (fg), .int .i64 (bg), .int .i64 (fl)]) (by simp [results, Tryd.results64, go_sem]) rfl ⟨by rw [HE.out], ((Below.refl _ _).alloc (Nat.le_refl _) _).alloc (by simp) _⟩

set_option maxRecDepth 100000 in
set_option maxHeartbeats 1600000 in
theorem one_x50 (fg bg fl n : Int) (q : List Int) (A : Option Addr) (c : Nat) (w : World) (hr : Rd w w.heap.size A (nC (n :: q))) (h : 50 ≤ n ∧ n ≤ 89) :
    Calls Tryd.prog 64 #[.agg #[.int .i64 fg, .int .i64 bg, .int .i64 fl], .slice A (q.length + 1) c] w (PenRet w (oneF ⟨fg, bg, fl⟩ (n :: q))) := by
  have he : oneF ⟨fg, bg, fl⟩ (n :: q) = ⟨fg, bg, fl⟩ := by
    unfold oneF
    rw [if_neg (by simp; try omega), if_neg (by simp; try omega), if_neg (by simp; try omega), if_neg (by simp; try omega), if_neg (by simp; try omega), if_neg (by simp; try omega), if_neg (by simp; try omega), if_neg (by simp; try omega), if_neg (by simp; try omega), if_neg (by simp; try omega), if_neg (by simp; try omega), if_neg (by simp; try omega)]
    try rfl
  have HE := Lib.hid he
  clear he
  obtain ⟨b, off, rfl, hbB, hcl⟩ := nums_cells hr (by simp)
  have c0 := hcl 0 (by simp)
  simp only [List.getElem_cons_zero, Nat.add_zero] at c0
  obtain ⟨h1, h2⟩ := h
  have e0 : (n == 0) = false := beq_eq_false_iff_ne.2 (by omega)
  have e1 : (n == -1) = false := beq_eq_false_iff_ne.2 (by omega)
  have e2 : (n == 4) = false := beq_eq_false_iff_ne.2 (by omega)
  have e3 : (n == 21) = false := beq_eq_false_iff_ne.2 (by omega)
  have e4 : (n == 39) = false := beq_eq_false_iff_ne.2 (by omega)
  have e5 : (n == 49) = false := beq_eq_false_iff_ne.2 (by omega)
  clear hcl hr
  go_enter Tryd.func64, Tryd.ntmps64
  go_wp2
  all_goals
    exact bodyPost_ret (v := .agg #[.int .i64 (fg), .int .i64 (bg), .int .i64 (fl)]) (by simp [results, Tryd.results64, go_sem]) rfl ⟨by rw [HE.out], ((Below.refl _ _).alloc (Nat.le_refl _) _).alloc (by simp) _⟩

set_option maxRecDepth 100000 in
set_option maxHeartbeats 1600000 in
theorem one_x98 (fg bg fl n : Int) (q : List Int) (A : Option Addr) (c : Nat) (w : World) (hr : Rd w w.heap.size A (nC (n :: q))) (h : 98 ≤ n ∧ n ≤ 99) :
    Calls Tryd.prog 64 #[.agg #[.int .i64 fg, .int .i64 bg, .int .i64 fl], .slice A (q.length + 1) c] w (PenRet w (oneF ⟨fg, bg, fl⟩ (n :: q))) := by
  have he : oneF ⟨fg, bg, fl⟩ (n :: q) = ⟨fg, bg, fl⟩ := by
    unfold oneF
    rw [if_neg (by simp; try omega), if_neg (by simp; try omega), if_neg (by simp; try omega), if_neg (by simp; try omega), if_neg (by simp; try omega), if_neg (by simp; try omega), if_neg (by simp; try omega), if_neg (by simp; try omega), if_neg (by simp; try omega), if_neg (by simp; try omega), if_neg (by simp; try omega), if_neg (by simp; try omega)]
    try rfl
  have HE := Lib.hid he
  clear he
  obtain ⟨b, off, rfl, hbB, hcl⟩ := nums_cells hr (by simp)
  have c0 := hcl 0 (by simp)
  simp only [List.getElem_cons_zero, Nat.add_zero] at c0
  obtain ⟨h1, h2⟩ := h
  have e0 : (n == 0) = false := beq_eq_false_iff_ne.2 (by omega)
  have e1 : (n == -1) = false := beq_eq_false_iff_ne.2 (by omega)
  have e2 : (n == 4) = false := beq_eq_false_iff_ne.2 (by omega)
  have e3 : (n == 21) = false := beq_eq_false_iff_ne.2 (by omega)
  have e4 : (n == 39) = false := beq_eq_false_iff_ne.2 (by omega)
  have e5 : (n == 49) = false := beq_eq_false_iff_ne.2 (by omega)
  clear hcl hr
  go_enter Tryd.func64, Tryd.ntmps64
  go_wp2
  all_goals
    exact bodyPost_ret (v := .agg #[.int .i64 (fg), .int .i64 (bg), .int .i64 (fl)]) (by simp [results, Tryd.results64, go_sem]) rfl ⟨by rw [HE.out], ((Below.refl _ _).alloc (Nat.le_refl _) _).alloc (by simp) _⟩

set_option maxRecDepth 100000 in
set_option maxHeartbeats 1600000 in
theorem one_x108 (fg bg fl n : Int) (q : List Int) (A : Option Addr) (c : Nat) (w : World) (hr : Rd w w.heap.size A (nC (n :: q))) (h : 107 < n) :
    Calls Tryd.prog 64 #[.agg #[.int .i64 fg, .int .i64 bg, .int .i64 fl], .slice A (q.length + 1) c] w (PenRet w (oneF ⟨fg, bg, fl⟩ (n :: q))) := by
  have he : oneF ⟨fg, bg, fl⟩ (n :: q) = ⟨fg, bg, fl⟩ := by
    unfold oneF
    rw [if_neg (by simp; try omega), if_neg (by simp; try omega), if_neg (by simp; try omega), if_neg (by simp; try omega), if_neg (by simp; try omega), if_neg (by simp; try omega), if_neg (by simp; try omega), if_neg (by simp; try omega), if_neg (by simp; try omega), if_neg (by simp; try omega), if_neg (by simp; try omega), if_neg (by simp; try omega)]
    try rfl
  have HE := Lib.hid he
  clear he
  obtain ⟨b, off, rfl, hbB, hcl⟩ := nums_cells hr (by simp)
  have c0 := hcl 0 (by simp)
  simp only [List.getElem_cons_zero, Nat.add_zero] at c0
  have e0 : (n == 0) = false := beq_eq_false_iff_ne.2 (by omega)
  have e1 : (n == -1) = false := beq_eq_false_iff_ne.2 (by omega)
  have e2 : (n == 4) = false := beq_eq_false_iff_ne.2 (by omega)
  have e3 : (n == 21) = false := beq_eq_false_iff_ne.2 (by omega)
  have e4 : (n == 39) = false := beq_eq_false_iff_ne.2 (by omega)
  have e5 : (n == 49) = false := beq_eq_false_iff_ne.2 (by omega)
  clear hcl hr
  go_enter Tryd.func64, Tryd.ntmps64
  go_wp2
  all_goals
    exact bodyPost_ret (v := .agg #[.int .i64 (fg), .int .i64 (bg), .int .i64 (fl)]) (by simp [results, Tryd.results64, go_sem]) rfl ⟨by rw [HE.out], ((Below.refl _ _).alloc (Nat.le_refl _) _).alloc (by simp) _⟩

set_option maxRecDepth 100000 in
set_option maxHeartbeats 1600000 in
theorem one_x38 (fg bg fl : Int) (q : List Int) (A : Option Addr) (c : Nat) (w : World) (hr : Rd w w.heap.size A (nC (38 :: q)))  :
    Calls Tryd.prog 64 #[.agg #[.int .i64 fg, .int .i64 bg, .int .i64 fl], .slice A (q.length + 1) c] w (PenRet w (oneF ⟨fg, bg, fl⟩ (38 :: q))) := by
  have he : oneF ⟨fg, bg, fl⟩ (38 :: q) = ⟨fg, bg, fl⟩ := by
    unfold oneF
    rw [if_neg (by simp; try omega), if_neg (by simp; try omega), if_neg (by simp; try omega), if_neg (by simp; try omega), if_neg (by simp; try omega), if_neg (by simp; try omega), if_neg (by simp; try omega), if_neg (by simp; try omega), if_neg (by simp; try omega), if_neg (by simp; try omega), if_neg (by simp; try omega), if_neg (by simp; try omega)]
    try rfl
  have HE := Lib.hid he
  clear he
  obtain ⟨b, off, rfl, hbB, hcl⟩ := nums_cells hr (by simp)
  have c0 := hcl 0 (by simp)
  simp only [List.getElem_cons_zero, Nat.add_zero] at c0
  clear hcl hr
  go_enter Tryd.func64, Tryd.ntmps64
  go_wp2
  all_goals
    exact bodyPost_ret (v := .agg #[.int .i64 (fg), .int .i64 (bg), .int .i64 (fl)]) (by simp [results, Tryd.results64, go_sem]) rfl ⟨by rw [HE.out], ((Below.refl _ _).alloc (Nat.le_refl _) _).alloc (by simp) _⟩

set_option maxRecDepth 100000 in
set_option maxHeartbeats 1600000 in
theorem one_x48 (fg bg fl : Int) (q : List Int) (A : Option Addr) (c : Nat) (w : World) (hr : Rd w w.heap.size A (nC (48 :: q)))  :
    Calls Tryd.prog 64 #[.agg #[.int .i64 fg, .int .i64 bg, .int .i64 fl], .slice A (q.length + 1) c] w (PenRet w (oneF ⟨fg, bg, fl⟩ (48 :: q))) := by
  have he : oneF ⟨fg, bg, fl⟩ (48 :: q) = ⟨fg, bg, fl⟩ := by
    unfold oneF
    rw [if_neg (by simp; try omega), if_neg (by simp; try omega), if_neg (by simp; try omega), if_neg (by simp; try omega), if_neg (by simp; try omega), if_neg (by simp; try omega), if_neg (by simp; try omega), if_neg (by simp; try omega), if_neg (by simp; try omega), if_neg (by simp; try omega), if_neg (by simp; try omega), if_neg (by simp; try omega)]
    try rfl
  have HE := Lib.hid he
  clear he
  obtain ⟨b, off, rfl, hbB, hcl⟩ := nums_cells hr (by simp)
  have c0 := hcl 0 (by simp)
  simp only [List.getElem_cons_zero, Nat.add_zero] at c0
  clear hcl hr
  go_enter Tryd.func64, Tryd.ntmps64
  go_wp2
  all_goals
    exact bodyPost_ret (v := .agg #[.int .i64 (fg), .int .i64 (bg), .int .i64 (fl)]) (by simp [results, Tryd.results64, go_sem]) rfl ⟨by rw [HE.out], ((Below.refl _ _).alloc (Nat.le_refl _) _).alloc (by simp) _⟩

set_option maxRecDepth 100000 in
set_option maxHeartbeats 1600000 in
theorem one_e39 (fg bg fl : Int) (q : List Int) (A : Option Addr) (c : Nat) (w : World) (hr : Rd w w.heap.size A (nC (39 :: q)))  :
    Calls Tryd.prog 64 #[.agg #[.int .i64 fg, .int .i64 bg, .int .i64 fl], .slice A (q.length + 1) c] w (PenRet w (oneF ⟨fg, bg, fl⟩ (39 :: q))) := by
  have he : oneF ⟨fg, bg, fl⟩ (39 :: q) = ⟨0, bg, fl⟩ := by
    unfold oneF
    rw [if_neg (by simp; try omega), if_neg (by simp; try omega), if_neg (by simp; try omega), if_neg (by simp; try omega), if_neg (by simp; try omega), if_neg (by simp; try omega), if_neg (by simp; try omega), if_pos (by simp; try omega)]
    try rfl
  have HE := Lib.hid he
  clear he
  obtain ⟨b, off, rfl, hbB, hcl⟩ := nums_cells hr (by simp)
  have c0 := hcl 0 (by simp)
  simp only [List.getElem_cons_zero, Nat.add_zero] at c0
  clear hcl hr
  go_enter Tryd.func64, Tryd.ntmps64
  go_wp2
  all_goals
    exact bodyPost_ret (v := .agg #[.int .i64 (0), .int .i64 (bg), .int .i64 (fl)]) (by simp [results, Tryd.results64, go_sem]) rfl ⟨by rw [HE.out], ((Below.refl _ _).alloc (Nat.le_refl _) _).alloc (by simp) _⟩

set_option maxRecDepth 100000 in
set_option maxHeartbeats 1600000 in
theorem one_e49 (fg bg fl : Int) (q : List Int) (A : Option Addr) (c : Nat) (w : World) (hr : Rd w w.heap.size A (nC (49 :: q)))  :
    Calls Tryd.prog 64 #[.agg #[.int .i64 fg, .int .i64 bg, .int .i64 fl], .slice A (q.length + 1) c] w (PenRet w (oneF ⟨fg, bg, fl⟩ (49 :: q))) := by
  have he : oneF ⟨fg, bg, fl⟩ (49 :: q) = ⟨fg, 0, fl⟩ := by
    unfold oneF
    rw [if_neg (by simp; try omega), if_neg (by simp; try omega), if_neg (by simp; try omega), if_neg (by simp; try omega), if_neg (by simp; try omega), if_neg (by simp; try omega), if_neg (by simp; try omega), if_neg (by simp; try omega), if_neg (by simp; try omega), if_pos (by simp; try omega)]
    try rfl
  have HE := Lib.hid he
  clear he
  obtain ⟨b, off, rfl, hbB, hcl⟩ := nums_cells hr (by simp)
  have c0 := hcl 0 (by simp)
  simp only [List.getElem_cons_zero, Nat.add_zero] at c0
  clear hcl hr
  go_enter Tryd.func64, Tryd.ntmps64
  go_wp2
  all_goals
    exact bodyPost_ret (v := .agg #[.int .i64 (fg), .int .i64 (0), .int .i64 (fl)]) (by simp [results, Tryd.results64, go_sem]) rfl ⟨by rw [HE.out], ((Below.refl _ _).alloc (Nat.le_refl _) _).alloc (by simp) _⟩

set_option maxRecDepth 100000 in
set_option maxHeartbeats 1600000 in
theorem one_e0 (fg bg fl : Int) (q : List Int) (A : Option Addr) (c : Nat) (w : World) (hr : Rd w w.heap.size A (nC (0 :: q)))  :
    Calls Tryd.prog 64 #[.agg #[.int .i64 fg, .int .i64 bg, .int .i64 fl], .slice A (q.length + 1) c] w (PenRet w (oneF ⟨fg, bg, fl⟩ (0 :: q))) := by
  have he : oneF ⟨fg, bg, fl⟩ (0 :: q) = ⟨0, 0, 0⟩ := by
    unfold oneF
    rw [if_pos (by simp; try omega)]
    try rfl
  have HE := Lib.hid he
  clear he
  obtain ⟨b, off, rfl, hbB, hcl⟩ := nums_cells hr (by simp)
  have c0 := hcl 0 (by simp)
  simp only [List.getElem_cons_zero, Nat.add_zero] at c0
  clear hcl hr
  go_enter Tryd.func64, Tryd.ntmps64
  go_wp2
  all_goals
    exact bodyPost_ret (v := .agg #[.int .i64 (0), .int .i64 (0), .int .i64 (0)]) (by simp [results, Tryd.results64, go_sem]) rfl ⟨by rw [HE.out], ((Below.refl _ _).alloc (Nat.le_refl _) _).alloc (by simp) _⟩

set_option maxRecDepth 100000 in
set_option maxHeartbeats 1600000 in
theorem one_em1 (fg bg fl : Int) (q : List Int) (A : Option Addr) (c : Nat) (w : World) (hr : Rd w w.heap.size A (nC ((-1) :: q)))  :
    Calls Tryd.prog 64 #[.agg #[.int .i64 fg, .int .i64 bg, .int .i64 fl], .slice A (q.length + 1) c] w (PenRet w (oneF ⟨fg, bg, fl⟩ ((-1) :: q))) := by
  have he : oneF ⟨fg, bg, fl⟩ ((-1) :: q) = ⟨0, 0, 0⟩ := by
    unfold oneF
    rw [if_pos (by simp; try omega)]
    try rfl
  have HE := Lib.hid he
  clear he
  obtain ⟨b, off, rfl, hbB, hcl⟩ := nums_cells hr (by simp)
  have c0 := hcl 0 (by simp)
  simp only [List.getElem_cons_zero, Nat.add_zero] at c0
  clear hcl hr
  go_enter Tryd.func64, Tryd.ntmps64
  go_wp2
  all_goals
    exact bodyPost_ret (v := .agg #[.int .i64 (0), .int .i64 (0), .int .i64 (0)]) (by simp [results, Tryd.results64, go_sem]) rfl ⟨by rw [HE.out], ((Below.refl _ _).alloc (Nat.le_refl _) _).alloc (by simp) _⟩
end Go.Proofs.YtcempbgbdlmjfaaDoor
