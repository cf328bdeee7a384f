/-
  mouse: the event of a law, and when Report says nothing.
-/
import Derived.Test.YtcempbgbdlmjfaaDoorMsW
namespace Go.Proofs.YtcempbgbdlmjfaaDoor
open Go.RowKit

set_option maxRecDepth 100000 in
set_option maxHeartbeats 1600000 in
theorem ours_any (k b m x y : Int) (w : World) : Calls Tryd.prog 49 #[.agg #[.int .i64 k, .int .i64 b, .int .i64 m, .int .i64 x, .int .i64 y]] w fun e w' => e = .returned (.agg #[.int .i64 k, .int .i64 b, .int .i64 m, .int .i64 x, .int .i64 y]) ∧ Below w.heap.size w w' := by
  go_enter Tryd.func49, Tryd.ntmps49
  go_wp2_with fail
  exact bodyPost_ret (v := .agg #[.int .i64 k, .int .i64 b, .int .i64 m, .int .i64 x, .int .i64 y]) (by simp [results, Tryd.results49, go_sem]) rfl ⟨rfl, ((Below.refl _ _).alloc (Nat.le_refl _) _).alloc (by simp) _⟩
/-- with encoding 1006, Report says something just of what the mouse tells -/
theorem rep_tells (B k b m x y h v : Int) (w : World) (hM : TabM w) (hT : TabI w) (hx : Wf x) (hy : Wf y) (hh : Wf h) (hv : Wf v) (hm : Wf m) (hcod : codF B = 1006) : Calls Tryd.prog 48 #[.agg #[.int .i64 B], .agg #[.int .i64 k, .int .i64 b, .int .i64 m, .int .i64 x, .int .i64 y], .int .i64 h, .int .i64 v] w fun e w' => ∃ A N cp, e = .returned (.slice A N cp) ∧ (0 < N ↔ tellF B k b m = true) ∧ Below w.heap.size w w' := by
  cases hf : fineF k b m with
  | false =>
    refine (rep_nofine B k b m x y h v w hM hf).mono ?_
    rintro e w' ⟨rfl, hb⟩
    exact ⟨_, _, _, rfl, by simp [tellF, hf], hb⟩
  | true =>
    cases ht : toldF (mouF B) k b with
    | false =>
      refine (rep_notold B k b m x y h v w hM hf ht).mono ?_
      rintro e w' ⟨rfl, hb⟩
      exact ⟨_, _, _, rfl, by simp [tellF, hf, ht], hb⟩
    | true =>
      by_cases hk : k = 1
      · refine (rep_sgr1 B k b m x y h v w hM hT hx hy hh hv hf ht hm hcod hk).mono ?_
        rintro e w' ⟨A, N, cp, rfl, hn, _, hb⟩
        exact ⟨_, _, _, rfl, by rw [hn]; simp [tellF, hf, ht, repL], hb⟩
      · refine (rep_sgr B k b m x y h v w hM hT hx hy hh hv hf ht hm hcod hk).mono ?_
        rintro e w' ⟨A, N, cp, rfl, hn, _, hb⟩
        exact ⟨_, _, _, rfl, by rw [hn]; simp [tellF, hf, ht, repL], hb⟩
theorem mou_new : mouF 322 = 0 := by decide +kernel
theorem rep_new (k b m x y h v : Int) (w : World) (hM : TabM w) : Calls Tryd.prog 48 #[.agg #[.int .i64 322], .agg #[.int .i64 k, .int .i64 b, .int .i64 m, .int .i64 x, .int .i64 y], .int .i64 h, .int .i64 v] w fun e w' => e = .returned (.slice none 0 0) ∧ Below w.heap.size w w' := by
  cases hf : fineF k b m with
  | false => exact rep_nofine 322 k b m x y h v w hM hf
  | true =>
    have e : toldF (mouF 322) k b = false := by rw [mou_new]; rfl
    exact rep_notold 322 k b m x y h v w hM hf e
/-- modes in a box of their own -/
def MdAt (W wx : World) (s : Value) (z : Int) : Prop := ∃ g, s = .pointer (some ⟨g, 0, none⟩) ∧ wx.heap[g]? = some (.cells #[.int .i64 z] 24 (0, 0)) ∧ W.heap.size ≤ g ∧ Below W.heap.size W wx
theorem mdat_1 {W wx : World} {z : Int} (hb : Below W.heap.size W wx) : MdAt W (wx.alloc (.cells #[.int .i64 z] 24)) (.pointer (some ⟨wx.heap.size, 0, none⟩)) z :=
  ⟨wx.heap.size, rfl, heap_alloc_new wx _, hb.size, hb.alloc hb.size _⟩
/-- an event of a law in a block of its own -/
def EvL (w : World) (g : Nat) (k b m x y : Int) : Prop := w.heap[g]? = some (.cells #[.int .i64 k, .int .i64 b, .int .i64 m, .int .i64 x, .int .i64 y] 71 (0, 0))
theorem EvL.cells {w : World} {g : Nat} {k b m x y : Int} (h : EvL w g k b m x y) : w.cell? ⟨g, 0, none⟩ = some (.int .i64 k) ∧ w.cell? ⟨g, 1, none⟩ = some (.int .i64 b) ∧ w.cell? ⟨g, 2, none⟩ = some (.int .i64 m) ∧ w.cell? ⟨g, 3, none⟩ = some (.int .i64 x) ∧ w.cell? ⟨g, 4, none⟩ = some (.int .i64 y) :=
  ⟨bk_cell h 0 _ rfl, bk_cell h 1 _ rfl, bk_cell h 2 _ rfl, bk_cell h 3 _ rfl, bk_cell h 4 _ rfl⟩
theorem EvL.past {w w' : World} {g : Nat} {k b m x y : Int} (h : EvL w g k b m x y) (hb : Below w.heap.size w w') : EvL w' g k b m x y := bk_past h hb (Nat.le_refl _)
theorem mdat_2 {W wx : World} {g : Nat} {z0 z : Int} (hb : Below W.heap.size W wx) (hk : wx.heap[g]? = some (.cells #[.int .i64 z0] 24 (0, 0))) (hg : W.heap.size ≤ g) : MdAt W (wx.setCell ⟨g, 0, none⟩ (.int .i64 z)) (.pointer (some ⟨g, 0, none⟩)) z :=
  ⟨g, rfl, by have := bk_set hk 0 (.int .i64 z); simpa using this, hg, hb.setCell hg _⟩
theorem al_drew {B : Nat} {W w : World} (h : Below B W w) : Below B W w.drew := h.drew
theorem al_alloc {W w : World} (h : Below W.heap.size W w) (o : Obj) : Below W.heap.size W (w.alloc o) := h.alloc h.size _
theorem al_call {W w w' : World} (h : Below W.heap.size W w) (hb : Below w.heap.size w w') : Below W.heap.size W w' := h.trans (hb.mono h.size)
def goodF (k b m : Int) : Bool := decide (0 ≤ k ∧ k ≤ 2 ∧ 0 ≤ b ∧ b ≤ 2 ∧ m = 0)
theorem good_fine (k b m : Int) (h : goodF k b m = true) : fineF k b m = true := by
  have h' := of_decide_eq_true h
  obtain ⟨h1, h2, h3, h4, rfl⟩ := h'
  have e1 : shapeF k b = true := decide_eq_true (by omega)
  have e2 : modsOk 0 = true := by decide
  unfold fineF
  rw [e1, e2]
  rfl
def SlN (W wx : World) (s : Value) (t : Bool) : Prop := ∃ A N cp, s = .slice A N cp ∧ (0 < N ↔ t = true) ∧ Below W.heap.size W wx
end Go.Proofs.YtcempbgbdlmjfaaDoor
