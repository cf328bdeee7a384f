/-
  Ranges: the walk of the laws' awake.
-/
import Derived.Test.YtcempbgbdlmjfaaRgE
namespace Go.Proofs.Ytcempbgbdlmjfaa
open Go.RowKit

theorem make_two (A : Option Addr) (c : Nat) (w : World) (B : Nat) (hB : B ≤ w.heap.size) (hr0 : Rd w B A [.int .i64 5, .int .i64 7, .int .i64 2, .int .i64 8, .int .i64 9, .int .i64 2]) :
    Calls Try.prog 19 #[.slice A 2 c] w fun e w' => ∃ A' c', e = .returned (.tuple #[.agg #[.slice A' 1 c'], .int .i64 0]) ∧
      w'.ownsRow w.heap.size 74 3 (.slice A' 1 c') 1 (rowCells [⟨5, 9, 2⟩]) ∧ Below w.heap.size w w' := by
  have h := make_any [⟨5, 7, 2⟩, ⟨8, 9, 2⟩] A c w B hB hr0 (by simp)
  have hm : makeF [⟨5, 7, 2⟩, ⟨8, 9, 2⟩] = ([⟨5, 9, 2⟩], 0) := by
    simp [makeF, okL, okFrom, fitsB, aftB, makeGo, joinF, touchB]
  rw [hm] at h
  exact h
theorem get_8 : getF [⟨5, 9, 2⟩] 8 = 2 := by simp [getF]
theorem get_4 : getF [⟨5, 9, 2⟩] 4 = 0 := by simp [getF]
theorem sane_1 : saneF [⟨5, 9, 2⟩] = true := by simp [saneF, saneFrom, fitsB, okAft]

set_option maxRecDepth 100000 in
set_option maxHeartbeats 1600000 in
theorem awake_any (w : World) : Calls Try.prog 15 #[] w fun e w' => e = .returned (.bool true) ∧ Below w.heap.size w w' := by
  have hrd : Rd (w.alloc (.cells #[.int .i64 5, .int .i64 7, .int .i64 2, .int .i64 8, .int .i64 9, .int .i64 2] 74)) (w.heap.size + 1) (some ⟨w.heap.size, 0, none⟩) [.int .i64 5, .int .i64 7, .int .i64 2, .int .i64 8, .int .i64 9, .int .i64 2] :=
    rd_block (heap_alloc_new w _) (by omega)
  go_enter Try.func15, Try.ntmps15
  go_wp2_with (first
    | (go_at_call 19; refine (make_two _ _ _ (w.heap.size + 1) (by simp) hrd).mono ?_; rintro e w1 ⟨A1, c1, rfl, hown, hb1⟩; obtain ⟨g, cap, hv, hbg, hglt⟩ := hown.form (by omega); injection hv with e1 e2 e3; subst e1; subst e3; have k0 := (World.cell?_alloc_lt w1 (.cells #[.slice (some ⟨g, 0, none⟩) 1 c1] 27) ⟨g, 1, none⟩ hglt).trans (by exact hown.cells (g := g) rfl 1 _ rfl); have rd2 := (Rd.of_own hown).alloc (Nat.le_refl _) (.cells #[.slice (some ⟨g, 0, none⟩) 1 c1] 27); have b2 := heap_alloc_new w1 (.cells #[.slice (some ⟨g, 0, none⟩) 1 c1] 27))
    | (go_at_call_of 18 (Value.int IntKind.i64 8); refine (get_any [⟨5, 9, 2⟩] _ c1 8 _ w1.heap.size (by simp) rd2 (by simp [maxLen])).mono ?_; rintro e w2 ⟨rfl, hb2⟩; simp only [get_8]; have b3 := blk_past b2 hb2 (Nat.le_refl _); have k1 := blk_cell b3 0 _ rfl)
    | (go_at_call_of 18 (Value.int IntKind.i64 4); refine (get_any [⟨5, 9, 2⟩] _ c1 4 _ w1.heap.size (by have := hb2.size; simp at this; omega) (rd2.below hb2 (by simp)) (by simp [maxLen])).mono ?_; rintro e w3 ⟨rfl, hb3⟩; simp only [get_4]; have k2 := blk_cell (blk_past b3 hb3 (Nat.le_refl _)) 0 _ rfl)
    | (go_at_call 16; refine (sane_any [⟨5, 9, 2⟩] _ c1 _ w1.heap.size (by have := hb2.size; have := hb3.size; simp at *; omega) ((rd2.below hb2 (by simp)).below hb3 (by have := hb2.size; simp at *; omega)) (by simp [maxLen])).mono ?_; rintro e w4 ⟨rfl, hb4⟩; simp only [sane_1]))
  go_ret
  refine ⟨rfl, bt (bt (bt ((bt ((Below.refl _ _).alloc (Nat.le_refl _) _) hb1 (by simp)).alloc ?_ _) hb2 ?_) hb3 ?_) hb4 ?_⟩
  all_goals (have := hb1.size; have := hb2.size; have := hb3.size; simp at *; omega)
end Go.Proofs.Ytcempbgbdlmjfaa
