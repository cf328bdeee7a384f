/-
  utf: bytes as a string; Feed from the start, as the laws call it.
-/
import Derived.Test.YtcempbgbdlmjfaaUtH
import Derived.Laws.BytesArg
namespace Go.Proofs.Ytcempbgbdlmjfaa
open Go.RowKit

theorem run_str {P : Program} {w : World} {B : Nat} {A : Option Addr} {xs : List Int} (h : Rd w B A (byteCells xs)) (src e dst : TypeId) (cap : Nat) (hs : P.underlying src = some (.slice e)) (he : P.underlying e = some (.int .u8)) (hd : P.underlying dst = some .string) :
    (convert src dst (.slice A xs.length cap)).run P w = .ok (.string (strOfNums xs)) w := by
  by_cases hn : xs = []
  · subst hn
    cases A with
    | none => exact run_convert_bytes_nil w src e hs he _ _ dst hd
    | some a =>
      obtain ⟨b, off, sp⟩ := a
      show (convert src dst (.slice (some ⟨b, off, sp⟩) 0 cap)).run P w = _
      rw [run_convert_bytes_string w src dst e _ _ cap hs he hd, run_bytesToString w _ 0 cap [] (by simpa using run_loadCells_list (P := P) w ⟨b, off, sp⟩ [] (fun j v hj => by simp at hj)), foldl_push_bytes]
      rfl
  · obtain ⟨b, off, rfl, _, hc⟩ := h (by simp [byteCells]; exact List.length_pos_iff.2 hn)
    exact run_convert_bytes_arg w src e hs he b off xs.length cap xs rfl (fun i hi => by
      rw [hc i (by simpa [byteCells] using hi)]
      simp [byteCells, List.getD, hi]) dst hd

/-- Feed from the start -/
theorem feed_start (b : List Int) (A : Option Addr) (c : Nat) (w : World) (B : Nat) (hB : B ≤ w.heap.size) (hr : Rd w B A (byteCells b)) (hb : Bytes b) (hl : b.length ≤ 10000) :
    Calls Try.prog 26 #[.agg #[.slice none 0 0], .slice A b.length c] w fun e w' => ∃ A3 c3 A4 c4,
      e = .returned (.tuple #[.agg #[.slice A3 (feedF b).1.length c3], .slice A4 (feedF b).2.length c4]) ∧
      w'.ownsRow w.heap.size 5 1 (.slice A3 (feedF b).1.length c3) (feedF b).1.length (byteCells (feedF b).1) ∧
      w'.ownsRow w.heap.size 3 1 (.slice A4 (feedF b).2.length c4) (feedF b).2.length (intCells (feedF b).2) ∧ Below w.heap.size w w' :=
  feed_any [] b none A 0 c w B hB (Rd.nil _ _ _) hr rfl (by intro y hy; simp at hy) hb hl
/-- .. with what comes out said -/
theorem feed_says (s b t m : List Int) (A A' : Option Addr) (n k c c' : Nat) (w : World) (B : Nat) (hB : B ≤ w.heap.size) (hr0 : Rd w B A (byteCells s)) (hr1 : Rd w B A' (byteCells b)) (hs : sanU s = true) (h1 : Bytes s) (h2 : Bytes b) (hl : b.length ≤ 10000)
    (hn : s.length = n) (hk : b.length = k) (hf : feedF (s ++ b) = (t, m)) :
    Calls Try.prog 26 #[.agg #[.slice A n c], .slice A' k c'] w fun e w' => ∃ A3 c3 A4 c4,
      e = .returned (.tuple #[.agg #[.slice A3 t.length c3], .slice A4 m.length c4]) ∧
      w'.ownsRow w.heap.size 5 1 (.slice A3 t.length c3) t.length (byteCells t) ∧
      w'.ownsRow w.heap.size 3 1 (.slice A4 m.length c4) m.length (intCells m) ∧ Below w.heap.size w w' := by
  subst hn; subst hk
  have h := feed_any s b A A' c c' w B hB hr0 hr1 hs h1 h2 hl
  rw [hf] at h
  exact h

/-- what 's, l := Feed(..)' leaves: a new block that holds the state, the letters, and all that was as it was -/
structure Fed (W wx : World) (sp sl : Value) (t m : List Int) : Prop where
  out : ∃ g A c A6 c6, sp = .pointer (some ⟨g, 0, none⟩) ∧ sl = .slice A6 m.length c6 ∧ wx.cell? ⟨g, 0, none⟩ = some (.slice A t.length c) ∧ wx.frozen? ⟨g, 0, none⟩ = false ∧ W.heap.size ≤ g ∧ g < wx.heap.size ∧
    wx.ownsRow W.heap.size 5 1 (.slice A t.length c) t.length (byteCells t) ∧ wx.ownsRow W.heap.size 3 1 sl m.length (intCells m)
  below : Below W.heap.size W wx
theorem fed_1 {W w4 : World} {A5 A6 : Option Addr} {c5 c6 : Nat} {t m : List Int} (hb : Below W.heap.size W w4) (ho5 : w4.ownsRow W.heap.size 5 1 (.slice A5 t.length c5) t.length (byteCells t)) (ho6 : w4.ownsRow W.heap.size 3 1 (.slice A6 m.length c6) m.length (intCells m)) :
    Fed W (w4.alloc (.cells #[.slice A5 t.length c5] 45)) (.pointer (some ⟨w4.heap.size, 0, none⟩)) (.slice A6 m.length c6) t m :=
  ⟨⟨w4.heap.size, A5, c5, A6, c6, rfl, rfl, new_cell (Below.refl _ _) 0 _ rfl, new_frozen (Below.refl _ _) 0, hb.size, by simp, ho5.alloc _, ho6.alloc _⟩, hb.alloc hb.size _⟩
theorem fed_2 {W w4 : World} {A5 A6 : Option Addr} {c5 c6 : Nat} {t m : List Int} {u : Value} (hb : Below (W.heap.size + 1) (W.alloc (.cells #[u] 45)) w4) (ho5 : w4.ownsRow (W.heap.size + 1) 5 1 (.slice A5 t.length c5) t.length (byteCells t)) (ho6 : w4.ownsRow (W.heap.size + 1) 3 1 (.slice A6 m.length c6) m.length (intCells m)) :
    Fed W (w4.setCell ⟨W.heap.size, 0, none⟩ (.slice A5 t.length c5)) (.pointer (some ⟨W.heap.size, 0, none⟩)) (.slice A6 m.length c6) t m := by
  have hc : w4.cell? ⟨W.heap.size, 0, none⟩ = some u := (hb.cell (p := ⟨W.heap.size, 0, none⟩) (by simp)).trans (new_cell (Below.refl _ _) 0 _ rfl)
  have hf : w4.frozen? ⟨W.heap.size, 0, none⟩ = false := (hb.frozen (p := ⟨W.heap.size, 0, none⟩) (by simp)).trans (new_frozen (Below.refl _ _) 0)
  have hz := hb.size
  simp at hz
  refine ⟨⟨W.heap.size, A5, c5, A6, c6, rfl, rfl, World.cell?_setCell_same _ _ _ hc, by simpa using hf, Nat.le_refl _, by simp [World.setCell]; omega, ?_, ?_⟩, ?_⟩
  · exact own_base (own_far ho5 (by simp) _) (by omega)
  · exact own_base (own_far ho6 (by simp) _) (by omega)
  · exact (below_box hb).setCell (by simp) _
/-- .. behind a draw, as a region that draws its order has it -/
theorem fed_1d {W w4 : World} {A5 A6 : Option Addr} {c5 c6 : Nat} {t m : List Int} (hb : Below W.drew.heap.size W.drew w4) (ho5 : w4.ownsRow W.drew.heap.size 5 1 (.slice A5 t.length c5) t.length (byteCells t)) (ho6 : w4.ownsRow W.drew.heap.size 3 1 (.slice A6 m.length c6) m.length (intCells m)) :
    Fed W (w4.alloc (.cells #[.slice A5 t.length c5] 45)) (.pointer (some ⟨w4.heap.size, 0, none⟩)) (.slice A6 m.length c6) t m :=
  fed_1 ((Below.refl _ _).drew.trans hb) ho5 ho6
theorem fed_2d {W w4 : World} {A5 A6 : Option Addr} {c5 c6 : Nat} {t m : List Int} {u : Value} (hb : Below (W.alloc (.cells #[u] 45)).drew.heap.size (W.alloc (.cells #[u] 45)).drew w4) (ho5 : w4.ownsRow (W.alloc (.cells #[u] 45)).drew.heap.size 5 1 (.slice A5 t.length c5) t.length (byteCells t)) (ho6 : w4.ownsRow (W.alloc (.cells #[u] 45)).drew.heap.size 3 1 (.slice A6 m.length c6) m.length (intCells m)) :
    Fed W (w4.setCell ⟨W.heap.size, 0, none⟩ (.slice A5 t.length c5)) (.pointer (some ⟨W.heap.size, 0, none⟩)) (.slice A6 m.length c6) t m := by
  have e : (W.alloc (.cells #[u] 45)).drew.heap.size = W.heap.size + 1 := by simp
  rw [e] at hb ho5 ho6
  exact fed_2 ((Below.refl _ _).drew.trans hb) ho5 ho6
end Go.Proofs.Ytcempbgbdlmjfaa
