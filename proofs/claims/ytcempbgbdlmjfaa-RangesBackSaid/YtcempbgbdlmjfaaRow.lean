/-
  How an argument that is a slice of rows is opened.
-/
import Derived.Test.YtcempbgbdlmjfaaRowB
import Derived.Test.YtcempbgbdlmjfaaRgA
namespace Go.Proofs.Ytcempbgbdlmjfaa
open Go.ChangeShapes Go.WideShapes Go.ChangeAt Go.RowKit Go.Deep

section
variable {H : Type} {enc : TypeId × Value → H} {P : Program} {w : World} {base : Nat} {spare : Nat → Bool} {held : Bool}
/-- an argument that is a slice of structs of three numbers -/
theorem open_rowSlice {t e ti : TypeId} {f0 f1 f2 : Field} {r : Reach} {b0 : Nat} {v : Value} {d : DataW H} {ps : List MemPlace} (ht : P.underlying t = some (.slice e)) (he : P.underlying e = some (.struct #[f0, f1, f2]))
    (hone : oneCellFields P #[f0, f1, f2] = true) (hC : P.cellsOf e = 3) (h0 : f0.type = ti) (h1 : f1.type = ti) (h2 : f2.type = ti) (hti : P.underlying ti = some (.int .i64))
    (hv : Value.okWide P w r b0 t v) (h : DataW.Trod enc P w 0 (fun _ => true) true t v d ps) :
    ∃ (A : Option Addr) (rows : List R) (c : Nat), v = .slice A rows.length c ∧ Rd w w.heap.size A (rowCells rows) ∧ rows.length ≤ maxLen := by
  obtain ⟨a0, len, cap, rfl⟩ := okWide_slice ht hv
  obtain ⟨fuel, hf⟩ := h
  rcases open_slice_fields ht he hone hC hf with ⟨hcs, hx⟩ | ⟨a, len', cap', m, hcs, hl, hm, hmm, hcell⟩
  · simp only [Value.cells] at hcs
    simp at hcs
    obtain ⟨rfl, rfl, rfl⟩ := hcs
    exact ⟨none, [], 0, rfl, Rd.nil _ _ _, by simp⟩
  · simp [Value.cells] at hcs
    obtain ⟨rfl, rfl, rfl⟩ := hcs
    simp only [if_true] at hmm
    subst hmm
    have hcell3 : ∀ i, i < len → ∃ x : R, w.cell? (a.add (i * 3)) = some (.int .i64 x.lo) ∧ w.cell? (a.add (i * 3 + 1)) = some (.int .i64 x.hi) ∧ w.cell? (a.add (i * 3 + 2)) = some (.int .i64 x.v) := by
      intro i hi
      obtain ⟨ys, n, hyl, hy⟩ := hcell i (by omega)
      have get : ∀ (j : Nat) (f : Field), (#[f0, f1, f2] : Array Field)[j]? = some f → f.type = ti → ∃ z : Int, w.cell? (a.add (i * 3 + j)) = some (.int .i64 z) := by
        intro j f hj hft
        obtain ⟨v, y, hc, _, htr⟩ := hy j f hj
        rw [hft] at htr
        obtain ⟨z, e0, _, _⟩ := DataW.trod_int hti htr
        simp at e0
        subst e0
        exact ⟨z, hc⟩
      obtain ⟨z0, g0⟩ := get 0 f0 rfl h0
      obtain ⟨z1, g1⟩ := get 1 f1 rfl h1
      obtain ⟨z2, g2⟩ := get 2 f2 rfl h2
      exact ⟨⟨z0, z1, z2⟩, g0, g1, g2⟩
    have mk : ∀ n, n ≤ len → ∃ rows : List R, rows.length = n ∧ ∀ j (_ : j < rows.length), w.cell? (a.add (j * 3)) = some (.int .i64 rows[j].lo) ∧ w.cell? (a.add (j * 3 + 1)) = some (.int .i64 rows[j].hi) ∧ w.cell? (a.add (j * 3 + 2)) = some (.int .i64 rows[j].v) := by
      intro n
      induction n with
      | zero => intro _; exact ⟨[], rfl, fun j hj => absurd hj (by simp)⟩
      | succ n ih =>
        intro hn
        obtain ⟨rows, hlen, hr⟩ := ih (by omega)
        obtain ⟨x, hx⟩ := hcell3 n (by omega)
        refine ⟨rows ++ [x], by simp [hlen], fun j hj => ?_⟩
        by_cases hjn : j < rows.length
        · rw [List.getElem_append_left hjn]; exact hr j hjn
        · have : j = n := by simp at hj; omega
          subst this
          rw [List.getElem_append_right (by omega)]
          simpa [hlen] using hx
    obtain ⟨rows, hlen, hr⟩ := mk len (Nat.le_refl _)
    refine ⟨some a, rows, _, by rw [hlen], fun hpos => ?_, by omega⟩
    rw [rowCells_len] at hpos
    obtain ⟨b, off, spot⟩ := a
    have q0 := (hr 0 (by omega)).1
    have hspot : spot = none := by simpa [Addr.add] using World.cell?_spot q0
    subst hspot
    have addr : ∀ j, (⟨b, off, none⟩ : Addr).add j = ⟨b, off + j, none⟩ := fun j => by unfold Addr.add; split <;> simp_all
    rw [addr] at q0
    refine ⟨b, off, rfl, World.block_lt_of_cell? w _ q0, fun j hj => ?_⟩
    rw [rowCells_len] at hj
    obtain ⟨g0, g1, g2⟩ := rowCells_get rows (j / 3) (by omega)
    obtain ⟨p0, p1, p2⟩ := hr (j / 3) (by omega)
    rw [addr] at p0 p1 p2
    have hg : (rowCells rows)[j]? = some (rowCells rows)[j] := List.getElem?_eq_getElem _
    have hj3 : j = j / 3 * 3 ∨ j = j / 3 * 3 + 1 ∨ j = j / 3 * 3 + 2 := by omega
    rcases hj3 with e | e | e
    · rw [← e, hg] at g0; rw [← e] at p0; rw [p0]; exact g0.symm
    · rw [← e, hg] at g1; rw [← e] at p1; rw [p1]; exact g1.symm
    · rw [← e, hg] at g2; rw [← e] at p2; rw [p2]; exact g2.symm
end
end Go.Proofs.Ytcempbgbdlmjfaa
