/-
  How an argument that is a struct of three numbers, and one that is a slice of slices of numbers, are opened.
-/
import Derived.Test.YtcempbgbdlmjfaaDoorRowB
import Derived.Test.YtcempbgbdlmjfaaDoorPePlain
import Derived.Test.YtcempbgbdlmjfaaDoorPaMem
import Derived.Lib.SmallJoins
import Derived.Deep.Matrix
namespace Go.Proofs.YtcempbgbdlmjfaaDoor
open Go.ChangeShapes Go.WideShapes Go.ChangeAt Go.RowKit Go.Deep Go.Joins

section
variable {H : Type} {enc : TypeId × Value → H} {P : Program} {w : World}
theorem open_pen {t ti : TypeId} {f0 f1 f2 : Field} {r : Reach} {b0 : Nat} {v : Value} {d : DataW H} {ps : List MemPlace} (ht : P.underlying t = some (.struct #[f0, f1, f2]))
    (hone : oneCellFields P #[f0, f1, f2] = true) (hC : P.cellsOf t = 3) (h0 : f0.type = ti) (h1 : f1.type = ti) (h2 : f2.type = ti) (hti : P.underlying ti = some (.int .i64))
    (hv : Value.okWide P w r b0 t v) (h : DataW.Trod enc P w 0 (fun _ => true) true t v d ps) :
    ∃ p : Pn, v = .agg #[.int .i64 p.fg, .int .i64 p.bg, .int .i64 p.fl] := by
  obtain ⟨c0, c1, c2, y0, y1, y2, m, rfl, rfl, rfl, hy0, hy1, hy2⟩ := open_agg3 ht hone hC hv h
  rw [h0] at hy0
  rw [h1] at hy1
  rw [h2] at hy2
  obtain ⟨a, e0, _, _⟩ := DataW.trod_int hti hy0
  obtain ⟨b, e1, _, _⟩ := DataW.trod_int hti hy1
  obtain ⟨c, e2, _, _⟩ := DataW.trod_int hti hy2
  simp at e0 e1 e2
  subst e0; subst e1; subst e2
  exact ⟨⟨a, b, c⟩, rfl⟩
theorem add_none (b off j : Nat) : (⟨b, off, none⟩ : Addr).add j = ⟨b, off + j, none⟩ := by unfold Addr.add; split <;> simp_all
theorem open_ll {t e q : TypeId} {r : Reach} {b0 : Nat} {v : Value} {d : DataW H} {ps : List MemPlace} (ht : P.underlying t = some (.slice e)) (he : P.underlying e = some (.slice q)) (hq : P.underlying q = some (.int .i64)) (ce : P.cellsOf e = 1) (cq : P.cellsOf q = 1)
    (hv : Value.okWide P w r b0 t v) (h : DataW.Trod enc P w 0 (fun _ => true) true t v d ps) :
    ∃ (A : Option Addr) (L : List (List Int)) (c : Nat), v = .slice A L.length c ∧ RdLL w 0 w.heap.size (.slice A L.length c) L ∧ L.length ≤ maxLen ∧ (∀ x ∈ L, x.length ≤ maxLen ∧ ∀ y ∈ x, (Lit.int .i64 y).wf = true) := by
  obtain ⟨a0, len, cap, rfl⟩ := okWide_slice ht hv
  obtain ⟨fuel, hf⟩ := h
  rcases open_int_rows ht he hq ce cq hf with ⟨hcs, _⟩ | ⟨a, len', cap', A, L, C, Z, hcs, _, hl, hm, _, hrow⟩
  · simp only [Value.cells] at hcs
    simp at hcs
    obtain ⟨rfl, rfl, rfl⟩ := hcs
    exact ⟨none, [], 0, rfl, RdLL.nil _ _ _, by simp, by simp⟩
  · simp [Value.cells] at hcs
    obtain ⟨rfl, rfl, rfl⟩ := hcs
    refine ⟨some a, (List.range len).map fun r => (Z r).take (L r), cap, by simp, ⟨some a, cap, (List.range len).map fun r => .slice (A r) (L r) (C r), rfl, by simpa using hl, fun hpos => ?_, fun _ _ _ => Nat.zero_le _, by simp, fun i hi => ?_⟩, by simp; omega, fun x hx => ?_⟩
    · simp at hpos
      obtain ⟨b, off, spot⟩ := a
      have h0 := (hrow 0 (by omega)).1
      have hspot : spot = none := by simpa [Addr.add] using World.cell?_spot h0
      subst hspot
      rw [add_none] at h0
      refine ⟨b, off, rfl, World.block_lt_of_cell? w _ h0, fun j hj => ?_⟩
      simp at hj
      rw [← add_none, (hrow j (by omega)).1]
      simp
    · simp at hi
      obtain ⟨_, h2, h3, h4, _, h6, h7⟩ := hrow i (by omega)
      have hll : ((Z i).take (L i)).length = L i := by rw [List.length_take]; omega
      simp only [List.getElem_map, List.getElem_range]
      refine ⟨A i, C i, by simp [hi]; omega, by omega, fun hp => ?_, fun _ _ _ => Nat.zero_le _⟩
      rw [nC_len, hll] at hp
      cases ha : A i with
      | none => have := h6 ha; omega
      | some a' =>
        obtain ⟨b, off, spot⟩ := a'
        have hcell := (h7 _ ha).2
        have h0 := hcell 0 (by omega)
        have hspot : spot = none := by simpa [Addr.add] using World.cell?_spot h0
        subst hspot
        rw [add_none] at h0
        refine ⟨b, off, rfl, World.block_lt_of_cell? w _ h0, fun j hj => ?_⟩
        rw [nC_len, hll] at hj
        rw [← add_none, hcell j (by omega)]
        simp only [nC, List.getElem_map, List.getElem_take]
        rw [List.getD_eq_getElem?_getD, List.getElem?_eq_getElem (by omega)]; rfl
    · simp only [List.mem_map, List.mem_range] at hx
      obtain ⟨i, hi, rfl⟩ := hx
      obtain ⟨_, h2, h3, h4, h5, _⟩ := hrow i (by omega)
      exact ⟨by rw [List.length_take]; omega, fun y hy => h5 y (List.mem_of_mem_take hy)⟩
end
end Go.Proofs.YtcempbgbdlmjfaaDoor
