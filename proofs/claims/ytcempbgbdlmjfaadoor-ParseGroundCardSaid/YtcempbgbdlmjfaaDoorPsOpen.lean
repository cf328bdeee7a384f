/-
  How an argument that is a struct of a slice of slices of numbers and a bool is opened.
-/
import Derived.Test.YtcempbgbdlmjfaaDoorRowB
import Derived.Test.YtcempbgbdlmjfaaDoorPeOpen
namespace Go.Proofs.YtcempbgbdlmjfaaDoor
open Go.ChangeShapes Go.WideShapes Go.ChangeAt Go.RowKit Go.Deep Go.Joins

section
variable {H : Type} {enc : TypeId × Value → H} {P : Program} {w : World}
theorem open_ll_cell {t e q : TypeId} {n : Nat} {v : Value} {y : DataW H × List MemPlace} (ht : P.underlying t = some (.slice e)) (he : P.underlying e = some (.slice q)) (hq : P.underlying q = some (.int .i64)) (ce : P.cellsOf e = 1) (cq : P.cellsOf q = 1)
    (hf : DataW.trod enc P w 0 (fun _ => true) true n t [v] = some y) :
    ∃ (A : Option Addr) (L : List (List Int)) (c : Nat), v = .slice A L.length c ∧ RdLL w 0 w.heap.size (.slice A L.length c) L ∧ L.length ≤ maxLen := by
  have hform : ∃ a0 len cap, v = .slice a0 len cap := by
    rcases open_int_rows ht he hq ce cq hf with ⟨hcs, _⟩ | ⟨a, len, cap, A, L, C, Z, hcs, _⟩
    · simp at hcs; exact ⟨_, _, _, hcs⟩
    · simp at hcs; exact ⟨_, _, _, hcs⟩
  obtain ⟨a0, len, cap, rfl⟩ := hform
  rcases open_int_rows ht he hq ce cq hf with ⟨hcs, _⟩ | ⟨a, len', cap', A, L, C, Z, hcs, _, hl, hm, _, hrow⟩
  · simp at hcs
    obtain ⟨rfl, rfl, rfl⟩ := hcs
    exact ⟨none, [], 0, rfl, RdLL.nil _ _ _, by simp⟩
  · simp at hcs
    obtain ⟨rfl, rfl, rfl⟩ := hcs
    refine ⟨some a, (List.range len).map fun r => (Z r).take (L r), cap, by simp, ⟨some a, cap, (List.range len).map fun r => .slice (A r) (L r) (C r), rfl, by simpa using hl, fun hpos => ?_, fun _ _ _ => Nat.zero_le _, by simp, fun i hi => ?_⟩, by simp; omega⟩
    · simp at hpos
      obtain ⟨b, off, spot⟩ := a
      have h0 := (hrow 0 (by omega)).1
      have hspot : spot = none := by simpa [Addr.add] using World.cell?_spot h0
      subst hspot
      rw [add_none] at h0
      refine ⟨b, off, rfl, World.block_lt_of_cell? w _ h0, fun j hj => ?_⟩
      simp at hj
      rw [← add_none, (hrow j (by omega)).1]
      simp
    · simp at hi
      obtain ⟨_, h2, h3, h4, _, h6, h7⟩ := hrow i (by omega)
      have hll : ((Z i).take (L i)).length = L i := by rw [List.length_take]; omega
      simp only [List.getElem_map, List.getElem_range]
      refine ⟨A i, C i, by simp [hi]; omega, by omega, fun hp => ?_, fun _ _ _ => Nat.zero_le _⟩
      rw [nC_len, hll] at hp
      cases ha : A i with
      | none => have := h6 ha; omega
      | some a' =>
        obtain ⟨b, off, spot⟩ := a'
        have hcell := (h7 _ ha).2
        have h0 := hcell 0 (by omega)
        have hspot : spot = none := by simpa [Addr.add] using World.cell?_spot h0
        subst hspot
        rw [add_none] at h0
        refine ⟨b, off, rfl, World.block_lt_of_cell? w _ h0, fun j hj => ?_⟩
        rw [nC_len, hll] at hj
        rw [← add_none, hcell j (by omega)]
        simp only [nC, List.getElem_map, List.getElem_take]
        rw [List.getD_eq_getElem?_getD, List.getElem?_eq_getElem (by omega)]; rfl
theorem open_plist {t tl tb e q : TypeId} {f0 f1 : Field} {r : Reach} {b0 : Nat} {v : Value} {d : DataW H} {ps : List MemPlace} (ht : P.underlying t = some (.struct #[f0, f1]))
    (hone : oneCellFields P #[f0, f1] = true) (hC : P.cellsOf t = 2) (h0 : f0.type = tl) (h1 : f1.type = tb) (htl : P.underlying tl = some (.slice e)) (he : P.underlying e = some (.slice q)) (hq : P.underlying q = some (.int .i64)) (ce : P.cellsOf e = 1) (cq : P.cellsOf q = 1) (htb : P.underlying tb = some .bool)
    (hv : Value.okWide P w r b0 t v) (h : DataW.Trod enc P w 0 (fun _ => true) true t v d ps) :
    ∃ (A : Option Addr) (L : List (List Int)) (c : Nat) (o : Bool), v = .agg #[.slice A L.length c, .bool o] ∧ RdLL w 0 w.heap.size (.slice A L.length c) L := by
  obtain ⟨c0, c1, y0, y1, m, rfl, rfl, rfl, hy0, hy1⟩ := open_agg2 ht hone hC hv h
  rw [h0] at hy0
  rw [h1] at hy1
  obtain ⟨o, e1, _⟩ := DataW.trod_bool htb hy1
  obtain ⟨A, L, c, rfl, hr, _⟩ := open_ll_cell htl he hq ce cq hy0
  simp at e1
  subst e1
  exact ⟨A, L, c, o, rfl, hr⟩
end
theorem u8_wf {x : Int} (h : (Lit.int .u8 x).wf = true) : 0 ≤ x ∧ x < 256 := bytes_wf (b := [x]) (by simpa using h) x (by simp)
end Go.Proofs.YtcempbgbdlmjfaaDoor
