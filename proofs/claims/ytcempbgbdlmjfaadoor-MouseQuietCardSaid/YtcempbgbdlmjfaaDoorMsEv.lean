/-
  mouse: how an argument that is an event is opened.
-/
import Derived.Test.YtcempbgbdlmjfaaDoorRowB
import Derived.Test.YtcempbgbdlmjfaaDoorMsB
import Derived.Lib.SmallJoins
namespace Go.Proofs.YtcempbgbdlmjfaaDoor
open Go.ChangeShapes Go.WideShapes Go.ChangeAt Go.RowKit Go.Deep Go.Joins

theorem array5 {α : Type} {cs : Array α} (h : cs.size = 5) : ∃ c0 c1 c2 c3 c4, cs = #[c0, c1, c2, c3, c4] := by
  obtain ⟨l⟩ := cs
  simp at h
  match l, h with
  | [c0, c1, c2, c3, c4], _ => exact ⟨c0, c1, c2, c3, c4, rfl⟩
theorem i64_wf {x : Int} (h : (Lit.int .i64 x).wf = true) : Wf x := by
  have h' : decide (IntKind.i64.min ≤ x) = true ∧ decide (x ≤ IntKind.i64.max) = true := by simpa only [Lit.wf, Bool.and_eq_true] using h
  exact ⟨of_decide_eq_true h'.1, of_decide_eq_true h'.2⟩
section
variable {H : Type} {enc : TypeId × Value → H} {P : Program} {w : World}
theorem open_event {t ti : TypeId} {f0 f1 f2 f3 f4 : Field} {r : Reach} {b0 : Nat} {v : Value} {d : DataW H} {ps : List MemPlace} (ht : P.underlying t = some (.struct #[f0, f1, f2, f3, f4])) (hC : P.cellsOf t = 5)
    (x0 : (f0.type, f0.offset) = (ti, 0)) (x1 : (f1.type, f1.offset) = (ti, 1)) (x2 : (f2.type, f2.offset) = (ti, 2)) (x3 : (f3.type, f3.offset) = (ti, 3)) (x4 : (f4.type, f4.offset) = (ti, 4))
    (hti : P.underlying ti = some (.int .i64)) (ci : P.cellsOf ti = 1) (hv : Value.okWide P w r b0 t v) (h : DataW.Trod enc P w 0 (fun _ => true) true t v d ps) :
    ∃ k b m x y : Int, v = .agg #[.int .i64 k, .int .i64 b, .int .i64 m, .int .i64 x, .int .i64 y] ∧ Wf k ∧ Wf b ∧ Wf m ∧ Wf x ∧ Wf y := by
  obtain ⟨a0, a0'⟩ := Prod.mk.inj x0; obtain ⟨a1, a1'⟩ := Prod.mk.inj x1; obtain ⟨a2, a2'⟩ := Prod.mk.inj x2; obtain ⟨a3, a3'⟩ := Prod.mk.inj x3; obtain ⟨a4, a4'⟩ := Prod.mk.inj x4
  obtain ⟨arr, rfl, hsz⟩ := okWide_struct ht hv
  obtain ⟨c0, c1, c2, c3, c4, rfl⟩ := array5 (hsz.trans hC)
  obtain ⟨fuel, hf⟩ := h
  obtain ⟨xs, n, _, _, _, hl, hx⟩ := DataW.trod_struct ht hf
  have hxs : xs.length = 5 := hl
  have get : ∀ i, i < 5 → ∃ y, xs[i]? = some y := fun i hi => ⟨_, List.getElem?_eq_getElem (by omega)⟩
  obtain ⟨z0, k0⟩ := get 0 (by omega); obtain ⟨z1, k1⟩ := get 1 (by omega); obtain ⟨z2, k2⟩ := get 2 (by omega); obtain ⟨z3, k3⟩ := get 3 (by omega); obtain ⟨z4, k4⟩ := get 4 (by omega)
  have q0 := hx 0 f0 rfl; have q1 := hx 1 f1 rfl; have q2 := hx 2 f2 rfl; have q3 := hx 3 f3 rfl; have q4 := hx 4 f4 rfl
  rw [a0, a0', ci, k0] at q0
  rw [a1, a1', ci, k1] at q1
  rw [a2, a2', ci, k2] at q2
  rw [a3, a3', ci, k3] at q3
  rw [a4, a4', ci, k4] at q4
  simp only [Value.cells, List.drop_zero, List.drop_succ_cons, List.take_succ_cons, List.take_zero] at q0 q1 q2 q3 q4
  obtain ⟨a, e0, _, w0⟩ := DataW.trod_int hti q0
  obtain ⟨b, e1, _, w1⟩ := DataW.trod_int hti q1
  obtain ⟨c, e2, _, w2⟩ := DataW.trod_int hti q2
  obtain ⟨x, e3, _, w3⟩ := DataW.trod_int hti q3
  obtain ⟨y, e4, _, w4⟩ := DataW.trod_int hti q4
  injection e0 with e0
  injection e1 with e1
  injection e2 with e2
  injection e3 with e3
  injection e4 with e4
  subst e0; subst e1; subst e2; subst e3; subst e4
  exact ⟨a, b, c, x, y, rfl, i64_wf w0, i64_wf w1, i64_wf w2, i64_wf w3, i64_wf w4⟩
end
end Go.Proofs.YtcempbgbdlmjfaaDoor
