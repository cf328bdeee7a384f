/-
  parse: how an argument that is a state is opened.
-/
import Derived.Test.YtcempbgbdlmjfaaDoorPsOpen
import Derived.Test.YtcempbgbdlmjfaaDoorP6Mem
namespace Go.Proofs.YtcempbgbdlmjfaaDoor
open Go.ChangeShapes Go.WideShapes Go.ChangeAt Go.RowKit Go.Deep Go.Joins

theorem array7 {α : Type} {cs : Array α} (h : cs.size = 7) : ∃ c0 c1 c2 c3 c4 c5 c6, cs = #[c0, c1, c2, c3, c4, c5, c6] := by
  obtain ⟨l⟩ := cs
  simp at h
  match l, h with
  | [c0, c1, c2, c3, c4, c5, c6], _ => exact ⟨c0, c1, c2, c3, c4, c5, c6, rfl⟩
section
variable {H : Type} {enc : TypeId × Value → H} {P : Program} {w : World}
theorem open_state {t ti ts tb tp tu tl e q : TypeId} {f0 f1 f2 f3 f4 f5 g0 g1 : Field} {r : Reach} {b0 : Nat} {v : Value} {d : DataW H} {ps : List MemPlace} (ht : P.underlying t = some (.struct #[f0, f1, f2, f3, f4, f5])) (hC : P.cellsOf t = 7)
    (x0 : (f0.type, f0.offset) = (ti, 0)) (x1 : (f1.type, f1.offset) = (ts, 1)) (x2 : (f2.type, f2.offset) = (tb, 2)) (x3 : (f3.type, f3.offset) = (tp, 3)) (x4 : (f4.type, f4.offset) = (ts, 5)) (x5 : (f5.type, f5.offset) = (tu, 6))
    (hp : P.underlying tp = some (.struct #[g0, g1])) (y0 : (g0.type, g0.offset) = (tl, 0)) (y1 : (g1.type, g1.offset) = (tb, 1))
    (hti : P.underlying ti = some (.int .i64)) (hts : P.underlying ts = some .string) (htb : P.underlying tb = some .bool) (htu : P.underlying tu = some (.int .u8)) (htl : P.underlying tl = some (.slice e)) (he : P.underlying e = some (.slice q)) (hq : P.underlying q = some (.int .i64))
    (ci : P.cellsOf ti = 1) (cs : P.cellsOf ts = 1) (cb : P.cellsOf tb = 1) (cp : P.cellsOf tp = 2) (cu : P.cellsOf tu = 1) (cl : P.cellsOf tl = 1) (ce : P.cellsOf e = 1) (cq : P.cellsOf q = 1)
    (hv : Value.okWide P w r b0 t v) (h : DataW.Trod enc P w 0 (fun _ => true) true t v d ps) :
    ∃ s : Sv, v = s.val ∧ s.Ok w ∧ s.ib.size ≤ maxLen ∧ s.tb.size ≤ maxLen := by
  obtain ⟨a0, a0'⟩ := Prod.mk.inj x0; obtain ⟨a1, a1'⟩ := Prod.mk.inj x1; obtain ⟨a2, a2'⟩ := Prod.mk.inj x2; obtain ⟨a3, a3'⟩ := Prod.mk.inj x3; obtain ⟨a4, a4'⟩ := Prod.mk.inj x4; obtain ⟨a5, a5'⟩ := Prod.mk.inj x5
  obtain ⟨b0, b0'⟩ := Prod.mk.inj y0; obtain ⟨b1, b1'⟩ := Prod.mk.inj y1
  obtain ⟨arr, rfl, hsz⟩ := okWide_struct ht hv
  obtain ⟨c0, c1, c2, c3, c4, c5, c6, rfl⟩ := array7 (hsz.trans hC)
  obtain ⟨fuel, hf⟩ := h
  obtain ⟨xs, n, _, _, _, hl, hx⟩ := DataW.trod_struct ht hf
  have hxs : xs.length = 6 := hl
  have get : ∀ i, i < 6 → ∃ y, xs[i]? = some y := fun i hi => ⟨_, List.getElem?_eq_getElem (by omega)⟩
  obtain ⟨z0, k0⟩ := get 0 (by omega); obtain ⟨z1, k1⟩ := get 1 (by omega); obtain ⟨z2, k2⟩ := get 2 (by omega); obtain ⟨z3, k3⟩ := get 3 (by omega); obtain ⟨z4, k4⟩ := get 4 (by omega); obtain ⟨z5, k5⟩ := get 5 (by omega)
  have q0 := hx 0 f0 rfl; have q1 := hx 1 f1 rfl; have q2 := hx 2 f2 rfl; have q3 := hx 3 f3 rfl; have q4 := hx 4 f4 rfl; have q5 := hx 5 f5 rfl
  rw [a0, a0', ci, k0] at q0
  rw [a1, a1', cs, k1] at q1
  rw [a2, a2', cb, k2] at q2
  rw [a3, a3', cp, k3] at q3
  rw [a4, a4', cs, k4] at q4
  rw [a5, a5', cu, k5] at q5
  simp only [Value.cells, List.drop_zero, List.drop_succ_cons, List.take_succ_cons, List.take_zero] at q0 q1 q2 q3 q4 q5
  obtain ⟨a, e0, _, _⟩ := DataW.trod_int hti q0
  obtain ⟨ib, e1, _, l1⟩ := DataW.trod_string hts q1
  obtain ⟨ov, e2, _⟩ := DataW.trod_bool htb q2
  obtain ⟨tx, e4, _, l4⟩ := DataW.trod_string hts q4
  obtain ⟨kd, e5, _, wf5⟩ := DataW.trod_int htu q5
  obtain ⟨xs', n', _, _, _, hl', hx'⟩ := DataW.trod_struct hp q3
  have hxs' : xs'.length = 2 := hl'
  obtain ⟨z6, k6⟩ : ∃ y, xs'[0]? = some y := ⟨_, List.getElem?_eq_getElem (by omega)⟩
  obtain ⟨z7, k7⟩ : ∃ y, xs'[1]? = some y := ⟨_, List.getElem?_eq_getElem (by omega)⟩
  have q6 := hx' 0 g0 rfl; have q7 := hx' 1 g1 rfl
  rw [b0, b0', cl, k6] at q6
  rw [b1, b1', cb, k7] at q7
  simp only [List.drop_zero, List.drop_succ_cons, List.take_succ_cons, List.take_zero] at q6 q7
  obtain ⟨o, e7, _⟩ := DataW.trod_bool htb q7
  obtain ⟨A, L, c, e6, hr, _⟩ := open_ll_cell htl he hq ce cq q6
  injection e0 with e0
  injection e1 with e1
  injection e2 with e2
  injection e4 with e4
  injection e5 with e5
  injection e7 with e7
  subst e0; subst e1; subst e2; subst e4; subst e5; subst e7; subst e6
  exact ⟨⟨⟨a, bI ib, ov, L, o, bI tx, kd⟩, ib, tx, A, c⟩, rfl, ⟨⟨rfl, rfl, u8_wf wf5⟩, hr⟩, l1, l4⟩
end
end Go.Proofs.YtcempbgbdlmjfaaDoor
