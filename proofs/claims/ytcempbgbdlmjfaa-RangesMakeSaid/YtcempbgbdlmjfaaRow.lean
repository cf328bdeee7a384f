/-
  From a walk to a given statement: what a law's row asks behind a call that answers true and leaves all that was there as it was; how a slice of rows and a slice of integers are opened.
-/
import Derived.Test.YtcempbgbdlmjfaaRows
import Derived.Test.YtcempbgbdlmjfaaBase
import Derived.ProofKit
import Derived.Deep.Slices
import Derived.Deep.Fields
import Derived.ChangeSame
import Derived.Carry
import Derived.OpenShut
import Derived.Test.YtcempbgbdlmjfaaRgA
namespace Go.Proofs.Ytcempbgbdlmjfaa
open Go.ChangeShapes Go.WideShapes Go.ChangeAt Go.RowKit Go.Deep

theorem Try.own : ownKnob Try.prog.godebug = none := by kernel_rfl
theorem Try.laidOut : laidOutB Try.prog = true := by kernel_rfl

section
variable {H : Type} {enc : TypeId × Value → H} {P : Program}
theorem trodAll_below (hl : laidOutB P = true) {W W' : World} (hb : Below W.heap.size W W') :
    ∀ (ts : List TypeId) (vs : List Value) (ds : List (DataW H)) (ps : List MemPlace), (∀ t ∈ ts, P.readableRec t = true ∧ t < P.types.size) →
      DataW.TrodAll enc P W 0 (fun _ => true) true ts vs ds ps → (∀ x ∈ ps, x.block < W.heap.size) → DataW.TrodAll enc P W' 0 (fun b => decide (b < W.heap.size)) true ts vs ds ps
  | [], vs, ds, ps, _, h, _ => by
    obtain ⟨rfl, rfl, rfl⟩ := trodAll_nil h
    exact trodAll_mk0
  | t :: ts, vs, ds, ps, ht, h, hlt => by
    obtain ⟨v, vs', d, ds', p, q, rfl, rfl, rfl, h1, h2⟩ := trodAll_cons h
    obtain ⟨r1, r2⟩ := ht t (by simp)
    exact trodAll_cons_mk (Below.trod hl r1 r2 h1 hb fun x hx => hlt x (List.mem_append.2 (.inl hx)))
      (trodAll_below hl hb ts vs' ds' q (fun t' h' => ht t' (by simp [h'])) h2 fun x hx => hlt x (List.mem_append.2 (.inr hx)))

/-- what a law's row asks behind the call -/
theorem law_post {f : Func} {s : ChangeSpec} {apart : Bool} {W W' : World} {args : Array Value} {ds gs : List (DataW H)} {before : List MemPlace} {tb : TypeId} (hl : laidOutB P = true)
    (hrd : ∀ t ∈ f.params.toList, P.readableRec t = true ∧ t < P.types.size) (hrt : f.resultTypes = #[tb]) (htb : P.underlying tb = some .bool) (hv : s.vars = [])
    (hs : s.fn H (ds ++ gs) = { results := [.lit (.bool true)], args := ds }) (hW : DataW.Whole enc P f.params.toList s.vars apart W args.toList ds gs before) (hb : Below W.heap.size W W') :
    s.post enc P f apart true false false W args (.bool true) W' := by
  have hW' := hW
  obtain ⟨p, q, hA, hV, rfl, _, _⟩ := hW
  rw [hv] at hV
  obtain ⟨rfl, rfl⟩ := trodVars_none hV
  have hlt : ∀ x ∈ p, x.block < W.heap.size := fun x hx => hW'.lt x (by simpa using hx)
  refine ⟨ds, [], p ++ [], [], p, [], hW', ?_, ?_, ?_, hb.frame _, fun h => by cases h⟩
  · rw [hs, hrt]
    exact trodAll_mk1 (shut_bool htb true)
  · rw [hs]
    exact trodAll_below hl hb _ _ _ _ hrd hA hlt
  · rw [hs, hv]
    rfl
end

section
variable {H : Type} {enc : TypeId × Value → H} {P : Program} {w : World} {base : Nat} {spare : Nat → Bool} {held : Bool}
/-- an argument that is a slice of integers -/
theorem open_intSlice {t e : TypeId} {k : IntKind} {r : Reach} {b0 : Nat} {v : Value} {d : DataW H} {ps : List MemPlace} (ht : P.underlying t = some (.slice e)) (he : P.underlying e = some (.int k)) (hC : P.cellsOf e = 1)
    (hv : Value.okWide P w r b0 t v) (h : DataW.Trod enc P w 0 (fun _ => true) true t v d ps) :
    ∃ (A : Option Addr) (zs : List Int) (c : Nat), v = .slice A zs.length c ∧ Rd w w.heap.size A (zs.map (Value.int k)) ∧ (∀ z ∈ zs, (Lit.int k z).wf = true) ∧ zs.length ≤ maxLen := by
  obtain ⟨a0, len, cap, rfl⟩ := okWide_slice ht hv
  obtain ⟨fuel, hf⟩ := h
  rcases open_ints ht he hC hf with ⟨hcs, hx⟩ | ⟨a, len', cap', zs, hcs, _, hl, hm, hz, hx, hcell, hwz⟩
  · simp only [Value.cells] at hcs
    simp at hcs
    obtain ⟨rfl, rfl, rfl⟩ := hcs
    exact ⟨none, [], 0, rfl, Rd.nil _ _ _, by simp, by simp⟩
  · simp [Value.cells] at hcs
    obtain ⟨rfl, rfl, rfl⟩ := hcs
    simp only [if_true] at hz
    refine ⟨some a, zs.take len, cap, by rw [List.length_take]; congr 1; omega, fun hpos => ?_, fun z hzm => hwz z (List.mem_of_mem_take hzm), by rw [List.length_take]; omega⟩
    rw [List.length_map, List.length_take] at hpos
    obtain ⟨b, off, spot⟩ := a
    have h0 := hcell 0 (by omega)
    have hspot : spot = none := by simpa [Addr.add] using World.cell?_spot h0
    subst hspot
    have addr : ∀ j, (⟨b, off, none⟩ : Addr).add j = ⟨b, off + j, none⟩ := fun j => by unfold Addr.add; split <;> simp_all
    rw [addr] at h0
    refine ⟨b, off, rfl, World.block_lt_of_cell? w _ h0, fun j hj => ?_⟩
    rw [List.length_map, List.length_take] at hj
    rw [← addr, hcell j (by omega), List.getElem_map, List.getElem_take, List.getD_eq_getElem?_getD, List.getElem?_eq_getElem (by omega)]; rfl

theorem open_slice_fields {t e : TypeId} {fs : Array Field} {fuel : Nat} {cs : List Value} {x : DataW H × List MemPlace} (ht : P.underlying t = some (.slice e)) (he : P.underlying e = some (.struct fs))
    (hone : oneCellFields P fs = true) (hC : P.cellsOf e = fs.size) (h : DataW.trod enc P w base spare held fuel t cs = some x) :
    (cs = [.slice none 0 0] ∧ x = (.nil, [])) ∨
    ∃ (a : Addr) (len cap m : Nat), cs = [.slice (some a) len cap] ∧ len ≤ cap ∧ cap ≤ maxLen ∧ m = (if spare a.block then cap else len) ∧
      ∀ i, i < m → ∃ (ys : List (DataW H × List MemPlace)) (n : Nat), ys.length = fs.size ∧
        ∀ (j : Nat) (f : Field), fs[j]? = some f → ∃ (v : Value) (y : DataW H × List MemPlace), w.cell? (a.add (i * fs.size + j)) = some v ∧ ys[j]? = some y ∧ DataW.trod enc P w base spare held n f.type [v] = some y := by
  rcases open_slice ht h with h0 | ⟨a, len, cap, m, n, D, Pl, hcs, hb, hl, hm, hmm, hx, hi⟩
  · exact .inl h0
  · refine .inr ⟨a, len, cap, m, hcs, hl, hm, hmm, fun i him => ?_⟩
    obtain ⟨cs', hc, ht'⟩ := hi i him
    rw [hC] at hc
    obtain ⟨ys, n', hn', hy, hlen, hyl, hf⟩ := DataW.trod_struct he ht'
    obtain ⟨_, hcl, hat⟩ := World.cells?_some hc
    refine ⟨ys, n', hyl, fun j f hj => ?_⟩
    obtain ⟨ho, hk⟩ := hone_of hone j f hj
    have hjl : j < fs.size := (Array.getElem?_eq_some_iff.1 hj).1
    have hcell := hat j hjl
    have hv : cs'[j]? = some (cs'[j]'(by omega)) := List.getElem?_eq_getElem (by omega)
    have h1 := hf j f hj
    rw [ho, hk] at h1
    have hone' : (cs'.drop j).take 1 = [cs'[j]'(by omega)] := by
      rw [List.drop_eq_getElem_cons (by omega)]
      rfl
    rw [hone'] at h1
    have hys : ys[j]? = some (ys[j]'(by omega)) := List.getElem?_eq_getElem (by omega)
    refine ⟨_, _, ?_, hys, h1.trans hys⟩
    rw [← Go.Deep.add_add, hcell, hv]

/-- an argument that is a slice of structs of three numbers -/
theorem open_rowSlice {t e ti : TypeId} {f0 f1 f2 : Field} {r : Reach} {b0 : Nat} {v : Value} {d : DataW H} {ps : List MemPlace} (ht : P.underlying t = some (.slice e)) (he : P.underlying e = some (.struct #[f0, f1, f2]))
    (hone : oneCellFields P #[f0, f1, f2] = true) (hC : P.cellsOf e = 3) (h0 : f0.type = ti) (h1 : f1.type = ti) (h2 : f2.type = ti) (hti : P.underlying ti = some (.int .i64))
    (hv : Value.okWide P w r b0 t v) (h : DataW.Trod enc P w 0 (fun _ => true) true t v d ps) :
    ∃ (A : Option Addr) (rows : List R) (c : Nat), v = .slice A rows.length c ∧ Rd w w.heap.size A (rowCells rows) ∧ rows.length ≤ maxLen := by
  obtain ⟨a0, len, cap, rfl⟩ := okWide_slice ht hv
  obtain ⟨fuel, hf⟩ := h
  rcases open_slice_fields ht he hone hC hf with ⟨hcs, hx⟩ | ⟨a, len', cap', m, hcs, hl, hm, hmm, hcell⟩
  · simp only [Value.cells] at hcs
    simp at hcs
    obtain ⟨rfl, rfl, rfl⟩ := hcs
    exact ⟨none, [], 0, rfl, Rd.nil _ _ _, by simp⟩
  · simp [Value.cells] at hcs
    obtain ⟨rfl, rfl, rfl⟩ := hcs
    simp only [if_true] at hmm
    subst hmm
    have hcell3 : ∀ i, i < len → ∃ x : R, w.cell? (a.add (i * 3)) = some (.int .i64 x.lo) ∧ w.cell? (a.add (i * 3 + 1)) = some (.int .i64 x.hi) ∧ w.cell? (a.add (i * 3 + 2)) = some (.int .i64 x.v) := by
      intro i hi
      obtain ⟨ys, n, hyl, hy⟩ := hcell i (by omega)
      have get : ∀ (j : Nat) (f : Field), (#[f0, f1, f2] : Array Field)[j]? = some f → f.type = ti → ∃ z : Int, w.cell? (a.add (i * 3 + j)) = some (.int .i64 z) := by
        intro j f hj hft
        obtain ⟨v, y, hc, _, htr⟩ := hy j f hj
        rw [hft] at htr
        obtain ⟨z, e0, _, _⟩ := DataW.trod_int hti htr
        simp at e0
        subst e0
        exact ⟨z, hc⟩
      obtain ⟨z0, g0⟩ := get 0 f0 rfl h0
      obtain ⟨z1, g1⟩ := get 1 f1 rfl h1
      obtain ⟨z2, g2⟩ := get 2 f2 rfl h2
      exact ⟨⟨z0, z1, z2⟩, g0, g1, g2⟩
    have mk : ∀ n, n ≤ len → ∃ rows : List R, rows.length = n ∧ ∀ j (_ : j < rows.length), w.cell? (a.add (j * 3)) = some (.int .i64 rows[j].lo) ∧ w.cell? (a.add (j * 3 + 1)) = some (.int .i64 rows[j].hi) ∧ w.cell? (a.add (j * 3 + 2)) = some (.int .i64 rows[j].v) := by
      intro n
      induction n with
      | zero => intro _; exact ⟨[], rfl, fun j hj => absurd hj (by simp)⟩
      | succ n ih =>
        intro hn
        obtain ⟨rows, hlen, hr⟩ := ih (by omega)
        obtain ⟨x, hx⟩ := hcell3 n (by omega)
        refine ⟨rows ++ [x], by simp [hlen], fun j hj => ?_⟩
        by_cases hjn : j < rows.length
        · rw [List.getElem_append_left hjn]; exact hr j hjn
        · have : j = n := by simp at hj; omega
          subst this
          rw [List.getElem_append_right (by omega)]
          simpa [hlen] using hx
    obtain ⟨rows, hlen, hr⟩ := mk len (Nat.le_refl _)
    refine ⟨some a, rows, _, by rw [hlen], fun hpos => ?_, by omega⟩
    rw [rowCells_len] at hpos
    obtain ⟨b, off, spot⟩ := a
    have q0 := (hr 0 (by omega)).1
    have hspot : spot = none := by simpa [Addr.add] using World.cell?_spot q0
    subst hspot
    have addr : ∀ j, (⟨b, off, none⟩ : Addr).add j = ⟨b, off + j, none⟩ := fun j => by unfold Addr.add; split <;> simp_all
    rw [addr] at q0
    refine ⟨b, off, rfl, World.block_lt_of_cell? w _ q0, fun j hj => ?_⟩
    rw [rowCells_len] at hj
    obtain ⟨g0, g1, g2⟩ := rowCells_get rows (j / 3) (by omega)
    obtain ⟨p0, p1, p2⟩ := hr (j / 3) (by omega)
    rw [addr] at p0 p1 p2
    have hg : (rowCells rows)[j]? = some (rowCells rows)[j] := List.getElem?_eq_getElem _
    have hj3 : j = j / 3 * 3 ∨ j = j / 3 * 3 + 1 ∨ j = j / 3 * 3 + 2 := by omega
    rcases hj3 with e | e | e
    · rw [← e, hg] at g0; rw [← e] at p0; rw [p0]; exact g0.symm
    · rw [← e, hg] at g1; rw [← e] at p1; rw [p1]; exact g1.symm
    · rw [← e, hg] at g2; rw [← e] at p2; rw [p2]; exact g2.symm
end
end Go.Proofs.Ytcempbgbdlmjfaa
