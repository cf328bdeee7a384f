/-
  Lists of lists of numbers in memory: those that are read, and those that the call itself made. No program in sight.
-/
import Derived.Test.YtcempbgbdlmjfaaDoorBase4
import Derived.Deep.RegionHeld
namespace Go.Proofs.YtcempbgbdlmjfaaDoor
open Go.RowKit

def nC (l : List Int) : List Value := l.map (Value.int .i64)
theorem nC_len (l : List Int) : (nC l).length = l.length := by simp [nC]
theorem nC_append (a b : List Int) : nC (a ++ b) = nC a ++ nC b := List.map_append
theorem nC_get (l : List Int) (j : Nat) (h : j < l.length) : (nC l)[j]? = some (.int .i64 l[j]) := by simp [nC, h]
theorem nC_one (l : List Int) : ∀ u ∈ nC l, u.oneCell' = true := by
  intro u hu; obtain ⟨y, _, rfl⟩ := List.mem_map.1 hu; rfl

/-- where it lies, if it is not empty, no block is lower than lo -/
def LoA (lo : Nat) (A : Option Addr) (xs : List Value) : Prop := 0 < xs.length → ∀ a : Addr, A = some a → lo ≤ a.block
theorem LoA.less {lo lo' : Nat} {A : Option Addr} {xs : List Value} (h : LoA lo A xs) (hl : lo' ≤ lo) : LoA lo' A xs := fun hx a ha => Nat.le_trans hl (h hx a ha)
theorem Rd.far {w : World} {lo B : Nat} {A : Option Addr} {xs : List Value} (h : Rd w B A xs) (hl : LoA lo A xs) {p : Addr} (hp : p.block < lo) (u : Value) : Rd (w.setCell p u) B A xs := fun hx => by
  obtain ⟨b, off, e, hb, hc⟩ := h hx
  have h2 := hl hx _ e
  refine ⟨b, off, e, hb, fun j hj => ?_⟩
  rw [World.cell?_setCell_far _ _ _ _ (show p.block ≠ (⟨b, off + j, none⟩ : Addr).block by simp at h2 ⊢; omega)]
  exact hc j hj
/-- a value that reads as a list of lists, none of whose blocks is lower than lo -/
def RdLL (w : World) (lo B : Nat) (v : Value) (L : List (List Int)) : Prop :=
  ∃ A c vs, v = .slice A L.length c ∧ L.length ≤ c ∧ Rd w B A vs ∧ LoA lo A vs ∧ vs.length = L.length ∧
    ∀ i (h : i < L.length), ∃ Ai ci, vs[i]? = some (.slice Ai L[i].length ci) ∧ L[i].length ≤ ci ∧ Rd w B Ai (nC L[i]) ∧ LoA lo Ai (nC L[i])
theorem RdLL.nil (w : World) (lo B : Nat) : RdLL w lo B (.slice none 0 0) [] := ⟨none, 0, [], rfl, Nat.le_refl _, Rd.nil _ _ _, fun h => absurd h (by simp), rfl, fun i h => absurd h (by simp)⟩
theorem RdLL.keep {w w' : World} {lo B : Nat} {v : Value} {L : List (List Int)} (h : RdLL w lo B v L) (hk : ∀ p : Addr, p.block < B → w'.cell? p = w.cell? p) : RdLL w' lo B v L := by
  obtain ⟨A, c, vs, h1, h2, h3, hl, h4, h5⟩ := h
  exact ⟨A, c, vs, h1, h2, h3.keep hk, hl, h4, fun i hi => by
    obtain ⟨Ai, ci, q1, q2, q3, q4⟩ := h5 i hi
    exact ⟨Ai, ci, q1, q2, q3.keep hk, q4⟩⟩
theorem RdLL.below {w w' : World} {lo B B' : Nat} {v : Value} {L : List (List Int)} (h : RdLL w lo B v L) (hb : Below B' w w') (hB : B ≤ B') : RdLL w' lo B v L := h.keep fun _ hp => hb.cell (by omega)
theorem RdLL.far {w : World} {lo B : Nat} {v : Value} {L : List (List Int)} (h : RdLL w lo B v L) {p : Addr} (hp : p.block < lo) (u : Value) : RdLL (w.setCell p u) lo B v L := by
  obtain ⟨A, c, vs, h1, h2, h3, hl, h4, h5⟩ := h
  exact ⟨A, c, vs, h1, h2, h3.far hl hp u, hl, h4, fun i hi => by
    obtain ⟨Ai, ci, q1, q2, q3, q4⟩ := h5 i hi
    exact ⟨Ai, ci, q1, q2, q3.far q4 hp u, q4⟩⟩
theorem RdLL.more {w : World} {lo B B' : Nat} {v : Value} {L : List (List Int)} (h : RdLL w lo B v L) (hB : B ≤ B') : RdLL w lo B' v L := by
  obtain ⟨A, c, vs, h1, h2, h3, hl, h4, h5⟩ := h
  exact ⟨A, c, vs, h1, h2, h3.more hB, hl, h4, fun i hi => by
    obtain ⟨Ai, ci, q1, q2, q3, q4⟩ := h5 i hi
    exact ⟨Ai, ci, q1, q2, q3.more hB, q4⟩⟩
theorem RdLL.less {w : World} {lo lo' B : Nat} {v : Value} {L : List (List Int)} (h : RdLL w lo B v L) (hB : lo' ≤ lo) : RdLL w lo' B v L := by
  obtain ⟨A, c, vs, h1, h2, h3, hl, h4, h5⟩ := h
  exact ⟨A, c, vs, h1, h2, h3, hl.less hB, h4, fun i hi => by
    obtain ⟨Ai, ci, q1, q2, q3, q4⟩ := h5 i hi
    exact ⟨Ai, ci, q1, q2, q3, q4.less hB⟩⟩
theorem RdLL.alloc {w : World} {lo B : Nat} {v : Value} {L : List (List Int)} (h : RdLL w lo B v L) (hB : B ≤ w.heap.size) (o : Obj) : RdLL (w.alloc o) lo B v L := h.keep fun p hp => World.cell?_alloc_lt w o p (by omega)
theorem RdLL.next {w w' : World} {lo : Nat} {v : Value} {L : List (List Int)} (h : RdLL w lo w.heap.size v L) (hb : Below w.heap.size w w') : RdLL w' lo w'.heap.size v L := (h.below hb (Nat.le_refl _)).more hb.size
theorem RdLL.nextA {w : World} {lo : Nat} {v : Value} {L : List (List Int)} (h : RdLL w lo w.heap.size v L) (o : Obj) : RdLL (w.alloc o) lo (w.alloc o).heap.size v L := (h.alloc (Nat.le_refl _) o).more (by simp)
/-- the slice of one of them: the cell of the outer row, and what it reads as -/
theorem RdLL.at {w : World} {lo B : Nat} {A : Option Addr} {c n : Nat} {L : List (List Int)} (h : RdLL w lo B (.slice A n c) L) (i : Nat) (hi : i < L.length) :
    ∃ b off Ai ci, A = some ⟨b, off, none⟩ ∧ b < B ∧ w.cell? ⟨b, off + i, none⟩ = some (.slice Ai L[i].length ci) ∧ L[i].length ≤ ci ∧ Rd w B Ai (nC L[i]) := by
  obtain ⟨A', c', vs, h1, h2, h3, _, h4, h5⟩ := h
  injection h1 with q1 q2 q3
  subst q1
  obtain ⟨b, off, rfl, hb, hc⟩ := h3 (by omega)
  obtain ⟨Ai, ci, g1, g2, g3, _⟩ := h5 i hi
  have hc' := hc i (by omega)
  rw [List.getElem?_eq_getElem (by omega)] at g1
  injection g1 with g1
  rw [g1] at hc'
  exact ⟨b, off, Ai, ci, rfl, hb, hc', g2, g3⟩
theorem rdLL_form {w : World} {lo B : Nat} {v : Value} {L : List (List Int)} (h : RdLL w lo B v L) : ∃ A c, v = .slice A L.length c ∧ L.length ≤ c := by
  obtain ⟨A, c, vs, h1, h2, _⟩ := h
  exact ⟨A, c, h1, h2⟩

/-- a list of lists that the call made: each row in a block of its own, none is the outer one's -/
structure OwnLL (w : World) (base : Nat) (e1 e0 : TypeId) (v : Value) (L : List (List Int)) (vs : List Value) : Prop where
  outer : w.ownsRow base e1 1 v L.length vs
  inner : ∀ (i : Nat) (h : i < L.length), ∃ u, vs[i]? = some u ∧ w.ownsRow base e0 1 u L[i].length (nC L[i]) ∧ Apart v u
  apart : ∀ (i j : Nat) (u u' : Value), i < j → vs[i]? = some u → vs[j]? = some u' → Apart u u'
theorem OwnLL.len {w : World} {base : Nat} {e1 e0 : TypeId} {v : Value} {L : List (List Int)} {vs : List Value} (h : OwnLL w base e1 e0 v L vs) : vs.length = L.length := by
  have := h.outer.1; omega
theorem rd_own {w : World} {base sz n : Nat} {e : TypeId} {v : Value} {xs : List Value} (h : w.ownsRow base e sz v n xs) : ∃ A c, v = .slice A n c ∧ n ≤ c ∧ Rd w w.heap.size A xs ∧ LoA base A xs := by
  obtain ⟨A, c, rfl, hc⟩ := own_slice h
  exact ⟨A, c, rfl, hc, Rd.of_own h, fun _ a ha => own_ge h a.block (by rw [ha]; rfl)⟩
theorem OwnLL.rd {w : World} {base : Nat} {e1 e0 : TypeId} {v : Value} {L : List (List Int)} {vs : List Value} (h : OwnLL w base e1 e0 v L vs) : RdLL w base w.heap.size v L := by
  obtain ⟨A, c, rfl, hc, hr, hlo⟩ := rd_own h.outer
  refine ⟨A, c, vs, rfl, hc, hr, hlo, h.len, fun i hi => ?_⟩
  obtain ⟨u, h1, h2, _⟩ := h.inner i hi
  obtain ⟨Ai, ci, rfl, hci, hri, hli⟩ := rd_own h2
  exact ⟨Ai, ci, h1, hci, hri, hli⟩
theorem OwnLL.below {w w' : World} {base : Nat} {e1 e0 : TypeId} {v : Value} {L : List (List Int)} {vs : List Value} (h : OwnLL w base e1 e0 v L vs) (hb : Below w.heap.size w w') : OwnLL w' base e1 e0 v L vs :=
  ⟨own_past h.outer hb, fun i hi => by
    obtain ⟨u, h1, h2, h3⟩ := h.inner i hi
    exact ⟨u, h1, own_past h2 hb, h3⟩, h.apart⟩
theorem OwnLL.base {w : World} {base base' : Nat} {e1 e0 : TypeId} {v : Value} {L : List (List Int)} {vs : List Value} (h : OwnLL w base e1 e0 v L vs) (hb : base' ≤ base) : OwnLL w base' e1 e0 v L vs :=
  ⟨own_base h.outer hb, fun i hi => by
    obtain ⟨u, h1, h2, h3⟩ := h.inner i hi
    exact ⟨u, h1, own_base h2 hb, h3⟩, h.apart⟩
theorem OwnLL.alloc {w : World} {base : Nat} {e1 e0 : TypeId} {v : Value} {L : List (List Int)} {vs : List Value} (h : OwnLL w base e1 e0 v L vs) (o : Obj) : OwnLL (w.alloc o) base e1 e0 v L vs :=
  h.below ((Below.refl _ _).alloc (Nat.le_refl _) o)
/-- a store elsewhere -/
theorem OwnLL.far {w : World} {base : Nat} {e1 e0 : TypeId} {v : Value} {L : List (List Int)} {vs : List Value} (h : OwnLL w base e1 e0 v L vs) {p : Addr} (hp : p.block < base) (x : Value) : OwnLL (w.setCell p x) base e1 e0 v L vs :=
  ⟨own_far h.outer hp x, fun i hi => by
    obtain ⟨u, h1, h2, h3⟩ := h.inner i hi
    exact ⟨u, h1, own_far h2 hp x, h3⟩, h.apart⟩
theorem own_setfar {w : World} {base sz n : Nat} {e : TypeId} {v : Value} {xs : List Value} {p : Addr} (h : w.ownsRow base e sz v n xs) (hp : v.ownBlock ≠ some p.block) (x : Value) : (w.setCell p x).ownsRow base e sz v n xs :=
  h.kept (row := some p.block) (grown_setCell (World.grownBy.refl _ _) (.inl rfl) x) (.inr hp)
theorem nC_set (l : List Int) (j : Nat) (x : Int) : (nC l).set j (.int .i64 x) = nC (l.set j x) := by simp [nC, List.map_set]
/-! ### a block that is known whole -/
theorem bk_lt {w : World} {g : Nat} {t : TypeId} {cs : Array Value} {fr : Nat × Nat} (h : w.heap[g]? = some (.cells cs t fr)) : g < w.heap.size := (Array.getElem?_eq_some_iff.1 h).1
theorem bk_cell {w : World} {g : Nat} {t : TypeId} {cs : Array Value} {fr : Nat × Nat} (h : w.heap[g]? = some (.cells cs t fr)) (i : Nat) (u : Value) (hi : cs[i]? = some u) : w.cell? ⟨g, i, none⟩ = some u := by
  rw [cell_of_row w g i cs t fr h, hi]
theorem bk_free {w : World} {g : Nat} {t : TypeId} {cs : Array Value} (h : w.heap[g]? = some (.cells cs t (0, 0))) (i : Nat) : w.frozen? ⟨g, i, none⟩ = false := by
  unfold World.frozen?
  rw [h]
  simp
theorem bk_set {w : World} {g : Nat} {t : TypeId} {cs : Array Value} {fr : Nat × Nat} (h : w.heap[g]? = some (.cells cs t fr)) (i : Nat) (u : Value) : (w.setCell ⟨g, i, none⟩ u).heap[g]? = some (.cells (cs.setIfInBounds i u) t fr) := by
  simp [World.setCell, Array.getElem?_modify, h]
theorem bk_far {w : World} {g : Nat} {o : Obj} (h : w.heap[g]? = some o) {p : Addr} (hp : g ≠ p.block) (u : Value) : (w.setCell p u).heap[g]? = some o := (Below.heap_setCell w p u g hp).trans h
theorem bk_alloc {w : World} {g : Nat} {o : Obj} (h : w.heap[g]? = some o) (o' : Obj) : (w.alloc o').heap[g]? = some o := (Below.heap_alloc w o' g (Array.getElem?_eq_some_iff.1 h).1).trans h
theorem bk_past {w w' : World} {g : Nat} {o : Obj} {B : Nat} (h : w.heap[g]? = some o) (hb : Below B w w') (hB : w.heap.size ≤ B) : w'.heap[g]? = some o := (hb.block g (by have := (Array.getElem?_eq_some_iff.1 h).1; omega)).trans h
theorem bk_grown {w w' : World} {g : Nat} {o : Obj} {r : Option Nat} (h : w.heap[g]? = some o) (hb : w.grownBy w' r) (hr : r ≠ some g) : w'.heap[g]? = some o := (hb.block g (Array.getElem?_eq_some_iff.1 h).1 (fun e => hr e.symm)).trans h
theorem grown_free {a b : World} {r : Option Nat} (h : a.grownBy b r) {p : Addr} (hne : r ≠ some p.block) (hlt : p.block < a.heap.size) (hf : a.frozen? p = false) : b.frozen? p = false :=
  (World.frozen?_of_block (h.block p.block hlt (fun e => hne e.symm))).trans hf
theorem grown_none {w w' : World} (h : w.grownBy w' none) (r : Option Nat) : w.grownBy w' r := ⟨h.os, h.tape, h.output, h.size, fun k hk _ => h.block k hk (by simp)⟩
theorem below_none {w w' : World} {B : Nat} (h : w.grownBy w' none) (hB : B ≤ w.heap.size) : Below B w w' := below_of_grown h hB (by simp)

theorem two_new (w : World) (o1 o2 : Obj) : ((w.alloc o1).alloc o2).heap[w.heap.size]? = some o1 ∧ ((w.alloc o1).alloc o2).heap[w.heap.size + 1]? = some o2 :=
  ⟨bk_alloc (heap_alloc_new w o1) o2, by have := heap_alloc_new (w.alloc o1) o2; simpa using this⟩

/-- all rows but one -/
structure OwnBut (w : World) (base : Nat) (e1 e0 : TypeId) (v : Value) (L : List (List Int)) (vs : List Value) (i : Nat) : Prop where
  outer : w.ownsRow base e1 1 v L.length vs
  inner : ∀ (j : Nat) (h : j < L.length), j ≠ i → ∃ u, vs[j]? = some u ∧ w.ownsRow base e0 1 u L[j].length (nC L[j]) ∧ Apart v u
  apart : ∀ (a b : Nat) (u u' : Value), a ≠ i → b ≠ i → a < b → vs[a]? = some u → vs[b]? = some u' → Apart u u'
theorem OwnLL.but {w : World} {base : Nat} {e1 e0 : TypeId} {v : Value} {L : List (List Int)} {vs : List Value} (h : OwnLL w base e1 e0 v L vs) (i : Nat) : OwnBut w base e1 e0 v L vs i :=
  ⟨h.outer, fun j hj _ => h.inner j hj, fun a b u u' _ _ hab => h.apart a b u u' hab⟩
theorem OwnBut.keep {w w' : World} {base : Nat} {e1 e0 : TypeId} {v : Value} {L : List (List Int)} {vs : List Value} {i : Nat} (h : OwnBut w base e1 e0 v L vs i) {r : Option Nat} (hg : w.grownBy w' r)
    (hv : v.ownBlock = none ∨ v.ownBlock ≠ r) (hx : ∀ (j : Nat) (u' : Value), j ≠ i → vs[j]? = some u' → u'.ownBlock = none ∨ u'.ownBlock ≠ r) : OwnBut w' base e1 e0 v L vs i :=
  ⟨h.outer.kept hg hv, fun j hj hne => by
    obtain ⟨u, h1, h2, h3⟩ := h.inner j hj hne
    exact ⟨u, h1, h2.kept hg (hx j u hne h1), h3⟩, h.apart⟩
theorem set_get {vs : List Value} {i : Nat} {u x : Value} (h : (vs.set i u)[i]? = some x) : x = u := by
  by_cases hi : i < vs.length
  · rw [List.getElem?_set_self hi] at h
    injection h with h; exact h.symm
  · rw [List.getElem?_eq_none (by rw [List.length_set]; omega)] at h; cases h
/-- a row is laid into its place (the outer cell is stored into) -/
theorem OwnBut.put {w : World} {base n g cap : Nat} {e1 e0 : TypeId} {L : List (List Int)} {vs : List Value} {i : Nat} (h : OwnBut w base e1 e0 (.slice (some ⟨g, 0, none⟩) n cap) L vs i) (u : Value) (q : List Int)
    (hu : w.ownsRow base e0 1 u q.length (nC q)) (ha : Apart (.slice (some ⟨g, 0, none⟩) n cap) u) (hx : ∀ (j : Nat) (u' : Value), j ≠ i → vs[j]? = some u' → Apart u u') :
    OwnLL (w.setCell ⟨g, i, none⟩ u) base e1 e0 (.slice (some ⟨g, 0, none⟩) n cap) (L.set i q) (vs.set i u) := by
  have hn : n = L.length := by
    obtain ⟨A, c, e, _⟩ := own_slice h.outer
    injection e
  subst hn
  have hlv : vs.length = L.length := by have := h.outer.1; omega
  have far : ∀ {v : Value} {m : Nat} {xs : List Value}, w.ownsRow base e0 1 v m xs → Apart (.slice (some ⟨g, 0, none⟩) L.length cap) v → (w.setCell ⟨g, i, none⟩ u).ownsRow base e0 1 v m xs :=
    fun hv hap => own_setfar hv (hap g rfl) u
  refine ⟨by rw [List.length_set]; exact own_set h.outer i u, fun j hj => ?_, fun a b x y hab hx' hy' => ?_⟩
  · rw [List.length_set] at hj
    by_cases e : i = j
    · subst e
      refine ⟨u, by rw [List.getElem?_set_self (by omega)], ?_, ha⟩
      rw [List.getElem_set_self]
      exact far hu ha
    · obtain ⟨u', h1, h2, h3⟩ := h.inner j hj (fun e' => e e'.symm)
      refine ⟨u', by rw [List.getElem?_set_ne e]; exact h1, ?_, h3⟩
      rw [List.getElem_set_ne e]
      exact far h2 h3
  · by_cases ea : i = a
    · subst ea
      have eb : i ≠ b := by omega
      rw [List.getElem?_set_ne eb] at hy'
      rw [set_get hx']
      exact hx b y (fun e => eb e.symm) hy'
    · rw [List.getElem?_set_ne ea] at hx'
      by_cases eb : i = b
      · subst eb
        rw [set_get hy']
        exact (hx a x (fun e => ea e.symm) hx').symm
      · rw [List.getElem?_set_ne eb] at hy'
        exact h.apart a b x y (fun e => ea e.symm) (fun e => eb e.symm) hab hx' hy'
/-- an inner row has been appended to, and is laid into its place -/
theorem OwnLL.grow_put {w w' : World} {base n g cap : Nat} {e1 e0 : TypeId} {L : List (List Int)} {vs : List Value} (h : OwnLL w base e1 e0 (.slice (some ⟨g, 0, none⟩) n cap) L vs) (i : Nat) (hi : i < L.length) (u u' : Value)
    (hu : vs[i]? = some u) (hg : w.grownBy w' u.ownBlock) (q : List Int) (hu' : w'.ownsRow base e0 1 u' q.length (nC q)) (hl : ∀ k, u'.ownBlock = some k → u.ownBlock = some k ∨ w.heap.size ≤ k) :
    OwnLL (w'.setCell ⟨g, i, none⟩ u') base e1 e0 (.slice (some ⟨g, 0, none⟩) n cap) (L.set i q) (vs.set i u') := by
  obtain ⟨u0, h1, h2, h3⟩ := h.inner i hi
  rw [hu] at h1
  injection h1 with h1
  subst h1
  have hap : ∀ (j : Nat) (x : Value), j ≠ i → vs[j]? = some x → Apart u x := fun j x hne hx => by
    rcases Nat.lt_or_gt_of_ne hne with hlt | hgt
    · exact (h.apart j i x u hlt hx hu).symm
    · exact h.apart i j u x hgt hu hx
  have hlt : ∀ (j : Nat) (x : Value), vs[j]? = some x → ∀ k, x.ownBlock = some k → k < w.heap.size := fun j x hx k hk => by
    have hj : j < L.length := by
      have := (List.getElem?_eq_some_iff.1 hx).1
      have := h.len; omega
    obtain ⟨y, y1, y2, _⟩ := h.inner j hj
    rw [hx] at y1
    injection y1 with y1
    subst y1
    exact own_lt y2 k hk
  refine (((h.but i).keep hg ?_ ?_).put u' q hu' ?_ ?_)
  · exact .inr (fun e => h3 g rfl e.symm)
  · intro j x hne hx
    cases hb : x.ownBlock with
    | none => exact .inl rfl
    | some k => exact .inr (fun e => hap j x hne hx k e.symm hb)
  · intro k hk e
    rcases hl k e with e2 | e2
    · exact h3 k hk e2
    · have := own_lt h.outer k hk; omega
  · intro j x hne hx k hk e
    rcases hl k hk with e2 | e2
    · exact hap j x hne hx k e2 e
    · have := hlt j x hx k e; omega
/-- the outer row has been appended to -/
theorem OwnLL.push {w w' : World} {base : Nat} {e1 e0 : TypeId} {v v' u : Value} {L : List (List Int)} {vs : List Value} (h : OwnLL w base e1 e0 v L vs) (q : List Int) (hu : w.ownsRow base e0 1 u q.length (nC q))
    (ha : Apart v u) (hx : ∀ (j : Nat) (x : Value), vs[j]? = some x → Apart u x) (hg : w.grownBy w' v.ownBlock) (hv : w'.ownsRow base e1 1 v' (L.length + 1) (vs ++ [u])) (hl : ∀ k, v'.ownBlock = some k → v.ownBlock = some k ∨ w.heap.size ≤ k) :
    OwnLL w' base e1 e0 v' (L ++ [q]) (vs ++ [u]) := by
  have hlen := h.len
  have kp : ∀ {x : Value} {m : Nat} {xs : List Value}, w.ownsRow base e0 1 x m xs → Apart v x → w'.ownsRow base e0 1 x m xs ∧ Apart v' x := fun {x} {m} {xs} ho hap =>
    ⟨own_apart ho hg hap, fun k hk e => by
      rcases hl k hk with e2 | e2
      · exact hap k e2 e
      · have := own_lt ho k e; omega⟩
  refine ⟨by rw [List.length_append]; exact hv, fun i hi => ?_, fun a b x y hab h1 h2 => ?_⟩
  · by_cases e : i < L.length
    · obtain ⟨x, k1, k2, k3⟩ := h.inner i e
      refine ⟨x, by rw [List.getElem?_append_left (by omega)]; exact k1, ?_⟩
      rw [List.getElem_append_left e]
      exact kp k2 k3
    · have : i = L.length := by simp at hi; omega
      subst this
      refine ⟨u, by rw [List.getElem?_append_right (by omega), hlen]; simp, ?_⟩
      rw [List.getElem_append_right (by omega)]
      simp only [Nat.sub_self, List.getElem_cons_zero]
      exact kp hu ha
  · have hb : b < (vs ++ [u]).length := (List.getElem?_eq_some_iff.1 h2).1
    have ha' : a < vs.length := by simp at hb; omega
    rw [List.getElem?_append_left ha'] at h1
    by_cases e : b < vs.length
    · rw [List.getElem?_append_left e] at h2
      exact h.apart a b x y hab h1 h2
    · have : b = vs.length := by simp at hb; omega
      subst this
      rw [List.getElem?_append_right (Nat.le_refl _)] at h2
      simp at h2
      subst h2
      exact (hx a x h1).symm
/-- a row's own cell is stored into -/
theorem OwnLL.cell {w : World} {base n g cap : Nat} {e1 e0 : TypeId} {v : Value} {L : List (List Int)} {vs : List Value} (h : OwnLL w base e1 e0 v L vs) (i : Nat) (hi : i < L.length)
    (hv : vs[i]? = some (.slice (some ⟨g, 0, none⟩) n cap)) (j : Nat) (x : Int) :
    OwnLL (w.setCell ⟨g, j, none⟩ (.int .i64 x)) base e1 e0 v (L.set i (L[i].set j x)) vs := by
  obtain ⟨u, h1, h2, h3⟩ := h.inner i hi
  rw [hv] at h1
  injection h1 with h1
  subst h1
  have hn : n = L[i].length := by
    obtain ⟨A, c, e, _⟩ := own_slice h2
    injection e
  subst hn
  refine ⟨by rw [List.length_set]; exact own_setfar h.outer (fun e => h3 g e rfl) _, fun k hk => ?_, h.apart⟩
  rw [List.length_set] at hk
  by_cases e : i = k
  · subst e
    refine ⟨_, hv, ?_, h3⟩
    rw [List.getElem_set_self, List.length_set, ← nC_set]
    exact own_set h2 j _
  · obtain ⟨u', k1, k2, k3⟩ := h.inner k hk
    refine ⟨u', k1, ?_, k3⟩
    rw [List.getElem_set_ne e]
    refine own_setfar k2 (fun e2 => ?_) _
    rcases Nat.lt_or_gt_of_ne e with hlt | hgt
    · exact h.apart i k _ _ hlt hv k1 g rfl e2
    · exact h.apart k i _ _ hgt k1 hv g e2 rfl
theorem own_form {w : World} {base n : Nat} {e : TypeId} {v : Value} {xs : List Value} (h : w.ownsRow base e 1 v n xs) (hn : 0 < n) : ∃ g cap, v = .slice (some ⟨g, 0, none⟩) n cap ∧ n ≤ cap ∧ base ≤ g ∧ g < w.heap.size := by
  rcases h.2 with ⟨_, h0⟩ | ⟨g, cap, cur, rfl, hb, hh, hc, _⟩
  · omega
  · exact ⟨g, cap, rfl, hc, hb, (Array.getElem?_eq_some_iff.1 hh).1⟩
/-- the last row of one that is not empty, and its last number -/
theorem OwnLL.last {w : World} {base : Nat} {e1 e0 : TypeId} {v : Value} {M : List (List Int)} {q : List Int} {x : Int} {vs : List Value} (h : OwnLL w base e1 e0 v (M ++ [q ++ [x]]) vs) :
    ∃ g cap gi ci, v = .slice (some ⟨g, 0, none⟩) (M.length + 1) cap ∧ M.length + 1 ≤ cap ∧ base ≤ g ∧ g < w.heap.size ∧ vs[M.length]? = some (.slice (some ⟨gi, 0, none⟩) (q.length + 1) ci) ∧ q.length + 1 ≤ ci ∧ base ≤ gi ∧ gi < w.heap.size ∧ gi ≠ g ∧
      w.cell? ⟨g, M.length, none⟩ = some (.slice (some ⟨gi, 0, none⟩) (q.length + 1) ci) ∧ w.frozen? ⟨g, M.length, none⟩ = false ∧ w.cell? ⟨gi, q.length, none⟩ = some (.int .i64 x) ∧ w.frozen? ⟨gi, q.length, none⟩ = false := by
  have hl : (M ++ [q ++ [x]]).length = M.length + 1 := by simp
  have ho := h.outer
  rw [hl] at ho
  obtain ⟨g, cap, rfl, hcap, hb, hlt⟩ := own_form ho (by omega)
  obtain ⟨u, h1, h2, h3⟩ := h.inner M.length (by omega)
  have e : (M ++ [q ++ [x]])[M.length]'(by omega) = q ++ [x] := by simp
  rw [e] at h2
  have hl2 : (q ++ [x]).length = q.length + 1 := by simp
  rw [hl2] at h2
  obtain ⟨gi, ci, rfl, hci, hbi, hlti⟩ := own_form h2 (by omega)
  refine ⟨g, cap, gi, ci, rfl, hcap, hb, hlt, h1, hci, hbi, hlti, fun e => h3 g rfl (by rw [← e]; rfl), own_at ho _ _ h1, own_free ho _, own_at h2 _ _ ?_, own_free h2 _⟩
  rw [nC_get _ _ (by omega)]
  simp
theorem set_last {M : List (List Int)} {q : List Int} {x y : Int} : (M ++ [q ++ [x]]).set M.length (((M ++ [q ++ [x]])[M.length]'(by simp)).set q.length y) = M ++ [q ++ [y]] := by
  simp
theorem split_last {α : Type} (l : List α) (h : l ≠ []) : ∃ M q, l = M ++ [q] := ⟨l.dropLast, l.getLast h, (List.dropLast_concat_getLast h).symm⟩
end Go.Proofs.YtcempbgbdlmjfaaDoor
