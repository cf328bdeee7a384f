/-
  Slices that are cut, rows that grow: more small lemmas. No program in sight.
-/
import Derived.Test.YtcempbgbdlmjfaaDoorBase3
namespace Go.Proofs.YtcempbgbdlmjfaaDoor
open Go.RowKit

theorem Rd.grown {w w' : World} {B : Nat} {A : Option Addr} {xs : List Value} {r : Option Nat} (h : Rd w B A xs) (hg : w.grownBy w' r) (hB : B ≤ w.heap.size) (hr : ∀ g, r = some g → B ≤ g) : Rd w' B A xs :=
  h.below (below_of_grown hg hB hr) (Nat.le_refl _)
theorem own_far {w : World} {base sz n : Nat} {e : TypeId} {v : Value} {xs : List Value} {p : Addr} (h : w.ownsRow base e sz v n xs) (hp : p.block < base) (u : Value) : (w.setCell p u).ownsRow base e sz v n xs :=
  h.kept (row := some p.block) (grown_setCell (World.grownBy.refl _ _) (.inl rfl) u) (by
    rcases h.2 with ⟨rfl, _⟩ | ⟨g, cap, cur, rfl, hb, _⟩
    · exact .inl rfl
    · refine .inr ?_
      simp only [Value.ownBlock, ne_eq, Option.some.injEq]
      omega)
theorem Rd.take {w : World} {B : Nat} {A : Option Addr} {xs : List Value} (h : Rd w B A xs) (k : Nat) : Rd w B A (xs.take k) := fun hl => by
  obtain ⟨b, off, e, hb, hc⟩ := h (by simp at hl; omega)
  exact ⟨b, off, e, hb, fun j hj => by rw [hc j (by simp at hj; omega), List.getElem_take]⟩
theorem Rd.drop {w : World} {B b off : Nat} {xs : List Value} (h : Rd w B (some ⟨b, off, none⟩) xs) (k : Nat) : Rd w B (some ⟨b, off + k, none⟩) (xs.drop k) := fun hl => by
  simp at hl
  obtain ⟨b', off', e, hb, hc⟩ := h (by omega)
  injection e with e
  injection e with e1 e2
  subst e1; subst e2
  exact ⟨b, off + k, rfl, hb, fun j hj => by rw [Nat.add_assoc, hc (k + j) (by simp at hj; omega), List.getElem_drop]⟩
theorem rd_cut {w : World} {B b off : Nat} {xs : List Value} (h : Rd w B (some ⟨b, off, none⟩) xs) (N cp : Nat) (hl : xs.length ≤ cp) : Rd w B (if cp = N then some ⟨b, off, none⟩ else some ⟨b, off + N, none⟩) (xs.drop N) := by
  by_cases e : cp = N
  · rw [List.drop_eq_nil_of_le (by omega)]; exact Rd.nil _ _ _
  · rw [if_neg e]; exact h.drop N
theorem own_ge {w : World} {base sz n : Nat} {e : TypeId} {v : Value} {xs : List Value} (h : w.ownsRow base e sz v n xs) : ∀ g, v.ownBlock = some g → base ≤ g := by
  intro g hg
  rcases h.2 with ⟨rfl, _⟩ | ⟨g', cap, cur, rfl, hb, _⟩
  · simp [Value.ownBlock] at hg
  · simp only [Value.ownBlock, Option.some.injEq] at hg; omega
theorem rd_of_block {w : World} {g : Nat} {t : TypeId} {cs : List Value} {fr : Nat × Nat} (h : w.heap[g]? = some (.cells cs.toArray t fr)) {B : Nat} (hB : g < B) : Rd w B (some ⟨g, 0, none⟩) cs := fun _ =>
  ⟨g, 0, rfl, hB, fun j hj => by
    rw [Nat.zero_add, cell_of_row w g j cs.toArray t fr h]
    simp [hj]⟩
theorem own_lt {w : World} {base sz n : Nat} {e : TypeId} {v : Value} {xs : List Value} (h : w.ownsRow base e sz v n xs) : ∀ g, v.ownBlock = some g → g < w.heap.size := by
  intro g hg
  rcases h.2 with ⟨rfl, _⟩ | ⟨g', cap, cur, rfl, hb, hh, _⟩
  · simp [Value.ownBlock] at hg
  · simp only [Value.ownBlock, Option.some.injEq] at hg
    subst hg
    exact (Array.getElem?_eq_some_iff.1 hh).1
/-- two rows that do not share a block -/
def Apart (v v' : Value) : Prop := ∀ g, v.ownBlock = some g → v'.ownBlock ≠ some g
theorem Apart.symm {v v' : Value} (h : Apart v v') : Apart v' v := fun g h1 h2 => h g h2 h1
theorem apart_nil (v : Value) (c n : Nat) : Apart v (.slice none n c) := fun g _ h => by simp [Value.ownBlock] at h
/-- the row that is appended to stays apart from another one -/
theorem Apart.grow {w : World} {base sz n : Nat} {e : TypeId} {v v1 v' : Value} {xs : List Value} (h : Apart v v') (hown : w.ownsRow base e sz v' n xs) {H : Nat} (hH : w.heap.size ≤ H)
    (hl : ∀ g, v1.ownBlock = some g → v.ownBlock = some g ∨ H ≤ g) : Apart v1 v' := fun g h1 h2 => by
  rcases hl g h1 with h3 | h3
  · exact h g h3 h2
  · have := own_lt hown g h2; omega
/-- a row stays as it was behind an append to another one -/
theorem own_apart {w w' : World} {base sz n : Nat} {e : TypeId} {v v' : Value} {xs : List Value} (hown : w.ownsRow base e sz v' n xs) (hg : w.grownBy w' v.ownBlock) (ha : Apart v v') : w'.ownsRow base e sz v' n xs :=
  hown.kept hg (by
    cases hv : v'.ownBlock with
    | none => exact .inl rfl
    | some g => exact .inr (fun e => ha g e.symm hv))
theorem own_at {w : World} {base sz n g cap : Nat} {e : TypeId} {xs : List Value} (h : w.ownsRow base e sz (.slice (some ⟨g, 0, none⟩) n cap) n xs) (j : Nat) (u : Value) (hj : xs[j]? = some u) : w.cell? ⟨g, j, none⟩ = some u := by
  have hc := h.cells (g := g) rfl j u hj
  have addr : (⟨g, 0, none⟩ : Addr).add j = ⟨g, j, none⟩ := by unfold Addr.add; split <;> simp_all
  rw [addr] at hc
  exact hc
end Go.Proofs.YtcempbgbdlmjfaaDoor
