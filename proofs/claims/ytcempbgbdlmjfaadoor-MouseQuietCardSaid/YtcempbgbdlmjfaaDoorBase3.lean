/-
  A region that draws its order, whose operations read old memory alone and whose callees leave old memory as it was: one walk, in the order of the text. No program in sight.
-/
import Derived.Test.YtcempbgbdlmjfaaDoorBase2
import Derived.BigQuiet
import Derived.Deep.QuietTactic
import Derived.KernelRfl
import Derived.Laws.BitsAllLaws
import Derived.Laws.BitsLemmas
import Derived.IntWalk
namespace Go.Proofs.YtcempbgbdlmjfaaDoor
open Go.RowKit

/-- k & (2^n - 1), the low digits of two -/
theorem and_low (k : Int) (n : Nat) (hn : n ≤ 62) (y : Int) (hy : y = ((2 ^ n - 1 : Nat) : Int)) : bits .and .i64 k y = (((BitVec.ofInt 64 k).toNat % 2 ^ n : Nat) : Int) := by
  subst hy
  show IntKind.i64.wrap ((BitVec.ofInt 64 k &&& BitVec.ofInt 64 ((2 ^ n - 1 : Nat) : Int)).toNat : Int) = _
  have h2 : 2 ^ n ≤ 2 ^ 62 := Nat.pow_le_pow_right (by omega) hn
  have hp : 0 < 2 ^ n := Nat.two_pow_pos n
  rw [BitVec.toNat_and, BitVec.ofInt_natCast, BitVec.toNat_ofNat, Nat.mod_eq_of_lt (a := 2 ^ n - 1) (by omega), Nat.and_two_pow_sub_one_eq_mod]
  have : (BitVec.ofInt 64 k).toNat % 2 ^ n < 2 ^ n := Nat.mod_lt _ hp
  exact IntWalk.i64_in _ (by omega)
theorem and_16 (k : Int) : ∃ m : Nat, bits .and .i64 k 65535 = (m : Int) ∧ m < 65536 :=
  ⟨_, and_low k 16 (by omega) 65535 (by decide), by have := Nat.mod_lt (BitVec.ofInt 64 k).toNat (show 0 < 2 ^ 16 by decide); omega⟩

theorem Rd.next {w w' : World} {A : Option Addr} {xs : List Value} (h : Rd w w.heap.size A xs) (hb : Below w.heap.size w w') : Rd w' w'.heap.size A xs := (h.below hb (Nat.le_refl _)).more hb.size
theorem Rd.nextA {w : World} {A : Option Addr} {xs : List Value} (h : Rd w w.heap.size A xs) (o : Obj) : Rd (w.alloc o) (w.alloc o).heap.size A xs := (h.alloc (Nat.le_refl _) o).more (by simp)

theorem bcell {W w1 : World} (hb : Below W.heap.size W w1) : (∀ b o, b < W.heap.size → w1.cell? ⟨b, o, none⟩ = W.cell? ⟨b, o, none⟩) ∧ (∀ b o, b < W.heap.size → w1.frozen? ⟨b, o, none⟩ = W.frozen? ⟨b, o, none⟩) :=
  ⟨fun b o h => hb.cell (p := ⟨b, o, none⟩) h, fun b o h => hb.frozen (p := ⟨b, o, none⟩) h⟩

/-- a world in which all that W has is as it was -/
structure After (W : World) where
  get : World
  below : Below W.heap.size W get
instance (W : World) : Nonempty (After W) := ⟨⟨W, Below.refl _ _⟩⟩
theorem After.cell {W : World} (u : After W) {p : Addr} {v : Value} (h : W.cell? p = some v) : u.get.cell? p = some v := past u.below h
theorem After.blk {W : World} (u : After W) {g : Nat} {o : Obj} (h : W.heap[g]? = some o) : u.get.heap[g]? = some o :=
  (u.below.block g (Array.getElem?_eq_some_iff.1 h).1).trans h
theorem After.size {W : World} (u : After W) : W.heap.size ≤ u.get.heap.size := u.below.size
theorem After.rd {W : World} (u : After W) {B : Nat} {A : Option Addr} {xs : List Value} (h : Rd W B A xs) (hB : B ≤ W.heap.size) : Rd u.get B A xs := h.below u.below hB
theorem Calls.after_of {P : Program} {f : FuncId} {args : Array Value} {W : World} {u : After W} {v : Value}
    (h : Calls P f args u.get fun e w' => e = .returned v ∧ Below u.get.heap.size u.get w') : Calls P f args u.get fun e w'' => e = .returned v ∧ ∃ u' : After W, w'' = u'.get :=
  h.mono fun _ w' ⟨he, hb⟩ => ⟨he, ⟨w', bt u.below hb u.below.size⟩, rfl⟩
/-- .. of a callee that answers a Bool that is known by now -/
theorem Calls.after_bool {P : Program} {f : FuncId} {args : Array Value} {W : World} {u : After W} {b c : Bool} (hc : b = c)
    (h : Calls P f args u.get fun e w' => e = .returned (.bool b) ∧ Below u.get.heap.size u.get w') : Calls P f args u.get fun e w'' => e = .returned (.bool c) ∧ ∃ u' : After W, w'' = u'.get :=
  Calls.after_of (by rw [← hc]; exact h)
theorem Calls.after_int {P : Program} {f : FuncId} {args : Array Value} {W : World} {u : After W} {k : IntKind} {b c : Int} (hc : b = c)
    (h : Calls P f args u.get fun e w' => e = .returned (.int k b) ∧ Below u.get.heap.size u.get w') : Calls P f args u.get fun e w'' => e = .returned (.int k c) ∧ ∃ u' : After W, w'' = u'.get :=
  Calls.after_of (by rw [← hc]; exact h)
theorem wp_region_after {P : Program} {id : Nat} {Q : Exit → Act → World → Prop} {a : Act} {W : World} {l : List Oper} (hm : P.follows .mixedOrders = true) (hB : Region.lexB .any l.toArray = true)
    (h : wpQuiet P l.toArray (fun w' => ∃ u : After W, w' = u.get) (fun a' => ∀ w', (∃ u : After W, w' = u.get) → Q .normal a' w') l a) : (Code.region id l.toArray true).wp P Q a W :=
  wp_region_quiet (C := fun w' => ∃ u : After W, w' = u.get) hm hB ⟨⟨W.drew, (Below.refl _ _).drew⟩, rfl⟩ (by simpa using h)
end Go.Proofs.YtcempbgbdlmjfaaDoor
