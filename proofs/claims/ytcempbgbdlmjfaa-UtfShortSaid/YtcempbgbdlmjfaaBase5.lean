/-
  A region that draws its order, walked operation by operation with a word of one's own at each. No program in sight.
-/
import Derived.Test.YtcempbgbdlmjfaaBase4
import Derived.Deep.RegionHeld3
namespace Go.Proofs.Ytcempbgbdlmjfaa
open Go.RowKit

section
variable {P : Program} {md : Region.Mode} {ops : Array Oper} {Q : Exit → Act → World → Prop} {S : World → Prop}
/-- an operation that yields in every world that meets S, its slot said outright -/
theorem take_dst {i : Nat} (d : Nat) {oi : Oper} {v : Value} {fuel : Nat} {listed : Array Bool} {a : Act} {w : World} (hi : ops[i]? = some oi) (hd : oi.dst = some d)
    (hs : Region.noSelect ops = true) (hf : Region.free md ops listed i = true) (hr : (Region.ready md ops listed).contains i = true)
    (hQ : ∀ c a w, Q (.panic c) (a.put (some d) v) w → Q (.panic c) a w) (hy : YieldsIf P ops S oi v a) (hS : S w)
    (h : wpAnyH P md ops Q S fuel (listed.setIfInBounds i true) (a.put (some d) v) w) : wpAnyH P md ops Q S (fuel + 1) listed a w := by
  rw [← hd] at h hQ
  exact wpAnyH_take hi hs hf hr hQ hy hS h
/-- a conversion, by its run -/
theorem wp_conv {o : Oper} {a : Act} {w : World} {K : Act → World → Prop} (t1 t2 : TypeId) (x : Operand) (d : Nat) (hop : o.op = Op.convert t1 t2 x) (hd : o.dst = some d) {sv v : Value} (hx : a.eval x = sv)
    (hrun : (convert t1 t2 sv).run P w = .ok v w) (h : K (a.put (some d) v) w) : o.wp P a w K Q := by
  unfold Oper.wp execOp
  simp only [hop, hx, Sem.run_bind, Sem.run_pure, hrun, Result.andThen_ok]
  show K (a.put o.dst v) w
  rw [hd]
  exact h
end
end Go.Proofs.Ytcempbgbdlmjfaa
