/-
  From the condition of a row on the pen's tables to the walks' word on them; the heap that the program's own initialisers leave meets the condition.
-/
import Derived.Test.YtcempbgbdlmjfaaDoorRowB
import Derived.Test.YtcempbgbdlmjfaaDoorPeE
import Derived.LaidMore
import Derived.Stop.Joined
namespace Go.Proofs.YtcempbgbdlmjfaaDoor
open Go.ChangeShapes Go.WideShapes Go.ChangeAt Go.RowKit

theorem gSw : Tryd.prog.globalNamed "lapwing/pen.switched" = some 2 := by kernel_rfl
theorem gUn : Tryd.prog.globalNamed "lapwing/pen.unswitched" = some 3 := by kernel_rfl
theorem gCo : Tryd.prog.globalNamed "lapwing/pen.codes" = some 1 := by kernel_rfl
theorem tSw : (Tryd.prog.globals[2]?).map (·.type) = some 139 := by kernel_rfl
theorem tUn : (Tryd.prog.globals[3]?).map (·.type) = some 140 := by kernel_rfl
theorem tCo : (Tryd.prog.globals[1]?).map (·.type) = some 107 := by kernel_rfl
theorem door_pen (os : Os) (args : Array Value) : laidMetH Tryd.prog [("lapwing/pen.switched", Rows.laid_lapwing_pen_switched), ("lapwing/pen.unswitched", Rows.laid_lapwing_pen_unswitched), ("lapwing/pen.codes", Rows.laid_lapwing_pen_codes)] ((World.doorLaid Tryd.prog 68 os).forCall (fun _ _ => 0) ⟨#[], args, []⟩).memory :=
  laidMetH_of_parts3 (fuel := 8) (laidMet_of_run' 8 (by kernel_rfl) (by kernel_rfl)) (by kernel_rfl) (by kernel_rfl)
theorem arr_int {P : Program} {W : World} {T e : TypeId} {n fuel : Nat} {ints : List Int} {cs : Array Value} {p : List MemPlace} {sp : Nat → Bool} {held : Bool} (ht : P.underlying T = some (.array n e)) (he : P.underlying e = some (.int .i64)) (hce : P.cellsOf e = 1) (hcT : P.cellsOf T = n)
    (hn : ints.length = n) (hd : DataW.trod (fun _ => ()) P W 0 sp held fuel T cs.toList = some (.agg (ints.map fun x => .lit (.int .i64 x)), p)) : cs = (nC ints).toArray := by
  obtain ⟨xs, m, rfl, hx, hlen, hxn, hel⟩ := DataW.trod_array ht hd
  rw [hcT] at hlen
  have hxs : xs.map (·.1) = ints.map fun x => (DataW.lit (.int .i64 x) : DataW Unit) := by
    have := congrArg Prod.fst hx
    simp only [DataW.agg.injEq] at this
    exact this.symm
  apply Array.ext'
  show cs.toList = nC ints
  apply List.ext_getElem?
  intro i
  by_cases hi : i < n
  · have h1 := hel i hi
    rw [hce, Nat.mul_one] at h1
    have hci : i < cs.toList.length := by omega
    have hone : (cs.toList.drop i).take 1 = [cs.toList[i]] := by rw [List.drop_eq_getElem_cons hci]; rfl
    have hxi : xs[i]? = some (xs[i]'(by omega)) := List.getElem?_eq_getElem (by omega)
    rw [hone, hxi] at h1
    obtain ⟨z, e0, g0, _⟩ := DataW.trod_int he h1
    have hyd : (xs[i]'(by omega)).1 = (DataW.lit (.int .i64 (ints[i]'(by omega))) : DataW Unit) := by
      have := congrArg (fun l => l[i]?) hxs
      simp only [List.getElem?_map, hxi, Option.map_some] at this
      rw [List.getElem?_eq_getElem (by omega), Option.map_some] at this
      exact Option.some.inj this
    rw [g0] at hyd
    simp only [DataW.lit.injEq, Lit.int.injEq, true_and] at hyd
    simp only [List.cons.injEq, and_true] at e0
    rw [List.getElem?_eq_getElem hci, e0, hyd]
    exact (nC_get ints i (by omega)).symm
  · rw [List.getElem?_eq_none (by omega), List.getElem?_eq_none (by rw [nC_len]; omega)]
theorem var_block {P : Program} {W : World} {name : String} {g : Nat} {cs : Array Value} (hg : P.globalNamed name = some g) (hv : World.var? P W name = some cs) : ∃ t fr, W.heap[g]? = some (.cells cs t fr) := by
  simp only [World.var?, hg, Option.bind_some] at hv
  cases hh : W.heap[g]? with
  | none => rw [hh] at hv; cases hv
  | some o =>
    rw [hh] at hv
    cases o with
    | cells c t fr => simp only [Option.some.injEq] at hv; subst hv; exact ⟨t, fr, rfl⟩
    | _ => cases hv
theorem tab_pen {W : World} (h : laidMetH Tryd.prog [("lapwing/pen.switched", Rows.laid_lapwing_pen_switched), ("lapwing/pen.unswitched", Rows.laid_lapwing_pen_unswitched), ("lapwing/pen.codes", Rows.laid_lapwing_pen_codes)] W) : TabP W := by
  rw [MakeChecks.laidMetH_plain _ _ _ (by kernel_rfl)] at h
  obtain ⟨_, ⟨g1, t1, cs1, fuel1, p1, q1, hg1, ht1, hv1, hd1, ⟨g2, t2, cs2, fuel2, p2, q2, hg2, ht2, hv2, hd2, ⟨g3, t3, cs3, fuel3, p3, q3, hg3, ht3, hv3, hd3, _, _⟩, _⟩, _⟩, _⟩ := h
  obtain rfl := Option.some.inj (gSw.symm.trans hg1)
  obtain rfl := Option.some.inj (gUn.symm.trans hg2)
  obtain rfl := Option.some.inj (gCo.symm.trans hg3)
  obtain rfl := Option.some.inj (tSw.symm.trans ht1)
  obtain rfl := Option.some.inj (tUn.symm.trans ht2)
  obtain rfl := Option.some.inj (tCo.symm.trans ht3)
  have c1 := arr_int (ints := swT) Tryd.underlying139 Tryd.underlying3 (by kernel_rfl) (by kernel_rfl) rfl hd1
  have c2 := arr_int (ints := unT) Tryd.underlying140 Tryd.underlying3 (by kernel_rfl) (by kernel_rfl) rfl hd2
  have c3 := arr_int (ints := codesT) Tryd.underlying107 Tryd.underlying3 (by kernel_rfl) (by kernel_rfl) rfl hd3
  subst c1; subst c2; subst c3
  exact ⟨var_block gCo hv3, var_block gSw hv1, var_block gUn hv2⟩
end Go.Proofs.YtcempbgbdlmjfaaDoor
