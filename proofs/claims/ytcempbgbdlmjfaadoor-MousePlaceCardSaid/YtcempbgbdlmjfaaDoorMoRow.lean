/-
  From the condition of a row on the table of modes to the walks' word on it; the heap that the program's own initialisers leave meets the condition.
-/
import Derived.Test.YtcempbgbdlmjfaaDoorRowB
import Derived.Test.YtcempbgbdlmjfaaDoorMoD
import Derived.LaidMore
import Derived.Stop.Joined
namespace Go.Proofs.YtcempbgbdlmjfaaDoor
open Go.ChangeShapes Go.WideShapes Go.ChangeAt Go.RowKit

theorem gModes : Tryd.prog.globalNamed "lapwing/modes.table" = some 0 := by kernel_rfl
theorem tModes : (Tryd.prog.globals[0]?).map (·.type) = some 105 := by kernel_rfl
theorem door_modes (os : Os) (args : Array Value) : laidMetH Tryd.prog [("lapwing/modes.table", Rows.laid_lapwing_modes_table)] ((World.doorLaid Tryd.prog 68 os).forCall (fun _ _ => 0) ⟨#[], args, []⟩).memory :=
  laidMetH_of_parts3 (fuel := 8) (laidMet_of_run' 8 (by kernel_rfl) (by kernel_rfl)) (by kernel_rfl) (by kernel_rfl)

theorem pairs_ext (tbl : List (Bool × Int)) : ∀ l : List Value, l.length = tbl.length * 2 → (∀ (i : Nat) (hi : i < tbl.length), (l.drop (i * 2)).take 2 = [Value.bool tbl[i].1, .int .i64 tbl[i].2]) → l = tbl.flatMap fun x => [Value.bool x.1, .int .i64 x.2] := by
  induction tbl with
  | nil => intro l hl _; exact List.eq_nil_of_length_eq_zero (by simpa using hl)
  | cons x xs ih =>
    intro l hl h
    have h0 := h 0 (by simp)
    simp only [Nat.zero_mul, List.drop_zero, List.getElem_cons_zero] at h0
    have h1 := ih (l.drop 2) (by simp at hl ⊢; omega) (fun i hi => by
      have h2 := h (i + 1) (by simp; omega)
      rw [show (i + 1) * 2 = 2 + i * 2 from by omega, ← List.drop_drop] at h2
      exact h2)
    rw [List.flatMap_cons, ← h1, ← h0, List.take_append_drop]

set_option maxRecDepth 100000 in
theorem tab_modes {W : World} (h : laidMetH Tryd.prog [("lapwing/modes.table", Rows.laid_lapwing_modes_table)] W) : TabM W := by
  rw [MakeChecks.laidMetH_plain _ _ _ (by kernel_rfl)] at h
  obtain ⟨ps, ⟨g, t, cs, fuel, p, q, hg, ht, hv, hd, _, _⟩, _⟩ := h
  obtain rfl := Option.some.inj (gModes.symm.trans hg)
  obtain rfl := Option.some.inj (tModes.symm.trans ht)
  obtain ⟨xs, m, rfl, hx, hlen, hn, hel⟩ := DataW.trod_array Tryd.underlying105 hd
  have c2 : Tryd.prog.cellsOf 104 = 2 := by kernel_rfl
  have c48 : Tryd.prog.cellsOf 105 = 48 := by kernel_rfl
  have b1 : Tryd.prog.cellsOf 4 = 1 := by kernel_rfl
  have b2 : Tryd.prog.cellsOf 3 = 1 := by kernel_rfl
  rw [c48] at hlen
  have hxs : xs.map (·.1) = tblM.map fun x => (DataW.agg [.lit (.bool x.1), .lit (.int .i64 x.2)] : DataW Unit) := by
    have := congrArg Prod.fst hx
    simp only [DataW.agg.injEq, Rows.laid_lapwing_modes_table] at this
    rw [← this]
    rfl
  have pair : ∀ (i : Nat) (hi : i < tblM.length), (cs.toList.drop (i * 2)).take 2 = [Value.bool tblM[i].1, .int .i64 tblM[i].2] := by
    intro i hi
    have hi24 : i < 24 := hi
    have h1 := hel i hi24
    rw [c2] at h1
    have hxi : xs[i]? = some (xs[i]'(by omega)) := List.getElem?_eq_getElem (by omega)
    rw [hxi] at h1
    generalize hr : (cs.toList.drop (i * 2)).take 2 = row at h1 ⊢
    have hyd : (xs[i]'(by omega)).1 = (DataW.agg [.lit (.bool tblM[i].1), .lit (.int .i64 tblM[i].2)] : DataW Unit) := by
      have := congrArg (fun l => l[i]?) hxs
      simp only [List.getElem?_map, hxi, Option.map_some] at this
      rw [List.getElem?_eq_getElem hi, Option.map_some] at this
      exact Option.some.inj this
    obtain ⟨ys, m', hm', hy, hl2, hyl, hf⟩ := DataW.trod_struct Tryd.underlying104 h1
    rw [hy] at hyd
    simp only [DataW.agg.injEq] at hyd
    have f0 := hf 0 _ rfl
    have f1 := hf 1 _ rfl
    rw [c2] at hl2
    match row, hl2 with
    | [u0, u1], _ =>
      match ys, hyd with
      | [y0, y1], hyd =>
        simp only [List.map_cons, List.map_nil, List.cons.injEq, and_true] at hyd
        have f0' : DataW.trod _ Tryd.prog W 0 _ _ m' 4 [u0] = some y0 := f0
        have f1' : DataW.trod _ Tryd.prog W 0 _ _ m' 3 [u1] = some y1 := f1
        obtain ⟨b, e0, g0⟩ := DataW.trod_bool Tryd.underlying4 f0'
        obtain ⟨z, e1, g1, _⟩ := DataW.trod_int Tryd.underlying3 f1'
        rw [g0, g1] at hyd
        simp only [DataW.lit.injEq, Lit.bool.injEq, Lit.int.injEq, true_and] at hyd
        simp only [List.cons.injEq, and_true] at e0 e1
        rw [e0, e1, hyd.1, hyd.2]
        rfl
  have hcs : cs = tblV := Array.ext' (pairs_ext tblM cs.toList hlen pair)
  subst hcs
  simp only [World.var?, gModes, Option.bind_some] at hv
  cases hh : W.heap[(0 : Nat)]? with
  | none => rw [hh] at hv; cases hv
  | some o =>
    rw [hh] at hv
    cases o with
    | cells c t fr => simp only [Option.some.injEq] at hv; subst hv; exact ⟨t, fr, hh⟩
    | _ => cases hv
end Go.Proofs.YtcempbgbdlmjfaaDoor
