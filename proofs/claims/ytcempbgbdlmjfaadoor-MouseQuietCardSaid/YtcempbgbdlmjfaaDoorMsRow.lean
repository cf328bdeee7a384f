/-
  mouse: from the condition of a row on its four tables to the walks' words on them.
-/
import Derived.Test.YtcempbgbdlmjfaaDoorMoRow
import Derived.Test.YtcempbgbdlmjfaaDoorPbRow
namespace Go.Proofs.YtcempbgbdlmjfaaDoor
open Go.ChangeShapes Go.WideShapes Go.ChangeAt Go.RowKit

theorem door_ms (os : Os) (args : Array Value) : laidMetH Tryd.prog [("lapwing/modes.table", Rows.laid_lapwing_modes_table), ("math/bits.deBruijn32tab", Rows.laid_math_bits_deBruijn32tab), ("math/bits.deBruijn64tab", Rows.laid_math_bits_deBruijn64tab), ("internal/strconv.uint64pow10", Rows.laid_internal_strconv_uint64pow10)] ((World.doorLaid Tryd.prog 68 os).forCall (fun _ _ => 0) ⟨#[], args, []⟩).memory :=
  laidMetH_of_parts3 (fuel := 8) (laidMet_of_run' 8 (by kernel_rfl) (by kernel_rfl)) (by kernel_rfl) (by kernel_rfl)
set_option maxRecDepth 100000 in
theorem tabM_of {W : World} {g : Nat} {t : TypeId} {cs : Array Value} {fuel : Nat} {p : List MemPlace} (hg : Tryd.prog.globalNamed "lapwing/modes.table" = some g) (ht : (Tryd.prog.globals[g]?).map (·.type) = some t) (hv : World.var? Tryd.prog W "lapwing/modes.table" = some cs)
    (hd : DataW.trod (fun _ => ()) Tryd.prog W 0 (fun _ => true) false fuel t cs.toList = some (Rows.laid_lapwing_modes_table, p)) : TabM W := by
  obtain rfl := Option.some.inj (gModes.symm.trans hg)
  obtain rfl := Option.some.inj (tModes.symm.trans ht)
  obtain ⟨xs, m, rfl, hx, hlen, hn, hel⟩ := DataW.trod_array Tryd.underlying105 hd
  have c2 : Tryd.prog.cellsOf 104 = 2 := by kernel_rfl
  have c48 : Tryd.prog.cellsOf 105 = 48 := by kernel_rfl
  have b1 : Tryd.prog.cellsOf 4 = 1 := by kernel_rfl
  have b2 : Tryd.prog.cellsOf 3 = 1 := by kernel_rfl
  rw [c48] at hlen
  have hxs : xs.map (·.1) = tblM.map fun x => (DataW.agg [.lit (.bool x.1), .lit (.int .i64 x.2)] : DataW Unit) := by
    have := congrArg Prod.fst hx
    simp only [DataW.agg.injEq, Rows.laid_lapwing_modes_table] at this
    rw [← this]
    rfl
  have pair : ∀ (i : Nat) (hi : i < tblM.length), (cs.toList.drop (i * 2)).take 2 = [Value.bool tblM[i].1, .int .i64 tblM[i].2] := by
    intro i hi
    have hi24 : i < 24 := hi
    have h1 := hel i hi24
    rw [c2] at h1
    have hxi : xs[i]? = some (xs[i]'(by omega)) := List.getElem?_eq_getElem (by omega)
    rw [hxi] at h1
    generalize hr : (cs.toList.drop (i * 2)).take 2 = row at h1 ⊢
    have hyd : (xs[i]'(by omega)).1 = (DataW.agg [.lit (.bool tblM[i].1), .lit (.int .i64 tblM[i].2)] : DataW Unit) := by
      have := congrArg (fun l => l[i]?) hxs
      simp only [List.getElem?_map, hxi, Option.map_some] at this
      rw [List.getElem?_eq_getElem hi, Option.map_some] at this
      exact Option.some.inj this
    obtain ⟨ys, m', hm', hy, hl2, hyl, hf⟩ := DataW.trod_struct Tryd.underlying104 h1
    rw [hy] at hyd
    simp only [DataW.agg.injEq] at hyd
    have f0 := hf 0 _ rfl
    have f1 := hf 1 _ rfl
    rw [c2] at hl2
    match row, hl2 with
    | [u0, u1], _ =>
      match ys, hyd with
      | [y0, y1], hyd =>
        simp only [List.map_cons, List.map_nil, List.cons.injEq, and_true] at hyd
        have f0' : DataW.trod _ Tryd.prog W 0 _ _ m' 4 [u0] = some y0 := f0
        have f1' : DataW.trod _ Tryd.prog W 0 _ _ m' 3 [u1] = some y1 := f1
        obtain ⟨b, e0, g0⟩ := DataW.trod_bool Tryd.underlying4 f0'
        obtain ⟨z, e1, g1, _⟩ := DataW.trod_int Tryd.underlying3 f1'
        rw [g0, g1] at hyd
        simp only [DataW.lit.injEq, Lit.bool.injEq, Lit.int.injEq, true_and] at hyd
        simp only [List.cons.injEq, and_true] at e0 e1
        rw [e0, e1, hyd.1, hyd.2]
        rfl
  have hcs : cs = tblV := Array.ext' (pairs_ext tblM cs.toList hlen pair)
  subst hcs
  simp only [World.var?, gModes, Option.bind_some] at hv
  cases hh : W.heap[(0 : Nat)]? with
  | none => rw [hh] at hv; cases hv
  | some o =>
    rw [hh] at hv
    cases o with
    | cells c t fr => simp only [Option.some.injEq] at hv; subst hv; exact ⟨t, fr, hh⟩
    | _ => cases hv
theorem tab_ms {W : World} (h : laidMetH Tryd.prog [("lapwing/modes.table", Rows.laid_lapwing_modes_table), ("math/bits.deBruijn32tab", Rows.laid_math_bits_deBruijn32tab), ("math/bits.deBruijn64tab", Rows.laid_math_bits_deBruijn64tab), ("internal/strconv.uint64pow10", Rows.laid_internal_strconv_uint64pow10)] W) : TabM W ∧ TabI W := by
  rw [MakeChecks.laidMetH_plain _ _ _ (by kernel_rfl)] at h
  obtain ⟨_, ⟨g0, t0, cs0, fuel0, p0, q0, hg0, ht0, hv0, hd0, ⟨g1, t1, cs1, fuel1, p1, q1, hg1, ht1, hv1, hd1, ⟨g2, t2, cs2, fuel2, p2, q2, hg2, ht2, hv2, hd2, ⟨g3, t3, cs3, fuel3, p3, q3, hg3, ht3, hv3, hd3, _, _⟩, _⟩, _⟩, _⟩, _⟩ := h
  exact ⟨tabM_of hg0 ht0 hv0 hd0, tabI_of hg3 ht3 hv3 hd3⟩
end Go.Proofs.YtcempbgbdlmjfaaDoor
