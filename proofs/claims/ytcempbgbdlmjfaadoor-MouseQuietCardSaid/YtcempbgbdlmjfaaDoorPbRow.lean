/-
  From the condition of a row on the library's tables to the walks' word on them; the heap that the program's own initialisers leave meets the condition.
-/
import Derived.Test.YtcempbgbdlmjfaaDoorRowB
import Derived.Test.YtcempbgbdlmjfaaDoorPbPr
import Derived.LaidMore
import Derived.Stop.Joined
import Derived.Lib.LaidTab
namespace Go.Proofs.YtcempbgbdlmjfaaDoor
open Go.ChangeShapes Go.WideShapes Go.ChangeAt Go.RowKit

theorem tPow : (Tryd.prog.globals[5]?).map (·.type) = some 157 := by kernel_rfl
theorem door_pow (os : Os) (args : Array Value) : laidMetH Tryd.prog [("math/bits.deBruijn32tab", Rows.laid_math_bits_deBruijn32tab), ("math/bits.deBruijn64tab", Rows.laid_math_bits_deBruijn64tab), ("internal/strconv.uint64pow10", Rows.laid_internal_strconv_uint64pow10)] ((World.doorLaid Tryd.prog 68 os).forCall (fun _ _ => 0) ⟨#[], args, []⟩).memory :=
  laidMetH_of_parts3 (fuel := 8) (laidMet_of_run' 8 (by kernel_rfl) (by kernel_rfl)) (by kernel_rfl) (by kernel_rfl)
theorem tabI_of {W : World} {g : Nat} {t : TypeId} {cs : Array Value} {fuel : Nat} {p : List MemPlace} (hg : Tryd.prog.globalNamed "internal/strconv.uint64pow10" = some g) (ht : (Tryd.prog.globals[g]?).map (·.type) = some t) (hv : World.var? Tryd.prog W "internal/strconv.uint64pow10" = some cs)
    (hd : DataW.trod (fun _ => ()) Tryd.prog W 0 (fun _ => true) false fuel t cs.toList = some (Rows.laid_internal_strconv_uint64pow10, p)) : TabI W := by
  obtain rfl := Option.some.inj (gPow.symm.trans hg)
  obtain rfl := Option.some.inj (tPow.symm.trans ht)
  have hd2 : DataW.trod (fun _ => ()) Tryd.prog W 0 (fun _ => true) false fuel 157 cs.toList = some (Lib.tabData .u64 Lib.pow10Tab, p) := hd
  unfold TabI Lib.TabIs
  rw [hv, ← Lib.cells_of_tab Tryd.underlying157 Tryd.underlying77 (by kernel_rfl) (by kernel_rfl) hd2]
theorem tab_pow {W : World} (h : laidMetH Tryd.prog [("math/bits.deBruijn32tab", Rows.laid_math_bits_deBruijn32tab), ("math/bits.deBruijn64tab", Rows.laid_math_bits_deBruijn64tab), ("internal/strconv.uint64pow10", Rows.laid_internal_strconv_uint64pow10)] W) : TabI W := by
  rw [MakeChecks.laidMetH_plain _ _ _ (by kernel_rfl)] at h
  obtain ⟨_, ⟨g1, t1, cs1, fuel1, p1, q1, hg1, ht1, hv1, hd1, ⟨g2, t2, cs2, fuel2, p2, q2, hg2, ht2, hv2, hd2, ⟨g3, t3, cs3, fuel3, p3, q3, hg3, ht3, hv3, hd3, _, _⟩, _⟩, _⟩, _⟩ := h
  exact tabI_of hg3 ht3 hv3 hd3
end Go.Proofs.YtcempbgbdlmjfaaDoor
