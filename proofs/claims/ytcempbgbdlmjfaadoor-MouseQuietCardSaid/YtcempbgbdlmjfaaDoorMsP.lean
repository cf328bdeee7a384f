/-
  mouse: the walk of Place, by the facts on floats that it asks for.
-/
import Derived.Test.YtcempbgbdlmjfaaDoorMoD
import Derived.WalkLawsBesides
import Derived.Laws.Externs
namespace Go.Proofs.YtcempbgbdlmjfaaDoor
open Go.RowKit

theorem frombits_run (t : Nat) (w : World) : (callFunc 82 #[.int .u64 (t : Int)]).run Tryd.prog w = .ok (.value (Value.float FloatKind.f64 t)) w := by
  rw [run_callFunc_extern (e := Extern.MathFloatBits.float64frombits) Tryd.func82 (by kernel_rfl) (by kernel_rfl) (by kernel_rfl) (by kernel_rfl)]
  rfl
theorem isnan_any (t : Nat) (w : World) (h : FloatKind.f64.format.order t t = some .eq) : Calls Tryd.prog 83 #[Value.float FloatKind.f64 t] w fun e w' => e = .returned (.bool false) ∧ w' = w := by
  have h2 : (FloatKind.f64.format.order t t != some .eq) = false := by rw [h]; rfl
  go_enter Tryd.func83, Tryd.ntmps83
  go_wp2
  go_ret
  exact ⟨rfl, rfl⟩
set_option maxRecDepth 100000 in
set_option maxHeartbeats 1600000 in
theorem place_hi (t : Nat) (s n : Int) (r : Nat) (w : World) (s0 : 1 ≤ s) (s1 : s ≤ 1048576) (n0 : 1 ≤ n) (n1 : n ≤ 1048576) (f1 : FloatKind.f64.format.order t t = some .eq) (f2 : FloatKind.f64.format.order t 0 = some .gt)
    (hm : floatBits .mul FloatKind.f64 (floatOfInt FloatKind.f64 s) (floatOfInt FloatKind.f64 n) = some r) (hge : FloatKind.f64.format.order t r = some .gt ∨ FloatKind.f64.format.order t r = some .eq) : Calls Tryd.prog 50 #[.int .u64 (t : Int), .int .i64 s, .int .i64 n] w fun e w' => e = .returned (.int .i64 (n - 1)) ∧ w' = w := by
  have a1 := frombits_run t w
  have a2 := run_float_arith (P := Tryd.prog) w .mul 131 FloatKind.f64 _ _ r hm
  have e1 : min s 1048576 = s := by omega
  have e2 : min n 1048576 = n := by omega
  have b1 : (FloatKind.f64.format.order t 0 == some .lt || FloatKind.f64.format.order t 0 == some .eq) = false := by rw [f2]; rfl
  have b2 : (FloatKind.f64.format.order t r == some .gt || FloatKind.f64.format.order t r == some .eq) = true := by rcases hge with h | h <;> rw [h] <;> rfl
  have F1 := Lib.hid f1
  clear f1 f2 hm hge
  go_enter Tryd.func50, Tryd.ntmps50
  go_wp2
  go_ret
  exact ⟨rfl, rfl⟩
set_option maxRecDepth 100000 in
set_option maxHeartbeats 1600000 in
theorem place_lo (t : Nat) (s n z : Int) (r : Nat) (w : World) (s0 : 1 ≤ s) (s1 : s ≤ 1048576) (n0 : 1 ≤ n) (n1 : n ≤ 1048576) (f1 : FloatKind.f64.format.order t t = some .eq) (f2 : FloatKind.f64.format.order t 0 = some .gt)
    (hm : floatBits .mul FloatKind.f64 (floatOfInt FloatKind.f64 s) (floatOfInt FloatKind.f64 n) = some r) (hlt : FloatKind.f64.format.order t r = some .lt) (hz : floatToIntVal FloatKind.f64 t .i64 = some z) (z0 : 0 ≤ z) (z1 : z ≤ 1099511627776) : Calls Tryd.prog 50 #[.int .u64 (t : Int), .int .i64 s, .int .i64 n] w fun e w' => e = .returned (.int .i64 (min (z / s) (n - 1))) ∧ w' = w := by
  have a1 := frombits_run t w
  have a2 := run_float_arith (P := Tryd.prog) w .mul 131 FloatKind.f64 _ _ r hm
  have a3 := run_convert_float_int (P := Tryd.prog) w 131 3 FloatKind.f64 IntKind.i64 t z (by kernel_rfl) Tryd.underlying3 hz
  have e1 : min s 1048576 = s := by omega
  have e2 : min n 1048576 = n := by omega
  have b1 : (FloatKind.f64.format.order t 0 == some .lt || FloatKind.f64.format.order t 0 == some .eq) = false := by rw [f2]; rfl
  have b2 : (FloatKind.f64.format.order t r == some .gt || FloatKind.f64.format.order t r == some .eq) = false := by rw [hlt]; rfl
  have F1 := Lib.hid f1
  have hs0 : (s == 0) = false := beq_eq_false_iff_ne.2 (by omega)
  have hq0 : 0 ≤ z / s := Int.ediv_nonneg z0 (by omega)
  have hq1 : z / s ≤ z := Int.ediv_le_self _ z0
  have htd : Int.tdiv z s = z / s := Int.tdiv_eq_ediv_of_nonneg z0
  obtain ⟨q, hq⟩ : ∃ q, z / s = q := ⟨_, rfl⟩
  rw [hq] at hq0 hq1 htd
  have HQ := Lib.hid hq
  rw [hq]
  clear f1 f2 hm hlt hz
  go_enter Tryd.func50, Tryd.ntmps50
  go_wp2
  all_goals
    go_ret
    refine ⟨?_, rfl⟩
    first
      | exact congrArg (fun z => Ending.returned (Value.int IntKind.i64 z)) (show q = min q (n - 1) by omega)
      | exact congrArg (fun z => Ending.returned (Value.int IntKind.i64 z)) (show n - 1 = min q (n - 1) by omega)
      | exact congrArg (fun z => Ending.returned (Value.int IntKind.i64 z)) (show min q (n - 1) = min q (n - 1) from rfl)
end Go.Proofs.YtcempbgbdlmjfaaDoor
