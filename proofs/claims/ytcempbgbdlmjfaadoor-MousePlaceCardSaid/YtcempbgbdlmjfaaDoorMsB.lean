/-
  mouse: the walk of Clamp.
-/
import Derived.Test.YtcempbgbdlmjfaaDoorMsA
import Derived.Deep.RegionWith
namespace Go.Proofs.YtcempbgbdlmjfaaDoor
open Go.RowKit

def Wf (x : Int) : Prop := -9223372036854775808 ≤ x ∧ x ≤ 9223372036854775807
set_option maxRecDepth 100000 in
set_option maxHeartbeats 6400000 in
theorem clampE_any (k b m x y h v : Int) (w : World) (hx : Wf x) (hy : Wf y) (hh : Wf h) (hv : Wf v) : Calls Tryd.prog 80 #[.agg #[.int .i64 k, .int .i64 b, .int .i64 m, .int .i64 x, .int .i64 y], .int .i64 h, .int .i64 v] w fun e w' => e = .returned (.agg #[.int .i64 k, .int .i64 b, .int .i64 m, .int .i64 (clampF x v), .int .i64 (clampF y h)]) ∧ Below w.heap.size w w' := by
  obtain ⟨cx, hcx⟩ : ∃ c, clampF x v = c := ⟨_, rfl⟩
  obtain ⟨cy, hcy⟩ : ∃ c, clampF y h = c := ⟨_, rfl⟩
  rw [hcx, hcy]
  have h1 : ∀ W : World, Calls Tryd.prog 94 #[.int .i64 x, .int .i64 v] W fun e w' => e = .returned (.int .i64 cx) ∧ w' = W := fun W => by have := clamp_any x v hx hv W; rw [hcx] at this; exact this
  have h2 : ∀ W : World, Calls Tryd.prog 94 #[.int .i64 y, .int .i64 h] W fun e w' => e = .returned (.int .i64 cy) ∧ w' = W := fun W => by have := clamp_any y h hy hh W; rw [hcy] at this; exact this
  have H1 := Lib.hid h1; have H2 := Lib.hid h2
  clear h1 h2 hcx hcy hx hy hh hv
  go_enter Tryd.func80, Tryd.ntmps80
  go_wp2
  go_region_with (first | (go_at_call_of 94 (Value.int IntKind.i64 x); refine (H1.out _).mono ?_; rintro e _ ⟨rfl, rfl⟩) | (go_at_call_of 94 (Value.int IntKind.i64 y); refine (H2.out _).mono ?_; rintro e _ ⟨rfl, rfl⟩))
  all_goals go_wp2
  all_goals
    refine bodyPost_ret (v := .agg #[.int .i64 k, .int .i64 b, .int .i64 m, .int .i64 cx, .int .i64 cy]) (by simp [results, Tryd.results80, go_sem]) rfl ⟨rfl, ?_⟩
    first
      | exact ((((Below.refl _ _).alloc (Nat.le_refl _) _).alloc (by simp) _))
      | exact ((((Below.refl _ _).alloc (Nat.le_refl _) _).alloc (by simp) _)).drew
      | (trace_state; sorry)
end Go.Proofs.YtcempbgbdlmjfaaDoor
