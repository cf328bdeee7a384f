/-
  mouse: the walks of clamp, fine, told, code.
  mouse: the walk of Clamp.
-/
import Derived.Test.YtcempbgbdlmjfaaDoorMoD
import Derived.Deep.RegionWith
namespace Go.Proofs.YtcempbgbdlmjfaaDoor
open Go.RowKit

def clampF (v n : Int) : Int := if n < 1 then 0 else max 0 (min v (n - 1))
/-- the flags of an event that may be -/
def modsOk (m : Int) : Bool := bits .andNot .i64 m 28 == 0
def shapeF (k b : Int) : Bool := decide (0 ≤ k ∧ k ≤ 3 ∧ 0 ≤ b ∧ b ≤ 3 ∧ ¬ (b = 3 ∧ k ≠ 2) ∧ ¬ (k = 3 ∧ 1 < b))
def fineF (k b m : Int) : Bool := shapeF k b && modsOk m
def toldF (which k b : Int) : Bool := if which = 0 then false else if which = 9 then decide (k = 0) else if which = 1000 then decide (k ≠ 2) else if which = 1002 then decide (k ≠ 2 ∨ b ≠ 3) else true
def codeF (which enc k b m : Int) : Int :=
  (if k = 1 ∧ enc ≠ 1006 then 3 else b) + (if k = 2 then 32 else if k = 3 then 64 else 0) + (if which = 9 then 0 else m)
set_option maxRecDepth 100000 in
theorem clamp_any (v n : Int) (hv : -9223372036854775808 ≤ v ∧ v ≤ 9223372036854775807) (hn : -9223372036854775808 ≤ n ∧ n ≤ 9223372036854775807) (w : World) : Calls Tryd.prog 94 #[.int .i64 v, .int .i64 n] w fun e w' => e = .returned (.int .i64 (clampF v n)) ∧ w' = w := by
  by_cases h : n < 1
  · have e : clampF v n = 0 := by unfold clampF; rw [if_pos h]
    have HE := Lib.hid e
    clear e
    go_enter Tryd.func94, Tryd.ntmps94
    go_wp2
    go_ret
    exact ⟨by rw [HE.out]; rfl, rfl⟩
  · have e : clampF v n = max 0 (min v (n - 1)) := by unfold clampF; rw [if_neg h]
    have HE := Lib.hid e
    clear e
    go_enter Tryd.func94, Tryd.ntmps94
    go_wp2
    all_goals
      go_ret
      exact ⟨by rw [HE.out]; exact ret_int (by omega), rfl⟩
set_option maxRecDepth 100000 in
set_option maxHeartbeats 1600000 in
theorem fine_k0 (k b m x y : Int) (w : World) (h : k < 0) : Calls Tryd.prog 78 #[.agg #[.int .i64 k, .int .i64 b, .int .i64 m, .int .i64 x, .int .i64 y]] w fun e w' => e = .returned (.bool (fineF k b m)) ∧ Below w.heap.size w w' := by
  have e : fineF k b m = false := by unfold fineF shapeF; rw [decide_eq_false (by omega)]; rfl
  have HE := Lib.hid e
  clear e
  go_enter Tryd.func78, Tryd.ntmps78
  go_wp2
  go_ret
  exact ⟨by rw [HE.out]; rfl, (Below.refl _ _).alloc (Nat.le_refl _) _⟩
set_option maxRecDepth 100000 in
set_option maxHeartbeats 1600000 in
theorem fine_k4 (k b m x y : Int) (w : World) (h0 : 0 ≤ k) (h : 3 < k) : Calls Tryd.prog 78 #[.agg #[.int .i64 k, .int .i64 b, .int .i64 m, .int .i64 x, .int .i64 y]] w fun e w' => e = .returned (.bool (fineF k b m)) ∧ Below w.heap.size w w' := by
  have e : fineF k b m = false := by unfold fineF shapeF; rw [decide_eq_false (by omega)]; rfl
  have HE := Lib.hid e
  clear e
  go_enter Tryd.func78, Tryd.ntmps78
  go_wp2
  go_ret
  exact ⟨by rw [HE.out]; rfl, (Below.refl _ _).alloc (Nat.le_refl _) _⟩
set_option maxRecDepth 100000 in
set_option maxHeartbeats 1600000 in
theorem fine_b0 (k b m x y : Int) (w : World) (h0 : 0 ≤ k) (h3 : k ≤ 3) (h : b < 0) : Calls Tryd.prog 78 #[.agg #[.int .i64 k, .int .i64 b, .int .i64 m, .int .i64 x, .int .i64 y]] w fun e w' => e = .returned (.bool (fineF k b m)) ∧ Below w.heap.size w w' := by
  have e : fineF k b m = false := by unfold fineF shapeF; rw [decide_eq_false (by omega)]; rfl
  have HE := Lib.hid e
  clear e
  go_enter Tryd.func78, Tryd.ntmps78
  go_wp2
  go_ret
  exact ⟨by rw [HE.out]; rfl, (Below.refl _ _).alloc (Nat.le_refl _) _⟩
set_option maxRecDepth 100000 in
set_option maxHeartbeats 1600000 in
theorem fine_b4 (k b m x y : Int) (w : World) (h0 : 0 ≤ k) (h3 : k ≤ 3) (hb : 0 ≤ b) (h : 3 < b) : Calls Tryd.prog 78 #[.agg #[.int .i64 k, .int .i64 b, .int .i64 m, .int .i64 x, .int .i64 y]] w fun e w' => e = .returned (.bool (fineF k b m)) ∧ Below w.heap.size w w' := by
  have e : fineF k b m = false := by unfold fineF shapeF; rw [decide_eq_false (by omega)]; rfl
  have HE := Lib.hid e
  clear e
  go_enter Tryd.func78, Tryd.ntmps78
  go_wp2
  go_ret
  exact ⟨by rw [HE.out]; rfl, (Below.refl _ _).alloc (Nat.le_refl _) _⟩
set_option maxRecDepth 100000 in
set_option maxHeartbeats 6400000 in
theorem fine_in (k b m x y : Int) (w : World) (hk : k = 0 ∨ k = 1 ∨ k = 2 ∨ k = 3) (hb : b = 0 ∨ b = 1 ∨ b = 2 ∨ b = 3) : Calls Tryd.prog 78 #[.agg #[.int .i64 k, .int .i64 b, .int .i64 m, .int .i64 x, .int .i64 y]] w fun e w' => e = .returned (.bool (fineF k b m)) ∧ Below w.heap.size w w' := by
  rcases hk with rfl | rfl | rfl | rfl <;> rcases hb with rfl | rfl | rfl | rfl
  all_goals
    go_enter Tryd.func78, Tryd.ntmps78
    go_wp2
    go_ret
    exact ⟨by first | rfl | (unfold fineF modsOk shapeF; simp), (Below.refl _ _).alloc (Nat.le_refl _) _⟩
theorem fine_any (k b m x y : Int) (w : World) : Calls Tryd.prog 78 #[.agg #[.int .i64 k, .int .i64 b, .int .i64 m, .int .i64 x, .int .i64 y]] w fun e w' => e = .returned (.bool (fineF k b m)) ∧ Below w.heap.size w w' := by
  by_cases h1 : k < 0
  · exact fine_k0 k b m x y w h1
  by_cases h2 : 3 < k
  · exact fine_k4 k b m x y w (by omega) h2
  by_cases h3 : b < 0
  · exact fine_b0 k b m x y w (by omega) (by omega) h3
  by_cases h4 : 3 < b
  · exact fine_b4 k b m x y w (by omega) (by omega) (by omega) h4
  · exact fine_in k b m x y w (by omega) (by omega)
set_option maxRecDepth 100000 in
set_option maxHeartbeats 6400000 in
theorem told_any (q k b m x y : Int) (w : World) (hq : q = 0 ∨ q = 9 ∨ q = 1000 ∨ q = 1002 ∨ q = 1003) : Calls Tryd.prog 79 #[.int .i64 q, .agg #[.int .i64 k, .int .i64 b, .int .i64 m, .int .i64 x, .int .i64 y]] w fun e w' => e = .returned (.bool (toldF q k b)) ∧ Below w.heap.size w w' := by
  rcases hq with rfl | rfl | rfl | rfl | rfl
  · go_enter Tryd.func79, Tryd.ntmps79
    go_wp2
    go_ret
    exact ⟨rfl, (Below.refl _ _).alloc (Nat.le_refl _) _⟩
  · go_enter Tryd.func79, Tryd.ntmps79
    go_wp2
    go_ret
    refine ⟨ret_bool ?_, (Below.refl _ _).alloc (Nat.le_refl _) _⟩
    by_cases h : k = 0 <;> simp [toldF, h]
  · go_enter Tryd.func79, Tryd.ntmps79
    go_wp2
    go_ret
    refine ⟨ret_bool ?_, (Below.refl _ _).alloc (Nat.le_refl _) _⟩
    by_cases h : k = 2 <;> simp [toldF, h]
  · by_cases h : k = 2
    · subst h
      go_enter Tryd.func79, Tryd.ntmps79
      go_wp2
      go_ret
      refine ⟨ret_bool ?_, (Below.refl _ _).alloc (Nat.le_refl _) _⟩
      by_cases h : b = 3 <;> simp [toldF, h]
    · have f : (k != 2) = true := bne_iff_ne.2 h
      have e : toldF 1002 k b = true := by simp [toldF, h]
      have HE := Lib.hid e
      clear e h
      go_enter Tryd.func79, Tryd.ntmps79
      go_wp2
      go_ret
      exact ⟨by rw [HE.out]; rfl, (Below.refl _ _).alloc (Nat.le_refl _) _⟩
  · go_enter Tryd.func79, Tryd.ntmps79
    go_wp2
    go_ret
    exact ⟨rfl, (Below.refl _ _).alloc (Nat.le_refl _) _⟩
set_option maxRecDepth 100000 in
set_option maxHeartbeats 6400000 in
theorem code_any (q enc k b m x y : Int) (w : World) (hq : q = 9 ∨ q ≠ 9) (he : enc = 1006 ∨ enc ≠ 1006) (hk : k = 0 ∨ k = 1 ∨ k = 2 ∨ k = 3) (hb : 0 ≤ b ∧ b ≤ 3) (hm : 0 ≤ m ∧ m ≤ 28) : Calls Tryd.prog 81 #[.int .i64 q, .int .i64 enc, .agg #[.int .i64 k, .int .i64 b, .int .i64 m, .int .i64 x, .int .i64 y]] w fun e w' => e = .returned (.int .i64 (codeF q enc k b m)) ∧ Below w.heap.size w w' := by
  obtain ⟨b0, b3⟩ := hb
  obtain ⟨m0, m28⟩ := hm
  rcases he with rfl | he
  · rcases hq with rfl | hq
    · rcases hk with rfl | rfl | rfl | rfl
      all_goals
        go_enter Tryd.func81, Tryd.ntmps81
        go_wp2
        go_ret
        exact ⟨ret_int (by simp [codeF]), (Below.refl _ _).alloc (Nat.le_refl _) _⟩
    · have f9 : (q != 9) = true := bne_iff_ne.2 hq
      have HQ := Lib.hid hq
      clear hq
      rcases hk with rfl | rfl | rfl | rfl
      all_goals
        go_enter Tryd.func81, Tryd.ntmps81
        go_wp2
        go_ret
        exact ⟨ret_int (by simp [codeF, HQ.out]), (Below.refl _ _).alloc (Nat.le_refl _) _⟩
  · have f6 : (enc != 1006) = true := bne_iff_ne.2 he
    have HE := Lib.hid he
    clear he
    rcases hq with rfl | hq
    · rcases hk with rfl | rfl | rfl | rfl
      all_goals
        go_enter Tryd.func81, Tryd.ntmps81
        go_wp2
        go_ret
        exact ⟨ret_int (by simp [codeF, HE.out]), (Below.refl _ _).alloc (Nat.le_refl _) _⟩
    · have f9 : (q != 9) = true := bne_iff_ne.2 hq
      have HQ := Lib.hid hq
      clear hq
      rcases hk with rfl | rfl | rfl | rfl
      all_goals
        go_enter Tryd.func81, Tryd.ntmps81
        go_wp2
        go_ret
        exact ⟨ret_int (by simp [codeF, HQ.out, HE.out]), (Below.refl _ _).alloc (Nat.le_refl _) _⟩
end Go.Proofs.YtcempbgbdlmjfaaDoor
namespace Go.Proofs.YtcempbgbdlmjfaaDoor
open Go.RowKit

def Wf (x : Int) : Prop := -9223372036854775808 ≤ x ∧ x ≤ 9223372036854775807
set_option maxRecDepth 100000 in
set_option maxHeartbeats 6400000 in
theorem clampE_any (k b m x y h v : Int) (w : World) (hx : Wf x) (hy : Wf y) (hh : Wf h) (hv : Wf v) : Calls Tryd.prog 80 #[.agg #[.int .i64 k, .int .i64 b, .int .i64 m, .int .i64 x, .int .i64 y], .int .i64 h, .int .i64 v] w fun e w' => e = .returned (.agg #[.int .i64 k, .int .i64 b, .int .i64 m, .int .i64 (clampF x v), .int .i64 (clampF y h)]) ∧ Below w.heap.size w w' := by
  obtain ⟨cx, hcx⟩ : ∃ c, clampF x v = c := ⟨_, rfl⟩
  obtain ⟨cy, hcy⟩ : ∃ c, clampF y h = c := ⟨_, rfl⟩
  rw [hcx, hcy]
  have h1 : ∀ W : World, Calls Tryd.prog 94 #[.int .i64 x, .int .i64 v] W fun e w' => e = .returned (.int .i64 cx) ∧ w' = W := fun W => by have := clamp_any x v hx hv W; rw [hcx] at this; exact this
  have h2 : ∀ W : World, Calls Tryd.prog 94 #[.int .i64 y, .int .i64 h] W fun e w' => e = .returned (.int .i64 cy) ∧ w' = W := fun W => by have := clamp_any y h hy hh W; rw [hcy] at this; exact this
  have H1 := Lib.hid h1; have H2 := Lib.hid h2
  clear h1 h2 hcx hcy hx hy hh hv
  go_enter Tryd.func80, Tryd.ntmps80
  go_wp2
  go_region_with (first | (go_at_call_of 94 (Value.int IntKind.i64 x); refine (H1.out _).mono ?_; rintro e _ ⟨rfl, rfl⟩) | (go_at_call_of 94 (Value.int IntKind.i64 y); refine (H2.out _).mono ?_; rintro e _ ⟨rfl, rfl⟩))
  all_goals go_wp2
  all_goals
    refine bodyPost_ret (v := .agg #[.int .i64 k, .int .i64 b, .int .i64 m, .int .i64 cx, .int .i64 cy]) (by simp [results, Tryd.results80, go_sem]) rfl ⟨rfl, ?_⟩
    first
      | exact ((((Below.refl _ _).alloc (Nat.le_refl _) _).alloc (by simp) _))
      | exact ((((Below.refl _ _).alloc (Nat.le_refl _) _).alloc (by simp) _)).drew
end Go.Proofs.YtcempbgbdlmjfaaDoor
