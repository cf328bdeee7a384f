/-
  lapwinglaw05.ParamsCounts: for any four numbers it answers true: a count lies between; a number that is there, and lies between, is itself. No condition.
-/
import Derived.Test.YtcempbgbdlmjfaaPaH
namespace Go.Proofs.Ytcempbgbdlmjfaa
open Go.RowKit

theorem and_8i (k : Int) : ∃ m : Int, bits .and .i64 k 255 = m ∧ 0 ≤ m ∧ m < 256 :=
  ⟨_, and_low k 8 (by omega) 255 (by decide), by omega, by have := Nat.mod_lt (BitVec.ofInt 64 k).toNat (show 0 < 2 ^ 8 by decide); omega⟩
theorem and_16i (k : Int) : ∃ m : Int, bits .and .i64 k 65535 = m ∧ 0 ≤ m ∧ m < 65536 := by
  obtain ⟨m, h, h1⟩ := and_16 k
  exact ⟨m, h, by omega, by omega⟩

set_option maxRecDepth 100000 in
set_option maxHeartbeats 3200000 in
theorem counts_walk (n usual least most : Int) (w : World) :
    Calls Try.prog 10 #[.int .i64 n, .int .i64 usual, .int .i64 least, .int .i64 most] w fun e w' => e = .returned (.bool true) ∧ Below w.heap.size w w' := by
  obtain ⟨v, hv, hv0, hv1⟩ := and_16i n
  obtain ⟨u, hu, hu0, hu1⟩ := and_8i usual
  obtain ⟨lo, hlo, hlo0, hlo1⟩ := and_8i least
  obtain ⟨h, hh, hh0, hh1⟩ := and_16i most
  have hcs := counts v lo (lo + h) u (by omega) (by omega) (by omega) (by omega)
  obtain ⟨c, hc⟩ : ∃ c, countP [[v]] 0 u lo (lo + h) = c := ⟨_, rfl⟩
  obtain ⟨d, hd⟩ : ∃ d, countP [] 0 u lo (lo + h) = d := ⟨_, rfl⟩
  obtain ⟨z, hz⟩ : ∃ z, countP [[0]] 0 u lo (lo + h) = z := ⟨_, rfl⟩
  rw [hc, hd, hz] at hcs
  obtain ⟨p1, p2, p3, p4, p5, p6, p7⟩ := hcs
  have HC := Lib.hid hc; have HD := Lib.hid hd; have HZ := Lib.hid hz; have P3 := Lib.hid p3; have P7 := Lib.hid p7
  clear hc hd hz p3 p7
  subst p4
  go_enter Try.func10, Try.ntmps10
  go_wp2_with fail
  refine (awake5_any _).mono ?_
  rintro e w1 ⟨rfl, hb1⟩
  have r1 := Lib.hid (own_one w1 w1.heap.size (Nat.le_refl _) 43 3 v).rd
  go_wp2_with fail
  refine (count_any _ _ _ _ _ _ _ r1.out).mono ?_
  rintro e w2 ⟨rfl, rfl⟩
  simp only [HC.out]
  go_wp2_with fail
  refine (count_any [] _ _ _ _ _ _ (RdLL.nil _ 0 _)).mono ?_
  rintro e w3 ⟨rfl, rfl⟩
  simp only [HD.out]
  go_wp2_with fail
  refine (count_any _ _ _ _ _ _ _ (rd_one _ (w1.heap.size + 1 + 1) w1.heap.size (by simp) (by omega) 43 3 0)).mono ?_
  rintro e w4 ⟨rfl, rfl⟩
  simp only [HZ.out]
  clear r1 HC HD HZ hv hu hlo hh
  have e1 : decide (lo ≤ c) = true := by simp; omega
  have e2 : decide (c ≤ lo + h) = true := by simp; omega
  have e3 : decide (lo ≤ d) = true := by simp; omega
  have e4 : decide (d ≤ lo + h) = true := by simp; omega
  have hend := (((hb1.alloc hb1.size (.cells #[.int .i64 v] 3)).alloc (by have := hb1.size; simp; omega) (.cells #[.slice (some ⟨w1.heap.size, 0, none⟩) 1 1] 43)).alloc (by have := hb1.size; simp; omega) (.cells #[.int .i64 0] 3)).alloc (by have := hb1.size; simp; omega) (.cells #[.slice (some ⟨w1.heap.size + 1 + 1, 0, none⟩) 1 1] 43)
  have HEND := Lib.hid hend
  clear hend p1 p2 p5 p6 hb1
  have A : (v == 0) = true ∨ (v == 0) = false ∧ (decide (v < lo) = true ∨ decide (v < lo) = false ∧ (decide (lo + h < v) = true ∨ decide (lo + h < v) = false ∧ (c == v) = true)) := by
    simp only [beq_iff_eq, beq_eq_false_iff_ne, decide_eq_true_eq, decide_eq_false_iff_not]
    have := P3.out
    omega
  have B : decide (u < lo) = true ∨ decide (u < lo) = false ∧ (decide (lo + h < u) = true ∨ decide (lo + h < u) = false ∧ (d == u) = true) := by
    simp only [beq_iff_eq, decide_eq_true_eq, decide_eq_false_iff_not]
    have := P7.out
    omega
  clear P3 P7
  rcases A with A | ⟨A, A' | ⟨A', A'' | ⟨A'', A'''⟩⟩⟩
  all_goals
    rcases B with B | ⟨B, B' | ⟨B', B''⟩⟩
  all_goals
    go_wp2
    go_ret
    exact ⟨rfl, HEND.out⟩
end Go.Proofs.Ytcempbgbdlmjfaa
