/-
  mouse: Place at the float of a whole number and at the float below it.
-/
import Derived.Test.YtcempbgbdlmjfaaDoorMsP
import Derived.Test.YtcempbgbdlmjfaaDoorMsF
namespace Go.Proofs.YtcempbgbdlmjfaaDoor
open Go.RowKit

theorem toval_of {t : Nat} {z : Int} (h : (Ieee.double.read t).toInt .zero = some z) (h0 : 0 ≤ z) (h1 : z ≤ 1099511627776) : floatToIntVal FloatKind.f64 t IntKind.i64 = some z := by
  unfold floatToIntVal
  show (match (Ieee.double.read t).toInt .zero with | some n => if IntKind.i64.min ≤ n ∧ n ≤ IntKind.i64.max then some n else none | none => none) = _
  rw [h]
  have a : IntKind.i64.min ≤ z ∧ z ≤ IntKind.i64.max := by
    have e1 : IntKind.i64.min = -9223372036854775808 := by decide
    have e2 : IntKind.i64.max = 9223372036854775807 := by decide
    rw [e1, e2]; omega
  simp only [if_pos a]
theorem le_log {x b : Nat} (h0 : 0 < x) (h : x < 2 ^ (b + 1)) : x.log2 ≤ b := by
  have := (Nat.log2_lt (by omega)).2 h
  omega
theorem fint (x : Nat) (h0 : 0 < x) (h : x < 2 ^ 41) : ∃ g : Nat, g ≤ 40 ∧ 2 ^ g ≤ x ∧ x < 2 ^ (g + 1) :=
  ⟨x.log2, le_log h0 h, Nat.log2_self_le (by omega), Nat.lt_log2_self⟩
theorem fmul (s n : Nat) (hs : 0 < s) (hs1 : s ≤ 1048576) (hn : 0 < n) (hn1 : n ≤ 1048576) : ∃ g, g ≤ 40 ∧ 2 ^ g ≤ s * n ∧ s * n < 2 ^ (g + 1) ∧ floatBits .mul FloatKind.f64 (floatOfInt FloatKind.f64 (s : Int)) (floatOfInt FloatKind.f64 (n : Int)) = some (fb g (s * n)) := by
  have hm : s * n ≤ 1048576 * 1048576 := Nat.mul_le_mul hs1 hn1
  obtain ⟨e, e0, e1, e2⟩ := fint s hs (by omega)
  obtain ⟨d, d0, d1, d2⟩ := fint n hn (by omega)
  obtain ⟨g, g0, g1, g2⟩ := fint (s * n) (Nat.mul_pos hs hn) (by omega)
  exact ⟨g, g0, g1, g2, by rw [fb_int (by omega) e1 e2, fb_int (by omega) d1 d2]; exact fb_mul (by omega) e1 e2 (by omega) d1 d2 (by omega) g1 g2⟩
/-- At the whole number x: past the last cell, or in the cell x / s. -/
theorem place_ge (e x s n : Nat) (w : World) (he : e ≤ 51) (h1 : 2 ^ e ≤ x) (h2 : x < 2 ^ (e + 1)) (s0 : 0 < s) (s1 : s ≤ 1048576) (n0 : 0 < n) (n1 : n ≤ 1048576) (h : s * n ≤ x) : Calls Tryd.prog 50 #[.int .u64 (fb e x : Int), .int .i64 s, .int .i64 n] w fun e w' => e = .returned (.int .i64 ((n : Int) - 1)) ∧ w' = w := by
  obtain ⟨g, g0, g1, g2, gm⟩ := fmul s n s0 s1 n0 n1
  obtain ⟨a1, a2, a3⟩ := fb_self he h1 h2
  refine place_hi (fb e x) s n _ w (by omega) (by omega) (by omega) (by omega) a1 a2 gm ?_
  have ho := fb_order he h1 h2 (by omega) g1 g2
  rcases Nat.lt_or_eq_of_le h with h | h
  · exact Or.inl (ho.trans (by rw [Nat.compare_eq_gt.2 h]))
  · exact Or.inr (ho.trans (by rw [Nat.compare_eq_eq.2 h.symm]))
theorem place_lt (e x s n : Nat) (w : World) (he : e ≤ 40) (h1 : 2 ^ e ≤ x) (h2 : x < 2 ^ (e + 1)) (hx : x ≤ 1099511627776) (s0 : 0 < s) (s1 : s ≤ 1048576) (n0 : 0 < n) (n1 : n ≤ 1048576) (h : x < s * n) : Calls Tryd.prog 50 #[.int .u64 (fb e x : Int), .int .i64 s, .int .i64 n] w fun e w' => e = .returned (.int .i64 (min ((x : Int) / s) (n - 1))) ∧ w' = w := by
  obtain ⟨g, g0, g1, g2, gm⟩ := fmul s n s0 s1 n0 n1
  obtain ⟨a1, a2, a3⟩ := fb_self (show e ≤ 51 by omega) h1 h2
  refine place_lo (fb e x) s n x _ w (by omega) (by omega) (by omega) (by omega) a1 a2 gm ?_ (toval_of a3 (by omega) (by omega)) (by omega) (by omega)
  exact (fb_order (show e ≤ 51 by omega) h1 h2 (by omega) g1 g2).trans (by rw [Nat.compare_eq_lt.2 h])
/-- At the float below the whole number x. -/
theorem place_pred (e x s n : Nat) (w : World) (he : e ≤ 40) (h1 : 2 ^ e ≤ x) (h2 : x < 2 ^ (e + 1)) (hx : x ≤ 1099511627776) (s0 : 0 < s) (s1 : s ≤ 1048576) (n0 : 0 < n) (n1 : n ≤ 1048576) (h : x ≤ s * n) : Calls Tryd.prog 50 #[.int .u64 ((fb e x - 1 : Nat) : Int), .int .i64 s, .int .i64 n] w fun e w' => e = .returned (.int .i64 (min (((x : Int) - 1) / s) (n - 1))) ∧ w' = w := by
  have hx0 : 0 < x := Nat.lt_of_lt_of_le (pow_pos2 e) h1
  obtain ⟨g, g0, g1, g2, gm⟩ := fmul s n s0 s1 n0 n1
  obtain ⟨a1, a2, a3⟩ := pred_self (show e ≤ 51 by omega) h1 h2
  have hc : ((x - 1 : Nat) : Int) = (x : Int) - 1 := by omega
  rw [hc] at a3
  exact place_lo (fb e x - 1) s n ((x : Int) - 1) _ w (by omega) (by omega) (by omega) (by omega) a1 a2 gm (pred_order (show e ≤ 51 by omega) h1 h2 (by omega) g1 g2 h) (toval_of a3 (by omega) (by omega)) (by omega) (by omega)
end Go.Proofs.YtcempbgbdlmjfaaDoor
