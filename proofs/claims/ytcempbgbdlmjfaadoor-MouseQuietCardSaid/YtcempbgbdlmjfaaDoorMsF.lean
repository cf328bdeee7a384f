/-
  mouse: plain facts on floats that are whole numbers.
-/
import Derived.Laws.FloatArith
namespace Go.Proofs.YtcempbgbdlmjfaaDoor
open Ieee

theorem f_sw : double.signWeight = 9223372036854775808 := by decide
theorem f_bin : double.binade = 4503599627370496 := by decide
theorem f_inf : double.infRung = 9218868437227405312 := by decide
theorem f_lp : double.leastPlace = -1074 := by decide
theorem f_fb : double.fractionBits = 52 := rfl

theorem read_norm (E m : Nat) (hE : E ≤ 2045) (h1 : 4503599627370496 ≤ m) (h2 : m < 9007199254740992) : double.read (E * 4503599627370496 + m) = .number false m ((E : Int) - 1074) := by
  unfold Format.read
  simp only [f_sw, f_bin, f_inf, f_lp]
  have e1 : (E * 4503599627370496 + m) / 9223372036854775808 % 2 = 0 := by omega
  have e2 : (E * 4503599627370496 + m) % 9223372036854775808 = E * 4503599627370496 + m := by omega
  rw [e1, e2]
  have e3 : ¬ (E * 4503599627370496 + m < 4503599627370496) := by omega
  have e4 : E * 4503599627370496 + m < 9218868437227405312 := by omega
  rw [if_neg e3, if_pos e4]
  have e5 : 4503599627370496 + (E * 4503599627370496 + m) % 4503599627370496 = m := by omega
  have e6 : ((E * 4503599627370496 + m) / 4503599627370496 - 1 : Nat) = E := by omega
  rw [e5, e6]
  have e7 : (-1074 : Int) + (E : Int) = (E : Int) - 1074 := by omega
  rw [e7]
  rfl
/-- The float of a whole number x with 2^e ≤ x < 2^(e+1). -/
def fb (e x : Nat) : Nat := (1022 + e) * 4503599627370496 + x * 2 ^ (52 - e)
theorem mag_bd {e x : Nat} (he : e ≤ 52) (h1 : 2 ^ e ≤ x) (h2 : x < 2 ^ (e + 1)) : 4503599627370496 ≤ x * 2 ^ (52 - e) ∧ x * 2 ^ (52 - e) < 9007199254740992 := by
  have p : 2 ^ e * 2 ^ (52 - e) = 4503599627370496 := by rw [← Nat.pow_add, show e + (52 - e) = 52 by omega]
  have p2 : 2 ^ (e + 1) * 2 ^ (52 - e) = 9007199254740992 := by rw [← Nat.pow_add, show e + 1 + (52 - e) = 53 by omega]
  have hp : 0 < 2 ^ (52 - e) := Nat.pow_pos (by decide)
  exact ⟨p ▸ Nat.mul_le_mul_right _ h1, p2 ▸ Nat.mul_lt_mul_of_pos_right h2 hp⟩
theorem read_fb {e x : Nat} (he : e ≤ 52) (h1 : 2 ^ e ≤ x) (h2 : x < 2 ^ (e + 1)) : double.read (fb e x) = .number false (x * 2 ^ (52 - e)) ((e : Int) - 52) := by
  obtain ⟨a, b⟩ := mag_bd he h1 h2
  unfold fb
  rw [read_norm (1022 + e) _ (by omega) a b]
  congr 1
  omega
theorem log2_of {e x : Nat} (h1 : 2 ^ e ≤ x) (h2 : x < 2 ^ (e + 1)) : x.log2 = e := by
  have hx : x ≠ 0 := by have := Nat.pow_pos (n := e) (show 0 < 2 by decide); omega
  have a := (Nat.le_log2 hx).2 h1
  have b := (Nat.log2_lt hx).2 h2
  omega
theorem near_fb {e x a : Nat} (he : e ≤ 52) (h1 : 2 ^ e ≤ x) (h2 : x < 2 ^ (e + 1)) : double.nearest false (x * 2 ^ a) (-(a : Int)) = fb e x := by
  obtain ⟨b1, b2⟩ := mag_bd he h1 h2
  have hx : 0 < x := Nat.lt_of_lt_of_le (Nat.pow_pos (by decide)) h1
  have hpa : 0 < 2 ^ a := Nat.pow_pos (by decide)
  have hne : ¬ (x * 2 ^ a = 0) := by have := Nat.mul_pos hx hpa; omega
  have hl : (x * 2 ^ a).log2 = e + a := by
    refine log2_of ?_ ?_
    · rw [Nat.pow_add]; exact Nat.mul_le_mul_right _ h1
    · rw [show e + a + 1 = (e + 1) + a by omega, Nat.pow_add]; exact Nat.mul_lt_mul_of_pos_right h2 hpa
  unfold Format.nearest
  rw [if_neg hne]
  simp only [f_lp, f_fb, f_bin, f_inf, hl]
  have hm : max (-(a : Int) + ((e + a : Nat) : Int) - ((52 : Nat) : Int)) (-1074) = (e : Int) - 52 := by omega
  rw [hm]
  have e1 : ((e : Int) - 52 - -1074).toNat = 1022 + e := by omega
  rw [e1]
  have key : Toward.even.cut false ((x * 2 ^ a) <<< (-(a : Int) - ((e : Int) - 52)).toNat) ((e : Int) - 52 - -(a : Int)).toNat = x * 2 ^ (52 - e) := by
    by_cases hc : a + e ≤ 52
    · have e2 : (-(a : Int) - ((e : Int) - 52)).toNat = 52 - e - a := by omega
      have e3 : ((e : Int) - 52 - -(a : Int)).toNat = 0 := by omega
      rw [e2, e3, Nat.shiftLeft_eq, Nat.mul_assoc, ← Nat.pow_add, show a + (52 - e - a) = 52 - e by omega]
      unfold Toward.cut
      simp [Nat.mod_one]
    · have e2 : (-(a : Int) - ((e : Int) - 52)).toNat = 0 := by omega
      have e3 : ((e : Int) - 52 - -(a : Int)).toNat = a + e - 52 := by omega
      rw [e2, e3]
      unfold Toward.cut
      have e4 : min (a + e - 52) (((x * 2 ^ a) <<< 0).log2 + 2) = a + e - 52 := by
        rw [Nat.shiftLeft_zero, hl]; omega
      rw [e4, Nat.shiftLeft_zero]
      have e5 : x * 2 ^ a = x * 2 ^ (52 - e) * (1 <<< (a + e - 52)) := by
        rw [Nat.shiftLeft_eq, Nat.one_mul, Nat.mul_assoc, ← Nat.pow_add, show 52 - e + (a + e - 52) = a by omega]
      have hg : 0 < 1 <<< (a + e - 52) := by rw [Nat.shiftLeft_eq, Nat.one_mul]; exact Nat.pow_pos (by decide)
      have e6 : x * 2 ^ a / (1 <<< (a + e - 52)) = x * 2 ^ (52 - e) := by rw [e5]; exact Nat.mul_div_cancel _ hg
      have e7 : x * 2 ^ a % (1 <<< (a + e - 52)) = 0 := by rw [e5]; exact Nat.mul_mod_left _ _
      simp only [e6, e7]
      have e8 : ¬ (1 <<< (a + e - 52) < 2 * 0) := by omega
      have e9 : ¬ (1 <<< (a + e - 52) = 2 * 0) := by omega
      simp [e8]
  rw [key]
  unfold Format.word fb
  rw [if_neg (by decide)]
  exact Nat.min_eq_left (by omega)
theorem pow_pos2 (n : Nat) : 0 < 2 ^ n := Nat.pow_pos (by decide)
theorem order_num {m n : Nat} {i j : Int} (hi : -53 ≤ i) (hj : -53 ≤ j) : Datum.order (.number false m i) (.number false n j) = some (compare (m * 2 ^ (i + 53).toNat) (n * 2 ^ (j + 53).toNat)) := by
  unfold Datum.order
  simp only [signed, Bool.false_eq_true, if_false, Nat.shiftLeft_eq]
  congr 1
  have e1 : m * 2 ^ (i + 53).toNat = m * 2 ^ (i - min i j).toNat * 2 ^ (min i j + 53).toNat := by
    rw [Nat.mul_assoc, ← Nat.pow_add, show (i - min i j).toNat + (min i j + 53).toNat = (i + 53).toNat by omega]
  have e2 : n * 2 ^ (j + 53).toNat = n * 2 ^ (j - min i j).toNat * 2 ^ (min i j + 53).toNat := by
    rw [Nat.mul_assoc, ← Nat.pow_add, show (j - min i j).toNat + (min i j + 53).toNat = (j + 53).toNat by omega]
  rw [e1, e2]
  generalize m * 2 ^ (i - min i j).toNat = a
  generalize n * 2 ^ (j - min i j).toNat = b
  have hp := pow_pos2 (min i j + 53).toNat
  generalize 2 ^ (min i j + 53).toNat = c at hp
  rcases Nat.lt_trichotomy a b with h | h | h
  · rw [Nat.compare_eq_lt.2 (Nat.mul_lt_mul_of_pos_right h hp), Int.compare_eq_lt.2 (by omega)]
  · subst h
    rw [Nat.compare_eq_eq.2 rfl, Int.compare_eq_eq.2 rfl]
  · rw [Nat.compare_eq_gt.2 (Nat.mul_lt_mul_of_pos_right h hp), Int.compare_eq_gt.2 (by omega)]
theorem order_zero {m : Nat} {i : Int} (hm : 0 < m) : Datum.order (.number false m i) (.number false 0 (-1074)) = some .gt := by
  unfold Datum.order
  simp only [signed, Bool.false_eq_true, if_false, Nat.shiftLeft_eq, Nat.zero_mul]
  congr 1
  have := Nat.mul_pos hm (pow_pos2 (i - min i (-1074)).toNat)
  exact Int.compare_eq_gt.2 (by omega)
theorem toInt_num {m d : Nat} (hd : d ≤ m.log2 + 2) : (Datum.number false m (-(d : Int))).toInt .zero = some ((m / 2 ^ d : Nat) : Int) := by
  unfold Datum.toInt Datum.integral Toward.cut
  have e1 : (-(d : Int)).toNat = 0 := by omega
  have e2 : (- -(d : Int)).toNat = d := by omega
  simp only [e1, e2, Nat.min_eq_left hd, signed, Bool.false_eq_true, if_false, Nat.shiftLeft_eq, Nat.one_mul, Bool.toNat_false, Nat.add_zero, Nat.pow_zero, Nat.mul_one]
theorem pred_div {x q : Nat} (hx : 0 < x) (hq : 0 < q) : (x * q - 1) / q = x - 1 := by
  have h : x * q - 1 = (q - 1) + (x - 1) * q := by
    obtain ⟨y, rfl⟩ : ∃ y, x = y + 1 := ⟨x - 1, by omega⟩
    rw [Nat.succ_mul, Nat.add_sub_cancel]
    omega
  rw [h, Nat.add_mul_div_right _ _ hq, Nat.div_eq_of_lt (by omega)]
  omega
theorem read_pred {e x : Nat} (he : e ≤ 51) (h1 : 2 ^ e ≤ x) (h2 : x < 2 ^ (e + 1)) : ∃ m d : Nat, double.read (fb e x - 1) = .number false m (-(d : Int)) ∧ d ≤ 53 ∧ 4503599627370496 ≤ m ∧ m * 2 ^ (53 - d) < x * 2 ^ 53 ∧ m / 2 ^ d = x - 1 := by
  obtain ⟨b1, b2⟩ := mag_bd (by omega) h1 h2
  have hx : 0 < x := Nat.lt_of_lt_of_le (pow_pos2 e) h1
  have hq := pow_pos2 (52 - e)
  have hs : 2 ^ (52 - e) * 2 ^ (e + 1) = 2 ^ 53 := by rw [← Nat.pow_add, show 52 - e + (e + 1) = 53 by omega]
  have hr := pow_pos2 (e + 1)
  by_cases hc : x * 2 ^ (52 - e) = 4503599627370496
  · refine ⟨9007199254740991, 53 - e, ?_, by omega, by decide, ?_, ?_⟩
    · have : fb e x - 1 = (1021 + e) * 4503599627370496 + 9007199254740991 := by unfold fb; omega
      rw [this, read_norm _ _ (by omega) (by decide) (by decide)]
      congr 1
      omega
    · have h3 : x * 2 ^ 53 = 9007199254740992 * 2 ^ e := by
        rw [← hs, ← Nat.mul_assoc, hc, Nat.pow_succ]; omega
      rw [h3, show 53 - (53 - e) = e by omega]
      exact Nat.mul_lt_mul_of_pos_right (by decide) (pow_pos2 e)
    · have h4 : (9007199254740991 : Nat) = x * 2 ^ (53 - e) - 1 := by
        rw [show 53 - e = (52 - e) + 1 by omega, Nat.pow_succ, ← Nat.mul_assoc, hc]
      rw [h4]
      exact pred_div hx (pow_pos2 _)
  · refine ⟨x * 2 ^ (52 - e) - 1, 52 - e, ?_, by omega, by omega, ?_, pred_div hx hq⟩
    · have : fb e x - 1 = (1022 + e) * 4503599627370496 + (x * 2 ^ (52 - e) - 1) := by unfold fb; omega
      rw [this, read_norm _ _ (by omega) (by omega) (by omega)]
      congr 1
      omega
    · rw [show 53 - (52 - e) = e + 1 by omega, ← hs, ← Nat.mul_assoc]
      exact Nat.mul_lt_mul_of_pos_right (by omega) hr
theorem log2_big {m : Nat} (h : 4503599627370496 ≤ m) : 52 ≤ m.log2 := (Nat.le_log2 (by omega)).2 h
theorem read_zero : double.read 0 = .number false 0 (-1074) := by decide
/-- What Place asks of the float of a whole number. -/
theorem fb_self {e x : Nat} (he : e ≤ 51) (h1 : 2 ^ e ≤ x) (h2 : x < 2 ^ (e + 1)) : double.order (fb e x) (fb e x) = some .eq ∧ double.order (fb e x) 0 = some .gt ∧ (double.read (fb e x)).toInt .zero = some (x : Int) := by
  obtain ⟨b1, b2⟩ := mag_bd (by omega) h1 h2
  unfold Format.order
  rw [read_fb (by omega) h1 h2, read_zero]
  refine ⟨?_, order_zero (by omega), ?_⟩
  · rw [order_num (by omega) (by omega), Nat.compare_eq_eq.2 rfl]
  · have e1 : (e : Int) - 52 = -((52 - e : Nat) : Int) := by omega
    rw [e1, toInt_num (by have := log2_big b1; omega), Nat.mul_div_cancel _ (pow_pos2 _)]
theorem fb_order {e x d y : Nat} (he : e ≤ 51) (h1 : 2 ^ e ≤ x) (h2 : x < 2 ^ (e + 1)) (hd : d ≤ 51) (h3 : 2 ^ d ≤ y) (h4 : y < 2 ^ (d + 1)) : double.order (fb e x) (fb d y) = some (compare x y) := by
  unfold Format.order
  rw [read_fb (by omega) h1 h2, read_fb (by omega) h3 h4, order_num (by omega) (by omega)]
  have a1 : x * 2 ^ (52 - e) * 2 ^ ((e : Int) - 52 + 53).toNat = x * 2 ^ 53 := by rw [Nat.mul_assoc, ← Nat.pow_add, show 52 - e + ((e : Int) - 52 + 53).toNat = 53 by omega]
  have a2 : y * 2 ^ (52 - d) * 2 ^ ((d : Int) - 52 + 53).toNat = y * 2 ^ 53 := by rw [Nat.mul_assoc, ← Nat.pow_add, show 52 - d + ((d : Int) - 52 + 53).toNat = 53 by omega]
  rw [a1, a2]
  congr 1
  rcases Nat.lt_trichotomy x y with h | h | h
  · rw [Nat.compare_eq_lt.2 h, Nat.compare_eq_lt.2 (by omega)]
  · subst h
    rw [Nat.compare_eq_eq.2 rfl, Nat.compare_eq_eq.2 rfl]
  · rw [Nat.compare_eq_gt.2 h, Nat.compare_eq_gt.2 (by omega)]
theorem pred_self {e x : Nat} (he : e ≤ 51) (h1 : 2 ^ e ≤ x) (h2 : x < 2 ^ (e + 1)) : double.order (fb e x - 1) (fb e x - 1) = some .eq ∧ double.order (fb e x - 1) 0 = some .gt ∧ (double.read (fb e x - 1)).toInt .zero = some ((x - 1 : Nat) : Int) := by
  obtain ⟨m, d, hr, hd, hm, hl, hq⟩ := read_pred he h1 h2
  unfold Format.order
  rw [hr, read_zero]
  refine ⟨?_, order_zero (by omega), ?_⟩
  · rw [order_num (by omega) (by omega), Nat.compare_eq_eq.2 rfl]
  · rw [toInt_num (by have := log2_big hm; omega), hq]
theorem pred_order {e x d y : Nat} (he : e ≤ 51) (h1 : 2 ^ e ≤ x) (h2 : x < 2 ^ (e + 1)) (hd : d ≤ 51) (h3 : 2 ^ d ≤ y) (h4 : y < 2 ^ (d + 1)) (hxy : x ≤ y) : double.order (fb e x - 1) (fb d y) = some .lt := by
  obtain ⟨m, d', hr, hd', hm, hl, hq⟩ := read_pred he h1 h2
  unfold Format.order
  rw [hr, read_fb (by omega) h3 h4, order_num (by omega) (by omega)]
  have a2 : y * 2 ^ (52 - d) * 2 ^ ((d : Int) - 52 + 53).toNat = y * 2 ^ 53 := by rw [Nat.mul_assoc, ← Nat.pow_add, show 52 - d + ((d : Int) - 52 + 53).toNat = 53 by omega]
  have a1 : (-(d' : Int) + 53).toNat = 53 - d' := by omega
  rw [a1, a2, Nat.compare_eq_lt.2 (Nat.lt_of_lt_of_le hl (Nat.mul_le_mul_right _ hxy))]
theorem fb_mul {e x d y g : Nat} (he : e ≤ 51) (h1 : 2 ^ e ≤ x) (h2 : x < 2 ^ (e + 1)) (hd : d ≤ 51) (h3 : 2 ^ d ≤ y) (h4 : y < 2 ^ (d + 1)) (hg : g ≤ 51) (h5 : 2 ^ g ≤ x * y) (h6 : x * y < 2 ^ (g + 1)) : floatBits .mul FloatKind.f64 (fb e x) (fb d y) = some (fb g (x * y)) := by
  show double.mul (fb e x) (fb d y) = _
  unfold Format.mul
  rw [read_fb (by omega) h1 h2, read_fb (by omega) h3 h4]
  unfold Datum.product
  show some (double.nearest false (x * 2 ^ (52 - e) * (y * 2 ^ (52 - d))) ((e : Int) - 52 + ((d : Int) - 52))) = _
  have a1 : x * 2 ^ (52 - e) * (y * 2 ^ (52 - d)) = x * y * 2 ^ (104 - e - d) := by
    rw [show 104 - e - d = (52 - e) + (52 - d) by omega, Nat.pow_add]
    simp only [Nat.mul_assoc, Nat.mul_left_comm]
  have a2 : (e : Int) - 52 + ((d : Int) - 52) = -((104 - e - d : Nat) : Int) := by omega
  rw [a1, a2, near_fb (by omega) h5 h6]
theorem fb_int {e x : Nat} (he : e ≤ 51) (h1 : 2 ^ e ≤ x) (h2 : x < 2 ^ (e + 1)) : floatOfInt FloatKind.f64 (x : Int) = fb e x := by
  have a := near_fb (a := 0) (by omega) h1 h2
  rw [Nat.pow_zero, Nat.mul_one] at a
  show double.nearest (decide ((x : Int) < 0)) (x : Int).natAbs 0 = _
  rw [show decide ((x : Int) < 0) = false from decide_eq_false (by omega), Int.natAbs_natCast]
  exact a
end Go.Proofs.YtcempbgbdlmjfaaDoor
