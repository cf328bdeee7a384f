/-
  lapwinglaw22.MousePlace: the walk: for any two numbers it answers true.
-/
import Derived.Test.YtcempbgbdlmjfaaDoorMsW
namespace Go.Proofs.YtcempbgbdlmjfaaDoor
open Go.RowKit

theorem and_ofM (k : Int) (n : Nat) (hn : n ≤ 62) (y : Int) (hy : y = ((2 ^ n - 1 : Nat) : Int)) : ∃ m : Nat, bits .and .i64 k y = (m : Int) ∧ m < 2 ^ n :=
  ⟨_, and_low k n hn y hy, Nat.mod_lt _ (Nat.two_pow_pos n)⟩
theorem and_lowG (m n : Nat) (hn : n ≤ 62) (hm : m < 18446744073709551616) (y : Int) (hy : y = ((2 ^ n - 1 : Nat) : Int)) : bits .and .u64 (m : Int) y = ((m % 2 ^ n : Nat) : Int) := by
  subst hy
  show IntKind.u64.wrap ((BitVec.ofInt 64 (m : Int) &&& BitVec.ofInt 64 ((2 ^ n - 1 : Nat) : Int)).toNat : Int) = _
  have h2 : 2 ^ n ≤ 2 ^ 62 := Nat.pow_le_pow_right (by omega) hn
  have hp : 0 < 2 ^ n := Nat.two_pow_pos n
  rw [BitVec.toNat_and, BitVec.ofInt_natCast, BitVec.ofInt_natCast, BitVec.toNat_ofNat, BitVec.toNat_ofNat, Nat.mod_eq_of_lt (a := 2 ^ n - 1) (by omega), Nat.mod_eq_of_lt (a := m) (by omega), Nat.and_two_pow_sub_one_eq_mod]
  have : m % 2 ^ n < 2 ^ n := Nat.mod_lt _ hp
  exact IntWalk.u64_in _ (by omega)
theorem and_lowU (m : Nat) (hm : m < 18446744073709551616) : bits .and .u64 (m : Int) 4503599627370495 = ((m % 4503599627370496 : Nat) : Int) := and_lowG m 52 (by omega) hm _ (by decide)
theorem at_div {s k x : Nat} (hs : 0 < s) (h : s * k = x) : (x : Int) / s = k := by
  subst h
  push_cast
  rw [Int.mul_comm, Int.mul_ediv_cancel _ (by omega)]
theorem at_pred {s k x : Nat} (hs : 0 < s) (hk : 0 < k) (h : s * k = x) : ((x : Int) - 1) / s = (k : Int) - 1 := by
  subst h
  have h1 : (((s * k : Nat) : Int) - 1) = ((k * s - 1 : Nat) : Int) := by rw [Nat.mul_comm]; have := Nat.mul_pos hk hs; omega
  rw [h1]
  have h2 := pred_div hk hs
  omega
theorem word_fb {e x : Nat} (he : e ≤ 51) (h1 : 2 ^ e ≤ x) (h2 : x < 2 ^ (e + 1)) : IntKind.u64.wrap ((1023 + (e : Int)) * 4503599627370496 + bits .and .u64 (IntKind.u64.wrap ((x : Int) * 2 ^ (52 - e))) 4503599627370495) = (fb e x : Int) := by
  obtain ⟨b1, b2⟩ := mag_bd (by omega) h1 h2
  have c : (x : Int) * 2 ^ (52 - e) = ((x * 2 ^ (52 - e) : Nat) : Int) := by push_cast; rfl
  rw [c]
  unfold fb
  generalize x * 2 ^ (52 - e) = m at *
  rw [IntWalk.u64_in (m : Int) (by omega), and_lowU m (by omega), IntWalk.u64_in _ (by omega)]
  omega
theorem shr_pos {e x : Nat} : decide ((0 : Int) < (x : Int) / 2 ^ (e + 1)) = decide (2 ^ (e + 1) ≤ x) := by
  have c : (x : Int) / 2 ^ (e + 1) = ((x / 2 ^ (e + 1) : Nat) : Int) := by push_cast; rfl
  rw [c]
  have hp := pow_pos2 (e + 1)
  by_cases h : 2 ^ (e + 1) ≤ x
  · have := Nat.div_pos h hp
    rw [decide_eq_true h, decide_eq_true (by omega)]
  · rw [Nat.div_eq_of_lt (by omega), decide_eq_false h]
    rfl
set_option maxRecDepth 100000 in
set_option maxHeartbeats 3200000 in
theorem mp_any (x0 x1 : Int) (w : World) (hM : TabM w) (hT : TabI w) : Calls Tryd.prog 14 #[.int .i64 x0, .int .i64 x1] w fun e w' => e = .returned (.bool true) ∧ Below w.heap.size w w' := by
  obtain ⟨a, ha, ha2⟩ := and_ofM x0 8 (by omega) 255 (by rfl)
  obtain ⟨b, hb, hb2⟩ := and_ofM x1 8 (by omega) 255 (by rfl)
  obtain ⟨s, hs⟩ : ∃ s : Nat, a + 1 = s := ⟨_, rfl⟩
  obtain ⟨k, hk⟩ : ∃ k : Nat, b + 1 = k := ⟨_, rfl⟩
  have s0 : 0 < s := by omega
  have s1 : s ≤ 256 := by omega
  have k0 : 0 < k := by omega
  have k1 : k ≤ 256 := by omega
  have eas : (1 : Int) + a = s := by omega
  have ebk : (1 : Int) + b = k := by omega
  obtain ⟨x, hx⟩ : ∃ x : Nat, s * k = x := ⟨_, rfl⟩
  have hxi : (s : Int) * k = x := by rw [← hx]; push_cast; rfl
  have x0' : 0 < x := by rw [← hx]; exact Nat.mul_pos s0 k0
  have x1' : x ≤ 65536 := by rw [← hx]; exact Nat.mul_le_mul s1 k1
  have HX := Lib.hid hx
  clear hx hs hk
  go_enter Tryd.func14, Tryd.ntmps14
  go_wp2_with fail
  refine (awake22_any _ hM hT).mono ?_
  rintro e w1 ⟨rfl, hb1⟩
  have HB1 := Lib.hid hb1
  clear hb1
  go_wp2_with fail
  go_loopw [9] (fun i wr => ∃ e : Nat, e ≤ 16 ∧ i = .int .i64 e ∧ 2 ^ e ≤ x ∧ wr = w1) (fun i _ => 17 - (intOf i).toNat)
  case atStart => exact ⟨0, by omega, rfl, x0', rfl⟩
  case round =>
    obtain ⟨e, he, rfl, hle, rfl⟩ := hrel
    have HLE := Lib.hid hle
    by_cases hlt : 2 ^ (e + 1) ≤ x
    · have hg : decide ((0 : Int) < (x : Int) / 2 ^ (e + 1)) = true := by rw [shr_pos]; exact decide_eq_true hlt
      have e15 : e < 16 := by
        apply Classical.byContradiction
        intro hc
        have : 2 ^ 17 ≤ 2 ^ (e + 1) := Nat.pow_le_pow_right (by omega) (by omega)
        omega
      have HLT := Lib.hid hlt
      clear hlt hle
      go_wp2_with fail
      refine ⟨⟨e + 1, by omega, rfl, HLT.out, trivial⟩, ?_⟩
      simp only [intOf]
      omega
    · have hg : decide ((0 : Int) < (x : Int) / 2 ^ (e + 1)) = false := by rw [shr_pos]; exact decide_eq_false hlt
      have hw := word_fb (show e ≤ 51 by omega) hle (show x < 2 ^ (e + 1) by omega)
      have hf0 : 1 ≤ fb e x := by unfold fb; omega
      have hf1 : fb e x ≤ 9223372036854775807 := by
        have := (mag_bd (show e ≤ 52 by omega) hle (show x < 2 ^ (e + 1) by omega)).2
        unfold fb; omega
      have HLT := Lib.hid (show x < 2 ^ (e + 1) by omega)
      have hkk : s * k < s * 1048576 := Nat.mul_lt_mul_of_pos_left (by omega) s0
      have P1 : ∀ W, Calls Tryd.prog 50 #[.int .u64 (fb e x : Int), .int .i64 s, .int .i64 1048576] W fun e w' => e = .returned (.int .i64 k) ∧ w' = W := fun W => by
        have := place_lt e x s 1048576 W (by omega) hle HLT.out (by omega) s0 (by omega) (by omega) (by omega) (by rw [← HX.out]; exact hkk)
        rw [at_div s0 HX.out, show min (k : Int) (((1048576 : Nat) : Int) - 1) = k by omega] at this
        exact this
      have P2 : ∀ W, Calls Tryd.prog 50 #[.int .u64 ((fb e x : Int) - 1), .int .i64 s, .int .i64 1048576] W fun e w' => e = .returned (.int .i64 ((k : Int) - 1)) ∧ w' = W := fun W => by
        have := place_pred e x s 1048576 W (by omega) hle HLT.out (by omega) s0 (by omega) (by omega) (by omega) (by rw [← HX.out]; exact Nat.le_of_lt hkk)
        rw [at_pred s0 k0 HX.out, show min ((k : Int) - 1) (((1048576 : Nat) : Int) - 1) = (k : Int) - 1 by omega, show ((fb e x - 1 : Nat) : Int) = (fb e x : Int) - 1 by omega] at this
        exact this
      have P3 : ∀ W, Calls Tryd.prog 50 #[.int .u64 (fb e x : Int), .int .i64 s, .int .i64 k] W fun e w' => e = .returned (.int .i64 ((k : Int) - 1)) ∧ w' = W := fun W =>
        place_ge e x s k W (by omega) hle HLT.out s0 (by omega) k0 (by omega) (Nat.le_of_eq HX.out)
      have P4 : ∀ W, Calls Tryd.prog 50 #[.int .u64 (fb e x : Int), .int .i64 s, .int .i64 1] W fun e w' => e = .returned (.int .i64 0) ∧ w' = W := fun W =>
        place_ge e x s 1 W (by omega) hle HLT.out s0 (by omega) (by omega) (by omega) (by rw [← HX.out]; exact Nat.mul_le_mul_left s k0)
      clear hkk
      obtain ⟨F, hF⟩ : ∃ F, fb e x = F := ⟨_, rfl⟩
      rw [hF] at hw hf0 hf1 P1 P2 P3 P4
      have HF := Lib.hid hF
      clear hlt hle hF
      go_wp2_with fail
      refine (P1 _).mono ?_
      rintro _ _ ⟨rfl, rfl⟩
      go_wp2_with fail
      refine (P2 _).mono ?_
      rintro _ _ ⟨rfl, rfl⟩
      go_wp2_with fail
      refine (P3 _).mono ?_
      rintro _ _ ⟨rfl, rfl⟩
      go_wp2_with fail
      refine (P4 _).mono ?_
      rintro _ _ ⟨rfl, rfl⟩
      go_wp2_with fail
      go_ret
      exact ⟨rfl, HB1.out⟩
end Go.Proofs.YtcempbgbdlmjfaaDoor
