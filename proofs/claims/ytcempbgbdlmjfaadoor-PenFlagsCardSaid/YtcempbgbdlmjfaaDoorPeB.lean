/-
  pen: the walks of isByte, bounded, RGB, Parts.
-/
import Derived.Test.YtcempbgbdlmjfaaDoorPeA
namespace Go.Proofs.YtcempbgbdlmjfaaDoor
open Go.RowKit

theorem isbyte_any (c : Int) (w : World) : Calls Tryd.prog 91 #[.int .i64 c] w fun e w' => e = .returned (.bool (isByteF c)) ∧ w = w' := by
  by_cases h0 : 0 ≤ c
  · have d0 : decide (0 ≤ c) = true := by simp; omega
    go_enter Tryd.func91, Tryd.ntmps91
    go_wp2
    go_ret
    exact ⟨ret_bool (by rw [Bool.eq_iff_iff]; simp [isByteF]; omega), rfl⟩
  · have d0 : decide (0 ≤ c) = false := by simp; omega
    go_enter Tryd.func91, Tryd.ntmps91
    go_wp2
    go_ret
    exact ⟨ret_bool (by rw [Bool.eq_iff_iff]; simp [isByteF]; omega), rfl⟩
theorem bounded_any (c : Int) (w : World) : Calls Tryd.prog 68 #[.int .i64 c] w fun e w' => e = .returned (.int .i64 (bndF c)) ∧ w = w' := by
  go_enter Tryd.func68, Tryd.ntmps68
  go_wp2
  all_goals
    go_ret
    exact ⟨ret_int (by unfold bndF; omega), rfl⟩
theorem bnd_bd (c : Int) : 0 ≤ bndF c ∧ bndF c ≤ 255 := by unfold bndF; omega
theorem rgb_any (r g b : Int) (w : World) : Calls Tryd.prog 33 #[.int .i64 r, .int .i64 g, .int .i64 b] w fun e w' => e = .returned (.int .i64 (rgbF r g b)) ∧ w = w' := by
  obtain ⟨x, hx⟩ : ∃ x, bndF r = x := ⟨_, rfl⟩
  obtain ⟨y, hy⟩ : ∃ y, bndF g = y := ⟨_, rfl⟩
  obtain ⟨z, hz⟩ : ∃ z, bndF b = z := ⟨_, rfl⟩
  have bx := bnd_bd r
  have by' := bnd_bd g
  have bz := bnd_bd b
  rw [hx] at bx
  rw [hy] at by'
  rw [hz] at bz
  obtain ⟨bx0, bx1⟩ := bx
  obtain ⟨by0, by1⟩ := by'
  obtain ⟨bz0, bz1⟩ := bz
  have HX := Lib.hid hx; have HY := Lib.hid hy; have HZ := Lib.hid hz
  clear hx hy hz
  go_enter Tryd.func33, Tryd.ntmps33
  go_wp2_with fail
  refine (bounded_any r _).mono ?_
  rintro e w1 ⟨rfl, rfl⟩
  simp only [HX.out]
  go_wp2_with fail
  refine (bounded_any g _).mono ?_
  rintro e w1 ⟨rfl, rfl⟩
  simp only [HY.out]
  go_wp2_with fail
  refine (bounded_any b _).mono ?_
  rintro e w1 ⟨rfl, rfl⟩
  simp only [HZ.out]
  go_wp2_with fail
  go_ret
  exact ⟨ret_int (by unfold rgbF; rw [HX.out, HY.out, HZ.out]), rfl⟩

theorem and_255 (x : Int) (h0 : 0 ≤ x) (h1 : x < 4294967296) : bits .and .i64 x 255 = x % 256 := by
  obtain ⟨a, rfl⟩ := Int.eq_ofNat_of_zero_le h0
  have := and_low (a : Int) 8 (by omega) 255 (by decide)
  rw [this, BitVec.ofInt_natCast, BitVec.toNat_ofNat, Nat.mod_eq_of_lt (a := a) (by omega)]
  simp
theorem iscol_iff (c : Int) : isCol c = true ↔ (0 ≤ c ∧ c ≤ 256) ∨ (16777216 ≤ c ∧ c < 33554432) := by simp [isCol]
def PartsRet (c : Int) (w : World) (e : Ending) (w' : World) : Prop := e = .returned (.tuple #[.int .i64 (partsF c).1, .int .i64 (partsF c).2.1, .int .i64 (partsF c).2.2.1, .int .i64 (partsF c).2.2.2]) ∧ w = w'
set_option maxHeartbeats 800000 in
theorem parts_any (c : Int) (w : World) : Calls Tryd.prog 34 #[.int .i64 c] w (PartsRet c w) := by
  by_cases h0 : c = 0
  · subst h0
    go_enter Tryd.func34, Tryd.ntmps34
    go_wp2
    exact bodyPost_ret (v := .tuple #[.int .i64 0, .int .i64 0, .int .i64 0, .int .i64 0]) (by simp [results, Tryd.results34, go_sem]) rfl ⟨rfl, rfl⟩
  have d0 : (c == 0) = false := beq_eq_false_iff_ne.2 h0
  by_cases h1 : 1 ≤ c ∧ c ≤ 256
  · have hp : partsF c = (1, c - 1, 0, 0) := by unfold partsF; rw [if_neg h0, if_pos h1]
    have HP := Lib.hid hp
    obtain ⟨h1, h2⟩ := h1
    clear h0 hp
    go_enter Tryd.func34, Tryd.ntmps34
    go_wp2
    exact bodyPost_ret (v := .tuple #[.int .i64 1, .int .i64 (c - 1), .int .i64 0, .int .i64 0]) (by simp [results, Tryd.results34, go_sem]) rfl ⟨by rw [HP.out], rfl⟩
  cases hc : isCol c with
  | true =>
    have hr : 16777216 ≤ c ∧ c < 33554432 := by have := (iscol_iff c).1 hc; omega
    have hp : partsF c = (2, c / 65536 % 256, c / 256 % 256, c % 256) := by unfold partsF; rw [if_neg h0, if_neg h1, if_pos hc]
    have e1 := and_255 (c / 65536) (by omega) (by omega)
    have e2 := and_255 (c / 256) (by omega) (by omega)
    have e3 := and_255 c (by omega) (by omega)
    have HP := Lib.hid hp; have HC := Lib.hid hc
    obtain ⟨r1, r2⟩ := hr
    have d1 : decide (1 ≤ c) = true := by simp; omega
    have d2 : decide (c ≤ 256) = false := by simp; omega
    clear h0 h1 hp hc
    go_enter Tryd.func34, Tryd.ntmps34
    go_wp2_with (go_at_call 62; refine (iscol_any c _).mono ?_; rintro e w1 ⟨rfl, rfl⟩; simp only [HC.out])
    exact bodyPost_ret (v := .tuple #[.int .i64 2, .int .i64 (c / 65536 % 256), .int .i64 (c / 256 % 256), .int .i64 (c % 256)]) (by simp [results, Tryd.results34, go_sem]) rfl ⟨by rw [HP.out], rfl⟩
  | false =>
    have hp : partsF c = (3, 0, 0, 0) := by unfold partsF; rw [if_neg h0, if_neg h1, if_neg (by rw [hc]; simp)]
    have HP := Lib.hid hp; have HC := Lib.hid hc
    have hcc : ¬ (1 ≤ c ∧ c ≤ 256) := h1
    clear h0 h1 hp hc
    by_cases r1 : 1 ≤ c
    · have d1 : decide (1 ≤ c) = true := by simp; omega
      have d2 : decide (c ≤ 256) = false := by simp; omega
      clear hcc
      go_enter Tryd.func34, Tryd.ntmps34
      go_wp2_with (go_at_call 62; refine (iscol_any c _).mono ?_; rintro e w1 ⟨rfl, rfl⟩; simp only [HC.out])
      exact bodyPost_ret (v := .tuple #[.int .i64 3, .int .i64 0, .int .i64 0, .int .i64 0]) (by simp [results, Tryd.results34, go_sem]) rfl ⟨by rw [HP.out], rfl⟩
    · have d1 : decide (1 ≤ c) = false := by simp; omega
      clear hcc
      go_enter Tryd.func34, Tryd.ntmps34
      go_wp2_with (go_at_call 62; refine (iscol_any c _).mono ?_; rintro e w1 ⟨rfl, rfl⟩; simp only [HC.out])
      exact bodyPost_ret (v := .tuple #[.int .i64 3, .int .i64 0, .int .i64 0, .int .i64 0]) (by simp [results, Tryd.results34, go_sem]) rfl ⟨by rw [HP.out], rfl⟩
end Go.Proofs.YtcempbgbdlmjfaaDoor
