/-
  ranges: the walk of number.
-/
import Derived.Test.YtcempbgbdlmjfaaRgBackPlain
import Derived.Test.YtcempbgbdlmjfaaBase4
import Derived.Test.YtcempbgbdlmjfaaProg
import Derived.Outline
import Derived.Deep.DeepCutAuto
namespace Go.Proofs.Ytcempbgbdlmjfaa
open Go.RowKit

def bC (b : List Int) : List Value := b.map (.int .u8)
theorem bC_len (b : List Int) : (bC b).length = b.length := by simp [bC]
theorem bC_get (b : List Int) (j : Nat) (h : j < b.length) : (bC b)[j]'(by rw [bC_len]; exact h) = .int .u8 b[j] := by simp [bC]
def BytesI (b : List Int) : Prop := ∀ y ∈ b, 0 ≤ y ∧ y < 256

theorem nbr_end (t k : Nat) (acc : Int) : nbrG (t + 1) k acc [] = (0, 0, 5) := rfl
theorem nbr_next (t k : Nat) (acc x : Int) (xs : List Int) : nbrG (t + 1) k acc (x :: xs) = if 128 ≤ x then nbrG t (k+1) (acc + x % 128 * 128 ^ k) xs
    else if x = 0 ∧ 0 < k then (0, 0, 2) else (acc + x % 128 * 128 ^ k, k + 1, 0) := rfl

theorem and_127 (x : Int) (h : 0 ≤ x ∧ x < 256) : bits .and .u8 x 127 = x % 128 := by
  obtain ⟨n, rfl⟩ := Int.eq_ofNat_of_zero_le h.1
  have hn : n < 256 := by omega
  have : ∀ k : Fin 256, bits .and .u8 (k.1 : Int) 127 = (k.1 : Int) % 128 := by decide +kernel
  exact this ⟨n, hn⟩
theorem or_nat (a b : Nat) (ha : a < 2 ^ 62) (hb : b < 2 ^ 62) : bits .or .i64 (a : Int) (b : Int) = ((a ||| b : Nat) : Int) := by
  show IntKind.i64.wrap ((BitVec.ofInt 64 (a : Int) ||| BitVec.ofInt 64 (b : Int)).toNat : Int) = _
  have hor : a ||| b < 2 ^ 62 := Nat.or_lt_two_pow ha hb
  rw [BitVec.toNat_or, BitVec.ofInt_natCast, BitVec.ofInt_natCast, BitVec.toNat_ofNat, BitVec.toNat_ofNat, Nat.mod_eq_of_lt (a := a) (by omega), Nat.mod_eq_of_lt (a := b) (by omega)]
  exact IntWalk.i64_in _ (by omega)
theorem or_add (acc y : Int) (k : Nat) (hk : k ≤ 3) (h0 : 0 ≤ acc) (h1 : acc < 128 ^ k) (h2 : 0 ≤ y) (h3 : y < 128) : bits .or .i64 acc (y * 128 ^ k) = acc + y * 128 ^ k := by
  obtain ⟨a, rfl⟩ := Int.eq_ofNat_of_zero_le h0
  obtain ⟨z, rfl⟩ := Int.eq_ofNat_of_zero_le h2
  have e : (128 : Int) ^ k = ((2 ^ (7 * k) : Nat) : Int) := by
    rw [Nat.pow_mul]; simp
  have hp : 2 ^ (7 * k) ≤ 2 ^ 21 := Nat.pow_le_pow_right (by omega) (by omega)
  rw [e] at h1 ⊢
  have ha : a < 2 ^ (7 * k) := by omega
  have hz : z < 128 := by omega
  have hm : z * 2 ^ (7 * k) ≤ 127 * 2 ^ 21 := Nat.mul_le_mul (by omega) hp
  have := or_nat a (z * 2 ^ (7 * k)) (by omega) (by omega)
  rw [show ((z : Nat) : Int) * ((2 ^ (7 * k) : Nat) : Int) = ((z * 2 ^ (7 * k) : Nat) : Int) by simp, this, Nat.or_comm, ← Nat.shiftLeft_eq, ← Nat.shiftLeft_add_eq_or_of_lt ha]
  push_cast
  omega
theorem or_step (acc x : Int) (k : Nat) (hk : k ≤ 3) (h0 : 0 ≤ acc) (h1 : acc < 128 ^ k) (hx : 0 ≤ x ∧ x < 256) : bits .or .i64 acc (wrap64 (wrap64 (bits .and .u8 x 127) * 128 ^ k)) = acc + x % 128 * 128 ^ k := by
  have hp : (128 : Int) ^ k ≤ 2097152 := by
    rcases (show k = 0 ∨ k = 1 ∨ k = 2 ∨ k = 3 by omega) with rfl | rfl | rfl | rfl <;> decide
  have hp0 : (0 : Int) < 128 ^ k := Int.pow_pos (by omega)
  have hm : x % 128 * 128 ^ k ≤ 127 * 2097152 := by
    have := Int.mul_le_mul (show x % 128 ≤ 127 by omega) hp (by omega) (by omega)
    exact this
  have hm0 : 0 ≤ x % 128 * 128 ^ k := Int.mul_nonneg (by omega) (by omega)
  rw [and_127 x hx, IntWalk.wrap64_in (x % 128) (by omega), IntWalk.wrap64_in _ (by omega)]
  exact or_add acc (x % 128) k hk h0 h1 (by omega) (by omega)

set_option maxRecDepth 100000 in
set_option maxHeartbeats 1600000 in
theorem number_any (b : List Int) (A : Option Addr) (c : Nat) (w : World) (hr : Rd w w.heap.size A (bC b)) (hb : BytesI b) (hl : b.length ≤ maxLen) :
    Calls Try.prog 54 #[.slice A b.length c] w fun e w' => e = .returned (.tuple #[.int .i64 (nbrF b).1, .int .i64 ((nbrF b).2.1 : Int), .int .i64 (nbrF b).2.2]) ∧ w = w' := by
  unfold maxLen at hl
  go_enter Try.func54, Try.ntmps54
  go_wp2
  go_loopw [5, 6] (fun n i wr => ∃ (k : Nat) (acc : Int), k ≤ 4 ∧ i = .int .i64 k ∧ n = .int .i64 acc ∧ nbrG (4 - k) k acc (b.drop k) = nbrF b ∧ 0 ≤ acc ∧ acc < 128 ^ k ∧ w = wr) (fun _ i _ => 4 - (intOf i).toNat)
  case atStart => exact ⟨0, 0, by omega, rfl, rfl, rfl, by omega, by omega, rfl⟩
  case round =>
    obtain ⟨k, acc, hk, rfl, rfl, hg, ha0, ha1, rfl⟩ := hrel
    have HG := Lib.hid hg; clear hg
    by_cases hk4 : k < 4
    · by_cases hkl : k < b.length
      · have hx := hb b[k] (List.getElem_mem hkl)
        obtain ⟨g, off, rfl, hgB, hc⟩ := hr (by rw [bC_len]; omega)
        have hc2 := hc k (by rw [bC_len]; exact hkl)
        rw [bC_get b k hkl] at hc2
        obtain ⟨x, hxe⟩ : ∃ x, b[k] = x := ⟨_, rfl⟩
        rw [hxe] at hc2 hx
        have HX := Lib.hid hxe
        clear hxe hc hr hb
        rcases (show k = 0 ∨ k = 1 ∨ k = 2 ∨ k = 3 by omega) with rfl | rfl | rfl | rfl
        · rw [Nat.add_zero] at hc2
          have hnb : decide (b = []) = false := decide_eq_false (fun e => by rw [e] at hkl; simp at hkl)
          have hor := or_step acc x 0 (by omega) ha0 ha1 hx
          have hacc := (show acc + x % 128 * 128 ^ 0 < 128 ^ (0 + 1) by simp only [Int.reducePow] at ha1 ⊢; omega)
          have hac0 := (show 0 ≤ acc + x % 128 * 128 ^ 0 by simp only [Int.reducePow]; omega)
          have hst := nbr_next 3 0 acc x (b.drop 1)
          have hdr : b.drop 0 = x :: b.drop 1 := by rw [List.drop_eq_getElem_cons hkl, HX.out]
          simp only [Int.reducePow, Int.mul_one] at hor
          have HA := Lib.hid hacc; have HA0 := Lib.hid hac0; have HST := Lib.hid hst; have HDR := Lib.hid hdr
          clear hacc hac0 hst hdr
          by_cases h128 : 128 ≤ x
          · have d1 : decide (128 ≤ x) = true := by simp; omega
            go_wp2
            go_roundw
            case rel => exact ⟨1, acc + x % 128 * 128 ^ 0, by omega, by go_num, by simp, by rw [← HG.out, HDR.out, HST.out, if_pos h128], HA0.out, HA.out, trivial⟩
            case measure => simp [intOf]
          · have d1 : decide (128 ≤ x) = false := by simp; omega
            by_cases h0 : x = 0
            · have d2 : (x == 0) = true := beq_iff_eq.2 h0
              have hres : nbrF b = (acc + x % 128 * 128 ^ 0, 0 + 1, 0) := by rw [← HG.out, HDR.out, HST.out, if_neg h128, if_neg (by omega)]
              have HRES := Lib.hid hres
              clear hres h0 h128
              go_wp2
              go_ret3
              exact ⟨by rw [HRES.out]; simp, rfl⟩
            · have d2 : (x == 0) = false := beq_eq_false_iff_ne.2 h0
              have hres : nbrF b = (acc + x % 128 * 128 ^ 0, 0 + 1, 0) := by rw [← HG.out, HDR.out, HST.out, if_neg h128, if_neg (fun h => h0 h.1)]
              have HRES := Lib.hid hres
              clear hres h0 h128
              go_wp2
              go_ret3
              exact ⟨by rw [HRES.out]; simp, rfl⟩
        · have hor := or_step acc x 1 (by omega) ha0 ha1 hx
          have hacc := (show acc + x % 128 * 128 ^ 1 < 128 ^ (1 + 1) by simp only [Int.reducePow] at ha1 ⊢; omega)
          have hac0 := (show 0 ≤ acc + x % 128 * 128 ^ 1 by simp only [Int.reducePow]; omega)
          have hst := nbr_next 2 1 acc x (b.drop 2)
          have hdr : b.drop 1 = x :: b.drop 2 := by rw [List.drop_eq_getElem_cons hkl, HX.out]
          simp only [Int.reducePow] at hor
          have HA := Lib.hid hacc; have HA0 := Lib.hid hac0; have HST := Lib.hid hst; have HDR := Lib.hid hdr
          clear hacc hac0 hst hdr
          by_cases h128 : 128 ≤ x
          · have d1 : decide (128 ≤ x) = true := by simp; omega
            go_wp2
            go_roundw
            case rel => exact ⟨2, acc + x % 128 * 128 ^ 1, by omega, by go_num, by simp, by rw [← HG.out, HDR.out, HST.out, if_pos h128], HA0.out, HA.out, trivial⟩
            case measure => simp [intOf]
          · have d1 : decide (128 ≤ x) = false := by simp; omega
            by_cases h0 : x = 0
            · have d2 : (x == 0) = true := beq_iff_eq.2 h0
              have hres : nbrF b = (0, 0, 2) := by rw [← HG.out, HDR.out, HST.out, if_neg h128, if_pos ⟨h0, by omega⟩]
              have HRES := Lib.hid hres
              clear hres h0 h128
              go_wp2
              go_ret3
              exact ⟨by rw [HRES.out]; simp, rfl⟩
            · have d2 : (x == 0) = false := beq_eq_false_iff_ne.2 h0
              have hres : nbrF b = (acc + x % 128 * 128 ^ 1, 1 + 1, 0) := by rw [← HG.out, HDR.out, HST.out, if_neg h128, if_neg (fun h => h0 h.1)]
              have HRES := Lib.hid hres
              clear hres h0 h128
              go_wp2
              go_ret3
              exact ⟨by rw [HRES.out]; simp, rfl⟩
        · have hor := or_step acc x 2 (by omega) ha0 ha1 hx
          have hacc := (show acc + x % 128 * 128 ^ 2 < 128 ^ (2 + 1) by simp only [Int.reducePow] at ha1 ⊢; omega)
          have hac0 := (show 0 ≤ acc + x % 128 * 128 ^ 2 by simp only [Int.reducePow]; omega)
          have hst := nbr_next 1 2 acc x (b.drop 3)
          have hdr : b.drop 2 = x :: b.drop 3 := by rw [List.drop_eq_getElem_cons hkl, HX.out]
          simp only [Int.reducePow] at hor
          have HA := Lib.hid hacc; have HA0 := Lib.hid hac0; have HST := Lib.hid hst; have HDR := Lib.hid hdr
          clear hacc hac0 hst hdr
          by_cases h128 : 128 ≤ x
          · have d1 : decide (128 ≤ x) = true := by simp; omega
            go_wp2
            go_roundw
            case rel => exact ⟨3, acc + x % 128 * 128 ^ 2, by omega, by go_num, by simp, by rw [← HG.out, HDR.out, HST.out, if_pos h128], HA0.out, HA.out, trivial⟩
            case measure => simp [intOf]
          · have d1 : decide (128 ≤ x) = false := by simp; omega
            by_cases h0 : x = 0
            · have d2 : (x == 0) = true := beq_iff_eq.2 h0
              have hres : nbrF b = (0, 0, 2) := by rw [← HG.out, HDR.out, HST.out, if_neg h128, if_pos ⟨h0, by omega⟩]
              have HRES := Lib.hid hres
              clear hres h0 h128
              go_wp2
              go_ret3
              exact ⟨by rw [HRES.out]; simp, rfl⟩
            · have d2 : (x == 0) = false := beq_eq_false_iff_ne.2 h0
              have hres : nbrF b = (acc + x % 128 * 128 ^ 2, 2 + 1, 0) := by rw [← HG.out, HDR.out, HST.out, if_neg h128, if_neg (fun h => h0 h.1)]
              have HRES := Lib.hid hres
              clear hres h0 h128
              go_wp2
              go_ret3
              exact ⟨by rw [HRES.out]; simp, rfl⟩
        · have hor := or_step acc x 3 (by omega) ha0 ha1 hx
          have hacc := (show acc + x % 128 * 128 ^ 3 < 128 ^ (3 + 1) by simp only [Int.reducePow] at ha1 ⊢; omega)
          have hac0 := (show 0 ≤ acc + x % 128 * 128 ^ 3 by simp only [Int.reducePow]; omega)
          have hst := nbr_next 0 3 acc x (b.drop 4)
          have hdr : b.drop 3 = x :: b.drop 4 := by rw [List.drop_eq_getElem_cons hkl, HX.out]
          simp only [Int.reducePow] at hor
          have HA := Lib.hid hacc; have HA0 := Lib.hid hac0; have HST := Lib.hid hst; have HDR := Lib.hid hdr
          clear hacc hac0 hst hdr
          by_cases h128 : 128 ≤ x
          · have d1 : decide (128 ≤ x) = true := by simp; omega
            go_wp2
            go_roundw
            case rel => exact ⟨4, acc + x % 128 * 128 ^ 3, by omega, by go_num, by simp, by rw [← HG.out, HDR.out, HST.out, if_pos h128], HA0.out, HA.out, trivial⟩
            case measure => simp [intOf]
          · have d1 : decide (128 ≤ x) = false := by simp; omega
            by_cases h0 : x = 0
            · have d2 : (x == 0) = true := beq_iff_eq.2 h0
              have hres : nbrF b = (0, 0, 2) := by rw [← HG.out, HDR.out, HST.out, if_neg h128, if_pos ⟨h0, by omega⟩]
              have HRES := Lib.hid hres
              clear hres h0 h128
              go_wp2
              go_ret3
              exact ⟨by rw [HRES.out]; simp, rfl⟩
            · have d2 : (x == 0) = false := beq_eq_false_iff_ne.2 h0
              have hres : nbrF b = (acc + x % 128 * 128 ^ 3, 3 + 1, 0) := by rw [← HG.out, HDR.out, HST.out, if_neg h128, if_neg (fun h => h0 h.1)]
              have HRES := Lib.hid hres
              clear hres h0 h128
              go_wp2
              go_ret3
              exact ⟨by rw [HRES.out]; simp, rfl⟩
      · have hres : nbrF b = (0, 0, 5) := by
          rw [← HG.out, List.drop_eq_nil_of_le (by omega)]
          obtain ⟨t, ht⟩ : ∃ t, 4 - k = t + 1 := ⟨3 - k, by omega⟩
          rw [ht]; rfl
        have HRES := Lib.hid hres; clear hres
        go_wp2
        go_ret3
        exact ⟨by rw [HRES.out]; rfl, rfl⟩
    · have hk44 : k = 4 := by omega
      subst hk44
      have hres : nbrF b = (0, 0, 2) := by rw [← HG.out]; rfl
      have HRES := Lib.hid hres; clear hres
      go_wp2
      go_ret3
      exact ⟨by rw [HRES.out]; rfl, rfl⟩
end Go.Proofs.Ytcempbgbdlmjfaa
