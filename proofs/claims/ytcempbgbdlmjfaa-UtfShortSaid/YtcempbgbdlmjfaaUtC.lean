/-
  utf: the walk of letter.
-/
import Derived.Test.YtcempbgbdlmjfaaUtB
namespace Go.Proofs.Ytcempbgbdlmjfaa
open Go.RowKit

theorem and31 (x : Int) (h0 : 0 ≤ x) (h1 : x < 256) : bits .and .i32 x 31 = x % 32 := by
  have : ∀ k : Fin 256, bits .and .i32 (k.1 : Int) 31 = (k.1 : Int) % 32 := by decide +kernel
  have e := this ⟨x.toNat, by omega⟩
  simpa [Int.toNat_of_nonneg h0] using e
theorem and15 (x : Int) (h0 : 0 ≤ x) (h1 : x < 256) : bits .and .i32 x 15 = x % 16 := by
  have : ∀ k : Fin 256, bits .and .i32 (k.1 : Int) 15 = (k.1 : Int) % 16 := by decide +kernel
  have e := this ⟨x.toNat, by omega⟩
  simpa [Int.toNat_of_nonneg h0] using e
theorem and7 (x : Int) (h0 : 0 ≤ x) (h1 : x < 256) : bits .and .i32 x 7 = x % 8 := by
  have : ∀ k : Fin 256, bits .and .i32 (k.1 : Int) 7 = (k.1 : Int) % 8 := by decide +kernel
  have e := this ⟨x.toNat, by omega⟩
  simpa [Int.toNat_of_nonneg h0] using e
theorem and63 (x : Int) (h0 : 0 ≤ x) (h1 : x < 256) : bits .and .u8 x 63 = x % 64 := by
  have : ∀ k : Fin 256, bits .and .u8 (k.1 : Int) 63 = (k.1 : Int) % 64 := by decide +kernel
  have e := this ⟨x.toNat, by omega⟩
  simpa [Int.toNat_of_nonneg h0] using e
theorem or_low (m y : Int) (h0 : 0 ≤ m) (h1 : m < 4194304) (y0 : 0 ≤ y) (y1 : y < 64) : bits .or .i32 (m * 64) y = m * 64 + y := by
  obtain ⟨a, rfl⟩ := Int.eq_ofNat_of_zero_le h0
  obtain ⟨c, rfl⟩ := Int.eq_ofNat_of_zero_le y0
  show IntKind.i32.wrap ((BitVec.ofInt 32 ((a : Int) * 64) ||| BitVec.ofInt 32 (c : Int)).toNat : Int) = _
  have e1 : BitVec.ofInt 32 ((a : Int) * 64) = BitVec.ofNat 32 (a * 64) := by rw [← BitVec.ofInt_natCast]; congr 1
  rw [e1, BitVec.ofInt_natCast, BitVec.toNat_or, BitVec.toNat_ofNat, BitVec.toNat_ofNat, Nat.mod_eq_of_lt (by omega), Nat.mod_eq_of_lt (by omega)]
  have e2 : a * 64 ||| c = a * 64 + c := by
    have := Nat.shiftLeft_add_eq_or_of_lt (b := c) (i := 6) (by omega) a
    rw [Nat.shiftLeft_eq] at this
    simpa using this.symm
  rw [e2, Int.natCast_add, Int.natCast_mul]
  show IntKind.i32.wrap ((a : Int) * 64 + c) = _
  exact IntWalk.i32_in _ (by omega)

theorem fold_bd (xs : List Int) : ∀ (a K : Int), 0 ≤ a → a < K → 0 ≤ xs.foldl (fun a x => a * 64 + x % 64) a ∧ xs.foldl (fun a x => a * 64 + x % 64) a < K * 64 ^ xs.length := by
  induction xs with
  | nil => intro a K h0 h1; simpa using ⟨h0, h1⟩
  | cons y xs ih =>
    intro a K h0 h1
    have := ih (a * 64 + y % 64) (K * 64) (by omega) (by omega)
    simp only [List.foldl_cons, List.length_cons]
    rw [Int.pow_succ, Int.mul_comm (64 ^ xs.length), ← Int.mul_assoc]
    exact this
theorem fold_small (r : List Int) (j : Nat) (hj : j ≤ 2) (M : Int) (h0 : 0 ≤ M) (h1 : M < 32) :
    0 ≤ (r.take j).foldl (fun a x => a * 64 + x % 64) M ∧ (r.take j).foldl (fun a x => a * 64 + x % 64) M < 4194304 := by
  have := fold_bd (r.take j) M 32 h0 h1
  have hl : (r.take j).length ≤ 2 := by simp; omega
  refine ⟨this.1, Int.lt_of_lt_of_le this.2 ?_⟩
  generalize (r.take j).length = n at hl ⊢
  rcases (show n = 0 ∨ n = 1 ∨ n = 2 by omega) with rfl | rfl | rfl <;> decide





set_option maxHeartbeats 1600000 in
theorem letter_2 (x : Int) (r : List Int) (A : Option Addr) (cp : Nat) (w : World) (B : Nat) (hB : B ≤ w.heap.size) (hr0 : Rd w B A (byteCells (x :: r))) (hb : Bytes (x :: r)) (hlen : r.length = 1) (hcp : r.length + 1 ≤ cp) :
    Calls Try.prog 47 #[.slice A (r.length + 1) cp] w fun e w' => e = .returned (.int .i32 (letF (x :: r))) ∧ Below w.heap.size w w' := by
  obtain ⟨b, off, rfl, hbB, hc⟩ := hr0 (by simp [byteCells])
  have c0 : w.cell? ⟨b, off, none⟩ = some (.int .u8 x) := hc 0 (by simp [byteCells])
  have hx := hb x (by simp)
  have hcp1 : ¬ cp = 1 := by omega
  have hM : letF (x :: r) = r.foldl (fun a x => a * 64 + x % 64) (x % 32) := by simp [letF, hlen, maskF]
  have HM := Lib.hid hM; clear hM
  go_enter Try.func47, Try.ntmps47
  go_wp2
  have eM := and31 x hx.1 hx.2
  go_loopw [3, 27] (fun m i wr => ∃ j : Nat, j ≤ r.length ∧ i = .int .i64 j ∧ m = .int .i32 ((r.take j).foldl (fun a x => a * 64 + x % 64) (x % 32)) ∧ Below w.heap.size w wr) (fun _ i _ => r.length - (intOf i).toNat)
  case atStart => exact ⟨0, by omega, rfl, by rw [eM]; rfl, Below.refl _ _⟩
  case round =>
    obtain ⟨j, hj, rfl, rfl, hbw⟩ := hrel
    clear eM
    by_cases hlt : j < r.length
    · have cj : w.cell? ⟨b, off + 1 + j, none⟩ = some (.int .u8 r[j]) := by
        have := hc (j + 1) (by simp [byteCells]; omega)
        rw [show off + (j + 1) = off + 1 + j from by omega] at this
        simpa [byteCells] using this
      have dj := past_B hbw (Nat.lt_of_lt_of_le hbB hB) cj
      have hy := hb r[j] (by simp)
      have hs := fold_small r j (by omega) (x % 32) (by omega) (by omega)
      have ht : (r.take (j + 1)).foldl (fun a x => a * 64 + x % 64) (x % 32) = (r.take j).foldl (fun a x => a * 64 + x % 64) (x % 32) * 64 + r[j] % 64 := by
        rw [List.take_succ_eq_append_getElem hlt, List.foldl_append]; rfl
      have HT := Lib.hid ht; clear ht
      clear cj hc hr0
      go_wp2
      go_roundw
      case rel =>
        refine ⟨j + 1, by omega, by go_num, ?_, hbw⟩
        rw [HT.out]
        all_goals
          generalize (r.take j).foldl (fun a x => a * 64 + x % 64) (x % 32) = F at hs ⊢
          rw [and63 _ hy.1 hy.2, show wrap32 (r[j] % 64) = r[j] % 64 from IntWalk.wrap32_in _ (by omega), show wrap32 (F * 64) = F * 64 from IntWalk.wrap32_in _ (by omega), or_low F _ hs.1 hs.2 (by omega) (by omega)]
      case measure => simp only [intOf]; omega
    · go_wp2
      go_ret
      have e : j = r.length := by omega
      subst e
      exact ⟨congrArg Ending.returned (congrArg (Value.int .i32) (by rw [HM.out, List.take_length])), hbw⟩

set_option maxHeartbeats 1600000 in
theorem letter_3 (x : Int) (r : List Int) (A : Option Addr) (cp : Nat) (w : World) (B : Nat) (hB : B ≤ w.heap.size) (hr0 : Rd w B A (byteCells (x :: r))) (hb : Bytes (x :: r)) (hlen : r.length = 2) (hcp : r.length + 1 ≤ cp) :
    Calls Try.prog 47 #[.slice A (r.length + 1) cp] w fun e w' => e = .returned (.int .i32 (letF (x :: r))) ∧ Below w.heap.size w w' := by
  obtain ⟨b, off, rfl, hbB, hc⟩ := hr0 (by simp [byteCells])
  have c0 : w.cell? ⟨b, off, none⟩ = some (.int .u8 x) := hc 0 (by simp [byteCells])
  have hx := hb x (by simp)
  have hcp1 : ¬ cp = 1 := by omega
  have hM : letF (x :: r) = r.foldl (fun a x => a * 64 + x % 64) (x % 16) := by simp [letF, hlen, maskF]
  have HM := Lib.hid hM; clear hM
  go_enter Try.func47, Try.ntmps47
  go_wp2
  have eM := and15 x hx.1 hx.2
  go_loopw [3, 27] (fun m i wr => ∃ j : Nat, j ≤ r.length ∧ i = .int .i64 j ∧ m = .int .i32 ((r.take j).foldl (fun a x => a * 64 + x % 64) (x % 16)) ∧ Below w.heap.size w wr) (fun _ i _ => r.length - (intOf i).toNat)
  case atStart => exact ⟨0, by omega, rfl, by rw [eM]; rfl, Below.refl _ _⟩
  case round =>
    obtain ⟨j, hj, rfl, rfl, hbw⟩ := hrel
    clear eM
    by_cases hlt : j < r.length
    · have cj : w.cell? ⟨b, off + 1 + j, none⟩ = some (.int .u8 r[j]) := by
        have := hc (j + 1) (by simp [byteCells]; omega)
        rw [show off + (j + 1) = off + 1 + j from by omega] at this
        simpa [byteCells] using this
      have dj := past_B hbw (Nat.lt_of_lt_of_le hbB hB) cj
      have hy := hb r[j] (by simp)
      have hs := fold_small r j (by omega) (x % 16) (by omega) (by omega)
      have ht : (r.take (j + 1)).foldl (fun a x => a * 64 + x % 64) (x % 16) = (r.take j).foldl (fun a x => a * 64 + x % 64) (x % 16) * 64 + r[j] % 64 := by
        rw [List.take_succ_eq_append_getElem hlt, List.foldl_append]; rfl
      have HT := Lib.hid ht; clear ht
      clear cj hc hr0
      go_wp2
      go_roundw
      case rel =>
        refine ⟨j + 1, by omega, by go_num, ?_, hbw⟩
        rw [HT.out]
        all_goals
          generalize (r.take j).foldl (fun a x => a * 64 + x % 64) (x % 16) = F at hs ⊢
          rw [and63 _ hy.1 hy.2, show wrap32 (r[j] % 64) = r[j] % 64 from IntWalk.wrap32_in _ (by omega), show wrap32 (F * 64) = F * 64 from IntWalk.wrap32_in _ (by omega), or_low F _ hs.1 hs.2 (by omega) (by omega)]
      case measure => simp only [intOf]; omega
    · go_wp2
      go_ret
      have e : j = r.length := by omega
      subst e
      exact ⟨congrArg Ending.returned (congrArg (Value.int .i32) (by rw [HM.out, List.take_length])), hbw⟩

set_option maxHeartbeats 1600000 in
theorem letter_4 (x : Int) (r : List Int) (A : Option Addr) (cp : Nat) (w : World) (B : Nat) (hB : B ≤ w.heap.size) (hr0 : Rd w B A (byteCells (x :: r))) (hb : Bytes (x :: r)) (hlen : r.length = 3) (hcp : r.length + 1 ≤ cp) :
    Calls Try.prog 47 #[.slice A (r.length + 1) cp] w fun e w' => e = .returned (.int .i32 (letF (x :: r))) ∧ Below w.heap.size w w' := by
  obtain ⟨b, off, rfl, hbB, hc⟩ := hr0 (by simp [byteCells])
  have c0 : w.cell? ⟨b, off, none⟩ = some (.int .u8 x) := hc 0 (by simp [byteCells])
  have hx := hb x (by simp)
  have hcp1 : ¬ cp = 1 := by omega
  have hM : letF (x :: r) = r.foldl (fun a x => a * 64 + x % 64) (x % 8) := by simp [letF, hlen, maskF]
  have HM := Lib.hid hM; clear hM
  go_enter Try.func47, Try.ntmps47
  go_wp2
  have eM := and7 x hx.1 hx.2
  go_loopw [3, 27] (fun m i wr => ∃ j : Nat, j ≤ r.length ∧ i = .int .i64 j ∧ m = .int .i32 ((r.take j).foldl (fun a x => a * 64 + x % 64) (x % 8)) ∧ Below w.heap.size w wr) (fun _ i _ => r.length - (intOf i).toNat)
  case atStart => exact ⟨0, by omega, rfl, by rw [eM]; rfl, Below.refl _ _⟩
  case round =>
    obtain ⟨j, hj, rfl, rfl, hbw⟩ := hrel
    clear eM
    by_cases hlt : j < r.length
    · have cj : w.cell? ⟨b, off + 1 + j, none⟩ = some (.int .u8 r[j]) := by
        have := hc (j + 1) (by simp [byteCells]; omega)
        rw [show off + (j + 1) = off + 1 + j from by omega] at this
        simpa [byteCells] using this
      have dj := past_B hbw (Nat.lt_of_lt_of_le hbB hB) cj
      have hy := hb r[j] (by simp)
      have hs := fold_small r j (by omega) (x % 8) (by omega) (by omega)
      have ht : (r.take (j + 1)).foldl (fun a x => a * 64 + x % 64) (x % 8) = (r.take j).foldl (fun a x => a * 64 + x % 64) (x % 8) * 64 + r[j] % 64 := by
        rw [List.take_succ_eq_append_getElem hlt, List.foldl_append]; rfl
      have HT := Lib.hid ht; clear ht
      clear cj hc hr0
      go_wp2
      go_roundw
      case rel =>
        refine ⟨j + 1, by omega, by go_num, ?_, hbw⟩
        rw [HT.out]
        all_goals
          generalize (r.take j).foldl (fun a x => a * 64 + x % 64) (x % 8) = F at hs ⊢
          rw [and63 _ hy.1 hy.2, show wrap32 (r[j] % 64) = r[j] % 64 from IntWalk.wrap32_in _ (by omega), show wrap32 (F * 64) = F * 64 from IntWalk.wrap32_in _ (by omega), or_low F _ hs.1 hs.2 (by omega) (by omega)]
      case measure => simp only [intOf]; omega
    · go_wp2
      go_ret
      have e : j = r.length := by omega
      subst e
      exact ⟨congrArg Ending.returned (congrArg (Value.int .i32) (by rw [HM.out, List.take_length])), hbw⟩

set_option maxHeartbeats 1600000 in
theorem letter_1 (x : Int) (A : Option Addr) (cp : Nat) (w : World) (B : Nat) (hr0 : Rd w B A (byteCells [x])) (hb : Bytes [x]) :
    Calls Try.prog 47 #[.slice A 1 cp] w fun e w' => e = .returned (.int .i32 (letF [x])) ∧ Below w.heap.size w w' := by
  obtain ⟨b, off, rfl, hbB, hc⟩ := hr0 (by simp [byteCells])
  have c0 : w.cell? ⟨b, off, none⟩ = some (.int .u8 x) := hc 0 (by simp [byteCells])
  have hx := hb x (by simp)
  have hM : letF [x] = x := by simp [letF, maskF]
  rw [hM]
  go_enter Try.func47, Try.ntmps47
  go_wp2
  all_goals
    go_loopw [3, 27] (fun m i wr => i = .int .i64 0 ∧ m = .int .i32 x ∧ Below w.heap.size w wr) (fun _ _ _ => 0)
    case atStart => exact ⟨rfl, rfl, Below.refl _ _⟩
    case round =>
      obtain ⟨rfl, rfl, hbw⟩ := hrel
      go_wp2
      go_ret
      exact ⟨rfl, hbw⟩

theorem letter_any (x : Int) (r : List Int) (A : Option Addr) (cp : Nat) (w : World) (B : Nat) (hB : B ≤ w.heap.size) (hr0 : Rd w B A (byteCells (x :: r))) (hb : Bytes (x :: r)) (hl : r.length ≤ 3) (hcp : r.length + 1 ≤ cp) :
    Calls Try.prog 47 #[.slice A (r.length + 1) cp] w fun e w' => e = .returned (.int .i32 (letF (x :: r))) ∧ Below w.heap.size w w' := by
  rcases (show r.length = 0 ∨ r.length = 1 ∨ r.length = 2 ∨ r.length = 3 by omega) with h | h | h | h
  · obtain rfl : r = [] := List.eq_nil_of_length_eq_zero h
    exact letter_1 x A cp w B hr0 hb
  · exact letter_2 x r A cp w B hB hr0 hb h hcp
  · exact letter_3 x r A cp w B hB hr0 hb h hcp
  · exact letter_4 x r A cp w B hB hr0 hb h hcp
end Go.Proofs.Ytcempbgbdlmjfaa
