/-
  utf: the walks of lead and begins.
-/
import Derived.Test.YtcempbgbdlmjfaaBase3
import Derived.Test.YtcempbgbdlmjfaaUtPut
namespace Go.Proofs.Ytcempbgbdlmjfaa
open Go.RowKit

theorem arr3 {α : Type} {a a' b b' c c' : α} (h1 : a = a') (h2 : b = b') (h3 : c = c') : #[a, b, c] = #[a', b', c'] := by subst h1; subst h2; subst h3; rfl
theorem arr2 {α : Type} {a a' b b' : α} (h1 : a = a') (h2 : b = b') : #[a, b] = #[a', b'] := by subst h1; subst h2; rfl
theorem lohi (c : Int) : 0 ≤ leadLo c ∧ leadLo c < 256 ∧ 0 ≤ leadHi c ∧ leadHi c < 256 := by unfold leadLo leadHi; refine ⟨?_, ?_, ?_, ?_⟩ <;> repeat (first | omega | split)
def byteCells (b : List Int) : List Value := b.map (.int .u8)

set_option maxHeartbeats 800000 in
theorem lead_any (c : Int) (w : World) (h0 : 0 ≤ c) (h1 : c < 256) :
    Calls Try.prog 56 #[.int .u8 c] w fun e w' => e = .returned (.tuple #[.int .i64 (leadN c), .int .u8 (leadLo c), .int .u8 (leadHi c)]) ∧ Below w.heap.size w w' := by
  go_enter Try.func56, Try.ntmps56
  go_wp2
  all_goals
    go_ret3
    refine ⟨congrArg Ending.returned (congrArg Value.tuple (arr3 (congrArg (Value.int .i64) ?_) (congrArg (Value.int .u8) ?_) (congrArg (Value.int .u8) ?_))), Below.refl _ _⟩
    all_goals try simp only [beq_iff_eq, beq_eq_false_iff_ne, ne_eq] at *
    · unfold leadN; repeat (first | omega | split)
    · unfold leadLo; repeat (first | omega | split)
    · unfold leadHi; repeat (first | omega | split)

set_option maxHeartbeats 1600000 in
theorem begins_any (x : Int) (r : List Int) (A : Option Addr) (cp : Nat) (w : World) (B : Nat) (hB : B ≤ w.heap.size) (hr0 : Rd w B A (byteCells (x :: r))) (hb : ∀ y ∈ x :: r, 0 ≤ y ∧ y < 256) (_hl : (x :: r).length ≤ maxLen) :
    Calls Try.prog 46 #[.slice A (r.length + 1) cp] w fun e w' => e = .returned (.tuple #[.int .i64 (begK (x :: r)), .int .i64 (begN (x :: r))]) ∧ Below w.heap.size w w' := by
  obtain ⟨b, off, rfl, hbB, hc⟩ := hr0 (by simp [byteCells])
  have c0 : w.cell? ⟨b, off, none⟩ = some (.int .u8 x) := hc 0 (by simp [byteCells])
  have hx := hb x (by simp)
  by_cases hn : leadN x = 0
  · have e0 : ((leadN x : Nat) : Int) = 0 := by omega
    go_enter Try.func46, Try.ntmps46
    go_wp2_with (go_at_call 56; refine (lead_any x _ hx.1 hx.2).mono ?_; rintro e w1 ⟨rfl, hb1⟩; simp only [e0])
    go_ret2
    exact ⟨congrArg Ending.returned (congrArg Value.tuple (arr2 (congrArg (Value.int .i64) (by simp [begK, hn])) (congrArg (Value.int .i64) (by simp [begN, hn])))), hb1⟩
  · have e0 : (((leadN x : Nat) : Int) == 0) = false := by simp; omega
    go_enter Try.func46, Try.ntmps46
    go_wp2_with (go_at_call 56; refine (lead_any x _ hx.1 hx.2).mono ?_; rintro e w1 ⟨rfl, hb1⟩)
    go_loopw [5, 6, 7] (fun lo hi k wr => ∃ (l h : Int) (j : Nat), lo = .int .u8 l ∧ hi = .int .u8 h ∧ k = .int .i64 (j + 1 : Nat) ∧ j + 1 ≤ leadN x ∧ j ≤ r.length ∧ 0 ≤ l ∧ l < 256 ∧ 0 ≤ h ∧ h < 256 ∧ begK (x :: r) = j + 1 + tailN (leadN x - 1 - j) l h (r.drop j) ∧ Below w.heap.size w wr) (fun _ _ k _ => r.length + 1 - (intOf k).toNat)
    case atStart =>
      have hq := lohi x
      exact ⟨leadLo x, leadHi x, 0, rfl, rfl, rfl, by omega, by omega, hq.1, hq.2.1, hq.2.2.1, hq.2.2.2, by simp only [begK, hn, if_false, List.drop_zero, Nat.sub_zero]; omega, hb1⟩
    case round =>
      obtain ⟨l, h, j, rfl, rfl, rfl, hj1, hj2, hl0, hl1, hh0, hh1, hkk, hbw⟩ := hrel
      have HK := Lib.hid hkk; clear hkk
      have h4 : leadN x ≤ 4 := begN_le (x :: r)
      clear hb1
      by_cases hlt : j < r.length ∧ j + 1 < leadN x
      · have cj : w.cell? ⟨b, off + (j + 1), none⟩ = some (.int .u8 r[j]) := by
          have := hc (j + 1) (by simp [byteCells]; omega)
          simpa [byteCells] using this
        have dj := past_B hbw (Nat.lt_of_lt_of_le hbB hB) cj
        have hy := hb r[j] (by simp)
        have hdr : r.drop j = r[j] :: r.drop (j + 1) := List.drop_eq_getElem_cons hlt.1
        clear cj hc hr0
        have HD := Lib.hid hdr; clear hdr
        by_cases h1 : l ≤ r[j] ∧ r[j] ≤ h
        · have g1 : ((j + 1 : Nat) : Int) < leadN x := by omega
          have g2 : ((j + 1 : Nat) : Int) < ((r.length + 1 : Nat) : Int) := by omega
          have g3 := h1.1
          have g4 := h1.2
          go_wp2
          go_roundw
          case rel =>
            refine ⟨128, 191, j + 1, rfl, rfl, by go_num, by omega, by omega, by omega, by omega, by omega, by omega, ?_, hbw⟩
            rw [HK.out, HD.out, show leadN x - 1 - j = leadN x - 1 - (j + 1) + 1 from by omega, tailN, if_pos h1]
            omega
          case measure => simp only [intOf]; omega
        · have g1 : ((j + 1 : Nat) : Int) < leadN x := by omega
          have g2 : ((j + 1 : Nat) : Int) < ((r.length + 1 : Nat) : Int) := by omega
          have ht : tailN (leadN x - 1 - j) l h (r.drop j) = 0 := by
            rw [HD.out, show leadN x - 1 - j = leadN x - 1 - (j + 1) + 1 from by omega, tailN, if_neg h1]
          have HT := Lib.hid ht; clear ht
          by_cases g3 : l ≤ r[j]
          · have g4 : h < r[j] := by omega
            go_wp2
            go_ret2
            exact ⟨congrArg Ending.returned (congrArg Value.tuple (arr2 (congrArg (Value.int .i64) (by rw [HK.out, HT.out]; simp)) (congrArg (Value.int .i64) rfl))), hbw⟩
          · have g4 : r[j] < l := by omega
            go_wp2
            go_ret2
            exact ⟨congrArg Ending.returned (congrArg Value.tuple (arr2 (congrArg (Value.int .i64) (by rw [HK.out, HT.out]; simp)) (congrArg (Value.int .i64) rfl))), hbw⟩
      · have ht : tailN (leadN x - 1 - j) l h (r.drop j) = 0 := by
          by_cases q : j < r.length
          · rw [show leadN x - 1 - j = 0 from by omega]; rfl
          · rw [List.drop_eq_nil_of_le (by omega)]; cases leadN x - 1 - j <;> rfl
        have HT := Lib.hid ht; clear ht
        by_cases g1 : j + 1 < leadN x
        · have g2 : ¬ j < r.length := by omega
          go_wp2
          go_ret2
          exact ⟨congrArg Ending.returned (congrArg Value.tuple (arr2 (congrArg (Value.int .i64) (by rw [HK.out, HT.out]; simp)) (congrArg (Value.int .i64) rfl))), hbw⟩
        · go_wp2
          go_ret2
          exact ⟨congrArg Ending.returned (congrArg Value.tuple (arr2 (congrArg (Value.int .i64) (by rw [HK.out, HT.out]; simp)) (congrArg (Value.int .i64) rfl))), hbw⟩
end Go.Proofs.Ytcempbgbdlmjfaa
