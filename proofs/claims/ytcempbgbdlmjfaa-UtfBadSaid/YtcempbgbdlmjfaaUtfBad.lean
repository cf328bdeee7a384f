/-
  lapwinglaw03.UtfBad: for any bytes and any number it answers true: what is no letter is FFFD, and hides nothing. No condition.
-/
import Derived.Test.YtcempbgbdlmjfaaUtI
import Derived.Test.YtcempbgbdlmjfaaUtfBack
namespace Go.Proofs.Ytcempbgbdlmjfaa
open Go.RowKit

theorem and_7f (k : Int) : ∃ m : Nat, bits .and .i64 k 127 = (m : Int) ∧ m < 128 :=
  ⟨_, and_low k 7 (by omega) 127 (by decide), by have := Nat.mod_lt (BitVec.ofInt 64 k).toNat (show 0 < 2 ^ 7 by decide); omega⟩
theorem put_low (x : Nat) (h : x < 128) : putF (x : Int) = [(x : Int)] := by
  have e : okR (x : Int) = x := okR_of (by unfold Letter; omega)
  unfold putF
  rw [e]
  unfold encF
  rw [if_pos (by omega)]

set_option maxRecDepth 100000 in
set_option maxHeartbeats 3200000 in
theorem bad_walk (b : List Int) (r : Int) (A : Option Addr) (c : Nat) (w : World) (hr : Rd w w.heap.size A (byteCells b)) (hb : Bytes b) (hl : b.length ≤ maxLen) :
    Calls Try.prog 14 #[.slice A b.length c, .int .i64 r] w fun e w' => e = .returned (.bool true) ∧ Below w.heap.size w w' := by
  unfold maxLen at hl
  by_cases h5 : 500 < b.length
  · go_enter Try.func14, Try.ntmps14
    go_wp2_with (go_at_call 25; refine (awake3_any _).mono ?_; rintro e w1 ⟨rfl, hb1⟩)
    go_ret
    exact ⟨rfl, hb1⟩
  obtain ⟨x, hx, hx2⟩ := and_7f r
  have hp := put_low x hx2
  have hal := all_low b x (by omega) (by omega)
  have hct := all_count b
  have hlt := all_letters b hb
  obtain ⟨m, hm⟩ : ∃ m, allF b = m := ⟨_, rfl⟩
  rw [hm] at hal hct hlt
  have hbx : Bytes (b ++ [(x : Int)]) := by
    intro y hy
    rcases List.mem_append.1 hy with h | h
    · exact hb y h
    · simp at h; omega
  have HP := Lib.hid hp; have HAL := Lib.hid hal; have HLT := Lib.hid hlt; have HM := Lib.hid hm; have HB := Lib.hid hb; have HBX := Lib.hid hbx
  clear hp hal hlt hm hb hbx
  go_enter Try.func14, Try.ntmps14
  go_wp2_with (first
    | (go_at_call 25; refine (awake3_any _).mono ?_; rintro e w1 ⟨rfl, hb1⟩; have hr1 := hr.next hb1; have m1 := hb1.size)
    | (at_builtin; (refine wpList_cat (by rfl) (.tmp 15) (.tmp 16) 42 el_byte (by rfl) w1.heap.size _ 0 [] (by rfl) (World.ownsRow_lit _ #[] 0 (Nat.le_refl _) (by simp) rfl) w1.heap.size A b.length c (byteCells b) (by rfl) (hr1.alloc (Nat.le_refl _) _) (by simp [byteCells]) (byteCells_one _) (by unfold maxLen; omega) (by omega) (by simp) ?_); intro A2 c2 w2 ho2 hg2 hl2; simp only [Nat.zero_add, List.nil_append] at ho2; have m2 := hg2.size; have b2 : Below w1.heap.size w1 w2 := ((Below.refl _ _).alloc (Nat.le_refl _) _).trans (below_of_grown hg2 (by simp) (by intro g hg; simp [Value.ownBlock] at hg; omega)))
    | (go_at_call 40; refine (put_any x _).mono ?_; rintro e w3 ⟨A3, c3, rfl, ho3, hb3⟩; simp only [HP.out, List.length_cons, List.length_nil, Nat.zero_add] at ho3 ⊢; have ho2b := own_past ho2 hb3; have m3 := hb3.size; have rd3 := Rd.of_own ho3)
    | (at_builtin; (refine wpList_cat (by rfl) (.tmp 17) (.tmp 20) 42 el_byte (by rfl) w1.heap.size _ b.length (byteCells b) (by rfl) ho2b w3.heap.size A3 1 c3 (byteCells [(x : Int)]) (by rfl) rd3 (by simp [byteCells]) (byteCells_one _) (by unfold maxLen; omega) (by omega) (by simp at m2; omega) ?_); intro A4 c4 w4 ho4 hg4 hl4; rw [← byteCells_append] at ho4; have m4 := hg4.size; have rd4 := Rd.of_own ho4; have b4 : Below w1.heap.size w1 w4 := bt (bt b2 hb3 b2.size) (below_of_grown hg4 (by simp at m2; omega) (own_ge ho2b)) (Nat.le_refl _); have hr4 := hr1.below b4 (Nat.le_refl _); have m4b := b4.size))
  have ha := all_any (b ++ [(x : Int)]) A4 c4 w4 _ (Nat.le_refl _) rd4 HBX.out (by simp; omega)
  rw [HAL.out, List.length_append, List.length_append, List.length_cons, List.length_nil, Nat.zero_add] at ha
  refine ha.mono ?_
  rintro e w5 ⟨A5, c5, rfl, ho5, hb5⟩
  clear ha
  have m5 := hb5.size
  have hr5 := hr4.below hb5 (by omega)
  go_wp2_with fail
  refine (all_any b A c w5 w1.heap.size (by omega) hr5 HB.out (by omega)).mono ?_
  rintro e w6 ⟨A6, c6, rfl, ho6, hb6⟩
  simp only [HM.out] at ho6 ⊢
  have m6 := hb6.size
  have ho5b := own_past ho5 hb6
  have hbl : Below w.heap.size w w6 := bt (bt (bt hb1 b4 m1) hb5 (by omega)) hb6 (by omega)
  obtain ⟨g5, cap5, hv5, hg5, hglt5⟩ := ho5b.form (by omega)
  injection hv5 with e1 e2 e3; subst e1; subst e3
  have cx : w6.cell? ⟨g5, m.length, none⟩ = some (.int .i64 x) := own_at ho5b _ _ (by simp [intCells])
  have s1 : IntKind.i64.wrap ((m.length : Int) + 1 - 1) = m.length := by rw [IntWalk.i64_in _ (by omega)]; omega
  clear hb1 hb3 hb5 hb6 b2 b4 hr hr1 hr4 hr5 ho2 ho2b ho3 ho4 rd3 rd4 hg2 hg4 hl2 hl4
  go_wp2_with fail
  clear cx s1
  go_loopw [9] (fun i wr => ∃ k : Nat, i = .int .i64 k ∧ k ≤ m.length ∧ ∃ n, wr = w6.drewN n) (fun i _ => m.length - (intOf i).toNat)
  case atStart => exact ⟨0, rfl, Nat.zero_le _, 0, rfl⟩
  case round =>
    obtain ⟨k, rfl, hk, n, rfl⟩ := hrel
    by_cases hlt : k < m.length
    · obtain ⟨g6, cap6, hv6, hg6, hglt6⟩ := ho6.form (by omega)
      injection hv6 with e1 e2 e3; subst e1; subst e3
      have c0 : w6.cell? ⟨g5, k, none⟩ = some (.int .i64 m[k]) := own_at ho5b _ _ (by rw [intCells_append, List.getElem?_append_left (by rw [intCells_len]; exact hlt)]; simp [intCells, hlt])
      have d0 : w6.cell? ⟨g6, k, none⟩ = some (.int .i64 m[k]) := own_at ho6 _ _ (by simp [intCells, hlt])
      have hy := HLT.out m[k] (by simp)
      unfold Letter at hy
      obtain ⟨hy1, hy2, hy3⟩ := hy
      have i0 : (0 : Int) ≤ ↑k := by omega
      have i1 : (↑k : Int) < ↑m.length := by omega
      have i2 : (↑k : Int) < ↑m.length + 1 := by omega
      have h1 : decide (m[k] < 0) = false := by simp; omega
      have h2 : decide (1114111 < m[k]) = false := by simp; omega
      have h0 : (m[k] != m[k]) = false := by simp
      clear ho5b ho6
      by_cases h3 : 55296 ≤ m[k]
      · have h4 : decide (m[k] ≤ 57343) = false := by simp; omega
        have h5 : decide (55296 ≤ m[k]) = true := by simpa using h3
        go_wp2
        go_quiet (fail)
        go_wp2
        go_roundw
        case rel => exact ⟨k + 1, by go_num, by omega, _, rfl⟩
        case measure => simp [intOf]; omega
      · have h5 : decide (55296 ≤ m[k]) = false := by simpa using h3
        go_wp2
        go_quiet (fail)
        go_wp2
        go_roundw
        case rel => exact ⟨k + 1, by go_num, by omega, _, rfl⟩
        case measure => simp [intOf]; omega
    · go_wp2
      go_ret
      exact ⟨rfl, below_drewN hbl _⟩
end Go.Proofs.Ytcempbgbdlmjfaa
