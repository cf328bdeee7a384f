/-
  lapwinglaw01.RangesCount: for any two lists of rows it answers true: what lies over another table has as many numbers as both have, less those that both have. No condition.
-/
import Derived.Test.YtcempbgbdlmjfaaRgH
import Derived.Test.YtcempbgbdlmjfaaRgG
namespace Go.Proofs.Ytcempbgbdlmjfaa
open Go.RowKit

set_option maxRecDepth 100000 in
set_option maxHeartbeats 3200000 in
theorem count_walk (a b : List R) (Aa Ab : Option Addr) (ca cb : Nat) (w : World) (hra : Rd w w.heap.size Aa (rowCells a)) (hrb : Rd w w.heap.size Ab (rowCells b)) (la : a.length ≤ maxLen) (lb : b.length ≤ maxLen) :
    Calls Try.prog 7 #[.slice Aa a.length ca, .slice Ab b.length cb] w fun e w' => e = .returned (.bool true) ∧ Below w.heap.size w w' := by
  have la' := la
  have lb' := lb
  unfold maxLen at la' lb'
  have RA := Lib.hid hra
  have RB := Lib.hid hrb
  clear hra hrb
  by_cases ha30 : 30 < a.length
  · have b0 := (Below.refl w.heap.size w)
    go_enter Try.func7, Try.ntmps7
    go_wp2_with fail
    refine (awake_any _).mono ?_
    rintro e w1 ⟨rfl, hb1⟩
    have c1B := bt b0 hb1 b0.size
    replace RA := Lib.hid (Rd.next RA.out hb1)
    replace RB := Lib.hid (Rd.next RB.out hb1)
    clear b0
    clear hb1
    go_wp2_with fail
    go_ret
    exact ⟨rfl, c1B⟩
  by_cases hb30 : 30 < b.length
  · have b0 := (Below.refl w.heap.size w)
    go_enter Try.func7, Try.ntmps7
    go_wp2_with fail
    refine (awake_any _).mono ?_
    rintro e w1 ⟨rfl, hb1⟩
    have c1B := bt b0 hb1 b0.size
    replace RA := Lib.hid (Rd.next RA.out hb1)
    replace RB := Lib.hid (Rd.next RB.out hb1)
    clear b0
    clear hb1
    go_wp2_with fail
    go_ret
    exact ⟨rfl, c1B⟩
  cases hsa : saneF a with
  | false =>
    have HA := Lib.hid hsa; clear hsa
    have b0 := (Below.refl w.heap.size w)
    go_enter Try.func7, Try.ntmps7
    go_wp2_with fail
    refine (awake_any _).mono ?_
    rintro e w1 ⟨rfl, hb1⟩
    have c1B := bt b0 hb1 b0.size
    replace RA := Lib.hid (Rd.next RA.out hb1)
    replace RB := Lib.hid (Rd.next RB.out hb1)
    clear b0
    clear hb1
    go_wp2_with fail
    refine (table_any a _ _ _ _ (Nat.le_refl _) RA.out (by omega)).mono ?_
    rintro e w2 ⟨A2, c2, rfl, o2, hb2⟩
    have c2B := bt c1B hb2 c1B.size
    replace RA := Lib.hid (Rd.next RA.out hb2)
    replace RB := Lib.hid (Rd.next RB.out hb2)
    clear c1B
    have T2 := Lib.hid (Rd.of_own o2)
    clear o2
    clear hb2
    go_wp2_with fail
    refine (sane_any a _ _ _ _ (Nat.le_refl _) T2.out la).mono ?_
    rintro e w3 ⟨rfl, hb3⟩
    have c3B := bt c2B hb3 c2B.size
    replace RA := Lib.hid (Rd.next RA.out hb3)
    replace RB := Lib.hid (Rd.next RB.out hb3)
    replace T2 := Lib.hid (Rd.next T2.out hb3)
    clear c2B
    simp only [HA.out]
    clear hb3
    go_wp2_with fail
    go_ret
    exact ⟨rfl, c3B⟩
  | true =>
    have HA := Lib.hid hsa; clear hsa
    cases hsb : saneF b with
    | false =>
      have HB := Lib.hid hsb; clear hsb
      have b0 := (Below.refl w.heap.size w)
      go_enter Try.func7, Try.ntmps7
      go_wp2_with fail
      refine (awake_any _).mono ?_
      rintro e w1 ⟨rfl, hb1⟩
      have c1B := bt b0 hb1 b0.size
      replace RA := Lib.hid (Rd.next RA.out hb1)
      replace RB := Lib.hid (Rd.next RB.out hb1)
      clear b0
      clear hb1
      go_wp2_with fail
      refine (table_any a _ _ _ _ (Nat.le_refl _) RA.out (by omega)).mono ?_
      rintro e w2 ⟨A2, c2, rfl, o2, hb2⟩
      have c2B := bt c1B hb2 c1B.size
      replace RA := Lib.hid (Rd.next RA.out hb2)
      replace RB := Lib.hid (Rd.next RB.out hb2)
      clear c1B
      have T2 := Lib.hid (Rd.of_own o2)
      clear o2
      clear hb2
      go_wp2_with fail
      refine (sane_any a _ _ _ _ (Nat.le_refl _) T2.out la).mono ?_
      rintro e w3 ⟨rfl, hb3⟩
      have c3B := bt c2B hb3 c2B.size
      replace RA := Lib.hid (Rd.next RA.out hb3)
      replace RB := Lib.hid (Rd.next RB.out hb3)
      replace T2 := Lib.hid (Rd.next T2.out hb3)
      clear c2B
      simp only [HA.out]
      clear hb3
      go_wp2_with fail
      refine (table_any b _ _ _ _ (Nat.le_refl _) RB.out (by omega)).mono ?_
      rintro e w4 ⟨A4, c4, rfl, o4, hb4⟩
      have c4B := bt c3B hb4 c3B.size
      replace RA := Lib.hid (Rd.next RA.out hb4)
      replace RB := Lib.hid (Rd.next RB.out hb4)
      replace T2 := Lib.hid (Rd.next T2.out hb4)
      clear c3B
      have T4 := Lib.hid (Rd.of_own o4)
      clear o4
      clear hb4
      go_wp2_with fail
      refine (sane_any b _ _ _ _ (Nat.le_refl _) T4.out lb).mono ?_
      rintro e w5 ⟨rfl, hb5⟩
      have c5B := bt c4B hb5 c4B.size
      replace RA := Lib.hid (Rd.next RA.out hb5)
      replace RB := Lib.hid (Rd.next RB.out hb5)
      replace T2 := Lib.hid (Rd.next T2.out hb5)
      replace T4 := Lib.hid (Rd.next T4.out hb5)
      clear c4B
      simp only [HB.out]
      clear hb5
      go_wp2_with fail
      go_ret
      exact ⟨rfl, c5B⟩
    | true =>
      have HB := Lib.hid hsb; clear hsb
      have hc := over_count HA.out HB.out (by omega) (by omega)
      have l1 := (overF_spec HA.out HB.out (by omega)).2.2.1
      have l2 := (overF_spec HB.out HA.out (by omega)).2.2.1
      have hta : 0 ≤ totF a ∧ totF a ≤ 1114112 := by
        have := ((saneF_iff a).1 HA.out).2.tot_bd; unfold totF; rw [if_pos HA.out]; omega
      have htb : 0 ≤ totF b ∧ totF b ≤ 1114112 := by
        have := ((saneF_iff b).1 HB.out).2.tot_bd; unfold totF; rw [if_pos HB.out]; omega
      have m1 : (overF a b).length ≤ maxLen := by unfold maxLen; omega
      have m2 : (overF b a).length ≤ maxLen := by unfold maxLen; omega
      have HC := Lib.hid hc
      clear hc
      have b0 := (Below.refl w.heap.size w)
      go_enter Try.func7, Try.ntmps7
      go_wp2_with fail
      refine (awake_any _).mono ?_
      rintro e w1 ⟨rfl, hb1⟩
      have c1B := bt b0 hb1 b0.size
      replace RA := Lib.hid (Rd.next RA.out hb1)
      replace RB := Lib.hid (Rd.next RB.out hb1)
      clear b0
      clear hb1
      go_wp2_with fail
      refine (table_any a _ _ _ _ (Nat.le_refl _) RA.out (by omega)).mono ?_
      rintro e w2 ⟨A2, c2, rfl, o2, hb2⟩
      have c2B := bt c1B hb2 c1B.size
      replace RA := Lib.hid (Rd.next RA.out hb2)
      replace RB := Lib.hid (Rd.next RB.out hb2)
      clear c1B
      have T2 := Lib.hid (Rd.of_own o2)
      clear o2
      clear hb2
      go_wp2_with fail
      refine (sane_any a _ _ _ _ (Nat.le_refl _) T2.out la).mono ?_
      rintro e w3 ⟨rfl, hb3⟩
      have c3B := bt c2B hb3 c2B.size
      replace RA := Lib.hid (Rd.next RA.out hb3)
      replace RB := Lib.hid (Rd.next RB.out hb3)
      replace T2 := Lib.hid (Rd.next T2.out hb3)
      clear c2B
      simp only [HA.out]
      clear hb3
      go_wp2_with fail
      refine (table_any b _ _ _ _ (Nat.le_refl _) RB.out (by omega)).mono ?_
      rintro e w4 ⟨A4, c4, rfl, o4, hb4⟩
      have c4B := bt c3B hb4 c3B.size
      replace RA := Lib.hid (Rd.next RA.out hb4)
      replace RB := Lib.hid (Rd.next RB.out hb4)
      replace T2 := Lib.hid (Rd.next T2.out hb4)
      clear c3B
      have T4 := Lib.hid (Rd.of_own o4)
      clear o4
      clear hb4
      go_wp2_with fail
      refine (sane_any b _ _ _ _ (Nat.le_refl _) T4.out lb).mono ?_
      rintro e w5 ⟨rfl, hb5⟩
      have c5B := bt c4B hb5 c4B.size
      replace RA := Lib.hid (Rd.next RA.out hb5)
      replace RB := Lib.hid (Rd.next RB.out hb5)
      replace T2 := Lib.hid (Rd.next T2.out hb5)
      replace T4 := Lib.hid (Rd.next T4.out hb5)
      clear c4B
      simp only [HB.out]
      clear hb5
      go_wp2_with fail
      refine (table_any a _ _ _ _ (Nat.le_refl _) RA.out (by omega)).mono ?_
      rintro e w6 ⟨A6, c6, rfl, o6, hb6⟩
      have c6B := bt c5B hb6 c5B.size
      replace RA := Lib.hid (Rd.next RA.out hb6)
      replace RB := Lib.hid (Rd.next RB.out hb6)
      replace T2 := Lib.hid (Rd.next T2.out hb6)
      replace T4 := Lib.hid (Rd.next T4.out hb6)
      clear c5B
      have T6 := Lib.hid (Rd.of_own o6)
      clear o6
      clear hb6
      go_wp2_with fail
      refine (table_any b _ _ _ _ (Nat.le_refl _) RB.out (by omega)).mono ?_
      rintro e w7 ⟨A7, c7, rfl, o7, hb7⟩
      have c7B := bt c6B hb7 c6B.size
      replace RA := Lib.hid (Rd.next RA.out hb7)
      replace RB := Lib.hid (Rd.next RB.out hb7)
      replace T2 := Lib.hid (Rd.next T2.out hb7)
      replace T4 := Lib.hid (Rd.next T4.out hb7)
      replace T6 := Lib.hid (Rd.next T6.out hb7)
      clear c6B
      have T7 := Lib.hid (Rd.of_own o7)
      clear o7
      clear hb7
      go_wp2_with fail
      refine (over_any a b _ _ _ _ _ _ (Nat.le_refl _) T6.out T7.out (by omega) (by omega)).mono ?_
      rintro e w8 ⟨A8, c8, rfl, o8, hb8⟩
      have c8B := bt c7B hb8 c7B.size
      replace RA := Lib.hid (Rd.next RA.out hb8)
      replace RB := Lib.hid (Rd.next RB.out hb8)
      replace T2 := Lib.hid (Rd.next T2.out hb8)
      replace T4 := Lib.hid (Rd.next T4.out hb8)
      replace T6 := Lib.hid (Rd.next T6.out hb8)
      replace T7 := Lib.hid (Rd.next T7.out hb8)
      clear c7B
      have T8 := Lib.hid (Rd.of_own o8)
      clear o8
      clear hb8
      go_wp2_with fail
      refine (total_any (overF a b) _ _ _ _ (Nat.le_refl _) T8.out m1).mono ?_
      rintro e w9 ⟨rfl, hb9⟩
      have c9B := bt c8B hb9 c8B.size
      replace RA := Lib.hid (Rd.next RA.out hb9)
      replace RB := Lib.hid (Rd.next RB.out hb9)
      replace T2 := Lib.hid (Rd.next T2.out hb9)
      replace T4 := Lib.hid (Rd.next T4.out hb9)
      replace T6 := Lib.hid (Rd.next T6.out hb9)
      replace T7 := Lib.hid (Rd.next T7.out hb9)
      replace T8 := Lib.hid (Rd.next T8.out hb9)
      clear c8B
      clear hb9
      go_wp2_with fail
      refine (table_any b _ _ _ _ (Nat.le_refl _) RB.out (by omega)).mono ?_
      rintro e w10 ⟨A10, c10, rfl, o10, hb10⟩
      have c10B := bt c9B hb10 c9B.size
      replace RA := Lib.hid (Rd.next RA.out hb10)
      replace RB := Lib.hid (Rd.next RB.out hb10)
      replace T2 := Lib.hid (Rd.next T2.out hb10)
      replace T4 := Lib.hid (Rd.next T4.out hb10)
      replace T6 := Lib.hid (Rd.next T6.out hb10)
      replace T7 := Lib.hid (Rd.next T7.out hb10)
      replace T8 := Lib.hid (Rd.next T8.out hb10)
      clear c9B
      have T10 := Lib.hid (Rd.of_own o10)
      clear o10
      clear hb10
      go_wp2_with fail
      refine (table_any a _ _ _ _ (Nat.le_refl _) RA.out (by omega)).mono ?_
      rintro e w11 ⟨A11, c11, rfl, o11, hb11⟩
      have c11B := bt c10B hb11 c10B.size
      replace RA := Lib.hid (Rd.next RA.out hb11)
      replace RB := Lib.hid (Rd.next RB.out hb11)
      replace T2 := Lib.hid (Rd.next T2.out hb11)
      replace T4 := Lib.hid (Rd.next T4.out hb11)
      replace T6 := Lib.hid (Rd.next T6.out hb11)
      replace T7 := Lib.hid (Rd.next T7.out hb11)
      replace T8 := Lib.hid (Rd.next T8.out hb11)
      replace T10 := Lib.hid (Rd.next T10.out hb11)
      clear c10B
      have T11 := Lib.hid (Rd.of_own o11)
      clear o11
      clear hb11
      go_wp2_with fail
      refine (over_any b a _ _ _ _ _ _ (Nat.le_refl _) T10.out T11.out (by omega) (by omega)).mono ?_
      rintro e w12 ⟨A12, c12, rfl, o12, hb12⟩
      have c12B := bt c11B hb12 c11B.size
      replace RA := Lib.hid (Rd.next RA.out hb12)
      replace RB := Lib.hid (Rd.next RB.out hb12)
      replace T2 := Lib.hid (Rd.next T2.out hb12)
      replace T4 := Lib.hid (Rd.next T4.out hb12)
      replace T6 := Lib.hid (Rd.next T6.out hb12)
      replace T7 := Lib.hid (Rd.next T7.out hb12)
      replace T8 := Lib.hid (Rd.next T8.out hb12)
      replace T10 := Lib.hid (Rd.next T10.out hb12)
      replace T11 := Lib.hid (Rd.next T11.out hb12)
      clear c11B
      have T12 := Lib.hid (Rd.of_own o12)
      clear o12
      clear hb12
      go_wp2_with fail
      refine (total_any (overF b a) _ _ _ _ (Nat.le_refl _) T12.out m2).mono ?_
      rintro e w13 ⟨rfl, hb13⟩
      have c13B := bt c12B hb13 c12B.size
      replace RA := Lib.hid (Rd.next RA.out hb13)
      replace RB := Lib.hid (Rd.next RB.out hb13)
      replace T2 := Lib.hid (Rd.next T2.out hb13)
      replace T4 := Lib.hid (Rd.next T4.out hb13)
      replace T6 := Lib.hid (Rd.next T6.out hb13)
      replace T7 := Lib.hid (Rd.next T7.out hb13)
      replace T8 := Lib.hid (Rd.next T8.out hb13)
      replace T10 := Lib.hid (Rd.next T10.out hb13)
      replace T11 := Lib.hid (Rd.next T11.out hb13)
      replace T12 := Lib.hid (Rd.next T12.out hb13)
      clear c12B
      clear hb13
      go_wp2_with fail
      refine (table_any a _ _ _ _ (Nat.le_refl _) RA.out (by omega)).mono ?_
      rintro e w14 ⟨A14, c14, rfl, o14, hb14⟩
      have c14B := bt c13B hb14 c13B.size
      replace RA := Lib.hid (Rd.next RA.out hb14)
      replace RB := Lib.hid (Rd.next RB.out hb14)
      replace T2 := Lib.hid (Rd.next T2.out hb14)
      replace T4 := Lib.hid (Rd.next T4.out hb14)
      replace T6 := Lib.hid (Rd.next T6.out hb14)
      replace T7 := Lib.hid (Rd.next T7.out hb14)
      replace T8 := Lib.hid (Rd.next T8.out hb14)
      replace T10 := Lib.hid (Rd.next T10.out hb14)
      replace T11 := Lib.hid (Rd.next T11.out hb14)
      replace T12 := Lib.hid (Rd.next T12.out hb14)
      clear c13B
      have T14 := Lib.hid (Rd.of_own o14)
      clear o14
      clear hb14
      go_wp2_with fail
      refine (total_any a _ _ _ _ (Nat.le_refl _) T14.out la).mono ?_
      rintro e w15 ⟨rfl, hb15⟩
      have c15B := bt c14B hb15 c14B.size
      replace RA := Lib.hid (Rd.next RA.out hb15)
      replace RB := Lib.hid (Rd.next RB.out hb15)
      replace T2 := Lib.hid (Rd.next T2.out hb15)
      replace T4 := Lib.hid (Rd.next T4.out hb15)
      replace T6 := Lib.hid (Rd.next T6.out hb15)
      replace T7 := Lib.hid (Rd.next T7.out hb15)
      replace T8 := Lib.hid (Rd.next T8.out hb15)
      replace T10 := Lib.hid (Rd.next T10.out hb15)
      replace T11 := Lib.hid (Rd.next T11.out hb15)
      replace T12 := Lib.hid (Rd.next T12.out hb15)
      replace T14 := Lib.hid (Rd.next T14.out hb15)
      clear c14B
      clear hb15
      go_wp2_with fail
      refine (table_any b _ _ _ _ (Nat.le_refl _) RB.out (by omega)).mono ?_
      rintro e w16 ⟨A16, c16, rfl, o16, hb16⟩
      have c16B := bt c15B hb16 c15B.size
      replace RA := Lib.hid (Rd.next RA.out hb16)
      replace RB := Lib.hid (Rd.next RB.out hb16)
      replace T2 := Lib.hid (Rd.next T2.out hb16)
      replace T4 := Lib.hid (Rd.next T4.out hb16)
      replace T6 := Lib.hid (Rd.next T6.out hb16)
      replace T7 := Lib.hid (Rd.next T7.out hb16)
      replace T8 := Lib.hid (Rd.next T8.out hb16)
      replace T10 := Lib.hid (Rd.next T10.out hb16)
      replace T11 := Lib.hid (Rd.next T11.out hb16)
      replace T12 := Lib.hid (Rd.next T12.out hb16)
      replace T14 := Lib.hid (Rd.next T14.out hb16)
      clear c15B
      have T16 := Lib.hid (Rd.of_own o16)
      clear o16
      clear hb16
      go_wp2_with fail
      refine (total_any b _ _ _ _ (Nat.le_refl _) T16.out lb).mono ?_
      rintro e w17 ⟨rfl, hb17⟩
      have c17B := bt c16B hb17 c16B.size
      replace RA := Lib.hid (Rd.next RA.out hb17)
      replace RB := Lib.hid (Rd.next RB.out hb17)
      replace T2 := Lib.hid (Rd.next T2.out hb17)
      replace T4 := Lib.hid (Rd.next T4.out hb17)
      replace T6 := Lib.hid (Rd.next T6.out hb17)
      replace T7 := Lib.hid (Rd.next T7.out hb17)
      replace T8 := Lib.hid (Rd.next T8.out hb17)
      replace T10 := Lib.hid (Rd.next T10.out hb17)
      replace T11 := Lib.hid (Rd.next T11.out hb17)
      replace T12 := Lib.hid (Rd.next T12.out hb17)
      replace T14 := Lib.hid (Rd.next T14.out hb17)
      replace T16 := Lib.hid (Rd.next T16.out hb17)
      clear c16B
      clear hb17
      obtain ⟨q1, q2, q3, q4⟩ := HC.out
      have q1' : (totF (overF a b) == totF (overF b a)) = true := by simpa using q1
      clear q1
      go_wp2_with fail
      all_goals
        go_ret
        exact ⟨ret_bool (by first | rfl | (simp; omega)), c17B⟩
end Go.Proofs.Ytcempbgbdlmjfaa
