/-
  params: the walk of ParamsBack.
-/
import Derived.Test.YtcempbgbdlmjfaaDoorPbPr
import Derived.Test.YtcempbgbdlmjfaaDoorPaH
namespace Go.Proofs.YtcempbgbdlmjfaaDoor
open Go.RowKit

theorem bI_bL (l : List UInt8) : bI ⟨l.toArray⟩ = bL l := by simp [bI, bL]
theorem drewN_below {B : Nat} {w w' : World} (h : Below B w w') (n : Nat) : Below B w (w'.drewN n) := h.trans ⟨rfl, rfl, rfl, Nat.le_refl _, fun _ _ => rfl⟩
set_option maxRecDepth 100000 in
set_option maxHeartbeats 3200000 in
theorem pback_walk (s : ByteArray) (w : World) (hs : s.size ≤ maxLen) (hT : TabI w) : Calls Tryd.prog 12 #[.string s] w fun e w' => e = .returned (.bool true) ∧ Below w.heap.size w w' := by
  have HT := Lib.hid hT
  clear hT
  by_cases h300 : s.size ≤ 300
  · have d0 : decide ((300 : Int) < (s.size : Int)) = false := by simp; omega
    obtain ⟨r, hr⟩ : ∃ r, parseGo ⟨[], false⟩ (bI s) = r := ⟨_, rfl⟩
    have HR := Lib.hid hr
    clear hr
    cases r with
    | none =>
      go_enter Tryd.func12, Tryd.ntmps12
      go_wp2_with fail
      refine (awake5_any _).mono ?_
      rintro e w1 ⟨rfl, hb1⟩
      have HB1 := Lib.hid hb1
      clear hb1
      go_wp2_with fail
      refine (parse_any s _ hs).mono ?_
      rintro e w2 ⟨hb2, hp⟩
      rw [HR.out] at hp
      simp only at hp
      subst hp
      have HB2 := Lib.hid (HB1.out.trans (hb2.mono HB1.out.size))
      clear hb2
      go_wp2_with fail
      go_ret
      exact ⟨rfl, HB2.out⟩
    | some q =>
      have hsn := parse_sane (bI s) empty_sane HR.out
      have h3 := (saneP_iff q).1 hsn
      have hs0 : saneP ⟨q.l, false⟩ = true := (saneP_iff _).2 ⟨h3.1, by simp, h3.2.2⟩
      have hlen := print_lenS q.l hs0
      obtain ⟨q2, hq2, hor⟩ := back_law q.l hs0
      have hpb := print_back q.l hs0 q2 hor
      have hl1 : q.l.length ≤ 1000000 := by have := h3.1; omega
      have hl2 : ∀ x ∈ q.l, x.length ≤ 1000000 := fun x hx => by
        have := ((okRow_iff x).1 (h3.2.2 x hx)).1
        omega
      have hsn2 := parse_sane _ empty_sane hq2
      have h32 := (saneP_iff q2).1 hsn2
      have hs2 : saneP ⟨q2.l, false⟩ = true := (saneP_iff _).2 ⟨h32.1, by simp, h32.2.2⟩
      obtain ⟨tb, htb⟩ : ∃ tb : ByteArray, (⟨(printS q.l).toArray⟩ : ByteArray) = tb := ⟨_, rfl⟩
      have hbi : parseGo ⟨[], false⟩ (bI tb) = some q2 := by rw [← htb, bI_bL]; exact hq2
      have htz : tb.size ≤ 576 := by rw [← htb]; simpa [ByteArray.size] using hlen
      have htz2 : (tb.size : Int) ≤ 576 := by omega
      have HS0 := Lib.hid hs0; have HS2 := Lib.hid hs2; have HPB := Lib.hid hpb; have HTB := Lib.hid htb; have HBI := Lib.hid hbi; have L1 := Lib.hid hl1; have L2 := Lib.hid hl2
      clear hsn h3 hs0 hlen hq2 hpb hl1 hl2 hsn2 h32 hs2 htb hbi
      go_enter Tryd.func12, Tryd.ntmps12
      go_wp2_with fail
      refine (awake5_any _).mono ?_
      rintro e w1 ⟨rfl, hb1⟩
      have HB1 := Lib.hid hb1
      have HT1 := Lib.hid (HT.out.below hb1)
      clear hb1
      go_wp2_with fail
      refine (parse_any s _ hs).mono ?_
      rintro e w2 ⟨hb2, hp⟩
      rw [HR.out] at hp
      obtain ⟨v2, rfl, hr2⟩ := hp
      obtain ⟨A2, c2, rfl, hc2⟩ := rdLL_form hr2
      have HB2 := Lib.hid (HB1.out.trans (hb2.mono HB1.out.size))
      have HT2 := Lib.hid (HT1.out.below hb2)
      have HR2 := Lib.hid hr2
      clear hb2 hr2
      go_wp2_with fail
      refine (print5_any q.l _ _ HR2.out HT2.out HS0.out).mono ?_
      rintro e w3 ⟨rfl, hb3⟩
      simp only [HTB.out]
      have HB3 := Lib.hid (HB2.out.trans (hb3.mono HB2.out.size))
      have HT3 := Lib.hid (HT2.out.below hb3)
      have HR3 := Lib.hid (HR2.out.next hb3)
      clear hb3
      go_wp2_with fail
      refine (parse_any tb _ (by unfold maxLen; omega)).mono ?_
      rintro e w4 ⟨hb4, hp⟩
      rw [HBI.out] at hp
      obtain ⟨v4, rfl, hr4⟩ := hp
      obtain ⟨A4, c4, rfl, hc4⟩ := rdLL_form hr4
      have HB4 := Lib.hid (HB3.out.trans (hb4.mono HB3.out.size))
      have HT4 := Lib.hid (HT3.out.below hb4)
      have HR4 := Lib.hid (HR3.out.next hb4)
      have HM4 := Lib.hid hr4
      clear hb4 hr4
      rcases hor with hor | ⟨h1, h2⟩
      · obtain ⟨ql, qo⟩ := q2
        simp only at hor
        subst hor
        have hsame : decide (q.l = q.l) = true := by simp
        have HSM := Lib.hid hsame
        clear hsame
        go_wp2_with fail
        refine (same5_any q.l q.l _ _ _ HR4.out HM4.out L2.out L1.out).mono ?_
        rintro e w5 ⟨rfl, n5, rfl⟩
        simp only [HSM.out]
        go_wp2_with fail
        refine (sanep_any q.l false _ _ (show RdLL (w4.drewN n5) _ (w4.drewN n5).heap.size _ q.l from HR4.out)).mono ?_
        rintro e w6 ⟨rfl, hb6⟩
        simp only [HS0.out]
        have HB6 := Lib.hid ((drewN_below HB4.out n5).trans (hb6.mono HB4.out.size))
        have HT6 : Hid (TabI w6) := Lib.hid (TabI.below (w := w4.drewN n5) HT4.out hb6)
        have HM6 := Lib.hid (RdLL.next (w := w4.drewN n5) HM4.out hb6)
        clear hb6
        go_wp2_with fail
        refine (print5_any q.l _ _ HM6.out HT6.out HS0.out).mono ?_
        rintro e w7 ⟨rfl, hb7⟩
        simp only [HTB.out]
        have HB7 := Lib.hid (HB6.out.trans (hb7.mono HB6.out.size))
        clear hb7
        go_wp2_with fail
        go_ret
        exact ⟨rfl, HB7.out⟩
      · obtain ⟨ql, qo⟩ := q2
        obtain ⟨pl, po⟩ := q
        simp only at h1 h2
        subst h1
        subst h2
        obtain ⟨b, off, Ai, ci, hA, hbB, hc, hci, hri⟩ := HR4.out.at 0 (by simp)
        subst hA
        obtain ⟨b2, off2, hA2, hb2, hcl⟩ := nums_at hri (by simp)
        subst hA2
        have c0 := hcl 0 (by simp)
        simp only [List.getElem_cons_zero, List.length_cons, List.length_nil, Nat.add_zero] at hc c0
        have hsame : decide (([[-1]] : List (List Int)) = []) = false := by decide
        have HSM := Lib.hid hsame
        clear hsame hcl hri
        try simp only [List.length_cons, List.length_nil]
        go_wp2_with fail
        refine (same5_any [[-1]] [] _ _ _ HR4.out HM4.out L2.out L1.out).mono ?_
        rintro e w5 ⟨rfl, n5, rfl⟩
        simp only [HSM.out]
        go_wp2_with fail
        refine (sanep_any [[-1]] false _ _ (show RdLL (w4.drewN n5) _ (w4.drewN n5).heap.size _ [[-1]] from HR4.out)).mono ?_
        rintro e w6 ⟨rfl, hb6⟩
        simp only [HS0.out]
        have HB6 := Lib.hid ((drewN_below HB4.out n5).trans (hb6.mono HB4.out.size))
        have HT6 : Hid (TabI w6) := Lib.hid (TabI.below (w := w4.drewN n5) HT4.out hb6)
        have HM6 := Lib.hid (RdLL.next (w := w4.drewN n5) HM4.out hb6)
        clear hb6
        go_wp2_with fail
        refine (print5_any [] _ _ HM6.out HT6.out HS2.out).mono ?_
        rintro e w7 ⟨rfl, hb7⟩
        have hpb2 := HPB.out
        try simp only at hpb2
        try simp only [hpb2, HTB.out]
        have HB7 := Lib.hid (HB6.out.trans (hb7.mono HB6.out.size))
        clear hb7 hpb2
        go_wp2_with fail
        go_ret
        exact ⟨rfl, HB7.out⟩
  · have d0 : decide ((300 : Int) < (s.size : Int)) = true := by simp; omega
    clear h300
    go_enter Tryd.func12, Tryd.ntmps12
    go_wp2_with fail
    refine (awake5_any _).mono ?_
    rintro e w1 ⟨rfl, hb1⟩
    have HB1 := Lib.hid hb1
    clear hb1
    go_wp2_with fail
    go_ret
    exact ⟨rfl, HB1.out⟩
end Go.Proofs.YtcempbgbdlmjfaaDoor
