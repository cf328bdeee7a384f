/-
  lapwinglaw03.UtfShort: for any two numbers it answers true: a beginning that is ended is one FFFD; with what makes it whole it is that letter. No condition.
-/
import Derived.Test.YtcempbgbdlmjfaaUtI
import Derived.Test.YtcempbgbdlmjfaaUtfBack
import Derived.Deep.DeepCutAuto
import Derived.Deep.RegionHeld3
namespace Go.Proofs.Ytcempbgbdlmjfaa
open Go.RowKit

set_option maxRecDepth 100000 in
set_option maxHeartbeats 3200000 in
theorem short_walk (r m : Int) (w : World) :
    Calls Try.prog 13 #[.int .i64 r, .int .i64 m] w fun e w' => e = .returned (.bool true) ∧ Below w.heap.size w w' := by
  obtain ⟨q, hq, hq2⟩ := and_16 m
  obtain ⟨N, hN⟩ : ∃ N, (putF r).length = N := ⟨_, rfl⟩
  have hpl := put_len r
  rw [hN] at hpl
  obtain ⟨k, hk⟩ : ∃ k, q % N = k := ⟨_, rfl⟩
  have hk2 : k < N := by rw [← hk]; exact Nat.mod_lt _ hpl.1
  have hk3 : (q : Int) % (N : Int) = (k : Int) := by omega
  have HN := Lib.hid hN; clear hN hk
  have hbp := bytes_put r
  have HBP := Lib.hid hbp; clear hbp
  have fput := feed_put r []
  rw [List.append_nil, feedF_nil] at fput
  have FPUT := Lib.hid fput; clear fput
  have hbt : Bytes ((putF r).take k) := fun y hy => HBP.out y (List.mem_of_mem_take hy)
  have HBT := Lib.hid hbt; clear hbt
  by_cases hk0 : k = 0
  · subst hk0
    go_enter Try.func13, Try.ntmps13
    go_upto_region 6 with (first
      | (go_at_call 25; refine (awake3_any _).mono ?_; rintro e w1 ⟨rfl, hb1⟩)
      | (go_at_call 40; refine (put_any r _).mono ?_; rintro e w2 ⟨A2, c2, rfl, ho2, hb2⟩; simp only [HN.out] at ho2 ⊢))
    have rd2 := Rd.of_own ho2
    have m1 := hb1.size
    have m2 := hb2.size
    have cN : (0 : Int) ≤ (N : Int) := by omega
    have hk4 : (q : Int) % (N : Int) = 0 := by omega
    simp only [hk4]
    go_upto_region 7 with (first
      | (go_at_call 26; refine (feed_says [] [] [] [] none _ 0 0 0 c2 _ w2.heap.size (by simp) (Rd.nil _ _ _) (Rd.nil _ _ _) rfl (by intro y hy; simp at hy) (by intro y hy; simp at hy) (by simp) rfl rfl rfl).mono ?_; rintro e w3 ⟨A3, c3, A4, c4, rfl, ho3, ho4, hb3⟩; simp only [List.length_nil] at ho3 ho4 ⊢))
    have rdp : Rd (w3.alloc (.cells #[.slice A3 0 c3] 45)) (w3.heap.size + 1) A2 (byteCells (putF r)) := by simpa using (rd2.next hb3).nextA (.cells #[.slice A3 0 c3] 45)
    have hcp : N ≤ c2 := by
      obtain ⟨_, _, e, h⟩ := own_slice ho2
      injection e with _ _ e
      omega
    have m3 := hb3.size
    have cc : (N : Int) ≤ (c2 : Int) := by omega
    have hw3 : Below w.heap.size w (w3.alloc (.cells #[.slice A3 0 c3] 45)) := (bt (bt hb1 hb2 m1) hb3 (by omega)).alloc (by omega) _
    go_cut [10, 11] (fun s10 s11 wx => Fed (w3.alloc (.cells #[.slice A3 0 c3] 45)) wx s10 s11 [] [okR r])
    case first =>
      go_region_held3 (fun w' => w'.cell? ⟨w3.heap.size, 0, none⟩ = some (.slice A3 0 c3)) (first | exact past hb4 (by assumption) | go_keep | (rw [World.cell?_alloc_lt _ _ _ (show w3.heap.size < w4.heap.size by omega)]; exact (hb4.cell (p := ⟨w3.heap.size, 0, none⟩) (by simp)).trans (by simp)))
        (first | (go_at_call 26; refine (feed_says [] (putF r) [] [okR r] A3 A2 0 N c3 c2 _ (w3.heap.size + 1) (by simp) (Rd.nil _ _ _) (by first | exact rdp | exact rdp.alloc (by simp) _) rfl (by intro y hy; simp at hy) HBP.out (by rw [HN.out]; omega) rfl HN.out FPUT.out).mono ?_; rintro e w4 ⟨A5, c5, A6, c6, rfl, ho5, ho6, hb4⟩; simp only [List.length_nil, List.length_cons, Nat.zero_add] at ho5 ho6 ⊢; have m4 := hb4.size; simp at m4; obtain ⟨hc4, hf4⟩ := bcell hb4))
      all_goals go_wp2_with fail
      all_goals go_meet
      · exact fed_1d (t := []) (m := [okR r]) hb4 ho5 ho6
      · have h := fed_2d (t := []) (m := [okR r]) hb4 ho5 ho6
        simp only [World.size_alloc] at h
        exact h
    case rest =>
      obtain ⟨⟨g, A5, c5, A6, c6, rfl, rfl, qc, qf, hg1, hg2, rd5, ho6⟩, hb4⟩ := hcut
      simp only [List.length_cons, List.length_nil, Nat.zero_add]
      have m4 := hb4.size
      simp at m4
      have k8 : wc.cell? ⟨w3.heap.size, 0, none⟩ = some (.slice A3 0 c3) := (hb4.cell (p := ⟨w3.heap.size, 0, none⟩) (by simp)).trans (new_cell (Below.refl _ _) 0 _ rfl)
      go_wp2_with (go_at_call 41; refine (end_any [] A3 c3 _ _ (Nat.le_refl _) (Rd.nil _ _ _) (by intro y hy; simp at hy) (by simp)).mono ?_; rintro e w5 ⟨A7, c7, rfl, ho7, hb5⟩)
      go_ret
      exact ⟨rfl, bt (bt hw3 hb4 (by simp; omega)) hb5 (by omega)⟩
  · have fpart := feed_part r k (by omega) (by rw [HN.out]; exact hk2)
    have fwhole : feedF ((putF r).take k ++ (putF r).drop k) = ([], [okR r]) := by rw [List.take_append_drop]; exact FPUT.out
    have hsan : sanU ((putF r).take k) = true := by have := feed_sane ((putF r).take k); rw [fpart] at this; exact this
    have hend : endF ((putF r).take k) = [65533] := by
      rw [end_sane _ hsan, if_neg]
      intro e
      have := congrArg List.length e
      rw [List.length_take, HN.out] at this
      simp at this; omega
    have hlt1 : ((putF r).take k).length = k := by rw [List.length_take, HN.out]; omega
    have hlt2 : ((putF r).drop k).length = N - k := by rw [List.length_drop, HN.out]
    have hbd : Bytes ((putF r).drop k) := HBP.out.drop k
    have hpp : putF (okR r) = putF r := by unfold putF; rw [okR_of (okR_letter r)]
    have FPART := Lib.hid fpart; have FWH := Lib.hid fwhole; have HSAN := Lib.hid hsan; have HEND := Lib.hid hend; have HL1 := Lib.hid hlt1; have HL2 := Lib.hid hlt2; have HBD := Lib.hid hbd; have HPP := Lib.hid hpp
    clear fpart fwhole hsan hend hlt1 hlt2 hbd hpp
    go_enter Try.func13, Try.ntmps13
    go_upto_region 6 with (first
      | (go_at_call 25; refine (awake3_any _).mono ?_; rintro e w1 ⟨rfl, hb1⟩)
      | (go_at_call 40; refine (put_any r _).mono ?_; rintro e w2 ⟨A2, c2, rfl, ho2, hb2⟩; simp only [HN.out] at ho2 ⊢))
    have rd2 := Rd.of_own ho2
    have m1 := hb1.size
    have m2 := hb2.size
    simp only [hk3]
    have hcp : N ≤ c2 := by
      obtain ⟨_, _, e, h⟩ := own_slice ho2
      injection e with _ _ e
      omega
    have cN : (0 : Int) ≤ (k : Int) := by omega
    have cc : (k : Int) ≤ (c2 : Int) := by omega
    have cd : (k : Int) ≤ (N : Int) := by omega
    have ce : (N : Int) ≤ (c2 : Int) := by omega
    have cf : ¬ c2 = k := by omega
    obtain ⟨b2, off, hA2, hbB, _⟩ := rd2 (by rw [byteCells_len, HN.out]; exact hpl.1)
    subst hA2
    have rdt := rd2.take k
    rw [show (byteCells (putF r)).take k = byteCells ((putF r).take k) from by simp [byteCells]] at rdt
    have rdd := rd2.drop k
    rw [show (byteCells (putF r)).drop k = byteCells ((putF r).drop k) from by simp [byteCells]] at rdd
    go_upto_region 7 with (first
      | (go_at_call 26; refine (feed_says [] ((putF r).take k) ((putF r).take k) [] none _ 0 k 0 c2 _ w2.heap.size (by simp) (Rd.nil _ _ _) rdt rfl (by intro y hy; simp at hy) HBT.out (by rw [HL1.out]; omega) rfl HL1.out FPART.out).mono ?_; rintro e w3 ⟨A3, c3, A4, c4, rfl, ho3, ho4, hb3⟩; simp only [List.length_nil, HL1.out] at ho3 ho4 ⊢))
    have rds : Rd (w3.alloc (.cells #[.slice A3 k c3] 45)) (w3.heap.size + 1) A3 (byteCells ((putF r).take k)) := by simpa using (Rd.of_own ho3).nextA (.cells #[.slice A3 k c3] 45)
    have rdp : Rd (w3.alloc (.cells #[.slice A3 k c3] 45)) (w3.heap.size + 1) (some ⟨b2, off + k, none⟩) (byteCells ((putF r).drop k)) := by simpa using (rdd.next hb3).nextA (.cells #[.slice A3 k c3] 45)
    have rdb : Rd (w3.alloc (.cells #[.slice A3 k c3] 45)) (w3.heap.size + 1) (some ⟨b2, off, none⟩) (byteCells (putF r)) := by simpa using (rd2.next hb3).nextA (.cells #[.slice A3 k c3] 45)
    have m3 := hb3.size
    have hw3 : Below w.heap.size w (w3.alloc (.cells #[.slice A3 k c3] 45)) := (bt (bt hb1 hb2 m1) hb3 (by omega)).alloc (by omega) _
    clear rd2 rdt rdd ho2 ho3 ho4 hb1 hb2 hb3
    go_cut [10, 11] (fun s10 s11 wx => Fed (w3.alloc (.cells #[.slice A3 k c3] 45)) wx s10 s11 [] [okR r])
    case first =>
      go_region_held3 (fun w' => w'.cell? ⟨w3.heap.size, 0, none⟩ = some (.slice A3 k c3)) (first | exact past hb4 (by assumption) | go_keep | (rw [World.cell?_alloc_lt _ _ _ (show w3.heap.size < w4.heap.size by omega)]; exact (hb4.cell (p := ⟨w3.heap.size, 0, none⟩) (by simp)).trans (by simp)))
        (first | (go_at_call 26; refine (feed_says ((putF r).take k) ((putF r).drop k) [] [okR r] A3 _ k (N - k) c3 (c2 - k) _ (w3.heap.size + 1) (by simp) (by first | exact rds | exact rds.alloc (by simp) _) (by first | exact rdp | exact rdp.alloc (by simp) _) HSAN.out HBT.out HBD.out (by rw [HL2.out]; omega) HL1.out HL2.out FWH.out).mono ?_; rintro e w4 ⟨A5, c5, A6, c6, rfl, ho5, ho6, hb4⟩; simp only [List.length_nil, List.length_cons, Nat.zero_add] at ho5 ho6 ⊢; have m4 := hb4.size; simp at m4; obtain ⟨hc4, hf4⟩ := bcell hb4))
      all_goals go_wp2_with fail
      all_goals go_meet
      · exact fed_1d (t := []) (m := [okR r]) hb4 ho5 ho6
      · have h := fed_2d (t := []) (m := [okR r]) hb4 ho5 ho6
        simp only [World.size_alloc] at h
        exact h
    case rest =>
      obtain ⟨⟨g, A5, c5, A6, c6, rfl, rfl, qc, qf, hg1, hg2, rd5, ho6⟩, hb4⟩ := hcut
      simp only [List.length_cons, List.length_nil, Nat.zero_add] at qc ho6 ⊢
      have m4 := hb4.size
      simp at m4
      have k8 : wc.cell? ⟨w3.heap.size, 0, none⟩ = some (.slice A3 k c3) := (hb4.cell (p := ⟨w3.heap.size, 0, none⟩) (by simp)).trans (new_cell (Below.refl _ _) 0 _ rfl)
      have rds2 := rds.below hb4 (by simp)
      have rdb2 := rdb.below hb4 (by simp)
      go_upto_region 11 with (go_at_call 41; (have he := end_any ((putF r).take k) A3 c3 wc (w3.heap.size + 1) (by omega) rds2 HBT.out (by rw [HL1.out]; unfold maxLen; omega); rw [HL1.out, HEND.out] at he; refine he.mono ?_); rintro e w5 ⟨A7, c7, rfl, ho7, hb5⟩; simp only [List.length_cons, List.length_nil, Nat.zero_add] at ho7 ⊢)
      obtain ⟨g7, cap7, hv7, hg7, hglt7⟩ := ho7.form (by omega)
      injection hv7 with e1 e2 e3; subst e1; subst e3
      obtain ⟨g6, cap6, hv6, hg6, hglt6⟩ := ho6.form (by omega)
      injection hv6 with e1 e2 e3; subst e1; subst e3
      have x7 : w5.cell? ⟨g7, 0, none⟩ = some (.int .i64 65533) := ho7.cells (g := g7) rfl 0 _ rfl
      have x6' : wc.cell? ⟨g6, 0, none⟩ = some (.int .i64 (okR r)) := ho6.cells (g := g6) rfl 0 _ rfl
      have x6 := past hb5 x6'
      have x8 := past hb5 k8
      have x5 := past hb5 qc
      have rdb3 := rdb2.below hb5 (by omega)
      have m5 := hb5.size
      have hbl : Below w.heap.size w w5 := bt (bt hw3 hb4 (by simp; omega)) hb5 (by omega)
      have hcv : ∀ W : World, Rd W (w3.heap.size + 1) (some ⟨b2, off, none⟩) (byteCells (putF r)) → (convert 42 9 (.slice (some ⟨b2, off, none⟩) N c2)).run Try.prog W = .ok (.string (strOfNums (putF r))) W := by
        intro W h
        have := run_str h 42 5 9 c2 Try.underlying42 Try.underlying5 Try.underlying9
        rw [HN.out] at this
        exact this
      have HCV := Lib.hid hcv; clear hcv
      have x9 := HCV.out w5 rdb3
      have hq0 : ((k : Int) == (k : Int)) = true := by simp
      have S5 : w5.cell? ⟨g7, 0, none⟩ = some (.int .i64 65533) ∧ w5.cell? ⟨g6, 0, none⟩ = some (.int .i64 (okR r)) ∧ w5.cell? ⟨w3.heap.size, 0, none⟩ = some (.slice A3 k c3) ∧ w5.cell? ⟨g, 0, none⟩ = some (.slice A5 0 c5) ∧ (convert 42 9 (.slice (some ⟨b2, off, none⟩) N c2)).run Try.prog w5.drew = .ok (.string (strOfNums (putF r))) w5.drew := ⟨x7, x6, x8, x5, HCV.out w5.drew rdb3⟩
      have HS9 : Hid (∀ w9 : World, Below w5.drew.heap.size w5.drew w9 → w9.cell? ⟨g7, 0, none⟩ = some (.int .i64 65533) ∧ w9.cell? ⟨g6, 0, none⟩ = some (.int .i64 (okR r)) ∧ w9.cell? ⟨w3.heap.size, 0, none⟩ = some (.slice A3 k c3) ∧ w9.cell? ⟨g, 0, none⟩ = some (.slice A5 0 c5) ∧ (convert 42 9 (.slice (some ⟨b2, off, none⟩) N c2)).run Try.prog w9 = .ok (.string (strOfNums (putF r))) w9) :=
        Lib.hid fun w9 h => ⟨past ((Below.refl _ _).drew.trans h) x7, past ((Below.refl _ _).drew.trans h) x6, past ((Below.refl _ _).drew.trans h) x8, past ((Below.refl _ _).drew.trans h) x5, HCV.out w9 (rdb3.below ((Below.refl _ _).drew.trans h) (by simp; omega))⟩
      clear hb4 hb5 qc k8 x6' rds rdp rdb rds2 rdb2 rd5 ho6 ho7
      go_region_held3 (fun w' => w'.cell? ⟨g7, 0, none⟩ = some (.int .i64 65533) ∧ w'.cell? ⟨g6, 0, none⟩ = some (.int .i64 (okR r)) ∧ w'.cell? ⟨w3.heap.size, 0, none⟩ = some (.slice A3 k c3) ∧ w'.cell? ⟨g, 0, none⟩ = some (.slice A5 0 c5) ∧ (convert 42 9 (.slice (some ⟨b2, off, none⟩) N c2)).run Try.prog w' = .ok (.string (strOfNums (putF r))) w')
        (first | exact S9 | exact S5)
        (first | (go_at_call 40; refine (put_any (okR r) _).mono ?_; rintro e w9 ⟨A9, c9, rfl, ho9, hb9⟩; simp only [HPP.out, HN.out] at ho9 ⊢; have x10 := run_str (Rd.of_own ho9) 42 5 9 c9 Try.underlying42 Try.underlying5 Try.underlying9; rw [HN.out] at x10; have S9 := HS9.out w9 hb9))
      go_wp2_with fail
      go_ret
      exact ⟨rfl, bt hbl.drew hb9 hbl.size⟩
end Go.Proofs.Ytcempbgbdlmjfaa
