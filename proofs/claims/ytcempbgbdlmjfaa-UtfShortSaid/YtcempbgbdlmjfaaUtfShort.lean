/-
  lapwinglaw03.UtfShort: for any two numbers it answers true: a beginning that is ended is one FFFD; with what makes it whole it is that letter. No condition.
-/
import Derived.Test.YtcempbgbdlmjfaaUtI
import Derived.Test.YtcempbgbdlmjfaaUtfBack
import Derived.Deep.DeepCutAuto
import Derived.Test.YtcempbgbdlmjfaaBase5
namespace Go.Proofs.Ytcempbgbdlmjfaa
open Go.RowKit

set_option linter.unusedSimpArgs false in
set_option maxRecDepth 100000 in
set_option maxHeartbeats 3200000 in
theorem short_walk (r m : Int) (w : World) :
    Calls Try.prog 13 #[.int .i64 r, .int .i64 m] w fun e w' => e = .returned (.bool true) ∧ Below w.heap.size w w' := by
  obtain ⟨q, hq, hq2⟩ := and_16 m
  obtain ⟨N, hN⟩ : ∃ N, (putF r).length = N := ⟨_, rfl⟩
  have hpl := put_len r
  rw [hN] at hpl
  obtain ⟨k, hk⟩ : ∃ k, q % N = k := ⟨_, rfl⟩
  have hk2 : k < N := by rw [← hk]; exact Nat.mod_lt _ hpl.1
  have hk3 : (q : Int) % (N : Int) = (k : Int) := by omega
  have HN := Lib.hid hN; clear hN hk
  have hbp := bytes_put r
  have HBP := Lib.hid hbp; clear hbp
  have fput := feed_put r []
  rw [List.append_nil, feedF_nil] at fput
  have FPUT := Lib.hid fput; clear fput
  have hbt : Bytes ((putF r).take k) := fun y hy => HBP.out y (List.mem_of_mem_take hy)
  have HBT := Lib.hid hbt; clear hbt
  by_cases hk0 : k = 0
  · subst hk0
    go_enter Try.func13, Try.ntmps13
    go_upto_region 6 with (first
      | (go_at_call 25; refine (awake3_any _).mono ?_; rintro e w1 ⟨rfl, hb1⟩)
      | (go_at_call 40; refine (put_any r _).mono ?_; rintro e w2 ⟨A2, c2, rfl, ho2, hb2⟩; simp only [HN.out] at ho2 ⊢))
    have rd2 := Rd.of_own ho2
    have m1 := hb1.size
    have m2 := hb2.size
    have cN : (0 : Int) ≤ (N : Int) := by omega
    have hk4 : (q : Int) % (N : Int) = 0 := by omega
    simp only [hk4]
    go_upto_region 7 with (first
      | (go_at_call 26; refine (feed_says [] [] [] [] none _ 0 0 0 c2 _ w2.heap.size (by simp) (Rd.nil _ _ _) (Rd.nil _ _ _) rfl (by intro y hy; simp at hy) (by intro y hy; simp at hy) (by simp) rfl rfl rfl).mono ?_; rintro e w3 ⟨A3, c3, A4, c4, rfl, ho3, ho4, hb3⟩; simp only [List.length_nil] at ho3 ho4 ⊢))
    have rdp : Rd (w3.alloc (.cells #[.slice A3 0 c3] 45)) (w3.heap.size + 1) A2 (byteCells (putF r)) := by simpa using (rd2.next hb3).nextA (.cells #[.slice A3 0 c3] 45)
    have hcp : N ≤ c2 := by
      obtain ⟨_, _, e, h⟩ := own_slice ho2
      injection e with _ _ e
      omega
    have m3 := hb3.size
    have cc : (N : Int) ≤ (c2 : Int) := by omega
    have hw3 : Below w.heap.size w (w3.alloc (.cells #[.slice A3 0 c3] 45)) := (bt (bt hb1 hb2 m1) hb3 (by omega)).alloc (by omega) _
    go_cut [10, 11] (fun s10 s11 wx => Fed (w3.alloc (.cells #[.slice A3 0 c3] 45)) wx s10 s11 [] [okR r])
    case first =>
      go_region_held3 (fun w' => w'.cell? ⟨w3.heap.size, 0, none⟩ = some (.slice A3 0 c3)) (first | exact past hb4 (by assumption) | go_keep | (rw [World.cell?_alloc_lt _ _ _ (show w3.heap.size < w4.heap.size by omega)]; exact (hb4.cell (p := ⟨w3.heap.size, 0, none⟩) (by simp)).trans (by simp)))
        (first | (go_at_call 26; refine (feed_says [] (putF r) [] [okR r] A3 A2 0 N c3 c2 _ (w3.heap.size + 1) (by simp) (Rd.nil _ _ _) (by first | exact rdp | exact rdp.alloc (by simp) _) rfl (by intro y hy; simp at hy) HBP.out (by rw [HN.out]; omega) rfl HN.out FPUT.out).mono ?_; rintro e w4 ⟨A5, c5, A6, c6, rfl, ho5, ho6, hb4⟩; simp only [List.length_nil, List.length_cons, Nat.zero_add] at ho5 ho6 ⊢; have m4 := hb4.size; simp at m4; obtain ⟨hc4, hf4⟩ := bcell hb4))
      all_goals go_wp2_with fail
      all_goals go_meet
      · exact fed_1d (t := []) (m := [okR r]) hb4 ho5 ho6
      · have h := fed_2d (t := []) (m := [okR r]) hb4 ho5 ho6
        simp only [World.size_alloc] at h
        exact h
    case rest =>
      obtain ⟨⟨g, A5, c5, A6, c6, rfl, rfl, qc, qf, hg1, hg2, rd5, ho6⟩, hb4⟩ := hcut
      simp only [List.length_cons, List.length_nil, Nat.zero_add]
      have m4 := hb4.size
      simp at m4
      have k8 : wc.cell? ⟨w3.heap.size, 0, none⟩ = some (.slice A3 0 c3) := (hb4.cell (p := ⟨w3.heap.size, 0, none⟩) (by simp)).trans (new_cell (Below.refl _ _) 0 _ rfl)
      go_wp2_with (go_at_call 41; refine (end_any [] A3 c3 _ _ (Nat.le_refl _) (Rd.nil _ _ _) (by intro y hy; simp at hy) (by simp)).mono ?_; rintro e w5 ⟨A7, c7, rfl, ho7, hb5⟩)
      go_ret
      exact ⟨rfl, bt (bt hw3 hb4 (by simp; omega)) hb5 (by omega)⟩
  · have fpart := feed_part r k (by omega) (by rw [HN.out]; exact hk2)
    have fwhole : feedF ((putF r).take k ++ (putF r).drop k) = ([], [okR r]) := by rw [List.take_append_drop]; exact FPUT.out
    have hsan : sanU ((putF r).take k) = true := by have := feed_sane ((putF r).take k); rw [fpart] at this; exact this
    have hend : endF ((putF r).take k) = [65533] := by
      rw [end_sane _ hsan, if_neg]
      intro e
      have := congrArg List.length e
      rw [List.length_take, HN.out] at this
      simp at this; omega
    have hlt1 : ((putF r).take k).length = k := by rw [List.length_take, HN.out]; omega
    have hlt2 : ((putF r).drop k).length = N - k := by rw [List.length_drop, HN.out]
    have hbd : Bytes ((putF r).drop k) := HBP.out.drop k
    have hpp : putF (okR r) = putF r := by unfold putF; rw [okR_of (okR_letter r)]
    have FPART := Lib.hid fpart; have FWH := Lib.hid fwhole; have HSAN := Lib.hid hsan; have HEND := Lib.hid hend; have HL1 := Lib.hid hlt1; have HL2 := Lib.hid hlt2; have HBD := Lib.hid hbd; have HPP := Lib.hid hpp
    clear fpart fwhole hsan hend hlt1 hlt2 hbd hpp
    go_enter Try.func13, Try.ntmps13
    go_upto_region 6 with (first
      | (go_at_call 25; refine (awake3_any _).mono ?_; rintro e w1 ⟨rfl, hb1⟩)
      | (go_at_call 40; refine (put_any r _).mono ?_; rintro e w2 ⟨A2, c2, rfl, ho2, hb2⟩; simp only [HN.out] at ho2 ⊢))
    have rd2 := Rd.of_own ho2
    have m1 := hb1.size
    have m2 := hb2.size
    simp only [hk3]
    have hcp : N ≤ c2 := by
      obtain ⟨_, _, e, h⟩ := own_slice ho2
      injection e with _ _ e
      omega
    have cN : (0 : Int) ≤ (k : Int) := by omega
    have cc : (k : Int) ≤ (c2 : Int) := by omega
    have cd : (k : Int) ≤ (N : Int) := by omega
    have ce : (N : Int) ≤ (c2 : Int) := by omega
    have cf : ¬ c2 = k := by omega
    obtain ⟨b2, off, hA2, hbB, _⟩ := rd2 (by rw [byteCells_len, HN.out]; exact hpl.1)
    subst hA2
    have rdt := rd2.take k
    rw [show (byteCells (putF r)).take k = byteCells ((putF r).take k) from by simp [byteCells]] at rdt
    have rdd := rd2.drop k
    rw [show (byteCells (putF r)).drop k = byteCells ((putF r).drop k) from by simp [byteCells]] at rdd
    go_upto_region 7 with (first
      | (go_at_call 26; refine (feed_says [] ((putF r).take k) ((putF r).take k) [] none _ 0 k 0 c2 _ w2.heap.size (by simp) (Rd.nil _ _ _) rdt rfl (by intro y hy; simp at hy) HBT.out (by rw [HL1.out]; omega) rfl HL1.out FPART.out).mono ?_; rintro e w3 ⟨A3, c3, A4, c4, rfl, ho3, ho4, hb3⟩; simp only [List.length_nil, HL1.out] at ho3 ho4 ⊢))
    have rds : Rd (w3.alloc (.cells #[.slice A3 k c3] 45)) (w3.heap.size + 1) A3 (byteCells ((putF r).take k)) := by simpa using (Rd.of_own ho3).nextA (.cells #[.slice A3 k c3] 45)
    have rdp : Rd (w3.alloc (.cells #[.slice A3 k c3] 45)) (w3.heap.size + 1) (some ⟨b2, off + k, none⟩) (byteCells ((putF r).drop k)) := by simpa using (rdd.next hb3).nextA (.cells #[.slice A3 k c3] 45)
    have rdb : Rd (w3.alloc (.cells #[.slice A3 k c3] 45)) (w3.heap.size + 1) (some ⟨b2, off, none⟩) (byteCells (putF r)) := by simpa using (rd2.next hb3).nextA (.cells #[.slice A3 k c3] 45)
    have m3 := hb3.size
    have hw3 : Below w.heap.size w (w3.alloc (.cells #[.slice A3 k c3] 45)) := (bt (bt hb1 hb2 m1) hb3 (by omega)).alloc (by omega) _
    clear rd2 rdt rdd ho2 ho3 ho4 hb1 hb2 hb3
    go_cut [10, 11] (fun s10 s11 wx => Fed (w3.alloc (.cells #[.slice A3 k c3] 45)) wx s10 s11 [] [okR r])
    case first =>
      go_region_held3 (fun w' => w'.cell? ⟨w3.heap.size, 0, none⟩ = some (.slice A3 k c3)) (first | exact past hb4 (by assumption) | go_keep | (rw [World.cell?_alloc_lt _ _ _ (show w3.heap.size < w4.heap.size by omega)]; exact (hb4.cell (p := ⟨w3.heap.size, 0, none⟩) (by simp)).trans (by simp)))
        (first | (go_at_call 26; refine (feed_says ((putF r).take k) ((putF r).drop k) [] [okR r] A3 _ k (N - k) c3 (c2 - k) _ (w3.heap.size + 1) (by simp) (by first | exact rds | exact rds.alloc (by simp) _) (by first | exact rdp | exact rdp.alloc (by simp) _) HSAN.out HBT.out HBD.out (by rw [HL2.out]; omega) HL1.out HL2.out FWH.out).mono ?_; rintro e w4 ⟨A5, c5, A6, c6, rfl, ho5, ho6, hb4⟩; simp only [List.length_nil, List.length_cons, Nat.zero_add] at ho5 ho6 ⊢; have m4 := hb4.size; simp at m4; obtain ⟨hc4, hf4⟩ := bcell hb4))
      all_goals go_wp2_with fail
      all_goals go_meet
      · exact fed_1d (t := []) (m := [okR r]) hb4 ho5 ho6
      · have h := fed_2d (t := []) (m := [okR r]) hb4 ho5 ho6
        simp only [World.size_alloc] at h
        exact h
    case rest =>
      obtain ⟨⟨g, A5, c5, A6, c6, rfl, rfl, qc, qf, hg1, hg2, rd5, ho6⟩, hb4⟩ := hcut
      simp only [List.length_cons, List.length_nil, Nat.zero_add] at qc ho6 ⊢
      have m4 := hb4.size
      simp at m4
      have k8 : wc.cell? ⟨w3.heap.size, 0, none⟩ = some (.slice A3 k c3) := (hb4.cell (p := ⟨w3.heap.size, 0, none⟩) (by simp)).trans (new_cell (Below.refl _ _) 0 _ rfl)
      have rds2 := rds.below hb4 (by simp)
      have rdb2 := rdb.below hb4 (by simp)
      go_upto_region 11 with (go_at_call 41; (have he := end_any ((putF r).take k) A3 c3 wc (w3.heap.size + 1) (by omega) rds2 HBT.out (by rw [HL1.out]; unfold maxLen; omega); rw [HL1.out, HEND.out] at he; refine he.mono ?_); rintro e w5 ⟨A7, c7, rfl, ho7, hb5⟩; simp only [List.length_cons, List.length_nil, Nat.zero_add] at ho7 ⊢)
      obtain ⟨g7, cap7, hv7, hg7, hglt7⟩ := ho7.form (by omega)
      injection hv7 with e1 e2 e3; subst e1; subst e3
      obtain ⟨g6, cap6, hv6, hg6, hglt6⟩ := ho6.form (by omega)
      injection hv6 with e1 e2 e3; subst e1; subst e3
      have x7 : w5.cell? ⟨g7, 0, none⟩ = some (.int .i64 65533) := ho7.cells (g := g7) rfl 0 _ rfl
      have x6' : wc.cell? ⟨g6, 0, none⟩ = some (.int .i64 (okR r)) := ho6.cells (g := g6) rfl 0 _ rfl
      have x6 := past hb5 x6'
      have x8 := past hb5 k8
      have x5 := past hb5 qc
      have rdb3 := rdb2.below hb5 (by omega)
      have m5 := hb5.size
      have hbl : Below w.heap.size w w5 := bt (bt hw3 hb4 (by simp; omega)) hb5 (by omega)
      have hcv : ∀ W : World, Rd W (w3.heap.size + 1) (some ⟨b2, off, none⟩) (byteCells (putF r)) → (convert 42 9 (.slice (some ⟨b2, off, none⟩) N c2)).run Try.prog W = .ok (.string (strOfNums (putF r))) W := by
        intro W h
        have := run_str h 42 5 9 c2 Try.underlying42 Try.underlying5 Try.underlying9
        rw [HN.out] at this
        exact this
      have HCV := Lib.hid hcv; clear hcv
      have x9 := HCV.out w5 rdb3
      have hq0 : ((k : Int) == (k : Int)) = true := by simp
      have S5 : w5.cell? ⟨g7, 0, none⟩ = some (.int .i64 65533) ∧ w5.cell? ⟨g6, 0, none⟩ = some (.int .i64 (okR r)) ∧ w5.cell? ⟨w3.heap.size, 0, none⟩ = some (.slice A3 k c3) ∧ w5.cell? ⟨g, 0, none⟩ = some (.slice A5 0 c5) ∧ (convert 42 9 (.slice (some ⟨b2, off, none⟩) N c2)).run Try.prog w5.drew = .ok (.string (strOfNums (putF r))) w5.drew := ⟨x7, x6, x8, x5, HCV.out w5.drew rdb3⟩
      have HS9 : Hid (∀ w9 : World, Below w5.drew.heap.size w5.drew w9 → w9.cell? ⟨g7, 0, none⟩ = some (.int .i64 65533) ∧ w9.cell? ⟨g6, 0, none⟩ = some (.int .i64 (okR r)) ∧ w9.cell? ⟨w3.heap.size, 0, none⟩ = some (.slice A3 k c3) ∧ w9.cell? ⟨g, 0, none⟩ = some (.slice A5 0 c5) ∧ (convert 42 9 (.slice (some ⟨b2, off, none⟩) N c2)).run Try.prog w9 = .ok (.string (strOfNums (putF r))) w9) :=
        Lib.hid fun w9 h => ⟨past ((Below.refl _ _).drew.trans h) x7, past ((Below.refl _ _).drew.trans h) x6, past ((Below.refl _ _).drew.trans h) x8, past ((Below.refl _ _).drew.trans h) x5, HCV.out w9 (rdb3.below ((Below.refl _ _).drew.trans h) (by simp; omega))⟩
      clear hb4 hb5 qc k8 x6' rds rdp rdb rds2 rdb2 rd5 ho6 ho7
      as_aux_lemma =>
       refine wp_region_held_drew (S := fun w' => w'.cell? ⟨g7, 0, none⟩ = some (.int .i64 65533) ∧ w'.cell? ⟨g6, 0, none⟩ = some (.int .i64 (okR r)) ∧ w'.cell? ⟨w3.heap.size, 0, none⟩ = some (.slice A3 k c3) ∧ w'.cell? ⟨g, 0, none⟩ = some (.slice A5 0 c5) ∧ (convert 42 9 (.slice (some ⟨b2, off, none⟩) N c2)).run Try.prog w' = .ok (.string (strOfNums (putF r))) w') (by kernel_rfl) (S5) (fun hHeld => ?_)
       refine take_dst (i := 0) 55 (v := ?v0) rfl rfl (by kernel_rfl) (by kernel_rfl) (by kernel_rfl) (fun _ _ _ h => h) (Or.inl ⟨?w0, ?y0⟩) hHeld ?r0
       case w0 => rfl
       case y0 => (intro w hSw; (try dsimp only at hSw); go_simp; try with_reducible rfl)
       try simp only [Act.put, List.setIfInBounds_toArray, List.set_cons_zero, List.set_cons_succ]
       refine take_dst (i := 1) 56 (v := ?v1) rfl rfl (by kernel_rfl) (by kernel_rfl) (by kernel_rfl) (fun _ _ _ h => h) (Or.inl ⟨?w1, ?y1⟩) hHeld ?r1
       case w1 => rfl
       case y1 => (intro w hSw; (try dsimp only at hSw); go_simp; try with_reducible rfl)
       try simp only [Act.put, List.setIfInBounds_toArray, List.set_cons_zero, List.set_cons_succ]
       refine take_dst (i := 2) 57 (v := ?v2) rfl rfl (by kernel_rfl) (by kernel_rfl) (by kernel_rfl) (fun _ _ _ h => h) (Or.inl ⟨?w2, ?y2⟩) hHeld ?r2
       case w2 => rfl
       case y2 => (intro w hSw; (try dsimp only at hSw); go_simp; try with_reducible rfl)
       try simp only [Act.put, List.setIfInBounds_toArray, List.set_cons_zero, List.set_cons_succ]
       refine take_dst (i := 3) 58 (v := ?v3) rfl rfl (by kernel_rfl) (by kernel_rfl) (by kernel_rfl) (fun _ _ _ h => h) (Or.inl ⟨?w3, ?y3⟩) hHeld ?r3
       case w3 => rfl
       case y3 => (intro w hSw; (try dsimp only at hSw); go_simp; try with_reducible rfl)
       try simp only [Act.put, List.setIfInBounds_toArray, List.set_cons_zero, List.set_cons_succ]
       refine take_dst (i := 4) 59 (v := ?v4) rfl rfl (by kernel_rfl) (by kernel_rfl) (by kernel_rfl) (fun _ _ _ h => h) (Or.inl ⟨?w4, ?y4⟩) hHeld ?r4
       case w4 => rfl
       case y4 => (intro w hSw; (try dsimp only at hSw); go_simp; try with_reducible rfl)
       try simp only [Act.put, List.setIfInBounds_toArray, List.set_cons_zero, List.set_cons_succ]
       as_aux_lemma =>
        refine take_dst (i := 5) 60 (v := ?v5) rfl rfl (by kernel_rfl) (by kernel_rfl) (by kernel_rfl) (fun _ _ _ h => h) (Or.inl ⟨?w5, ?y5⟩) hHeld ?r5
        case w5 => rfl
        case y5 => (intro w hSw; (try dsimp only at hSw); go_simp; try with_reducible rfl)
        try simp only [Act.put, List.setIfInBounds_toArray, List.set_cons_zero, List.set_cons_succ]
        refine take_dst (i := 6) 61 (v := ?v6) rfl rfl (by kernel_rfl) (by kernel_rfl) (by kernel_rfl) (fun _ _ _ h => h) (Or.inl ⟨?w6, ?y6⟩) hHeld ?r6
        case w6 => rfl
        case y6 => (intro w hSw; (try dsimp only at hSw); go_simp; try with_reducible rfl)
        try simp only [Act.put, List.setIfInBounds_toArray, List.set_cons_zero, List.set_cons_succ]
        refine take_dst (i := 7) 62 (v := ?v7) rfl rfl (by kernel_rfl) (by kernel_rfl) (by kernel_rfl) (fun _ _ _ h => h) (Or.inl ⟨?w7, ?y7⟩) hHeld ?r7
        case w7 => rfl
        case y7 => (intro w hSw; (try dsimp only at hSw); go_simp; try with_reducible rfl)
        try simp only [Act.put, List.setIfInBounds_toArray, List.set_cons_zero, List.set_cons_succ]
        refine take_dst (i := 8) 63 (v := ?v8) rfl rfl (by kernel_rfl) (by kernel_rfl) (by kernel_rfl) (fun _ _ _ h => h) (Or.inl ⟨?w8, ?y8⟩) hHeld ?r8
        case w8 => rfl
        case y8 => (intro w hSw; (try dsimp only at hSw); go_simp; try with_reducible rfl)
        try simp only [Act.put, List.setIfInBounds_toArray, List.set_cons_zero, List.set_cons_succ]
        refine take_dst (i := 9) 64 (v := ?v9) rfl rfl (by kernel_rfl) (by kernel_rfl) (by kernel_rfl) (fun _ _ _ h => h) (Or.inl ⟨?w9, ?y9⟩) hHeld ?r9
        case w9 => rfl
        case y9 => (intro w hSw; (try dsimp only at hSw); go_simp; try with_reducible rfl)
        try simp only [Act.put, List.setIfInBounds_toArray, List.set_cons_zero, List.set_cons_succ]
        refine take_dst (i := 10) 65 (v := ?v10) rfl rfl (by kernel_rfl) (by kernel_rfl) (by kernel_rfl) (fun _ _ _ h => h) (Or.inl ⟨?w10, ?y10⟩) hHeld ?r10
        case w10 => rfl
        case y10 => (intro w hSw; (try dsimp only at hSw); go_simp; try with_reducible rfl)
        try simp only [Act.put, List.setIfInBounds_toArray, List.set_cons_zero, List.set_cons_succ]
        as_aux_lemma =>
         refine take_dst (i := 11) 66 (v := ?v11) rfl rfl (by kernel_rfl) (by kernel_rfl) (by kernel_rfl) (fun _ _ _ h => h) (Or.inl ⟨?w11, ?y11⟩) hHeld ?r11
         case w11 => rfl
         case y11 => (intro w hSw; (try dsimp only at hSw); go_simp; try with_reducible rfl)
         try simp only [Act.put, List.setIfInBounds_toArray, List.set_cons_zero, List.set_cons_succ]
         refine take_dst (i := 12) 67 (v := ?v12) rfl rfl (by kernel_rfl) (by kernel_rfl) (by kernel_rfl) (fun _ _ _ h => h) (Or.inl ⟨?w12, ?y12⟩) hHeld ?r12
         case w12 => rfl
         case y12 => (intro w hSw; (try dsimp only at hSw); go_simp; try with_reducible rfl)
         try simp only [Act.put, List.setIfInBounds_toArray, List.set_cons_zero, List.set_cons_succ]
         refine take_dst (i := 13) 68 (v := ?v13) rfl rfl (by kernel_rfl) (by kernel_rfl) (by kernel_rfl) (fun _ _ _ h => h) (Or.inl ⟨?w13, ?y13⟩) hHeld ?r13
         case w13 => rfl
         case y13 => (intro w hSw; (try dsimp only at hSw); go_simp; try with_reducible rfl)
         try simp only [Act.put, List.setIfInBounds_toArray, List.set_cons_zero, List.set_cons_succ]
         refine take_dst (i := 14) 69 (v := ?v14) rfl rfl (by kernel_rfl) (by kernel_rfl) (by kernel_rfl) (fun _ _ _ h => h) (Or.inl ⟨?w14, ?y14⟩) hHeld ?r14
         case w14 => rfl
         case y14 => (intro w hSw; (try dsimp only at hSw); go_simp; try with_reducible rfl)
         try simp only [Act.put, List.setIfInBounds_toArray, List.set_cons_zero, List.set_cons_succ]
         refine take_dst (i := 15) 70 (v := ?v15) rfl rfl (by kernel_rfl) (by kernel_rfl) (by kernel_rfl) (fun _ _ _ h => h) (Or.inl ⟨?w15, ?y15⟩) hHeld ?r15
         case w15 => rfl
         case y15 => (intro w hSw; (try dsimp only at hSw); go_simp; try with_reducible rfl)
         try simp only [Act.put, List.setIfInBounds_toArray, List.set_cons_zero, List.set_cons_succ]
         refine take_dst (i := 16) 71 (v := ?v16) rfl rfl (by kernel_rfl) (by kernel_rfl) (by kernel_rfl) (fun _ _ _ h => h) (Or.inl ⟨?w16, ?y16⟩) hHeld ?r16
         case w16 => rfl
         case y16 => (intro w hSw; (try dsimp only at hSw); go_simp; try with_reducible rfl)
         try simp only [Act.put, List.setIfInBounds_toArray, List.set_cons_zero, List.set_cons_succ]
         as_aux_lemma =>
          refine take_dst (i := 17) 72 (v := ?v17) rfl rfl (by kernel_rfl) (by kernel_rfl) (by kernel_rfl) (fun _ _ _ h => h) (Or.inl ⟨?w17, ?y17⟩) hHeld ?r17
          case w17 => rfl
          case y17 => (intro w hSw; (try dsimp only at hSw); go_simp; try with_reducible rfl)
          try simp only [Act.put, List.setIfInBounds_toArray, List.set_cons_zero, List.set_cons_succ]
          refine take_dst (i := 18) 73 (v := ?v18) rfl rfl (by kernel_rfl) (by kernel_rfl) (by kernel_rfl) (fun _ _ _ h => h) (Or.inl ⟨?w18, ?y18⟩) hHeld ?r18
          case w18 => rfl
          case y18 => (intro w hSw; (try dsimp only at hSw); go_simp; try with_reducible rfl)
          try simp only [Act.put, List.setIfInBounds_toArray, List.set_cons_zero, List.set_cons_succ]
          refine take_dst (i := 19) 74 (v := ?v19) rfl rfl (by kernel_rfl) (by kernel_rfl) (by kernel_rfl) (fun _ _ _ h => h) (Or.inl ⟨?w19, ?y19⟩) hHeld ?r19
          case w19 => rfl
          case y19 => (intro w hSw; (try dsimp only at hSw); go_simp; try with_reducible rfl)
          try simp only [Act.put, List.setIfInBounds_toArray, List.set_cons_zero, List.set_cons_succ]
          refine take_dst (i := 20) 75 (v := ?v20) rfl rfl (by kernel_rfl) (by kernel_rfl) (by kernel_rfl) (fun _ _ _ h => h) (Or.inl ⟨?w20, ?y20⟩) hHeld ?r20
          case w20 => rfl
          case y20 => (intro w hSw; (try dsimp only at hSw); go_simp; try with_reducible rfl)
          try simp only [Act.put, List.setIfInBounds_toArray, List.set_cons_zero, List.set_cons_succ]
          refine take_dst (i := 21) 76 (v := ?v21) rfl rfl (by kernel_rfl) (by kernel_rfl) (by kernel_rfl) (fun _ _ _ h => h) (Or.inl ⟨?w21, ?y21⟩) hHeld ?r21
          case w21 => rfl
          case y21 => (intro w hSw; (try dsimp only at hSw); go_simp; try with_reducible rfl)
          try simp only [Act.put, List.setIfInBounds_toArray, List.set_cons_zero, List.set_cons_succ]
          refine take_dst (i := 22) 77 (v := ?v22) rfl rfl (by kernel_rfl) (by kernel_rfl) (by kernel_rfl) (fun _ _ _ h => h) (Or.inl ⟨?w22, ?y22⟩) hHeld ?r22
          case w22 => rfl
          case y22 => (intro w hSw; (try dsimp only at hSw); go_simp; try with_reducible rfl)
          try simp only [Act.put, List.setIfInBounds_toArray, List.set_cons_zero, List.set_cons_succ]
          as_aux_lemma =>
           refine take_dst (i := 23) 78 (v := ?v23) rfl rfl (by kernel_rfl) (by kernel_rfl) (by kernel_rfl) (fun _ _ _ h => h) (Or.inl ⟨?w23, ?y23⟩) hHeld ?r23
           case w23 => rfl
           case y23 => (intro w hSw; (try dsimp only at hSw); go_simp; try with_reducible rfl)
           try simp only [Act.put, List.setIfInBounds_toArray, List.set_cons_zero, List.set_cons_succ]
           refine take_dst (i := 24) 79 (v := ?v24) rfl rfl (by kernel_rfl) (by kernel_rfl) (by kernel_rfl) (fun _ _ _ h => h) (Or.inl ⟨?w24, ?y24⟩) hHeld ?r24
           case w24 => rfl
           case y24 => (intro w hSw; (try dsimp only at hSw); go_simp; try with_reducible rfl)
           try simp only [Act.put, List.setIfInBounds_toArray, List.set_cons_zero, List.set_cons_succ]
           refine take_dst (i := 25) 80 (v := ?v25) rfl rfl (by kernel_rfl) (by kernel_rfl) (by kernel_rfl) (fun _ _ _ h => h) (Or.inl ⟨?w25, ?y25⟩) hHeld ?r25
           case w25 => rfl
           case y25 => (intro w hSw; (try dsimp only at hSw); go_simp; try with_reducible rfl)
           try simp only [Act.put, List.setIfInBounds_toArray, List.set_cons_zero, List.set_cons_succ]
           refine take_dst (i := 26) 81 (v := ?v26) rfl rfl (by kernel_rfl) (by kernel_rfl) (by kernel_rfl) (fun _ _ _ h => h) (Or.inl ⟨?w26, ?y26⟩) hHeld ?r26
           case w26 => rfl
           case y26 => (intro w hSw; (try dsimp only at hSw); go_simp; try with_reducible rfl)
           try simp only [Act.put, List.setIfInBounds_toArray, List.set_cons_zero, List.set_cons_succ]
           refine take_dst (i := 27) 82 (v := ?v27) rfl rfl (by kernel_rfl) (by kernel_rfl) (by kernel_rfl) (fun _ _ _ h => h) (Or.inl ⟨?w27, ?y27⟩) hHeld ?r27
           case w27 => rfl
           case y27 => (intro w hSw; (try dsimp only at hSw); go_simp; try with_reducible rfl)
           try simp only [Act.put, List.setIfInBounds_toArray, List.set_cons_zero, List.set_cons_succ]
           refine take_dst (i := 28) 83 (v := ?v28) rfl rfl (by kernel_rfl) (by kernel_rfl) (by kernel_rfl) (fun _ _ _ h => h) (Or.inl ⟨?w28, ?y28⟩) hHeld ?r28
           case w28 => rfl
           case y28 => (intro w hSw; (try dsimp only at hSw); go_simp; try with_reducible rfl)
           try simp only [Act.put, List.setIfInBounds_toArray, List.set_cons_zero, List.set_cons_succ]
           as_aux_lemma =>
            refine take_dst (i := 29) 84 (v := ?v29) rfl rfl (by kernel_rfl) (by kernel_rfl) (by kernel_rfl) (fun _ _ _ h => h) (Or.inl ⟨?w29, ?y29⟩) hHeld ?r29
            case w29 => rfl
            case y29 => (intro w hSw; (try dsimp only at hSw); go_simp; try with_reducible rfl)
            try simp only [Act.put, List.setIfInBounds_toArray, List.set_cons_zero, List.set_cons_succ]
            refine take_dst (i := 30) 85 (v := ?v30) rfl rfl (by kernel_rfl) (by kernel_rfl) (by kernel_rfl) (fun _ _ _ h => h) (Or.inl ⟨?w30, ?y30⟩) hHeld ?r30
            case w30 => rfl
            case y30 => (intro w hSw; (try dsimp only at hSw); go_simp; try with_reducible rfl)
            try simp only [Act.put, List.setIfInBounds_toArray, List.set_cons_zero, List.set_cons_succ]
            refine take_dst (i := 31) 86 (v := ?v31) rfl rfl (by kernel_rfl) (by kernel_rfl) (by kernel_rfl) (fun _ _ _ h => h) (Or.inl ⟨?w31, ?y31⟩) hHeld ?r31
            case w31 => rfl
            case y31 => (intro w hSw; (try dsimp only at hSw); go_simp; try with_reducible rfl)
            try simp only [Act.put, List.setIfInBounds_toArray, List.set_cons_zero, List.set_cons_succ]
            refine take_dst (i := 32) 87 (v := ?v32) rfl rfl (by kernel_rfl) (by kernel_rfl) (by kernel_rfl) (fun _ _ _ h => h) (Or.inl ⟨?w32, ?y32⟩) hHeld ?r32
            case w32 => rfl
            case y32 => (intro w hSw; (try dsimp only at hSw); go_simp; try with_reducible rfl)
            try simp only [Act.put, List.setIfInBounds_toArray, List.set_cons_zero, List.set_cons_succ]
            refine take_dst (i := 33) 88 (v := ?v33) rfl rfl (by kernel_rfl) (by kernel_rfl) (by kernel_rfl) (fun _ _ _ h => h) (Or.inl ⟨?w33, ?y33⟩) hHeld ?r33
            case w33 => rfl
            case y33 => (intro w hSw; (try dsimp only at hSw); go_simp; try with_reducible rfl)
            try simp only [Act.put, List.setIfInBounds_toArray, List.set_cons_zero, List.set_cons_succ]
            refine take_dst (i := 34) 89 (v := ?v34) rfl rfl (by kernel_rfl) (by kernel_rfl) (by kernel_rfl) (fun _ _ _ h => h) (Or.inl ⟨?w34, ?y34⟩) hHeld ?r34
            case w34 => rfl
            case y34 => (intro w hSw; (try dsimp only at hSw); go_simp; try with_reducible rfl)
            try simp only [Act.put, List.setIfInBounds_toArray, List.set_cons_zero, List.set_cons_succ]
            as_aux_lemma =>
             refine take_dst (i := 35) 90 (v := ?v35) rfl rfl (by kernel_rfl) (by kernel_rfl) (by kernel_rfl) (fun _ _ _ h => h) (Or.inl ⟨?w35, ?y35⟩) hHeld ?r35
             case w35 => rfl
             case y35 => (intro w hSw; (try dsimp only at hSw); go_simp; try with_reducible rfl)
             try simp only [Act.put, List.setIfInBounds_toArray, List.set_cons_zero, List.set_cons_succ]
             refine take_dst (i := 36) 91 (v := ?v36) rfl rfl (by kernel_rfl) (by kernel_rfl) (by kernel_rfl) (fun _ _ _ h => h) (Or.inl ⟨?w36, ?y36⟩) hHeld ?r36
             case w36 => rfl
             case y36 => (intro w hSw; (try dsimp only at hSw); go_simp; try with_reducible rfl)
             try simp only [Act.put, List.setIfInBounds_toArray, List.set_cons_zero, List.set_cons_succ]
             refine take_dst (i := 37) 92 (v := ?v37) rfl rfl (by kernel_rfl) (by kernel_rfl) (by kernel_rfl) (fun _ _ _ h => h) (Or.inl ⟨?w37, ?y37⟩) hHeld ?r37
             case w37 => rfl
             case y37 => (intro w hSw; (try dsimp only at hSw); go_simp; try with_reducible rfl)
             try simp only [Act.put, List.setIfInBounds_toArray, List.set_cons_zero, List.set_cons_succ]
             refine take_dst (i := 38) 93 (v := ?v38) rfl rfl (by kernel_rfl) (by kernel_rfl) (by kernel_rfl) (fun _ _ _ h => h) (Or.inl ⟨?w38, ?y38⟩) hHeld ?r38
             case w38 => rfl
             case y38 => (intro w hSw; (try dsimp only at hSw); go_simp; try with_reducible rfl)
             try simp only [Act.put, List.setIfInBounds_toArray, List.set_cons_zero, List.set_cons_succ]
             refine take_dst (i := 41) 96 (v := ?v41) rfl rfl (by kernel_rfl) (by kernel_rfl) (by kernel_rfl) (fun _ _ _ h => h) (Or.inl ⟨?w41, ?y41⟩) hHeld ?r41
             case w41 => rfl
             case y41 => (intro w hSw; (try dsimp only at hSw); go_simp; try with_reducible rfl)
             try simp only [Act.put, List.setIfInBounds_toArray, List.set_cons_zero, List.set_cons_succ]
             refine take_dst (i := 42) 97 (v := ?v42) rfl rfl (by kernel_rfl) (by kernel_rfl) (by kernel_rfl) (fun _ _ _ h => h) (Or.inl ⟨?w42, ?y42⟩) hHeld ?r42
             case w42 => rfl
             case y42 => (intro w hSw; (try dsimp only at hSw); go_simp; try with_reducible rfl)
             try simp only [Act.put, List.setIfInBounds_toArray, List.set_cons_zero, List.set_cons_succ]
             as_aux_lemma =>
              refine wpAnyH_ready (rs := [39]) (by kernel_rfl) (by simp) ?_
              refine AllReadyH.cons (o := _) rfl (fun K hK => ?_) AllReadyH.nil
              go_wp2_with (go_at_call 40; refine (put_any (okR r) _).mono ?_; rintro e w9 ⟨A9, c9, rfl, ho9, hb9⟩; simp only [HPP.out, HN.out] at ho9 ⊢; have x10 := run_str (Rd.of_own ho9) 42 5 9 c9 Try.underlying42 Try.underlying5 Try.underlying9; rw [HN.out] at x10; have S9 := HS9.out w9 hb9)
              refine hK.out _ _ (S9) (fun hHeld9 => ?_)
              clear hK K
              try simp only [Act.put, List.setIfInBounds_toArray, List.set_cons_zero, List.set_cons_succ]
              as_aux_lemma =>
               refine wpAnyH_ready (rs := [40]) (by kernel_rfl) (by simp) ?_
               refine AllReadyH.cons (o := _) rfl (fun K hK => ?_) AllReadyH.nil
               rw [if_pos (by kernel_rfl)]
               refine wp_conv 42 9 (.tmp 94) 95 rfl rfl (by rfl) x10 ?_
               refine hK.out _ _ (S9) (fun hHeld => ?_)
               clear hK K
               try simp only [Act.put, List.setIfInBounds_toArray, List.set_cons_zero, List.set_cons_succ]
               as_aux_lemma =>
                refine take_dst (i := 43) 98 (v := ?v43) rfl rfl (by kernel_rfl) (by kernel_rfl) (by kernel_rfl) (fun _ _ _ h => h) (Or.inl ⟨?w43, ?y43⟩) hHeld ?r43
                case w43 => rfl
                case y43 => (intro w hSw; (try dsimp only at hSw); go_simp; try with_reducible rfl)
                try simp only [Act.put, List.setIfInBounds_toArray, List.set_cons_zero, List.set_cons_succ]
                refine take_dst (i := 44) 99 (v := ?v44) rfl rfl (by kernel_rfl) (by kernel_rfl) (by kernel_rfl) (fun _ _ _ h => h) (Or.inl ⟨?w44, ?y44⟩) hHeld ?r44
                case w44 => rfl
                case y44 => (intro w hSw; (try dsimp only at hSw); go_simp; try with_reducible rfl)
                try simp only [Act.put, List.setIfInBounds_toArray, List.set_cons_zero, List.set_cons_succ]
                refine take_dst (i := 45) 4 (v := ?v45) rfl rfl (by kernel_rfl) (by kernel_rfl) (by kernel_rfl) (fun _ _ _ h => h) (Or.inl ⟨?w45, ?y45⟩) hHeld ?r45
                case w45 => rfl
                case y45 => (intro w hSw; (try dsimp only at hSw); go_simp; try with_reducible rfl)
                try simp only [Act.put, List.setIfInBounds_toArray, List.set_cons_zero, List.set_cons_succ]
                as_aux_lemma =>
                 refine wpAnyH_done (by kernel_rfl) ?_ _
                 go_wp2_with fail
                 go_ret
                 exact ⟨rfl, bt hbl.drew hb9 hbl.size⟩
end Go.Proofs.Ytcempbgbdlmjfaa
