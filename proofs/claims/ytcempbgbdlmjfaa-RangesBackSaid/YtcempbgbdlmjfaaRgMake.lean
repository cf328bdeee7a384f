/-
  lapwinglaw01.RangesMake: for all rows and every number it answers true: what is made tells of each number what the rows tell, with no fewer, and no more numbers; made again it is the same. No condition.
-/
import Derived.Test.YtcempbgbdlmjfaaRgH
import Derived.Test.YtcempbgbdlmjfaaRgB
namespace Go.Proofs.Ytcempbgbdlmjfaa
open Go.RowKit

theorem ok_sorted (l : List R) : ∀ (p : Option R), okFrom p l = true → ∀ k (hk : k < l.length), ∀ y ∈ l.take k, y.hi < l[k].lo := by
  induction l with
  | nil => intro p _ k hk; simp at hk
  | cons x xs ih =>
    intro p h k hk y hy
    obtain ⟨hf, hq, hs⟩ := (okFrom_cons _ _ _).1 h
    have low : ∀ (t : List R) (q : R), okFrom (some q) t = true → ∀ j (hj : j < t.length), q.hi < t[j].lo := by
      intro t
      induction t with
      | nil => intro q _ j hj; simp at hj
      | cons z zs ihz =>
        intro q hq j hj
        obtain ⟨h1, h2, h3⟩ := (okFrom_cons _ _ _).1 hq
        cases j with
        | zero => exact h2 q rfl
        | succ j =>
          have := ihz z h3 j (by simpa using hj)
          have h4 := h2 q rfl
          have h5 := h1.2.1
          simp only [List.getElem_cons_succ]
          omega
    cases k with
    | zero => simp at hy
    | succ k =>
      simp only [List.take_succ_cons, List.mem_cons] at hy
      simp only [List.getElem_cons_succ]
      rcases hy with rfl | hy
      · exact low xs y hs k (by simpa using hk)
      · exact ih (some x) hs k (by simpa using hk) y hy
theorem ok_fit (l : List R) : ∀ (p : Option R), okFrom p l = true → ∀ y ∈ l, Fit y := by
  induction l with
  | nil => simp
  | cons x xs ih =>
    intro p h y hy
    obtain ⟨hf, hq, hs⟩ := (okFrom_cons _ _ _).1 h
    rcases List.mem_cons.1 hy with rfl | hy
    · exact hf
    · exact ih _ hs y hy
theorem want_step (l : List R) (h : okL l = true) (r : Int) (k : Nat) (hk : k < l.length) : getF (l.take (k + 1)) r = if l[k].lo ≤ r ∧ r ≤ l[k].hi then l[k].v else getF (l.take k) r := by
  rw [List.take_succ_eq_append_getElem hk]
  split
  · rename_i hc
    rw [getF_append _ _ _ (fun y hy => by have := ok_sorted l none h k hk y hy; omega)]
    simp only [getF]; rw [if_pos hc]
  · rename_i hc
    exact getF_append_or (by simp only [getF]; rw [if_neg hc])
theorem tot_take_ok (l : List R) (h : okL l = true) (k : Nat) : 0 ≤ totGo (l.take k) ∧ totGo (l.take k) ≤ k * 1114112 := by
  induction k with
  | zero => simp [totGo]
  | succ k ih =>
    by_cases hk : k < l.length
    · rw [tot_take l k hk]
      have := ok_fit l none h l[k] (by simp)
      obtain ⟨f1, f2, f3, _, _⟩ := this
      omega
    · rw [List.take_of_length_le (by omega)] at ih ⊢
      omega
/-- what the law asks of what is made -/
theorem make_law (l : List R) (h : okL l = true) (hl : l.length ≤ 200) : makeF l = (makeGo l [], 0) ∧ saneF (makeGo l []) = true ∧ (∀ r, getF (makeGo l []) r = getF l r) ∧ totF (makeGo l []) = totGo l ∧ makeF (makeGo l []) = (makeGo l [], 0) ∧ (makeGo l []).length ≤ l.length := by
  obtain ⟨h1, h2, h3, h4⟩ := makeL_spec l h
  have hs : saneF (makeGo l []) = true := (saneF_iff _).2 ⟨by omega, h1⟩
  refine ⟨by unfold makeF; rw [if_pos h, if_neg (by omega)], hs, h2, by rw [totF, if_pos hs, h3], ?_, h4⟩
  have hok : okL (makeGo l []) = true := h1.ok none (by simp)
  unfold makeF
  rw [if_pos hok, make_again h1, if_neg (by omega)]
theorem make_bad (l : List R) (h : okL l = false) : makeF l = ([], 1) := by unfold makeF; rw [if_neg (by rw [h]; simp)]

set_option maxRecDepth 100000 in
set_option maxHeartbeats 3200000 in
theorem makelaw_walk (rows : List R) (A : Option Addr) (c : Nat) (r : Int) (w : World) (hr0 : Rd w w.heap.size A (rowCells rows)) (hl : rows.length ≤ maxLen) :
    Calls Try.prog 4 #[.slice A rows.length c, .int .i64 r] w fun e w' => e = .returned (.bool true) ∧ Below w.heap.size w w' := by
  unfold maxLen at hl
  have RA := Lib.hid hr0
  clear hr0
  by_cases h200 : 200 < rows.length
  · have b0 := (Below.refl w.heap.size w)
    go_enter Try.func4, Try.ntmps4
    go_wp2_with fail
    refine (awake_any _).mono ?_
    rintro e w1 ⟨rfl, hb1⟩
    have c1B := bt b0 hb1 b0.size
    replace RA := Lib.hid (Rd.next RA.out hb1)
    clear b0
    clear hb1
    go_wp2_with fail
    go_ret
    exact ⟨rfl, c1B⟩
  cases hok : okL rows with
  | false =>
    have MB := fun (A : Option Addr) (k : Nat) (w' : World) (h : Rd w' w'.heap.size A (rowCells rows)) => make_any rows A k w' _ (Nat.le_refl _) h (by omega)
    rw [make_bad rows hok] at MB
    have HM := Lib.hid MB
    clear MB hok
    have b0 := (Below.refl w.heap.size w)
    go_enter Try.func4, Try.ntmps4
    go_wp2_with fail
    refine (awake_any _).mono ?_
    rintro e w1 ⟨rfl, hb1⟩
    have c1B := bt b0 hb1 b0.size
    replace RA := Lib.hid (Rd.next RA.out hb1)
    clear b0
    clear hb1
    go_wp2_with fail
    refine (ours_any rows _ _ _ _ (Nat.le_refl _) RA.out (by omega)).mono ?_
    rintro e w2 ⟨A2, c2, rfl, o2, hb2⟩
    have c2B := bt c1B hb2 c1B.size
    replace RA := Lib.hid (Rd.next RA.out hb2)
    clear c1B
    have U2 := Lib.hid (Rd.of_own o2)
    clear o2
    clear hb2
    go_wp2_with fail
    refine (HM.out _ _ _ U2.out).mono ?_
    rintro e w3 ⟨A3, c3, rfl, o3, hb3⟩
    have c3B := bt c2B hb3 c2B.size
    replace RA := Lib.hid (Rd.next RA.out hb3)
    replace U2 := Lib.hid (Rd.next U2.out hb3)
    clear c2B
    have T3 := Lib.hid (Rd.of_own o3)
    clear o3
    clear hb3
    clear U2
    have K3 := Lib.hid (heap_alloc_new w3 (.cells #[.slice A3 0 c3] 27))
    have k3 := blk_cell K3.out 0 _ rfl
    go_wp2_with fail
    have c4B := c3B.alloc c3B.size (.cells #[.slice A3 0 c3] 27)
    clear c3B
    replace RA := Lib.hid (Rd.nextA RA.out (.cells #[.slice A3 0 c3] 27))
    replace T3 := Lib.hid (Rd.nextA T3.out (.cells #[.slice A3 0 c3] 27))
    go_ret
    exact ⟨rfl, c4B⟩
  | true =>
    obtain ⟨m1, m2, m3, m4, m5, m6⟩ := make_law rows hok (by omega)
    have MB := fun (A : Option Addr) (k : Nat) (w' : World) (h : Rd w' w'.heap.size A (rowCells rows)) => make_any rows A k w' _ (Nat.le_refl _) h (by omega)
    rw [m1] at MB
    have MC := fun (A : Option Addr) (k : Nat) (w' : World) (h : Rd w' w'.heap.size A (rowCells (makeGo rows []))) => make_any (makeGo rows []) A k w' _ (Nat.le_refl _) h (by omega)
    rw [m5] at MC
    obtain ⟨t, ht⟩ : ∃ t, t = makeGo rows [] := ⟨_, rfl⟩
    rw [← ht] at MB MC m2 m3 m4 m6
    have HM := Lib.hid MB
    have HM2 := Lib.hid MC
    have HSN := Lib.hid m2
    have HGT := Lib.hid (m3 r)
    have HTT := Lib.hid m4
    have HOK := Lib.hid hok
    clear MB MC hok m1 m2 m3 m4 m5 ht
    have b0 := (Below.refl w.heap.size w)
    go_enter Try.func4, Try.ntmps4
    go_wp2_with fail
    refine (awake_any _).mono ?_
    rintro e w1 ⟨rfl, hb1⟩
    have c1B := bt b0 hb1 b0.size
    replace RA := Lib.hid (Rd.next RA.out hb1)
    clear b0
    clear hb1
    go_wp2_with fail
    refine (ours_any rows _ _ _ _ (Nat.le_refl _) RA.out (by omega)).mono ?_
    rintro e w2 ⟨A2, c2, rfl, o2, hb2⟩
    have c2B := bt c1B hb2 c1B.size
    replace RA := Lib.hid (Rd.next RA.out hb2)
    clear c1B
    have U2 := Lib.hid (Rd.of_own o2)
    clear o2
    clear hb2
    go_wp2_with fail
    refine (HM.out _ _ _ U2.out).mono ?_
    rintro e w3 ⟨A3, c3, rfl, o3, hb3⟩
    have c3B := bt c2B hb3 c2B.size
    replace RA := Lib.hid (Rd.next RA.out hb3)
    replace U2 := Lib.hid (Rd.next U2.out hb3)
    clear c2B
    have T3 := Lib.hid (Rd.of_own o3)
    clear o3
    clear hb3
    clear U2
    have K3 := Lib.hid (heap_alloc_new w3 (.cells #[.slice A3 t.length c3] 27))
    have k3 := blk_cell K3.out 0 _ rfl
    go_wp2_with fail
    have c4B := c3B.alloc c3B.size (.cells #[.slice A3 t.length c3] 27)
    clear c3B
    replace RA := Lib.hid (Rd.nextA RA.out (.cells #[.slice A3 t.length c3] 27))
    replace T3 := Lib.hid (Rd.nextA T3.out (.cells #[.slice A3 t.length c3] 27))
    generalize hW : (w3.alloc (.cells #[.slice A3 t.length c3] 27)) = W0 at RA T3 K3 c4B ⊢
    clear hW k3
    have hWs := c4B.size
    go_loopw [8, 9, 10] (fun vv nn ii wr => ∃ k : Nat, k ≤ rows.length ∧ ii = .int .i64 k ∧ nn = .int .i64 (totGo (rows.take k)) ∧ vv = .int .i64 (getF (rows.take k) r) ∧ Below W0.heap.size W0 wr) (fun _ _ ii _ => rows.length - (intOf ii).toNat)
    case atStart => exact ⟨0, Nat.zero_le _, rfl, rfl, rfl, Below.refl _ _⟩
    case round =>
      obtain ⟨k, hk, rfl, rfl, rfl, hb⟩ := hrel
      by_cases hlt : k < rows.length
      · obtain ⟨b, off, rfl, hbB, hc⟩ := rd_rows RA.out (by omega)
        obtain ⟨z0, z1, z2⟩ := hc k hlt
        have d0 := past_B hb hbB z0
        have d1 := past_B hb hbB z1
        have d2 := past_B hb hbB z2
        have j0 : (0 : Int) ≤ ↑k := by omega
        have j1 : (↑k : Int) < ↑rows.length := by omega
        obtain ⟨f1, f2, f3, _, _⟩ := ok_fit rows none HOK.out rows[k] (by simp)
        obtain ⟨t1, t2⟩ := tot_take_ok rows HOK.out k
        have HT := Lib.hid (tot_take rows k hlt)
        have HWS := Lib.hid (want_step rows HOK.out r k hlt)
        have y0 := fun u : After wr => u.cell d0
        have y1 := fun u : After wr => u.cell d1
        have y2 := fun u : After wr => u.cell d2
        have p1 : IntKind.i64.wrap (totGo (rows.take k) + rows[k].hi) = totGo (rows.take k) + rows[k].hi := IntWalk.i64_in _ (by omega)
        have p2 : IntKind.i64.wrap (totGo (rows.take k) + rows[k].hi - rows[k].lo) = totGo (rows.take k) + rows[k].hi - rows[k].lo := IntWalk.i64_in _ (by omega)
        have p3 : IntKind.i64.wrap (totGo (rows.take k) + rows[k].hi - rows[k].lo + 1) = totGo (rows.take k) + rows[k].hi - rows[k].lo + 1 := IntWalk.i64_in _ (by omega)
        clear hc z0 z1 z2 T3 K3 HM HM2
        go_wp2_with fail
        refine wp_region_after (by kernel_rfl) (by kernel_rfl) ?_
        repeat (go_big_quiet_step (fail))
        refine wpQuiet_nil ?_
        rintro _ ⟨u, rfl⟩
        clear p1 p2 p3 d0 d1 d2
        have e0 := y0 u
        have e1 := y1 u
        have e2 := y2 u
        clear y0 y1 y2
        go_wp2_with fail
        all_goals
          go_roundw
          case rel => exact ⟨k + 1, by omega, by go_num, by rw [HT.out]; go_num, by rw [HWS.out]; first | rw [if_pos ⟨by assumption, by assumption⟩] | rw [if_neg (by omega)], bt hb u.below hb.size⟩
          case measure => simp [intOf]; omega
      · have e : k = rows.length := by omega
        subst e
        simp only [List.take_length]
        have T4 := Lib.hid (Rd.next T3.out hb)
        have K4 := Lib.hid (blk_past K3.out hb (Nat.le_refl _))
        have k4 := blk_cell K4.out 0 _ rfl
        have BW := bt c4B hb c4B.size
        clear hb T3 K3 RA c4B HM HOK
        go_wp2_with fail
        refine (HM2.out _ _ _ T4.out).mono ?_
        rintro e w5 ⟨A5, c5, rfl, o5, hb5⟩
        have T5 := Lib.hid (Rd.nextA (Rd.of_own o5) (.cells #[.slice A5 t.length c5] 27))
        have T6 := Lib.hid (Rd.nextA (Rd.next T4.out hb5) (.cells #[.slice A5 t.length c5] 27))
        have k5 := blk_cell (heap_alloc_new w5 (.cells #[.slice A5 t.length c5] 27)) 0 _ rfl
        have k6 := blk_cell (blk_alloc (blk_past K4.out hb5 (Nat.le_refl _)) (.cells #[.slice A5 t.length c5] 27)) 0 _ rfl
        have BW2 := (bt BW hb5 BW.size).alloc (bt BW hb5 BW.size).size (.cells #[.slice A5 t.length c5] 27)
        clear o5 hb5 T4 K4 k4 BW HM2
        go_wp2_with fail
        generalize hW5 : (w5.alloc (.cells #[.slice A5 t.length c5] 27)) = W5 at T5 T6 k5 k6 BW2 ⊢
        clear hW5
        go_region_held3 (fun w' => w'.cell? ⟨w3.heap.size, 0, none⟩ = some (.slice A3 t.length c3) ∧ w'.cell? ⟨w5.heap.size, 0, none⟩ = some (.slice A5 t.length c5) ∧ Below W5.heap.size W5 w')
          (first | (go_split_ands; refine ⟨?_, ?_, ?_⟩ <;> first | exact past hb2 (by assumption) | exact bt (by assumption) hb2 (Below.size (by assumption))) | (go_split_ands; refine ⟨?_, ?_, ?_⟩ <;> first | assumption | exact Below.drew (Below.refl _ _)) | go_keep)
          (first
            | (go_at_call 18; refine (get_any t _ _ r _ W5.heap.size (Below.size (by go_split_ands; assumption)) (Rd.below T6.out (by go_split_ands; assumption) (Nat.le_refl _)) (by unfold maxLen; omega)).mono ?_; rintro e w20 ⟨rfl, hb2⟩; simp only [HGT.out])
            | (go_at_call 21; refine (total_any t _ _ _ W5.heap.size (Below.size (by go_split_ands; assumption)) (Rd.below T6.out (by go_split_ands; assumption) (Nat.le_refl _)) (by unfold maxLen; omega)).mono ?_; rintro e w21 ⟨rfl, hb2⟩; simp only [HTT.out])
            | (go_at_call 16; refine (sane_any t _ _ _ W5.heap.size (Below.size (by go_split_ands; assumption)) (Rd.below T6.out (by go_split_ands; assumption) (Nat.le_refl _)) (by unfold maxLen; omega)).mono ?_; rintro e w22 ⟨rfl, hb2⟩; simp only [HSN.out])
            | (go_at_call_of 23 (Value.slice A3 t.length c3); refine (theirs_any t _ _ _ W5.heap.size (Below.size (by go_split_ands; assumption)) (Rd.below T6.out (by go_split_ands; assumption) (Nat.le_refl _)) (by omega)).mono ?_; rintro e w23 ⟨A23, c23, rfl, o23, hb2⟩; have r23 := Lib.hid (Rd.of_own o23); clear o23)
            | (go_at_call_of 23 (Value.slice A5 t.length c5); refine (theirs_any t _ _ _ W5.heap.size (Below.size (by go_split_ands; assumption)) (Rd.below T5.out (by go_split_ands; assumption) (Nat.le_refl _)) (by omega)).mono ?_; rintro e w24 ⟨A24, c24, rfl, o24, hb2⟩; have r24 := Lib.hid (Rd.of_own o24); have r25 := Lib.hid (Rd.next r23.out hb2); clear o24)
            | (go_at_call 22; refine (same_any t _ _ _ _ _ _ r25.out r24.out (by unfold maxLen; omega)).mono ?_; rintro e w26 ⟨rfl, hb2⟩))
        go_wp2_with fail
        go_ret
        exact ⟨rfl, bt BW2 (by go_split_ands; assumption) BW2.size⟩
end Go.Proofs.Ytcempbgbdlmjfaa
