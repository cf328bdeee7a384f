/-
  lapwinglaw03.UtfBack: for any numbers it answers true: letters as bytes are these letters again, and nothing is left. No condition.
-/
import Derived.Test.YtcempbgbdlmjfaaUtH
namespace Go.Proofs.Ytcempbgbdlmjfaa
open Go.RowKit

theorem flat_len (l : List Int) : (l.flatMap putF).length ≤ 4 * l.length := by
  induction l with
  | nil => simp
  | cons x xs ih => have := (put_len x).2; simp only [List.flatMap_cons, List.length_append, List.length_cons]; omega
theorem flat_snoc (l : List Int) (k : Nat) (h : k < l.length) : (l.take (k + 1)).flatMap putF = (l.take k).flatMap putF ++ putF l[k] := by
  rw [List.take_succ_eq_append_getElem h, List.flatMap_append]; simp
theorem map_snoc (l : List Int) (k : Nat) (h : k < l.length) : (l.take (k + 1)).map okR = (l.take k).map okR ++ [okR l[k]] := by
  rw [List.take_succ_eq_append_getElem h, List.map_append]; rfl
theorem bytes_put (r : Int) : Bytes (putF r) := by
  intro y hy
  have h := okR_letter r
  unfold Letter at h
  unfold putF encF at hy
  repeat' split at hy
  all_goals (simp at hy; omega)
theorem bytes_flat (l : List Int) : Bytes (l.flatMap putF) := by
  intro y hy
  obtain ⟨x, _, hx⟩ := List.mem_flatMap.1 hy
  exact bytes_put x y hx

set_option maxRecDepth 100000 in
set_option maxHeartbeats 3200000 in
theorem back_walk (l : List Int) (A : Option Addr) (c : Nat) (w : World) (hr : Rd w w.heap.size A (intCells l)) (hl : l.length ≤ maxLen) :
    Calls Try.prog 12 #[.slice A l.length c] w fun e w' => e = .returned (.bool true) ∧ Below w.heap.size w w' := by
  unfold maxLen at hl
  by_cases h5 : 200 < l.length
  · go_enter Try.func12, Try.ntmps12
    go_wp2_with (go_at_call 25; refine (awake3_any _).mono ?_; rintro e w1 ⟨rfl, hb1⟩)
    go_ret
    exact ⟨rfl, hb1⟩
  go_enter Try.func12, Try.ntmps12
  go_wp2_with (go_at_call 25; refine (awake3_any _).mono ?_; rintro e w1 ⟨rfl, hb1⟩)
  have m1 := hb1.size
  have hr1 := hr.below hb1 (Nat.le_refl _)
  go_loopw [4, 5, 6] (fun bv want i wr => ∃ (k n : Nat) (Ab Aw : Option Addr) (cb cw : Nat), i = .int .i64 k ∧ k ≤ l.length ∧ n = ((l.take k).flatMap putF).length ∧ bv = .slice Ab n cb ∧ want = .slice Aw k cw ∧ wr.ownsRow w1.heap.size 5 1 bv n (byteCells ((l.take k).flatMap putF)) ∧ wr.ownsRow w1.heap.size 3 1 want k (intCells ((l.take k).map okR)) ∧ Apart bv want ∧ Below w1.heap.size w1 wr) (fun _ _ i _ => l.length - (intOf i).toNat)
  case atStart => exact ⟨0, 0, none, none, 0, 0, rfl, by omega, by simp, rfl, rfl, World.ownsRow_nil _ _ _ _, World.ownsRow_nil _ _ _ _, apart_nil _ _ _, Below.refl _ _⟩
  case round =>
    obtain ⟨k, n, Ab, Aw, cb, cw, rfl, hk, hn, rfl, rfl, hob, how, hap, hbw⟩ := hrel
    have mr := hbw.size
    have hfl := flat_len (l.take k)
    have hfl2 : (l.take k).length ≤ k := by simp; omega
    have HN := Lib.hid hn; 
    have hn4 : n ≤ 4 * k := by omega
    clear hn hfl hfl2
    by_cases hlt : k < l.length
    · obtain ⟨bb, off, rfl, hbB, hc⟩ := hr1 (by simp [intCells]; omega)
      have c0 : w1.cell? ⟨bb, off + k, none⟩ = some (.int .i64 l[k]) := by simpa [intCells] using hc k (by simpa [intCells] using hlt)
      have d0 := past hbw c0
      clear hc c0 hr1 hr
      obtain ⟨x, hx⟩ : ∃ x, l[k] = x := ⟨_, rfl⟩
      rw [hx] at d0
      have hpl := put_len x
      obtain ⟨m, hm⟩ : ∃ m, (putF x).length = m := ⟨_, rfl⟩
      rw [hm] at hpl
      have HX := Lib.hid hx; have HM := Lib.hid hm; clear hx hm
      have fin : ∀ (g7 c7 : Nat) (w6 w7 : World) (A6 : Option Addr) (c6 : Nat) (z : Int), okR x = z →
          w6.ownsRow w1.heap.size 5 1 (.slice A6 (n + m) c6) (n + m) (byteCells ((l.take k).flatMap putF) ++ byteCells (putF x)) → w6.ownsRow w1.heap.size 3 1 (.slice Aw k cw) k (intCells ((l.take k).map okR)) →
          Apart (.slice A6 (n + m) c6) (.slice Aw k cw) → Below w1.heap.size w1 w6 →
          w7.ownsRow w1.heap.size 3 1 (.slice (some ⟨g7, 0, none⟩) (k + 1) c7) (k + 1) (intCells ((l.take k).map okR) ++ [.int .i64 z]) → (w6.alloc (.cells #[.int .i64 z] 3)).grownBy w7 (Value.slice Aw k cw).ownBlock →
          ((Value.slice Aw k cw).ownBlock = some g7 ∨ g7 = w6.heap.size + 1) →
          (∃ (k' n' : Nat) (Ab' Aw' : Option Addr) (cb' cw' : Nat), Value.int .i64 (k + 1 : Nat) = .int .i64 k' ∧ k' ≤ l.length ∧ n' = ((l.take k').flatMap putF).length ∧ Value.slice A6 (n + m) c6 = .slice Ab' n' cb' ∧ Value.slice (some ⟨g7, 0, none⟩) (k + 1) c7 = .slice Aw' k' cw' ∧ w7.ownsRow w1.heap.size 5 1 (.slice A6 (n + m) c6) n' (byteCells ((l.take k').flatMap putF)) ∧ w7.ownsRow w1.heap.size 3 1 (.slice (some ⟨g7, 0, none⟩) (k + 1) c7) k' (intCells ((l.take k').map okR)) ∧ Apart (.slice A6 (n + m) c6) (.slice (some ⟨g7, 0, none⟩) (k + 1) c7) ∧ Below w1.heap.size w1 w7) := by
        intro g7 c7 w6 w7 A6 c6 z hz ho6 ow6 ap6 b6 ow7 gr7 hat7
        have e1 : (l.take (k + 1)).flatMap putF = (l.take k).flatMap putF ++ putF x := by rw [flat_snoc l k hlt, HX.out]
        have e2 : (l.take (k + 1)).map okR = (l.take k).map okR ++ [z] := by rw [map_snoc l k hlt, HX.out, hz]
        have e3 : n + m = ((l.take (k + 1)).flatMap putF).length := by rw [e1, List.length_append, HM.out, HN.out]
        have o7 := own_apart (ho6.alloc (.cells #[.int .i64 z] 3)) gr7 ap6.symm
        refine ⟨k + 1, n + m, A6, some ⟨g7, 0, none⟩, c6, c7, rfl, by omega, e3, rfl, rfl, ?_, ?_, ?_, ?_⟩
        · rw [e1, byteCells_append]; exact o7
        · rw [e2, intCells_append]; exact ow7
        · refine (Apart.grow ap6.symm ho6 (H := w6.heap.size) (Nat.le_refl _) ?_).symm
          intro g hg
          simp only [Value.ownBlock, Option.some.injEq] at hg
          subst hg
          rcases hat7 with h | h
          · exact .inl h
          · exact .inr (by omega)
        · exact bt (b6.alloc b6.size _) (below_of_grown gr7 (by have := b6.size; simp; omega) (own_ge ow6)) (Nat.le_refl _)
      by_cases h1 : x < 0
      · have hz : okR x = 65533 := by unfold okR; split <;> omega
        have HZ := Lib.hid hz; clear hz
        have HFIN := Lib.hid fin; clear fin
        go_wp2_with (first
          | (go_at_call 40; refine (put_any x _).mono ?_; rintro e w5 ⟨A5, c5, rfl, ho5, hb5⟩; simp only [HM.out] at ho5 ⊢; have ob5 := own_past hob hb5; have ow5 := own_past how hb5; have rd5 := Rd.of_own ho5; have m5 := hb5.size)
          | (at_builtin; refine wpList_cat (by rfl) (.tmp 36) (.tmp 37) 42 el_byte (by rfl) w1.heap.size _ n (byteCells ((l.take k).flatMap putF)) (by rfl) ob5 w5.heap.size A5 m c5 (byteCells (putF x)) (by rfl) rd5 (by rw [byteCells_len, HM.out]; simp) (byteCells_one _) (by unfold maxLen; omega) (by omega) (by omega) ?_; intro A6 c6 w6 ho6 hg6 hl6; have ow6 := own_apart ow5 hg6 hap; have ap6 := Apart.grow hap ow5 (Nat.le_refl _) hl6; have m6 := hg6.size; have b6 := bt (bt hbw hb5 mr) (below_of_grown hg6 (show w1.heap.size ≤ _ by omega) (own_ge ob5)) (Nat.le_refl _))
          | (at_builtin; refine wpList_push (by rfl) (.tmp 53) (.tmp 55) 43 el_int (by rfl) w1.heap.size _ k (intCells ((l.take k).map okR)) (by rfl) (ow6.alloc _) w6.heap.size 1 [.int .i64 65533] (by rfl) (heap_new_at rfl) rfl (by simp [Value.oneCell']) (by unfold maxLen; omega) (by omega) (by simp; omega) (w6.heap.size + 1) (by simp) ?_; intro g7 c7 w7 hown7 hgrow7 hat7))
        go_roundw
        case rel => exact HFIN.out g7 c7 w6 w7 A6 c6 65533 HZ.out ho6 ow6 ap6 b6 hown7 hgrow7 hat7
        case measure => simp [intOf]; omega
      by_cases h2 : 1114111 < x
      · have hz : okR x = 65533 := by unfold okR; split <;> omega
        have HZ := Lib.hid hz; clear hz
        have HFIN := Lib.hid fin; clear fin
        go_wp2_with (first
          | (go_at_call 40; refine (put_any x _).mono ?_; rintro e w5 ⟨A5, c5, rfl, ho5, hb5⟩; simp only [HM.out] at ho5 ⊢; have ob5 := own_past hob hb5; have ow5 := own_past how hb5; have rd5 := Rd.of_own ho5; have m5 := hb5.size)
          | (at_builtin; refine wpList_cat (by rfl) (.tmp 36) (.tmp 37) 42 el_byte (by rfl) w1.heap.size _ n (byteCells ((l.take k).flatMap putF)) (by rfl) ob5 w5.heap.size A5 m c5 (byteCells (putF x)) (by rfl) rd5 (by rw [byteCells_len, HM.out]; simp) (byteCells_one _) (by unfold maxLen; omega) (by omega) (by omega) ?_; intro A6 c6 w6 ho6 hg6 hl6; have ow6 := own_apart ow5 hg6 hap; have ap6 := Apart.grow hap ow5 (Nat.le_refl _) hl6; have m6 := hg6.size; have b6 := bt (bt hbw hb5 mr) (below_of_grown hg6 (show w1.heap.size ≤ _ by omega) (own_ge ob5)) (Nat.le_refl _))
          | (at_builtin; refine wpList_push (by rfl) (.tmp 53) (.tmp 55) 43 el_int (by rfl) w1.heap.size _ k (intCells ((l.take k).map okR)) (by rfl) (ow6.alloc _) w6.heap.size 1 [.int .i64 65533] (by rfl) (heap_new_at rfl) rfl (by simp [Value.oneCell']) (by unfold maxLen; omega) (by omega) (by simp; omega) (w6.heap.size + 1) (by simp) ?_; intro g7 c7 w7 hown7 hgrow7 hat7))
        go_roundw
        case rel => exact HFIN.out g7 c7 w6 w7 A6 c6 65533 HZ.out ho6 ow6 ap6 b6 hown7 hgrow7 hat7
        case measure => simp [intOf]; omega
      by_cases h3 : x < 55296
      · have hz : okR x = x := by unfold okR; split <;> omega
        have HZ := Lib.hid hz; clear hz
        have HFIN := Lib.hid fin; clear fin
        go_wp2_with (first
          | (go_at_call 40; refine (put_any x _).mono ?_; rintro e w5 ⟨A5, c5, rfl, ho5, hb5⟩; simp only [HM.out] at ho5 ⊢; have ob5 := own_past hob hb5; have ow5 := own_past how hb5; have rd5 := Rd.of_own ho5; have m5 := hb5.size)
          | (at_builtin; refine wpList_cat (by rfl) (.tmp 36) (.tmp 37) 42 el_byte (by rfl) w1.heap.size _ n (byteCells ((l.take k).flatMap putF)) (by rfl) ob5 w5.heap.size A5 m c5 (byteCells (putF x)) (by rfl) rd5 (by rw [byteCells_len, HM.out]; simp) (byteCells_one _) (by unfold maxLen; omega) (by omega) (by omega) ?_; intro A6 c6 w6 ho6 hg6 hl6; have ow6 := own_apart ow5 hg6 hap; have ap6 := Apart.grow hap ow5 (Nat.le_refl _) hl6; have m6 := hg6.size; have b6 := bt (bt hbw hb5 mr) (below_of_grown hg6 (show w1.heap.size ≤ _ by omega) (own_ge ob5)) (Nat.le_refl _))
          | (at_builtin; refine wpList_push (by rfl) (.tmp 53) (.tmp 55) 43 el_int (by rfl) w1.heap.size _ k (intCells ((l.take k).map okR)) (by rfl) (ow6.alloc _) w6.heap.size 1 [.int .i64 x] (by rfl) (heap_new_at rfl) rfl (by simp [Value.oneCell']) (by unfold maxLen; omega) (by omega) (by simp; omega) (w6.heap.size + 1) (by simp) ?_; intro g7 c7 w7 hown7 hgrow7 hat7))
        go_roundw
        case rel => exact HFIN.out g7 c7 w6 w7 A6 c6 x HZ.out ho6 ow6 ap6 b6 hown7 hgrow7 hat7
        case measure => simp [intOf]; omega
      by_cases h4 : x ≤ 57343
      · have hz : okR x = 65533 := by unfold okR; split <;> omega
        have HZ := Lib.hid hz; clear hz
        have HFIN := Lib.hid fin; clear fin
        go_wp2_with (first
          | (go_at_call 40; refine (put_any x _).mono ?_; rintro e w5 ⟨A5, c5, rfl, ho5, hb5⟩; simp only [HM.out] at ho5 ⊢; have ob5 := own_past hob hb5; have ow5 := own_past how hb5; have rd5 := Rd.of_own ho5; have m5 := hb5.size)
          | (at_builtin; refine wpList_cat (by rfl) (.tmp 36) (.tmp 37) 42 el_byte (by rfl) w1.heap.size _ n (byteCells ((l.take k).flatMap putF)) (by rfl) ob5 w5.heap.size A5 m c5 (byteCells (putF x)) (by rfl) rd5 (by rw [byteCells_len, HM.out]; simp) (byteCells_one _) (by unfold maxLen; omega) (by omega) (by omega) ?_; intro A6 c6 w6 ho6 hg6 hl6; have ow6 := own_apart ow5 hg6 hap; have ap6 := Apart.grow hap ow5 (Nat.le_refl _) hl6; have m6 := hg6.size; have b6 := bt (bt hbw hb5 mr) (below_of_grown hg6 (show w1.heap.size ≤ _ by omega) (own_ge ob5)) (Nat.le_refl _))
          | (at_builtin; refine wpList_push (by rfl) (.tmp 53) (.tmp 55) 43 el_int (by rfl) w1.heap.size _ k (intCells ((l.take k).map okR)) (by rfl) (ow6.alloc _) w6.heap.size 1 [.int .i64 65533] (by rfl) (heap_new_at rfl) rfl (by simp [Value.oneCell']) (by unfold maxLen; omega) (by omega) (by simp; omega) (w6.heap.size + 1) (by simp) ?_; intro g7 c7 w7 hown7 hgrow7 hat7))
        go_roundw
        case rel => exact HFIN.out g7 c7 w6 w7 A6 c6 65533 HZ.out ho6 ow6 ap6 b6 hown7 hgrow7 hat7
        case measure => simp [intOf]; omega
      · have hz : okR x = x := by unfold okR; split <;> omega
        have HZ := Lib.hid hz; clear hz
        have HFIN := Lib.hid fin; clear fin
        go_wp2_with (first
          | (go_at_call 40; refine (put_any x _).mono ?_; rintro e w5 ⟨A5, c5, rfl, ho5, hb5⟩; simp only [HM.out] at ho5 ⊢; have ob5 := own_past hob hb5; have ow5 := own_past how hb5; have rd5 := Rd.of_own ho5; have m5 := hb5.size)
          | (at_builtin; refine wpList_cat (by rfl) (.tmp 36) (.tmp 37) 42 el_byte (by rfl) w1.heap.size _ n (byteCells ((l.take k).flatMap putF)) (by rfl) ob5 w5.heap.size A5 m c5 (byteCells (putF x)) (by rfl) rd5 (by rw [byteCells_len, HM.out]; simp) (byteCells_one _) (by unfold maxLen; omega) (by omega) (by omega) ?_; intro A6 c6 w6 ho6 hg6 hl6; have ow6 := own_apart ow5 hg6 hap; have ap6 := Apart.grow hap ow5 (Nat.le_refl _) hl6; have m6 := hg6.size; have b6 := bt (bt hbw hb5 mr) (below_of_grown hg6 (show w1.heap.size ≤ _ by omega) (own_ge ob5)) (Nat.le_refl _))
          | (at_builtin; refine wpList_push (by rfl) (.tmp 53) (.tmp 55) 43 el_int (by rfl) w1.heap.size _ k (intCells ((l.take k).map okR)) (by rfl) (ow6.alloc _) w6.heap.size 1 [.int .i64 x] (by rfl) (heap_new_at rfl) rfl (by simp [Value.oneCell']) (by unfold maxLen; omega) (by omega) (by simp; omega) (w6.heap.size + 1) (by simp) ?_; intro g7 c7 w7 hown7 hgrow7 hat7))
        go_roundw
        case rel => exact HFIN.out g7 c7 w6 w7 A6 c6 x HZ.out ho6 ow6 ap6 b6 hown7 hgrow7 hat7
        case measure => simp [intOf]; omega
    · obtain rfl : k = l.length := by omega
      have hN := HN.out
      simp only [List.take_length] at hob how hN
      have hF := feed_puts l
      have HF := Lib.hid hF; clear hF
      have HNN := Lib.hid hN; clear hN HN
      have rb := Rd.of_own hob
      have rw1 := Rd.of_own how
      have hml : (l.map okR).length = l.length := by simp
      have HML := Lib.hid hml; clear hml
      have hbf := bytes_flat l
      have HBF := Lib.hid hbf; clear hbf
      have hfeed : ∀ W : World, Below wr.heap.size wr W → Calls Try.prog 26 #[.agg #[.slice none 0 0], .slice Ab n cb] W fun e w' => ∃ c3 A3 A4 c4, e = .returned (.tuple #[.agg #[.slice A3 0 c3], .slice A4 l.length c4]) ∧ w'.ownsRow W.heap.size 3 1 (.slice A4 l.length c4) l.length (intCells (l.map okR)) ∧ Below W.heap.size W w' := by
        intro W hW
        have h := feed_any [] (l.flatMap putF) none Ab 0 cb W wr.heap.size hW.size (Rd.nil _ _ _) (rb.below hW (Nat.le_refl _)) rfl (by intro y hy; simp at hy) HBF.out (by rw [← HNN.out]; omega)
        rw [← HNN.out] at h
        refine h.mono ?_
        rintro e w' ⟨A3, c3, A4, c4, rfl, _, h4, h5⟩
        simp only [List.nil_append, HF.out, List.length_nil, HML.out] at h4 ⊢
        exact ⟨c3, A3, A4, c4, rfl, h4, h5⟩
      have HFD := Lib.hid hfeed; clear hfeed
      go_wp2_with (first
        | (go_at_call 26; refine (HFD.out _ (Below.refl _ _)).mono ?_; rintro e w3 ⟨c3, A3, A4, c4, rfl, ho4, hb3⟩; have m3 := hb3.size; have rd4 := (Rd.of_own ho4).nextA (.cells #[.slice A3 0 c3] 45); have rd5 := (rw1.next hb3).nextA (.cells #[.slice A3 0 c3] 45))
        | (go_at_call 27; have hi := ints_any (l.map okR) A4 Aw c4 cw _ _ rd4 rd5 (by rw [HML.out]; unfold maxLen; omega); rw [HML.out] at hi; refine hi.mono ?_; rintro e w4 ⟨rfl, hb4⟩; have q4 : w4.cell? ⟨w3.heap.size, 0, none⟩ = some (.slice A3 0 c3) := new_cell hb4 0 _ rfl))
      go_ret
      exact ⟨rfl, bt (bt (bt hb1 hbw m1) hb3 (by omega)) (((Below.refl _ _).alloc (Nat.le_refl _) _).trans (hb4.mono (by simp))) (by omega)⟩
end Go.Proofs.Ytcempbgbdlmjfaa
