/-
  lapwinglaw06.ParseText: the walk: for any text it answers true. No condition.
-/
import Derived.Test.YtcempbgbdlmjfaaDoorP6Aw
namespace Go.Proofs.YtcempbgbdlmjfaaDoor
open Go.RowKit

theorem bI_take (s : ByteArray) (k : Nat) : bI (s.extract 0 k) = (bI s).take k := by
  unfold bI
  rw [ByteArray.data_extract, Array.toList_extract, List.extract_eq_take_drop]
  simp [List.map_take]
set_option maxRecDepth 100000 in
set_option maxHeartbeats 6400000 in
theorem pt_big (s : ByteArray) (st : Bool) (w : World) (hs : s.size ≤ maxLen) (hT : TabI w) (h : 1200 < s.size) : Calls Tryd.prog 17 #[.string s, .bool st] w fun e w' => e = .returned (.bool true) ∧ Below w.heap.size w w' := by
  have HT := Lib.hid hT
  unfold maxLen at hs
  clear hT
  go_enter Tryd.func17, Tryd.ntmps17
  go_wp2_with fail
  refine (awake6_any _ HT.out).mono ?_
  rintro e w1 ⟨rfl, hb⟩
  have HB := Lib.hid hb
  clear hb
  go_wp2_with fail
  go_ret
  exact ⟨rfl, HB.out⟩
set_option maxRecDepth 100000 in
set_option maxHeartbeats 6400000 in
theorem pt_bell (s : ByteArray) (w : World) (hT : TabI w) (h : s.size ≤ 1200) : Calls Tryd.prog 17 #[.string s, .bool false] w fun e w' => e = .returned (.bool true) ∧ Below w.heap.size w w' := by
  have HT := Lib.hid hT
  have hls : (bI s).length = s.size := bI_len s
  clear hT
  go_enter Tryd.func17, Tryd.ntmps17
  go_wp2_with fail
  refine (awake6_any _ HT.out).mono ?_
  rintro e w1 ⟨rfl, hb⟩
  have HB := Lib.hid hb
  clear hb
  go_wp2_with fail
  go_loopw [6] (fun i wr => ∃ k : Nat, k ≤ s.size ∧ i = .int .i64 k ∧ (∀ c ∈ (bI s).take k, 32 ≤ c ∧ c ≤ 126) ∧ wr = w1) (fun i _ => s.size - (intOf i).toNat)
  case atStart => exact ⟨0, Nat.zero_le _, rfl, by simp, rfl⟩
  case round =>
    obtain ⟨k, hk, rfl, hok, rfl⟩ := hrel
    have OK := Lib.hid hok
    clear hok
    by_cases hlt : k < s.size
    · have hix := index_str Tryd.underlying9 s (bI s) rfl k (by omega) wr
      obtain ⟨x, hx⟩ : ∃ x, (bI s)[k]'(by omega) = x := ⟨_, rfl⟩
      rw [hx] at hix
      have HX := Lib.hid hx
      clear hx
      by_cases h32 : x < 32
      · have d1 : decide (x < 32) = true := by simp; omega
        go_wp2_with fail
        go_ret
        exact ⟨rfl, HB.out⟩
      by_cases h126 : 126 < x
      · have d1 : decide (x < 32) = false := by simp; omega
        have d2 : decide (126 < x) = true := by simp; omega
        go_wp2_with fail
        go_ret
        exact ⟨rfl, HB.out⟩
      have d1 : decide (x < 32) = false := by simp; omega
      have d2 : decide (126 < x) = false := by simp; omega
      go_wp2_with fail
      go_roundw
      case rel =>
        refine ⟨k + 1, by omega, by go_num, fun c hc => ?_, trivial⟩
        rw [List.take_succ_eq_append_getElem (by omega)] at hc
        rcases List.mem_append.1 hc with hc | hc
        · exact OK.out c hc
        · rw [List.mem_singleton.1 hc, HX.out]; omega
      case measure => simp [intOf]; omega
    · obtain rfl : k = s.size := by omega
      have hall : ∀ c ∈ bI s, 32 ≤ c ∧ c ≤ 126 := by have := OK.out; rw [List.take_of_length_le (by omega)] at this; exact this
      have htl := (text_law (bI s) hall).1
      have hbi : bI ((ByteArray.mk #[27, 93] ++ s) ++ ByteArray.mk #[7]) = 27 :: 93 :: (bI s ++ [7]) := by rw [bI_app, bI_app]; rfl
      have HTL := Lib.hid htl; have HBI := Lib.hid hbi; have HLS := Lib.hid hls
      clear hall htl hbi hls OK
      go_wp2_with fail
      refine (letters_of _ _ HBI.out (s.size + 3) (by simp [HLS.out]) _ (by omega)).mono ?_
      rintro e w2 ⟨A1, c1, rfl, hr1, hb⟩
      have HB2 := Lib.hid (HB.out.trans (hb.mono HB.out.size)); have HR2 := Lib.hid hr1
      clear hb hr1
      go_wp2_with fail
      refine (feed_st _ _ _ (s.size + 3) 1 HTL.out (by simp [HLS.out]) rfl A1 c1 _ HR2.out (by omega)).mono ?_
      rintro e w3 ⟨a2, inter2, ov2, l2, o2, text2, k2, ib2, tb2, A2, c2, Ac, cA, vs, hs2, rfl, htx, hpz, hown, hb⟩
      simp only [st0, St.mk.injEq] at hs2
      obtain ⟨rfl, rfl, rfl, rfl, rfl, rfl, rfl⟩ := hs2
      have hb3 := HB2.out.trans (hb.mono HB2.out.size)
      have bx : Below w3.heap.size w3 (w3.alloc (.cells #[.int .i64 0, .string ib2, .bool false, .slice A2 0 c2, .bool false, .string tb2, .int .u8 0] 82)) := (Below.refl _ _).alloc (Nat.le_refl _) _
      have hbW := hb3.trans (bx.mono hb3.size)
      have s3 : SAt (w3.alloc (.cells #[.int .i64 0, .string ib2, .bool false, .slice A2 0 c2, .bool false, .string tb2, .int .u8 0] 82)) w3.heap.size ⟨st0, ib2, tb2, A2, c2⟩ := heap_alloc_new w3 _
      have ho := hown.next bx
      clear bx hb3 hb htx hpz hown
      go_wp2_with fail
      generalize (w3.alloc (.cells #[.int .i64 0, .string ib2, .bool false, .slice A2 0 c2, .bool false, .string tb2, .int .u8 0] 82)) = W at s3 ho hbW ⊢
      obtain ⟨g, ⟨x, ibx, tbx, Ax, cx⟩, rfl, hge, hgl, hx, hvx, htxx, hpx, y0, y1, y2, y3, y4, y5⟩ := own_ax ho 0 (by simp)
      simp only [List.getElem_cons_zero] at hx
      subst hx
      simp only [Nat.zero_mul, Nat.zero_add] at y0 y5
      have htt := htxx.tb
      simp only at htt
      obtain ⟨i0, _⟩ := s3.cells
      simp only [st0] at i0
      have HBW := Lib.hid hbW
      have ri0 := fun u : After W => u.cell i0
      have ry0 := fun u : After W => u.cell y0
      have ry5 := fun u : After W => u.cell y5
      by_cases hbig : 1024 < s.size
      · have et : tbx = s.extract 0 1024 := bI_inj (by rw [htt, bI_take])
        subst et
        have m1 : min (s.size : Int) 1024 = 1024 := by omega
        have m2 : (1024 : Int) ≤ (s.size : Int) := by omega
        clear htt htxx hvx hpx i0 y0 y1 y2 y3 y4 y5 s3 ho hbW HTL HBI HLS HR2
        refine wp_region_after (by kernel_rfl) (by kernel_rfl) ?_
        repeat (go_big_quiet_step (fail))
        refine wpQuiet_nil ?_
        rintro _ ⟨u, rfl⟩
        go_wp2_with fail
        go_ret
        exact ⟨rfl, HBW.out.trans (u.below.mono HBW.out.size)⟩
      · have et : tbx = s.extract 0 s.size := bI_inj (by rw [htt, bI_take, List.take_of_length_le (by rw [bI_len]; omega), List.take_of_length_le (by rw [bI_len]; omega)])
        subst et
        have m1 : min (s.size : Int) 1024 = (s.size : Int) := by omega
        clear htt htxx hvx hpx i0 y0 y1 y2 y3 y4 y5 s3 ho hbW HTL HBI HLS HR2
        refine wp_region_after (by kernel_rfl) (by kernel_rfl) ?_
        repeat (go_big_quiet_step (fail))
        refine wpQuiet_nil ?_
        rintro _ ⟨u, rfl⟩
        go_wp2_with fail
        go_ret
        exact ⟨rfl, HBW.out.trans (u.below.mono HBW.out.size)⟩
set_option maxRecDepth 100000 in
set_option maxHeartbeats 6400000 in
theorem pt_st (s : ByteArray) (w : World) (hT : TabI w) (h : s.size ≤ 1200) : Calls Tryd.prog 17 #[.string s, .bool true] w fun e w' => e = .returned (.bool true) ∧ Below w.heap.size w w' := by
  have HT := Lib.hid hT
  have hls : (bI s).length = s.size := bI_len s
  clear hT
  go_enter Tryd.func17, Tryd.ntmps17
  go_wp2_with fail
  refine (awake6_any _ HT.out).mono ?_
  rintro e w1 ⟨rfl, hb⟩
  have HB := Lib.hid hb
  clear hb
  go_wp2_with fail
  go_loopw [6] (fun i wr => ∃ k : Nat, k ≤ s.size ∧ i = .int .i64 k ∧ (∀ c ∈ (bI s).take k, 32 ≤ c ∧ c ≤ 126) ∧ wr = w1) (fun i _ => s.size - (intOf i).toNat)
  case atStart => exact ⟨0, Nat.zero_le _, rfl, by simp, rfl⟩
  case round =>
    obtain ⟨k, hk, rfl, hok, rfl⟩ := hrel
    have OK := Lib.hid hok
    clear hok
    by_cases hlt : k < s.size
    · have hix := index_str Tryd.underlying9 s (bI s) rfl k (by omega) wr
      obtain ⟨x, hx⟩ : ∃ x, (bI s)[k]'(by omega) = x := ⟨_, rfl⟩
      rw [hx] at hix
      have HX := Lib.hid hx
      clear hx
      by_cases h32 : x < 32
      · have d1 : decide (x < 32) = true := by simp; omega
        go_wp2_with fail
        go_ret
        exact ⟨rfl, HB.out⟩
      by_cases h126 : 126 < x
      · have d1 : decide (x < 32) = false := by simp; omega
        have d2 : decide (126 < x) = true := by simp; omega
        go_wp2_with fail
        go_ret
        exact ⟨rfl, HB.out⟩
      have d1 : decide (x < 32) = false := by simp; omega
      have d2 : decide (126 < x) = false := by simp; omega
      go_wp2_with fail
      go_roundw
      case rel =>
        refine ⟨k + 1, by omega, by go_num, fun c hc => ?_, trivial⟩
        rw [List.take_succ_eq_append_getElem (by omega)] at hc
        rcases List.mem_append.1 hc with hc | hc
        · exact OK.out c hc
        · rw [List.mem_singleton.1 hc, HX.out]; omega
      case measure => simp [intOf]; omega
    · obtain rfl : k = s.size := by omega
      have hall : ∀ c ∈ bI s, 32 ≤ c ∧ c ≤ 126 := by have := OK.out; rw [List.take_of_length_le (by omega)] at this; exact this
      have htl := (text_law (bI s) hall).2
      have hbi : bI ((ByteArray.mk #[27, 93] ++ s) ++ ByteArray.mk #[27, 92]) = 27 :: 93 :: (bI s ++ [27, 92]) := by rw [bI_app, bI_app]; rfl
      have HTL := Lib.hid htl; have HBI := Lib.hid hbi; have HLS := Lib.hid hls
      clear hall htl hbi hls OK
      go_wp2_with fail
      refine (letters_of _ _ HBI.out (s.size + 4) (by simp [HLS.out]) _ (by omega)).mono ?_
      rintro e w2 ⟨A1, c1, rfl, hr1, hb⟩
      have HB2 := Lib.hid (HB.out.trans (hb.mono HB.out.size)); have HR2 := Lib.hid hr1
      clear hb hr1
      go_wp2_with fail
      refine (feed_st _ _ _ (s.size + 4) 2 HTL.out (by simp [HLS.out]) rfl A1 c1 _ HR2.out (by omega)).mono ?_
      rintro e w3 ⟨a2, inter2, ov2, l2, o2, text2, k2, ib2, tb2, A2, c2, Ac, cA, vs, hs2, rfl, htx, hpz, hown, hb⟩
      simp only [st0, St.mk.injEq] at hs2
      obtain ⟨rfl, rfl, rfl, rfl, rfl, rfl, rfl⟩ := hs2
      have hb3 := HB2.out.trans (hb.mono HB2.out.size)
      have bx : Below w3.heap.size w3 (w3.alloc (.cells #[.int .i64 0, .string ib2, .bool false, .slice A2 0 c2, .bool false, .string tb2, .int .u8 0] 82)) := (Below.refl _ _).alloc (Nat.le_refl _) _
      have hbW := hb3.trans (bx.mono hb3.size)
      have s3 : SAt (w3.alloc (.cells #[.int .i64 0, .string ib2, .bool false, .slice A2 0 c2, .bool false, .string tb2, .int .u8 0] 82)) w3.heap.size ⟨st0, ib2, tb2, A2, c2⟩ := heap_alloc_new w3 _
      have ho := hown.next bx
      clear bx hb3 hb htx hpz hown
      go_wp2_with fail
      generalize (w3.alloc (.cells #[.int .i64 0, .string ib2, .bool false, .slice A2 0 c2, .bool false, .string tb2, .int .u8 0] 82)) = W at s3 ho hbW ⊢
      obtain ⟨g, ⟨x, ibx, tbx, Ax, cx⟩, rfl, hge, hgl, hx, hvx, htxx, hpx, y0, y1, y2, y3, y4, y5⟩ := own_ax ho 0 (by simp)
      simp only [List.getElem_cons_zero] at hx
      subst hx
      obtain ⟨g', ⟨x, ibz, tbz, Az, cz⟩, hAz, _, _, hx, hvz, htxz, hpz, z0, z1, z2, z3, z4, z5⟩ := own_ax ho 1 (by simp)
      simp only [List.getElem_cons_succ, List.getElem_cons_zero] at hx
      subst hx
      injection hAz with hAz
      injection hAz with hAz
      subst hAz
      simp only [Nat.one_mul, Nat.reduceAdd] at z0 z2
      simp only [Nat.zero_mul, Nat.zero_add] at y0 y5
      have htt := htxx.tb
      simp only at htt
      obtain ⟨i0, _⟩ := s3.cells
      simp only [st0] at i0
      have HBW := Lib.hid hbW
      have ri0 := fun u : After W => u.cell i0
      have ry0 := fun u : After W => u.cell y0
      have ry5 := fun u : After W => u.cell y5
      have rz0 := fun u : After W => u.cell z0
      have rz2 := fun u : After W => u.cell z2
      by_cases hbig : 1024 < s.size
      · have et : tbx = s.extract 0 1024 := bI_inj (by rw [htt, bI_take])
        subst et
        have m1 : min (s.size : Int) 1024 = 1024 := by omega
        have m2 : (1024 : Int) ≤ (s.size : Int) := by omega
        clear htt htxx hvx hpx i0 y0 y1 y2 y3 y4 y5 s3 ho hbW hvz htxz hpz z0 z1 z2 z3 z4 z5 HTL HBI HLS HR2
        refine wp_region_after (by kernel_rfl) (by kernel_rfl) ?_
        repeat (go_big_quiet_step (fail))
        refine wpQuiet_nil ?_
        rintro _ ⟨u, rfl⟩
        go_wp2_with fail
        go_ret
        exact ⟨rfl, HBW.out.trans (u.below.mono HBW.out.size)⟩
      · have et : tbx = s.extract 0 s.size := bI_inj (by rw [htt, bI_take, List.take_of_length_le (by rw [bI_len]; omega), List.take_of_length_le (by rw [bI_len]; omega)])
        subst et
        have m1 : min (s.size : Int) 1024 = (s.size : Int) := by omega
        clear htt htxx hvx hpx i0 y0 y1 y2 y3 y4 y5 s3 ho hbW hvz htxz hpz z0 z1 z2 z3 z4 z5 HTL HBI HLS HR2
        refine wp_region_after (by kernel_rfl) (by kernel_rfl) ?_
        repeat (go_big_quiet_step (fail))
        refine wpQuiet_nil ?_
        rintro _ ⟨u, rfl⟩
        go_wp2_with fail
        go_ret
        exact ⟨rfl, HBW.out.trans (u.below.mono HBW.out.size)⟩
theorem ptext_walk (s : ByteArray) (st : Bool) (w : World) (hs : s.size ≤ maxLen) (hT : TabI w) : Calls Tryd.prog 17 #[.string s, .bool st] w fun e w' => e = .returned (.bool true) ∧ Below w.heap.size w w' := by
  by_cases h : 1200 < s.size
  · exact pt_big s st w hs hT h
  cases st with
  | false => exact pt_bell s w hT (by omega)
  | true => exact pt_st s w hT (by omega)
end Go.Proofs.YtcempbgbdlmjfaaDoor
