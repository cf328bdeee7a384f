/-
  utf: the walk of Feed.
-/
import Derived.Test.YtcempbgbdlmjfaaUtF
import Derived.Test.YtcempbgbdlmjfaaBase4
import Derived.Test.YtcempbgbdlmjfaaUtMore
import Derived.Test.YtcempbgbdlmjfaaUtC
namespace Go.Proofs.Ytcempbgbdlmjfaa
open Go.RowKit

theorem el_byte : El Try.prog 42 5 1 1 := El.mk' Try.underlying42 (z := .int .u8 0) (by kernel_rfl) rfl (by omega)
theorem el_int : El Try.prog 43 3 1 8 := El.mk' Try.underlying43 (z := .int .i64 0) (by kernel_rfl) rfl (by omega)
theorem byteCells_one (b : List Int) : ∀ u ∈ byteCells b, u.oneCell' = true := by
  intro u hu; obtain ⟨y, _, rfl⟩ := List.mem_map.1 hu; rfl
theorem intCells_one (b : List Int) : ∀ u ∈ intCells b, u.oneCell' = true := by
  intro u hu; obtain ⟨y, _, rfl⟩ := List.mem_map.1 hu; rfl
theorem byteCells_len (b : List Int) : (byteCells b).length = b.length := by simp [byteCells]
theorem intCells_len (b : List Int) : (intCells b).length = b.length := by simp [intCells]
theorem intCells_append (a b : List Int) : intCells (a ++ b) = intCells a ++ intCells b := List.map_append
theorem byteCells_append (a b : List Int) : byteCells (a ++ b) = byteCells a ++ byteCells b := List.map_append
theorem info_byte : (Try.prog.info? 5).map (fun i => (i.zero, i.size, i.bytes)) = some (some (.int .u8 0), 1, 1) := by kernel_rfl

set_option maxRecDepth 100000 in
set_option maxHeartbeats 1600000 in
theorem feed_bad_any (s b : List Int) (A A' : Option Addr) (c c' : Nat) (w : World) (B : Nat) (hB : B ≤ w.heap.size) (hr0 : Rd w B A (byteCells s)) (hs : sanU s = false) (h1 : Bytes s) (hl : s.length ≤ 1000) :
    Calls Try.prog 26 #[.agg #[.slice A s.length c], .slice A' b.length c'] w fun e w' => e = .returned (.tuple #[.agg #[.slice none 0 0], .slice none 0 0]) ∧ Below w.heap.size w w' := by
  have hr2 := (hr0.below ((Below.refl w.heap.size w).alloc (Nat.le_refl _) (.cells #[.slice A s.length c] 45)) hB)
  have hr3 := hr2.alloc (by simp; omega) (.cells #[.slice none 0 0] 45)
  have HS := Lib.hid hs; clear hs
  go_enter Try.func26, Try.ntmps26
  go_wp2_with (go_at_call 28; refine (saneU_any s A c _ B (by simp; omega) hr3 h1 (by unfold maxLen; omega)).mono ?_; rintro e w1 ⟨rfl, hb1⟩; simp only [HS.out]; obtain ⟨hc, hf⟩ := bcell hb1; have hz : w.heap.size + 1 < w1.heap.size := by have := hb1.size; simp at this; omega)
  exact bodyPost_ret (v := .tuple #[.agg #[.slice none 0 0], .slice none 0 0]) (by simp [results, Try.results26, go_sem, hc]) rfl ⟨rfl, (bt (((Below.refl _ _).alloc (Nat.le_refl _) _).alloc (by simp) _) hb1 (by simp; omega)).setCell (by simp) _⟩

theorem letter_take (x : Int) (r : List Int) (N : Nat) (A : Option Addr) (cp : Nat) (w : World) (B : Nat) (hB : B ≤ w.heap.size) (hr0 : Rd w B A (byteCells (x :: r))) (hb : Bytes (x :: r)) (h0 : 0 < N) (h4 : N ≤ 4) (hl : N ≤ r.length + 1) (hcp : N ≤ cp) :
    Calls Try.prog 47 #[.slice A N cp] w fun e w' => e = .returned (.int .i32 (letF ((x :: r).take N))) ∧ Below w.heap.size w w' := by
  obtain ⟨N, rfl⟩ : ∃ m, N = m + 1 := ⟨N - 1, by omega⟩
  have h := letter_any x (r.take N) A cp w B hB (by have := hr0.take (N + 1); simpa [byteCells] using this) (fun y hy => hb y (by
    rcases List.mem_cons.1 hy with rfl | hy
    · simp
    · exact List.mem_cons_of_mem _ (List.mem_of_mem_take hy))) (by simp; omega) (by simp; omega)
  rw [List.length_take, Nat.min_eq_left (by omega)] at h
  exact h
theorem Bytes.drop {b : List Int} (h : Bytes b) (k : Nat) : Bytes (b.drop k) := fun y hy => h y (List.mem_of_mem_drop hy)
def lenOf : Value → Nat
  | .slice _ n _ => n
  | _ => 0

set_option maxRecDepth 100000 in
set_option maxHeartbeats 3200000 in
theorem feed_any (s b : List Int) (A A' : Option Addr) (c c' : Nat) (w : World) (B : Nat) (hB : B ≤ w.heap.size) (hr0 : Rd w B A (byteCells s)) (hr1 : Rd w B A' (byteCells b)) (hs : sanU s = true) (h1 : Bytes s) (h2 : Bytes b) (hl2 : b.length ≤ 10000) :
    Calls Try.prog 26 #[.agg #[.slice A s.length c], .slice A' b.length c'] w fun e w' => ∃ A3 c3 A4 c4,
      e = .returned (.tuple #[.agg #[.slice A3 (feedF (s ++ b)).1.length c3], .slice A4 (feedF (s ++ b)).2.length c4]) ∧
      w'.ownsRow w.heap.size 5 1 (.slice A3 (feedF (s ++ b)).1.length c3) (feedF (s ++ b)).1.length (byteCells (feedF (s ++ b)).1) ∧
      w'.ownsRow w.heap.size 3 1 (.slice A4 (feedF (s ++ b)).2.length c4) (feedF (s ++ b)).2.length (intCells (feedF (s ++ b)).2) ∧ Below w.heap.size w w' := by
  have hl := san_short s hs
  have hr2 := (hr0.below ((Below.refl w.heap.size w).alloc (Nat.le_refl _) (.cells #[.slice A s.length c] 45)) hB)
  have hr3 := hr2.alloc (by simp; omega) (.cells #[.slice none 0 0] 45)
  have hp2 := (hr1.below ((Below.refl w.heap.size w).alloc (Nat.le_refl _) (.cells #[.slice A s.length c] 45)) hB)
  have hp3 := hp2.alloc (by simp; omega) (.cells #[.slice none 0 0] 45)
  clear hr0 hr1 hr2 hp2
  have HS := Lib.hid hs; clear hs
  have h1b : Bytes (s ++ b) := fun y hy => by
    rcases List.mem_append.1 hy with h | h
    · exact h1 y h
    · exact h2 y h
  have H1 := Lib.hid h1; have H2 := Lib.hid h2; have H1B := Lib.hid h1b; clear h1 h2 h1b
  obtain ⟨ib, hib, hib0, hib1, hib2⟩ := info_parts info_byte
  go_enter Try.func26, Try.ntmps26
  go_wp2_with (first
    | (go_at_call 28; refine (saneU_any s A c _ B (by simp; omega) hr3 H1.out (by unfold maxLen; omega)).mono ?_; rintro e w1 ⟨rfl, hb1⟩; simp only [HS.out]; obtain ⟨hc, hf⟩ := bcell hb1; have hz : w.heap.size + 1 < w1.heap.size := by have := hb1.size; simp at this; omega)
    | (at_make; refine wpList_make_own _ rfl _ _ 42 rfl w1.heap.size 5 ib (.int .u8 0) 1 Try.underlying42 hib hib0 hib1 _ _ _ (s.length + b.length) rfl rfl (by simp) (by rw [hib2]; omega) (by unfold maxLen; omega) (Nat.le_refl _) ?_; intro w2 hown2 hgrow2; have m2 := hgrow2.size; have r1 := ((hr3.below hb1 (by simp; omega)).grown hgrow2 (by omega) (by simp)).more (show B ≤ w1.heap.size by omega); have p1 := (hp3.below hb1 (by simp; omega)).grown hgrow2 (by omega) (by simp); have k0 := World.grownBy.cell hgrow2 (a := ⟨w.heap.size, 0, none⟩) (v := .slice A s.length c) (by rw [hc _ _ (by simp; omega)]; simp) (by simp))
    | (at_builtin; refine wpList_cat (by rfl) (.tmp 22) (.tmp 24) 42 el_byte (by rfl) w1.heap.size _ 0 [] (by rfl) hown2 w1.heap.size A s.length c (byteCells s) (by rfl) r1 (by simp [byteCells]) (byteCells_one s) (by unfold maxLen; omega) (by omega) m2 ?_; intro A3 c3 w3 hown3 hgrow3 hlies3; simp only [Nat.zero_add, List.nil_append] at hown3; have m3 := hgrow3.size; have p2 := (p1.grown hgrow3 (by omega) (by intro g hg; simp [Value.ownBlock] at hg; omega)).more (show B ≤ w1.heap.size by omega))
    | (at_builtin; refine wpList_cat (by rfl) (.tmp 26) (.tmp 27) 42 el_byte (by rfl) w1.heap.size _ s.length (byteCells s) (by rfl) hown3 w1.heap.size A' b.length c' (byteCells b) (by rfl) p2 (by simp [byteCells]) (byteCells_one b) (by unfold maxLen; omega) (by omega) (by omega) ?_; intro A5 c5 w4 hown4 hgrow4 hlies4))
  have m4 := hgrow4.size
  have bw2 : Below w.heap.size w w2 := bt (bt (((Below.refl _ _).alloc (Nat.le_refl _) _).alloc (by simp) _) hb1 (by simp; omega)) (below_of_grown hgrow2 (Nat.le_refl _) (by simp)) (by omega)
  have bw3 := bt bw2 (below_of_grown hgrow3 m2 (by intro g hg; simp [Value.ownBlock] at hg; omega)) (by omega)
  have b34 : Below w1.heap.size w3 w4 := below_of_grown hgrow4 (by omega) (by
    intro g hg
    rcases hlies3 g (by simpa using hg) with h | h
    · simp [Value.ownBlock] at h; omega
    · omega)
  have bw4 := bt bw3 b34 (by omega)
  have hR : Rd w4 w4.heap.size A5 (byteCells (s ++ b)) := by
    have := Rd.of_own hown4
    simpa [byteCells] using this
  have hcap : s.length + b.length ≤ c5 := by
    obtain ⟨_, _, e, h⟩ := own_slice hown4
    injection e with _ _ e
    omega
  have qc : w4.cell? ⟨w.heap.size + 1, 0, none⟩ = some (.slice none 0 0) := by
    have k1 : w1.cell? ⟨w.heap.size + 1, 0, none⟩ = some (.slice none 0 0) := by rw [hc _ _ (by simp)]; simp
    have k2 := World.grownBy.cell hgrow2 k1 (by simp)
    have k3 := World.grownBy.cell hgrow3 k2 (by simp [Value.ownBlock]; omega)
    exact (b34.cell (p := ⟨w.heap.size + 1, 0, none⟩) (show w.heap.size + 1 < w1.heap.size by omega)).trans k3
  have qf : w4.frozen? ⟨w.heap.size + 1, 0, none⟩ = false := by
    have k1 : w1.frozen? ⟨w.heap.size + 1, 0, none⟩ = false := by rw [hf _ _ (by simp)]; simp
    have k2 := (World.grownBy.frozen_far hgrow2 ⟨w.heap.size + 1, 0, none⟩ (show w.heap.size + 1 < w1.heap.size by omega) (by simp)).trans k1
    have k3 := (World.grownBy.frozen_far hgrow3 ⟨w.heap.size + 1, 0, none⟩ (show w.heap.size + 1 < w2.heap.size by omega) (by simp [Value.ownBlock]; omega)).trans k2
    exact (b34.frozen (p := ⟨w.heap.size + 1, 0, none⟩) (show w.heap.size + 1 < w1.heap.size by omega)).trans k3
  have hz4 : w.heap.size + 1 < w4.heap.size := by omega
  clear b34 bw3 bw2 hown4 hlies4 hgrow4 hown3 hlies3 hgrow3 hown2 hgrow2 hc hf hb1 r1 p1 p2 k0 hr3 hp3
  go_loopw [6, 7] (fun all l wr => ∃ A cp rest Al cl out, all = .slice A rest.length cp ∧ l = .slice Al (List.length out) cl ∧ rest.length ≤ cp ∧ Rd w4 w4.heap.size A (byteCells rest) ∧ wr.ownsRow w4.heap.size 3 1 l out.length (intCells out) ∧ Bytes rest ∧ feedF (s ++ b) = ((feedF rest).1, out ++ (feedF rest).2) ∧ out.length + rest.length ≤ 11000 ∧ Below w4.heap.size w4 wr) (fun all _ _ => lenOf all)
  case atStart => exact ⟨A5, c5, s ++ b, none, 0, [], by simp, rfl, by simpa using hcap, hR, World.ownsRow_nil _ _ _ _, H1B.out, by simp, by simp; omega, Below.refl _ _⟩
  case round =>
    obtain ⟨A, cp, rest, Al, cl, out, rfl, rfl, hcp, hrd, hown, hbr, hfd, hln, hbw⟩ := hrel
    have HF := Lib.hid hfd; clear hfd
    have qc' := past hbw qc
    have qf' := past_frozen hbw hz4 qf
    have hzr := hbw.size
    cases rest with
    | nil =>
      simp only [List.length_nil] at hcp hln ⊢
      go_wp2
      have hF := HF.out
      rw [feedF_nil, List.append_nil] at hF
      simp only [hF]
      refine bodyPost_ret (v := .tuple #[.agg #[.slice none 0 0], .slice Al out.length cl]) (by simp [results, Try.results26, go_sem, qc']) rfl ⟨none, 0, Al, cl, rfl, World.ownsRow_nil _ _ _ _, ?_, ?_⟩
      · exact own_base (own_far hown (show w.heap.size + 1 < w4.heap.size by omega) _) (by omega)
      · exact (bt bw4 hbw (by omega)).setCell (by simp) _
    | cons x r =>
      have hbd := begK_le (x :: r)
      have h4 := begN_le (x :: r)
      by_cases h1 : 0 < begK (x :: r) ∧ begK (x :: r) = begN (x :: r)
      · obtain ⟨N, hN⟩ : ∃ N, begN (x :: r) = N := ⟨_, rfl⟩
        have hK : begK (x :: r) = N := h1.2.trans hN
        have hlet := letF_letter (x :: r) hbr h1.1 h1.2
        rw [hN] at hlet
        have hN0 : 0 < N := by omega
        have hN1 : N ≤ r.length + 1 := by have := hbd.2; simp at this; omega
        have hN4 : N ≤ 4 := by omega
        have HN := Lib.hid hN; have HK := Lib.hid hK; clear hN hK h1 hbd h4
        obtain ⟨ab, off, rfl, hbB, hcc⟩ := hrd (by simp [byteCells])
        have hrw := hrd.below hbw (Nat.le_refl _)
        simp only [List.length_cons] at hcp hln ⊢
        obtain ⟨z, hz⟩ : ∃ z, letF ((x :: r).take N) = z := ⟨_, rfl⟩
        rw [hz] at hlet
        have HZ := Lib.hid hz; clear hz
        unfold Letter at hlet
        clear hcc
        have hnc : N ≤ cp := by omega
        go_wp2_with (first
          | (go_at_call 46; refine (begins_any x r _ cp _ w4.heap.size hzr hrw hbr (by simp [maxLen]; omega)).mono ?_; rintro e w5 ⟨rfl, hb5⟩; simp only [HK.out, HN.out])
          | (go_at_call 47; refine (letter_take x r N _ cp _ w4.heap.size (by have := hb5.size; omega) (hrw.below hb5 hzr) hbr hN0 hN4 hN1 hnc).mono ?_; rintro e w6 ⟨rfl, hb6⟩; simp only [HZ.out]; have hown6 := own_past (own_past hown hb5) hb6; have m6 := hb6.size; have m5 := hb5.size)
          | (at_builtin; go_loud (refine wpList_push (by rfl) (.tmp 62) (.tmp 65) 43 el_int (by rfl) w4.heap.size _ out.length (intCells out) (by rfl) (hown6.alloc _) w6.heap.size 1 [.int .i64 z] (by rfl) (heap_new_at rfl) rfl (by simp [Value.oneCell']) (by unfold maxLen; omega) (by omega) (by simp; omega) (w6.heap.size + 1) (by simp) ?_); intro g7 c7 w7 hown7 hgrow7 hat7))
        have b6 : Below w4.heap.size w4 w6 := bt (bt hbw hb5 hzr) hb6 (by omega)
        have b7 : Below w4.heap.size w4 w7 := bt (b6.alloc (by omega) _) (below_of_grown hgrow7 (show w4.heap.size ≤ _ by simp; omega) (own_ge hown6)) (Nat.le_refl _)
        go_roundw
        case rel =>
          refine ⟨if cp = N then some ⟨ab, off, none⟩ else some ⟨ab, off + N, none⟩, cp - N, (x :: r).drop N, some ⟨g7, 0, none⟩, c7, out ++ [z], by simp, by simp, by simp; omega, ?_, ?_, hbr.drop N, ?_, by simp; omega, b7⟩
          · have := rd_cut hrd N cp (by simp [byteCells]; omega)
            simpa [byteCells] using this
          · simpa [intCells] using hown7
          · rw [HF.out, feedF_whole (x :: r) (by rw [HK.out]; exact hN0) (by rw [HK.out, HN.out]), HN.out, HZ.out]
            simp
        case measure => simp only [lenOf]; omega
      by_cases h2 : 0 < begK (x :: r) ∧ begK (x :: r) = (x :: r).length
      · obtain ⟨N, hN⟩ : ∃ N, begN (x :: r) = N := ⟨_, rfl⟩
        have hF := feedF_stop (x :: r) h2.1 (fun h => h1 ⟨h2.1, h⟩) h2.2
        have hK : begK (x :: r) = r.length + 1 := h2.2
        have e1 : ¬ (r.length + 1 = N) := fun h => h1 ⟨h2.1, by omega⟩
        have e2 : ((r.length : Int) + 1 == (N : Int)) = false := by simp; omega
        have HN := Lib.hid hN; have HK := Lib.hid hK; have HFS := Lib.hid hF; clear hN hK h1 h2 hbd h4 hF
        obtain ⟨ab, off, rfl, hbB, hcc⟩ := hrd (by simp [byteCells])
        have hrw := hrd.below hbw (Nat.le_refl _)
        simp only [List.length_cons] at hcp hln ⊢
        clear hcc
        go_wp2_with (first
          | (go_at_call 46; refine (begins_any x r _ cp _ w4.heap.size hzr hrw hbr (by simp [maxLen]; omega)).mono ?_; rintro e w5 ⟨rfl, hb5⟩; simp only [HK.out, HN.out]; have hown6 := own_past hown hb5; have m5 := hb5.size; have hrw5 := hrw.below hb5 hzr; have qc5 := past hb5 qc'; have qf5 := past_frozen hb5 (show w.heap.size + 1 < wr.heap.size by omega) qf')
          | (at_builtin; go_loud (refine wpList_cat (by rfl) (.const (.slice none 0 0)) (.tmp 58) 42 el_byte (by rfl) w5.heap.size _ 0 [] (by rfl) (World.ownsRow_nil _ _ _ _) w4.heap.size _ (r.length + 1) cp (byteCells (x :: r)) (by rfl) hrw5 (by simp [byteCells]) (byteCells_one _) (by unfold maxLen; omega) (by omega) (Nat.le_refl _) ?_); intro A7 c7 w7 hown7 hgrow7 hlies7; simp only [Nat.zero_add, List.nil_append] at hown7; have qc7 := World.grownBy.cell hgrow7 qc5 (by simp [Value.ownBlock]); have qf7 := (World.grownBy.frozen_far hgrow7 ⟨w.heap.size + 1, 0, none⟩ (show w.heap.size + 1 < w5.heap.size by omega) (by simp [Value.ownBlock])).trans qf5; have m7 := hgrow7.size))
        have b7 : Below w4.heap.size w4 w7 := bt (bt hbw hb5 hzr) (below_of_grown hgrow7 (Nat.le_refl _) (by simp [Value.ownBlock])) (by omega)
        have hF := HF.out
        rw [HFS.out, List.append_nil] at hF
        simp only [hF, List.length_cons]
        refine bodyPost_ret (v := .tuple #[.agg #[.slice A7 (r.length + 1) c7], .slice Al out.length cl]) (by simp [results, Try.results26, go_sem, qc7]) rfl ⟨A7, c7, Al, cl, rfl, ?_, ?_, ?_⟩
        · exact own_base (own_far hown7 (show w.heap.size + 1 < w5.heap.size by omega) _) (by omega)
        · exact own_base (own_far (own_past_B hown6 (below_of_grown hgrow7 (Nat.le_refl _) (by simp [Value.ownBlock])) (Nat.le_refl _)) (show w.heap.size + 1 < w4.heap.size by omega) _) (by omega)
        · exact (bt bw4 b7 (by omega)).setCell (by simp) _
      · obtain ⟨N, hN⟩ : ∃ N, begN (x :: r) = N := ⟨_, rfl⟩
        have HN := Lib.hid hN; clear hN
        have H1N := Lib.hid h1; have H2N := Lib.hid h2
        by_cases hk0 : begK (x :: r) = 0
        · have hK := hk0
          clear h1 h2 hbd h4 hk0
          have HK := Lib.hid hK; clear hK
          obtain ⟨ab, off, rfl, hbB, hcc⟩ := hrd (by simp [byteCells])
          have hrw := hrd.below hbw (Nat.le_refl _)
          simp only [List.length_cons] at hcp hln ⊢
          clear hcc
          go_wp2_with (first
            | (go_at_call 46; refine (begins_any x r _ cp _ w4.heap.size hzr hrw hbr (by simp [maxLen]; omega)).mono ?_; rintro e w5 ⟨rfl, hb5⟩; simp only [HK.out, HN.out]; have hown6 := own_past hown hb5; have m5 := hb5.size)
            | (at_builtin; go_loud (refine wpList_push (by rfl) (.tmp 62) (.tmp 65) 43 el_int (by rfl) w4.heap.size _ out.length (intCells out) (by rfl) (hown6.alloc _) w5.heap.size 1 [.int .i64 65533] (by rfl) (heap_new_at rfl) rfl (by simp [Value.oneCell']) (by unfold maxLen; omega) (by omega) (by simp; omega) (w5.heap.size + 1) (by simp) ?_); intro g7 c7 w7 hown7 hgrow7 hat7))
          have b6 : Below w4.heap.size w4 w5 := bt hbw hb5 hzr
          have b7 : Below w4.heap.size w4 w7 := bt (b6.alloc (by omega) _) (below_of_grown hgrow7 (show w4.heap.size ≤ _ by simp; omega) (own_ge hown6)) (Nat.le_refl _)
          go_roundw
          case rel =>
            refine ⟨if cp = 1 then some ⟨ab, off, none⟩ else some ⟨ab, off + 1, none⟩, cp - 1, (x :: r).drop 1, some ⟨g7, 0, none⟩, c7, out ++ [65533], by simp, by simp, by simp; omega, ?_, ?_, hbr.drop 1, ?_, by simp; omega, b7⟩
            · have := rd_cut hrd 1 cp (by simp [byteCells]; omega)
              simpa [byteCells] using this
            · simpa [intCells] using hown7
            · rw [HF.out, feedF_bad (x :: r) (by simp) H1N.out H2N.out, HK.out, show max 0 1 = 1 from rfl]
              simp
          case measure => simp only [lenOf]; omega
        · obtain ⟨K, hK⟩ : ∃ K, begK (x :: r) = K := ⟨_, rfl⟩
          have hK0 : 0 < K := by omega
          have e1 : ¬ (K = N) := fun h => h1 ⟨by omega, by rw [hK, HN.out]; exact h⟩
          have e2 : ((K : Int) == (N : Int)) = false := by simp; omega
          have e3 : ¬ (K = r.length + 1) := fun h => h2 ⟨by omega, by rw [hK]; exact h⟩
          have e4 : ((K : Int) == (r.length : Int) + 1) = false := by simp; omega
          have hKr : K ≤ r.length + 1 := by have := hbd.2; simp at this; omega
          clear h1 h2 hbd h4 hk0
          have HK := Lib.hid hK; clear hK
          obtain ⟨ab, off, rfl, hbB, hcc⟩ := hrd (by simp [byteCells])
          have hrw := hrd.below hbw (Nat.le_refl _)
          simp only [List.length_cons] at hcp hln ⊢
          clear hcc
          go_wp2_with (first
            | (go_at_call 46; refine (begins_any x r _ cp _ w4.heap.size hzr hrw hbr (by simp [maxLen]; omega)).mono ?_; rintro e w5 ⟨rfl, hb5⟩; simp only [HK.out, HN.out]; have hown6 := own_past hown hb5; have m5 := hb5.size)
            | (at_builtin; go_loud (refine wpList_push (by rfl) (.tmp 62) (.tmp 65) 43 el_int (by rfl) w4.heap.size _ out.length (intCells out) (by rfl) (hown6.alloc _) w5.heap.size 1 [.int .i64 65533] (by rfl) (heap_new_at rfl) rfl (by simp [Value.oneCell']) (by unfold maxLen; omega) (by omega) (by simp; omega) (w5.heap.size + 1) (by simp) ?_); intro g7 c7 w7 hown7 hgrow7 hat7))
          have b6 : Below w4.heap.size w4 w5 := bt hbw hb5 hzr
          have b7 : Below w4.heap.size w4 w7 := bt (b6.alloc (by omega) _) (below_of_grown hgrow7 (show w4.heap.size ≤ _ by simp; omega) (own_ge hown6)) (Nat.le_refl _)
          go_roundw
          case rel =>
            refine ⟨if cp = K then some ⟨ab, off, none⟩ else some ⟨ab, off + K, none⟩, cp - K, (x :: r).drop K, some ⟨g7, 0, none⟩, c7, out ++ [65533], by simp; omega, by simp, by simp; omega, ?_, ?_, hbr.drop K, ?_, by simp; omega, b7⟩
            · have := rd_cut hrd K cp (by simp [byteCells]; omega)
              simpa [byteCells] using this
            · simpa [intCells] using hown7
            · rw [HF.out, feedF_bad (x :: r) (by simp) H1N.out H2N.out, HK.out, show max K 1 = K from by omega]
              simp
          case measure => simp only [lenOf]; omega
end Go.Proofs.Ytcempbgbdlmjfaa
