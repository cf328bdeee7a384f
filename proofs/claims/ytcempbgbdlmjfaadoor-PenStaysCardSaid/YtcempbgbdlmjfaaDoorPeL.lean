/-
  pen: the walk of Print.
-/
import Derived.Test.YtcempbgbdlmjfaaDoorPeK
import Derived.Deep.DeepCutAuto
namespace Go.Proofs.YtcempbgbdlmjfaaDoor
open Go.RowKit

def LLRet (w : World) (L : List (List Int)) (e : Ending) (w' : World) : Prop := ∃ A c, e = .returned (.slice A L.length c) ∧ RdLL w' w.heap.size w'.heap.size (.slice A L.length c) L ∧ Below w.heap.size w w'
def flagsU (fl : Int) (k : Nat) : List (List Int) := [[0]] ++ (List.range k).filterMap fun i => if bits .and .i64 fl (2 ^ i) ≠ 0 then some [codesT.getD i 0] else none
theorem pow_ok (k : Nat) (hk : k < 9) : wrap64 ((2 : Int) ^ k) = (2 : Int) ^ k := by
  have h : ∀ j : Fin 9, wrap64 ((2 : Int) ^ j.1) = (2 : Int) ^ j.1 := by decide +kernel
  exact h ⟨k, hk⟩
theorem flagsU_yes (fl : Int) (k : Nat) (h : bits .and .i64 fl (2 ^ k) ≠ 0) : flagsU fl (k + 1) = flagsU fl k ++ [[codesT.getD k 0]] := by
  unfold flagsU
  rw [List.range_succ, List.filterMap_append, List.append_assoc]
  simp [h]
theorem flagsU_no (fl : Int) (k : Nat) (h : bits .and .i64 fl (2 ^ k) = 0) : flagsU fl (k + 1) = flagsU fl k := by
  unfold flagsU
  rw [List.range_succ, List.filterMap_append]
  simp [h]
theorem flagsU_len (fl : Int) (k : Nat) : (flagsU fl k).length ≤ k + 1 := by
  unfold flagsU
  have := List.length_filterMap_le (fun i => if bits .and .i64 fl (2 ^ i) ≠ 0 then some [codesT.getD i 0] else none) (List.range k)
  simp at this ⊢
  omega
theorem flagsU_end (fl : Int) : flagsU fl 9 = [[0]] ++ flagsF fl := rfl
theorem out_one (w : World) (base : Nat) (hb : base ≤ w.heap.size) (e1 e0 : TypeId) (x : Int) :
    OutLL ((w.alloc (.cells #[.int .i64 x] e0)).alloc (.cells #[.slice (some ⟨w.heap.size, 0, none⟩) 1 1] e1)) base e1 (.slice (some ⟨w.heap.size + 1, 0, none⟩) 1 1) [[x]] [.slice (some ⟨w.heap.size, 0, none⟩) 1 1] := by
  have h2 := World.ownsRow_lit (base := base) (e := e1) (size := 1) (w.alloc (.cells #[.int .i64 x] e0)) #[.slice (some ⟨w.heap.size, 0, none⟩) 1 1] 1 (by simp; omega) (by unfold maxLen; omega) rfl
  have hs : (w.alloc (.cells #[.int .i64 x] e0)).heap.size = w.heap.size + 1 := by simp
  rw [hs] at h2
  refine ⟨h2, fun i hi => ?_⟩
  obtain rfl : i = 0 := by simp at hi; omega
  exact ⟨_, rfl, in1_new (q := [x]) (bk_alloc (heap_alloc_new w _) _) hb, fun g hg => by simp [Value.ownBlock] at hg ⊢; omega⟩
theorem OutLL.drewN {w : World} {base : Nat} {e1 : TypeId} {v : Value} {L : List (List Int)} {vs : List Value} (h : OutLL w base e1 v L vs) (n : Nat) : OutLL (w.drewN n) base e1 v L vs := h.past (below_drewN (Below.refl _ _) n) (Nat.le_refl _)
theorem OutLL.push1 {w w' : World} {base n g cap : Nat} {e1 e0 : TypeId} {v : Value} {L : List (List Int)} {vs : List Value} (h : OutLL w base e1 v L vs) (x : Int) (hb : base ≤ w.heap.size)
    (hv : w'.ownsRow base e1 1 (.slice (some ⟨g, 0, none⟩) (n + 1) cap) (n + 1) (vs ++ [.slice (some ⟨w.heap.size, 0, none⟩) 1 1])) (hn : n = L.length)
    (hg : ((w.alloc (.cells #[.int .i64 x] e0)).alloc (.cells #[.slice (some ⟨w.heap.size, 0, none⟩) 1 1] e1)).grownBy w' v.ownBlock) (hl : v.ownBlock = some g ∨ g = w.heap.size + 1 + 1) :
    OutLL w' base e1 (.slice (some ⟨g, 0, none⟩) (n + 1) cap) (L ++ [[x]]) (vs ++ [.slice (some ⟨w.heap.size, 0, none⟩) 1 1]) := by
  subst hn
  refine ((h.alloc _).alloc _).cat (M := [[x]]) (fun i hi => ?_) hg hv (fun k hk => ?_)
  · obtain rfl : i = 0 := by simp at hi; omega
    refine ⟨_, rfl, in1_new (q := [x]) (bk_alloc (heap_alloc_new w _) _) hb, fun g2 hg2 e => ?_⟩
    simp only [Value.ownBlock, Option.some.injEq] at e
    have := own_lt h.outer g2 hg2
    omega
  · simp only [Value.ownBlock, Option.some.injEq] at hk
    rcases hl with hl | hl
    · exact .inl (by rw [hl, hk])
    · exact .inr (by simp; omega)
theorem shown_len (c b : Int) : (shownF c b).length ≤ 5 := by
  unfold shownF
  split
  · simp
  split
  · simp
  split
  · simp
  split <;> simp
theorem in1_one {w : World} {lo : Nat} {us : List Value} {M : List (List Int)} (hl : us.length = M.length) (h : ∀ i (h : i < M.length), ∃ u, us[i]? = some u ∧ In1 w lo u M[i]) : ∀ u ∈ us, u.oneCell' = true := by
  intro u hu
  obtain ⟨i, hi, rfl⟩ := List.getElem_of_mem hu
  obtain ⟨u', h1, g, c, rfl, _⟩ := h i (by omega)
  rw [List.getElem?_eq_getElem hi] at h1
  injection h1 with h1
  rw [h1]
  rfl
def codesV : Array Value := (nC codesT).toArray
theorem idx_codes : (k : Nat) → (hk : k < 9) → ∀ w : World, (Instr.index 107 (.agg codesV) (.int .i64 (k : Nat))).run Tryd.prog w = .ok (.int .i64 (codesT.getD k 0)) w
  | 0, _ => fun _ => by kernel_rfl
  | 1, _ => fun _ => by kernel_rfl
  | 2, _ => fun _ => by kernel_rfl
  | 3, _ => fun _ => by kernel_rfl
  | 4, _ => fun _ => by kernel_rfl
  | 5, _ => fun _ => by kernel_rfl
  | 6, _ => fun _ => by kernel_rfl
  | 7, _ => fun _ => by kernel_rfl
  | 8, _ => fun _ => by kernel_rfl
  | n + 9, h => absurd h (by omega)
theorem info_codes : (Tryd.prog.info? 107).map (·.size) = some codesV.size := by kernel_rfl

set_option maxRecDepth 100000 in
set_option maxHeartbeats 1600000 in
theorem print_bad (p : Pn) (w : World) (hs : sanePn p = false) :
    Calls Tryd.prog 31 #[.agg #[.int .i64 p.fg, .int .i64 p.bg, .int .i64 p.fl]] w (LLRet w (printF p)) := by
  have ha : printF p = [] := by unfold printF; rw [if_pos hs]
  rw [ha]
  have HS := Lib.hid (sane7_any p)
  have HE := Lib.hid hs
  clear hs ha
  go_enter Tryd.func31, Tryd.ntmps31
  go_wp2_with (go_at_call 30; refine (HS.out _).mono ?_; rintro e w1 ⟨rfl, hb1⟩; simp only [HE.out])
  go_ret
  exact ⟨none, 0, rfl, RdLL.nil _ _ _, ((Below.refl _ _).alloc (Nat.le_refl _) _).trans (hb1.mono (by simp))⟩
set_option maxRecDepth 100000 in
set_option maxHeartbeats 1600000 in
theorem print_ok (p : Pn) (w : World) (hs : sanePn p = true) (hT : TabP w) :
    Calls Tryd.prog 31 #[.agg #[.int .i64 p.fg, .int .i64 p.bg, .int .i64 p.fl]] w (LLRet w (printF p)) := by
  have ha : printF p = flagsU p.fl 9 ++ shownF p.fg 30 ++ shownF p.bg 40 := by unfold printF; rw [if_neg (by rw [hs]; simp), flagsU_end]
  have hn0 : PenAt (w.alloc (.cells #[.int .i64 p.fg, .int .i64 p.bg, .int .i64 p.fl] 40)) w.heap.size p := heap_alloc_new w _
  have HT := Lib.hid (hT.alloc (.cells #[.int .i64 p.fg, .int .i64 p.bg, .int .i64 p.fl] 40))
  have HN := Lib.hid hn0
  have HA := Lib.hid ha
  have HS := Lib.hid (sane7_any p)
  have HE := Lib.hid hs
  obtain ⟨fg, bg, fl⟩ := p
  clear hs ha hT hn0
  go_enter Tryd.func31, Tryd.ntmps31
  go_upto_region 3 with (go_at_call 30; refine (HS.out _).mono ?_; rintro e w1 ⟨rfl, hb1⟩; simp only [HE.out]; have hp1 := Lib.hid (HN.out.past hb1); have HT1 := Lib.hid (HT.out.below hb1); have HB1 := Lib.hid (((Below.refl _ _).alloc (Nat.le_refl w.heap.size) _).trans (hb1.mono (by simp))); have hsz := Lib.hid hb1.size; clear hb1)
  go_upto_region 4 with (fail)
  have hw : w.heap.size < w1.heap.size := by have := hsz.out; simp at this; omega
  have ho1 := out_one w1 (w.heap.size + 1) (by omega) 47 3 0
  have HO1 := Lib.hid ho1
  have HP1 : Hid (PenAt ((w1.alloc (.cells #[.int .i64 0] 3)).alloc (.cells #[.slice (some ⟨w1.heap.size, 0, none⟩) 1 1] 47)) w.heap.size ⟨fg, bg, fl⟩) := Lib.hid (bk_alloc (bk_alloc hp1.out _) _)
  have HB2 : Hid (Below w.heap.size w ((w1.alloc (.cells #[.int .i64 0] 3)).alloc (.cells #[.slice (some ⟨w1.heap.size, 0, none⟩) 1 1] 47))) := Lib.hid ((HB1.out.alloc HB1.out.size _).alloc (by simp; omega) _)
  obtain ⟨tt, fr, hg⟩ := ((HT1.out.alloc (.cells #[.int .i64 0] 3)).alloc (.cells #[.slice (some ⟨w1.heap.size, 0, none⟩) 1 1] 47)).codes
  have hsz2 : w.heap.size < ((w1.alloc (.cells #[.int .i64 0] 3)).alloc (.cells #[.slice (some ⟨w1.heap.size, 0, none⟩) 1 1] 47)).heap.size := by simp; omega
  clear ho1 hsz hp1 HB1 HN HT HT1
  generalize hW : ((w1.alloc (.cells #[.int .i64 0] 3)).alloc (.cells #[.slice (some ⟨w1.heap.size, 0, none⟩) 1 1] 47)) = W0 at *
  clear hW
  go_step
  refine wpList_load_row (by rfl) 107 (.global 1) (by rfl) 1 (by rfl) tt codesV fr _ hg Tryd.underlying107 rfl info_codes ?_
  clear hg
  go_wp2
  go_loopw [3, 12] (fun s i wr => ∃ (k n : Nat) (A1 : Option Addr) (c1 : Nat) (vs : List Value), k ≤ 9 ∧ i = .int .i64 k ∧ s = .slice A1 n c1 ∧ n = (flagsU fl k).length ∧ OutLL wr (w.heap.size + 1) 47 (.slice A1 n c1) (flagsU fl k) vs ∧ PenAt wr w.heap.size ⟨fg, bg, fl⟩ ∧ Below w.heap.size w wr ∧ w.heap.size < wr.heap.size) (fun _ i _ => 9 - (intOf i).toNat)
  case atStart => exact ⟨0, 1, _, _, _, by omega, rfl, rfl, rfl, HO1.out, HP1.out, HB2.out, hsz2⟩
  case round =>
    obtain ⟨k, n, A1, c1, vs, hk, rfl, rfl, hn, hO, hP, hB, hz⟩ := hrel
    have HO := Lib.hid hO; have HP := Lib.hid hP; have HB := Lib.hid hB
    have hn10 : n ≤ 10 := by have := flagsU_len fl k; omega
    have HNL := Lib.hid hn
    obtain ⟨a0, a1, a2, g0, g1, g2⟩ := HP.out.cells
    simp only at a0 a1 a2
    clear hO hP hB HO1 HP1 HB2 hn
    by_cases hlt : k < 9
    · have hix := idx_codes k hlt
      by_cases hbit : bits .and .i64 fl (2 ^ k) = 0
      · have hfu := Lib.hid (flagsU_no fl k hbit)
        have hb2 : (bits .and .i64 fl (2 ^ k) != 0) = false := by rw [hbit]; rfl
        clear hbit
        have hpw := pow_ok k hlt
        rw [← hpw] at hb2
        have HPW := Lib.hid hpw
        clear hpw
        go_wp2
        go_quiet (fail)
        go_wp2
        go_roundw
        case rel => exact ⟨k + 1, n, A1, c1, vs, by omega, by go_num, rfl, by rw [hfu.out]; exact HNL.out, by rw [hfu.out]; exact HO.out.drewN nq, HP.out.drewN nq, below_drewN HB.out nq, hz⟩
        case measure => simp [intOf]; omega
      · have hfu := Lib.hid (flagsU_yes fl k hbit)
        have hb2 : (bits .and .i64 fl (2 ^ k) != 0) = true := bne_iff_ne.2 hbit
        clear hbit
        have hpw := pow_ok k hlt
        rw [← hpw] at hb2
        have HPW := Lib.hid hpw
        clear hpw
        obtain ⟨cd, hcd⟩ : ∃ cd, codesT.getD k 0 = cd := ⟨_, rfl⟩
        rw [hcd] at hix
        have HCD := Lib.hid hcd
        clear hcd
        have hov : wr.ownsRow (w.heap.size + 1) 47 1 (.slice A1 n c1) n vs := by
          have h := HO.out.outer
          rw [← HNL.out] at h
          exact h
        have HOV := Lib.hid hov
        clear hov
        go_wp2
        go_quiet (fail)
        go_wp2_with (at_builtin; go_loud (refine wpList_push (by rfl) (.tmp 22) (.tmp 25) 42 el_row (by rfl) (w.heap.size + 1) _ n vs (by rfl) (((own_drewN HOV.out nq).alloc _).alloc _) (wr.heap.size + 1) 1 [.slice (some ⟨wr.heap.size, 0, none⟩) 1 1] (by rfl) (heap_new_at (by simp)) rfl (by simp [Value.oneCell']) (by unfold maxLen; omega) (by omega) (by simp; omega) (wr.heap.size + 1 + 1) (by simp) ?_); intro g5 cap5 w5 ho5 hg5 hl5; have HO5 := Lib.hid ho5; have HG5 := Lib.hid hg5; have HL5 := Lib.hid hl5; clear ho5 hg5 hl5)
        go_roundw
        case rel =>
          have q := (HO.out.drewN nq).push1 cd (by simp; omega) HO5.out HNL.out HG5.out HL5.out
          refine ⟨k + 1, n + 1, some ⟨g5, 0, none⟩, cap5, _, by omega, by go_num, rfl, by rw [hfu.out, HNL.out]; simp, by rw [hfu.out, HCD.out]; exact q, ?_, ?_, ?_⟩
          · exact bk_grown (bk_alloc (bk_alloc (HP.out.drewN nq) _) _) HG5.out (fun e => by have := own_ge HOV.out _ e; omega)
          · exact (((below_drewN HB.out nq).alloc (by simp; omega) _).alloc (by simp; omega) _).trans (below_of_grown HG5.out (by simp; omega) (fun g e => by have := own_ge HOV.out _ e; omega))
          · have := HG5.out.size; simp at this; omega
        case measure => simp [intOf]; omega
    · obtain rfl : k = 9 := by omega
      have hov : wr.ownsRow (w.heap.size + 1) 47 1 (.slice A1 n c1) n vs := by
        have h := HO.out.outer
        rw [← HNL.out] at h
        exact h
      have HOV := Lib.hid hov
      have l30 := shown_len fg 30
      have l40 := shown_len bg 40
      obtain ⟨M, hM⟩ : ∃ M, shownF fg 30 = M := ⟨_, rfl⟩
      obtain ⟨M2, hM2⟩ : ∃ M2, shownF bg 40 = M2 := ⟨_, rfl⟩
      rw [hM] at l30
      rw [hM2] at l40
      have HM := Lib.hid hM; have HM2 := Lib.hid hM2
      clear hov hM hM2
      go_wp2_with fail
      refine (shown_any fg 30 _ (by omega) (by omega)).mono ?_
      rintro e w2 ⟨A2, c2, us, rfl, hc2, hr2, hul, hin2, hb2⟩
      have H2 := Lib.hid (show NewLL wr (shownF fg 30) (.returned (.slice A2 (shownF fg 30).length c2)) w2 from ⟨A2, c2, us, rfl, hc2, hr2, hul, hin2, hb2⟩)
      clear H2
      rw [HM.out] at hin2 hul hc2
      simp only [HM.out]
      have hone := in1_one hul hin2
      have HR2 := Lib.hid hr2; have HI2 := Lib.hid hin2; have HB2 := Lib.hid hb2; have HU2 := Lib.hid hul; have H1 := Lib.hid hone
      have hp2 := HP.out.past hb2
      obtain ⟨b0, b1, b2, _⟩ := hp2.cells
      simp only at b0 b1 b2
      have HP2 := Lib.hid hp2
      have hz2 := hb2.size
      clear hr2 hin2 hb2 hul hp2 hone
      go_wp2_with (at_builtin; go_loud (refine wpList_cat (by rfl) (.tmp 28) (.tmp 31) 42 el_row (by rfl) (w.heap.size + 1) _ n vs (by rfl) (own_past HOV.out HB2.out) w2.heap.size A2 M.length c2 us (by rfl) HR2.out (by rw [HU2.out]; omega) H1.out (by unfold maxLen; omega) (by omega) (by omega) ?_); intro A3 c3 w3 ho3 hg3 hl3; refine Hid.out ?_)
      refine Lib.hid ?_
      have hO3 := (HO.out.past HB2.out (Nat.le_refl _)).cat (w' := w3) (v' := .slice A3 (n + M.length) c3) (M := M) (us := us) (fun i hi => by
        obtain ⟨u, k1, k2⟩ := HI2.out i hi
        exact ⟨u, k1, k2.less (by omega), in1_apart k2 (own_lt HOV.out)⟩) hg3 (by rw [← HNL.out]; exact ho3) hl3
      have hp3 : PenAt w3 w.heap.size ⟨fg, bg, fl⟩ := bk_grown HP2.out hg3 (fun e => by have := own_ge HOV.out _ e; omega)
      have hB3 : Below w.heap.size w w3 := (HB.out.trans (HB2.out.mono (by omega))).trans (below_of_grown hg3 (by omega) (fun g e => by have := own_ge HOV.out _ e; omega))
      have hz3 := hg3.size
      obtain ⟨d0, d1, d2, _⟩ := hp3.cells
      simp only at d0 d1 d2
      have HO3 := Lib.hid hO3; have HOV3 := Lib.hid ho3; have HP3 := Lib.hid hp3; have HB3 := Lib.hid hB3
      clear hO3 ho3 hp3 hB3 hg3 hl3
      go_wp2_with fail
      refine (shown_any bg 40 _ (by omega) (by omega)).mono ?_
      rintro e w4 ⟨A4, c4, us4, rfl, hc4, hr4, hul4, hin4, hb4⟩
      rw [HM2.out] at hin4 hul4 hc4
      simp only [HM2.out]
      have hone4 := in1_one hul4 hin4
      have HR4 := Lib.hid hr4; have HI4 := Lib.hid hin4; have HB4 := Lib.hid hb4; have HU4 := Lib.hid hul4; have H14 := Lib.hid hone4
      have hz4 := hb4.size
      clear hr4 hin4 hb4 hul4 hone4
      go_wp2_with (at_builtin; go_loud (refine wpList_cat (by rfl) (.tmp 33) (.tmp 36) 42 el_row (by rfl) (w.heap.size + 1) _ (n + M.length) (vs ++ us) (by rfl) (own_past HOV3.out HB4.out) w4.heap.size A4 M2.length c4 us4 (by rfl) HR4.out (by rw [HU4.out]; omega) H14.out (by unfold maxLen; omega) (by omega) (by omega) ?_); intro A5 c5 w5 ho5 hg5 hl5; refine Hid.out ?_)
      refine Lib.hid ?_
      have hO5 := (HO3.out.past HB4.out (Nat.le_refl _)).cat (w' := w5) (v' := .slice A5 (n + M.length + M2.length) c5) (M := M2) (us := us4) (fun i hi => by
        obtain ⟨u, k1, k2⟩ := HI4.out i hi
        exact ⟨u, k1, k2.less (by omega), in1_apart k2 (own_lt HOV3.out)⟩) hg5 (by rw [List.length_append, ← HNL.out]; exact ho5) hl5
      have hB5 : Below w.heap.size w w5 := (HB3.out.trans (HB4.out.mono (by omega))).trans (below_of_grown hg5 (by omega) (fun g e => by have := own_ge HOV3.out _ e; omega))
      have HO5 := Lib.hid hO5; have HB5 := Lib.hid hB5
      clear hO5 hB5 ho5 hg5 hl5
      go_wp2
      go_ret
      have hlen : n + M.length + M2.length = (flagsU fl 9 ++ M ++ M2).length := by rw [List.length_append, List.length_append, ← HNL.out]
      have hr := HO5.out.rd.less (lo' := w.heap.size) (by omega)
      rw [hlen] at hr
      exact ⟨A5, c5, by rw [HA.out, HM.out, HM2.out, ← hlen]; rfl, by rw [HA.out, HM.out, HM2.out]; exact hr, HB5.out⟩
end Go.Proofs.YtcempbgbdlmjfaaDoor
