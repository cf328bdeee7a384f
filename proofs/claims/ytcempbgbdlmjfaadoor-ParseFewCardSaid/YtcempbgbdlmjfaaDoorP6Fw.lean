/-
  lapwinglaw06.ParseFew: the walk: for any letters it answers true. No condition.
-/
import Derived.Test.YtcempbgbdlmjfaaDoorP6Nw
namespace Go.Proofs.YtcempbgbdlmjfaaDoor
open Go.RowKit

set_option maxRecDepth 100000 in
set_option maxHeartbeats 6400000 in
theorem pfew_walk (ls : List Int) (Al : Option Addr) (cl : Nat) (w : World) (hr : Rd w w.heap.size Al (nC ls)) (hz : ls.length < 9223372036854775808) (hT : TabI w) : Calls Tryd.prog 18 #[.slice Al ls.length cl] w fun e w' => e = .returned (.bool true) ∧ Below w.heap.size w w' := by
  have HT := Lib.hid hT; have HR := Lib.hid hr
  clear hT hr
  by_cases h1000 : 1000 < ls.length
  · go_enter Tryd.func18, Tryd.ntmps18
    go_wp2_with fail
    refine (awake6_any _ HT.out).mono ?_
    rintro e w1 ⟨rfl, hb⟩
    have HB := Lib.hid hb
    clear hb
    go_wp2_with fail
    go_ret
    exact ⟨rfl, HB.out⟩
  clear hz
  go_enter Tryd.func18, Tryd.ntmps18
  go_wp2_with fail
  refine (awake6_any _ HT.out).mono ?_
  rintro e w1 ⟨rfl, hb⟩
  have HR1 := Lib.hid (HR.out.next hb); have HB1 := Lib.hid hb
  have hs0 : SAt (w1.alloc (.cells #[.int .i64 0, .string ⟨#[]⟩, .bool false, .slice none 0 0, .bool false, .string ⟨#[]⟩, .int .u8 0] 82)) w1.heap.size sv0 := heap_alloc_new w1 _
  have HS0 := Lib.hid hs0
  clear hb HR hs0
  go_wp2_with fail
  go_loopw [5, 6] (fun n i wr => ∃ (k m : Nat) (vr : Sv), k ≤ ls.length ∧ i = .int .i64 k ∧ n = .int .i64 m ∧ m ≤ 2 * k ∧ saneS vr.s = true ∧ SAt wr w1.heap.size vr ∧ vr.Tx ∧ RdLL wr (w1.heap.size + 1) wr.heap.size (.slice vr.A vr.s.l.length vr.c) vr.s.l ∧ Below w1.heap.size w1 wr) (fun _ i _ => ls.length - (intOf i).toNat)
  case atStart => exact ⟨0, 0, sv0, Nat.zero_le _, rfl, rfl, Nat.zero_le _, st0_sane, HS0.out, sv0_tx, RdLL.nil _ _ _, (Below.refl _ _).alloc (Nat.le_refl _) _⟩
  case round =>
    obtain ⟨k, m, ⟨⟨a1, inter1, ov1, l1, o1, text1, k1⟩, ib1, tb1, A1, c1⟩, hk, rfl, rfl, hm, hsn, hsat, htx, hrd, hbr⟩ := hrel
    obtain ⟨e0, e1, e2, e3, e4, e5, e6, g0, g1, g2, g3, g4, g5, g6⟩ := hsat.cells
    simp only at e0 e1 e2 e3 e4 e5 e6 hrd
    have hz1 : w1.heap.size < wr.heap.size := bk_lt hsat
    have hok : Sv.Ok ⟨⟨a1, inter1, ov1, l1, o1, text1, k1⟩, ib1, tb1, A1, c1⟩ wr := ⟨htx, hrd.less (Nat.zero_le _)⟩
    have SAT := Lib.hid hsat; have TX := Lib.hid htx; have RD := Lib.hid hrd; have BR := Lib.hid hbr; have SN := Lib.hid hsn; have OK := Lib.hid hok
    clear hsat htx hrd hsn hok
    by_cases hlt : k < ls.length
    · obtain ⟨b, off, hA, hbB, hc⟩ := HR1.out (by rw [nC_len]; omega)
      subst hA
      have hcx := past_B hbr (p := ⟨b, off + k, none⟩) hbB (hc k (by rw [nC_len]; omega))
      obtain ⟨x, hx⟩ : ∃ x, ls[k] = x := ⟨_, rfl⟩
      have hxx : (nC ls)[k]'(by rw [nC_len]; omega) = .int .i64 x := by rw [← hx]; simp [nC]
      rw [hxx] at hcx
      have i0 : (0 : Int) ≤ (k : Int) := by omega
      have i1 : (k : Int) < (ls.length : Int) := by omega
      have hbb : b < wr.heap.size := by have := hbr.size; omega
      obtain ⟨⟨s', L⟩, hst⟩ : ∃ p, stepS ⟨a1, inter1, ov1, l1, o1, text1, k1⟩ x = p := ⟨_, rfl⟩
      obtain ⟨fw2, fw7⟩ := step_few _ x SN.out
      have hsn2 := stepS_sane ⟨a1, inter1, ov1, l1, o1, text1, k1⟩ x
      rw [hst] at fw2 fw7 hsn2
      simp only at fw2 fw7 hsn2
      obtain ⟨q, hq⟩ : ∃ q, L.length = q := ⟨_, rfl⟩
      have hq2 := fw2.len
      rw [hq] at hq2 fw7
      have hstep : ∀ W : World, Sv.Ok ⟨⟨a1, inter1, ov1, l1, o1, text1, k1⟩, ib1, tb1, A1, c1⟩ W → Calls Tryd.prog 58 #[.agg #[.int .i64 a1, .string ib1, .bool ov1, .slice A1 l1.length c1, .bool o1, .string tb1, .int .u8 k1], .int .i64 x] W fun e w' => ∃ (a2 : Int) (inter2 : List Int) (ov2 : Bool) (l2 : List (List Int)) (o2 : Bool) (text2 : List Int) (k2 : Int) (ib2 tb2 : ByteArray) (A2 : Option Addr) (c2 : Nat) (Ac : Option Addr) (cA : Nat) (vs : List Av), ⟨a2, inter2, ov2, l2, o2, text2, k2⟩ = s' ∧ e = .returned (.tuple #[.agg #[.int .i64 a2, .string ib2, .bool ov2, .slice A2 l2.length c2, .bool o2, .string tb2, .int .u8 k2], .slice Ac q cA]) ∧ Sv.Tx ⟨⟨a2, inter2, ov2, l2, o2, text2, k2⟩, ib2, tb2, A2, c2⟩ ∧
          ParOk ⟨⟨a1, inter1, ov1, l1, o1, text1, k1⟩, ib1, tb1, A1, c1⟩ W.heap.size w' A2 c2 l2 ∧ Acts ⟨⟨a1, inter1, ov1, l1, o1, text1, k1⟩, ib1, tb1, A1, c1⟩ W.heap.size w' Ac L vs ∧ Below W.heap.size W w' := fun W hW => by
        have hi := ((saneS_iff _).1 SN.out).2.1
        have ht := ((saneS_iff _).1 SN.out).2.2.1
        simp only at hi ht
        refine (step_any ⟨⟨a1, inter1, ov1, l1, o1, text1, k1⟩, ib1, tb1, A1, c1⟩ x W hW (by simp only; omega) (by simp only; omega)).mono fun e w' hret => ?_
        rw [hst] at hret
        obtain ⟨a2, inter2, ov2, l2, o2, text2, k2, ib2, tb2, A2, c2, Ac, cA, vs, h1, h2, h3, h4, h5, _, h7⟩ := hret.open
        rw [hq] at h2
        exact ⟨a2, inter2, ov2, l2, o2, text2, k2, ib2, tb2, A2, c2, Ac, cA, vs, h1, h2, h3, h4, h5, h7⟩
      have STEP := Lib.hid hstep; have FW2 := Lib.hid fw2; have FW7 := Lib.hid fw7; have SN2 := Lib.hid hsn2; have HQ := Lib.hid hq
      have SZ : Hid (SAt (wr.alloc (.cells #[.int .i64 0, .string ⟨#[]⟩, .bool false, .slice none 0 0, .bool false, .string ⟨#[]⟩, .int .u8 0] 82)) wr.heap.size sv0) := Lib.hid (heap_alloc_new wr _)
      clear hstep fw2 fw7 hsn2 hq hst hx hxx hc
      go_wp2_with fail
      go_upto_region 9 with (fail)
      go_cut [7, 8] (fun s7 s8 wx => StNew ⟨⟨a1, inter1, ov1, l1, o1, text1, k1⟩, ib1, tb1, A1, c1⟩ wr wx s7 s8 s' L q)
      case first =>
        go_region_with (go_at_call 58; refine (STEP.out _ (OK.out.next (by first | exact (Below.refl _ _).drew | exact ((Below.refl _ _).alloc (Nat.le_refl _) _).drew))).mono ?_; rintro e w4 ⟨a2, inter2, ov2, l2, o2, text2, k2, ib2, tb2, A2, c2, Ac, cA, vs, hs4, rfl, htx4, hp4, ha4, hb4⟩; (try (have hz4 := SAt.past (w := (wr.alloc (.cells #[.int .i64 0, .string ⟨#[]⟩, .bool false, .slice none 0 0, .bool false, .string ⟨#[]⟩, .int .u8 0] 82)).drew) SZ.out hb4; obtain ⟨j0, j1, j2, j3, j4, j5, j6, f0, f1, f2, f3, f4, f5, f6⟩ := hz4.cells; simp only [sv0, st0] at j0 j1 j2 j3 j4 j5 j6; clear hz4)); have HS4 := Lib.hid hs4; have HTX4 := Lib.hid htx4; first | (with_reducible have HP4a : Hid (ParOk ⟨⟨a1, inter1, ov1, l1, o1, text1, k1⟩, ib1, tb1, A1, c1⟩ wr.drew.heap.size w4 A2 c2 l2) := Lib.hid hp4; have HA4 := Lib.hid ha4; have HB4 := Lib.hid hb4; clear hs4 htx4 hp4 ha4 hb4) | (have HP4b := Lib.hid hp4; have HA4 := Lib.hid ha4; have HB4 := Lib.hid hb4; clear hs4 htx4 hp4 ha4 hb4))
        all_goals go_wp2_with fail
        all_goals go_meet
        all_goals first
          | (have hf := HP4a.out; exact stn_1 (t := ⟨⟨a2, inter2, ov2, l2, o2, text2, k2⟩, ib2, tb2, A2, c2⟩) HB4.out HS4.out HTX4.out hf HA4.out)
          | (have hf := HP4b.out; exact stn_2 (t := ⟨⟨a2, inter2, ov2, l2, o2, text2, k2⟩, ib2, tb2, A2, c2⟩) HB4.out HS4.out HTX4.out hf HA4.out)
      case rest =>
      obtain ⟨⟨⟨a2, inter2, ov2, l2, o2, text2, k2⟩, ib2, tb2, A2, c2⟩, g, cA, Ac, vs, rfl, rfl, ht2, hs2, htx2, hp2, ha2, hg2, hb2⟩ := hcut
      have hsat4 := SAT.out.past hb2
      obtain ⟨e0, e1, e2, e3, e4, e5, e6, g0, g1, g2, g3, g4, g5, g6⟩ := hsat4.cells
      simp only at e0 e1 e2 e3 e4 e5 e6
      obtain ⟨c0, c1', c2', c3, c4, c5, c6, _⟩ := ht2.cells
      simp only at c0 c1' c2' c3 c4 c5 c6
      have hzc := hb2.size
      have hgl : g < wc.heap.size := bk_lt ht2
      have hor : (((q : Int) == 2) = true ∧ decide (a1 < 7) = false) ∨ ((q : Int) == 2) = false := by
        by_cases h2 : q = 2
        · refine .inl ⟨beq_iff_eq.2 (by omega), ?_⟩
          have := FW7.out
          simp
          omega
        · exact .inr (beq_eq_false_iff_ne.2 (by omega))
      have hvl : vs.length = q := by rw [ha2.len, HQ.out]
      have hax : ∀ j (hj : j < vs.length), AxOk (vs[j]'hj).x := fun j hj => FW2.out.ok _ (by rw [← ha2.map]; exact List.mem_map_of_mem (List.getElem_mem hj))
      have HA2 := Lib.hid ha2; have P2 := Lib.hid hp2; have TX2 := Lib.hid htx2; have HS2 := Lib.hid hs2; have B2 := Lib.hid hb2; have VL := Lib.hid hvl; have AX := Lib.hid hax; have S4 := Lib.hid hsat4
      have hn4 : saneS (⟨⟨a2, inter2, ov2, l2, o2, text2, k2⟩, ib2, tb2, A2, c2⟩ : Sv).s = true := by have h := SN2.out; rw [← HS2.out] at h; exact h
      obtain ⟨n1, n2, n3⟩ := few_next (t := ⟨⟨a2, inter2, ov2, l2, o2, text2, k2⟩, ib2, tb2, A2, c2⟩) hsat4 RD.out hb2 BR.out (Nat.le_refl _) hp2 hz1
      simp only [World.put7] at n1 n2 n3
      have N1 := Lib.hid n1; have N2 := Lib.hid n2; have N3 := Lib.hid n3; have N4 := Lib.hid hn4
      clear ha2 hp2 htx2 hs2 hb2 hvl hax hsat4 ht2 SAT STEP SZ FW7 FW2 n1 n2 n3 hn4
      have dq : decide (2 < (q : Int)) = false := by simp; omega
      have HQ2 := Lib.hid hq2; have HM2 := Lib.hid hm; have HK2 := Lib.hid hk; have HLT2 := Lib.hid hlt
      clear hq2 hm hk hlt hbr hg2
      rcases hor with ⟨z1, z2⟩ | z1
      all_goals
        go_wp2_with fail
        go_loopw [9] (fun i wx => ∃ j : Nat, j ≤ q ∧ i = .int .i64 j ∧ wx = wc) (fun i _ => q - (intOf i).toNat)
        case atStart => exact ⟨0, Nat.zero_le _, rfl, rfl⟩
        case round =>
          obtain ⟨j, hj, rfl, rfl⟩ := hrel
          by_cases hjt : j < q
          · have hjv : j < vs.length := by have := VL.out; omega
            obtain ⟨b2, off2, hA2, hbb2, y0, y1, y2, y3, y4, y5⟩ := av_at HA2.out.rd j hjv
            subst hA2
            obtain ⟨w0, w7⟩ := (AX.out j hjv).w
            have at_ := (AX.out j hjv).t
            have ai_ := (AX.out j hjv).i
            have ap_ := (AX.out j hjv).p
            obtain ⟨tx, hrst⟩ := HA2.out.ok _ (List.getElem_mem hjv)
            have li : (vs[j]'hjv).ib.size = (vs[j]'hjv).x.inter.length := by have h := tx.ib; rw [ba_size2, h]
            have lt : (vs[j]'hjv).tb.size = (vs[j]'hjv).x.text.length := by have h := tx.tb; rw [ba_size2, h]
            obtain ⟨⟨⟨wh, rr, fn, inter, par, text⟩, ibx, tbx, Ax, cx⟩, hvj⟩ : ∃ z, vs[j] = z := ⟨_, rfl⟩
            rw [hvj] at y0 y3 y4 y5 w0 w7 at_ ai_ ap_ li lt
            simp only at y0 y3 y4 y5 w0 w7 at_ ai_ ap_ li lt
            have j0 : (0 : Int) ≤ (j : Int) := by omega
            have j1 : (j : Int) < (q : Int) := by omega
            have d1 : decide (wh < 1) = false := by simp; omega
            have d2 : decide (7 < wh) = false := by simp; omega
            have d3 : decide (1024 < (tbx.size : Int)) = false := by simp; omega
            have d4 : decide (2 < (ibx.size : Int)) = false := by simp; omega
            have d5 : decide (16 < (par.length : Int)) = false := by simp; omega
            have HJ := Lib.hid hjt; have HQ3 := HQ2.out; have hjq : j ≤ 2 := by omega
            clear tx hrst hvj y1 y2 w0 w7 at_ ai_ ap_ li lt hjv hjt hj HQ3
            go_wp2_with fail
            go_roundw
            case rel => exact ⟨j + 1, by have := HJ.out; omega, by go_num, trivial⟩
            case measure => have := HJ.out; simp [intOf]; omega
          · obtain rfl : j = q := by omega
            have dj : decide ((j : Int) < (j : Int)) = false := by simp
            have bj := HQ2.out; have bm := HM2.out; have bk := HK2.out; have bl := HLT2.out
            have bl2 : ls.length ≤ 1000 := by omega
            go_wp2_with fail
            go_roundw
            case rel => exact ⟨k + 1, m + j, ⟨⟨a2, inter2, ov2, l2, o2, text2, k2⟩, ib2, tb2, A2, c2⟩, by omega, by go_num, by go_num, by omega, N4.out, N1.out, TX2.out, N2.out, N3.out⟩
            case measure => simp [intOf]; omega
    · obtain rfl : k = ls.length := by omega
      go_wp2_with fail
      refine (sane6_any ⟨⟨a1, inter1, ov1, l1, o1, text1, k1⟩, ib1, tb1, A1, c1⟩ _ OK.out (by have := ((saneS_iff _).1 SN.out).2.1; simp only at this ⊢; omega) (by have := ((saneS_iff _).1 SN.out).2.2.1; simp only at this ⊢; omega)).mono ?_
      rintro e w4 ⟨rfl, hb4⟩
      simp only [SN.out]
      have HB4 := Lib.hid (HB1.out.trans ((BR.out.trans (hb4.mono (by omega))).mono HB1.out.size))
      clear hb4
      go_wp2_with fail
      go_ret
      exact ⟨rfl, HB4.out⟩
end Go.Proofs.YtcempbgbdlmjfaaDoor
