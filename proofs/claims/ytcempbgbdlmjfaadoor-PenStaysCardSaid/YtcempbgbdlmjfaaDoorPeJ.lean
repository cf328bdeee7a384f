/-
  pen: the walk of Apply.
-/
import Derived.Test.YtcempbgbdlmjfaaDoorPeI
namespace Go.Proofs.YtcempbgbdlmjfaaDoor
open Go.RowKit

set_option maxRecDepth 100000 in
set_option maxHeartbeats 1600000 in
theorem apply_bad (p : Pn) (L : List (List Int)) (A : Option Addr) (c : Nat) (w : World) (hb : sanePn p = false ∨ L = []) :
    Calls Tryd.prog 32 #[.agg #[.int .i64 p.fg, .int .i64 p.bg, .int .i64 p.fl], .slice A L.length c] w (PenRet w (applyF p L)) := by
  have ha : applyF p L = ⟨0, 0, 0⟩ := by unfold applyF; rw [if_pos hb]
  rw [ha]
  have hs := sane7_any p
  have HS := Lib.hid hs
  clear hs ha
  obtain ⟨s, hs⟩ : ∃ s, sanePn p = s := ⟨_, rfl⟩
  rw [hs] at hb
  have HE := Lib.hid hs
  clear hs
  obtain ⟨fg, bg, fl⟩ := p
  have hnew := Lib.hid (pens_new w ⟨fg, bg, fl⟩ ⟨0, 0, 0⟩)
  cases s with
  | false =>
    clear hb
    go_enter Tryd.func32, Tryd.ntmps32
    go_wp2_with (go_at_call 30; refine (HS.out _).mono ?_; rintro e w1 ⟨rfl, hb1⟩; simp only [HE.out]; have hp := Lib.hid (hnew.out.2.past hb1); obtain ⟨c0, c1, c2, f0, f1, f2⟩ := hp.out.cells; simp only at c0 c1 c2)
    have hq := (hp.out.put 0 0 0).cells
    obtain ⟨q0, q1, q2, _⟩ := hq
    exact bodyPost_ret (v := .agg #[.int .i64 0, .int .i64 0, .int .i64 0]) (by simp [results, Tryd.results32, go_sem, q0, q1, q2]) rfl ⟨rfl, ((((((Below.refl _ _).alloc (Nat.le_refl _) _).alloc (by simp) _).trans (hb1.mono (by simp; omega))).setCell (by simp) _).setCell (by simp) _).setCell (by simp) _⟩
  | true =>
    obtain rfl : L = [] := by rcases hb with hb | hb; cases hb; exact hb
    clear hb
    go_enter Tryd.func32, Tryd.ntmps32
    go_wp2_with (go_at_call 30; refine (HS.out _).mono ?_; rintro e w1 ⟨rfl, hb1⟩; simp only [HE.out]; have hp := Lib.hid (hnew.out.2.past hb1); obtain ⟨c0, c1, c2, f0, f1, f2⟩ := hp.out.cells; simp only at c0 c1 c2)
    have hq := (hp.out.put 0 0 0).cells
    obtain ⟨q0, q1, q2, _⟩ := hq
    exact bodyPost_ret (v := .agg #[.int .i64 0, .int .i64 0, .int .i64 0]) (by simp [results, Tryd.results32, go_sem, q0, q1, q2]) rfl ⟨rfl, ((((((Below.refl _ _).alloc (Nat.le_refl _) _).alloc (by simp) _).trans (hb1.mono (by simp; omega))).setCell (by simp) _).setCell (by simp) _).setCell (by simp) _⟩

set_option maxRecDepth 100000 in
set_option maxHeartbeats 3200000 in
theorem apply_ok {lo : Nat} (p : Pn) (L : List (List Int)) (A : Option Addr) (c : Nat) (w : World) (hr : RdLL w lo w.heap.size (.slice A L.length c) L) (hT : TabP w) (hs : sanePn p = true) (hL : L ≠ []) (hml : L.length ≤ maxLen) :
    Calls Tryd.prog 32 #[.agg #[.int .i64 p.fg, .int .i64 p.bg, .int .i64 p.fl], .slice A L.length c] w (PenRet w (applyF p L)) := by
  unfold maxLen at hml
  have hcap : L.length ≤ c := by
    obtain ⟨_, _, e, h⟩ := rdLL_form hr
    injection e with _ _ e
    omega
  have hlp : 0 < L.length := List.length_pos_iff.2 hL
  obtain ⟨b, off, _, _, rfl, hbB, _⟩ := hr.at 0 hlp
  have z0 : ((L.length : Int) == 0) = false := beq_eq_false_iff_ne.2 (by omega)
  obtain ⟨R, hR⟩ : ∃ R, apGo L.length p L = R := ⟨_, rfl⟩
  rw [ap_sane hs hL, hR]
  have HS := Lib.hid (sane7_any p); have HE := Lib.hid hs; have HR := Lib.hid hr; have HT := Lib.hid hT; have HG := Lib.hid hR
  clear hs hr hT hL hR
  obtain ⟨fg, bg, fl⟩ := p
  have hnew := Lib.hid (pens_new w ⟨fg, bg, fl⟩ ⟨0, 0, 0⟩)
  go_enter Tryd.func32, Tryd.ntmps32
  go_wp2_with (go_at_call 30; refine (HS.out _).mono ?_; rintro e w1 ⟨rfl, hb1⟩; simp only [HE.out]; have hp := Lib.hid hnew.out; have hb0 := Lib.hid ((((Below.refl w.heap.size w).alloc (Nat.le_refl _) _).alloc (by simp) _).trans (hb1.mono (by simp; omega))); have hp1 := Lib.hid (hnew.out.1.past hb1); have hp2 := Lib.hid (hnew.out.2.past hb1); have hsz := Lib.hid hb1.size; clear hb1 hp)
  go_loopw [5] (fun i wr => ∃ (k : Nat) (p' : Pn), k ≤ L.length ∧ i = .int .i64 k ∧ PenAt wr w.heap.size p' ∧ PenAt wr (w.heap.size + 1) ⟨0, 0, 0⟩ ∧ apGo L.length p' (L.drop k) = R ∧ Below w.heap.size w wr ∧ w.heap.size + 1 < wr.heap.size) (fun i _ => L.length - (intOf i).toNat)
  case atStart => exact ⟨0, ⟨fg, bg, fl⟩, Nat.zero_le _, rfl, hp1.out, hp2.out, HG.out, hb0.out, by have := hsz.out; simp at this; omega⟩
  case round =>
    obtain ⟨k, ⟨pf, pb, pl⟩, hk, rfl, hA1, hA2, hg, hb, hsz2⟩ := hrel
    obtain ⟨a0, a1, a2, g0, g1, g2⟩ := hA1.cells
    obtain ⟨d0, d1, d2, h0, h1, h2⟩ := hA2.cells
    simp only at a0 a1 a2 d0 d1 d2
    have HA1 := Lib.hid hA1; have HA2 := Lib.hid hA2; have HG2 := Lib.hid hg; have HB := Lib.hid hb
    clear hA1 hA2 hg hb hp1 hp2 hb0 hsz
    by_cases hlt : k < L.length
    · obtain ⟨b', off', Ai, ci, hab, _, hc, hci, hri⟩ := (HR.out.below HB.out (Nat.le_refl _)).at k hlt
      injection hab with hab
      injection hab with e1 e2
      subst e1; subst e2
      obtain ⟨q, hq⟩ : ∃ q, L[k] = q := ⟨_, rfl⟩
      rw [hq] at hc hci hri
      have hst := HG2.out
      rw [List.drop_eq_getElem_cons hlt, hq, go_step _ _ _ _ (by simp; omega)] at hst
      clear hq
      cases q with
      | nil =>
        rw [if_pos rfl] at hst
        have HST := Lib.hid hst
        clear hst hri
        go_wp2
        go_roundw
        case rel => exact ⟨k + 1, _, by omega, by go_num, HA1.out, HA2.out, HST.out, HB.out, hsz2⟩
        case measure => simp [intOf]; omega
      | cons n q' =>
        rw [if_neg (by simp), List.getD_cons_zero] at hst
        have hrd := hri.more (B' := wr.heap.size) HB.out.size
        obtain ⟨b2, off2, rfl, hb2, hc2⟩ := hri (by simp [nC])
        have hc3 := hc2 0 (by simp [nC])
        have e3 : (nC (n :: q'))[0]'(by simp [nC]) = .int .i64 n := rfl
        rw [e3, Nat.add_zero] at hc3
        have RD := Lib.hid hrd
        have HT2 := Lib.hid (HT.out.below HB.out)
        clear e3 hc2 hrd
        have z1 : (((q'.length : Int) + 1) == 0) = false := beq_eq_false_iff_ne.2 (by omega)
        by_cases hn : n ≠ 38 ∧ n ≠ 48
        · rw [if_pos hn] at hst
          have n1 : (n != 38) = true := bne_iff_ne.2 hn.1
          have n2 : (n != 48) = true := bne_iff_ne.2 hn.2
          obtain ⟨po, hpo⟩ : ∃ po, oneF ⟨pf, pb, pl⟩ (n :: q') = po := ⟨_, rfl⟩
          rw [hpo] at hst
          have HST := Lib.hid hst
          have HPO := Lib.hid hpo
          clear hst hpo hn
          obtain ⟨x, y, z⟩ := po
          go_wp2_with (go_at_call 64; refine (one_any ⟨pf, pb, pl⟩ n q' _ _ _ RD.out HT2.out).mono ?_; rintro e w2 ⟨rfl, hb3⟩; simp only [HPO.out]; have hp3 := HA1.out.past hb3; have HP3 := Lib.hid hp3; obtain ⟨c0, c1, c2, f0, f1, f2⟩ := hp3.cells; simp only at c0 c1 c2; have HB3 := Lib.hid hb3; clear hb3 hp3)
          go_roundw
          case rel => exact ⟨k + 1, _, by omega, by go_num, HP3.out.put x y z, (((HA2.out.past HB3.out).far _ (by simp) _).far _ (by simp) _).far _ (by simp) _, HST.out, (((HB.out.trans (HB3.out.mono HB.out.size)).setCell (by simp) _).setCell (by simp) _).setCell (by simp) _, by have := HB3.out.size; simp; omega⟩
          case measure => simp [intOf]; omega
        · rw [if_neg hn] at hst
          have h38 : n = 38 ∨ n = 48 := by omega
          clear hn
          cases q' with
          | nil =>
            obtain ⟨rest, hrest⟩ : ∃ rest, L.drop (k + 1) = rest := ⟨_, rfl⟩
            rw [hrest, tells_nil] at hst
            obtain ⟨cc, hcc⟩ : ∃ cc, (colF (followF rest)).1 = cc := ⟨_, rfl⟩
            obtain ⟨m, hm⟩ : ∃ m, (colF (followF rest)).2 = m := ⟨_, rfl⟩
            rw [hcc, hm] at hst
            have hrl : rest.length = L.length - (k + 1) := by rw [← hrest]; simp
            have hml2 : m ≤ L.length - (k + 1) := by
              have h1 := col_len (followF rest)
              have h2 := follow_len rest
              omega
            have hrest2 : ∀ A2 n2 c2, (c = k + 1 → A2 = some ⟨b, off, none⟩) → (c ≠ k + 1 → A2 = some ⟨b, off + (k + 1), none⟩) → n2 = L.length - (k + 1) → n2 ≤ c2 → RdLL wr lo wr.heap.size (.slice A2 n2 c2) rest := by
              intro A2 n2 c2 e1 e2 e3 e4
              rw [← hrest]
              by_cases hck : c = k + 1
              · rw [List.drop_eq_nil_of_le (by omega)]
                obtain rfl : n2 = 0 := by omega
                exact RdLL.empty _ _ _ _ _
              · rw [e2 hck]
                exact ((HR.out.below HB.out (Nat.le_refl _)).more HB.out.size).cut (k + 1) (by omega) n2 c2 e3 e4
            have HRS := Lib.hid hrest2; have HDR := Lib.hid hrest
            have HCC := Lib.hid hcc; have HM := Lib.hid hm; have HRL := Lib.hid hrl
            clear hcc hm hrest2 hrl hrest
            have hm4 : (m : Int) ≤ L.length := by omega
            have hm0 : (0 : Int) ≤ (m : Int) := by omega
            have hkm : (k : Int) + m + 1 ≤ 9223372036854775807 := by omega
            have i1 : (k : Int) + 1 ≤ L.length := by omega
            have i2 : (L.length : Int) ≤ c := by omega
            have i3 : k + 1 ≤ L.length := by omega
            rcases h38 with rfl | rfl
            · rw [show setCol ⟨pf, pb, pl⟩ 38 cc = (if cc = 0 then ⟨pf, pb, pl⟩ else ⟨cc, pb, pl⟩) from rfl] at hst
              by_cases hcz : cc = 0
              · rw [if_pos ⟨hcz, by simp⟩] at hst
                subst hcz
                have HST := Lib.hid hst
                clear hst
                by_cases hck : c = k + 1
                · subst hck
                  go_wp2_with fail
                  refine (follow_n rest _ _ _ (by rw [HRL.out]; omega) _ (HRS.out _ _ _ (fun _ => rfl) (fun h => absurd rfl h) (by omega) (by omega))).mono ?_
                  rintro e w2 ⟨A3, c3, rfl, hr3, hb3⟩
                  have hc4 := past hb3 hc3
                  have hp3 := HA1.out.past hb3
                  have hp4 := HA2.out.past hb3
                  obtain ⟨c0, c1, c2, f0, f1, f2⟩ := hp3.cells
                  obtain ⟨k0, k1, k2, l0, l1, l2⟩ := hp4.cells
                  simp only at c0 c1 c2 k0 k1 k2
                  have HP3 := Lib.hid hp3; have HP4 := Lib.hid hp4; have HB3 := Lib.hid hb3; have HR3 := Lib.hid hr3
                  clear hp3 hp4 hb3 hr3
                  go_wp2_with (go_at_call 65; refine (colour_any _ A3 c3 _ _ HR3.out).mono ?_; rintro e w3 ⟨rfl, nn, rfl⟩; simp only [HCC.out, HM.out])
                  obtain ⟨q0, q1, q2, _⟩ := ((HP4.out.drewN nn).put pf pb pl).cells
                  exact bodyPost_ret (v := .agg #[.int .i64 pf, .int .i64 pb, .int .i64 pl]) (by simp [results, Tryd.results32, go_sem, q0, q1, q2]) rfl ⟨by rw [← HST.out], ((((below_drewN (HB.out.trans (HB3.out.mono HB.out.size)) nn)).setCell (by simp) _).setCell (by simp) _).setCell (by simp) _⟩
                · go_wp2_with fail
                  refine (follow_n rest _ _ _ (by rw [HRL.out]) _ (HRS.out _ _ _ (fun h => absurd h hck) (fun _ => rfl) rfl (by omega))).mono ?_
                  rintro e w2 ⟨A3, c3, rfl, hr3, hb3⟩
                  have hc4 := past hb3 hc3
                  have hp3 := HA1.out.past hb3
                  have hp4 := HA2.out.past hb3
                  obtain ⟨c0, c1, c2, f0, f1, f2⟩ := hp3.cells
                  obtain ⟨k0, k1, k2, l0, l1, l2⟩ := hp4.cells
                  simp only at c0 c1 c2 k0 k1 k2
                  have HP3 := Lib.hid hp3; have HP4 := Lib.hid hp4; have HB3 := Lib.hid hb3; have HR3 := Lib.hid hr3
                  clear hp3 hp4 hb3 hr3
                  go_wp2_with (go_at_call 65; refine (colour_any _ A3 c3 _ _ HR3.out).mono ?_; rintro e w3 ⟨rfl, nn, rfl⟩; simp only [HCC.out, HM.out])
                  obtain ⟨q0, q1, q2, _⟩ := ((HP4.out.drewN nn).put pf pb pl).cells
                  exact bodyPost_ret (v := .agg #[.int .i64 pf, .int .i64 pb, .int .i64 pl]) (by simp [results, Tryd.results32, go_sem, q0, q1, q2]) rfl ⟨by rw [← HST.out], ((((below_drewN (HB.out.trans (HB3.out.mono HB.out.size)) nn)).setCell (by simp) _).setCell (by simp) _).setCell (by simp) _⟩
              · rw [if_neg (fun h => hcz h.1), if_neg hcz, ← HDR.out, List.drop_drop] at hst
                have z2 : (cc == 0) = false := beq_eq_false_iff_ne.2 hcz
                have HST := Lib.hid hst
                clear hst hcz
                by_cases hck : c = k + 1
                · subst hck
                  go_wp2_with fail
                  refine (follow_n rest _ _ _ (by rw [HRL.out]; omega) _ (HRS.out _ _ _ (fun _ => rfl) (fun h => absurd rfl h) (by omega) (by omega))).mono ?_
                  rintro e w2 ⟨A3, c3, rfl, hr3, hb3⟩
                  have hc4 := past hb3 hc3
                  have hp3 := HA1.out.past hb3
                  have hp4 := HA2.out.past hb3
                  obtain ⟨c0, c1, c2, f0, f1, f2⟩ := hp3.cells
                  obtain ⟨k0, k1, k2, l0, l1, l2⟩ := hp4.cells
                  simp only at c0 c1 c2 k0 k1 k2
                  have HP3 := Lib.hid hp3; have HP4 := Lib.hid hp4; have HB3 := Lib.hid hb3; have HR3 := Lib.hid hr3
                  clear hp3 hp4 hb3 hr3
                  go_wp2_with (go_at_call 65; refine (colour_any _ A3 c3 _ _ HR3.out).mono ?_; rintro e w3 ⟨rfl, nn, rfl⟩; simp only [HCC.out, HM.out])
                  go_roundw
                  case rel => exact ⟨k + 1 + m, _, by omega, by go_num, (HP3.out.drewN nn).putFg cc, (HP4.out.drewN nn).far _ (by simp) _, HST.out, (below_drewN (HB.out.trans (HB3.out.mono HB.out.size)) nn).setCell (by simp) _, by have := HB3.out.size; simp; omega⟩
                  case measure => simp [intOf]; omega
                · go_wp2_with fail
                  refine (follow_n rest _ _ _ (by rw [HRL.out]) _ (HRS.out _ _ _ (fun h => absurd h hck) (fun _ => rfl) rfl (by omega))).mono ?_
                  rintro e w2 ⟨A3, c3, rfl, hr3, hb3⟩
                  have hc4 := past hb3 hc3
                  have hp3 := HA1.out.past hb3
                  have hp4 := HA2.out.past hb3
                  obtain ⟨c0, c1, c2, f0, f1, f2⟩ := hp3.cells
                  obtain ⟨k0, k1, k2, l0, l1, l2⟩ := hp4.cells
                  simp only at c0 c1 c2 k0 k1 k2
                  have HP3 := Lib.hid hp3; have HP4 := Lib.hid hp4; have HB3 := Lib.hid hb3; have HR3 := Lib.hid hr3
                  clear hp3 hp4 hb3 hr3
                  go_wp2_with (go_at_call 65; refine (colour_any _ A3 c3 _ _ HR3.out).mono ?_; rintro e w3 ⟨rfl, nn, rfl⟩; simp only [HCC.out, HM.out])
                  go_roundw
                  case rel => exact ⟨k + 1 + m, _, by omega, by go_num, (HP3.out.drewN nn).putFg cc, (HP4.out.drewN nn).far _ (by simp) _, HST.out, (below_drewN (HB.out.trans (HB3.out.mono HB.out.size)) nn).setCell (by simp) _, by have := HB3.out.size; simp; omega⟩
                  case measure => simp [intOf]; omega
            · rw [show setCol ⟨pf, pb, pl⟩ 48 cc = (if cc = 0 then ⟨pf, pb, pl⟩ else ⟨pf, cc, pl⟩) from rfl] at hst
              by_cases hcz : cc = 0
              · rw [if_pos ⟨hcz, by simp⟩] at hst
                subst hcz
                have HST := Lib.hid hst
                clear hst
                by_cases hck : c = k + 1
                · subst hck
                  go_wp2_with fail
                  refine (follow_n rest _ _ _ (by rw [HRL.out]; omega) _ (HRS.out _ _ _ (fun _ => rfl) (fun h => absurd rfl h) (by omega) (by omega))).mono ?_
                  rintro e w2 ⟨A3, c3, rfl, hr3, hb3⟩
                  have hc4 := past hb3 hc3
                  have hp3 := HA1.out.past hb3
                  have hp4 := HA2.out.past hb3
                  obtain ⟨c0, c1, c2, f0, f1, f2⟩ := hp3.cells
                  obtain ⟨k0, k1, k2, l0, l1, l2⟩ := hp4.cells
                  simp only at c0 c1 c2 k0 k1 k2
                  have HP3 := Lib.hid hp3; have HP4 := Lib.hid hp4; have HB3 := Lib.hid hb3; have HR3 := Lib.hid hr3
                  clear hp3 hp4 hb3 hr3
                  go_wp2_with (go_at_call 65; refine (colour_any _ A3 c3 _ _ HR3.out).mono ?_; rintro e w3 ⟨rfl, nn, rfl⟩; simp only [HCC.out, HM.out])
                  obtain ⟨q0, q1, q2, _⟩ := ((HP4.out.drewN nn).put pf pb pl).cells
                  exact bodyPost_ret (v := .agg #[.int .i64 pf, .int .i64 pb, .int .i64 pl]) (by simp [results, Tryd.results32, go_sem, q0, q1, q2]) rfl ⟨by rw [← HST.out], ((((below_drewN (HB.out.trans (HB3.out.mono HB.out.size)) nn)).setCell (by simp) _).setCell (by simp) _).setCell (by simp) _⟩
                · go_wp2_with fail
                  refine (follow_n rest _ _ _ (by rw [HRL.out]) _ (HRS.out _ _ _ (fun h => absurd h hck) (fun _ => rfl) rfl (by omega))).mono ?_
                  rintro e w2 ⟨A3, c3, rfl, hr3, hb3⟩
                  have hc4 := past hb3 hc3
                  have hp3 := HA1.out.past hb3
                  have hp4 := HA2.out.past hb3
                  obtain ⟨c0, c1, c2, f0, f1, f2⟩ := hp3.cells
                  obtain ⟨k0, k1, k2, l0, l1, l2⟩ := hp4.cells
                  simp only at c0 c1 c2 k0 k1 k2
                  have HP3 := Lib.hid hp3; have HP4 := Lib.hid hp4; have HB3 := Lib.hid hb3; have HR3 := Lib.hid hr3
                  clear hp3 hp4 hb3 hr3
                  go_wp2_with (go_at_call 65; refine (colour_any _ A3 c3 _ _ HR3.out).mono ?_; rintro e w3 ⟨rfl, nn, rfl⟩; simp only [HCC.out, HM.out])
                  obtain ⟨q0, q1, q2, _⟩ := ((HP4.out.drewN nn).put pf pb pl).cells
                  exact bodyPost_ret (v := .agg #[.int .i64 pf, .int .i64 pb, .int .i64 pl]) (by simp [results, Tryd.results32, go_sem, q0, q1, q2]) rfl ⟨by rw [← HST.out], ((((below_drewN (HB.out.trans (HB3.out.mono HB.out.size)) nn)).setCell (by simp) _).setCell (by simp) _).setCell (by simp) _⟩
              · rw [if_neg (fun h => hcz h.1), if_neg hcz, ← HDR.out, List.drop_drop] at hst
                have z2 : (cc == 0) = false := beq_eq_false_iff_ne.2 hcz
                have HST := Lib.hid hst
                clear hst hcz
                by_cases hck : c = k + 1
                · subst hck
                  go_wp2_with fail
                  refine (follow_n rest _ _ _ (by rw [HRL.out]; omega) _ (HRS.out _ _ _ (fun _ => rfl) (fun h => absurd rfl h) (by omega) (by omega))).mono ?_
                  rintro e w2 ⟨A3, c3, rfl, hr3, hb3⟩
                  have hc4 := past hb3 hc3
                  have hp3 := HA1.out.past hb3
                  have hp4 := HA2.out.past hb3
                  obtain ⟨c0, c1, c2, f0, f1, f2⟩ := hp3.cells
                  obtain ⟨k0, k1, k2, l0, l1, l2⟩ := hp4.cells
                  simp only at c0 c1 c2 k0 k1 k2
                  have HP3 := Lib.hid hp3; have HP4 := Lib.hid hp4; have HB3 := Lib.hid hb3; have HR3 := Lib.hid hr3
                  clear hp3 hp4 hb3 hr3
                  go_wp2_with (go_at_call 65; refine (colour_any _ A3 c3 _ _ HR3.out).mono ?_; rintro e w3 ⟨rfl, nn, rfl⟩; simp only [HCC.out, HM.out])
                  go_roundw
                  case rel => exact ⟨k + 1 + m, _, by omega, by go_num, (HP3.out.drewN nn).putBg cc, (HP4.out.drewN nn).far _ (by simp) _, HST.out, (below_drewN (HB.out.trans (HB3.out.mono HB.out.size)) nn).setCell (by simp) _, by have := HB3.out.size; simp; omega⟩
                  case measure => simp [intOf]; omega
                · go_wp2_with fail
                  refine (follow_n rest _ _ _ (by rw [HRL.out]) _ (HRS.out _ _ _ (fun h => absurd h hck) (fun _ => rfl) rfl (by omega))).mono ?_
                  rintro e w2 ⟨A3, c3, rfl, hr3, hb3⟩
                  have hc4 := past hb3 hc3
                  have hp3 := HA1.out.past hb3
                  have hp4 := HA2.out.past hb3
                  obtain ⟨c0, c1, c2, f0, f1, f2⟩ := hp3.cells
                  obtain ⟨k0, k1, k2, l0, l1, l2⟩ := hp4.cells
                  simp only at c0 c1 c2 k0 k1 k2
                  have HP3 := Lib.hid hp3; have HP4 := Lib.hid hp4; have HB3 := Lib.hid hb3; have HR3 := Lib.hid hr3
                  clear hp3 hp4 hb3 hr3
                  go_wp2_with (go_at_call 65; refine (colour_any _ A3 c3 _ _ HR3.out).mono ?_; rintro e w3 ⟨rfl, nn, rfl⟩; simp only [HCC.out, HM.out])
                  go_roundw
                  case rel => exact ⟨k + 1 + m, _, by omega, by go_num, (HP3.out.drewN nn).putBg cc, (HP4.out.drewN nn).far _ (by simp) _, HST.out, (below_drewN (HB.out.trans (HB3.out.mono HB.out.size)) nn).setCell (by simp) _, by have := HB3.out.size; simp; omega⟩
                  case measure => simp [intOf]; omega
          | cons y q'' =>
            rw [tells_cons, if_neg (fun h => h.2 (by simp)), List.drop_zero] at hst
            obtain ⟨cc, hcc⟩ : ∃ cc, (colF (innerF (y :: q''))).1 = cc := ⟨_, rfl⟩
            rw [hcc] at hst
            have HCC := Lib.hid hcc
            clear hcc z1
            have DR : Hid (Rd wr wr.heap.size (some ⟨b2, off2 + 1, none⟩) (nC (y :: q''))) := Lib.hid (RD.out.drop 1)
            have z1 : (((q''.length : Int) + 1 + 1) == 0) = false := beq_eq_false_iff_ne.2 (by omega)
            have z3 : (1 : Int) < (q''.length : Int) + 1 + 1 := by omega
            simp only [List.length_cons] at hci
            have i2 : (q''.length : Int) + 1 + 1 ≤ ci := by omega
            have i3 : ¬ ci = 1 := by omega
            rcases h38 with rfl | rfl
            · rw [show setCol ⟨pf, pb, pl⟩ 38 cc = (if cc = 0 then ⟨pf, pb, pl⟩ else ⟨cc, pb, pl⟩) from rfl] at hst
              by_cases hcz : cc = 0
              · rw [if_pos hcz] at hst
                subst hcz
                have HST := Lib.hid hst
                clear hst
                · go_wp2_with fail
                  refine (inner_n (y :: q'') _ _ _ (by simp) _ DR.out (by omega)).mono ?_
                  rintro e w2 ⟨A3, c3, rfl, hr3, hb3⟩
                  have hc4 := past hb3 hc3
                  have hp3 := HA1.out.past hb3
                  have hp4 := HA2.out.past hb3
                  obtain ⟨c0, c1, c2, f0, f1, f2⟩ := hp3.cells
                  obtain ⟨k0, k1, k2, l0, l1, l2⟩ := hp4.cells
                  simp only at c0 c1 c2 k0 k1 k2
                  have HP3 := Lib.hid hp3; have HP4 := Lib.hid hp4; have HB3 := Lib.hid hb3; have HR3 := Lib.hid hr3
                  clear hp3 hp4 hb3 hr3
                  go_wp2_with (go_at_call 65; refine (colour_any _ A3 c3 _ _ HR3.out).mono ?_; rintro e w3 ⟨rfl, nn, rfl⟩; simp only [HCC.out])
                  go_roundw
                  case rel => exact ⟨k + 1, _, by omega, by go_num, (HP3.out.drewN nn), (HP4.out.drewN nn), HST.out, (below_drewN (HB.out.trans (HB3.out.mono HB.out.size)) nn), by have := HB3.out.size; simp; omega⟩
                  case measure => simp [intOf]; omega
              · rw [if_neg hcz] at hst
                have z2 : (cc == 0) = false := beq_eq_false_iff_ne.2 hcz
                have HST := Lib.hid hst
                clear hst hcz
                · go_wp2_with fail
                  refine (inner_n (y :: q'') _ _ _ (by simp) _ DR.out (by omega)).mono ?_
                  rintro e w2 ⟨A3, c3, rfl, hr3, hb3⟩
                  have hc4 := past hb3 hc3
                  have hp3 := HA1.out.past hb3
                  have hp4 := HA2.out.past hb3
                  obtain ⟨c0, c1, c2, f0, f1, f2⟩ := hp3.cells
                  obtain ⟨k0, k1, k2, l0, l1, l2⟩ := hp4.cells
                  simp only at c0 c1 c2 k0 k1 k2
                  have HP3 := Lib.hid hp3; have HP4 := Lib.hid hp4; have HB3 := Lib.hid hb3; have HR3 := Lib.hid hr3
                  clear hp3 hp4 hb3 hr3
                  go_wp2_with (go_at_call 65; refine (colour_any _ A3 c3 _ _ HR3.out).mono ?_; rintro e w3 ⟨rfl, nn, rfl⟩; simp only [HCC.out])
                  go_roundw
                  case rel => exact ⟨k + 1, _, by omega, by go_num, (HP3.out.drewN nn).putFg cc, (HP4.out.drewN nn).far _ (by simp) _, HST.out, (below_drewN (HB.out.trans (HB3.out.mono HB.out.size)) nn).setCell (by simp) _, by have := HB3.out.size; simp; omega⟩
                  case measure => simp [intOf]; omega
            · rw [show setCol ⟨pf, pb, pl⟩ 48 cc = (if cc = 0 then ⟨pf, pb, pl⟩ else ⟨pf, cc, pl⟩) from rfl] at hst
              by_cases hcz : cc = 0
              · rw [if_pos hcz] at hst
                subst hcz
                have HST := Lib.hid hst
                clear hst
                · go_wp2_with fail
                  refine (inner_n (y :: q'') _ _ _ (by simp) _ DR.out (by omega)).mono ?_
                  rintro e w2 ⟨A3, c3, rfl, hr3, hb3⟩
                  have hc4 := past hb3 hc3
                  have hp3 := HA1.out.past hb3
                  have hp4 := HA2.out.past hb3
                  obtain ⟨c0, c1, c2, f0, f1, f2⟩ := hp3.cells
                  obtain ⟨k0, k1, k2, l0, l1, l2⟩ := hp4.cells
                  simp only at c0 c1 c2 k0 k1 k2
                  have HP3 := Lib.hid hp3; have HP4 := Lib.hid hp4; have HB3 := Lib.hid hb3; have HR3 := Lib.hid hr3
                  clear hp3 hp4 hb3 hr3
                  go_wp2_with (go_at_call 65; refine (colour_any _ A3 c3 _ _ HR3.out).mono ?_; rintro e w3 ⟨rfl, nn, rfl⟩; simp only [HCC.out])
                  go_roundw
                  case rel => exact ⟨k + 1, _, by omega, by go_num, (HP3.out.drewN nn), (HP4.out.drewN nn), HST.out, (below_drewN (HB.out.trans (HB3.out.mono HB.out.size)) nn), by have := HB3.out.size; simp; omega⟩
                  case measure => simp [intOf]; omega
              · rw [if_neg hcz] at hst
                have z2 : (cc == 0) = false := beq_eq_false_iff_ne.2 hcz
                have HST := Lib.hid hst
                clear hst hcz
                · go_wp2_with fail
                  refine (inner_n (y :: q'') _ _ _ (by simp) _ DR.out (by omega)).mono ?_
                  rintro e w2 ⟨A3, c3, rfl, hr3, hb3⟩
                  have hc4 := past hb3 hc3
                  have hp3 := HA1.out.past hb3
                  have hp4 := HA2.out.past hb3
                  obtain ⟨c0, c1, c2, f0, f1, f2⟩ := hp3.cells
                  obtain ⟨k0, k1, k2, l0, l1, l2⟩ := hp4.cells
                  simp only at c0 c1 c2 k0 k1 k2
                  have HP3 := Lib.hid hp3; have HP4 := Lib.hid hp4; have HB3 := Lib.hid hb3; have HR3 := Lib.hid hr3
                  clear hp3 hp4 hb3 hr3
                  go_wp2_with (go_at_call 65; refine (colour_any _ A3 c3 _ _ HR3.out).mono ?_; rintro e w3 ⟨rfl, nn, rfl⟩; simp only [HCC.out])
                  go_roundw
                  case rel => exact ⟨k + 1, _, by omega, by go_num, (HP3.out.drewN nn).putBg cc, (HP4.out.drewN nn).far _ (by simp) _, HST.out, (below_drewN (HB.out.trans (HB3.out.mono HB.out.size)) nn).setCell (by simp) _, by have := HB3.out.size; simp; omega⟩
                  case measure => simp [intOf]; omega
    · obtain rfl : k = L.length := by omega
      have hr2 := HG2.out
      rw [List.drop_length] at hr2
      have hr3 : R = ⟨pf, pb, pl⟩ := by rw [← hr2]; cases L.length <;> rfl
      subst hr3
      clear hr2
      go_wp2
      obtain ⟨q0, q1, q2, _⟩ := (HA2.out.put pf pb pl).cells
      exact bodyPost_ret (v := .agg #[.int .i64 pf, .int .i64 pb, .int .i64 pl]) (by simp [results, Tryd.results32, go_sem, q0, q1, q2]) rfl ⟨rfl, ((HB.out.setCell (by simp) _).setCell (by simp) _).setCell (by simp) _⟩
end Go.Proofs.YtcempbgbdlmjfaaDoor
