/-
  lapwinglaw13.ModesPlay: for any list of switches it answers true: one mouse and one encoding at most are on. No condition but the table of modes.
-/
import Derived.Test.YtcempbgbdlmjfaaDoorMoF
import Derived.Test.YtcempbgbdlmjfaaDoorPaMem
import Derived.Deep.RegionLaw
namespace Go.Proofs.YtcempbgbdlmjfaaDoor
open Go.RowKit

structure Ac where
  p : Bool
  n : Int
  on : Bool
def RdAc (w : World) (B : Nat) (A : Option Addr) (rows : List Ac) : Prop :=
  0 < rows.length → ∃ b off, A = some ⟨b, off, none⟩ ∧ b < B ∧ ∀ j (_ : j < rows.length),
    w.cell? ⟨b, off + j * 3, none⟩ = some (.bool rows[j].p) ∧ w.cell? ⟨b, off + j * 3 + 1, none⟩ = some (.int .i64 rows[j].n) ∧ w.cell? ⟨b, off + j * 3 + 2, none⟩ = some (.bool rows[j].on)

/-- modes in a variable -/
structure Mb (w2 w : World) (g : Nat) (b : Int) : Prop where
  blk : w.heap[g]? = some (.cells #[.int .i64 b] 24 (0, 0))
  old : Below w2.heap.size w2 w
theorem Mb.step {w2 w w1 : World} {g : Nat} {b b' : Int} (h : Mb w2 w g b) (hg : w2.heap.size ≤ g) (hb : Below w.heap.size w w1) : Mb w2 (w1.setCell ⟨g, 0, none⟩ (.int .i64 b')) g b' :=
  ⟨bk_set (bk_past h.blk hb (Nat.le_refl _)) 0 _, (h.old.trans (hb.mono h.old.size)).setCell (by simp; omega) _⟩

def plM (m : Int) (x : Ac) : Int := if x.p && isMouseN x.n then (if x.on then x.n else if m = x.n then 0 else m) else m
def plC (m : Int) (x : Ac) : Int := if x.p && isCodeN x.n then (if x.on then x.n else if m = x.n then 0 else m) else m

set_option maxRecDepth 100000 in
set_option maxHeartbeats 6400000 in
theorem play_walk (rows : List Ac) (A : Option Addr) (c : Nat) (w : World) (hr : RdAc w w.heap.size A rows) (hT : TabM w) :
    Calls Tryd.prog 4 #[.slice A rows.length c] w fun e w' => e = .returned (.bool true) ∧ Below w.heap.size w w' := by
  by_cases h100 : 100 < rows.length
  · have d1 : decide ((100 : Int) < rows.length) = true := by simp; omega
    clear hr
    go_enter Tryd.func4, Tryd.ntmps4
    go_wp2_with fail
    refine (awake13_any _ hT).mono ?_
    rintro e w1 ⟨rfl, hb1⟩
    go_wp2_with fail
    go_ret
    exact ⟨rfl, hb1⟩
  have d1 : decide ((100 : Int) < rows.length) = false := by simp; omega
  have HR := Lib.hid hr; clear hr
  have e322 : mouF 322 = 0 ∧ codF 322 = 0 := by decide +kernel
  have E322 := Lib.hid e322; clear e322
  go_enter Tryd.func4, Tryd.ntmps4
  go_wp2_with fail
  refine (awake13_any _ hT).mono ?_
  rintro e w1 ⟨rfl, hb1⟩
  have hT1 := hT.below hb1
  go_wp2_with fail
  refine (new_any _).mono ?_
  rintro e w2 ⟨rfl, hb2⟩
  have hT2 := hT1.below hb2
  have b2 := bt hb1 hb2 hb1.size
  have B2 := Lib.hid b2
  have HT2 := Lib.hid hT2
  clear hb1 hb2 b2 hT1 hT2
  have hm0 : Mb w2 (w2.alloc (.cells #[.int .i64 322] 24)) w2.heap.size 322 := ⟨heap_alloc_new w2 _, (Below.refl _ _).alloc (Nat.le_refl _) _⟩
  have HM0 := Lib.hid hm0; clear hm0
  go_wp2_with fail
  go_loopw [5, 6, 7] (fun sm sc i wr => ∃ (k : Nat) (b : Int), k ≤ rows.length ∧ i = .int .i64 k ∧ sm = .int .i64 (mouF b) ∧ sc = .int .i64 (codF b) ∧ saneM b = true ∧ Mb w2 wr w2.heap.size b) (fun _ _ i _ => rows.length - (intOf i).toNat)
  case atStart => exact ⟨0, 322, Nat.zero_le _, rfl, by rw [E322.out.1], by rw [E322.out.2], new_sane, HM0.out⟩
  case round =>
    obtain ⟨k, b, hk, rfl, rfl, rfl, hs, hm⟩ := hrel
    have c0 := bk_cell hm.blk 0 _ rfl
    have f0 := bk_free hm.blk 0
    have hTr := HT2.out.below hm.old
    have hsz := B2.out.size
    have HS := Lib.hid hs; have HM := Lib.hid hm; have HTR := Lib.hid hTr
    clear hs hm hTr HM0
    by_cases hlt : k < rows.length
    · obtain ⟨bl, off, rfl, hbB, hc⟩ := HR.out (by omega)
      obtain ⟨x0, x1, x2⟩ := hc k hlt
      have bw : Below w.heap.size w wr := B2.out.trans (HM.out.old.mono hsz)
      have y0 := past_B bw hbB x0
      have y1 := past_B bw hbB x1
      have y2 := past_B bw hbB x2
      have hst := play_step rows[k].p rows[k].n rows[k].on HS.out
      have hss := set_sane (p := rows[k].p) (n := rows[k].n) rows[k].on HS.out
      obtain ⟨⟨p, n, on⟩, hx⟩ : ∃ x, rows[k] = x := ⟨_, rfl⟩
      rw [hx] at y0 y1 y2 hst hss
      simp only at y0 y1 y2 hst hss
      have HST := Lib.hid hst; have HSS := Lib.hid hss; have BW := Lib.hid bw
      rw [hx] at x0 x1 x2; simp only at x0 x1 x2
      clear hx hc hst hss bw
      have ik0 : (0 : Int) ≤ (k : Int) := by omega
      have ik1 : (k : Int) < (rows.length : Int) := by omega
      obtain ⟨z, hz⟩ : ∃ z, setF b p n on = z := ⟨_, rfl⟩
      have HZ := Lib.hid hz
      have hset : ∀ W : World, TabM W → Calls Tryd.prog 23 #[.agg #[.int .i64 b], .bool p, .int .i64 n, .bool on] W fun e w' => e = .returned (.agg #[.int .i64 z]) ∧ Below W.heap.size W w' := fun W hW => by
        have h := set_any b p n on W hW
        rw [hz] at h
        exact h
      have HSET := Lib.hid hset; clear hset hz
      have hTd : TabM wr.drew := HTR.out
      have HTD := Lib.hid hTd; clear hTd
      have hne : w2.heap.size ≠ bl := by omega
      go_wp2_with fail
      go_upto_region 10 with (fail)
      go_cut [39] (fun s wx => Mb w2 wx w2.heap.size z)
      case first =>
        go_region_with (go_at_call 23; refine (HSET.out _ HTD.out).mono ?_; rintro e w3 ⟨rfl, hb3'⟩; have hb3 := (Below.refl wr.heap.size wr).drew.trans hb3'; have hk3 := bk_past HM.out.blk hb3 (Nat.le_refl _); have f3 := bk_free hk3 0; have c3 := bk_cell hk3 0 _ rfl; clear hk3)
        all_goals
          go_wp2_with fail
          go_meet
          exact (HM.out.step (Nat.le_refl _) hb3)
      case rest =>
      have HC := Lib.hid hcut
      have bw := B2.out.trans (hcut.old.mono hsz)
      have y0 := past_B bw hbB x0
      have y1 := past_B bw hbB x1
      have y2 := past_B bw hbB x2
      have hst := HST.out
      rw [HZ.out] at hst
      have hsz' := HSS.out
      rw [HZ.out] at hsz'
      have HST2 := Lib.hid hst; have HSZ := Lib.hid hsz'
      clear hcut bw x0 x1 x2 hst hsz' hbB hne HST HSS HM HTR HTD HZ HSET BW
      cases p with
      | false =>
        have e1 : mouF z = mouF b := by have := HST2.out.1; simpa using this
        have e2 : codF z = codF b := by have := HST2.out.2; simpa using this
        rw [← e1, ← e2]
        clear e1 e2
        go_wp2
        go_roundw
        case rel => exact ⟨k + 1, z, by omega, by go_num, rfl, rfl, HSZ.out, HC.out⟩
        case measure => simp [intOf]; omega
      | true =>
        obtain ⟨mb, hmb⟩ : ∃ mb, mouF b = mb := ⟨_, rfl⟩
        obtain ⟨cb, hcb⟩ : ∃ cb, codF b = cb := ⟨_, rfl⟩
        have hst := HST2.out
        rw [hmb, hcb] at hst
        rw [hmb, hcb]
        clear hmb hcb HST2
        have HST := Lib.hid hst; clear hst
        by_cases h9 : n = 9
        · subst h9
          cases on with
          | true =>
            have e1 : mouF z = 9 := by have := HST.out.1; simpa [isMouseN] using this
            have e2 : codF z = cb := by have := HST.out.2; simpa [isCodeN] using this
            have E1 := Lib.hid e1; have E2 := Lib.hid e2
            clear e1 e2 HST
            go_wp2
            go_roundw
            case rel => exact ⟨k + 1, z, by omega, by go_num, by rw [E1.out], by rw [E2.out], HSZ.out, HC.out⟩
            case measure => simp [intOf]; omega
          | false =>
            cases he : (mb == 9) with
            | true =>
              have he' : mb = 9 := beq_iff_eq.1 he
              have e1 : mouF z = 0 := by have := HST.out.1; simpa [isMouseN, he'] using this
              have e2 : codF z = cb := by have := HST.out.2; simpa [isCodeN, he'] using this
              have E1 := Lib.hid e1; have E2 := Lib.hid e2
              clear e1 e2 HST he'
              go_wp2
              go_roundw
              case rel => exact ⟨k + 1, z, by omega, by go_num, by rw [E1.out], by rw [E2.out], HSZ.out, HC.out⟩
              case measure => simp [intOf]; omega
            | false =>
              have he' : mb ≠ 9 := beq_eq_false_iff_ne.1 he
              have e1 : mouF z = mb := by have := HST.out.1; simpa [isMouseN, he'] using this
              have e2 : codF z = cb := by have := HST.out.2; simpa [isCodeN, he'] using this
              have E1 := Lib.hid e1; have E2 := Lib.hid e2
              clear e1 e2 HST he'
              go_wp2
              go_roundw
              case rel => exact ⟨k + 1, z, by omega, by go_num, by rw [E1.out], by rw [E2.out], HSZ.out, HC.out⟩
              case measure => simp [intOf]; omega
        have d9 : (n == 9) = false := beq_eq_false_iff_ne.2 h9
        clear h9
        by_cases h1000 : n = 1000
        · subst h1000
          cases on with
          | true =>
            have e1 : mouF z = 1000 := by have := HST.out.1; simpa [isMouseN] using this
            have e2 : codF z = cb := by have := HST.out.2; simpa [isCodeN] using this
            have E1 := Lib.hid e1; have E2 := Lib.hid e2
            clear e1 e2 HST
            go_wp2
            go_roundw
            case rel => exact ⟨k + 1, z, by omega, by go_num, by rw [E1.out], by rw [E2.out], HSZ.out, HC.out⟩
            case measure => simp [intOf]; omega
          | false =>
            cases he : (mb == 1000) with
            | true =>
              have he' : mb = 1000 := beq_iff_eq.1 he
              have e1 : mouF z = 0 := by have := HST.out.1; simpa [isMouseN, he'] using this
              have e2 : codF z = cb := by have := HST.out.2; simpa [isCodeN, he'] using this
              have E1 := Lib.hid e1; have E2 := Lib.hid e2
              clear e1 e2 HST he'
              go_wp2
              go_roundw
              case rel => exact ⟨k + 1, z, by omega, by go_num, by rw [E1.out], by rw [E2.out], HSZ.out, HC.out⟩
              case measure => simp [intOf]; omega
            | false =>
              have he' : mb ≠ 1000 := beq_eq_false_iff_ne.1 he
              have e1 : mouF z = mb := by have := HST.out.1; simpa [isMouseN, he'] using this
              have e2 : codF z = cb := by have := HST.out.2; simpa [isCodeN, he'] using this
              have E1 := Lib.hid e1; have E2 := Lib.hid e2
              clear e1 e2 HST he'
              go_wp2
              go_roundw
              case rel => exact ⟨k + 1, z, by omega, by go_num, by rw [E1.out], by rw [E2.out], HSZ.out, HC.out⟩
              case measure => simp [intOf]; omega
        have d1000 : (n == 1000) = false := beq_eq_false_iff_ne.2 h1000
        clear h1000
        by_cases h1002 : n = 1002
        · subst h1002
          cases on with
          | true =>
            have e1 : mouF z = 1002 := by have := HST.out.1; simpa [isMouseN] using this
            have e2 : codF z = cb := by have := HST.out.2; simpa [isCodeN] using this
            have E1 := Lib.hid e1; have E2 := Lib.hid e2
            clear e1 e2 HST
            go_wp2
            go_roundw
            case rel => exact ⟨k + 1, z, by omega, by go_num, by rw [E1.out], by rw [E2.out], HSZ.out, HC.out⟩
            case measure => simp [intOf]; omega
          | false =>
            cases he : (mb == 1002) with
            | true =>
              have he' : mb = 1002 := beq_iff_eq.1 he
              have e1 : mouF z = 0 := by have := HST.out.1; simpa [isMouseN, he'] using this
              have e2 : codF z = cb := by have := HST.out.2; simpa [isCodeN, he'] using this
              have E1 := Lib.hid e1; have E2 := Lib.hid e2
              clear e1 e2 HST he'
              go_wp2
              go_roundw
              case rel => exact ⟨k + 1, z, by omega, by go_num, by rw [E1.out], by rw [E2.out], HSZ.out, HC.out⟩
              case measure => simp [intOf]; omega
            | false =>
              have he' : mb ≠ 1002 := beq_eq_false_iff_ne.1 he
              have e1 : mouF z = mb := by have := HST.out.1; simpa [isMouseN, he'] using this
              have e2 : codF z = cb := by have := HST.out.2; simpa [isCodeN, he'] using this
              have E1 := Lib.hid e1; have E2 := Lib.hid e2
              clear e1 e2 HST he'
              go_wp2
              go_roundw
              case rel => exact ⟨k + 1, z, by omega, by go_num, by rw [E1.out], by rw [E2.out], HSZ.out, HC.out⟩
              case measure => simp [intOf]; omega
        have d1002 : (n == 1002) = false := beq_eq_false_iff_ne.2 h1002
        clear h1002
        by_cases h1003 : n = 1003
        · subst h1003
          cases on with
          | true =>
            have e1 : mouF z = 1003 := by have := HST.out.1; simpa [isMouseN] using this
            have e2 : codF z = cb := by have := HST.out.2; simpa [isCodeN] using this
            have E1 := Lib.hid e1; have E2 := Lib.hid e2
            clear e1 e2 HST
            go_wp2
            go_roundw
            case rel => exact ⟨k + 1, z, by omega, by go_num, by rw [E1.out], by rw [E2.out], HSZ.out, HC.out⟩
            case measure => simp [intOf]; omega
          | false =>
            cases he : (mb == 1003) with
            | true =>
              have he' : mb = 1003 := beq_iff_eq.1 he
              have e1 : mouF z = 0 := by have := HST.out.1; simpa [isMouseN, he'] using this
              have e2 : codF z = cb := by have := HST.out.2; simpa [isCodeN, he'] using this
              have E1 := Lib.hid e1; have E2 := Lib.hid e2
              clear e1 e2 HST he'
              go_wp2
              go_roundw
              case rel => exact ⟨k + 1, z, by omega, by go_num, by rw [E1.out], by rw [E2.out], HSZ.out, HC.out⟩
              case measure => simp [intOf]; omega
            | false =>
              have he' : mb ≠ 1003 := beq_eq_false_iff_ne.1 he
              have e1 : mouF z = mb := by have := HST.out.1; simpa [isMouseN, he'] using this
              have e2 : codF z = cb := by have := HST.out.2; simpa [isCodeN, he'] using this
              have E1 := Lib.hid e1; have E2 := Lib.hid e2
              clear e1 e2 HST he'
              go_wp2
              go_roundw
              case rel => exact ⟨k + 1, z, by omega, by go_num, by rw [E1.out], by rw [E2.out], HSZ.out, HC.out⟩
              case measure => simp [intOf]; omega
        have d1003 : (n == 1003) = false := beq_eq_false_iff_ne.2 h1003
        clear h1003
        by_cases h1006 : n = 1006
        · subst h1006
          cases on with
          | true =>
            have e1 : mouF z = mb := by have := HST.out.1; simpa [isMouseN] using this
            have e2 : codF z = 1006 := by have := HST.out.2; simpa [isCodeN] using this
            have E1 := Lib.hid e1; have E2 := Lib.hid e2
            clear e1 e2 HST
            go_wp2
            go_roundw
            case rel => exact ⟨k + 1, z, by omega, by go_num, by rw [E1.out], by rw [E2.out], HSZ.out, HC.out⟩
            case measure => simp [intOf]; omega
          | false =>
            cases he : (cb == 1006) with
            | true =>
              have he' : cb = 1006 := beq_iff_eq.1 he
              have e1 : mouF z = mb := by have := HST.out.1; simpa [isMouseN, he'] using this
              have e2 : codF z = 0 := by have := HST.out.2; simpa [isCodeN, he'] using this
              have E1 := Lib.hid e1; have E2 := Lib.hid e2
              clear e1 e2 HST he'
              go_wp2
              go_roundw
              case rel => exact ⟨k + 1, z, by omega, by go_num, by rw [E1.out], by rw [E2.out], HSZ.out, HC.out⟩
              case measure => simp [intOf]; omega
            | false =>
              have he' : cb ≠ 1006 := beq_eq_false_iff_ne.1 he
              have e1 : mouF z = mb := by have := HST.out.1; simpa [isMouseN, he'] using this
              have e2 : codF z = cb := by have := HST.out.2; simpa [isCodeN, he'] using this
              have E1 := Lib.hid e1; have E2 := Lib.hid e2
              clear e1 e2 HST he'
              go_wp2
              go_roundw
              case rel => exact ⟨k + 1, z, by omega, by go_num, by rw [E1.out], by rw [E2.out], HSZ.out, HC.out⟩
              case measure => simp [intOf]; omega
        have d1006 : (n == 1006) = false := beq_eq_false_iff_ne.2 h1006
        clear h1006
        by_cases h1015 : n = 1015
        · subst h1015
          cases on with
          | true =>
            have e1 : mouF z = mb := by have := HST.out.1; simpa [isMouseN] using this
            have e2 : codF z = 1015 := by have := HST.out.2; simpa [isCodeN] using this
            have E1 := Lib.hid e1; have E2 := Lib.hid e2
            clear e1 e2 HST
            go_wp2
            go_roundw
            case rel => exact ⟨k + 1, z, by omega, by go_num, by rw [E1.out], by rw [E2.out], HSZ.out, HC.out⟩
            case measure => simp [intOf]; omega
          | false =>
            cases he : (cb == 1015) with
            | true =>
              have he' : cb = 1015 := beq_iff_eq.1 he
              have e1 : mouF z = mb := by have := HST.out.1; simpa [isMouseN, he'] using this
              have e2 : codF z = 0 := by have := HST.out.2; simpa [isCodeN, he'] using this
              have E1 := Lib.hid e1; have E2 := Lib.hid e2
              clear e1 e2 HST he'
              go_wp2
              go_roundw
              case rel => exact ⟨k + 1, z, by omega, by go_num, by rw [E1.out], by rw [E2.out], HSZ.out, HC.out⟩
              case measure => simp [intOf]; omega
            | false =>
              have he' : cb ≠ 1015 := beq_eq_false_iff_ne.1 he
              have e1 : mouF z = mb := by have := HST.out.1; simpa [isMouseN, he'] using this
              have e2 : codF z = cb := by have := HST.out.2; simpa [isCodeN, he'] using this
              have E1 := Lib.hid e1; have E2 := Lib.hid e2
              clear e1 e2 HST he'
              go_wp2
              go_roundw
              case rel => exact ⟨k + 1, z, by omega, by go_num, by rw [E1.out], by rw [E2.out], HSZ.out, HC.out⟩
              case measure => simp [intOf]; omega
        have d1015 : (n == 1015) = false := beq_eq_false_iff_ne.2 h1015
        clear h1015
        have e1 : mouF z = mb := by have := HST.out.1; simpa [isMouseN, d9, d1000, d1002, d1003] using this
        have e2 : codF z = cb := by have := HST.out.2; simpa [isCodeN, d1006, d1015] using this
        have E1 := Lib.hid e1; have E2 := Lib.hid e2
        clear e1 e2 HST
        go_wp2
        go_roundw
        case rel => exact ⟨k + 1, z, by omega, by go_num, by rw [E1.out], by rw [E2.out], HSZ.out, HC.out⟩
        case measure => simp [intOf]; omega
    · obtain rfl : k = rows.length := by omega
      have d2 : (mouF b == mouF b) = true := by simp
      have d3 : (codF b == codF b) = true := by simp
      go_wp2_with (first
        | (go_at_call 27; refine (mouse_any b _ HTR.out).mono ?_; rintro e w3 ⟨rfl, hb3⟩; have c3 := past hb3 c0)
        | (go_at_call 22; refine (saneM_any b _).mono ?_; rintro e w4 ⟨rfl, hb4⟩; simp only [HS.out]))
      go_ret
      exact ⟨rfl, (B2.out.trans (HM.out.old.mono hsz)).trans ((bt hb3 hb4 hb3.size).mono (by have := HM.out.old.size; omega))⟩
end Go.Proofs.YtcempbgbdlmjfaaDoor
