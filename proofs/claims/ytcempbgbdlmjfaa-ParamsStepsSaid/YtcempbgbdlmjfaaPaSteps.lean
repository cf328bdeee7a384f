/-
  lapwinglaw05.ParamsSteps: for any text it answers true: digits, next, and sub, one by one, make what the text does. No condition.
-/
import Derived.Test.YtcempbgbdlmjfaaPaH
import Derived.Deep.RegionWith
namespace Go.Proofs.Ytcempbgbdlmjfaa
open Go.RowKit

/-- parameters in a variable -/
structure Bx (w2 w : World) (g : Nat) (p : P5) (v : Value) : Prop where
  blk : w.heap[g]? = some (.cells #[v, .bool p.o] 57 (0, 0))
  rd : RdLL w (g + 1) w.heap.size v p.l
  lo : g + 1 ≤ w.heap.size
  old : Below w2.heap.size w2 w
theorem Bx.step {w2 w w1 : World} {g : Nat} {p p' : P5} {v v' : Value} (h : Bx w2 w g p v) (hg : w2.heap.size ≤ g) (hr : RdLL w1 (g + 1) w1.heap.size v' p'.l) (hb : Below w.heap.size w w1) :
    Bx w2 ((w1.setCell ⟨g, 0, none⟩ v').setCell ⟨g, 1, none⟩ (.bool p'.o)) g p' v' := by
  refine ⟨bk_set (bk_set (bk_past h.blk hb (Nat.le_refl _)) 0 v') 1 (.bool p'.o), ?_, ?_, ?_⟩
  · have := (hr.far (p := ⟨g, 0, none⟩) (by simp) v').far (p := ⟨g, 1, none⟩) (by simp) (.bool p'.o)
    simpa using this
  · have := hb.size; have := h.lo; simp; omega
  · exact ((h.old.trans (hb.mono h.old.size)).setCell (by simp; omega) _).setCell (by simp; omega) _
theorem parse_end (s : ByteArray) {p : P5} {r : Option P5} (h : parseGo p ((bI s).drop s.size) = r) : r = some p := by
  rw [← h, ← bI_len, List.drop_length]; rfl

set_option maxRecDepth 100000 in
set_option maxHeartbeats 3200000 in
theorem steps_walk (s : ByteArray) (w : World) (hs : s.size ≤ maxLen) :
    Calls Try.prog 9 #[.string s] w fun e w' => e = .returned (.bool true) ∧ Below w.heap.size w w' := by
  have hs' := hs
  unfold maxLen at hs
  by_cases h300 : 300 < s.size
  · have d1 : decide ((300 : Int) < s.size) = true := by simp; omega
    go_enter Try.func9, Try.ntmps9
    go_wp2_with fail
    refine (awake5_any _).mono ?_
    rintro e w1 ⟨rfl, hb1⟩
    go_wp2_with fail
    go_ret
    exact ⟨rfl, hb1⟩
  have d1 : decide ((300 : Int) < s.size) = false := by simp; omega
  go_enter Try.func9, Try.ntmps9
  go_wp2_with fail
  refine (awake5_any _).mono ?_
  rintro e w1 ⟨rfl, hb1⟩
  go_wp2_with fail
  refine (parse_any s _ hs').mono ?_
  obtain ⟨r, hr⟩ : ∃ r, parseGo ⟨[], false⟩ (bI s) = r := ⟨_, rfl⟩
  rw [hr]
  have HP := Lib.hid hr
  clear hr
  cases r with
  | none =>
    rintro e w2 ⟨hb2, rfl⟩
    have b2 := bt hb1 hb2 hb1.size
    have B2 := Lib.hid b2
    have hx : Bx w2 (w2.alloc (.cells #[.slice none 0 0, .bool false] 57)) w2.heap.size ⟨[], false⟩ (.slice none 0 0) := ⟨heap_alloc_new w2 _, RdLL.nil _ _ _, by simp, (Below.refl _ _).alloc (Nat.le_refl _) _⟩
    have HX := Lib.hid hx
    clear hb1 hb2 b2 hx
    go_wp2
    go_loopw [7] (fun i wr => ∃ (k : Nat) (p : P5) (v : Value), k ≤ s.size ∧ i = .int .i64 k ∧ parseGo p ((bI s).drop k) = none ∧ Bx w2 wr w2.heap.size p v) (fun i _ => s.size - (intOf i).toNat)
    case atStart => exact ⟨0, _, _, Nat.zero_le _, rfl, HP.out, HX.out⟩
    case round =>
      obtain ⟨k, p, v, hk, rfl, hg, hbx⟩ := hrel
      have HG := Lib.hid hg; have HB := Lib.hid hbx
      have hrd := hbx.rd
      obtain ⟨A, c, rfl, hcap⟩ := rdLL_form hrd
      have d0 := bk_cell hbx.blk 0 _ rfl
      have d1 := bk_cell hbx.blk 1 _ rfl
      have f0 := bk_free hbx.blk 0
      have f1 := bk_free hbx.blk 1
      clear hg hbx hrd HX
      by_cases hlt : k < s.size
      · have hst := Lib.hid (bI_step s k hlt p)
        have hx1 := byte_lt s[k]
        have hx0 : (0 : Int) ≤ (s[k].toNat : Int) := by omega
        have ik0 : (0 : Int) ≤ (k : Int) := by omega
        have ik1 : (k : Int) < (s.size : Int) := by omega
        by_cases h59 : (s[k].toNat : Int) = 59
        · have e1 := Lib.hid (show stepP p (s[k].toNat : Int) = some (nextP p) by unfold stepP; rw [if_neg (by omega), if_pos h59])
          have q3 : ((s[k].toNat : Int) == 59) = true := beq_iff_eq.2 h59
          clear h59
          go_wp2_with (go_at_call 32; refine (next_any p.l p.o _ _ HB.out.rd HB.out.lo).mono ?_; rintro e w3 ⟨v3, rfl, hr1, hb1⟩; obtain ⟨A3, c3, rfl, _⟩ := rdLL_form hr1; have hx3 := bk_past HB.out.blk hb1 (Nat.le_refl _); have d30 := bk_cell hx3 0 _ rfl; have d31 := bk_cell hx3 1 _ rfl; have f30 := bk_free hx3 0; have f31 := bk_free hx3 1; clear hx3)
          go_roundw
          case rel => exact ⟨k + 1, _, _, by omega, by go_num, by rw [← HG.out, hst.out, e1.out], HB.out.step (Nat.le_refl _) hr1 hb1⟩
          case measure => simp [intOf]; omega
        by_cases h58 : (s[k].toNat : Int) = 58
        · have e1 := Lib.hid (show stepP p (s[k].toNat : Int) = some (subP p) by unfold stepP; rw [if_neg (by omega), if_neg h59, if_pos h58])
          have q3 : ((s[k].toNat : Int) == 59) = false := beq_eq_false_iff_ne.2 h59
          have q4 : ((s[k].toNat : Int) == 58) = true := beq_iff_eq.2 h58
          clear h59 h58
          go_wp2_with (go_at_call 33; refine (sub_any p.l p.o _ _ HB.out.rd HB.out.lo).mono ?_; rintro e w3 ⟨v3, rfl, hr1, hb1⟩; obtain ⟨A3, c3, rfl, _⟩ := rdLL_form hr1; have hx3 := bk_past HB.out.blk hb1 (Nat.le_refl _); have d30 := bk_cell hx3 0 _ rfl; have d31 := bk_cell hx3 1 _ rfl; have f30 := bk_free hx3 0; have f31 := bk_free hx3 1; clear hx3)
          go_roundw
          case rel => exact ⟨k + 1, _, _, by omega, by go_num, by rw [← HG.out, hst.out, e1.out], HB.out.step (Nat.le_refl _) hr1 hb1⟩
          case measure => simp [intOf]; omega
        have q3 : ((s[k].toNat : Int) == 59) = false := beq_eq_false_iff_ne.2 h59
        have q4 : ((s[k].toNat : Int) == 58) = false := beq_eq_false_iff_ne.2 h58
        by_cases hd : 48 ≤ (s[k].toNat : Int) ∧ (s[k].toNat : Int) ≤ 57
        · have e1 := Lib.hid (show stepP p (s[k].toNat : Int) = some (digitP p (s[k].toNat : Int)) by unfold stepP; rw [if_pos hd])
          obtain ⟨hd1, hd2⟩ := hd
          clear h59 h58
          go_wp2
          have hrD : RdLL wr.drew (w2.heap.size + 1) wr.drew.heap.size (.slice A p.l.length c) p.l := HB.out.rd
          have HRD := Lib.hid hrD; clear hrD
          go_region_with (go_at_call 34; refine (digit_any p.l p.o _ _ _ HRD.out HB.out.lo hx0 hx1).mono ?_; rintro e w3 ⟨v3, rfl, hr1, hb1'⟩; have hb1 := (Below.refl wr.heap.size wr).drew.trans hb1'; obtain ⟨A3, c3, rfl, _⟩ := rdLL_form hr1; have hx3 := bk_past HB.out.blk hb1 (Nat.le_refl _); have d30 := bk_cell hx3 0 _ rfl; have d31 := bk_cell hx3 1 _ rfl; have f30 := bk_free hx3 0; have f31 := bk_free hx3 1; clear hx3)
          all_goals
            go_wp2
            go_roundw
            case rel => exact ⟨k + 1, _, _, by omega, by go_num, by rw [← HG.out, hst.out, e1.out], HB.out.step (Nat.le_refl _) hr1 hb1⟩
            case measure => simp [intOf]; omega
        · have hnone : parseGo p ((bI s).drop k) = none := by
            rw [hst.out, show stepP p (s[k].toNat : Int) = none by unfold stepP; rw [if_neg hd, if_neg h59, if_neg h58]]
          clear hnone
          by_cases q0 : 48 ≤ (s[k].toNat : Int)
          · have q1 : decide (48 ≤ (s[k].toNat : Int)) = true := by simp; omega
            have q2 : decide ((s[k].toNat : Int) ≤ 57) = false := by simp; omega
            clear h59 h58 hd
            go_wp2
            go_ret
            exact ⟨rfl, B2.out.trans (HB.out.old.mono B2.out.size)⟩
          · have q1 : decide (48 ≤ (s[k].toNat : Int)) = false := by simp; omega
            clear h59 h58 hd
            go_wp2
            go_ret
            exact ⟨rfl, B2.out.trans (HB.out.old.mono B2.out.size)⟩
      · obtain rfl : k = s.size := by omega
        exact absurd (parse_end s HG.out) (by simp)
  | some q =>
    rintro e w2 ⟨hb2, vq, rfl, hrq⟩
    obtain ⟨Aq, cq, rfl, hcq⟩ := rdLL_form hrq
    have HRQ := Lib.hid hrq
    have b2 := bt hb1 hb2 hb1.size
    have B2 := Lib.hid b2
    have hx : Bx w2 (w2.alloc (.cells #[.slice none 0 0, .bool false] 57)) w2.heap.size ⟨[], false⟩ (.slice none 0 0) := ⟨heap_alloc_new w2 _, RdLL.nil _ _ _, by simp, (Below.refl _ _).alloc (Nat.le_refl _) _⟩
    have HX := Lib.hid hx
    clear hb1 hb2 b2 hx hrq
    go_wp2
    go_loopw [7] (fun i wr => ∃ (k : Nat) (p : P5) (v : Value), k ≤ s.size ∧ i = .int .i64 k ∧ parseGo p ((bI s).drop k) = some q ∧ Bx w2 wr w2.heap.size p v) (fun i _ => s.size - (intOf i).toNat)
    case atStart => exact ⟨0, _, _, Nat.zero_le _, rfl, HP.out, HX.out⟩
    case round =>
      obtain ⟨k, p, v, hk, rfl, hg, hbx⟩ := hrel
      have HG := Lib.hid hg; have HB := Lib.hid hbx
      have hrd := hbx.rd
      obtain ⟨A, c, rfl, hcap⟩ := rdLL_form hrd
      have d0 := bk_cell hbx.blk 0 _ rfl
      have d1 := bk_cell hbx.blk 1 _ rfl
      have f0 := bk_free hbx.blk 0
      have f1 := bk_free hbx.blk 1
      clear hg hbx hrd HX
      by_cases hlt : k < s.size
      · have hst := Lib.hid (bI_step s k hlt p)
        have hx1 := byte_lt s[k]
        have hx0 : (0 : Int) ≤ (s[k].toNat : Int) := by omega
        have ik0 : (0 : Int) ≤ (k : Int) := by omega
        have ik1 : (k : Int) < (s.size : Int) := by omega
        by_cases h59 : (s[k].toNat : Int) = 59
        · have e1 := Lib.hid (show stepP p (s[k].toNat : Int) = some (nextP p) by unfold stepP; rw [if_neg (by omega), if_pos h59])
          have q3 : ((s[k].toNat : Int) == 59) = true := beq_iff_eq.2 h59
          clear h59
          go_wp2_with (go_at_call 32; refine (next_any p.l p.o _ _ HB.out.rd HB.out.lo).mono ?_; rintro e w3 ⟨v3, rfl, hr1, hb1⟩; obtain ⟨A3, c3, rfl, _⟩ := rdLL_form hr1; have hx3 := bk_past HB.out.blk hb1 (Nat.le_refl _); have d30 := bk_cell hx3 0 _ rfl; have d31 := bk_cell hx3 1 _ rfl; have f30 := bk_free hx3 0; have f31 := bk_free hx3 1; clear hx3)
          go_roundw
          case rel => exact ⟨k + 1, _, _, by omega, by go_num, by rw [← HG.out, hst.out, e1.out], HB.out.step (Nat.le_refl _) hr1 hb1⟩
          case measure => simp [intOf]; omega
        by_cases h58 : (s[k].toNat : Int) = 58
        · have e1 := Lib.hid (show stepP p (s[k].toNat : Int) = some (subP p) by unfold stepP; rw [if_neg (by omega), if_neg h59, if_pos h58])
          have q3 : ((s[k].toNat : Int) == 59) = false := beq_eq_false_iff_ne.2 h59
          have q4 : ((s[k].toNat : Int) == 58) = true := beq_iff_eq.2 h58
          clear h59 h58
          go_wp2_with (go_at_call 33; refine (sub_any p.l p.o _ _ HB.out.rd HB.out.lo).mono ?_; rintro e w3 ⟨v3, rfl, hr1, hb1⟩; obtain ⟨A3, c3, rfl, _⟩ := rdLL_form hr1; have hx3 := bk_past HB.out.blk hb1 (Nat.le_refl _); have d30 := bk_cell hx3 0 _ rfl; have d31 := bk_cell hx3 1 _ rfl; have f30 := bk_free hx3 0; have f31 := bk_free hx3 1; clear hx3)
          go_roundw
          case rel => exact ⟨k + 1, _, _, by omega, by go_num, by rw [← HG.out, hst.out, e1.out], HB.out.step (Nat.le_refl _) hr1 hb1⟩
          case measure => simp [intOf]; omega
        have q3 : ((s[k].toNat : Int) == 59) = false := beq_eq_false_iff_ne.2 h59
        have q4 : ((s[k].toNat : Int) == 58) = false := beq_eq_false_iff_ne.2 h58
        by_cases hd : 48 ≤ (s[k].toNat : Int) ∧ (s[k].toNat : Int) ≤ 57
        · have e1 := Lib.hid (show stepP p (s[k].toNat : Int) = some (digitP p (s[k].toNat : Int)) by unfold stepP; rw [if_pos hd])
          obtain ⟨hd1, hd2⟩ := hd
          clear h59 h58
          go_wp2
          have hrD : RdLL wr.drew (w2.heap.size + 1) wr.drew.heap.size (.slice A p.l.length c) p.l := HB.out.rd
          have HRD := Lib.hid hrD; clear hrD
          go_region_with (go_at_call 34; refine (digit_any p.l p.o _ _ _ HRD.out HB.out.lo hx0 hx1).mono ?_; rintro e w3 ⟨v3, rfl, hr1, hb1'⟩; have hb1 := (Below.refl wr.heap.size wr).drew.trans hb1'; obtain ⟨A3, c3, rfl, _⟩ := rdLL_form hr1; have hx3 := bk_past HB.out.blk hb1 (Nat.le_refl _); have d30 := bk_cell hx3 0 _ rfl; have d31 := bk_cell hx3 1 _ rfl; have f30 := bk_free hx3 0; have f31 := bk_free hx3 1; clear hx3)
          all_goals
            go_wp2
            go_roundw
            case rel => exact ⟨k + 1, _, _, by omega, by go_num, by rw [← HG.out, hst.out, e1.out], HB.out.step (Nat.le_refl _) hr1 hb1⟩
            case measure => simp [intOf]; omega
        · have hnone : parseGo p ((bI s).drop k) = none := by
            rw [hst.out, show stepP p (s[k].toNat : Int) = none by unfold stepP; rw [if_neg hd, if_neg h59, if_neg h58]]
          rw [HG.out] at hnone
          cases hnone
      · obtain rfl : k = s.size := by omega
        have hpq := parse_end s HG.out
        injection hpq with hpq
        subst hpq
        have hsn := parse_sane (bI s) empty_sane HP.out
        have hsn2 : saneP ⟨q.l, q.o⟩ = true := hsn
        have hs3 := (saneP_iff q).1 hsn
        have hl1 : q.l.length ≤ 1000000 := by omega
        have hl2 : ∀ x ∈ q.l, x.length ≤ 1000000 := fun x hx => by
          have := ((okRow_iff x).1 (hs3.2.2 x hx)).1
          omega
        have L1 := Lib.hid hl1; have L2 := Lib.hid hl2; have SN := Lib.hid hsn2
        clear hsn hsn2 hs3 hl1 hl2
        have rq := (HRQ.out.below HB.out.old (Nat.le_refl _)).more HB.out.old.size
        have RQ := Lib.hid rq; clear rq
        go_wp2_with (first
          | (go_at_call 35; refine (same5_any q.l q.l _ _ _ RQ.out HB.out.rd L2.out L1.out).mono ?_; rintro e w3 ⟨rfl, n3, rfl⟩)
          | (go_at_call 36; refine (sanep_any q.l q.o _ _ (show RdLL (wr.drewN n3) (w2.heap.size + 1) (wr.drewN n3).heap.size _ q.l from HB.out.rd)).mono ?_; rintro e w4 ⟨rfl, hb4⟩; simp only [SN.out]))
        go_ret
        exact ⟨rfl, (B2.out.trans (HB.out.old.mono B2.out.size)).trans ((below_drewN (Below.refl wr.heap.size wr) n3).trans hb4 |>.mono (by have := B2.out.size; have := HB.out.old.size; omega))⟩
end Go.Proofs.Ytcempbgbdlmjfaa
