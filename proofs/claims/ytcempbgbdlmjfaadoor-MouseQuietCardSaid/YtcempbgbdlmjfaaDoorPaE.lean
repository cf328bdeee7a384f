/-
  params: the walks of maker's methods, and of Parse.
-/
import Derived.Test.YtcempbgbdlmjfaaDoorPaD
namespace Go.Proofs.YtcempbgbdlmjfaaDoor
open Go.RowKit

/-- a maker that holds parameters -/
structure Mk (w : World) (gm lo : Nat) (p : P5) : Prop where
  ex : ∃ v, w.heap[gm]? = some (.cells #[v, .bool p.o] 115 (0, 0)) ∧ RdLL w lo w.heap.size v p.l
  gm_lt : gm < lo
  lo_le : lo ≤ w.heap.size
def MkPost (w : World) (gm lo : Nat) (p : P5) (e : Ending) (w' : World) : Prop := e = .returned (.tuple #[]) ∧ Mk w' gm lo p ∧ w.grownBy w' (some gm)

set_option maxRecDepth 100000 in
set_option maxHeartbeats 1600000 in
theorem mk_digit (p : P5) (c : Int) (gm lo : Nat) (w : World) (hm : Mk w gm lo p) (c0 : 0 ≤ c) (c1 : c < 256) :
    Calls Tryd.prog 71 #[.pointer (some ⟨gm, 0, none⟩), .int .u8 c] w (MkPost w gm lo (digitP p c)) := by
  obtain ⟨⟨v, hb, hr⟩, h1, h2⟩ := hm
  obtain ⟨l, o⟩ := p
  simp only at hr hb
  obtain ⟨A, cv, rfl, hcap⟩ := rdLL_form hr
  have HR := Lib.hid hr; have HB := Lib.hid hb
  have c0' := bk_cell hb 0 _ rfl
  have c1' := bk_cell hb 1 _ rfl
  clear hb hr
  go_enter Tryd.func71, Tryd.ntmps71
  go_wp2_with (go_at_call 41; refine (digit_any l o _ c _ HR.out h2 c0 c1).mono ?_; rintro e w1 ⟨v1, rfl, hr1, hb1⟩; obtain ⟨A1, cv1, rfl, _⟩ := rdLL_form hr1; have HR1 := Lib.hid hr1; have hm1 := bk_past HB.out hb1 (Nat.le_refl _); have HM1 := Lib.hid hm1; have d0 := bk_cell hm1 0 _ rfl; have d1 := bk_cell hm1 1 _ rfl; have f0 := bk_free hm1 0; have f1 := bk_free hm1 1; clear hr1 hm1)
  have hres := bk_set (bk_set HM1.out 0 (.slice A1 (digitP ⟨l, o⟩ c).l.length cv1)) 1 (.bool (digitP ⟨l, o⟩ c).o)
  have hg := (grown_of_below hb1 (Nat.le_refl _) (some gm))
  have b6 := grown_setCell (grown_setCell hg (p := ⟨gm, 0, none⟩) (.inl rfl) (.slice A1 (digitP ⟨l, o⟩ c).l.length cv1)) (p := ⟨gm, 1, none⟩) (.inl rfl) (.bool (digitP ⟨l, o⟩ c).o)
  have r6 := (HR1.out.far (p := ⟨gm, 0, none⟩) h1 (.slice A1 (digitP ⟨l, o⟩ c).l.length cv1)).far (p := ⟨gm, 1, none⟩) h1 (.bool (digitP ⟨l, o⟩ c).o)
  refine ⟨rfl, .tuple #[], by simp [results, Tryd.results71, go_sem], rfl, ⟨⟨_, hres, by simpa using r6⟩, h1, by have := hb1.size; simp; omega⟩, b6⟩

set_option maxRecDepth 100000 in
set_option maxHeartbeats 1600000 in
theorem mk_next (p : P5) (c : Int) (gm lo : Nat) (w : World) (hm : Mk w gm lo p) :
    Calls Tryd.prog 72 #[.pointer (some ⟨gm, 0, none⟩), .int .u8 c] w (MkPost w gm lo (nextP p)) := by
  obtain ⟨⟨v, hb, hr⟩, h1, h2⟩ := hm
  obtain ⟨l, o⟩ := p
  simp only at hr hb
  obtain ⟨A, cv, rfl, hcap⟩ := rdLL_form hr
  have HR := Lib.hid hr; have HB := Lib.hid hb
  have c0' := bk_cell hb 0 _ rfl
  have c1' := bk_cell hb 1 _ rfl
  clear hb hr
  go_enter Tryd.func72, Tryd.ntmps72
  go_wp2_with (go_at_call 42; refine (next_any l o _ _ HR.out h2).mono ?_; rintro e w1 ⟨v1, rfl, hr1, hb1⟩; obtain ⟨A1, cv1, rfl, _⟩ := rdLL_form hr1; have HR1 := Lib.hid hr1; have hm1 := bk_past HB.out hb1 (Nat.le_refl _); have HM1 := Lib.hid hm1; have d0 := bk_cell hm1 0 _ rfl; have d1 := bk_cell hm1 1 _ rfl; have f0 := bk_free hm1 0; have f1 := bk_free hm1 1; clear hr1 hm1)
  have hres := bk_set (bk_set HM1.out 0 (.slice A1 (nextP ⟨l, o⟩).l.length cv1)) 1 (.bool (nextP ⟨l, o⟩).o)
  have hg := (grown_of_below hb1 (Nat.le_refl _) (some gm))
  have b6 := grown_setCell (grown_setCell hg (p := ⟨gm, 0, none⟩) (.inl rfl) (.slice A1 (nextP ⟨l, o⟩).l.length cv1)) (p := ⟨gm, 1, none⟩) (.inl rfl) (.bool (nextP ⟨l, o⟩).o)
  have r6 := (HR1.out.far (p := ⟨gm, 0, none⟩) h1 (.slice A1 (nextP ⟨l, o⟩).l.length cv1)).far (p := ⟨gm, 1, none⟩) h1 (.bool (nextP ⟨l, o⟩).o)
  refine ⟨rfl, .tuple #[], by simp [results, Tryd.results72, go_sem], rfl, ⟨⟨_, hres, by simpa using r6⟩, h1, by have := hb1.size; simp; omega⟩, b6⟩

set_option maxRecDepth 100000 in
set_option maxHeartbeats 1600000 in
theorem mk_sub (p : P5) (c : Int) (gm lo : Nat) (w : World) (hm : Mk w gm lo p) :
    Calls Tryd.prog 73 #[.pointer (some ⟨gm, 0, none⟩), .int .u8 c] w (MkPost w gm lo (subP p)) := by
  obtain ⟨⟨v, hb, hr⟩, h1, h2⟩ := hm
  obtain ⟨l, o⟩ := p
  simp only at hr hb
  obtain ⟨A, cv, rfl, hcap⟩ := rdLL_form hr
  have HR := Lib.hid hr; have HB := Lib.hid hb
  have c0' := bk_cell hb 0 _ rfl
  have c1' := bk_cell hb 1 _ rfl
  clear hb hr
  go_enter Tryd.func73, Tryd.ntmps73
  go_wp2_with (go_at_call 43; refine (sub_any l o _ _ HR.out h2).mono ?_; rintro e w1 ⟨v1, rfl, hr1, hb1⟩; obtain ⟨A1, cv1, rfl, _⟩ := rdLL_form hr1; have HR1 := Lib.hid hr1; have hm1 := bk_past HB.out hb1 (Nat.le_refl _); have HM1 := Lib.hid hm1; have d0 := bk_cell hm1 0 _ rfl; have d1 := bk_cell hm1 1 _ rfl; have f0 := bk_free hm1 0; have f1 := bk_free hm1 1; clear hr1 hm1)
  have hres := bk_set (bk_set HM1.out 0 (.slice A1 (subP ⟨l, o⟩).l.length cv1)) 1 (.bool (subP ⟨l, o⟩).o)
  have hg := (grown_of_below hb1 (Nat.le_refl _) (some gm))
  have b6 := grown_setCell (grown_setCell hg (p := ⟨gm, 0, none⟩) (.inl rfl) (.slice A1 (subP ⟨l, o⟩).l.length cv1)) (p := ⟨gm, 1, none⟩) (.inl rfl) (.bool (subP ⟨l, o⟩).o)
  have r6 := (HR1.out.far (p := ⟨gm, 0, none⟩) h1 (.slice A1 (subP ⟨l, o⟩).l.length cv1)).far (p := ⟨gm, 1, none⟩) h1 (.bool (subP ⟨l, o⟩).o)
  refine ⟨rfl, .tuple #[], by simp [results, Tryd.results73, go_sem], rfl, ⟨⟨_, hres, by simpa using r6⟩, h1, by have := hb1.size; simp; omega⟩, b6⟩

/-! ### Parse -/
def bI (s : ByteArray) : List Int := s.data.toList.map fun c => (c.toNat : Int)
theorem bI_len (s : ByteArray) : (bI s).length = s.size := by simp [bI]
theorem bI_step (s : ByteArray) (k : Nat) (h : k < s.size) (p : P5) : parseGo p ((bI s).drop k) = (match stepP p (s[k].toNat : Int) with | none => none | some q => parseGo q ((bI s).drop (k + 1))) := by
  rw [List.drop_eq_getElem_cons (by rw [bI_len]; exact h), parseGo]
  have : (bI s)[k]'(by rw [bI_len]; exact h) = (s[k].toNat : Int) := by simp [bI]; rfl
  rw [this]
  cases stepP p (s[k].toNat : Int) <;> rfl
def ParsePost (w : World) (r : Option P5) (e : Ending) (w' : World) : Prop :=
  Below w.heap.size w w' ∧ match r with
    | none => e = .returned (.tuple #[.slice none 0 0, .int .i64 2])
    | some q => ∃ v, e = .returned (.tuple #[v, .int .i64 0]) ∧ RdLL w' (w.heap.size + 1) w'.heap.size v q.l
theorem byte_lt (c : UInt8) : (c.toNat : Int) < 256 := by have := c.toNat_lt; omega

set_option maxRecDepth 100000 in
set_option maxHeartbeats 1600000 in
theorem parse_any (s : ByteArray) (w : World) (hs : s.size ≤ maxLen) : Calls Tryd.prog 45 #[.string s] w (ParsePost w (parseGo ⟨[], false⟩ (bI s))) := by
  unfold maxLen at hs
  have hmf : ∀ (fn : Fn) (first cap : Array Value) (w : World), (Instr.makeFunc fn first cap).run Tryd.prog w = .ok (.func fn first cap) w := fun _ _ _ _ => rfl
  have h0 : Mk (w.alloc (.cells #[.slice none 0 0, .bool false] 115)) w.heap.size (w.heap.size + 1) ⟨[], false⟩ := ⟨⟨_, heap_alloc_new w _, RdLL.nil _ _ _⟩, by omega, by simp⟩
  go_enter Tryd.func45, Tryd.ntmps45
  go_wp2
  go_loopw [10] (fun i wr => ∃ (k : Nat) (p : P5), k ≤ s.size ∧ i = .int .i64 k ∧ parseGo p ((bI s).drop k) = parseGo ⟨[], false⟩ (bI s) ∧ Mk wr w.heap.size (w.heap.size + 1) p ∧ Below w.heap.size w wr) (fun i _ => s.size - (intOf i).toNat)
  case atStart => exact ⟨0, _, Nat.zero_le _, rfl, rfl, h0, (Below.refl _ _).alloc (Nat.le_refl _) _⟩
  case round =>
    obtain ⟨k, p, hk, rfl, hg, hM, hb⟩ := hrel
    clear h0
    have HG := Lib.hid hg; have HM := Lib.hid hM; clear hg hM
    by_cases hlt : k < s.size
    · have hst := Lib.hid (bI_step s k hlt p)
      have hx1 := byte_lt s[k]
      have hx0 : (0 : Int) ≤ (s[k].toNat : Int) := by omega
      by_cases hd : 48 ≤ (s[k].toNat : Int) ∧ (s[k].toNat : Int) ≤ 57
      · have e1 := Lib.hid (show stepP p (s[k].toNat : Int) = some (digitP p (s[k].toNat : Int)) by unfold stepP; rw [if_pos hd])
        obtain ⟨hd1, hd2⟩ := hd
        go_wp2_with (go_at_call 71; refine (mk_digit p _ _ _ _ HM.out hx0 hx1).mono ?_; rintro e w1 ⟨rfl, hM1, hg1⟩)
        go_roundw
        case rel => exact ⟨k + 1, _, by omega, by go_num, by rw [← HG.out, hst.out, e1.out], hM1, hb.trans (below_of_grown hg1 hb.size (by simp))⟩
        case measure => simp [intOf]; omega
      · have d0 : (decide (48 ≤ (s[k].toNat : Int)) && decide ((s[k].toNat : Int) ≤ 57)) = false := by
          rw [Bool.and_eq_false_iff]
          simp only [decide_eq_false_iff_not]
          omega
        by_cases h59 : (s[k].toNat : Int) = 59
        · have e1 := Lib.hid (show stepP p (s[k].toNat : Int) = some (nextP p) by unfold stepP; rw [if_neg hd, if_pos h59])
          have q1 : decide (48 ≤ (s[k].toNat : Int)) = true := by simp; omega
          have q2 : decide ((s[k].toNat : Int) ≤ 57) = false := by simp; omega
          have q3 : ((s[k].toNat : Int) == 59) = true := beq_iff_eq.2 h59
          clear h59 hd d0
          go_wp2_with (go_at_call 72; refine (mk_next p _ _ _ _ HM.out).mono ?_; rintro e w1 ⟨rfl, hM1, hg1⟩)
          go_roundw
          case rel => exact ⟨k + 1, _, by omega, by go_num, by rw [← HG.out, hst.out, e1.out], hM1, hb.trans (below_of_grown hg1 hb.size (by simp))⟩
          case measure => simp [intOf]; omega
        by_cases h58 : (s[k].toNat : Int) = 58
        · have e1 := Lib.hid (show stepP p (s[k].toNat : Int) = some (subP p) by unfold stepP; rw [if_neg hd, if_neg h59, if_pos h58])
          have q1 : decide (48 ≤ (s[k].toNat : Int)) = true := by simp; omega
          have q2 : decide ((s[k].toNat : Int) ≤ 57) = false := by simp; omega
          have q3 : ((s[k].toNat : Int) == 59) = false := beq_eq_false_iff_ne.2 h59
          have q4 : ((s[k].toNat : Int) == 58) = true := beq_iff_eq.2 h58
          clear h59 h58 hd d0
          go_wp2_with (go_at_call 73; refine (mk_sub p _ _ _ _ HM.out).mono ?_; rintro e w1 ⟨rfl, hM1, hg1⟩)
          go_roundw
          case rel => exact ⟨k + 1, _, by omega, by go_num, by rw [← HG.out, hst.out, e1.out], hM1, hb.trans (below_of_grown hg1 hb.size (by simp))⟩
          case measure => simp [intOf]; omega
        · have e1 : parseGo ⟨[], false⟩ (bI s) = none := by
            rw [← HG.out, hst.out, show stepP p (s[k].toNat : Int) = none by unfold stepP; rw [if_neg hd, if_neg h59, if_neg h58]]
          have HE := Lib.hid e1
          have q3 : ((s[k].toNat : Int) == 59) = false := beq_eq_false_iff_ne.2 h59
          have q4 : ((s[k].toNat : Int) == 58) = false := beq_eq_false_iff_ne.2 h58
          by_cases q0 : 48 ≤ (s[k].toNat : Int)
          · have q1 : decide (48 ≤ (s[k].toNat : Int)) = true := by simp; omega
            have q2 : decide ((s[k].toNat : Int) ≤ 57) = false := by simp; omega
            clear h59 h58 hd d0 e1
            go_wp2
            go_ret2
            exact ⟨hb, by rw [HE.out]; rfl⟩
          · have q1 : decide (48 ≤ (s[k].toNat : Int)) = false := by simp; omega
            clear h59 h58 hd d0 e1
            go_wp2
            go_ret2
            exact ⟨hb, by rw [HE.out]; rfl⟩
    · obtain rfl : k = s.size := by omega
      have hp : parseGo ⟨[], false⟩ (bI s) = some p := by
        rw [← HG.out, ← bI_len, List.drop_length]; rfl
      have HP := Lib.hid hp
      obtain ⟨⟨v, hbx, hr⟩, h1, h2⟩ := HM.out
      have c0 := bk_cell hbx 0 _ rfl
      have HR := Lib.hid hr
      clear hr hbx hp
      go_wp2
      go_ret2
      exact ⟨hb, by rw [HP.out]; exact ⟨_, rfl, HR.out⟩⟩
end Go.Proofs.YtcempbgbdlmjfaaDoor
