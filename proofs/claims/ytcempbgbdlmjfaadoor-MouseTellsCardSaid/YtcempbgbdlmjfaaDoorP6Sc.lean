/-
  parse: the walk of Sane: the ways that end ahead of its loop.
  parse: the walk of Sane behind its first guard (begun).
  parse: the walk of Sane for the states 0 and 3, and Sane whole.
-/
import Derived.Test.YtcempbgbdlmjfaaDoorP6St
namespace Go.Proofs.YtcempbgbdlmjfaaDoor
open Go.RowKit

theorem s_one (w : World) (v : Sv) : SAt (w.alloc (.cells v.cells.toArray 82)) w.heap.size v := heap_alloc_new w _
set_option maxRecDepth 100000 in
set_option maxHeartbeats 1600000 in
theorem sane_neg (v : Sv) (w : World) (hv : v.Ok w) (h : v.s.a < 0) : Calls Tryd.prog 56 #[v.val] w fun e w' => e = .returned (.bool (saneS v.s)) ∧ Below w.heap.size w w' := by
  have n1 := s_one w v
  obtain ⟨⟨a0, inter, over, l, o, text, kind⟩, ib, tb, A, cc⟩ := v
  have N1 := Lib.hid n1; have HV := Lib.hid hv
  have hib : ib.size = inter.length := by have h := hv.tx.ib; simp only at h; rw [ba_size2, h]
  have htb : tb.size = text.length := by have h := hv.tx.tb; simp only at h; rw [ba_size2, h]
  clear n1 hv
  simp only at h
  have he : saneS ⟨a0, inter, over, l, o, text, kind⟩ = false := by
    unfold saneS; simp only [show (decide (0 ≤ a0 ∧ a0 ≤ 9)) = false by simp; omega, Bool.false_and]
  have HE := Lib.hid he
  clear he
  show Calls Tryd.prog 56 #[.agg #[.int .i64 a0, .string ib, .bool over, .slice A l.length cc, .bool o, .string tb, .int .u8 kind]] w _
  go_enter Tryd.func56, Tryd.ntmps56
  go_wp2
  go_ret
  exact ⟨by rw [HE.out]; rfl, (Below.refl _ _).alloc (Nat.le_refl _) _⟩
set_option maxRecDepth 100000 in
set_option maxHeartbeats 1600000 in
theorem sane_big (v : Sv) (w : World) (hv : v.Ok w) (h0 : 0 ≤ v.s.a) (h : 9 < v.s.a) : Calls Tryd.prog 56 #[v.val] w fun e w' => e = .returned (.bool (saneS v.s)) ∧ Below w.heap.size w w' := by
  have n1 := s_one w v
  obtain ⟨⟨a0, inter, over, l, o, text, kind⟩, ib, tb, A, cc⟩ := v
  have N1 := Lib.hid n1; have HV := Lib.hid hv
  have hib : ib.size = inter.length := by have h := hv.tx.ib; simp only at h; rw [ba_size2, h]
  have htb : tb.size = text.length := by have h := hv.tx.tb; simp only at h; rw [ba_size2, h]
  clear n1 hv
  simp only at h h0
  have he : saneS ⟨a0, inter, over, l, o, text, kind⟩ = false := by
    unfold saneS; simp only [show (decide (0 ≤ a0 ∧ a0 ≤ 9)) = false by simp; omega, Bool.false_and]
  have HE := Lib.hid he
  clear he
  show Calls Tryd.prog 56 #[.agg #[.int .i64 a0, .string ib, .bool over, .slice A l.length cc, .bool o, .string tb, .int .u8 kind]] w _
  go_enter Tryd.func56, Tryd.ntmps56
  go_wp2
  go_ret
  exact ⟨by rw [HE.out]; rfl, (Below.refl _ _).alloc (Nat.le_refl _) _⟩
set_option maxRecDepth 100000 in
set_option maxHeartbeats 1600000 in
theorem sane_inter (v : Sv) (w : World) (hv : v.Ok w) (h0 : 0 ≤ v.s.a) (h9 : v.s.a ≤ 9) (hm : v.s.inter.length < 9223372036854775808) (h : 2 < v.s.inter.length) : Calls Tryd.prog 56 #[v.val] w fun e w' => e = .returned (.bool (saneS v.s)) ∧ Below w.heap.size w w' := by
  have n1 := s_one w v
  obtain ⟨⟨a0, inter, over, l, o, text, kind⟩, ib, tb, A, cc⟩ := v
  have N1 := Lib.hid n1; have HV := Lib.hid hv
  have hib : ib.size = inter.length := by have h := hv.tx.ib; simp only at h; rw [ba_size2, h]
  have htb : tb.size = text.length := by have h := hv.tx.tb; simp only at h; rw [ba_size2, h]
  clear n1 hv
  simp only at h h0 h9 hm
  have he : saneS ⟨a0, inter, over, l, o, text, kind⟩ = false := by
    unfold saneS; simp only [show (decide (inter.length ≤ 2)) = false by simp; omega, Bool.false_and, Bool.and_false]
  have HE := Lib.hid he
  clear he
  show Calls Tryd.prog 56 #[.agg #[.int .i64 a0, .string ib, .bool over, .slice A l.length cc, .bool o, .string tb, .int .u8 kind]] w _
  go_enter Tryd.func56, Tryd.ntmps56
  go_wp2
  go_ret
  exact ⟨by rw [HE.out]; rfl, (Below.refl _ _).alloc (Nat.le_refl _) _⟩
set_option maxRecDepth 100000 in
set_option maxHeartbeats 1600000 in
theorem sane_text (v : Sv) (w : World) (hv : v.Ok w) (h0 : 0 ≤ v.s.a) (h9 : v.s.a ≤ 9) (hi : v.s.inter.length ≤ 2) (hm : v.s.text.length < 9223372036854775808) (h : 1024 < v.s.text.length) : Calls Tryd.prog 56 #[v.val] w fun e w' => e = .returned (.bool (saneS v.s)) ∧ Below w.heap.size w w' := by
  have n1 := s_one w v
  obtain ⟨⟨a0, inter, over, l, o, text, kind⟩, ib, tb, A, cc⟩ := v
  have N1 := Lib.hid n1; have HV := Lib.hid hv
  have hib : ib.size = inter.length := by have h := hv.tx.ib; simp only at h; rw [ba_size2, h]
  have htb : tb.size = text.length := by have h := hv.tx.tb; simp only at h; rw [ba_size2, h]
  clear n1 hv
  simp only at h h0 h9 hi hm
  have he : saneS ⟨a0, inter, over, l, o, text, kind⟩ = false := by
    unfold saneS; simp only [show (decide (text.length ≤ 1024)) = false by simp; omega, Bool.false_and, Bool.and_false]
  have HE := Lib.hid he
  clear he
  show Calls Tryd.prog 56 #[.agg #[.int .i64 a0, .string ib, .bool over, .slice A l.length cc, .bool o, .string tb, .int .u8 kind]] w _
  go_enter Tryd.func56, Tryd.ntmps56
  go_wp2
  go_ret
  exact ⟨by rw [HE.out]; rfl, (Below.refl _ _).alloc (Nat.le_refl _) _⟩
set_option maxRecDepth 100000 in
set_option maxHeartbeats 1600000 in
theorem sane_par (v : Sv) (w : World) (hv : v.Ok w) (h0 : 0 ≤ v.s.a) (h9 : v.s.a ≤ 9) (hi : v.s.inter.length ≤ 2) (ht : v.s.text.length ≤ 1024) (h : saneP ⟨v.s.l, v.s.o⟩ = false) : Calls Tryd.prog 56 #[v.val] w fun e w' => e = .returned (.bool (saneS v.s)) ∧ Below w.heap.size w w' := by
  have n1 := s_one w v
  obtain ⟨⟨a0, inter, over, l, o, text, kind⟩, ib, tb, A, cc⟩ := v
  have N1 := Lib.hid n1; have HV := Lib.hid hv
  have hib : ib.size = inter.length := by have h := hv.tx.ib; simp only at h; rw [ba_size2, h]
  have htb : tb.size = text.length := by have h := hv.tx.tb; simp only at h; rw [ba_size2, h]
  clear n1 hv
  simp only at h h0 h9 hi ht
  have hrd := HV.out.rd.next ((Below.refl _ _).alloc (Nat.le_refl _) (.cells #[.int .i64 a0, .string ib, .bool over, .slice A l.length cc, .bool o, .string tb, .int .u8 kind] 82))
  have HRD := Lib.hid hrd
  clear hrd
  have he : saneS ⟨a0, inter, over, l, o, text, kind⟩ = false := by
    unfold saneS; rw [h]; simp only [Bool.false_and, Bool.and_false]
  have HH := Lib.hid h
  clear h
  have HE := Lib.hid he
  clear he
  show Calls Tryd.prog 56 #[.agg #[.int .i64 a0, .string ib, .bool over, .slice A l.length cc, .bool o, .string tb, .int .u8 kind]] w _
  go_enter Tryd.func56, Tryd.ntmps56
  go_wp2_with (go_at_call 38; refine (sanep_any l o _ _ HRD.out).mono ?_; rintro e w1 ⟨rfl, hb1⟩; rw [HH.out])
  go_ret
  exact ⟨by rw [HE.out]; rfl, ((Below.refl _ _).alloc (Nat.le_refl _) _).trans (hb1.mono (by simp))⟩
end Go.Proofs.YtcempbgbdlmjfaaDoor
namespace Go.Proofs.YtcempbgbdlmjfaaDoor
open Go.RowKit

theorem ba_nil {b : ByteArray} (h : bI b = []) : b = ⟨#[]⟩ := by
  obtain ⟨d⟩ := b
  unfold bI at h
  simp only [List.map_eq_nil_iff, Array.toList_eq_nil_iff] at h
  rw [h]
/-- what is left to look at behind k bytes -/
def okMid (x : Int) : Bool := decide (32 ≤ x ∧ x ≤ 47)
def okOne (k : Nat) (x : Int) : Bool := (decide (k = 0) && decide (60 ≤ x ∧ x ≤ 63)) || okMid x
def okFrom : Nat → List Int → Bool
  | 0, l => interOk l
  | k + 1, l => (l.drop (k + 1)).all okMid
theorem okFrom_step (k : Nat) (l : List Int) (h : k < l.length) : okFrom k l = (okOne k l[k] && okFrom (k + 1) l) := by
  cases k with
  | zero =>
    cases l with
    | nil => simp at h
    | cons c cs => simp [okFrom, interOk, okOne, show okMid = fun d => decide (32 ≤ d ∧ d ≤ 47) from rfl]
  | succ k =>
    show (l.drop (k + 1)).all okMid = (okOne (k + 1) l[k + 1] && (l.drop (k + 1 + 1)).all okMid)
    rw [List.drop_eq_getElem_cons h, List.all_cons]
    simp only [okOne, Nat.succ_ne_zero, decide_false, Bool.false_and, Bool.false_or]
set_option maxRecDepth 100000 in
theorem index_str {t : TypeId} (ht : Tryd.prog.underlying t = some .string) (ib : ByteArray) (l : List Int) (hb : bI ib = l) (k : Nat) (hk : k < l.length) (w : World) :
    (Instr.index t (.string ib) (.int .i64 (k : Int))).run Tryd.prog w = .ok (.int .u8 l[k]) w := by
  subst hb
  have hs : k < ib.size := by rw [ba_size2]; exact hk
  rw [run_index_string w t ib .i64 k ht, dif_pos ⟨by omega, by omega⟩]
  congr 2
  simp [bI, ByteArray.getElem_eq_getElem_data]
theorem okFrom_end (l : List Int) : okFrom l.length l = true := by
  cases l with
  | nil => rfl
  | cons c cs => simp [okFrom]
set_option maxRecDepth 100000 in
set_option maxHeartbeats 1600000 in
theorem sane_else (v : Sv) (w : World) (hv : v.Ok w) (h0 : 0 ≤ v.s.a) (h9 : v.s.a ≤ 9) (hi : v.s.inter.length ≤ 2) (ht : v.s.text.length ≤ 1024) (h : saneP ⟨v.s.l, v.s.o⟩ = true) (ha : v.s.a ≠ 0 ∧ v.s.a ≠ 3) : Calls Tryd.prog 56 #[v.val] w fun e w' => e = .returned (.bool (saneS v.s)) ∧ Below w.heap.size w w' := by
  have n1 := s_one w v
  obtain ⟨⟨a0, inter, over, l, o, text, kind⟩, ib, tb, A, cc⟩ := v
  simp only at h h0 h9 ht hi ha
  obtain ⟨e0, e3⟩ := ha
  have f0 : (a0 == 0) = false := beq_eq_false_iff_ne.2 e0
  have f3 : (a0 == 3) = false := beq_eq_false_iff_ne.2 e3
  have he : saneS ⟨a0, inter, over, l, o, text, kind⟩ = okFrom 0 inter := by
    unfold saneS; rw [h]
    have c1 : decide (0 ≤ a0 ∧ a0 ≤ 9) = true := by simp; omega
    have c2 : decide (inter.length ≤ 2) = true := by simp; omega
    have c3 : decide (text.length ≤ 1024) = true := by simp; omega
    simp only [c1, c2, c3, if_neg e0, if_neg e3, Bool.true_and, Bool.and_true]
    rfl
  clear e0 e3
  have N1 := Lib.hid n1; have HV := Lib.hid hv
  have hib : ib.size = inter.length := by have h := hv.tx.ib; simp only at h; rw [ba_size2, h]
  have htb : tb.size = text.length := by have h := hv.tx.tb; simp only at h; rw [ba_size2, h]
  clear n1 hv
  have hrd := HV.out.rd.next ((Below.refl _ _).alloc (Nat.le_refl _) (.cells #[.int .i64 a0, .string ib, .bool over, .slice A l.length cc, .bool o, .string tb, .int .u8 kind] 82))
  have HRD := Lib.hid hrd
  clear hrd
  have HE := Lib.hid he
  clear he
  have HH := Lib.hid h
  clear h
  show Calls Tryd.prog 56 #[.agg #[.int .i64 a0, .string ib, .bool over, .slice A l.length cc, .bool o, .string tb, .int .u8 kind]] w _
  go_enter Tryd.func56, Tryd.ntmps56
  go_wp2_with (go_at_call 38; refine (sanep_any l o _ _ HRD.out).mono ?_; rintro e w1 ⟨rfl, hb1⟩; rw [HH.out]; obtain ⟨p0, p1, p2, p3, p4, p5, p6, _⟩ := (N1.out.past (hb1.mono (by simp))).cells; simp only at p0 p1 p2 p3 p4 p5 p6; have HB1 := Lib.hid hb1; clear hb1)
  go_loopw [35] (fun i wr => ∃ k : Nat, k ≤ inter.length ∧ i = .int .i64 k ∧ okFrom k inter = okFrom 0 inter ∧ wr = w1) (fun i _ => inter.length - (intOf i).toNat)
  case atStart => exact ⟨0, Nat.zero_le _, rfl, rfl, rfl⟩
  case round =>
    obtain ⟨k, hk, rfl, hg, rfl⟩ := hrel
    have HG := Lib.hid hg; clear hg
    by_cases hlt : k < inter.length
    · have hix := index_str Tryd.underlying9 ib inter HV.out.tx.ib k hlt wr
      have hst := Lib.hid (okFrom_step k inter hlt)
      obtain ⟨x, hx⟩ : ∃ x, inter[k] = x := ⟨_, rfl⟩
      rw [hx] at hix hst
      clear hx
      have fin : okOne k x = false → okFrom 0 inter = false := fun h => by rw [← HG.out, hst.out, h]; rfl
      have nxt : okOne k x = true → okFrom (k + 1) inter = okFrom 0 inter := fun h => by rw [← HG.out, hst.out, h]; rfl
      by_cases hk0 : k = 0
      · subst hk0
        have hix0 : (Instr.index 9 (.string ib) (.int .i64 0)).run Tryd.prog wr = .ok (.int .u8 x) wr := hix
        clear hix
        by_cases h60 : 60 ≤ x
        · by_cases h63 : x ≤ 63
          · go_wp2
            go_roundw
            case rel => exact ⟨0 + 1, by omega, by go_num, nxt (by simp [okOne, h60, h63]), trivial⟩
            case measure => simp [intOf]; omega
          · have h63' : decide (x ≤ 63) = false := by simp; omega
            have h32 : decide (x < 32) = false := by simp; omega
            go_wp2
            go_ret
            exact ⟨by rw [HE.out, fin (by simp [okOne, okMid]; omega)]; rfl, ((Below.refl _ _).alloc (Nat.le_refl _) _).trans (HB1.out.mono (by simp))⟩
        · have h60' : decide (60 ≤ x) = false := by simp; omega
          by_cases h32 : x < 32
          · have h32' : decide (x < 32) = true := by simp; omega
            go_wp2
            go_ret
            exact ⟨by rw [HE.out, fin (by simp [okOne, okMid]; omega)]; rfl, ((Below.refl _ _).alloc (Nat.le_refl _) _).trans (HB1.out.mono (by simp))⟩
          by_cases h47 : 47 < x
          · have h32' : decide (x < 32) = false := by simp; omega
            go_wp2
            go_ret
            exact ⟨by rw [HE.out, fin (by simp [okOne, okMid]; omega)]; rfl, ((Below.refl _ _).alloc (Nat.le_refl _) _).trans (HB1.out.mono (by simp))⟩
          go_wp2
          go_roundw
          case rel => exact ⟨0 + 1, by omega, by go_num, nxt (by simp [okOne, okMid]; omega), trivial⟩
          case measure => simp [intOf]; omega
      · have hk1 : ((k : Int) == 0) = false := beq_eq_false_iff_ne.2 (by omega)
        by_cases h32 : x < 32
        · have h32' : decide (x < 32) = true := by simp; omega
          go_wp2
          go_ret
          exact ⟨by rw [HE.out, fin (by simp [okOne, okMid]; omega)]; rfl, ((Below.refl _ _).alloc (Nat.le_refl _) _).trans (HB1.out.mono (by simp))⟩
        by_cases h47 : 47 < x
        · have h32' : decide (x < 32) = false := by simp; omega
          go_wp2
          go_ret
          exact ⟨by rw [HE.out, fin (by simp [okOne, okMid]; omega)]; rfl, ((Below.refl _ _).alloc (Nat.le_refl _) _).trans (HB1.out.mono (by simp))⟩
        go_wp2
        go_roundw
        case rel => exact ⟨k + 1, by omega, by go_num, nxt (by simp [okOne, okMid]; omega), trivial⟩
        case measure => simp [intOf]; omega
    · obtain rfl : k = inter.length := by omega
      go_wp2
      go_ret
      exact ⟨by rw [HE.out, ← HG.out, okFrom_end]; rfl, ((Below.refl _ _).alloc (Nat.le_refl _) _).trans (HB1.out.mono (by simp))⟩
end Go.Proofs.YtcempbgbdlmjfaaDoor
namespace Go.Proofs.YtcempbgbdlmjfaaDoor
open Go.RowKit

theorem ba_list (b : ByteArray) : b.toList = [] ↔ bI b = [] := by
  rw [ByteArray.toList_eq]
  unfold bI
  rw [List.map_eq_nil_iff]
theorem str_some {b : ByteArray} {l : List Int} (h : bI b = l) (hl : l ≠ []) : b.toList.isEmpty = false := by
  rw [List.isEmpty_eq_false_iff]
  exact fun e => hl (by rw [← h]; exact (ba_list b).1 e)
theorem str_none {b : ByteArray} (h : bI b = []) : b.toList.isEmpty = true := by
  rw [List.isEmpty_iff]
  exact (ba_list b).2 h
set_option maxRecDepth 100000 in
set_option maxHeartbeats 1600000 in
theorem sane_3n (v : Sv) (w : World) (hv : v.Ok w) (hi : v.s.inter.length ≤ 2) (ht : v.s.text.length ≤ 1024) (h : saneP ⟨v.s.l, v.s.o⟩ = true) (ha : v.s.a = 3) (hne : v.s.inter ≠ []) : Calls Tryd.prog 56 #[v.val] w fun e w' => e = .returned (.bool (saneS v.s)) ∧ Below w.heap.size w w' := by
  have n1 := s_one w v
  obtain ⟨⟨a0, inter, over, l, o, text, kind⟩, ib, tb, A, cc⟩ := v
  simp only at h ht hi ha
  simp only at hne
  subst ha
  have he : saneS ⟨3, inter, over, l, o, text, kind⟩ = false := by
    cases e : saneS ⟨3, inter, over, l, o, text, kind⟩ with
    | false => rfl
    | true => exact absurd (((saneS_iff _).1 e).2.2.2.2.2.2 rfl) hne
  have N1 := Lib.hid n1; have HV := Lib.hid hv
  have hib : ib.size = inter.length := by have h := hv.tx.ib; simp only at h; rw [ba_size2, h]
  have htb : tb.size = text.length := by have h := hv.tx.tb; simp only at h; rw [ba_size2, h]
  clear n1 hv
  have hrd := HV.out.rd.next ((Below.refl _ _).alloc (Nat.le_refl _) (.cells #[.int .i64 3, .string ib, .bool over, .slice A l.length cc, .bool o, .string tb, .int .u8 kind] 82))
  have HRD := Lib.hid hrd
  clear hrd
  have HE := Lib.hid he
  clear he
  have HH := Lib.hid h
  clear h
  have hse := str_some HV.out.tx.ib hne
  clear hne
  show Calls Tryd.prog 56 #[.agg #[.int .i64 3, .string ib, .bool over, .slice A l.length cc, .bool o, .string tb, .int .u8 kind]] w _
  go_enter Tryd.func56, Tryd.ntmps56
  go_wp2_with (go_at_call 38; refine (sanep_any l o _ _ HRD.out).mono ?_; rintro e w1 ⟨rfl, hb1⟩; rw [HH.out]; obtain ⟨p0, p1, p2, p3, p4, p5, p6, _⟩ := (N1.out.past (hb1.mono (by simp))).cells; simp only at p0 p1 p2 p3 p4 p5 p6; have HB1 := Lib.hid hb1; clear hb1)
  go_loopw [35] (fun i wr => ∃ k : Nat, k ≤ inter.length ∧ i = .int .i64 k ∧ wr = w1) (fun i _ => inter.length - (intOf i).toNat)
  case atStart => exact ⟨0, Nat.zero_le _, rfl, rfl⟩
  case round =>
    obtain ⟨k, hk, rfl, rfl⟩ := hrel
    by_cases hlt : k < inter.length
    · have hix := index_str Tryd.underlying9 ib inter HV.out.tx.ib k hlt wr
      obtain ⟨x, hx⟩ : ∃ x, inter[k] = x := ⟨_, rfl⟩
      rw [hx] at hix
      clear hx
      by_cases hk0 : k = 0
      · subst hk0
        have hix0 : (Instr.index 9 (.string ib) (.int .i64 0)).run Tryd.prog wr = .ok (.int .u8 x) wr := hix
        clear hix
        by_cases h60 : 60 ≤ x
        · by_cases h63 : x ≤ 63
          · go_wp2
            go_roundw
            case rel => exact ⟨0 + 1, by omega, by go_num, trivial⟩
            case measure => simp [intOf]; omega
          · have h63' : decide (x ≤ 63) = false := by simp; omega
            have h32 : decide (x < 32) = false := by simp; omega
            go_wp2
            go_ret
            exact ⟨by rw [HE.out]; rfl, ((Below.refl _ _).alloc (Nat.le_refl _) _).trans (HB1.out.mono (by simp))⟩
        · have h60' : decide (60 ≤ x) = false := by simp; omega
          by_cases h32 : x < 32
          · have h32' : decide (x < 32) = true := by simp; omega
            go_wp2
            go_ret
            exact ⟨by rw [HE.out]; rfl, ((Below.refl _ _).alloc (Nat.le_refl _) _).trans (HB1.out.mono (by simp))⟩
          by_cases h47 : 47 < x
          · have h32' : decide (x < 32) = false := by simp; omega
            go_wp2
            go_ret
            exact ⟨by rw [HE.out]; rfl, ((Below.refl _ _).alloc (Nat.le_refl _) _).trans (HB1.out.mono (by simp))⟩
          go_wp2
          go_roundw
          case rel => exact ⟨0 + 1, by omega, by go_num, trivial⟩
          case measure => simp [intOf]; omega
      · have hk1 : ((k : Int) == 0) = false := beq_eq_false_iff_ne.2 (by omega)
        by_cases h32 : x < 32
        · have h32' : decide (x < 32) = true := by simp; omega
          go_wp2
          go_ret
          exact ⟨by rw [HE.out]; rfl, ((Below.refl _ _).alloc (Nat.le_refl _) _).trans (HB1.out.mono (by simp))⟩
        by_cases h47 : 47 < x
        · have h32' : decide (x < 32) = false := by simp; omega
          go_wp2
          go_ret
          exact ⟨by rw [HE.out]; rfl, ((Below.refl _ _).alloc (Nat.le_refl _) _).trans (HB1.out.mono (by simp))⟩
        go_wp2
        go_roundw
        case rel => exact ⟨k + 1, by omega, by go_num, trivial⟩
        case measure => simp [intOf]; omega
    · obtain rfl : k = inter.length := by omega
      go_wp2
      go_ret
      exact ⟨by rw [HE.out]; rfl, ((Below.refl _ _).alloc (Nat.le_refl _) _).trans (HB1.out.mono (by simp))⟩
set_option maxRecDepth 100000 in
set_option maxHeartbeats 1600000 in
theorem sane_0n (v : Sv) (w : World) (hv : v.Ok w) (hi : v.s.inter.length ≤ 2) (ht : v.s.text.length ≤ 1024) (h : saneP ⟨v.s.l, v.s.o⟩ = true) (ha : v.s.a = 0) (hne : v.s.inter ≠ []) : Calls Tryd.prog 56 #[v.val] w fun e w' => e = .returned (.bool (saneS v.s)) ∧ Below w.heap.size w w' := by
  have n1 := s_one w v
  obtain ⟨⟨a0, inter, over, l, o, text, kind⟩, ib, tb, A, cc⟩ := v
  simp only at h ht hi ha
  simp only at hne
  subst ha
  have he : saneS ⟨0, inter, over, l, o, text, kind⟩ = false := by
    cases e : saneS ⟨0, inter, over, l, o, text, kind⟩ with
    | false => rfl
    | true => exact absurd (((saneS_iff _).1 e).2.2.2.2.2.1 rfl).1 hne
  have N1 := Lib.hid n1; have HV := Lib.hid hv
  have hib : ib.size = inter.length := by have h := hv.tx.ib; simp only at h; rw [ba_size2, h]
  have htb : tb.size = text.length := by have h := hv.tx.tb; simp only at h; rw [ba_size2, h]
  clear n1 hv
  have hrd := HV.out.rd.next ((Below.refl _ _).alloc (Nat.le_refl _) (.cells #[.int .i64 0, .string ib, .bool over, .slice A l.length cc, .bool o, .string tb, .int .u8 kind] 82))
  have HRD := Lib.hid hrd
  clear hrd
  have HE := Lib.hid he
  clear he
  have HH := Lib.hid h
  clear h
  have hse := str_some HV.out.tx.ib hne
  clear hne
  show Calls Tryd.prog 56 #[.agg #[.int .i64 0, .string ib, .bool over, .slice A l.length cc, .bool o, .string tb, .int .u8 kind]] w _
  go_enter Tryd.func56, Tryd.ntmps56
  go_wp2_with (go_at_call 38; refine (sanep_any l o _ _ HRD.out).mono ?_; rintro e w1 ⟨rfl, hb1⟩; rw [HH.out]; obtain ⟨p0, p1, p2, p3, p4, p5, p6, _⟩ := (N1.out.past (hb1.mono (by simp))).cells; simp only at p0 p1 p2 p3 p4 p5 p6; have HB1 := Lib.hid hb1; clear hb1)
  go_loopw [35] (fun i wr => ∃ k : Nat, k ≤ inter.length ∧ i = .int .i64 k ∧ wr = w1) (fun i _ => inter.length - (intOf i).toNat)
  case atStart => exact ⟨0, Nat.zero_le _, rfl, rfl⟩
  case round =>
    obtain ⟨k, hk, rfl, rfl⟩ := hrel
    by_cases hlt : k < inter.length
    · have hix := index_str Tryd.underlying9 ib inter HV.out.tx.ib k hlt wr
      obtain ⟨x, hx⟩ : ∃ x, inter[k] = x := ⟨_, rfl⟩
      rw [hx] at hix
      clear hx
      by_cases hk0 : k = 0
      · subst hk0
        have hix0 : (Instr.index 9 (.string ib) (.int .i64 0)).run Tryd.prog wr = .ok (.int .u8 x) wr := hix
        clear hix
        by_cases h60 : 60 ≤ x
        · by_cases h63 : x ≤ 63
          · go_wp2
            go_roundw
            case rel => exact ⟨0 + 1, by omega, by go_num, trivial⟩
            case measure => simp [intOf]; omega
          · have h63' : decide (x ≤ 63) = false := by simp; omega
            have h32 : decide (x < 32) = false := by simp; omega
            go_wp2
            go_ret
            exact ⟨by rw [HE.out]; rfl, ((Below.refl _ _).alloc (Nat.le_refl _) _).trans (HB1.out.mono (by simp))⟩
        · have h60' : decide (60 ≤ x) = false := by simp; omega
          by_cases h32 : x < 32
          · have h32' : decide (x < 32) = true := by simp; omega
            go_wp2
            go_ret
            exact ⟨by rw [HE.out]; rfl, ((Below.refl _ _).alloc (Nat.le_refl _) _).trans (HB1.out.mono (by simp))⟩
          by_cases h47 : 47 < x
          · have h32' : decide (x < 32) = false := by simp; omega
            go_wp2
            go_ret
            exact ⟨by rw [HE.out]; rfl, ((Below.refl _ _).alloc (Nat.le_refl _) _).trans (HB1.out.mono (by simp))⟩
          go_wp2
          go_roundw
          case rel => exact ⟨0 + 1, by omega, by go_num, trivial⟩
          case measure => simp [intOf]; omega
      · have hk1 : ((k : Int) == 0) = false := beq_eq_false_iff_ne.2 (by omega)
        by_cases h32 : x < 32
        · have h32' : decide (x < 32) = true := by simp; omega
          go_wp2
          go_ret
          exact ⟨by rw [HE.out]; rfl, ((Below.refl _ _).alloc (Nat.le_refl _) _).trans (HB1.out.mono (by simp))⟩
        by_cases h47 : 47 < x
        · have h32' : decide (x < 32) = false := by simp; omega
          go_wp2
          go_ret
          exact ⟨by rw [HE.out]; rfl, ((Below.refl _ _).alloc (Nat.le_refl _) _).trans (HB1.out.mono (by simp))⟩
        go_wp2
        go_roundw
        case rel => exact ⟨k + 1, by omega, by go_num, trivial⟩
        case measure => simp [intOf]; omega
    · obtain rfl : k = inter.length := by omega
      go_wp2
      go_ret
      exact ⟨by rw [HE.out]; rfl, ((Below.refl _ _).alloc (Nat.le_refl _) _).trans (HB1.out.mono (by simp))⟩
set_option maxRecDepth 100000 in
set_option maxHeartbeats 1600000 in
theorem sane_3e (v : Sv) (w : World) (hv : v.Ok w) (hi : v.s.inter.length ≤ 2) (ht : v.s.text.length ≤ 1024) (h : saneP ⟨v.s.l, v.s.o⟩ = true) (ha : v.s.a = 3) (hin : v.s.inter = []) : Calls Tryd.prog 56 #[v.val] w fun e w' => e = .returned (.bool (saneS v.s)) ∧ Below w.heap.size w w' := by
  have n1 := s_one w v
  obtain ⟨⟨a0, inter, over, l, o, text, kind⟩, ib, tb, A, cc⟩ := v
  simp only at h ht hi ha
  simp only at hin
  subst ha
  have he : saneS ⟨3, inter, over, l, o, text, kind⟩ = true := by
    rw [saneS_iff]
    exact ⟨by simp, hi, ht, h, by rw [hin]; rfl, fun e => by simp at e, fun _ => hin⟩
  have N1 := Lib.hid n1; have HV := Lib.hid hv
  have hib : ib.size = inter.length := by have h := hv.tx.ib; simp only at h; rw [ba_size2, h]
  have htb : tb.size = text.length := by have h := hv.tx.tb; simp only at h; rw [ba_size2, h]
  clear n1 hv
  have hrd := HV.out.rd.next ((Below.refl _ _).alloc (Nat.le_refl _) (.cells #[.int .i64 3, .string ib, .bool over, .slice A l.length cc, .bool o, .string tb, .int .u8 kind] 82))
  have HRD := Lib.hid hrd
  clear hrd
  have HE := Lib.hid he
  clear he
  have HH := Lib.hid h
  clear h
  have hie := str_none (b := ib) (by have h := HV.out.tx.ib; simp only at h; rw [h, hin])
  have hz : ib.size = 0 := by rw [hib, hin]; rfl
  clear hib
  show Calls Tryd.prog 56 #[.agg #[.int .i64 3, .string ib, .bool over, .slice A l.length cc, .bool o, .string tb, .int .u8 kind]] w _
  go_enter Tryd.func56, Tryd.ntmps56
  go_wp2_with (go_at_call 38; refine (sanep_any l o _ _ HRD.out).mono ?_; rintro e w1 ⟨rfl, hb1⟩; rw [HH.out]; obtain ⟨p0, p1, p2, p3, p4, p5, p6, _⟩ := (N1.out.past (hb1.mono (by simp))).cells; simp only at p0 p1 p2 p3 p4 p5 p6; have HB1 := Lib.hid hb1; clear hb1)
  go_loopw [35] (fun i wr => i = .int .i64 0 ∧ wr = w1) (fun _ _ => 0)
  case atStart => exact ⟨rfl, rfl⟩
  case round =>
    obtain ⟨rfl, rfl⟩ := hrel
    go_wp2
    go_ret
    exact ⟨by rw [HE.out]; rfl, ((Below.refl _ _).alloc (Nat.le_refl _) _).trans (HB1.out.mono (by simp))⟩
set_option maxRecDepth 100000 in
set_option maxHeartbeats 1600000 in
theorem sane_0o (v : Sv) (w : World) (hv : v.Ok w) (hi : v.s.inter.length ≤ 2) (ht : v.s.text.length ≤ 1024) (h : saneP ⟨v.s.l, v.s.o⟩ = true) (ha : v.s.a = 0) (hin : v.s.inter = []) (hx : v.s.over = true) : Calls Tryd.prog 56 #[v.val] w fun e w' => e = .returned (.bool (saneS v.s)) ∧ Below w.heap.size w w' := by
  have n1 := s_one w v
  obtain ⟨⟨a0, inter, over, l, o, text, kind⟩, ib, tb, A, cc⟩ := v
  simp only at h ht hi ha
  simp only at hin
  simp only at hx
  subst hx
  subst ha
  have he : saneS ⟨0, inter, true, l, o, text, kind⟩ = false := by
    cases e : saneS ⟨0, inter, true, l, o, text, kind⟩ with
    | false => rfl
    | true =>
      obtain ⟨_, e1, e2, e3, e4⟩ := ((saneS_iff _).1 e).2.2.2.2.2.1 rfl
      simp at e1
  have N1 := Lib.hid n1; have HV := Lib.hid hv
  have hib : ib.size = inter.length := by have h := hv.tx.ib; simp only at h; rw [ba_size2, h]
  have htb : tb.size = text.length := by have h := hv.tx.tb; simp only at h; rw [ba_size2, h]
  clear n1 hv
  have hrd := HV.out.rd.next ((Below.refl _ _).alloc (Nat.le_refl _) (.cells #[.int .i64 0, .string ib, .bool true, .slice A l.length cc, .bool o, .string tb, .int .u8 kind] 82))
  have HRD := Lib.hid hrd
  clear hrd
  have HE := Lib.hid he
  clear he
  have HH := Lib.hid h
  clear h
  have hie := str_none (b := ib) (by have h := HV.out.tx.ib; simp only at h; rw [h, hin])
  have hz : ib.size = 0 := by rw [hib, hin]; rfl
  clear hib
  show Calls Tryd.prog 56 #[.agg #[.int .i64 0, .string ib, .bool true, .slice A l.length cc, .bool o, .string tb, .int .u8 kind]] w _
  go_enter Tryd.func56, Tryd.ntmps56
  go_wp2_with (go_at_call 38; refine (sanep_any l o _ _ HRD.out).mono ?_; rintro e w1 ⟨rfl, hb1⟩; rw [HH.out]; obtain ⟨p0, p1, p2, p3, p4, p5, p6, _⟩ := (N1.out.past (hb1.mono (by simp))).cells; simp only at p0 p1 p2 p3 p4 p5 p6; have HB1 := Lib.hid hb1; clear hb1)
  go_loopw [35] (fun i wr => i = .int .i64 0 ∧ wr = w1) (fun _ _ => 0)
  case atStart => exact ⟨rfl, rfl⟩
  case round =>
    obtain ⟨rfl, rfl⟩ := hrel
    go_wp2
    go_ret
    exact ⟨by rw [HE.out]; rfl, ((Below.refl _ _).alloc (Nat.le_refl _) _).trans (HB1.out.mono (by simp))⟩
set_option maxRecDepth 100000 in
set_option maxHeartbeats 1600000 in
theorem sane_0l (v : Sv) (w : World) (hv : v.Ok w) (hi : v.s.inter.length ≤ 2) (ht : v.s.text.length ≤ 1024) (h : saneP ⟨v.s.l, v.s.o⟩ = true) (ha : v.s.a = 0) (hin : v.s.inter = []) (hx : v.s.over = false) (hl : v.s.l ≠ []) : Calls Tryd.prog 56 #[v.val] w fun e w' => e = .returned (.bool (saneS v.s)) ∧ Below w.heap.size w w' := by
  have n1 := s_one w v
  obtain ⟨⟨a0, inter, over, l, o, text, kind⟩, ib, tb, A, cc⟩ := v
  simp only at h ht hi ha
  simp only at hin
  simp only at hx hl
  subst hx
  subst ha
  have he : saneS ⟨0, inter, false, l, o, text, kind⟩ = false := by
    cases e : saneS ⟨0, inter, false, l, o, text, kind⟩ with
    | false => rfl
    | true =>
      obtain ⟨_, e1, e2, e3, e4⟩ := ((saneS_iff _).1 e).2.2.2.2.2.1 rfl
      exact absurd e2 hl
  have N1 := Lib.hid n1; have HV := Lib.hid hv
  have hib : ib.size = inter.length := by have h := hv.tx.ib; simp only at h; rw [ba_size2, h]
  have htb : tb.size = text.length := by have h := hv.tx.tb; simp only at h; rw [ba_size2, h]
  clear n1 hv
  have hrd := HV.out.rd.next ((Below.refl _ _).alloc (Nat.le_refl _) (.cells #[.int .i64 0, .string ib, .bool false, .slice A l.length cc, .bool o, .string tb, .int .u8 kind] 82))
  have HRD := Lib.hid hrd
  clear hrd
  have HE := Lib.hid he
  clear he
  have HH := Lib.hid h
  clear h
  have hie := str_none (b := ib) (by have h := HV.out.tx.ib; simp only at h; rw [h, hin])
  have hz : ib.size = 0 := by rw [hib, hin]; rfl
  clear hib
  have hl0 : ((l.length : Int) == 0) = false := beq_eq_false_iff_ne.2 (by have := List.length_pos_iff.2 hl; omega)
  clear hl
  show Calls Tryd.prog 56 #[.agg #[.int .i64 0, .string ib, .bool false, .slice A l.length cc, .bool o, .string tb, .int .u8 kind]] w _
  go_enter Tryd.func56, Tryd.ntmps56
  go_wp2_with (go_at_call 38; refine (sanep_any l o _ _ HRD.out).mono ?_; rintro e w1 ⟨rfl, hb1⟩; rw [HH.out]; obtain ⟨p0, p1, p2, p3, p4, p5, p6, _⟩ := (N1.out.past (hb1.mono (by simp))).cells; simp only at p0 p1 p2 p3 p4 p5 p6; have HB1 := Lib.hid hb1; clear hb1)
  go_loopw [35] (fun i wr => i = .int .i64 0 ∧ wr = w1) (fun _ _ => 0)
  case atStart => exact ⟨rfl, rfl⟩
  case round =>
    obtain ⟨rfl, rfl⟩ := hrel
    go_wp2
    go_ret
    exact ⟨by rw [HE.out]; rfl, ((Below.refl _ _).alloc (Nat.le_refl _) _).trans (HB1.out.mono (by simp))⟩
set_option maxRecDepth 100000 in
set_option maxHeartbeats 1600000 in
theorem sane_0t (v : Sv) (w : World) (hv : v.Ok w) (hi : v.s.inter.length ≤ 2) (ht : v.s.text.length ≤ 1024) (h : saneP ⟨v.s.l, v.s.o⟩ = true) (ha : v.s.a = 0) (hin : v.s.inter = []) (hx : v.s.over = false) (hl : v.s.l = []) (hte : v.s.text ≠ []) : Calls Tryd.prog 56 #[v.val] w fun e w' => e = .returned (.bool (saneS v.s)) ∧ Below w.heap.size w w' := by
  have n1 := s_one w v
  obtain ⟨⟨a0, inter, over, l, o, text, kind⟩, ib, tb, A, cc⟩ := v
  simp only at h ht hi ha
  simp only at hin
  simp only at hx hl hte
  subst hx
  subst ha
  have he : saneS ⟨0, inter, false, l, o, text, kind⟩ = false := by
    cases e : saneS ⟨0, inter, false, l, o, text, kind⟩ with
    | false => rfl
    | true =>
      obtain ⟨_, e1, e2, e3, e4⟩ := ((saneS_iff _).1 e).2.2.2.2.2.1 rfl
      exact absurd e3 hte
  have N1 := Lib.hid n1; have HV := Lib.hid hv
  have hib : ib.size = inter.length := by have h := hv.tx.ib; simp only at h; rw [ba_size2, h]
  have htb : tb.size = text.length := by have h := hv.tx.tb; simp only at h; rw [ba_size2, h]
  clear n1 hv
  have hrd := HV.out.rd.next ((Below.refl _ _).alloc (Nat.le_refl _) (.cells #[.int .i64 0, .string ib, .bool false, .slice A l.length cc, .bool o, .string tb, .int .u8 kind] 82))
  have HRD := Lib.hid hrd
  clear hrd
  have HE := Lib.hid he
  clear he
  have HH := Lib.hid h
  clear h
  have hie := str_none (b := ib) (by have h := HV.out.tx.ib; simp only at h; rw [h, hin])
  have hz : ib.size = 0 := by rw [hib, hin]; rfl
  clear hib
  have hl0 : ((l.length : Int) == 0) = true := beq_iff_eq.2 (by rw [hl]; rfl)
  have hts := str_some HV.out.tx.tb hte
  clear hl hte
  show Calls Tryd.prog 56 #[.agg #[.int .i64 0, .string ib, .bool false, .slice A l.length cc, .bool o, .string tb, .int .u8 kind]] w _
  go_enter Tryd.func56, Tryd.ntmps56
  go_wp2_with (go_at_call 38; refine (sanep_any l o _ _ HRD.out).mono ?_; rintro e w1 ⟨rfl, hb1⟩; rw [HH.out]; obtain ⟨p0, p1, p2, p3, p4, p5, p6, _⟩ := (N1.out.past (hb1.mono (by simp))).cells; simp only at p0 p1 p2 p3 p4 p5 p6; have HB1 := Lib.hid hb1; clear hb1)
  go_loopw [35] (fun i wr => i = .int .i64 0 ∧ wr = w1) (fun _ _ => 0)
  case atStart => exact ⟨rfl, rfl⟩
  case round =>
    obtain ⟨rfl, rfl⟩ := hrel
    go_wp2
    go_ret
    exact ⟨by rw [HE.out]; rfl, ((Below.refl _ _).alloc (Nat.le_refl _) _).trans (HB1.out.mono (by simp))⟩
set_option maxRecDepth 100000 in
set_option maxHeartbeats 1600000 in
theorem sane_0k (v : Sv) (w : World) (hv : v.Ok w) (hi : v.s.inter.length ≤ 2) (ht : v.s.text.length ≤ 1024) (h : saneP ⟨v.s.l, v.s.o⟩ = true) (ha : v.s.a = 0) (hin : v.s.inter = []) (hx : v.s.over = false) (hl : v.s.l = []) (hte : v.s.text = []) (hk : v.s.kind ≠ 0) : Calls Tryd.prog 56 #[v.val] w fun e w' => e = .returned (.bool (saneS v.s)) ∧ Below w.heap.size w w' := by
  have n1 := s_one w v
  obtain ⟨⟨a0, inter, over, l, o, text, kind⟩, ib, tb, A, cc⟩ := v
  simp only at h ht hi ha
  simp only at hin
  simp only at hx hl hte hk
  subst hx
  subst ha
  have he : saneS ⟨0, inter, false, l, o, text, kind⟩ = false := by
    cases e : saneS ⟨0, inter, false, l, o, text, kind⟩ with
    | false => rfl
    | true =>
      obtain ⟨_, e1, e2, e3, e4⟩ := ((saneS_iff _).1 e).2.2.2.2.2.1 rfl
      exact absurd e4 hk
  have N1 := Lib.hid n1; have HV := Lib.hid hv
  have hib : ib.size = inter.length := by have h := hv.tx.ib; simp only at h; rw [ba_size2, h]
  have htb : tb.size = text.length := by have h := hv.tx.tb; simp only at h; rw [ba_size2, h]
  clear n1 hv
  have hrd := HV.out.rd.next ((Below.refl _ _).alloc (Nat.le_refl _) (.cells #[.int .i64 0, .string ib, .bool false, .slice A l.length cc, .bool o, .string tb, .int .u8 kind] 82))
  have HRD := Lib.hid hrd
  clear hrd
  have HE := Lib.hid he
  clear he
  have HH := Lib.hid h
  clear h
  have hie := str_none (b := ib) (by have h := HV.out.tx.ib; simp only at h; rw [h, hin])
  have hz : ib.size = 0 := by rw [hib, hin]; rfl
  clear hib
  have hl0 : ((l.length : Int) == 0) = true := beq_iff_eq.2 (by rw [hl]; rfl)
  have hts := str_none (b := tb) (by have h := HV.out.tx.tb; simp only at h; rw [h, hte])
  have hk0 : (kind == 0) = false := beq_eq_false_iff_ne.2 hk
  clear hl hte hk
  show Calls Tryd.prog 56 #[.agg #[.int .i64 0, .string ib, .bool false, .slice A l.length cc, .bool o, .string tb, .int .u8 kind]] w _
  go_enter Tryd.func56, Tryd.ntmps56
  go_wp2_with (go_at_call 38; refine (sanep_any l o _ _ HRD.out).mono ?_; rintro e w1 ⟨rfl, hb1⟩; rw [HH.out]; obtain ⟨p0, p1, p2, p3, p4, p5, p6, _⟩ := (N1.out.past (hb1.mono (by simp))).cells; simp only at p0 p1 p2 p3 p4 p5 p6; have HB1 := Lib.hid hb1; clear hb1)
  go_loopw [35] (fun i wr => i = .int .i64 0 ∧ wr = w1) (fun _ _ => 0)
  case atStart => exact ⟨rfl, rfl⟩
  case round =>
    obtain ⟨rfl, rfl⟩ := hrel
    go_wp2
    go_ret
    exact ⟨by rw [HE.out]; rfl, ((Below.refl _ _).alloc (Nat.le_refl _) _).trans (HB1.out.mono (by simp))⟩
set_option maxRecDepth 100000 in
set_option maxHeartbeats 1600000 in
theorem sane_0z (v : Sv) (w : World) (hv : v.Ok w) (hi : v.s.inter.length ≤ 2) (ht : v.s.text.length ≤ 1024) (h : saneP ⟨v.s.l, v.s.o⟩ = true) (ha : v.s.a = 0) (hin : v.s.inter = []) (hx : v.s.over = false) (hl : v.s.l = []) (hte : v.s.text = []) (hk : v.s.kind = 0) : Calls Tryd.prog 56 #[v.val] w fun e w' => e = .returned (.bool (saneS v.s)) ∧ Below w.heap.size w w' := by
  have n1 := s_one w v
  obtain ⟨⟨a0, inter, over, l, o, text, kind⟩, ib, tb, A, cc⟩ := v
  simp only at h ht hi ha
  simp only at hin
  simp only at hx hl hte hk
  subst hx
  subst ha
  have he : saneS ⟨0, inter, false, l, o, text, kind⟩ = true := by
    rw [saneS_iff]
    exact ⟨by simp, hi, ht, h, by rw [hin]; rfl, fun _ => ⟨hin, rfl, hl, hte, hk⟩, fun _ => hin⟩
  have N1 := Lib.hid n1; have HV := Lib.hid hv
  have hib : ib.size = inter.length := by have h := hv.tx.ib; simp only at h; rw [ba_size2, h]
  have htb : tb.size = text.length := by have h := hv.tx.tb; simp only at h; rw [ba_size2, h]
  clear n1 hv
  have hrd := HV.out.rd.next ((Below.refl _ _).alloc (Nat.le_refl _) (.cells #[.int .i64 0, .string ib, .bool false, .slice A l.length cc, .bool o, .string tb, .int .u8 kind] 82))
  have HRD := Lib.hid hrd
  clear hrd
  have HE := Lib.hid he
  clear he
  have HH := Lib.hid h
  clear h
  have hie := str_none (b := ib) (by have h := HV.out.tx.ib; simp only at h; rw [h, hin])
  have hz : ib.size = 0 := by rw [hib, hin]; rfl
  clear hib
  have hl0 : ((l.length : Int) == 0) = true := beq_iff_eq.2 (by rw [hl]; rfl)
  have hts := str_none (b := tb) (by have h := HV.out.tx.tb; simp only at h; rw [h, hte])
  have hk0 : (kind == 0) = true := beq_iff_eq.2 hk
  clear hl hte hk
  show Calls Tryd.prog 56 #[.agg #[.int .i64 0, .string ib, .bool false, .slice A l.length cc, .bool o, .string tb, .int .u8 kind]] w _
  go_enter Tryd.func56, Tryd.ntmps56
  go_wp2_with (go_at_call 38; refine (sanep_any l o _ _ HRD.out).mono ?_; rintro e w1 ⟨rfl, hb1⟩; rw [HH.out]; obtain ⟨p0, p1, p2, p3, p4, p5, p6, _⟩ := (N1.out.past (hb1.mono (by simp))).cells; simp only at p0 p1 p2 p3 p4 p5 p6; have HB1 := Lib.hid hb1; clear hb1)
  go_loopw [35] (fun i wr => i = .int .i64 0 ∧ wr = w1) (fun _ _ => 0)
  case atStart => exact ⟨rfl, rfl⟩
  case round =>
    obtain ⟨rfl, rfl⟩ := hrel
    go_wp2
    go_ret
    exact ⟨by rw [HE.out]; rfl, ((Below.refl _ _).alloc (Nat.le_refl _) _).trans (HB1.out.mono (by simp))⟩
theorem sane6_any (v : Sv) (w : World) (hv : v.Ok w) (hm : v.s.inter.length < 9223372036854775808) (hm2 : v.s.text.length < 9223372036854775808) : Calls Tryd.prog 56 #[v.val] w fun e w' => e = .returned (.bool (saneS v.s)) ∧ Below w.heap.size w w' := by
  by_cases h0 : v.s.a < 0
  · exact sane_neg v w hv h0
  by_cases h9 : 9 < v.s.a
  · exact sane_big v w hv (by omega) h9
  by_cases hi : 2 < v.s.inter.length
  · exact sane_inter v w hv (by omega) (by omega) hm hi
  by_cases ht : 1024 < v.s.text.length
  · exact sane_text v w hv (by omega) (by omega) (by omega) hm2 ht
  cases hp : saneP ⟨v.s.l, v.s.o⟩ with
  | false => exact sane_par v w hv (by omega) (by omega) (by omega) (by omega) hp
  | true =>
    have hi' : v.s.inter.length ≤ 2 := by omega
    have ht' : v.s.text.length ≤ 1024 := by omega
    by_cases a0 : v.s.a = 0
    · by_cases hin : v.s.inter = []
      · cases hx : v.s.over with
        | true => exact sane_0o v w hv hi' ht' hp a0 hin hx
        | false =>
          by_cases hl : v.s.l = []
          · by_cases hte : v.s.text = []
            · by_cases hk : v.s.kind = 0
              · exact sane_0z v w hv hi' ht' hp a0 hin hx hl hte hk
              · exact sane_0k v w hv hi' ht' hp a0 hin hx hl hte hk
            · exact sane_0t v w hv hi' ht' hp a0 hin hx hl hte
          · exact sane_0l v w hv hi' ht' hp a0 hin hx hl
      · exact sane_0n v w hv hi' ht' hp a0 hin
    by_cases a3 : v.s.a = 3
    · by_cases hin : v.s.inter = []
      · exact sane_3e v w hv hi' ht' hp a3 hin
      · exact sane_3n v w hv hi' ht' hp a3 hin
    exact sane_else v w hv (by omega) (by omega) hi' ht' hp ⟨a0, a3⟩
end Go.Proofs.YtcempbgbdlmjfaaDoor
