/-
  parse: the walk of Sane behind its first guard (begun).
-/
import Derived.Test.YtcempbgbdlmjfaaDoorP6Sa
namespace Go.Proofs.YtcempbgbdlmjfaaDoor
open Go.RowKit

theorem ba_nil {b : ByteArray} (h : bI b = []) : b = ⟨#[]⟩ := by
  obtain ⟨d⟩ := b
  unfold bI at h
  simp only [List.map_eq_nil_iff, Array.toList_eq_nil_iff] at h
  rw [h]
/-- what is left to look at behind k bytes -/
def okMid (x : Int) : Bool := decide (32 ≤ x ∧ x ≤ 47)
def okOne (k : Nat) (x : Int) : Bool := (decide (k = 0) && decide (60 ≤ x ∧ x ≤ 63)) || okMid x
def okFrom : Nat → List Int → Bool
  | 0, l => interOk l
  | k + 1, l => (l.drop (k + 1)).all okMid
theorem okFrom_step (k : Nat) (l : List Int) (h : k < l.length) : okFrom k l = (okOne k l[k] && okFrom (k + 1) l) := by
  cases k with
  | zero =>
    cases l with
    | nil => simp at h
    | cons c cs => simp [okFrom, interOk, okOne, show okMid = fun d => decide (32 ≤ d ∧ d ≤ 47) from rfl]
  | succ k =>
    show (l.drop (k + 1)).all okMid = (okOne (k + 1) l[k + 1] && (l.drop (k + 1 + 1)).all okMid)
    rw [List.drop_eq_getElem_cons h, List.all_cons]
    simp only [okOne, Nat.succ_ne_zero, decide_false, Bool.false_and, Bool.false_or]
set_option maxRecDepth 100000 in
theorem index_str {t : TypeId} (ht : Tryd.prog.underlying t = some .string) (ib : ByteArray) (l : List Int) (hb : bI ib = l) (k : Nat) (hk : k < l.length) (w : World) :
    (Instr.index t (.string ib) (.int .i64 (k : Int))).run Tryd.prog w = .ok (.int .u8 l[k]) w := by
  subst hb
  have hs : k < ib.size := by rw [ba_size2]; exact hk
  rw [run_index_string w t ib .i64 k ht, dif_pos ⟨by omega, by omega⟩]
  congr 2
  simp [bI, ByteArray.getElem_eq_getElem_data]
theorem okFrom_end (l : List Int) : okFrom l.length l = true := by
  cases l with
  | nil => rfl
  | cons c cs => simp [okFrom]
set_option maxRecDepth 100000 in
set_option maxHeartbeats 1600000 in
theorem sane_else (v : Sv) (w : World) (hv : v.Ok w) (h0 : 0 ≤ v.s.a) (h9 : v.s.a ≤ 9) (hi : v.s.inter.length ≤ 2) (ht : v.s.text.length ≤ 1024) (h : saneP ⟨v.s.l, v.s.o⟩ = true) (ha : v.s.a ≠ 0 ∧ v.s.a ≠ 3) : Calls Tryd.prog 56 #[v.val] w fun e w' => e = .returned (.bool (saneS v.s)) ∧ Below w.heap.size w w' := by
  have n1 := s_one w v
  obtain ⟨⟨a0, inter, over, l, o, text, kind⟩, ib, tb, A, cc⟩ := v
  simp only at h h0 h9 ht hi ha
  obtain ⟨e0, e3⟩ := ha
  have f0 : (a0 == 0) = false := beq_eq_false_iff_ne.2 e0
  have f3 : (a0 == 3) = false := beq_eq_false_iff_ne.2 e3
  have he : saneS ⟨a0, inter, over, l, o, text, kind⟩ = okFrom 0 inter := by
    unfold saneS; rw [h]
    have c1 : decide (0 ≤ a0 ∧ a0 ≤ 9) = true := by simp; omega
    have c2 : decide (inter.length ≤ 2) = true := by simp; omega
    have c3 : decide (text.length ≤ 1024) = true := by simp; omega
    simp only [c1, c2, c3, if_neg e0, if_neg e3, Bool.true_and, Bool.and_true]
    rfl
  clear e0 e3
  have N1 := Lib.hid n1; have HV := Lib.hid hv
  have hib : ib.size = inter.length := by have h := hv.tx.ib; simp only at h; rw [ba_size2, h]
  have htb : tb.size = text.length := by have h := hv.tx.tb; simp only at h; rw [ba_size2, h]
  clear n1 hv
  have hrd := HV.out.rd.next ((Below.refl _ _).alloc (Nat.le_refl _) (.cells #[.int .i64 a0, .string ib, .bool over, .slice A l.length cc, .bool o, .string tb, .int .u8 kind] 82))
  have HRD := Lib.hid hrd
  clear hrd
  have HE := Lib.hid he
  clear he
  have HH := Lib.hid h
  clear h
  show Calls Tryd.prog 56 #[.agg #[.int .i64 a0, .string ib, .bool over, .slice A l.length cc, .bool o, .string tb, .int .u8 kind]] w _
  go_enter Tryd.func56, Tryd.ntmps56
  go_wp2_with (go_at_call 38; refine (sanep_any l o _ _ HRD.out).mono ?_; rintro e w1 ⟨rfl, hb1⟩; rw [HH.out]; obtain ⟨p0, p1, p2, p3, p4, p5, p6, _⟩ := (N1.out.past (hb1.mono (by simp))).cells; simp only at p0 p1 p2 p3 p4 p5 p6; have HB1 := Lib.hid hb1; clear hb1)
  go_loopw [35] (fun i wr => ∃ k : Nat, k ≤ inter.length ∧ i = .int .i64 k ∧ okFrom k inter = okFrom 0 inter ∧ wr = w1) (fun i _ => inter.length - (intOf i).toNat)
  case atStart => exact ⟨0, Nat.zero_le _, rfl, rfl, rfl⟩
  case round =>
    obtain ⟨k, hk, rfl, hg, rfl⟩ := hrel
    have HG := Lib.hid hg; clear hg
    by_cases hlt : k < inter.length
    · have hix := index_str Tryd.underlying9 ib inter HV.out.tx.ib k hlt wr
      have hst := Lib.hid (okFrom_step k inter hlt)
      obtain ⟨x, hx⟩ : ∃ x, inter[k] = x := ⟨_, rfl⟩
      rw [hx] at hix hst
      clear hx
      have fin : okOne k x = false → okFrom 0 inter = false := fun h => by rw [← HG.out, hst.out, h]; rfl
      have nxt : okOne k x = true → okFrom (k + 1) inter = okFrom 0 inter := fun h => by rw [← HG.out, hst.out, h]; rfl
      by_cases hk0 : k = 0
      · subst hk0
        have hix0 : (Instr.index 9 (.string ib) (.int .i64 0)).run Tryd.prog wr = .ok (.int .u8 x) wr := hix
        clear hix
        by_cases h60 : 60 ≤ x
        · by_cases h63 : x ≤ 63
          · go_wp2
            go_roundw
            case rel => exact ⟨0 + 1, by omega, by go_num, nxt (by simp [okOne, h60, h63]), trivial⟩
            case measure => simp [intOf]; omega
          · have h63' : decide (x ≤ 63) = false := by simp; omega
            have h32 : decide (x < 32) = false := by simp; omega
            go_wp2
            go_ret
            exact ⟨by rw [HE.out, fin (by simp [okOne, okMid]; omega)]; rfl, ((Below.refl _ _).alloc (Nat.le_refl _) _).trans (HB1.out.mono (by simp))⟩
        · have h60' : decide (60 ≤ x) = false := by simp; omega
          by_cases h32 : x < 32
          · have h32' : decide (x < 32) = true := by simp; omega
            go_wp2
            go_ret
            exact ⟨by rw [HE.out, fin (by simp [okOne, okMid]; omega)]; rfl, ((Below.refl _ _).alloc (Nat.le_refl _) _).trans (HB1.out.mono (by simp))⟩
          by_cases h47 : 47 < x
          · have h32' : decide (x < 32) = false := by simp; omega
            go_wp2
            go_ret
            exact ⟨by rw [HE.out, fin (by simp [okOne, okMid]; omega)]; rfl, ((Below.refl _ _).alloc (Nat.le_refl _) _).trans (HB1.out.mono (by simp))⟩
          go_wp2
          go_roundw
          case rel => exact ⟨0 + 1, by omega, by go_num, nxt (by simp [okOne, okMid]; omega), trivial⟩
          case measure => simp [intOf]; omega
      · have hk1 : ((k : Int) == 0) = false := beq_eq_false_iff_ne.2 (by omega)
        by_cases h32 : x < 32
        · have h32' : decide (x < 32) = true := by simp; omega
          go_wp2
          go_ret
          exact ⟨by rw [HE.out, fin (by simp [okOne, okMid]; omega)]; rfl, ((Below.refl _ _).alloc (Nat.le_refl _) _).trans (HB1.out.mono (by simp))⟩
        by_cases h47 : 47 < x
        · have h32' : decide (x < 32) = false := by simp; omega
          go_wp2
          go_ret
          exact ⟨by rw [HE.out, fin (by simp [okOne, okMid]; omega)]; rfl, ((Below.refl _ _).alloc (Nat.le_refl _) _).trans (HB1.out.mono (by simp))⟩
        go_wp2
        go_roundw
        case rel => exact ⟨k + 1, by omega, by go_num, nxt (by simp [okOne, okMid]; omega), trivial⟩
        case measure => simp [intOf]; omega
    · obtain rfl : k = inter.length := by omega
      go_wp2
      go_ret
      exact ⟨by rw [HE.out, ← HG.out, okFrom_end]; rfl, ((Below.refl _ _).alloc (Nat.le_refl _) _).trans (HB1.out.mono (by simp))⟩
end Go.Proofs.YtcempbgbdlmjfaaDoor
