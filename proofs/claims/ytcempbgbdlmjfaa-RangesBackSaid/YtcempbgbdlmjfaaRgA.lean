/-
  Ranges: the walks of the functions that only read: fits, touches, Sane, Get, Total, Same.
-/
import Derived.Test.YtcempbgbdlmjfaaRows
import Derived.Test.YtcempbgbdlmjfaaBase
import Derived.Test.YtcempbgbdlmjfaaRgPlain
import Derived.Deep.RegionHeld3
import Derived.Deep.DeepCutAuto
import Derived.BigQuiet
import Derived.Deep.QuietTactic
namespace Go.Proofs.Ytcempbgbdlmjfaa
open Go.RowKit

def R.val (x : R) : Value := .agg #[.int .i64 x.lo, .int .i64 x.hi, .int .i64 x.v]
def rowCells (l : List R) : List Value := l.flatMap fun x => [.int .i64 x.lo, .int .i64 x.hi, .int .i64 x.v]
theorem rowCells_len (l : List R) : (rowCells l).length = l.length * 3 := by
  induction l with
  | nil => rfl
  | cons x xs ih => simp only [rowCells, List.flatMap_cons, List.length_append, List.length_cons, List.length_nil] at ih ⊢; omega
theorem rowCells_get (l : List R) (j : Nat) (h : j < l.length) :
    (rowCells l)[j * 3]? = some (.int .i64 l[j].lo) ∧ (rowCells l)[j * 3 + 1]? = some (.int .i64 l[j].hi) ∧ (rowCells l)[j * 3 + 2]? = some (.int .i64 l[j].v) := by
  induction l generalizing j with
  | nil => simp at h
  | cons x xs ih =>
    cases j with
    | zero => exact ⟨rfl, rfl, rfl⟩
    | succ j =>
      have := ih j (by simpa using h)
      have e : rowCells (x :: xs) = .int .i64 x.lo :: .int .i64 x.hi :: .int .i64 x.v :: rowCells xs := rfl
      rw [e, show (j + 1) * 3 = j * 3 + 3 from by omega]
      exact this
theorem rowCells_append (l l' : List R) : rowCells (l ++ l') = rowCells l ++ rowCells l' := by simp [rowCells]

def RdRows (w : World) (B : Nat) (A : Option Addr) (rows : List R) : Prop :=
  0 < rows.length → ∃ b off, A = some ⟨b, off, none⟩ ∧ b < B ∧ ∀ j (_ : j < rows.length),
    w.cell? ⟨b, off + j * 3, none⟩ = some (.int .i64 rows[j].lo) ∧ w.cell? ⟨b, off + j * 3 + 1, none⟩ = some (.int .i64 rows[j].hi) ∧ w.cell? ⟨b, off + j * 3 + 2, none⟩ = some (.int .i64 rows[j].v)
theorem rd_rows {w : World} {B : Nat} {A : Option Addr} {l : List R} (h : Rd w B A (rowCells l)) : RdRows w B A l := fun hl => by
  obtain ⟨b, off, e, hb, hc⟩ := h (by rw [rowCells_len]; omega)
  refine ⟨b, off, e, hb, fun j hj => ?_⟩
  obtain ⟨g0, g1, g2⟩ := rowCells_get l j hj
  have hlen := rowCells_len l
  refine ⟨?_, ?_, ?_⟩
  · rw [hc (j * 3) (by omega)]; rw [List.getElem?_eq_getElem (by omega)] at g0; exact g0
  · rw [Nat.add_assoc, hc (j * 3 + 1) (by omega)]; rw [List.getElem?_eq_getElem (by omega)] at g1; exact g1
  · rw [Nat.add_assoc, hc (j * 3 + 2) (by omega)]; rw [List.getElem?_eq_getElem (by omega)] at g2; exact g2

set_option maxHeartbeats 400000 in
theorem fits_any (x : R) (w : World) :
    Calls Try.prog 42 #[.agg #[.int .i64 x.lo, .int .i64 x.hi, .int .i64 x.v]] w fun e w' => e = .returned (.bool (fitsB x)) ∧ Below w.heap.size w w' := by
  go_enter Try.func42, Try.ntmps42
  go_wp2
  all_goals
    go_ret
    refine ⟨ret_bool ?_, (Below.refl _ _).alloc (Nat.le_refl _) _⟩
    unfold fitsB
    first | (symm; rw [decide_eq_false_iff_not]; omega) | (rw [decide_eq_decide]; omega)

set_option maxHeartbeats 400000 in
theorem touches_any (x y : R) (w : World) (h1 : 0 ≤ x.hi) (h2 : x.hi ≤ 1114111) :
    Calls Try.prog 43 #[.agg #[.int .i64 x.lo, .int .i64 x.hi, .int .i64 x.v], .agg #[.int .i64 y.lo, .int .i64 y.hi, .int .i64 y.v]] w
      fun e w' => e = .returned (.bool (touchB x y)) ∧ Below w.heap.size w w' := by
  go_enter Try.func43, Try.ntmps43
  go_wp2
  all_goals
    go_ret
    refine ⟨ret_bool ?_, ((Below.refl _ _).alloc (Nat.le_refl _) _).alloc (by simp) _⟩
    unfold touchB
    first | (symm; rw [decide_eq_false_iff_not]; omega) | (rw [Bool.eq_iff_iff]; simp; omega)

set_option maxHeartbeats 400000 in
theorem get_any (rows : List R) (A : Option Addr) (c : Nat) (r : Int) (w : World) (B : Nat) (hB : B ≤ w.heap.size) (hr0 : Rd w B A (rowCells rows)) (hl : rows.length ≤ maxLen) :
    Calls Try.prog 18 #[.agg #[.slice A rows.length c], .int .i64 r] w fun e w' => e = .returned (.int .i64 (getF rows r)) ∧ Below w.heap.size w w' := by
  have hr := rd_rows hr0
  clear hr0
  unfold maxLen at hl
  go_enter Try.func18, Try.ntmps18
  go_wp2
  go_loopw [10] (fun i wr => ∃ k : Nat, k ≤ rows.length ∧ i = .int .i64 k ∧ getF (rows.drop k) r = getF rows r ∧ Below w.heap.size w wr) (fun i _ => rows.length - (intOf i).toNat)
  case atStart => exact ⟨0, Nat.zero_le _, rfl, rfl, (Below.refl _ _).alloc (Nat.le_refl _) _⟩
  case round =>
    obtain ⟨k, hk, rfl, hg, hb⟩ := hrel
    have HG := Lib.hid hg; clear hg
    by_cases hlt : k < rows.length
    · obtain ⟨b, off, rfl, hbB, hc⟩ := hr (by omega)
      obtain ⟨c0, c1, c2⟩ := hc k hlt
      have d0 := (hb.cell (p := ⟨b, off + k * 3, none⟩) (Nat.lt_of_lt_of_le hbB hB)).trans c0
      have d1 := (hb.cell (p := ⟨b, off + k * 3 + 1, none⟩) (Nat.lt_of_lt_of_le hbB hB)).trans c1
      have d2 := (hb.cell (p := ⟨b, off + k * 3 + 2, none⟩) (Nat.lt_of_lt_of_le hbB hB)).trans c2
      clear c0 c1 c2 hc
      go_wp2
      · have h1 : rows[k].lo ≤ r := by assumption
        have h2 : r ≤ rows[k].hi := by assumption
        go_ret
        exact ⟨by simp only [← HG.out, get_step rows k hlt, if_pos (And.intro h1 h2)]; rfl, hb.alloc hb.size _⟩
      all_goals
        go_roundw
        case rel => exact ⟨k + 1, by omega, by go_num, by rw [← HG.out, get_step rows k hlt, if_neg (by omega)], hb.alloc hb.size _⟩
        case measure => simp [intOf]; omega
    · go_wp2
      go_ret
      have e : k = rows.length := by omega
      subst e
      exact ⟨by simp only [← HG.out, List.drop_length]; rfl, hb⟩

set_option maxHeartbeats 800000 in
theorem sane_any (rows : List R) (A : Option Addr) (c : Nat) (w : World) (B : Nat) (hB : B ≤ w.heap.size) (hr0 : Rd w B A (rowCells rows)) (hl : rows.length ≤ maxLen) :
    Calls Try.prog 16 #[.agg #[.slice A rows.length c]] w fun e w' => e = .returned (.bool (saneF rows)) ∧ Below w.heap.size w w' := by
  have hr := rd_rows hr0
  clear hr0
  unfold maxLen at hl
  by_cases h4 : 4096 < rows.length
  · go_enter Try.func16, Try.ntmps16
    go_wp2
    go_ret
    exact ⟨ret_bool (by simp [saneF]; omega), (Below.refl _ _).alloc (Nat.le_refl _) _⟩
  · have h4' : decide ((4096 : Int) < rows.length) = false := by simp; omega
    go_enter Try.func16, Try.ntmps16
    go_wp2
    go_loopw [12] (fun i wr => ∃ k : Nat, k ≤ rows.length ∧ i = .int .i64 k ∧ saneFrom (pv rows k) (rows.drop k) = saneFrom none rows ∧ (∀ q, pv rows k = some q → fitsB q = true) ∧
       Below (w.heap.size + 1) (w.alloc (.cells #[.slice A rows.length c] 27)) wr) (fun i _ => rows.length - (intOf i).toNat)
    case atStart => exact ⟨0, Nat.zero_le _, rfl, rfl, by simp [pv], Below.refl _ _⟩
    case round =>
      obtain ⟨k, hk, rfl, hg, hf, hb⟩ := hrel
      have hbs : w.heap.size ≤ wr.heap.size := by have := hb.size; simp at this; omega
      have HG := Lib.hid hg; clear hg
      have HF := Lib.hid hf; clear hf
      have hbox : wr.cell? ⟨w.heap.size, 0, none⟩ = some (.slice A rows.length c) := (hb.cell (p := ⟨w.heap.size, 0, none⟩) (Nat.lt_succ_self _)).trans (by simp [World.cell?_alloc_new])
      by_cases hlt : k < rows.length
      · obtain ⟨b, off, rfl, hbB, hc⟩ := hr (by omega)
        obtain ⟨c0, c1, c2⟩ := hc k hlt
        have hcell : ∀ (o : Nat) (v : Value), w.cell? ⟨b, o, none⟩ = some v → wr.cell? ⟨b, o, none⟩ = some v := fun o v h =>
          (hb.cell (p := ⟨b, o, none⟩) (show b < w.heap.size + 1 by omega)).trans ((World.cell?_alloc_lt w _ ⟨b, o, none⟩ (show b < w.heap.size by omega)).trans h)
        have d0 := hcell _ _ c0
        have d1 := hcell _ _ c1
        have d2 := hcell _ _ c2
        have hst := sane_step rows k hlt
        have HS := Lib.hid hst; clear hst
        cases hfx : fitsB rows[k] with
        | false =>
          clear c0 c1 c2 hc hcell
          have HX := Lib.hid hfx; clear hfx
          go_wp2_with (go_at_call 42; refine (fits_any rows[k] _).mono ?_; rintro e w' ⟨rfl, hb1⟩; simp only [HX.out])
          go_ret
          exact ⟨ret_bool (by simp [saneF, ← HG.out, HS.out, HX.out]), bt ((below_box hb).alloc hbs _) hb1 (by simp; omega)⟩
        | true =>
          have HX := Lib.hid hfx; clear hfx
          have hfit := (fitsB_iff _).1 HX.out
          by_cases hk0 : k = 0
          · subst hk0
            clear c0 c1 c2 hc hcell
            simp only [Nat.zero_mul, Nat.add_zero] at d0 d1 d2
            go_wp2_with (go_at_call 42; refine (fits_any rows[0] _).mono ?_; rintro e w' ⟨rfl, hb1⟩; simp only [HX.out])
            go_quiet (fail)
            go_wp2
            go_roundw
            case rel =>
              refine ⟨1, hlt, rfl, by rw [← HG.out, HS.out]; simp [HX.out, pv, okAft], ?_, ?_⟩
              · simp only [pv]; intro q hq; simp [List.getElem?_eq_getElem hlt] at hq; rw [← hq]; exact HX.out
              · exact below_drewN (bt (hb.alloc (by have := hb.size; simpa using this) _) hb1 (by simp; have := hb.size; simp at this; omega)) _
            case measure => simp [intOf]; omega
          · obtain ⟨m, rfl⟩ : ∃ m, k = m + 1 := ⟨k - 1, by omega⟩
            obtain ⟨p0, p1, p2⟩ := hc m (by omega)
            have e0 := hcell _ _ p0
            have e1 := hcell _ _ p1
            have e2 := hcell _ _ p2
            have hfm : Fit rows[m] := (fitsB_iff _).1 (HF.out rows[m] (by simp [pv, show m < rows.length from by omega]))
            have hm1 : 0 ≤ rows[m].hi := by have := hfm.1; have := hfm.2.1; omega
            have hm2 : rows[m].hi ≤ 1114111 := hfm.2.2.1
            clear c0 c1 c2 hc hcell p0 p1 p2 hfm hfit
            have hpv : pv rows (m + 1) = some rows[m] := by simp [pv, show m < rows.length from by omega]
            have HPV := Lib.hid hpv; clear hpv
            by_cases hle : rows[m+1].lo ≤ rows[m].hi
            · go_wp2_with (go_at_call 42; refine (fits_any rows[m+1] _).mono ?_; rintro e w' ⟨rfl, hb1⟩; simp only [HX.out])
              have n0 := past_alloc hb1 e0
              have n1 := past_alloc hb1 e1
              have n2 := past_alloc hb1 e2
              have nb := past_alloc hb1 hbox
              have m0 := new_cell hb1 0 _ rfl
              have m1 := new_cell hb1 1 _ rfl
              have m2 := new_cell hb1 2 _ rfl
              go_quiet (fail)
              go_wp2
              go_ret
              exact ⟨ret_bool (by rw [saneF, ← HG.out, HS.out, HPV.out]; simp [okAft, hle]), below_drewN (bt ((below_box hb).alloc hbs _) hb1 (by simp; omega)) _⟩
            · have hd : decide (rows[m+1].lo ≤ rows[m].hi) = false := by simpa using hle
              have i0 : (0 : Int) ≤ ↑m := by omega
              have i1 : (↑m : Int) < ↑rows.length := by omega
              have i2 : IntKind.i64.wrap (↑m : Int) = ↑m := by rw [IntWalk.i64_in _ (by omega)]
              go_wp2_with (go_at_call 42; refine (fits_any rows[m+1] _).mono ?_; rintro e w' ⟨rfl, hb1⟩; simp only [HX.out])
              have n0 := past_alloc hb1 e0
              have n1 := past_alloc hb1 e1
              have n2 := past_alloc hb1 e2
              have nb := past_alloc hb1 hbox
              have m0 := new_cell hb1 0 _ rfl
              have m1 := new_cell hb1 1 _ rfl
              have m2 := new_cell hb1 2 _ rfl
              clear e0 e1 e2 d0 d1 d2 hbox
              cases htt : touchB rows[m] rows[m+1] with
              | true =>
                have HTT := Lib.hid htt; clear htt
                go_region_held3 (fun w' => w'.cell? ⟨b, off + m * 3, none⟩ = some (.int .i64 rows[m].lo) ∧ w'.cell? ⟨b, off + m * 3 + 1, none⟩ = some (.int .i64 rows[m].hi) ∧ w'.cell? ⟨b, off + m * 3 + 2, none⟩ = some (.int .i64 rows[m].v)
                   ∧ w'.cell? ⟨wr.heap.size, 0, none⟩ = some (.int .i64 rows[m+1].lo) ∧ w'.cell? ⟨wr.heap.size, 1, none⟩ = some (.int .i64 rows[m+1].hi) ∧ w'.cell? ⟨wr.heap.size, 2, none⟩ = some (.int .i64 rows[m+1].v)
                   ∧ w'.cell? ⟨w.heap.size, 0, none⟩ = some (.slice (some ⟨b, off, none⟩) rows.length c))
                   (first | (go_split_ands; refine ⟨?_, ?_, ?_, ?_, ?_, ?_, ?_⟩ <;> exact past hb2 (by assumption)) | go_keep)
                   (first | (go_at_call 43; refine (touches_any rows[m] rows[m+1] _ hm1 hm2).mono ?_; rintro e w'' ⟨rfl, hb2⟩; simp only [HTT.out]))
                go_wp2
                go_ret
                exact ⟨ret_bool (by rw [saneF, ← HG.out, HS.out, HPV.out]; simp [okAft, HTT.out]), bt (bt ((below_box hb).alloc hbs _) hb1 (by simp; omega)).drew hb2 (by have := hb1.size; simp at this; simp; omega)⟩
              | false =>
                have HTT := Lib.hid htt; clear htt
                go_region_held3 (fun w' => w'.cell? ⟨b, off + m * 3, none⟩ = some (.int .i64 rows[m].lo) ∧ w'.cell? ⟨b, off + m * 3 + 1, none⟩ = some (.int .i64 rows[m].hi) ∧ w'.cell? ⟨b, off + m * 3 + 2, none⟩ = some (.int .i64 rows[m].v)
                   ∧ w'.cell? ⟨wr.heap.size, 0, none⟩ = some (.int .i64 rows[m+1].lo) ∧ w'.cell? ⟨wr.heap.size, 1, none⟩ = some (.int .i64 rows[m+1].hi) ∧ w'.cell? ⟨wr.heap.size, 2, none⟩ = some (.int .i64 rows[m+1].v)
                   ∧ w'.cell? ⟨w.heap.size, 0, none⟩ = some (.slice (some ⟨b, off, none⟩) rows.length c))
                   (first | (go_split_ands; refine ⟨?_, ?_, ?_, ?_, ?_, ?_, ?_⟩ <;> exact past hb2 (by assumption)) | go_keep)
                   (first | (go_at_call 43; refine (touches_any rows[m] rows[m+1] _ hm1 hm2).mono ?_; rintro e w'' ⟨rfl, hb2⟩; simp only [HTT.out]))
                go_wp2
                go_roundw
                case rel =>
                  refine ⟨m + 1 + 1, hlt, by go_num, by rw [← HG.out, HS.out, HPV.out]; simp [HX.out, okAft, HTT.out]; omega, ?_, ?_⟩
                  · simp only [pv]; intro q hq; simp [List.getElem?_eq_getElem hlt] at hq; rw [← hq]; exact HX.out
                  · exact bt (bt (hb.alloc (by have := hb.size; simpa using this) _) hb1 (by simp; have := hb.size; simp at this; omega)).drew hb2 (by have := hb1.size; have := hb.size; simp at *; omega)
                case measure => simp [intOf]; omega
      · go_wp2
        go_ret
        have e : k = rows.length := by omega
        subst e
        exact ⟨ret_bool (by rw [saneF, ← HG.out, List.drop_length]; simp [saneFrom]; omega), below_box hb⟩
end Go.Proofs.Ytcempbgbdlmjfaa
