/-
  Ranges: the walks of Total and of the document's Same (on the same rows).
-/
import Derived.Test.YtcempbgbdlmjfaaRgA
namespace Go.Proofs.Ytcempbgbdlmjfaa
open Go.RowKit

theorem San.row_bd {m h v : Int} {l : List R} (hs : San m h v l) (k : Nat) (hk : k < l.length) : 0 ≤ l[k].lo ∧ l[k].lo ≤ l[k].hi ∧ l[k].hi ≤ 1114111 := by
  have := (hs.memfit l[k] (by simp)).1
  exact ⟨this.1, this.2.1, this.2.2.1⟩
theorem tot_take (l : List R) (k : Nat) (h : k < l.length) : totGo (l.take (k + 1)) = totGo (l.take k) + (l[k].hi - l[k].lo + 1) := by
  rw [List.take_succ_eq_append_getElem h, totGo_append]; simp [totGo]
theorem San.tot_take_bd {m h v : Int} {l : List R} (hs : San m h v l) (k : Nat) : 0 ≤ totGo (l.take k) ∧ totGo (l.take k) ≤ k * 1114112 := by
  induction k with
  | zero => simp [totGo]
  | succ k ih =>
    by_cases hk : k < l.length
    · rw [tot_take l k hk]
      have := hs.row_bd k hk
      omega
    · rw [List.take_of_length_le (by omega)] at ih ⊢
      omega

set_option maxHeartbeats 800000 in
theorem total_any (rows : List R) (A : Option Addr) (c : Nat) (w : World) (B : Nat) (hB : B ≤ w.heap.size) (hr0 : Rd w B A (rowCells rows)) (hl : rows.length ≤ maxLen) :
    Calls Try.prog 21 #[.agg #[.slice A rows.length c]] w fun e w' => e = .returned (.int .i64 (totF rows)) ∧ Below w.heap.size w w' := by
  have hr1 := (hr0.below ((Below.refl w.heap.size w).alloc (Nat.le_refl _) (.cells #[.slice A rows.length c] 27)) hB)
  cases hsn : saneF rows with
  | false =>
    have HS := Lib.hid hsn; clear hsn
    go_enter Try.func21, Try.ntmps21
    go_wp2_with (go_at_call 16; refine (sane_any rows A c _ B (by simp; omega) hr1 hl).mono ?_; rintro e w1 ⟨rfl, hb1⟩; simp only [HS.out])
    go_ret
    exact ⟨ret_int (by simp [totF, HS.out]), bt ((Below.refl _ _).alloc (Nat.le_refl _) _) hb1 (by simp)⟩
  | true =>
    have hsan := (saneF_iff _).1 hsn
    have HS := Lib.hid hsn; clear hsn
    have hl2 := hsan.1
    have hs2 := hsan.2
    have hs3 := hs2.row_bd
    have hs4 := hs2.tot_take_bd
    have HS3 := Lib.hid hs3
    have HS4 := Lib.hid hs4
    clear hsan hs2 hs3 hs4
    go_enter Try.func21, Try.ntmps21
    go_wp2_with (go_at_call 16; refine (sane_any rows A c _ B (by simp; omega) hr1 hl).mono ?_; rintro e w1 ⟨rfl, hb1⟩; simp only [HS.out]; have nb := new_cell hb1 0 _ rfl)
    go_loopw [3, 12] (fun n i wr => ∃ k : Nat, k ≤ rows.length ∧ i = .int .i64 k ∧ n = .int .i64 (totGo (rows.take k)) ∧ Below w.heap.size w wr) (fun _ i _ => rows.length - (intOf i).toNat)
    case atStart => exact ⟨0, Nat.zero_le _, rfl, rfl, bt ((Below.refl _ _).alloc (Nat.le_refl _) _) hb1 (by simp)⟩
    case round =>
      obtain ⟨k, hk, rfl, rfl, hb⟩ := hrel
      clear nb hb1
      by_cases hlt : k < rows.length
      · obtain ⟨b, off, rfl, hbB, hc⟩ := rd_rows hr0 (by omega)
        obtain ⟨c0, c1, c2⟩ := hc k hlt
        have d0 := past_B hb (Nat.lt_of_lt_of_le hbB hB) c0
        have d1 := past_B hb (Nat.lt_of_lt_of_le hbB hB) c1
        have d2 := past_B hb (Nat.lt_of_lt_of_le hbB hB) c2
        clear c0 c1 c2 hc hr0 hr1
        obtain ⟨r0, r1, r2⟩ := HS3.out k hlt
        obtain ⟨t0, t1⟩ := HS4.out k
        have ht := tot_take rows k hlt
        have HT := Lib.hid ht; clear ht
        go_wp2
        go_roundw
        case rel => exact ⟨k + 1, by omega, by go_num, by rw [HT.out], hb.alloc hb.size _⟩
        case measure => simp [intOf]; omega
      · go_wp2
        go_ret
        have e : k = rows.length := by omega
        subst e
        exact ⟨ret_int (by rw [totF, HS.out, List.take_length]; rfl), hb⟩

set_option maxHeartbeats 800000 in
theorem same_any (rows : List R) (A A' : Option Addr) (c c' : Nat) (w : World) (B : Nat) (hr0 : Rd w B A (rowCells rows)) (hr1 : Rd w B A' (rowCells rows)) (hl : rows.length ≤ maxLen) :
    Calls Try.prog 22 #[.slice A rows.length c, .slice A' rows.length c'] w fun e w' => e = .returned (.bool true) ∧ Below w.heap.size w w' := by
  unfold maxLen at hl
  go_enter Try.func22, Try.ntmps22
  go_wp2
  go_loopw [5] (fun i wr => ∃ k : Nat, k ≤ rows.length ∧ i = .int .i64 k ∧ ∃ n, wr = w.drewN n) (fun i _ => rows.length - (intOf i).toNat)
  case atStart => exact ⟨0, Nat.zero_le _, rfl, 0, rfl⟩
  case round =>
    obtain ⟨k, hk, rfl, n, rfl⟩ := hrel
    by_cases hlt : k < rows.length
    · obtain ⟨b, off, rfl, hbB, hc⟩ := rd_rows hr0 (by omega)
      obtain ⟨b', off', rfl, hbB', hc'⟩ := rd_rows hr1 (by omega)
      obtain ⟨c0, c1, c2⟩ := hc k hlt
      obtain ⟨d0, d1, d2⟩ := hc' k hlt
      clear hc hc' hr0 hr1
      have i0 : (0 : Int) ≤ ↑k := by omega
      have i1 : (↑k : Int) < ↑rows.length := by omega
      go_wp2
      go_quiet (fail)
      go_wp2
      go_roundw
      case rel => exact ⟨k + 1, by omega, by go_num, _, rfl⟩
      case measure => simp [intOf]; omega
    · go_wp2
      go_ret
      exact ⟨rfl, below_drewN (Below.refl _ _) _⟩
end Go.Proofs.Ytcempbgbdlmjfaa
