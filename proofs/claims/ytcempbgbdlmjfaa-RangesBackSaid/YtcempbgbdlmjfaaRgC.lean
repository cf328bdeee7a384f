/-
  Ranges: the walks of the functions that append to a slice of their own: ours, theirs, table, join.
-/
import Derived.Test.YtcempbgbdlmjfaaRgA
import Derived.Deep.RegionWith
namespace Go.Proofs.Ytcempbgbdlmjfaa
open Go.RowKit

theorem info_row : (Try.prog.info? 74).map (fun i => (i.zero, i.size, i.bytes)) = some (some (.agg #[.int .i64 0, .int .i64 0, .int .i64 0]), 3, 24) := by kernel_rfl
theorem info_ref : (Try.prog.info? 30).map (fun i => (i.zero, i.size, i.bytes)) = some (some (.agg #[.int .i64 0, .int .i64 0, .int .i64 0]), 3, 24) := by kernel_rfl

theorem rows_take (l : List R) (k : Nat) (h : k < l.length) : rowCells (l.take (k + 1)) = rowCells (l.take k) ++ [.int .i64 l[k].lo, .int .i64 l[k].hi, .int .i64 l[k].v] := by
  rw [List.take_succ_eq_append_getElem h, rowCells_append]; rfl

set_option maxRecDepth 100000 in
set_option maxHeartbeats 1600000 in
theorem ours_any (rows : List R) (A : Option Addr) (c : Nat) (w : World) (B : Nat) (hB : B ≤ w.heap.size) (hr0 : Rd w B A (rowCells rows)) (hl : rows.length ≤ 100000) :
    Calls Try.prog 20 #[.slice A rows.length c] w fun e w' => ∃ A' c', e = .returned (.slice A' rows.length c') ∧ w'.ownsRow w.heap.size 74 3 (.slice A' rows.length c') rows.length (rowCells rows) ∧ Below w.heap.size w w' := by
  obtain ⟨i0, hi0, hz0, hz1, hz2⟩ := info_parts info_row
  go_enter Try.func20, Try.ntmps20
  go_wp2
  go_loopw [3, 4] (fun v i wr => ∃ k : Nat, k ≤ rows.length ∧ i = .int .i64 k ∧ wr.ownsRow w.heap.size 74 3 v k (rowCells (rows.take k)) ∧ Below w.heap.size w wr) (fun _ i _ => rows.length - (intOf i).toNat)
  case atStart => exact ⟨0, Nat.zero_le _, rfl, World.ownsRow_nil _ _ _ _, Below.refl _ _⟩
  case round =>
    obtain ⟨k, hk, rfl, hown, hb⟩ := hrel
    by_cases hlt : k < rows.length
    · obtain ⟨b, off, rfl, hbB, hc⟩ := rd_rows hr0 (by omega)
      obtain ⟨c0, c1, c2⟩ := hc k hlt
      have d0 := past_B hb (Nat.lt_of_lt_of_le hbB hB) c0
      have d1 := past_B hb (Nat.lt_of_lt_of_le hbB hB) c1
      have d2 := past_B hb (Nat.lt_of_lt_of_le hbB hB) c2
      have j0 : (0 : Int) ≤ ↑k := by omega
      have j1 : (↑k : Int) < ↑rows.length := by omega
      have hbs := hb.size
      clear c0 c1 c2 hc hr0
      go_wp2_with fail
      go_region_held3 (fun w' => w'.cell? ⟨b, off + k * 3, none⟩ = some (.int .i64 rows[k].lo) ∧ w'.cell? ⟨b, off + k * 3 + 1, none⟩ = some (.int .i64 rows[k].hi) ∧ w'.cell? ⟨b, off + k * 3 + 2, none⟩ = some (.int .i64 rows[k].v))
        (first | go_keep | (go_split_ands; refine ⟨?_, ?_, ?_⟩ <;> (refine past_grown hgrow (fun e => ?_) (by assumption); have := hown.lt _ e; simp at this; omega)))
        ((refine step_append_lies _ (by rfl) _ _ _ (by rfl) w.heap.size 74 i0 _ 3 24 Try.underlying25 hi0 hz0 hz1 hz2 rfl (by omega) _ k (rowCells (rows.take k)) (by rfl) ((hown.alloc _).drew)
              ⟨wr.heap.size, 0, none⟩ 1 1 [.int .i64 rows[k].lo, .int .i64 rows[k].hi, .int .i64 rows[k].v] (by rfl) (by rfl) (World.news_of_block (cs := #[.int .i64 rows[k].lo, .int .i64 rows[k].hi, .int .i64 rows[k].v]) (t := 74) (fr := (0, 0)) (heap_alloc_new wr _)) (by simp [Value.oneCell'])
              (by omega) (by unfold maxLen; omega) (by omega) (by simp; omega) (wr.heap.size + 1) (by simp) ?_; intro gg cap w1 hown1 hgrow hat hlt1))
      go_wp2
      go_roundw
      case rel => exact ⟨k + 1, by omega, by go_num, by rw [rows_take rows k hlt]; exact hown1, (hb.alloc hb.size _).drew.grown hgrow (by simp; omega) (fun g e => (hown.lt g e).1)⟩
      case measure => simp [intOf]; omega
    · go_wp2
      go_ret
      have e : k = rows.length := by omega
      subst e
      rw [List.take_length] at hown
      obtain ⟨A', c', rfl, _⟩ := own_slice hown
      exact ⟨A', c', rfl, hown, hb⟩
set_option maxRecDepth 100000 in
set_option maxHeartbeats 1600000 in
theorem theirs_any (rows : List R) (A : Option Addr) (c : Nat) (w : World) (B : Nat) (hB : B ≤ w.heap.size) (hr0 : Rd w B A (rowCells rows)) (hl : rows.length ≤ 100000) :
    Calls Try.prog 23 #[.slice A rows.length c] w fun e w' => ∃ A' c', e = .returned (.slice A' rows.length c') ∧ w'.ownsRow w.heap.size 30 3 (.slice A' rows.length c') rows.length (rowCells rows) ∧ Below w.heap.size w w' := by
  obtain ⟨i0, hi0, hz0, hz1, hz2⟩ := info_parts info_ref
  go_enter Try.func23, Try.ntmps23
  go_wp2
  go_loopw [3, 4] (fun v i wr => ∃ k : Nat, k ≤ rows.length ∧ i = .int .i64 k ∧ wr.ownsRow w.heap.size 30 3 v k (rowCells (rows.take k)) ∧ Below w.heap.size w wr) (fun _ i _ => rows.length - (intOf i).toNat)
  case atStart => exact ⟨0, Nat.zero_le _, rfl, World.ownsRow_nil _ _ _ _, Below.refl _ _⟩
  case round =>
    obtain ⟨k, hk, rfl, hown, hb⟩ := hrel
    by_cases hlt : k < rows.length
    · obtain ⟨b, off, rfl, hbB, hc⟩ := rd_rows hr0 (by omega)
      obtain ⟨c0, c1, c2⟩ := hc k hlt
      have d0 := past_B hb (Nat.lt_of_lt_of_le hbB hB) c0
      have d1 := past_B hb (Nat.lt_of_lt_of_le hbB hB) c1
      have d2 := past_B hb (Nat.lt_of_lt_of_le hbB hB) c2
      have j0 : (0 : Int) ≤ ↑k := by omega
      have j1 : (↑k : Int) < ↑rows.length := by omega
      have hbs := hb.size
      clear c0 c1 c2 hc hr0
      go_wp2_with fail
      go_region_held3 (fun w' => w'.cell? ⟨b, off + k * 3, none⟩ = some (.int .i64 rows[k].lo) ∧ w'.cell? ⟨b, off + k * 3 + 1, none⟩ = some (.int .i64 rows[k].hi) ∧ w'.cell? ⟨b, off + k * 3 + 2, none⟩ = some (.int .i64 rows[k].v))
        (first | go_keep | (go_split_ands; refine ⟨?_, ?_, ?_⟩ <;> (refine past_grown hgrow (fun e => ?_) (by assumption); have := hown.lt _ e; simp at this; omega)))
        ((refine step_append_lies _ (by rfl) _ _ _ (by rfl) w.heap.size 30 i0 _ 3 24 Try.underlying22 hi0 hz0 hz1 hz2 rfl (by omega) _ k (rowCells (rows.take k)) (by rfl) ((hown.alloc _).drew)
              ⟨wr.heap.size, 0, none⟩ 1 1 [.int .i64 rows[k].lo, .int .i64 rows[k].hi, .int .i64 rows[k].v] (by rfl) (by rfl) (World.news_of_block (cs := #[.int .i64 rows[k].lo, .int .i64 rows[k].hi, .int .i64 rows[k].v]) (t := 30) (fr := (0, 0)) (heap_alloc_new wr _)) (by simp [Value.oneCell'])
              (by omega) (by unfold maxLen; omega) (by omega) (by simp; omega) (wr.heap.size + 1) (by simp) ?_; intro gg cap w1 hown1 hgrow hat hlt1))
      go_wp2
      go_roundw
      case rel => exact ⟨k + 1, by omega, by go_num, by rw [rows_take rows k hlt]; exact hown1, (hb.alloc hb.size _).drew.grown hgrow (by simp; omega) (fun g e => (hown.lt g e).1)⟩
      case measure => simp [intOf]; omega
    · go_wp2
      go_ret
      have e : k = rows.length := by omega
      subst e
      rw [List.take_length] at hown
      obtain ⟨A', c', rfl, _⟩ := own_slice hown
      exact ⟨A', c', rfl, hown, hb⟩

set_option maxHeartbeats 400000 in
theorem table_any (rows : List R) (A : Option Addr) (c : Nat) (w : World) (B : Nat) (hB : B ≤ w.heap.size) (hr0 : Rd w B A (rowCells rows)) (hl : rows.length ≤ 100000) :
    Calls Try.prog 17 #[.slice A rows.length c] w fun e w' => ∃ A' c', e = .returned (.agg #[.slice A' rows.length c']) ∧ w'.ownsRow w.heap.size 74 3 (.slice A' rows.length c') rows.length (rowCells rows) ∧ Below w.heap.size w w' := by
  have hr1 := hr0.alloc hB (.cells #[.slice none 0 0] 27)
  go_enter Try.func17, Try.ntmps17
  go_wp2_with (go_at_call 20; refine (ours_any rows A c _ B (by simp; omega) hr1 hl).mono ?_; rintro e w1 ⟨A', c', rfl, hown, hb⟩; have n0 := new_cell hb 0 _ rfl; have n1 := new_frozen hb 0)
  exact bodyPost_ret (v := .agg #[.slice A' rows.length c']) (by simp [results, Try.results17, go_sem, n0]) rfl
    ⟨A', c', rfl, own_base (ownsRow_setCell_below hown (by simp) _) (by simp), (bt ((Below.refl _ _).alloc (Nat.le_refl _) _) hb (by simp)).setCell (Nat.le_refl _) _⟩

end Go.Proofs.Ytcempbgbdlmjfaa
