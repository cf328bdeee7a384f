/-
  Ranges: the walk of join: it appends a row, or writes into the last one.
-/
import Derived.Test.YtcempbgbdlmjfaaRgC
import Derived.Test.YtcempbgbdlmjfaaBase2
namespace Go.Proofs.Ytcempbgbdlmjfaa
open Go.RowKit

theorem rowCells_set (l : List R) (q : R) (hi : Int) : (rowCells (l ++ [q])).set (l.length * 3 + 1) (.int .i64 hi) = rowCells (l ++ [⟨q.lo, hi, q.v⟩]) := by
  rw [rowCells_append, rowCells_append, List.set_append, if_neg (by rw [rowCells_len]; omega), rowCells_len]
  rw [show l.length * 3 + 1 - l.length * 3 = 1 from by omega]
  rfl
theorem joinF_snoc (l : List R) (q x : R) : joinF (l ++ [q]) x = if touchB q x then l ++ [⟨q.lo, x.hi, q.v⟩] else (l ++ [q]) ++ [x] := by
  unfold joinF
  rw [List.getLast?_concat, List.dropLast_concat]

theorem el_row : El Try.prog 25 74 3 24 := El.mk' Try.underlying25 info_row rfl (by omega)
theorem join_lies {w : World} {g H c : Nat} {n : Nat} {v : Value} (h : v.ownBlock = some g ∨ g = H) (hH : w.heap.size ≤ H) : ∀ k, (Value.slice (some ⟨g, 0, none⟩) n c).ownBlock = some k → v.ownBlock = some k ∨ w.heap.size ≤ k := by
  intro k hk
  simp only [Value.ownBlock, Option.some.injEq] at hk
  subst hk
  rcases h with h | h
  · exact .inl h
  · exact .inr (by omega)

set_option maxRecDepth 100000 in
set_option maxHeartbeats 1600000 in
theorem join_nil (x : R) (v : Value) (w : World) (base : Nat) (hbase : base ≤ w.heap.size) (hown : w.ownsRow base 74 3 v 0 []) :
    Calls Try.prog 44 #[v, .agg #[.int .i64 x.lo, .int .i64 x.hi, .int .i64 x.v]] w fun e w' => ∃ A' c', e = .returned (.slice A' 1 c') ∧
      Grew base 74 3 w v w' (.slice A' 1 c') 1 (rowCells [x]) := by
  obtain ⟨A, c, rfl, _⟩ := own_slice hown
  go_enter Try.func44, Try.ntmps44
  go_wp2
  go_quiet (fail)
  go_wp2_with (
    (at_builtin
     refine wpList_push (by rfl) _ _ _ el_row (by rfl) base _ 0 [] (by rfl) ((own_drewN (hown.alloc _) _).alloc _) (w.heap.size + 1) 1 [.int .i64 x.lo, .int .i64 x.hi, .int .i64 x.v] (by rfl) (heap_new_at (by simp)) rfl (by simp [Value.oneCell']) (by unfold maxLen; omega) (by omega) (by simp; omega) (w.heap.size + 2) (by simp) ?_
     intro gg cap w1 hown1 hgrow hat))
  go_ret
  exact ⟨_, _, rfl, hown1, grown_trans (grown_alloc (grown_drewN (grown_alloc ⟨rfl, rfl, rfl, Nat.le_refl _, fun _ _ _ => rfl⟩ _) _) _) hgrow (fun g h => .inl h), join_lies hat (by omega)⟩

set_option maxRecDepth 100000 in
set_option maxHeartbeats 1600000 in
theorem join_snoc (l : List R) (q x : R) (A : Option Addr) (c : Nat) (w : World) (base : Nat) (hown : w.ownsRow base 74 3 (.slice A (l.length + 1) c) (l.length + 1) (rowCells (l ++ [q])))
    (h1 : 0 ≤ q.hi) (h2 : q.hi ≤ 1114111) (hl : l.length ≤ 100000) :
    Calls Try.prog 44 #[.slice A (l.length + 1) c, .agg #[.int .i64 x.lo, .int .i64 x.hi, .int .i64 x.v]] w fun e w' => ∃ A' c', e = .returned (.slice A' (joinF (l ++ [q]) x).length c') ∧
      Grew base 74 3 w (.slice A (l.length + 1) c) w' (.slice A' (joinF (l ++ [q]) x).length c') (joinF (l ++ [q]) x).length (rowCells (joinF (l ++ [q]) x)) := by
  obtain ⟨g, cap, hv, hbg, hlt⟩ := hown.form (by omega)
  injection hv with e1 e2 e3
  subst e1; subst e3
  have hcell := hown.cells (g := g) rfl
  have hlen : (l ++ [q]).length = l.length + 1 := by simp
  obtain ⟨g0, g1, g2⟩ := rowCells_get (l ++ [q]) l.length (by simp)
  rw [List.getElem_concat_length rfl] at g0 g1 g2
  have addr : ∀ j, (⟨g, 0, none⟩ : Addr).add j = ⟨g, j, none⟩ := fun j => by unfold Addr.add; split <;> simp_all
  have c0 := hcell _ _ g0
  have c1 := hcell _ _ g1
  have c2 := hcell _ _ g2
  rw [addr] at c0 c1 c2
  clear g0 g1 g2 hcell addr hlen
  have i0 : (0 : Int) ≤ ↑l.length := by omega
  have i1 : (↑l.length : Int) < ↑l.length + 1 := by omega
  have i2 : IntKind.i64.wrap (↑l.length : Int) = ↑l.length := by rw [IntWalk.i64_in _ (by omega)]
  have k0 := World.cell?_alloc_lt w (.cells #[.int .i64 x.lo, .int .i64 x.hi, .int .i64 x.v] 74) _ (World.block_lt_of_cell? w _ c0)
  have k1 := World.cell?_alloc_lt w (.cells #[.int .i64 x.lo, .int .i64 x.hi, .int .i64 x.v] 74) _ (World.block_lt_of_cell? w _ c1)
  have k2 := World.cell?_alloc_lt w (.cells #[.int .i64 x.lo, .int .i64 x.hi, .int .i64 x.v] 74) _ (World.block_lt_of_cell? w _ c2)
  rw [c0] at k0
  rw [c1] at k1
  rw [c2] at k2
  have hg1 : w.grownBy (w.alloc (.cells #[.int .i64 x.lo, .int .i64 x.hi, .int .i64 x.v] 74)) (some g) := World.grownBy_alloc _ _ _
  cases ht : touchB q x with
  | false =>
    have HT := Lib.hid ht; clear ht
    go_enter Try.func44, Try.ntmps44
    go_wp2_with fail
    go_region_held3 (fun w' => w'.cell? ⟨g, l.length * 3, none⟩ = some (.int .i64 q.lo) ∧ w'.cell? ⟨g, l.length * 3 + 1, none⟩ = some (.int .i64 q.hi) ∧ w'.cell? ⟨g, l.length * 3 + 2, none⟩ = some (.int .i64 q.v)
          ∧ w'.cell? ⟨w.heap.size, 0, none⟩ = some (.int .i64 x.lo) ∧ w'.cell? ⟨w.heap.size, 1, none⟩ = some (.int .i64 x.hi) ∧ w'.cell? ⟨w.heap.size, 2, none⟩ = some (.int .i64 x.v))
          (first | (go_split_ands; refine ⟨?_, ?_, ?_, ?_, ?_, ?_⟩ <;> exact past hb2 (by assumption)) | go_keep)
          (first | (go_at_call 43; refine (touches_any q x _ h1 h2).mono ?_; rintro e w'' ⟨rfl, hb2⟩; simp only [HT.out]))
    have hown2 := own_past_B (hown.alloc _).drew hb2 (Nat.le_refl _)
    go_wp2_with (
      (at_builtin
       refine wpList_push (by rfl) _ _ _ el_row (by rfl) base _ (l.length + 1) (rowCells (l ++ [q])) (by rfl) (hown2.alloc _) w''.heap.size 1 [.int .i64 x.lo, .int .i64 x.hi, .int .i64 x.v] (by rfl) (heap_new_at (by simp)) rfl (by simp [Value.oneCell']) (by unfold maxLen; omega) (by omega) (by have := hb2.size; simp at this ⊢; omega) (w''.heap.size + 1) (by simp) ?_
       intro gg cap w1 hown1 hgrow hat))
    have hg2 : w.grownBy (w''.alloc (.cells #[.int .i64 x.lo, .int .i64 x.hi, .int .i64 x.v] 74)) (some g) :=
      grown_alloc (grown_trans (grown_drew hg1) (grown_of_below hb2 (Nat.le_refl _) none) (by simp)) _
    have hsz := hg2.size
    have e : joinF (l ++ [q]) x = (l ++ [q]) ++ [x] := by rw [joinF_snoc, HT.out]; rfl
    have hn : ((l ++ [q]) ++ [x]).length = l.length + 1 + 1 := by simp
    rw [e, hn, rowCells_append (l ++ [q]) [x]]
    go_ret
    exact ⟨_, _, rfl, hown1, grown_trans hg2 hgrow (fun k hk => .inl hk), join_lies hat (by simp at hsz; omega)⟩
  | true =>
    have HT := Lib.hid ht; clear ht
    go_enter Try.func44, Try.ntmps44
    go_wp2_with fail
    go_region_held3 (fun w' => w'.cell? ⟨g, l.length * 3, none⟩ = some (.int .i64 q.lo) ∧ w'.cell? ⟨g, l.length * 3 + 1, none⟩ = some (.int .i64 q.hi) ∧ w'.cell? ⟨g, l.length * 3 + 2, none⟩ = some (.int .i64 q.v)
          ∧ w'.cell? ⟨w.heap.size, 0, none⟩ = some (.int .i64 x.lo) ∧ w'.cell? ⟨w.heap.size, 1, none⟩ = some (.int .i64 x.hi) ∧ w'.cell? ⟨w.heap.size, 2, none⟩ = some (.int .i64 x.v))
          (first | (go_split_ands; refine ⟨?_, ?_, ?_, ?_, ?_, ?_⟩ <;> exact past hb2 (by assumption)) | go_keep)
          (first | (go_at_call 43; refine (touches_any q x _ h1 h2).mono ?_; rintro e w'' ⟨rfl, hb2⟩; simp only [HT.out]))
    have hown2 := own_past_B (hown.alloc _).drew hb2 (Nat.le_refl _)
    have hfz := own_free hown2 (l.length * 3 + 1)
    have hg2 : w.grownBy w'' (some g) := grown_trans (grown_drew hg1) (grown_of_below hb2 (Nat.le_refl _) none) (by simp)
    have hset := own_set hown2 (l.length * 3 + 1) (.int .i64 x.hi)
    rw [rowCells_set] at hset
    have HSET := Lib.hid hset
    clear hset hown2
    go_wp2
    have e : joinF (l ++ [q]) x = l ++ [⟨q.lo, x.hi, q.v⟩] := by rw [joinF_snoc, HT.out]; rfl
    have hn : (l ++ [(⟨q.lo, x.hi, q.v⟩ : R)]).length = l.length + 1 := by simp
    rw [e, hn]
    go_ret
    exact ⟨_, _, rfl, HSET.out, grown_setCell hg2 (.inl rfl) _, fun k hk => .inl hk⟩

/-- join, of a table whose last row fits -/
theorem join_any (l : List R) (x : R) (A : Option Addr) (c : Nat) (w : World) (base : Nat) (hbase : base ≤ w.heap.size) (hown : w.ownsRow base 74 3 (.slice A l.length c) l.length (rowCells l))
    (hf : ∀ y ∈ l, Fit y) (hl : l.length ≤ 100000) :
    Calls Try.prog 44 #[.slice A l.length c, .agg #[.int .i64 x.lo, .int .i64 x.hi, .int .i64 x.v]] w fun e w' => ∃ A' c', e = .returned (.slice A' (joinF l x).length c') ∧
      Grew base 74 3 w (.slice A l.length c) w' (.slice A' (joinF l x).length c') (joinF l x).length (rowCells (joinF l x)) := by
  rcases List.eq_nil_or_concat l with rfl | ⟨l0, q, rfl⟩
  · exact join_nil x _ w base hbase hown
  · have hq := hf q (by simp)
    simp only [List.concat_eq_append, List.length_append, List.length_cons, List.length_nil, Nat.zero_add] at hown hl ⊢
    have := join_snoc l0 q x A c w base hown (by have := hq.1; have := hq.2.1; omega) hq.2.2.1 (by omega)
    simpa using this
end Go.Proofs.Ytcempbgbdlmjfaa
