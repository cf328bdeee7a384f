/-
  Ranges: the walk of Make.
-/
import Derived.Test.YtcempbgbdlmjfaaRgD
import Derived.Test.YtcempbgbdlmjfaaBase3
namespace Go.Proofs.Ytcempbgbdlmjfaa
open Go.RowKit

/-! ### a block that is known whole -/
theorem blk_lt {w : World} {g : Nat} {t : TypeId} {cs : Array Value} {fr : Nat × Nat} (h : w.heap[g]? = some (.cells cs t fr)) : g < w.heap.size := (Array.getElem?_eq_some_iff.1 h).1
theorem blk_cell {w : World} {g : Nat} {t : TypeId} {cs : Array Value} {fr : Nat × Nat} (h : w.heap[g]? = some (.cells cs t fr)) (i : Nat) (u : Value) (hi : cs[i]? = some u) : w.cell? ⟨g, i, none⟩ = some u := by
  rw [cell_of_row w g i cs t fr h, hi]
theorem blk_free {w : World} {g : Nat} {t : TypeId} {cs : Array Value} (h : w.heap[g]? = some (.cells cs t (0, 0))) (i : Nat) : w.frozen? ⟨g, i, none⟩ = false := by
  unfold World.frozen?
  rw [h]
  simp
theorem blk_set {w : World} {g : Nat} {t : TypeId} {cs : Array Value} {fr : Nat × Nat} (h : w.heap[g]? = some (.cells cs t fr)) (i : Nat) (u : Value) : (w.setCell ⟨g, i, none⟩ u).heap[g]? = some (.cells (cs.setIfInBounds i u) t fr) := by
  simp [World.setCell, Array.getElem?_modify, h]
theorem blk_far {w : World} {g : Nat} {o : Obj} (h : w.heap[g]? = some o) {p : Addr} (hp : g ≠ p.block) (u : Value) : (w.setCell p u).heap[g]? = some o := (Below.heap_setCell w p u g hp).trans h
theorem blk_alloc {w : World} {g : Nat} {o : Obj} (h : w.heap[g]? = some o) (o' : Obj) : (w.alloc o').heap[g]? = some o := (Below.heap_alloc w o' g (Array.getElem?_eq_some_iff.1 h).1).trans h
theorem blk_past {w w' : World} {g : Nat} {o : Obj} {B : Nat} (h : w.heap[g]? = some o) (hb : Below B w w') (hB : w.heap.size ≤ B) : w'.heap[g]? = some o := (hb.block g (by have := (Array.getElem?_eq_some_iff.1 h).1; omega)).trans h
theorem blk_grown {w w' : World} {g : Nat} {o : Obj} {r : Option Nat} (h : w.heap[g]? = some o) (hb : w.grownBy w' r) (hr : r ≠ some g) : w'.heap[g]? = some o := (hb.block g (Array.getElem?_eq_some_iff.1 h).1 (fun e => hr e.symm)).trans h

theorem rd_block {w : World} {g : Nat} {t : TypeId} {cs : List Value} {fr : Nat × Nat} (h : w.heap[g]? = some (.cells cs.toArray t fr)) {B : Nat} (hB : g < B) : Rd w B (some ⟨g, 0, none⟩) cs := fun _ =>
  ⟨g, 0, rfl, hB, fun j hj => by rw [Nat.zero_add, blk_cell h j cs[j] (by simp [hj])]⟩

/-! ### the rows that have been seen -/
theorem ok_step (l : List R) (k : Nat) (h : k < l.length) :
    okFrom (pv l k) (l.drop k) = (fitsB l[k] && (aftB (pv l k) l[k] && okFrom (pv l (k+1)) (l.drop (k+1)))) := by
  rw [List.drop_eq_getElem_cons h]
  simp [okFrom, pv, h]
theorem ok_snoc (p : Option R) (l : List R) (x : R) (h : okFrom p l = true) (hx : Fit x) (hq : ∀ q, (match l.getLast? with | some q => some q | none => p) = some q → q.hi < x.lo) : okFrom p (l ++ [x]) = true := by
  induction l generalizing p with
  | nil => exact (okFrom_cons _ _ _).2 ⟨hx, hq, rfl⟩
  | cons y ys ih =>
    obtain ⟨h1, h2, h3⟩ := (okFrom_cons _ _ _).1 h
    refine (okFrom_cons _ _ _).2 ⟨h1, h2, ih (some y) h3 ?_⟩
    cases ys with
    | nil => simpa using hq
    | cons z zs =>
      rw [List.getLast?_cons_cons] at hq
      cases hz : (z :: zs).getLast? with
      | none => simp at hz
      | some q' => rw [hz] at hq; exact hq
theorem ok_take (l : List R) (k : Nat) (h : k < l.length) (ho : okFrom none (l.take k) = true) (hx : Fit l[k]) (hq : ∀ q, pv l k = some q → q.hi < l[k].lo) : okFrom none (l.take (k + 1)) = true := by
  rw [List.take_succ_eq_append_getElem h]
  refine ok_snoc _ _ _ ho hx fun q hql => hq q ?_
  unfold pv
  by_cases h0 : k = 0
  · subst h0; simp at hql
  · rw [if_neg h0]
    rw [List.getLast?_eq_getElem?, List.length_take, List.getElem?_take] at hql
    rw [Nat.min_eq_left (by omega), if_pos (by omega), List.getElem?_eq_getElem (by omega)] at hql
    rw [List.getElem?_eq_getElem (by omega)]
    exact hql
theorem make_take (l : List R) (k : Nat) (h : k < l.length) : makeGo (l.take (k + 1)) [] = joinF (makeGo (l.take k) []) l[k] := by
  unfold makeGo
  rw [List.take_succ_eq_append_getElem h, List.foldl_append]
  rfl
theorem make_fit (l : List R) (h : okFrom none l = true) : (∀ y ∈ makeGo l [], Fit y) ∧ (makeGo l []).length ≤ l.length := by
  obtain ⟨h1, _, _, h4⟩ := makeL_spec l h
  exact ⟨fun y hy => (h1.memfit y hy).1, h4⟩

/-- what stands in memory in the middle of Make -/
structure MkMid (rows : List R) (w : World) (k : Nat) (wr : World) : Prop where
  ok : okFrom none (rows.take k) = true
  rest : okFrom (pv rows k) (rows.drop k) = okL rows
  box : ∃ A' c', wr.heap[w.heap.size + 1]? = some (.cells #[.slice A' (makeGo (rows.take k) []).length c'] 27 (0, 0)) ∧
    wr.ownsRow (w.heap.size + 2) 74 3 (.slice A' (makeGo (rows.take k) []).length c') (makeGo (rows.take k) []).length (rowCells (makeGo (rows.take k) []))
  res : wr.heap[w.heap.size]? = some (.cells #[.slice none 0 0] 27 (0, 0))
  below : Below w.heap.size w wr
  size : w.heap.size + 2 ≤ wr.heap.size

theorem mk_step {rows : List R} {w wr : World} {k : Nat} (hmid : MkMid rows w k wr) (hlt : k < rows.length) (hx : fitsB rows[k] = true) (ha : aftB (pv rows k) rows[k] = true) {A' : Option Addr} {c' : Nat}
    (hbox : wr.heap[w.heap.size + 1]? = some (.cells #[.slice A' (makeGo (rows.take k) []).length c'] 27 (0, 0)))
    (hown : wr.ownsRow (w.heap.size + 2) 74 3 (.slice A' (makeGo (rows.take k) []).length c') (makeGo (rows.take k) []).length (rowCells (makeGo (rows.take k) []))) {o : Obj} (u : After (wr.alloc o))
    {w3 : World} {A3 : Option Addr} {c3 : Nat}
    (hg : Grew (w.heap.size + 2) 74 3 u.get (.slice A' (makeGo (rows.take k) []).length c') w3 (.slice A3 (joinF (makeGo (rows.take k) []) rows[k]).length c3) (joinF (makeGo (rows.take k) []) rows[k]).length (rowCells (joinF (makeGo (rows.take k) []) rows[k]))) :
    MkMid rows w (k + 1) (w3.setCell ⟨w.heap.size + 1, 0, none⟩ (.slice A3 (joinF (makeGo (rows.take k) []) rows[k]).length c3)) := by
  have hus := u.size
  simp only [World.size_alloc] at hus
  have hsz := hmid.size
  have hfar : ∀ g, g < w.heap.size + 2 → (Value.slice A' (makeGo (rows.take k) []).length c').ownBlock ≠ some g := fun g hg' e => by have := (hown.lt g e).1; omega
  have h1 := blk_grown (u.blk (blk_alloc hbox o)) hg.grown (hfar _ (by omega))
  have h2 := blk_grown (u.blk (blk_alloc hmid.res o)) hg.grown (hfar _ (by omega))
  have h3 := hg.grown.size
  refine ⟨ok_take rows k hlt hmid.ok ((fitsB_iff _).1 hx) (fun q hq => ?_), ?_, ⟨A3, c3, ?_, ?_⟩, ?_, ?_, ?_⟩
  · rw [hq] at ha; simpa [aftB] using ha
  · rw [← hmid.rest, ok_step rows k hlt, hx, ha]; rfl
  · rw [make_take rows k hlt]; simpa using blk_set h1 0 (.slice A3 (joinF (makeGo (rows.take k) []) rows[k]).length c3)
  · rw [make_take rows k hlt]; exact ownsRow_setCell_below hg.own (by simp) _
  · exact blk_far h2 (by simp) _
  · refine Below.setCell ?_ (by simp) _
    refine bt (bt (hmid.below.alloc hmid.below.size _) u.below (by simp; omega)) (below_of_grown (B := w.heap.size) hg.grown (by omega) (fun g e => ?_)) (Nat.le_refl _)
    have := (hown.lt g e).1; omega
  · simp [World.setCell]; omega

set_option maxRecDepth 100000 in
set_option maxHeartbeats 1600000 in
theorem make_any (rows : List R) (A : Option Addr) (c : Nat) (w : World) (B : Nat) (hB : B ≤ w.heap.size) (hr0 : Rd w B A (rowCells rows)) (hl : rows.length ≤ 50000) :
    Calls Try.prog 19 #[.slice A rows.length c] w fun e w' => ∃ A' c', e = .returned (.tuple #[.agg #[.slice A' (makeF rows).1.length c'], .int .i64 (makeF rows).2]) ∧
      w'.ownsRow w.heap.size 74 3 (.slice A' (makeF rows).1.length c') (makeF rows).1.length (rowCells (makeF rows).1) ∧ Below w.heap.size w w' := by
  have hr := rd_rows hr0
  clear hr0
  go_enter Try.func19, Try.ntmps19
  go_wp2_with fail
  go_loopw [9] (fun i wr => ∃ k : Nat, k ≤ rows.length ∧ i = .int .i64 k ∧ MkMid rows w k wr) (fun i _ => rows.length - (intOf i).toNat)
  case atStart =>
    refine ⟨0, Nat.zero_le _, rfl, rfl, rfl, ⟨none, 0, ?_, ?_⟩, ?_, ?_, by simp⟩
    · exact heap_new_at (by simp)
    · exact (((World.ownsRow_nil w (w.heap.size + 2) _ 3).alloc _).alloc _)
    · exact blk_alloc (heap_alloc_new _ _) _
    · exact ((Below.refl _ _).alloc (Nat.le_refl _) _).alloc (by simp) _
  case round =>
    obtain ⟨k, hk, rfl, hmid⟩ := hrel
    have hsz := hmid.size
    have hbel := hmid.below
    have hres := hmid.res
    obtain ⟨A', c', hbox, hown⟩ := hmid.box
    by_cases hlt : k < rows.length
    · obtain ⟨b, off, rfl, hbB, hc⟩ := hr (by omega)
      obtain ⟨c0, c1, c2⟩ := hc k hlt
      have d0 := past_B hbel (Nat.lt_of_lt_of_le hbB hB) c0
      have d1 := past_B hbel (Nat.lt_of_lt_of_le hbB hB) c1
      have d2 := past_B hbel (Nat.lt_of_lt_of_le hbB hB) c2
      have hfit := make_fit (rows.take k) hmid.ok
      rw [List.length_take] at hfit
      have HFIT := Lib.hid hfit; clear hfit
      cases hfx : fitsB rows[k] with
      | false =>
        have HX := Lib.hid hfx; clear hfx
        have hbad : okL rows = false := by rw [← hmid.rest, ok_step rows k hlt, HX.out]; rfl
        have HB := Lib.hid hbad
        clear hc c0 c1 c2 hr hmid hbox hown hbad
        go_wp2_with fail
        have x0 := new_cell (Below.refl (wr.alloc (.cells #[.int .i64 rows[k].lo, .int .i64 rows[k].hi, .int .i64 rows[k].v] 74)).heap.size _) 0 _ rfl
        have x1 := new_cell (Below.refl (wr.alloc (.cells #[.int .i64 rows[k].lo, .int .i64 rows[k].hi, .int .i64 rows[k].v] 74)).heap.size _) 1 _ rfl
        have x2 := new_cell (Below.refl (wr.alloc (.cells #[.int .i64 rows[k].lo, .int .i64 rows[k].hi, .int .i64 rows[k].v] 74)).heap.size _) 2 _ rfl
        have y0 := fun u : After (wr.alloc (.cells #[.int .i64 rows[k].lo, .int .i64 rows[k].hi, .int .i64 rows[k].v] 74)) => u.cell x0
        have y1 := fun u : After (wr.alloc (.cells #[.int .i64 rows[k].lo, .int .i64 rows[k].hi, .int .i64 rows[k].v] 74)) => u.cell x1
        have y2 := fun u : After (wr.alloc (.cells #[.int .i64 rows[k].lo, .int .i64 rows[k].hi, .int .i64 rows[k].v] 74)) => u.cell x2
        clear x0 x1 x2
        refine wp_region_after (by kernel_rfl) (by kernel_rfl) ?_
        repeat (go_big_quiet_step ((go_at_call 42; exact Calls.after_bool HX.out (fits_any rows[k] _))))
        refine wpQuiet_nil ?_
        rintro _ ⟨u, rfl⟩
        have hres2 := u.blk (blk_alloc hres (.cells #[.int .i64 rows[k].lo, .int .i64 rows[k].hi, .int .i64 rows[k].v] 74))
        have q0 := blk_cell hres2 0 _ rfl
        have q1 := blk_free hres2 0
        clear hres
        go_wp2
        have q2 := blk_cell (blk_set hres2 0 (.slice none 0 0)) 0 _ rfl
        have e : makeF rows = ([], 1) := by unfold makeF; rw [if_neg (by rw [HB.out]; simp)]
        rw [e]
        exact bodyPost_ret (v := .tuple #[.agg #[.slice none 0 0], .int .i64 1]) (by simp [results, Try.results19, go_sem, q2]) rfl
          ⟨none, 0, rfl, World.ownsRow_nil _ _ _ _, bt ((hbel.alloc hbel.size _)) u.below (by simp; omega) |>.setCell (Nat.le_refl _) _⟩
      | true =>
        have HX := Lib.hid hfx; clear hfx
        by_cases hk0 : k = 0
        · subst hk0
          simp only [Nat.zero_mul, Nat.add_zero] at d0 d1 d2
          have HA : Hid (aftB (pv rows 0) rows[0] = true) := rfl
          clear hc c0 c1 c2 hr
          go_wp2_with fail
          have x0 := new_cell (Below.refl (wr.alloc (.cells #[.int .i64 rows[0].lo, .int .i64 rows[0].hi, .int .i64 rows[0].v] 74)).heap.size _) 0 _ rfl
          have x1 := new_cell (Below.refl (wr.alloc (.cells #[.int .i64 rows[0].lo, .int .i64 rows[0].hi, .int .i64 rows[0].v] 74)).heap.size _) 1 _ rfl
          have x2 := new_cell (Below.refl (wr.alloc (.cells #[.int .i64 rows[0].lo, .int .i64 rows[0].hi, .int .i64 rows[0].v] 74)).heap.size _) 2 _ rfl
          have y0 := fun u : After (wr.alloc (.cells #[.int .i64 rows[0].lo, .int .i64 rows[0].hi, .int .i64 rows[0].v] 74)) => u.cell x0
          have y1 := fun u : After (wr.alloc (.cells #[.int .i64 rows[0].lo, .int .i64 rows[0].hi, .int .i64 rows[0].v] 74)) => u.cell x1
          have y2 := fun u : After (wr.alloc (.cells #[.int .i64 rows[0].lo, .int .i64 rows[0].hi, .int .i64 rows[0].v] 74)) => u.cell x2
          clear x0 x1 x2
          refine wp_region_after (by kernel_rfl) (by kernel_rfl) ?_
          repeat (go_big_quiet_step ((go_at_call 42; exact Calls.after_bool HX.out (fits_any rows[0] _))))
          refine wpQuiet_nil ?_
          rintro _ ⟨u, rfl⟩
          have hbox2 := u.blk (blk_alloc hbox (.cells #[.int .i64 rows[0].lo, .int .i64 rows[0].hi, .int .i64 rows[0].v] 74))
          have q0 := blk_cell hbox2 0 _ rfl
          have z0 := y0 u
          have z1 := y1 u
          have z2 := y2 u
          have hown2 := own_past (hown.alloc (.cells #[.int .i64 rows[0].lo, .int .i64 rows[0].hi, .int .i64 rows[0].v] 74)) u.below
          have hus := u.size
          simp only [World.size_alloc] at hus
          have HSTEP := Lib.hid (fun w3 A3 c3 hg => mk_step hmid hlt HX.out HA.out hbox hown u (w3 := w3) (A3 := A3) (c3 := c3) hg)
          clear hres hown y0 y1 y2 hmid hbox
          have HO := Lib.hid hown2
          clear hown2
          go_wp2_with (go_at_call 44; refine (join_any _ rows[0] A' c' _ (w.heap.size + 2) (by omega) HO.out HFIT.out.1 (by have := HFIT.out.2; omega)).mono ?_; rintro e w3 ⟨A3, c3, rfl, hgrew⟩; have p0 := blk_cell (blk_grown hbox2 hgrew.grown (fun e => by have := (HO.out.lt _ e).1; omega)) 0 _ rfl; have p1 := blk_free (blk_grown hbox2 hgrew.grown (fun e => by have := (HO.out.lt _ e).1; omega)) 0)
          go_roundw
          case rel => exact ⟨1, by omega, by go_num, HSTEP.out _ _ _ hgrew⟩
          case measure => simp [intOf]; omega
        · obtain ⟨m, rfl⟩ : ∃ m, k = m + 1 := ⟨k - 1, by omega⟩
          obtain ⟨_, p1, _⟩ := hc m (by omega)
          have e1 := past_B hbel (Nat.lt_of_lt_of_le hbB hB) p1
          have i0 : (0 : Int) ≤ ↑m := by omega
          have i1 : (↑m : Int) < ↑rows.length := by omega
          have i2 : IntKind.i64.wrap (↑m : Int) = ↑m := by rw [IntWalk.i64_in _ (by omega)]
          have hpv : pv rows (m + 1) = some rows[m] := by simp [pv, show m < rows.length from by omega]
          have HPV := Lib.hid hpv
          have e1' := fun u : After (wr.alloc (.cells #[.int .i64 rows[m+1].lo, .int .i64 rows[m+1].hi, .int .i64 rows[m+1].v] 74)) => u.cell ((World.cell?_alloc_lt wr _ ⟨b, off + m * 3 + 1, none⟩ (World.block_lt_of_cell? wr _ e1)).trans e1)
          clear hc c0 c1 c2 hr hpv p1 e1
          by_cases hle : rows[m+1].lo ≤ rows[m].hi
          · have hbad : okL rows = false := by rw [← hmid.rest, ok_step rows (m+1) hlt, HX.out, HPV.out]; simp [aftB]; omega
            have HB := Lib.hid hbad
            clear hmid hbox hown hbad
            go_wp2_with fail
            have x0 := new_cell (Below.refl (wr.alloc (.cells #[.int .i64 rows[m+1].lo, .int .i64 rows[m+1].hi, .int .i64 rows[m+1].v] 74)).heap.size _) 0 _ rfl
            have x1 := new_cell (Below.refl (wr.alloc (.cells #[.int .i64 rows[m+1].lo, .int .i64 rows[m+1].hi, .int .i64 rows[m+1].v] 74)).heap.size _) 1 _ rfl
            have x2 := new_cell (Below.refl (wr.alloc (.cells #[.int .i64 rows[m+1].lo, .int .i64 rows[m+1].hi, .int .i64 rows[m+1].v] 74)).heap.size _) 2 _ rfl
            have y0 := fun u : After (wr.alloc (.cells #[.int .i64 rows[m+1].lo, .int .i64 rows[m+1].hi, .int .i64 rows[m+1].v] 74)) => u.cell x0
            have y1 := fun u : After (wr.alloc (.cells #[.int .i64 rows[m+1].lo, .int .i64 rows[m+1].hi, .int .i64 rows[m+1].v] 74)) => u.cell x1
            have y2 := fun u : After (wr.alloc (.cells #[.int .i64 rows[m+1].lo, .int .i64 rows[m+1].hi, .int .i64 rows[m+1].v] 74)) => u.cell x2
            clear x0 x1 x2
            refine wp_region_after (by kernel_rfl) (by kernel_rfl) ?_
            repeat (go_big_quiet_step ((go_at_call 42; exact Calls.after_bool HX.out (fits_any rows[m+1] _))))
            refine wpQuiet_nil ?_
            rintro _ ⟨u, rfl⟩
            have hres2 := u.blk (blk_alloc hres (.cells #[.int .i64 rows[m+1].lo, .int .i64 rows[m+1].hi, .int .i64 rows[m+1].v] 74))
            have q0 := blk_cell hres2 0 _ rfl
            have q1 := blk_free hres2 0
            clear hres
            go_wp2
            have q2 := blk_cell (blk_set hres2 0 (.slice none 0 0)) 0 _ rfl
            have e : makeF rows = ([], 1) := by unfold makeF; rw [if_neg (by rw [HB.out]; simp)]
            rw [e]
            exact bodyPost_ret (v := .tuple #[.agg #[.slice none 0 0], .int .i64 1]) (by simp [results, Try.results19, go_sem, q2]) rfl
              ⟨none, 0, rfl, World.ownsRow_nil _ _ _ _, bt ((hbel.alloc hbel.size _)) u.below (by simp; omega) |>.setCell (Nat.le_refl _) _⟩
          · have hd : decide (rows[m+1].lo ≤ rows[m].hi) = false := by simpa using hle
            have HA : Hid (aftB (pv rows (m+1)) rows[m+1] = true) := Lib.hid (by rw [HPV.out]; simp [aftB]; omega)
            go_wp2_with fail
            have x0 := new_cell (Below.refl (wr.alloc (.cells #[.int .i64 rows[m+1].lo, .int .i64 rows[m+1].hi, .int .i64 rows[m+1].v] 74)).heap.size _) 0 _ rfl
            have x1 := new_cell (Below.refl (wr.alloc (.cells #[.int .i64 rows[m+1].lo, .int .i64 rows[m+1].hi, .int .i64 rows[m+1].v] 74)).heap.size _) 1 _ rfl
            have x2 := new_cell (Below.refl (wr.alloc (.cells #[.int .i64 rows[m+1].lo, .int .i64 rows[m+1].hi, .int .i64 rows[m+1].v] 74)).heap.size _) 2 _ rfl
            have y0 := fun u : After (wr.alloc (.cells #[.int .i64 rows[m+1].lo, .int .i64 rows[m+1].hi, .int .i64 rows[m+1].v] 74)) => u.cell x0
            have y1 := fun u : After (wr.alloc (.cells #[.int .i64 rows[m+1].lo, .int .i64 rows[m+1].hi, .int .i64 rows[m+1].v] 74)) => u.cell x1
            have y2 := fun u : After (wr.alloc (.cells #[.int .i64 rows[m+1].lo, .int .i64 rows[m+1].hi, .int .i64 rows[m+1].v] 74)) => u.cell x2
            clear x0 x1 x2
            refine wp_region_after (by kernel_rfl) (by kernel_rfl) ?_
            repeat (go_big_quiet_step ((go_at_call 42; exact Calls.after_bool HX.out (fits_any rows[m+1] _))))
            refine wpQuiet_nil ?_
            rintro _ ⟨u, rfl⟩
            clear e1'
            have hbox2 := u.blk (blk_alloc hbox (.cells #[.int .i64 rows[m+1].lo, .int .i64 rows[m+1].hi, .int .i64 rows[m+1].v] 74))
            have q0 := blk_cell hbox2 0 _ rfl
            have z0 := y0 u
            have z1 := y1 u
            have z2 := y2 u
            have hown2 := own_past (hown.alloc (.cells #[.int .i64 rows[m+1].lo, .int .i64 rows[m+1].hi, .int .i64 rows[m+1].v] 74)) u.below
            have hus := u.size
            simp only [World.size_alloc] at hus
            have HSTEP := Lib.hid (fun w3 A3 c3 hg => mk_step hmid hlt HX.out HA.out hbox hown u (w3 := w3) (A3 := A3) (c3 := c3) hg)
            clear hres hown y0 y1 y2 hmid hbox
            have HO := Lib.hid hown2
            clear hown2
            go_wp2_with (go_at_call 44; refine (join_any _ rows[m+1] A' c' _ (w.heap.size + 2) (by omega) HO.out HFIT.out.1 (by have := HFIT.out.2; omega)).mono ?_; rintro e w3 ⟨A3, c3, rfl, hgrew⟩; have p0 := blk_cell (blk_grown hbox2 hgrew.grown (fun e => by have := (HO.out.lt _ e).1; omega)) 0 _ rfl; have p1 := blk_free (blk_grown hbox2 hgrew.grown (fun e => by have := (HO.out.lt _ e).1; omega)) 0)
            go_roundw
            case rel => exact ⟨m+1+1, by omega, by go_num, HSTEP.out _ _ _ hgrew⟩
            case measure => simp [intOf]; omega
    · have e : k = rows.length := by omega
      subst e
      have hok : okL rows = true := by rw [← hmid.rest, List.drop_length]; rfl
      have HOK := Lib.hid hok
      rw [List.take_length] at hbox hown
      have q0 := blk_cell hbox 0 _ rfl
      have r0 := blk_cell hres 0 _ rfl
      have r1 := blk_free hres 0
      have hlen := (make_fit rows hok).2
      clear hok hmid
      by_cases h4 : 4096 < (makeGo rows []).length
      · have q2 := blk_cell (blk_set hres 0 (.slice none 0 0)) 0 _ rfl
        go_wp2
        have e : makeF rows = ([], 3) := by unfold makeF; rw [if_pos HOK.out, if_pos h4]
        rw [e]
        exact bodyPost_ret (v := .tuple #[.agg #[.slice none 0 0], .int .i64 3]) (by simp [results, Try.results19, go_sem, q2]) rfl
          ⟨none, 0, rfl, World.ownsRow_nil _ _ _ _, hbel.setCell (Nat.le_refl _) _⟩
      · have q2 := blk_cell (blk_set hres 0 (.slice A' (makeGo rows []).length c')) 0 _ rfl
        go_wp2
        have e : makeF rows = (makeGo rows [], 0) := by unfold makeF; rw [if_pos HOK.out, if_neg h4]
        rw [e]
        exact bodyPost_ret (v := .tuple #[.agg #[.slice A' (makeGo rows []).length c'], .int .i64 0]) (by simp [results, Try.results19, go_sem, q2]) rfl
          ⟨A', c', rfl, own_base (ownsRow_setCell_below hown (by simp) _) (by omega), hbel.setCell (Nat.le_refl _) _⟩
end Go.Proofs.Ytcempbgbdlmjfaa
