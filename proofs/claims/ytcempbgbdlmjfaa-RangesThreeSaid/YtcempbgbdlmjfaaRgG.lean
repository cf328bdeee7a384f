/-
  Ranges: the walk of Over.
-/
import Derived.Test.YtcempbgbdlmjfaaRgF
import Derived.Test.YtcempbgbdlmjfaaRgB
namespace Go.Proofs.Ytcempbgbdlmjfaa
open Go.RowKit

def ovGo (a b : List R) (k : Nat) : List R × Nat × Int := (b.take k).foldl (overStep a) ([], 0, 0)
theorem ovGo_succ (a b : List R) (k : Nat) (h : k < b.length) : ovGo a b (k + 1) = overStep a (ovGo a b k) b[k] := by
  unfold ovGo
  rw [List.take_succ_eq_append_getElem h, List.foldl_append]
  rfl
theorem San.take {m h v : Int} {l : List R} (hs : San m h v l) (k : Nat) : San m h v (l.take k) := by
  induction hs generalizing k with
  | nil => simp; exact .nil _ _ _
  | cons m h v x xs hf hm hn hs ih =>
    cases k with
    | zero => exact .nil _ _ _
    | succ k => exact .cons _ _ _ _ _ hf hm hn (ih k)
/-- what Over holds behind k rows of b -/
theorem ovGo_facts {a b : List R} (ha : San 0 (-1) 0 a) (hb : San 0 (-1) 0 b) (k : Nat) :
    0 ≤ (ovGo a b k).2.2 ∧ (ovGo a b k).2.2 ≤ 1114112 ∧ (∀ y ∈ (ovGo a b k).1, Fit y) ∧ (ovGo a b k).2.1 ≤ a.length ∧ (ovGo a b k).1.length ≤ a.length + 2 * b.length := by
  obtain ⟨t, i, n, e1, e2, e3, e4, e5, e6, e7, e8, e9, e10⟩ := over_fold a (b.take k) ([], 0, 0) (-1) 0 (hb.take k) (Int.le_refl _) (beh_nil _) (Nat.zero_le _) ⟨0, -1, 0, by simpa using ha⟩ (by simp)
  have e : ovGo a b k = (t, i, n) := e1
  rw [e]
  simp only [List.length_nil, Nat.sub_zero, List.length_take] at e10
  refine ⟨e2, ?_, fun y hy => (e3.1.memfit y hy).1, e4, by simp only; omega⟩
  -- the next number is a row's end and one
  have key : ∀ j, j ≤ b.length → (ovGo a b j).2.2 ≤ 1114112 := by
    intro j
    induction j with
    | zero => intro _; simp [ovGo]
    | succ j ih =>
      intro hj
      rw [ovGo_succ a b j (by omega)]
      have := hb.row_bd j (by omega)
      simp only [overStep]; omega
  by_cases hk : k ≤ b.length
  · have := key k hk; rw [e] at this; exact this
  · have := key b.length (Nat.le_refl _)
    have e' : ovGo a b b.length = ovGo a b k := by unfold ovGo; rw [List.take_of_length_le (Nat.le_refl _), List.take_of_length_le (by omega)]
    rw [e', e] at this; exact this
theorem betGo_fits (xs : List R) : ∀ (l : List R) (i : Nat) (fr up : Int), (∀ y ∈ l, Fit y) → (∀ y ∈ xs, Fit y) → (∀ y ∈ (betGo l xs i fr up).1, Fit y) ∧ (betGo l xs i fr up).1.length ≤ l.length + xs.length := by
  induction xs with
  | nil => intro l i fr up hl _; exact ⟨hl, by simp [betGo]⟩
  | cons x xs ih =>
    intro l i fr up hl hx
    simp only [betGo]
    by_cases hlo : x.lo ≤ up
    · rw [if_pos hlo]
      have hl' : (∀ y ∈ (if max x.lo fr ≤ min x.hi up then joinF l ⟨max x.lo fr, min x.hi up, x.v⟩ else l), Fit y) ∧ (if max x.lo fr ≤ min x.hi up then joinF l ⟨max x.lo fr, min x.hi up, x.v⟩ else l).length ≤ l.length + 1 := by
        by_cases hp : max x.lo fr ≤ min x.hi up
        · rw [if_pos hp]; exact ⟨joinF_fits hl (piece_fit (hx x (by simp)) hp), joinF_len _ _⟩
        · rw [if_neg hp]; exact ⟨hl, by omega⟩
      by_cases hh : up < x.hi
      · rw [if_pos hh]; exact ⟨hl'.1, by simp only [List.length_cons]; omega⟩
      · rw [if_neg hh]
        obtain ⟨h1, h2⟩ := ih _ (i + 1) fr up hl'.1 (fun y hy => hx y (by simp [hy]))
        exact ⟨h1, by simp only [List.length_cons]; omega⟩
    · rw [if_neg hlo]; exact ⟨hl, by simp⟩

/-- what stands in memory in the middle of Over: S the number of the first box, T that of the table that is made -/
structure OvMid (w : World) (T : Nat) (a b : List R) (Aa : Option Addr) (ca : Nat) (k : Nat) (wr : World) : Prop where
  boxA : wr.heap[w.heap.size]? = some (.cells #[.slice Aa a.length ca] 27 (0, 0))
  res : wr.heap[w.heap.size + 2]? = some (.cells #[.slice none 0 0] 27 (0, 0))
  box : ∃ A' c', wr.heap[T]? = some (.cells #[.slice A' (ovGo a b k).1.length c'] 27 (0, 0)) ∧
    wr.ownsRow (T + 1) 74 3 (.slice A' (ovGo a b k).1.length c') (ovGo a b k).1.length (rowCells (ovGo a b k).1)
  below : Below w.heap.size w wr
  size : T + 1 ≤ wr.heap.size

/-- the next table is laid into its box -/
theorem ov_store {w wr w3 : World} {T : Nat} (hT : w.heap.size + 3 ≤ T) {v v3 : Value} {n3 : Nat} {xs3 : List Value} {o oA oR : Obj} {vt : Value} {X : Nat} (hX : X < wr.heap.size) (hTX : T < X)
    (hown : ∀ g, v.ownBlock = some g → T + 1 ≤ g ∧ g ≠ X) (hg : Grew (T + 1) 74 3 wr v w3 v3 n3 xs3)
    (hA : wr.heap[w.heap.size]? = some oA) (hR : wr.heap[w.heap.size + 2]? = some oR) (hb : wr.heap[T]? = some (.cells #[vt] 27 (0, 0))) (hx : wr.heap[X]? = some o) (hbel : Below w.heap.size w wr) :
    (w3.setCell ⟨T, 0, none⟩ v3).heap[w.heap.size]? = some oA ∧ (w3.setCell ⟨T, 0, none⟩ v3).heap[w.heap.size + 2]? = some oR ∧ (w3.setCell ⟨T, 0, none⟩ v3).heap[T]? = some (.cells #[v3] 27 (0, 0)) ∧
    (w3.setCell ⟨T, 0, none⟩ v3).heap[X]? = some o ∧ (w3.setCell ⟨T, 0, none⟩ v3).ownsRow (T + 1) 74 3 v3 n3 xs3 ∧ Below w.heap.size w (w3.setCell ⟨T, 0, none⟩ v3) ∧
    wr.heap.size ≤ (w3.setCell ⟨T, 0, none⟩ v3).heap.size ∧ w3.heap[T]? = some (.cells #[vt] 27 (0, 0)) ∧ (∀ g, v3.ownBlock = some g → T + 1 ≤ g ∧ g ≠ X) := by
  have far : ∀ g, g < T + 1 ∨ g = X → v.ownBlock ≠ some g := fun g h e => by have := hown g e; omega
  have h1 := blk_grown hA hg.grown (far _ (by omega))
  have h2 := blk_grown hR hg.grown (far _ (by omega))
  have h3 := blk_grown hb hg.grown (far _ (by omega))
  have h4 := blk_grown hx hg.grown (far _ (.inr rfl))
  refine ⟨blk_far h1 (by simp; omega) _, blk_far h2 (by simp; omega) _, by simpa using blk_set h3 0 v3, blk_far h4 (by simp; omega) _, ownsRow_setCell_below hg.own (by simp) _, ?_, ?_, h3, fun g e => ?_⟩
  · refine Below.setCell (bt hbel (below_of_grown (B := w.heap.size) hg.grown hbel.size (fun g e => ?_)) (Nat.le_refl _)) (by simp; omega) _
    have := (hown g e).1; omega
  · have := hg.grown.size
    simpa [World.setCell] using this
  · rcases hg.lies g e with h | h
    · exact hown g h
    · have := (hg.own.lt g e).1; exact ⟨this, by omega⟩

theorem ov_store0 {w wr w3 : World} {T : Nat} (hT : w.heap.size + 3 ≤ T) {v v3 : Value} {n3 : Nat} {xs3 : List Value} {oR : Obj} {vt : Value}
    (hown : ∀ g, v.ownBlock = some g → T + 1 ≤ g) (hg : Grew (T + 1) 74 3 wr v w3 v3 n3 xs3)
    (hR : wr.heap[w.heap.size + 2]? = some oR) (hb : wr.heap[T]? = some (.cells #[vt] 27 (0, 0))) (hbel : Below w.heap.size w wr) :
    True ∧ (w3.setCell ⟨T, 0, none⟩ v3).heap[w.heap.size + 2]? = some oR ∧ (w3.setCell ⟨T, 0, none⟩ v3).heap[T]? = some (.cells #[v3] 27 (0, 0)) ∧
    (w3.setCell ⟨T, 0, none⟩ v3).ownsRow (T + 1) 74 3 v3 n3 xs3 ∧ Below w.heap.size w (w3.setCell ⟨T, 0, none⟩ v3) ∧
    w3.heap[T]? = some (.cells #[vt] 27 (0, 0)) := by
  have far : ∀ g, g < T + 1 → v.ownBlock ≠ some g := fun g h e => by have := hown g e; omega
  have h2 := blk_grown hR hg.grown (far _ (by omega))
  have h3 := blk_grown hb hg.grown (far _ (by omega))
  refine ⟨trivial, blk_far h2 (by simp; omega) _, by simpa using blk_set h3 0 v3, ownsRow_setCell_below hg.own (by simp) _, ?_, h3⟩
  refine Below.setCell (bt hbel (below_of_grown (B := w.heap.size) hg.grown hbel.size (fun g e => ?_)) (Nat.le_refl _)) (by simp; omega) _
  have := hown g e; omega

set_option maxRecDepth 100000 in
set_option maxHeartbeats 3200000 in
theorem over_any (a b : List R) (Aa Ab : Option Addr) (ca cb : Nat) (w : World) (B : Nat) (hB : B ≤ w.heap.size) (hra : Rd w B Aa (rowCells a)) (hrb : Rd w B Ab (rowCells b)) (la : a.length ≤ 10000) (lb : b.length ≤ 10000) :
    Calls Try.prog 24 #[.agg #[.slice Aa a.length ca], .agg #[.slice Ab b.length cb]] w fun e w' => ∃ A' c', e = .returned (.agg #[.slice A' (overF a b).length c']) ∧
      w'.ownsRow w.heap.size 74 3 (.slice A' (overF a b).length c') (overF a b).length (rowCells (overF a b)) ∧ Below w.heap.size w w' := by
  have ra1 := ((hra.alloc hB (.cells #[.slice Aa a.length ca] 27)).alloc (by simp; omega) (.cells #[.slice Ab b.length cb] 27)).alloc (by simp; omega) (.cells #[.slice none 0 0] 27)
  have rb1 := ((hrb.alloc hB (.cells #[.slice Aa a.length ca] 27)).alloc (by simp; omega) (.cells #[.slice Ab b.length cb] 27)).alloc (by simp; omega) (.cells #[.slice none 0 0] 27)
  have m1 : a.length ≤ maxLen := by unfold maxLen; omega
  have m2 : b.length ≤ maxLen := by unfold maxLen; omega
  have hA0 : (((w.alloc (.cells #[.slice Aa a.length ca] 27)).alloc (.cells #[.slice Ab b.length cb] 27)).alloc (.cells #[.slice none 0 0] 27)).heap[w.heap.size]? = some (.cells #[.slice Aa a.length ca] 27) := blk_alloc (blk_alloc (heap_alloc_new _ _) _) _
  have hB0 : (((w.alloc (.cells #[.slice Aa a.length ca] 27)).alloc (.cells #[.slice Ab b.length cb] 27)).alloc (.cells #[.slice none 0 0] 27)).heap[w.heap.size + 1]? = some (.cells #[.slice Ab b.length cb] 27) := blk_alloc (heap_new_at (by simp)) _
  have hR0 : (((w.alloc (.cells #[.slice Aa a.length ca] 27)).alloc (.cells #[.slice Ab b.length cb] 27)).alloc (.cells #[.slice none 0 0] 27)).heap[w.heap.size + 2]? = some (.cells #[.slice none 0 0] 27) := heap_new_at (by simp)
  have hW0 : Below w.heap.size w (((w.alloc (.cells #[.slice Aa a.length ca] 27)).alloc (.cells #[.slice Ab b.length cb] 27)).alloc (.cells #[.slice none 0 0] 27)) := (((Below.refl _ _).alloc (Nat.le_refl _) _).alloc (by simp) _).alloc (by simp; omega) _
  cases hsa : saneF a with
  | false =>
    have HSA := Lib.hid hsa; clear hsa
    go_enter Try.func24, Try.ntmps24
    go_wp2_with (go_at_call 16; refine (sane_any a Aa ca _ B (by simp; omega) ra1 m1).mono ?_; rintro e w1 ⟨rfl, hb1⟩; simp only [HSA.out]; have hR1 := blk_past hR0 hb1 (Nat.le_refl _); have p0 := blk_cell hR1 0 _ rfl; have p1 := blk_free hR1 0)
    have q2 := blk_cell (blk_set hR1 0 (.slice none 0 0)) 0 _ rfl
    have e : overF a b = [] := by unfold overF; rw [if_neg (by simp [HSA.out])]
    rw [e]
    exact bodyPost_ret (v := .agg #[.slice none 0 0]) (by simp [results, Try.results24, go_sem, q2]) rfl
      ⟨none, 0, rfl, World.ownsRow_nil _ _ _ _, (bt hW0 hb1 (by simp; omega)).setCell (by show w.heap.size ≤ w.heap.size + 2; omega) _⟩
  | true =>
    have HSA := Lib.hid hsa; clear hsa
    cases hsb : saneF b with
    | false =>
      have HSB := Lib.hid hsb; clear hsb
      go_enter Try.func24, Try.ntmps24
      go_wp2_with (first | (go_at_call_of 16 (Value.agg #[Value.slice Aa a.length ca]); refine (sane_any a Aa ca _ B (by simp; omega) ra1 m1).mono ?_; rintro e w1 ⟨rfl, hb1⟩; simp only [HSA.out]; have p2 := blk_cell (blk_past hB0 hb1 (Nat.le_refl _)) 0 _ rfl) | (go_at_call 16; refine (sane_any b Ab cb _ B (by have := hb1.size; simp at this; omega) (rb1.below hb1 (by simp; omega)) m2).mono ?_; rintro e w2 ⟨rfl, hb2⟩; simp only [HSB.out]; have hR1 := blk_past (blk_past hR0 hb1 (Nat.le_refl _)) hb2 (Nat.le_refl _); have p0 := blk_cell hR1 0 _ rfl; have p1 := blk_free hR1 0))
      have q2 := blk_cell (blk_set hR1 0 (.slice none 0 0)) 0 _ rfl
      have e : overF a b = [] := by unfold overF; rw [if_neg (by simp [HSA.out, HSB.out])]
      rw [e]
      exact bodyPost_ret (v := .agg #[.slice none 0 0]) (by simp [results, Try.results24, go_sem, q2]) rfl
        ⟨none, 0, rfl, World.ownsRow_nil _ _ _ _, (bt (bt hW0 hb1 (by simp; omega)) hb2 (by have := hb1.size; simp at this; omega)).setCell (by show w.heap.size ≤ w.heap.size + 2; omega) _⟩
    | true =>
      have hsA := (saneF_iff _).1 HSA.out
      have hsB := (saneF_iff _).1 hsb
      have HSB := Lib.hid hsb; clear hsb
      have HfA := Lib.hid (fun y hy => (hsA.2.memfit y hy).1)
      have HfB := Lib.hid hsB.2.row_bd
      have HGO := Lib.hid (ovGo_facts hsA.2 hsB.2)
      have HFB := Lib.hid (fun y hy => (hsB.2.memfit y hy).1)
      clear hsA hsB
      go_enter Try.func24, Try.ntmps24
      go_wp2_with (first | (go_at_call_of 16 (Value.agg #[Value.slice Aa a.length ca]); refine (sane_any a Aa ca _ B (by simp; omega) ra1 m1).mono ?_; rintro e w1 ⟨rfl, hb1⟩; simp only [HSA.out]; have p2 := blk_cell (blk_past hB0 hb1 (Nat.le_refl _)) 0 _ rfl) | (go_at_call 16; refine (sane_any b Ab cb _ B (by have := hb1.size; simp at this; omega) (rb1.below hb1 (by simp; omega)) m2).mono ?_; rintro e w2 ⟨rfl, hb2⟩; simp only [HSB.out]; have hB1 := blk_past (blk_past hB0 hb1 (Nat.le_refl _)) hb2 (Nat.le_refl _); have p3 := blk_cell (blk_alloc hB1 (.cells #[.slice none 0 0] 27)) 0 _ rfl))
      have hbel2 : Below w.heap.size w w2 := bt (bt hW0 hb1 (by simp; omega)) hb2 (by have := hb1.size; simp at this; omega)
      have hT : w.heap.size + 3 ≤ w2.heap.size := by have := hb1.size; have := hb2.size; simp at *; omega
      have hA2 := blk_past (blk_past hA0 hb1 (Nat.le_refl _)) hb2 (Nat.le_refl _)
      have hR2 := blk_past (blk_past hR0 hb1 (Nat.le_refl _)) hb2 (Nat.le_refl _)
      clear hb1 hb2 ra1 rb1 hA0 hB0 hR0 hW0 hB1 p2 p3
      go_loopw [6, 7, 22] (fun ii nx kk wr => ∃ k : Nat, k ≤ b.length ∧ kk = .int .i64 k ∧ ii = .int .i64 (ovGo a b k).2.1 ∧ nx = .int .i64 (ovGo a b k).2.2 ∧ OvMid w w2.heap.size a b Aa ca k wr) (fun _ _ kk _ => b.length - (intOf kk).toNat)
      case atStart =>
        exact ⟨0, Nat.zero_le _, rfl, rfl, rfl, blk_alloc hA2 _, blk_alloc hR2 _, ⟨none, 0, heap_alloc_new _ _, (World.ownsRow_nil _ _ _ _).alloc _⟩, hbel2.alloc (by omega) _, by simp⟩
      case round =>
        obtain ⟨k, hk, rfl, rfl, rfl, hmid⟩ := hrel
        have hsz := hmid.size
        have hbel := hmid.below
        obtain ⟨A', c', hbox, hown⟩ := hmid.box
        have hboxA := hmid.boxA
        have hres := hmid.res
        obtain ⟨g0, g1, g2, g3, g4⟩ := HGO.out k
        clear hA2 hR2 hbel2 hmid
        by_cases hlt : k < b.length
        · obtain ⟨bb, off, rfl, hbB, hc⟩ := rd_rows hrb (by omega)
          obtain ⟨c0, c1, c2⟩ := hc k hlt
          have d0 := past_B hbel (Nat.lt_of_lt_of_le hbB hB) c0
          have d1 := past_B hbel (Nat.lt_of_lt_of_le hbB hB) c1
          have d2 := past_B hbel (Nat.lt_of_lt_of_le hbB hB) c2
          obtain ⟨r0, r1, r2⟩ := HfB.out k hlt
          have X0 := blk_alloc hboxA (.cells #[.int .i64 b[k].lo, .int .i64 b[k].hi, .int .i64 b[k].v] 74)
          have X1 := blk_alloc hres (.cells #[.int .i64 b[k].lo, .int .i64 b[k].hi, .int .i64 b[k].v] 74)
          have X2 := blk_alloc hbox (.cells #[.int .i64 b[k].lo, .int .i64 b[k].hi, .int .i64 b[k].v] 74)
          have X3 := heap_alloc_new wr (.cells #[.int .i64 b[k].lo, .int .i64 b[k].hi, .int .i64 b[k].v] 74)
          have X4 := hown.alloc (.cells #[.int .i64 b[k].lo, .int .i64 b[k].hi, .int .i64 b[k].v] 74)
          have X5 : ∀ g, (Value.slice A' (ovGo a b k).1.length c').ownBlock = some g → w2.heap.size + 1 ≤ g ∧ g ≠ wr.heap.size := fun g e => by have := hown.lt g e; omega
          have X6 := hbel.alloc hbel.size (.cells #[.int .i64 b[k].lo, .int .i64 b[k].hi, .int .i64 b[k].v] 74)
          have X7 : Rd (wr.alloc (.cells #[.int .i64 b[k].lo, .int .i64 b[k].hi, .int .i64 b[k].v] 74)) (w2.heap.size + 1) Aa (rowCells a) := (hra.below X6 hB).more (by omega)
          have q0 := blk_cell X0 0 _ rfl
          have q1 := blk_cell X2 0 _ rfl
          have q2 := blk_cell X3 0 _ rfl
          have q3 := blk_cell X3 1 _ rfl
          have q4 := blk_cell X3 2 _ rfl
          clear hc c0 c1 c2 hboxA hres hbox hown hrb hra hbel
          have hX : wr.heap.size < (wr.alloc (.cells #[.int .i64 b[k].lo, .int .i64 b[k].hi, .int .i64 b[k].v] 74)).heap.size := by simp
          have hTX : w2.heap.size < wr.heap.size := by omega
          have hbf := betGo_fits (a.drop (ovGo a b k).2.1) (ovGo a b k).1 (ovGo a b k).2.1 (ovGo a b k).2.2 (b[k].lo - 1) g2 (fun y hy => HfA.out y (List.mem_of_mem_drop hy))
          rw [List.length_drop] at hbf
          have HBF := Lib.hid hbf
          have G2 := Lib.hid g2
          have X4' := Lib.hid X4
          have X5' := Lib.hid X5
          have X7' := Lib.hid X7
          clear X4 X5 X7 hbf g2
          go_wp2_with (first | (go_at_call 45; refine (between_any (ovGo a b k).1 a (ovGo a b k).2.1 (ovGo a b k).2.2 (b[k].lo - 1) A' Aa c' ca _ (w2.heap.size + 1) (by simp; omega) X4'.out X7'.out G2.out HfA.out g3 (by omega)).mono ?_; rintro e w3 ⟨A3, c3, rfl, hg3⟩; obtain ⟨Y0, Y1, Y2, Y3, Y4, Y5, Y6, Y7, Y8⟩ := ov_store hT hX hTX X5'.out hg3 X0 X1 X2 X3 X6; have s0 := blk_cell Y7 0 _ rfl; have s1 := blk_free Y7 0; have s2 := blk_cell Y2 0 _ rfl; have s3 := blk_cell Y3 0 _ rfl; have s4 := blk_cell Y3 1 _ rfl; have s5 := blk_cell Y3 2 _ rfl; have Y4' := Lib.hid Y4; have Y8' := Lib.hid Y8; clear Y4 Y8) | (go_at_call 44; refine (join_any (betF (ovGo a b k).1 a (ovGo a b k).2.1 (ovGo a b k).2.2 (b[k].lo - 1)).1 b[k] A3 c3 _ (w2.heap.size + 1) (by omega) Y4'.out HBF.out.1 (by have := HBF.out.2; unfold betF; omega)).mono ?_; rintro e w5 ⟨A5, c5, rfl, hg5⟩; obtain ⟨Z0, Z1, Z2, Z3, Z4, Z5, Z6, Z7, Z8⟩ := ov_store hT (X := wr.heap.size) (by omega) hTX Y8'.out hg5 Y0 Y1 Y2 Y3 Y5; have t0 := blk_cell Z7 0 _ rfl; have t1 := blk_free Z7 0; have t2 := blk_cell Z3 0 _ rfl; have t3 := blk_cell Z3 1 _ rfl; have t4 := blk_cell Z3 2 _ rfl; have Z4' := Lib.hid Z4; have Z8' := Lib.hid Z8; clear Z4 Z8))
          go_roundw
          case rel =>
            have e := ovGo_succ a b k hlt
            refine ⟨k + 1, by omega, by go_num, by rw [e]; rfl, by rw [e]; rfl, Z0, Z1, ⟨A5, c5, ?_, ?_⟩, Z5, by omega⟩
            · rw [e]; exact Z2
            · rw [e]; exact Z4'.out
          case measure => simp [intOf]; omega
        · have e : k = b.length := by omega
          subst e
          have X5 : ∀ g, (Value.slice A' (ovGo a b b.length).1.length c').ownBlock = some g → w2.heap.size + 1 ≤ g := fun g e => (hown.lt g e).1
          have X7 : Rd wr (w2.heap.size + 1) Aa (rowCells a) := (hra.below hbel hB).more (by omega)
          have q0 := blk_cell hboxA 0 _ rfl
          have q1 := blk_cell hbox 0 _ rfl
          have hbf := betGo_fits (a.drop (ovGo a b b.length).2.1) (ovGo a b b.length).1 (ovGo a b b.length).2.1 (ovGo a b b.length).2.2 1114111 g2 (fun y hy => HfA.out y (List.mem_of_mem_drop hy))
          rw [List.length_drop] at hbf
          have HBF := Lib.hid hbf
          have G2 := Lib.hid g2
          have X4' := Lib.hid hown
          have X5' := Lib.hid X5
          have X7' := Lib.hid X7
          have hraw : (betF (ovGo a b b.length).1 a (ovGo a b b.length).2.1 (ovGo a b b.length).2.2 1114111).1 = overRaw a b := by
            unfold overRaw ovGo; rw [List.take_length]
          have HRAW := Lib.hid hraw
          clear hown X5 X7 hbf g2 hraw hra hrb
          by_cases h4 : 4096 < (overRaw a b).length
          · go_wp2_with (go_at_call 45; refine (between_any (ovGo a b b.length).1 a (ovGo a b b.length).2.1 (ovGo a b b.length).2.2 1114111 A' Aa c' ca _ (w2.heap.size + 1) (by omega) X4'.out X7'.out G2.out HfA.out g3 (by omega)).mono ?_; rintro e w3 ⟨A3, c3, rfl, hg3⟩; rw [HRAW.out] at hg3 ⊢; obtain ⟨Y0, Y1, Y2, Y3, Y4, Y5⟩ := ov_store0 hT X5'.out hg3 hres hbox hbel; have s0 := blk_cell Y5 0 _ rfl; have s1 := blk_free Y5 0; have s2 := blk_cell Y2 0 _ rfl; have s3 := blk_cell Y1 0 _ rfl; have s4 := blk_free Y1 0; have Y3' := Lib.hid Y3; clear Y3)
            have q2 := blk_cell (blk_set Y1 0 (.slice none 0 0)) 0 _ rfl
            have e : overF a b = [] := by unfold overF; rw [if_pos (by simp [HSA.out, HSB.out]), if_pos h4]
            rw [e]
            exact bodyPost_ret (v := .agg #[.slice none 0 0]) (by simp [results, Try.results24, go_sem, q2]) rfl
              ⟨none, 0, rfl, World.ownsRow_nil _ _ _ _, Y4.setCell (by show w.heap.size ≤ w.heap.size + 2; omega) _⟩
          · go_wp2_with (go_at_call 45; refine (between_any (ovGo a b b.length).1 a (ovGo a b b.length).2.1 (ovGo a b b.length).2.2 1114111 A' Aa c' ca _ (w2.heap.size + 1) (by omega) X4'.out X7'.out G2.out HfA.out g3 (by omega)).mono ?_; rintro e w3 ⟨A3, c3, rfl, hg3⟩; rw [HRAW.out] at hg3 ⊢; obtain ⟨Y0, Y1, Y2, Y3, Y4, Y5⟩ := ov_store0 hT X5'.out hg3 hres hbox hbel; have s0 := blk_cell Y5 0 _ rfl; have s1 := blk_free Y5 0; have s2 := blk_cell Y2 0 _ rfl; have s3 := blk_cell Y1 0 _ rfl; have s4 := blk_free Y1 0; have Y3' := Lib.hid Y3; clear Y3)
            have q2 := blk_cell (blk_set Y1 0 (.slice A3 (overRaw a b).length c3)) 0 _ rfl
            have e : overF a b = overRaw a b := by unfold overF; rw [if_pos (by simp [HSA.out, HSB.out]), if_neg h4]
            rw [e]
            exact bodyPost_ret (v := .agg #[.slice A3 (overRaw a b).length c3]) (by simp [results, Try.results24, go_sem, q2]) rfl
              ⟨A3, c3, rfl, own_base (ownsRow_setCell_below Y3'.out (by show w.heap.size + 2 < w2.heap.size + 1; omega) _) (by omega), Y4.setCell (by show w.heap.size ≤ w.heap.size + 2; omega) _⟩
end Go.Proofs.Ytcempbgbdlmjfaa
