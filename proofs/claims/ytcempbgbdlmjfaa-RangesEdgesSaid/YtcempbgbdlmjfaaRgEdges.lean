/-
  lapwinglaw01.RangesEdges: for all rows and every number it answers true: of a table that may be, each row's ends have its number, those next to them another one or the next row's. No condition.
-/
import Derived.Test.YtcempbgbdlmjfaaRgH
import Derived.Test.YtcempbgbdlmjfaaRgB
import Derived.Deep.CutRange
import Derived.Deep.DeepCutAuto
namespace Go.Proofs.Ytcempbgbdlmjfaa
open Go.RowKit

/-- what stands in memory once the table and the row are laid: n the table's box -/
structure EdgeMem (rows : List R) (w : World) (n : Nat) (A4 : Option Addr) (c4 b off j : Nat) (hj : j < rows.length) (W : World) : Prop where
  t : W.heap[n]? = some (.cells #[.slice A4 rows.length c4] 27 (0, 0))
  x : W.heap[n + 1]? = some (.cells #[.int .i64 rows[j].lo, .int .i64 rows[j].hi, .int .i64 rows[j].v] 30 (0, 0))
  cells : ∀ i (_ : i < rows.length), W.cell? ⟨b, off + i * 3, none⟩ = some (.int .i64 rows[i].lo) ∧ W.cell? ⟨b, off + i * 3 + 1, none⟩ = some (.int .i64 rows[i].hi) ∧ W.cell? ⟨b, off + i * 3 + 2, none⟩ = some (.int .i64 rows[i].v)
  rd : Rd W n A4 (rowCells rows)
  below : Below w.heap.size w W
  size : n + 2 ≤ W.heap.size
theorem EdgeMem.after {rows : List R} {w : World} {n : Nat} {A4 : Option Addr} {c4 b off j : Nat} {hj : j < rows.length} {W : World} (h : EdgeMem rows w n A4 c4 b off j hj W) (u : After W) : EdgeMem rows w n A4 c4 b off j hj u.get :=
  ⟨u.blk h.t, u.blk h.x, fun i hi => ⟨u.cell (h.cells i hi).1, u.cell (h.cells i hi).2.1, u.cell (h.cells i hi).2.2⟩, u.rd h.rd (by have := h.size; omega), bt h.below u.below h.below.size, by have := h.size; have := u.size; omega⟩

theorem edge_get {rows : List R} {w : World} {n : Nat} {A4 : Option Addr} {c4 b off j : Nat} {hj : j < rows.length} {W : World} (h : EdgeMem rows w n A4 c4 b off j hj W) (hl : rows.length ≤ maxLen) {r v : Int} (hv : getF rows r = v) {u : After W} :
    Calls Try.prog 18 #[.agg #[.slice A4 rows.length c4], .int .i64 r] u.get fun e w'' => e = .returned (.int .i64 v) ∧ ∃ u' : After W, w'' = u'.get :=
  Calls.after_int hv (get_any rows A4 c4 r u.get n (by have := h.size; have := u.size; omega) (u.rd h.rd (by have := h.size; omega)) hl)

theorem edge_bef {rows : List R} (hs : San 0 (-1) 0 rows) (j : Nat) (hj : j < rows.length) :
    (j = 0 → getF rows (rows[j].lo - 1) = 0) ∧ (∀ p, (hp : j = p + 1) → getF rows (rows[j].lo - 1) = if rows[p].hi = rows[j].lo - 1 then rows[p].v else 0) ∧ getF rows (rows[j].lo - 1) ≠ rows[j].v := by
  have hv : 1 ≤ rows[j].v := (hs.memfit rows[j] (by simp)).1.2.2.2.1
  refine ⟨fun h => ?_, fun p hp => ?_, ?_⟩
  · subst h; exact get_before0 hs hj
  · subst hp; exact get_before hs p hj
  · cases j with
    | zero => rw [get_before0 hs hj]; omega
    | succ p =>
      rw [get_before hs p hj]
      have := (hs.next p hj).2
      split
      · intro e; exact this ⟨by omega, e.symm⟩
      · omega
theorem edge_aft {rows : List R} (hs : San 0 (-1) 0 rows) (j : Nat) (hj : j < rows.length) :
    (j + 1 = rows.length → getF rows (rows[j].hi + 1) = 0) ∧ ((hp : j + 1 < rows.length) → getF rows (rows[j].hi + 1) = if rows[j+1].lo = rows[j].hi + 1 then rows[j+1].v else 0) ∧ getF rows (rows[j].hi + 1) ≠ rows[j].v := by
  have hv : 1 ≤ rows[j].v := (hs.memfit rows[j] (by simp)).1.2.2.2.1
  refine ⟨fun h => get_afterLast hs j h, fun hp => get_after hs j hp, ?_⟩
  by_cases hp : j + 1 < rows.length
  · rw [get_after hs j hp]
    have := (hs.next j hp).2
    split
    · intro e; exact this ⟨by omega, e⟩
    · omega
  · rw [get_afterLast hs j (by omega)]; omega

set_option maxRecDepth 100000 in
set_option maxHeartbeats 3200000 in
theorem edges_walk (rows : List R) (A : Option Addr) (c : Nat) (k : Int) (w : World) (B : Nat) (hB : B ≤ w.heap.size) (hr0 : Rd w B A (rowCells rows)) (hl : rows.length ≤ maxLen) :
    Calls Try.prog 3 #[.slice A rows.length c, .int .i64 k] w fun e w' => e = .returned (.bool true) ∧ Below w.heap.size w w' := by
  have hl' := hl
  unfold maxLen at hl'
  by_cases h200 : 200 < rows.length
  · go_enter Try.func3, Try.ntmps3
    go_wp2_with (go_at_call 15; refine (awake_any _).mono ?_; rintro e w1 ⟨rfl, hb1⟩)
    go_ret
    exact ⟨rfl, hb1⟩
  by_cases h0 : rows.length = 0
  · have h0' : ((rows.length : Int) == 0) = true := by simp [h0]
    go_enter Try.func3, Try.ntmps3
    go_wp2_with (go_at_call 15; refine (awake_any _).mono ?_; rintro e w1 ⟨rfl, hb1⟩)
    go_ret
    exact ⟨rfl, hb1⟩
  have h0' : ((rows.length : Int) == 0) = false := by rw [beq_eq_false_iff_ne]; omega
  cases hs : saneF rows with
  | false =>
    have HS := Lib.hid hs; clear hs
    go_enter Try.func3, Try.ntmps3
    go_wp2_with (first
      | (go_at_call 15; refine (awake_any _).mono ?_; rintro e w1 ⟨rfl, hb1⟩)
      | (go_at_call 17; refine (table_any rows _ c _ B (by have := hb1.size; omega) (hr0.below hb1 hB) (by omega)).mono ?_; rintro e w2 ⟨A2, c2, rfl, hown2, hb2⟩; have HO := Lib.hid hown2; clear hown2)
      | (go_at_call 16; refine (sane_any rows A2 c2 _ _ (Nat.le_refl _) (Rd.of_own HO.out) hl).mono ?_; rintro e w3 ⟨rfl, hb3⟩; simp only [HS.out]))
    go_ret
    exact ⟨rfl, bt (bt hb1 hb2 hb1.size) hb3 (by have := hb1.size; have := hb2.size; omega)⟩
  | true =>
    have HS := Lib.hid hs; clear hs
    obtain ⟨m, hm, hm2⟩ := and_16 k
    have hm0 : (0 : Int) ≤ m := by omega
    have hlp : (1 : Int) ≤ rows.length := by omega
    obtain ⟨j, hj⟩ : ∃ j : Nat, j = m % rows.length := ⟨_, rfl⟩
    have hjl : j < rows.length := by rw [hj]; exact Nat.mod_lt _ (by omega)
    have hmod : (m : Int) % (rows.length : Int) = (j : Int) := by rw [hj]; simp
    clear hj
    obtain ⟨b, off, rfl, hbB, hc⟩ := rd_rows hr0 (by omega)
    obtain ⟨z0, z1, z2⟩ := hc j hjl
    have i0 : (0 : Int) ≤ (j : Int) := by omega
    have i1 : (j : Int) < (rows.length : Int) := by omega
    go_enter Try.func3, Try.ntmps3
    go_wp2_with (first
      | (go_at_call 15; refine (awake_any _).mono ?_; rintro e w1 ⟨rfl, hb1⟩)
      | (go_at_call 16; refine (sane_any rows A2 c2 _ _ (Nat.le_refl _) (Rd.of_own HO.out) hl).mono ?_; rintro e w3 ⟨rfl, hb3⟩; simp only [HS.out]; have tok : True := trivial)
      | (go_at_call 17; have _t := tok; refine (table_any rows _ c _ B (by have := hb1.size; have := hb2.size; have := hb3.size; omega) (((hr0.below hb1 hB).below hb2 (by have := hb1.size; omega)).below hb3 (by have := hb1.size; have := hb2.size; omega)) (by omega)).mono ?_; rintro e w4 ⟨A4, c4, rfl, hown4, hb4⟩; have hB4 := bt (bt (bt hb1 hb2 hb1.size) hb3 (by have := hb1.size; have := hb2.size; omega)) hb4 (by have := hb1.size; have := hb2.size; have := hb3.size; omega); have d0 := past_alloc (o := .cells #[.slice A4 rows.length c4] 27) (Below.refl _ _) (past_B hB4 (Nat.lt_of_lt_of_le hbB hB) z0); have d1 := past_alloc (o := .cells #[.slice A4 rows.length c4] 27) (Below.refl _ _) (past_B hB4 (Nat.lt_of_lt_of_le hbB hB) z1); have d2 := past_alloc (o := .cells #[.slice A4 rows.length c4] 27) (Below.refl _ _) (past_B hB4 (Nat.lt_of_lt_of_le hbB hB) z2); have HO4 := Lib.hid hown4; clear hown4)
      | (go_at_call 17; refine (table_any rows _ c _ B (by have := hb1.size; omega) (hr0.below hb1 hB) (by omega)).mono ?_; rintro e w2 ⟨A2, c2, rfl, hown2, hb2⟩; have HO := Lib.hid hown2; clear hown2))
    have hmem : EdgeMem rows w w4.heap.size A4 c4 b off j hjl ((w4.alloc (.cells #[.slice A4 rows.length c4] 27)).alloc (.cells #[.int .i64 rows[j].lo, .int .i64 rows[j].hi, .int .i64 rows[j].v] 30)) := by
      refine ⟨blk_alloc (heap_alloc_new _ _) _, heap_new_at (by simp), fun i hi => ?_, ((Rd.of_own HO4.out).alloc (Nat.le_refl _) _).alloc (by simp) _, (hB4.alloc hB4.size _).alloc (by have := hB4.size; simp; omega) _, by simp⟩
      obtain ⟨q0, q1, q2⟩ := hc i hi
      have pp : ∀ {o : Nat} {v : Value}, w.cell? ⟨b, o, none⟩ = some v → ((w4.alloc (.cells #[.slice A4 rows.length c4] 27)).alloc (.cells #[.int .i64 rows[j].lo, .int .i64 rows[j].hi, .int .i64 rows[j].v] 30)).cell? ⟨b, o, none⟩ = some v := fun h =>
        past_alloc (Below.refl _ _) (past_alloc (Below.refl _ _) (past_B hB4 (Nat.lt_of_lt_of_le hbB hB) h))
      exact ⟨pp q0, pp q1, pp q2⟩
    generalize hW : ((w4.alloc (.cells #[.slice A4 rows.length c4] 27)).alloc (.cells #[.int .i64 rows[j].lo, .int .i64 rows[j].hi, .int .i64 rows[j].v] 30)) = W at hmem ⊢
    have hs2 := ((saneF_iff _).1 HS.out).2
    have hbef := edge_bef hs2 j hjl
    have haft := edge_aft hs2 j hjl
    have hrw := hs2.row_bd j hjl
    have hgx0 := get_row hs2 j hjl (Int.le_refl _) hrw.2.1
    have hgx1 := get_row hs2 j hjl hrw.2.1 (Int.le_refl _)
    have HBEF := Lib.hid hbef
    have HAFT := Lib.hid haft
    have HGX0 := Lib.hid hgx0
    have HGX1 := Lib.hid hgx1
    have hbd2 := fun (q : Nat) (hq : q < rows.length) => hs2.row_bd q hq
    have HBD := Lib.hid hbd2
    obtain ⟨r0, r1, r2⟩ := hrw
    have r3 : IntKind.i64.wrap (rows[j].lo - 1) = rows[j].lo - 1 := IntWalk.i64_in _ (by omega)
    have r4 : IntKind.i64.wrap (rows[j].hi + 1) = rows[j].hi + 1 := IntWalk.i64_in _ (by omega)
    have R3 := Lib.hid r3
    have R4 := Lib.hid r4
    clear hW hB4 hb1 hb2 hb3 hb4 HO HO4 d0 d1 d2 z0 z1 z2 hc hr0 hs2 hbef haft hgx0 hgx1 hbd2 r3 r4 tok
    go_cut [7, 51] (fun s7 s51 wx => s7 = .int .i64 j ∧ (∃ t1 : Bool, s51 = .bool t1 ∧ (t1 = true → ∃ p, ∃ hp : p < rows.length, j = p + 1 ∧ getF rows (rows[j].lo - 1) = (rows[p]'hp).v) ∧ (t1 = false → getF rows (rows[j].lo - 1) = 0)) ∧ EdgeMem rows w w4.heap.size A4 c4 b off j hjl wx)
    case first =>
      have y0 := fun u : After W => u.cell (blk_cell hmem.x 0 _ rfl)
      by_cases hj0 : j = 0
      · have hd : decide (0 < j) = false := by simp; omega
        refine wp_region_after (by kernel_rfl) (by kernel_rfl) ?_
        repeat (go_big_quiet_step (fail))
        refine wpQuiet_nil ?_
        rintro _ ⟨u, rfl⟩
        go_wp2_with fail
        go_meet
        case rel => exact ⟨by rw [hmod], ⟨false, rfl, (fun h => by cases h), fun _ => HBEF.out.1 hj0⟩, hmem.after u⟩
      · obtain ⟨p, hp⟩ : ∃ p, j = p + 1 := ⟨j - 1, by omega⟩
        have hpl : p < rows.length := by omega
        have y1 := fun u : After W => u.cell (hmem.cells p hpl).2.1
        have hd : decide (0 < j) = true := by simp; omega
        have q0 : (j : Int) - 1 = (p : Int) := by omega
        have q1 : IntKind.i64.wrap ((j : Int) - 1) = (p : Int) := by rw [q0]; exact IntWalk.i64_in _ (by omega)
        have q2 : (0 : Int) ≤ (p : Int) := by omega
        have q3 : (p : Int) < (rows.length : Int) := by omega
        have r3 := R3.out
        have HP := Lib.hid hp
        clear hp hj0
        refine wp_region_after (by kernel_rfl) (by kernel_rfl) ?_
        repeat (go_big_quiet_step (fail))
        refine wpQuiet_nil ?_
        rintro _ ⟨u, rfl⟩
        go_wp2_with fail
        go_meet
        case rel =>
          refine ⟨by rw [hmod], ⟨(rows[p].hi == rows[j].lo - 1), rfl, fun h => ⟨p, hpl, HP.out, ?_⟩, fun h => ?_⟩, hmem.after u⟩
          · rw [HBEF.out.2.1 p HP.out, if_pos (by simpa using h)]
          · rw [HBEF.out.2.1 p HP.out, if_neg (by simpa using h)]
    case rest =>
      obtain ⟨rfl, ⟨t1, rfl, h1, h2⟩, hmem1⟩ := hcut
      go_upto_if 51 with (fail)
      go_cut [9] (fun s9 wx => s9 = .int .i64 (getF rows (rows[j].lo - 1)) ∧ EdgeMem rows w w4.heap.size A4 c4 b off j hjl wx)
      case first =>
        cases t1 with
        | false =>
          have e := h2 rfl
          have HE := Lib.hid e
          clear e h1 h2
          go_wp2_with fail
          go_meet
          case rel => exact ⟨by rw [HE.out], hmem1⟩
        | true =>
          obtain ⟨p, hpl, hp, e⟩ := h1 rfl
          have y1 := (hmem1.cells p hpl).2.2
          have q0 : (j : Int) - 1 = (p : Int) := by omega
          have q2 : (0 : Int) ≤ (p : Int) := by omega
          have q3 : (p : Int) < (rows.length : Int) := by omega
          have HE := Lib.hid e
          have HP := Lib.hid hp
          clear e h1 h2 hp
          go_wp2_with fail
          go_meet
          case rel => exact ⟨by rw [HE.out], hmem1⟩
      case rest =>
        obtain ⟨rfl, hmem2⟩ := hcut
        clear h1 h2 hmem1 hmem
        go_upto_region 11 with (fail)
        go_cut [74] (fun s74 wx => (∃ t2 : Bool, s74 = .bool t2 ∧ (t2 = true → ∃ hp : j + 1 < rows.length, getF rows (rows[j].hi + 1) = (rows[j+1]'hp).v) ∧ (t2 = false → getF rows (rows[j].hi + 1) = 0)) ∧ EdgeMem rows w w4.heap.size A4 c4 b off j hjl wx)
        case first =>
          have y0 := fun u : After wc => u.cell (blk_cell hmem2.x 1 _ rfl)
          have q1 : IntKind.i64.wrap ((rows.length : Int) - 1) = (rows.length : Int) - 1 := IntWalk.i64_in _ (by omega)
          by_cases hj1 : j + 1 = rows.length
          · have hd : decide ((j : Int) < (rows.length : Int) - 1) = false := by simp; omega
            refine wp_region_after (by kernel_rfl) (by kernel_rfl) ?_
            repeat (go_big_quiet_step (fail))
            refine wpQuiet_nil ?_
            rintro _ ⟨u, rfl⟩
            go_wp2_with fail
            go_meet
            case rel => exact ⟨⟨false, rfl, (fun h => by cases h), fun _ => HAFT.out.1 hj1⟩, hmem2.after u⟩
          · have hpl : j + 1 < rows.length := by omega
            have y1 := fun u : After wc => u.cell (hmem2.cells (j + 1) hpl).1
            have hd : decide ((j : Int) < (rows.length : Int) - 1) = true := by simp; omega
            have q0 : IntKind.i64.wrap ((j : Int) + 1) = (j : Int) + 1 := IntWalk.i64_in _ (by omega)
            have q2 : (0 : Int) ≤ (j : Int) + 1 := by omega
            have q3 : (j : Int) + 1 < (rows.length : Int) := by omega
            have q4 : ((j : Int) + 1).toNat = j + 1 := by omega
            have r4 := R4.out
            clear hj1
            refine wp_region_after (by kernel_rfl) (by kernel_rfl) ?_
            repeat (go_big_quiet_step (fail))
            refine wpQuiet_nil ?_
            rintro _ ⟨u, rfl⟩
            go_wp2_with fail
            go_meet
            case rel =>
              refine ⟨⟨(rows[j+1].lo == rows[j].hi + 1), rfl, fun h => ⟨hpl, ?_⟩, fun h => ?_⟩, hmem2.after u⟩
              · rw [HAFT.out.2.1 hpl, if_pos (by simpa using h)]
              · rw [HAFT.out.2.1 hpl, if_neg (by simpa using h)]
        case rest =>
          obtain ⟨⟨t2, rfl, h1, h2⟩, hmem3⟩ := hcut
          clear hmem2
          go_upto_if 74 with (fail)
          go_cut [10] (fun s10 wx => s10 = .int .i64 (getF rows (rows[j].hi + 1)) ∧ EdgeMem rows w w4.heap.size A4 c4 b off j hjl wx)
          case first =>
            cases t2 with
            | false =>
              have e := h2 rfl
              have HE := Lib.hid e
              clear e h1 h2
              go_wp2_with fail
              go_meet
              case rel => exact ⟨by rw [HE.out], hmem3⟩
            | true =>
              obtain ⟨hpl, e⟩ := h1 rfl
              have y1 := (hmem3.cells (j + 1) hpl).2.2
              have q2 : (0 : Int) ≤ (j : Int) + 1 := by omega
              have q3 : (j : Int) + 1 < (rows.length : Int) := by omega
              have q4 : ((j : Int) + 1).toNat = j + 1 := by omega
              have HE := Lib.hid e
              clear e h1 h2
              go_wp2_with fail
              go_meet
              case rel => exact ⟨by rw [HE.out], hmem3⟩
          case rest =>
            obtain ⟨rfl, hmem4⟩ := hcut
            clear h1 h2 hmem3
            go_upto_region 13 with (fail)
            have y0 := fun u : After wc => u.cell (blk_cell hmem4.t 0 _ rfl)
            have y1 := fun u : After wc => u.cell (blk_cell hmem4.x 0 _ rfl)
            have y2 := fun u : After wc => u.cell (blk_cell hmem4.x 1 _ rfl)
            have y3 := fun u : After wc => u.cell (blk_cell hmem4.x 2 _ rfl)
            have r3 := R3.out
            have r4 := R4.out
            have n1 : (getF rows (rows[j].lo - 1) != rows[j].v) = true := by simpa using HBEF.out.2.2
            have n2 : (getF rows (rows[j].hi + 1) != rows[j].v) = true := by simpa using HAFT.out.2.2
            refine wp_region_after (by kernel_rfl) (by kernel_rfl) ?_
            repeat (go_big_quiet_step (fail))
            go_big_quiet_step (exact edge_get hmem4 hl HGX0.out)
            repeat (go_big_quiet_step (fail))
            go_big_quiet_step (exact edge_get hmem4 hl HGX1.out)
            repeat (go_big_quiet_step (fail))
            go_big_quiet_step (exact edge_get hmem4 hl rfl)
            repeat (go_big_quiet_step (fail))
            go_big_quiet_step (exact edge_get hmem4 hl rfl)
            repeat (go_big_quiet_step (fail))
            refine wpQuiet_nil ?_
            rintro _ ⟨u, rfl⟩
            go_wp2_with fail
            go_ret
            exact ⟨rfl, (hmem4.after u).below⟩
end Go.Proofs.Ytcempbgbdlmjfaa
