/-
  Ranges: the walk of between.
-/
import Derived.Test.YtcempbgbdlmjfaaRgE
namespace Go.Proofs.Ytcempbgbdlmjfaa
open Go.RowKit

theorem joinF_fits {l : List R} {x : R} (hl : ∀ y ∈ l, Fit y) (hx : Fit x) : ∀ y ∈ joinF l x, Fit y := by
  unfold joinF
  split
  · rename_i q hq
    obtain ⟨l0, rfl⟩ : ∃ l0, l = l0 ++ [q] := by rw [List.getLast?_eq_some_iff] at hq; exact hq
    have hqf := hl q (by simp)
    split
    · rename_i ht
      simp only [touchB, decide_eq_true_eq] at ht
      intro y hy
      rw [List.dropLast_concat] at hy
      rcases List.mem_append.1 hy with hy | hy
      · exact hl y (by simp [hy])
      · simp at hy; subst hy
        obtain ⟨f1, f2, f3, f4, f5⟩ := hqf
        obtain ⟨g1, g2, g3, g4, g5⟩ := hx
        exact ⟨f1, by simp only; omega, g3, f4, f5⟩
    · intro y hy
      rcases List.mem_append.1 hy with hy | hy
      · exact hl y hy
      · simp at hy; subst hy; exact hx
  · intro y hy
    rcases List.mem_append.1 hy with hy | hy
    · exact hl y hy
    · simp at hy; subst hy; exact hx
theorem piece_fit {x : R} {fr up : Int} (hx : Fit x) (h : max x.lo fr ≤ min x.hi up) : Fit ⟨max x.lo fr, min x.hi up, x.v⟩ := by
  obtain ⟨g1, g2, g3, g4, g5⟩ := hx
  exact ⟨by simp only; omega, h, by simp only; omega, g4, g5⟩
theorem betGo_stop (l : List R) (x : R) (xs : List R) (i : Nat) (fr up : Int) (h : up < x.lo) : betGo l (x :: xs) i fr up = (l, i) := by
  simp only [betGo]; rw [if_neg (by omega)]
theorem betGo_skip (l : List R) (x : R) (xs : List R) (i : Nat) (fr up : Int) (h : x.lo ≤ up) (h2 : ¬ max x.lo fr ≤ min x.hi up) (h3 : x.hi ≤ up) : betGo l (x :: xs) i fr up = betGo l xs (i + 1) fr up := by
  simp only [betGo]; rw [if_pos h, if_neg h2, if_neg (by omega)]
theorem betGo_skipEnd (l : List R) (x : R) (xs : List R) (i : Nat) (fr up : Int) (h : x.lo ≤ up) (h2 : ¬ max x.lo fr ≤ min x.hi up) (h3 : up < x.hi) : betGo l (x :: xs) i fr up = (l, i) := by
  simp only [betGo]; rw [if_pos h, if_neg h2, if_pos h3]
theorem betGo_join (l : List R) (x : R) (xs : List R) (i : Nat) (fr up : Int) (h : x.lo ≤ up) (h2 : max x.lo fr ≤ min x.hi up) (h3 : x.hi ≤ up) :
    betGo l (x :: xs) i fr up = betGo (joinF l ⟨max x.lo fr, min x.hi up, x.v⟩) xs (i + 1) fr up := by
  simp only [betGo]; rw [if_pos h, if_pos h2, if_neg (by omega)]
theorem betGo_joinEnd (l : List R) (x : R) (xs : List R) (i : Nat) (fr up : Int) (h : x.lo ≤ up) (h2 : max x.lo fr ≤ min x.hi up) (h3 : up < x.hi) :
    betGo l (x :: xs) i fr up = (joinF l ⟨max x.lo fr, min x.hi up, x.v⟩, i) := by
  simp only [betGo]; rw [if_pos h, if_pos h2, if_pos h3]

theorem box_eq {wr : World} {T : TypeId} {a b a' b' c : Int} (h1 : a = a') (h2 : b = b') : (wr.alloc (.cells #[.int .i64 a, .int .i64 b, .int .i64 c] T)).drew = (wr.alloc (.cells #[.int .i64 a', .int .i64 b', .int .i64 c] T)).drew := by rw [h1, h2]
/-- what stands in memory in the middle of between -/
structure BtMid (base : Nat) (w : World) (v0 : Value) (l0 a : List R) (i0 : Nat) (fr up : Int) (j : Nat) (v : Value) (wr : World) : Prop where
  ex : ∃ (l : List R) (A' : Option Addr) (c' : Nat), v = .slice A' l.length c' ∧ betF l a j fr up = betF l0 a i0 fr up ∧ (∀ y ∈ l, Fit y) ∧ l.length ≤ l0.length + (j - i0) ∧
    Grew base 74 3 w v0 wr v l.length (rowCells l)

set_option maxRecDepth 100000 in
set_option maxHeartbeats 1600000 in
theorem between_any (l a : List R) (i : Nat) (fr up : Int) (A Aa : Option Addr) (c ca : Nat) (w : World) (base : Nat) (hbase : base ≤ w.heap.size) (hown0 : w.ownsRow base 74 3 (.slice A l.length c) l.length (rowCells l))
    (hra : Rd w base Aa (rowCells a)) (hf : ∀ y ∈ l, Fit y) (hfa : ∀ y ∈ a, Fit y) (hi : i ≤ a.length) (hl : l.length + a.length ≤ 50000) :
    Calls Try.prog 45 #[.slice A l.length c, .slice Aa a.length ca, .int .i64 i, .int .i64 fr, .int .i64 up] w fun e w' => ∃ A' c', e = .returned (.tuple #[.slice A' (betF l a i fr up).1.length c', .int .i64 (betF l a i fr up).2]) ∧
      Grew base 74 3 w (.slice A l.length c) w' (.slice A' (betF l a i fr up).1.length c') (betF l a i fr up).1.length (rowCells (betF l a i fr up).1) := by
  have hlt0 := hown0.lt
  have hra' := rd_rows hra
  go_enter Try.func45, Try.ntmps45
  go_wp2_with fail
  go_loopw [0, 2] (fun v ii wr => ∃ j : Nat, i ≤ j ∧ j ≤ a.length ∧ ii = .int .i64 j ∧ BtMid base w (.slice A l.length c) l a i fr up j v wr) (fun _ ii _ => a.length - (intOf ii).toNat)
  case atStart =>
    exact ⟨i, Nat.le_refl _, hi, rfl, ⟨l, A, c, rfl, rfl, hf, by omega, hown0, ⟨rfl, rfl, rfl, Nat.le_refl _, fun _ _ _ => rfl⟩, fun g h => .inl h⟩⟩
  case round =>
    obtain ⟨j, hij, hj, rfl, l1, A1, c1, rfl, hbet, hf1, hl1, hgrew⟩ := hrel
    by_cases hlt : j < a.length
    · obtain ⟨b, off, rfl, hbB, hc⟩ := hra' (by omega)
      obtain ⟨c0, c1', c2⟩ := hc j hlt
      have hne : ∀ o, (Value.slice A l.length c).ownBlock ≠ some (Addr.mk b o none).block := fun o e => by have := (hlt0 b e).1; omega
      have d0 := past_grown hgrew.grown (hne _) c0
      have d1 := past_grown hgrew.grown (hne _) c1'
      have d2 := past_grown hgrew.grown (hne _) c2
      have hst : a.drop j = a[j] :: a.drop (j + 1) := List.drop_eq_getElem_cons hlt
      have HST := Lib.hid hst
      have HB := Lib.hid hbet
      clear hc c0 c1' c2 hst hbet
      have j0 : (0 : Int) ≤ ↑j := by omega
      have j1 : (↑j : Int) < ↑a.length := by omega
      by_cases hlo : a[j].lo ≤ up
      · obtain ⟨yl, hyl⟩ : ∃ z : Int, z = max a[j].lo fr := ⟨_, rfl⟩
        obtain ⟨yh, hyh⟩ : ∃ z : Int, z = min a[j].hi up := ⟨_, rfl⟩
        have HYL := Lib.hid hyl
        have HYH := Lib.hid hyh
        clear hyl hyh
        go_upto_region 3 with (fail)
        go_cut [12] (fun s12 wx => s12 = .pointer (some ⟨wr.heap.size, 0, none⟩) ∧ wx = (wr.alloc (.cells #[.int .i64 yl, .int .i64 yh, .int .i64 a[j].v] 74)).drew)
        case first =>
          have k0 := World.new_ne wr _ d0
          go_region_held3 (fun w' => w'.cell? ⟨b, off + j * 3, none⟩ = some (.int .i64 a[j].lo) ∧ w'.cell? ⟨b, off + j * 3 + 1, none⟩ = some (.int .i64 a[j].hi) ∧ w'.cell? ⟨b, off + j * 3 + 2, none⟩ = some (.int .i64 a[j].v))
            (go_keep) (fail)
          all_goals
            go_wp2_with fail
            all_goals
              go_meet
              exact ⟨rfl, box_eq (by have := HYL.out; omega) (by have := HYH.out; omega)⟩
        case rest =>
          obtain ⟨rfl, rfl⟩ := hcut
          have hown1 := (hgrew.own.alloc (.cells #[.int .i64 yl, .int .i64 yh, .int .i64 a[j].v] 74)).drew
          have hg1 : w.grownBy (wr.alloc (.cells #[.int .i64 yl, .int .i64 yh, .int .i64 a[j].v] 74)).drew (Value.slice A l.length c).ownBlock := grown_drew (grown_alloc hgrew.grown _)
          have hsz1 := hgrew.grown.size
          have hlies1 := hgrew.lies
          have HO := Lib.hid hown1
          have HG := Lib.hid hg1
          have HL := Lib.hid hlies1
          have hfj : Fit a[j] := hfa a[j] (by simp)
          have hneb : ∀ g, (Value.slice A1 l1.length c1).ownBlock = some g → base ≤ g := fun g e => (hown1.lt g e).1
          have HNEB := Lib.hid hneb
          have HF1 := Lib.hid hf1
          have c0 := past_alloc (Below.refl (wr.alloc (.cells #[.int .i64 yl, .int .i64 yh, .int .i64 a[j].v] 74)).heap.size _) d0
          have c1' := past_alloc (Below.refl (wr.alloc (.cells #[.int .i64 yl, .int .i64 yh, .int .i64 a[j].v] 74)).heap.size _) d1
          clear hgrew hown1 hg1 hlies1 hneb hf1 d0 d1 d2 hra hra' hlt0 hown0 hf
          by_cases hp : yl ≤ yh
          · have hpf : Fit ⟨yl, yh, a[j].v⟩ := by
              have := piece_fit (fr := fr) (up := up) hfj (by rw [← HYL.out, ← HYH.out]; exact hp)
              rw [← HYL.out, ← HYH.out] at this
              exact this
            have HPF := Lib.hid hpf; clear hpf
            by_cases hh : up < a[j].hi
            · go_wp2_with (go_at_call 44; refine (join_any l1 ⟨yl, yh, a[j].v⟩ A1 c1 _ base (by simp; omega) HO.out HF1.out (by omega)).mono ?_; rintro e w3 ⟨A3, c3, rfl, hgrew3⟩; have p0 := past_grown hgrew3.grown (fun e => by have := HNEB.out _ e; simp at this; omega) c1')
              go_ret2
              have e : betF l a i fr up = (joinF l1 ⟨yl, yh, a[j].v⟩, j) := by
                rw [← HB.out, betF, HST.out, HYL.out, HYH.out]
                exact betGo_joinEnd _ _ _ _ _ _ hlo (by rw [← HYL.out, ← HYH.out]; omega) hh
              rw [e]
              refine ⟨A3, c3, rfl, hgrew3.own, grown_trans HG.out hgrew3.grown HL.out, fun g hg => ?_⟩
              rcases hgrew3.lies g hg with h1 | h1
              · exact HL.out g h1
              · exact .inr (by simp at h1; omega)
            · go_wp2_with (go_at_call 44; refine (join_any l1 ⟨yl, yh, a[j].v⟩ A1 c1 _ base (by simp; omega) HO.out HF1.out (by omega)).mono ?_; rintro e w3 ⟨A3, c3, rfl, hgrew3⟩; have p0 := past_grown hgrew3.grown (fun e => by have := HNEB.out _ e; simp at this; omega) c1')
              go_roundw
              case rel =>
                refine ⟨j + 1, by omega, by omega, by go_num, joinF l1 ⟨yl, yh, a[j].v⟩, A3, c3, rfl, ?_, joinF_fits HF1.out HPF.out, by have := joinF_len l1 ⟨yl, yh, a[j].v⟩; omega, hgrew3.own, grown_trans HG.out hgrew3.grown HL.out, fun g hg => ?_⟩
                · rw [← HB.out, betF, betF, HST.out, HYL.out, HYH.out]
                  exact (betGo_join _ _ _ _ _ _ hlo (by rw [← HYL.out, ← HYH.out]; omega) (by omega)).symm
                · rcases hgrew3.lies g hg with h1 | h1
                  · exact HL.out g h1
                  · exact .inr (by simp at h1; omega)
              case measure => simp [intOf]; omega
          · by_cases hh : up < a[j].hi
            · go_wp2_with fail
              go_ret2
              have e : betF l a i fr up = (l1, j) := by
                rw [← HB.out, betF, HST.out]
                exact betGo_skipEnd _ _ _ _ _ _ hlo (by rw [← HYL.out, ← HYH.out]; omega) hh
              rw [e]
              exact ⟨A1, c1, rfl, HO.out, HG.out, HL.out⟩
            · go_wp2_with fail
              go_roundw
              case rel =>
                refine ⟨j + 1, by omega, by omega, by go_num, l1, A1, c1, rfl, ?_, HF1.out, by omega, HO.out, HG.out, HL.out⟩
                rw [← HB.out, betF, betF, HST.out]
                exact (betGo_skip _ _ _ _ _ _ hlo (by rw [← HYL.out, ← HYH.out]; omega) (by omega)).symm
              case measure => simp [intOf]; omega
      · go_wp2_with fail
        go_ret2
        have e : betF l a i fr up = (l1, j) := by
          rw [← HB.out, betF, HST.out]
          exact betGo_stop _ _ _ _ _ _ (by omega)
        rw [e]
        exact ⟨A1, c1, rfl, hgrew.own, hgrew.grown, hgrew.lies⟩
    · have HB := Lib.hid hbet
      clear hbet
      go_wp2_with fail
      go_ret2
      have e : betF l a i fr up = (l1, j) := by
        rw [← HB.out, betF, List.drop_of_length_le (by omega)]
        rfl
      rw [e]
      exact ⟨A1, c1, rfl, hgrew.own, hgrew.grown, hgrew.lies⟩
end Go.Proofs.Ytcempbgbdlmjfaa
