/-
  pen: lists of lists that a call builds out of new rows; the walk of shown.
-/
import Derived.Test.YtcempbgbdlmjfaaDoorPeI
namespace Go.Proofs.YtcempbgbdlmjfaaDoor
open Go.RowKit

/-- a slice whose numbers lie in a block of its own, from lo on -/
def In1 (w : World) (lo : Nat) (u : Value) (q : List Int) : Prop := ∃ g c, u = .slice (some ⟨g, 0, none⟩) q.length c ∧ q.length ≤ c ∧ lo ≤ g ∧ g < w.heap.size ∧ ∀ w2 : World, w2.heap[g]? = w.heap[g]? → Rd w2 (g + 1) (some ⟨g, 0, none⟩) (nC q)
theorem In1.past {w w' : World} {lo B : Nat} {u : Value} {q : List Int} (h : In1 w lo u q) (hb : Below B w w') (hB : w.heap.size ≤ B) : In1 w' lo u q := by
  obtain ⟨g, c, h1, h2, h3, h4, h5⟩ := h
  have e := hb.block g (by omega)
  exact ⟨g, c, h1, h2, h3, by have := hb.size; omega, fun w2 e2 => h5 w2 (e2.trans e)⟩
theorem In1.less {w : World} {lo lo' : Nat} {u : Value} {q : List Int} (h : In1 w lo u q) (hl : lo' ≤ lo) : In1 w lo' u q := by
  obtain ⟨g, c, h1, h2, h3, h4, h5⟩ := h
  exact ⟨g, c, h1, h2, by omega, h4, h5⟩
theorem In1.grown {w w' : World} {lo : Nat} {u v : Value} {q : List Int} (h : In1 w lo u q) (hg : w.grownBy w' v.ownBlock) (ha : Apart v u) : In1 w' lo u q := by
  obtain ⟨g, c, h1, h2, h3, h4, h5⟩ := h
  subst h1
  have hs := hg.size
  exact ⟨g, c, rfl, h2, h3, by omega, fun w2 e2 => h5 w2 (e2.trans (hg.block g h4 (fun e => ha g e.symm rfl)))⟩
theorem in1_new {w : World} {g lo : Nat} {t : TypeId} {q : List Int} {fr : Nat × Nat} (h : w.heap[g]? = some (.cells (nC q).toArray t fr)) (hl : lo ≤ g) : In1 w lo (.slice (some ⟨g, 0, none⟩) q.length q.length) q :=
  ⟨g, q.length, rfl, Nat.le_refl _, hl, bk_lt h, fun _ e => rd_of_block (e.trans h) (Nat.lt_succ_self _)⟩
def NewLL (w : World) (L : List (List Int)) (e : Ending) (w' : World) : Prop := ∃ A c vs, e = .returned (.slice A L.length c) ∧ L.length ≤ c ∧ Rd w' w'.heap.size A vs ∧ vs.length = L.length ∧
  (∀ i (h : i < L.length), ∃ u, vs[i]? = some u ∧ In1 w' w.heap.size u L[i]) ∧ Below w.heap.size w w'
/-- a list of lists of the call's own -/
structure OutLL (w : World) (base : Nat) (e1 : TypeId) (v : Value) (L : List (List Int)) (vs : List Value) : Prop where
  outer : w.ownsRow base e1 1 v L.length vs
  inner : ∀ i (h : i < L.length), ∃ u, vs[i]? = some u ∧ In1 w base u L[i] ∧ Apart v u
theorem OutLL.len {w : World} {base : Nat} {e1 : TypeId} {v : Value} {L : List (List Int)} {vs : List Value} (h : OutLL w base e1 v L vs) : vs.length = L.length := by
  have := h.outer.1; omega
theorem OutLL.past {w w' : World} {base B : Nat} {e1 : TypeId} {v : Value} {L : List (List Int)} {vs : List Value} (h : OutLL w base e1 v L vs) (hb : Below B w w') (hB : w.heap.size ≤ B) : OutLL w' base e1 v L vs :=
  ⟨own_past_B h.outer hb hB, fun i hi => by
    obtain ⟨u, h1, h2, h3⟩ := h.inner i hi
    exact ⟨u, h1, h2.past hb hB, h3⟩⟩
theorem OutLL.alloc {w : World} {base : Nat} {e1 : TypeId} {v : Value} {L : List (List Int)} {vs : List Value} (h : OutLL w base e1 v L vs) (o : Obj) : OutLL (w.alloc o) base e1 v L vs := h.past ((Below.refl _ _).alloc (Nat.le_refl _) o) (Nat.le_refl _)
theorem in1_apart {w : World} {lo : Nat} {v u : Value} {q : List Int} (h : In1 w lo u q) (hn : ∀ g, v.ownBlock = some g → g < lo) : Apart v u := by
  obtain ⟨g, c, rfl, _, h3, _⟩ := h
  intro k hk e
  simp only [Value.ownBlock, Option.some.injEq] at e
  have := hn k hk
  omega
/-- rows are appended -/
theorem OutLL.cat {w w' : World} {base : Nat} {e1 : TypeId} {v v' : Value} {L M : List (List Int)} {vs us : List Value} (h : OutLL w base e1 v L vs) (hu : ∀ i (h : i < M.length), ∃ u, us[i]? = some u ∧ In1 w base u M[i] ∧ Apart v u)
    (hg : w.grownBy w' v.ownBlock) (hv : w'.ownsRow base e1 1 v' (L.length + M.length) (vs ++ us)) (hl : ∀ k, v'.ownBlock = some k → v.ownBlock = some k ∨ w.heap.size ≤ k) : OutLL w' base e1 v' (L ++ M) (vs ++ us) := by
  have hlen := h.len
  have kp : ∀ {u : Value} {q : List Int}, In1 w base u q → Apart v u → In1 w' base u q ∧ Apart v' u := fun {u} {q} hi ha =>
    ⟨hi.grown hg ha, fun k hk e => by
      rcases hl k hk with e2 | e2
      · exact ha k e2 e
      · obtain ⟨g, c, rfl, _, _, h4, _⟩ := hi
        simp only [Value.ownBlock, Option.some.injEq] at e
        omega⟩
  refine ⟨by rw [List.length_append]; exact hv, fun i hi => ?_⟩
  by_cases e : i < L.length
  · obtain ⟨u, k1, k2, k3⟩ := h.inner i e
    refine ⟨u, by rw [List.getElem?_append_left (by omega)]; exact k1, ?_⟩
    rw [List.getElem_append_left e]
    exact kp k2 k3
  · simp at hi
    obtain ⟨u, k1, k2, k3⟩ := hu (i - L.length) (by omega)
    refine ⟨u, by rw [List.getElem?_append_right (by omega), hlen]; exact k1, ?_⟩
    rw [List.getElem_append_right (by omega)]
    exact kp k2 k3
theorem OutLL.rd {w : World} {base : Nat} {e1 : TypeId} {v : Value} {L : List (List Int)} {vs : List Value} (h : OutLL w base e1 v L vs) : RdLL w base w.heap.size v L := by
  obtain ⟨A, c, rfl, hc, hr, hlo⟩ := rd_own h.outer
  refine ⟨A, c, vs, rfl, hc, hr, hlo, h.len, fun i hi => ?_⟩
  obtain ⟨u, h1, ⟨g, ci, rfl, h3, h4, h5, h6⟩, _⟩ := h.inner i hi
  exact ⟨_, ci, h1, h3, (h6 w rfl).more (by omega), fun _ a ha => by injection ha with ha; subst ha; exact h4⟩
theorem new1 (w : World) (x0 : Int) (t1 t2 : TypeId) : NewLL w [[x0]] (.returned (.slice (some ⟨w.heap.size + 1, 0, none⟩) 1 1))
    ((w.alloc (.cells #[.int .i64 x0] t1)).alloc (.cells #[.slice (some ⟨w.heap.size, 0, none⟩) 1 1] t2)) := by
  refine ⟨_, 1, [.slice (some ⟨w.heap.size, 0, none⟩) 1 1], rfl, Nat.le_refl _, rd_of_block (cs := [.slice (some ⟨w.heap.size, 0, none⟩) 1 1]) (heap_new_at (by simp)) (by simp), rfl, fun i hi => ?_, ?_⟩
  · obtain rfl : i = 0 := by simp at hi; omega
    · exact ⟨_, rfl, in1_new (q := [x0]) (bk_alloc (heap_new_at (by simp)) _) (by omega)⟩
  · exact ((Below.refl _ _).alloc (Nat.le_refl _) _).alloc (by simp; try omega) _
theorem new3 (w : World) (x0 x1 x2 : Int) (t1 t2 : TypeId) : NewLL w [[x0], [x1], [x2]] (.returned (.slice (some ⟨w.heap.size + 1 + 1 + 1, 0, none⟩) 3 3))
    ((((w.alloc (.cells #[.int .i64 x0] t1)).alloc (.cells #[.int .i64 x1] t1)).alloc (.cells #[.int .i64 x2] t1)).alloc (.cells #[.slice (some ⟨w.heap.size, 0, none⟩) 1 1, .slice (some ⟨w.heap.size + 1, 0, none⟩) 1 1, .slice (some ⟨w.heap.size + 1 + 1, 0, none⟩) 1 1] t2)) := by
  refine ⟨_, 3, [.slice (some ⟨w.heap.size, 0, none⟩) 1 1, .slice (some ⟨w.heap.size + 1, 0, none⟩) 1 1, .slice (some ⟨w.heap.size + 1 + 1, 0, none⟩) 1 1], rfl, Nat.le_refl _, rd_of_block (cs := [.slice (some ⟨w.heap.size, 0, none⟩) 1 1, .slice (some ⟨w.heap.size + 1, 0, none⟩) 1 1, .slice (some ⟨w.heap.size + 1 + 1, 0, none⟩) 1 1]) (heap_new_at (by simp)) (by simp), rfl, fun i hi => ?_, ?_⟩
  · rcases (show i = 0 ∨ i = 1 ∨ i = 2 by simp at hi; omega) with rfl | rfl | rfl
    · exact ⟨_, rfl, in1_new (q := [x0]) (bk_alloc (bk_alloc (bk_alloc (heap_new_at (by simp)) _) _) _) (by omega)⟩
    · exact ⟨_, rfl, in1_new (q := [x1]) (bk_alloc (bk_alloc (heap_new_at (by simp)) _) _) (by omega)⟩
    · exact ⟨_, rfl, in1_new (q := [x2]) (bk_alloc (heap_new_at (by simp)) _) (by omega)⟩
  · exact ((((Below.refl _ _).alloc (Nat.le_refl _) _).alloc (by simp; try omega) _).alloc (by simp; try omega) _).alloc (by simp; try omega) _
theorem new5 (w : World) (x0 x1 x2 x3 x4 : Int) (t1 t2 : TypeId) : NewLL w [[x0], [x1], [x2], [x3], [x4]] (.returned (.slice (some ⟨w.heap.size + 1 + 1 + 1 + 1 + 1, 0, none⟩) 5 5))
    ((((((w.alloc (.cells #[.int .i64 x0] t1)).alloc (.cells #[.int .i64 x1] t1)).alloc (.cells #[.int .i64 x2] t1)).alloc (.cells #[.int .i64 x3] t1)).alloc (.cells #[.int .i64 x4] t1)).alloc (.cells #[.slice (some ⟨w.heap.size, 0, none⟩) 1 1, .slice (some ⟨w.heap.size + 1, 0, none⟩) 1 1, .slice (some ⟨w.heap.size + 1 + 1, 0, none⟩) 1 1, .slice (some ⟨w.heap.size + 1 + 1 + 1, 0, none⟩) 1 1, .slice (some ⟨w.heap.size + 1 + 1 + 1 + 1, 0, none⟩) 1 1] t2)) := by
  refine ⟨_, 5, [.slice (some ⟨w.heap.size, 0, none⟩) 1 1, .slice (some ⟨w.heap.size + 1, 0, none⟩) 1 1, .slice (some ⟨w.heap.size + 1 + 1, 0, none⟩) 1 1, .slice (some ⟨w.heap.size + 1 + 1 + 1, 0, none⟩) 1 1, .slice (some ⟨w.heap.size + 1 + 1 + 1 + 1, 0, none⟩) 1 1], rfl, Nat.le_refl _, rd_of_block (cs := [.slice (some ⟨w.heap.size, 0, none⟩) 1 1, .slice (some ⟨w.heap.size + 1, 0, none⟩) 1 1, .slice (some ⟨w.heap.size + 1 + 1, 0, none⟩) 1 1, .slice (some ⟨w.heap.size + 1 + 1 + 1, 0, none⟩) 1 1, .slice (some ⟨w.heap.size + 1 + 1 + 1 + 1, 0, none⟩) 1 1]) (heap_new_at (by simp)) (by simp), rfl, fun i hi => ?_, ?_⟩
  · rcases (show i = 0 ∨ i = 1 ∨ i = 2 ∨ i = 3 ∨ i = 4 by simp at hi; omega) with rfl | rfl | rfl | rfl | rfl
    · exact ⟨_, rfl, in1_new (q := [x0]) (bk_alloc (bk_alloc (bk_alloc (bk_alloc (bk_alloc (heap_new_at (by simp)) _) _) _) _) _) (by omega)⟩
    · exact ⟨_, rfl, in1_new (q := [x1]) (bk_alloc (bk_alloc (bk_alloc (bk_alloc (heap_new_at (by simp)) _) _) _) _) (by omega)⟩
    · exact ⟨_, rfl, in1_new (q := [x2]) (bk_alloc (bk_alloc (bk_alloc (heap_new_at (by simp)) _) _) _) (by omega)⟩
    · exact ⟨_, rfl, in1_new (q := [x3]) (bk_alloc (bk_alloc (heap_new_at (by simp)) _) _) (by omega)⟩
    · exact ⟨_, rfl, in1_new (q := [x4]) (bk_alloc (heap_new_at (by simp)) _) (by omega)⟩
  · exact ((((((Below.refl _ _).alloc (Nat.le_refl _) _).alloc (by simp; try omega) _).alloc (by simp; try omega) _).alloc (by simp; try omega) _).alloc (by simp; try omega) _).alloc (by simp; try omega) _
theorem parts_bd (c k a b d : Int) (h : partsF c = (k, a, b, d)) : 0 ≤ a ∧ a ≤ 255 := by
  unfold partsF at h
  split at h
  · simp only [Prod.mk.injEq] at h; omega
  split at h
  · simp only [Prod.mk.injEq] at h; omega
  split at h
  · simp only [Prod.mk.injEq] at h; omega
  · simp only [Prod.mk.injEq] at h; omega
set_option maxRecDepth 100000 in
set_option maxHeartbeats 1600000 in
theorem shown_any (c base : Int) (w : World) (hb0 : 0 ≤ base) (hb1 : base ≤ 100) :
    Calls Tryd.prog 63 #[.int .i64 c, .int .i64 base] w (NewLL w (shownF c base)) := by
  obtain ⟨k, a, b, d, hp⟩ : ∃ k a b d, partsF c = (k, a, b, d) := ⟨_, _, _, _, rfl⟩
  obtain ⟨a0, a1⟩ := parts_bd c k a b d hp
  have HP := Lib.hid hp
  clear hp
  by_cases k1 : k = 1
  · subst k1
    by_cases a8 : a < 8
    · have hs : shownF c base = [[base + a]] := by unfold shownF; rw [HP.out, if_pos ⟨rfl, a8⟩]
      rw [hs]
      clear hs
      go_enter Tryd.func63, Tryd.ntmps63
      go_wp2_with (go_at_call 34; refine (parts_any c _).mono ?_; rintro e w1 ⟨rfl, rfl⟩; simp only [HP.out])
      go_ret
      exact new1 w _ _ _
    by_cases a16 : a < 16
    · have hs : shownF c base = [[base + 60 + a - 8]] := by unfold shownF; rw [HP.out, if_neg (by simp; omega), if_pos ⟨rfl, a16⟩]
      rw [hs]
      clear hs
      go_enter Tryd.func63, Tryd.ntmps63
      go_wp2_with (go_at_call 34; refine (parts_any c _).mono ?_; rintro e w1 ⟨rfl, rfl⟩; simp only [HP.out])
      go_ret
      exact new1 w _ _ _
    · have hs : shownF c base = [[base + 8], [5], [a]] := by unfold shownF; rw [HP.out, if_neg (by simp; omega), if_neg (by simp; omega), if_pos rfl]
      rw [hs]
      clear hs
      go_enter Tryd.func63, Tryd.ntmps63
      go_wp2_with (go_at_call 34; refine (parts_any c _).mono ?_; rintro e w1 ⟨rfl, rfl⟩; simp only [HP.out])
      go_ret
      exact new3 w _ _ _ _ _
  by_cases k2 : k = 2
  · subst k2
    have hs : shownF c base = [[base + 8], [2], [a], [b], [d]] := by unfold shownF; rw [HP.out, if_neg (by simp), if_neg (by simp), if_neg (by simp), if_pos rfl]
    rw [hs]
    clear hs
    go_enter Tryd.func63, Tryd.ntmps63
    go_wp2_with (go_at_call 34; refine (parts_any c _).mono ?_; rintro e w1 ⟨rfl, rfl⟩; simp only [HP.out])
    go_ret
    exact new5 w _ _ _ _ _ _ _
  · have hs : shownF c base = [] := by unfold shownF; rw [HP.out, if_neg (by simp [k1]), if_neg (by simp [k1]), if_neg (by simp [k1]), if_neg (by simp [k2])]
    rw [hs]
    have e1 : (k == 1) = false := beq_eq_false_iff_ne.2 k1
    have e2 : (k == 2) = false := beq_eq_false_iff_ne.2 k2
    clear hs k1 k2
    go_enter Tryd.func63, Tryd.ntmps63
    go_wp2_with (go_at_call 34; refine (parts_any c _).mono ?_; rintro e w1 ⟨rfl, rfl⟩; simp only [HP.out])
    go_ret
    exact ⟨none, 0, [], rfl, Nat.le_refl _, Rd.nil _ _ _, rfl, fun i h => absurd h (by simp), Below.refl _ _⟩
end Go.Proofs.YtcempbgbdlmjfaaDoor
