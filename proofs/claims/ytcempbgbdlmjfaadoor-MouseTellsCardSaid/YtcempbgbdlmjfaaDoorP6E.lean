/-
  parse: actions in a row of the call's own; parameters that lie apart from a row; the walk of end, once more.
-/
import Derived.Test.YtcempbgbdlmjfaaDoorP6Sq
import Derived.Test.YtcempbgbdlmjfaaDoorP6Laws
namespace Go.Proofs.YtcempbgbdlmjfaaDoor
open Go.RowKit

theorem avC_append (a b : List Av) : avC (a ++ b) = avC a ++ avC b := List.flatMap_append
theorem sat_put7_far {w : World} {b b' : Nat} {z : Sv} (h : SAt w b' z) (hb : b' ≠ b) (v' : Sv) : SAt (World.put7 w b v') b' z :=
  ((((((h.far ⟨b, 0, none⟩ hb _).far ⟨b, 1, none⟩ hb _).far ⟨b, 2, none⟩ hb _).far ⟨b, 3, none⟩ hb _).far ⟨b, 4, none⟩ hb _).far ⟨b, 5, none⟩ hb _).far ⟨b, 6, none⟩ hb _
/-! ### parameters that lie between two bounds -/
theorem Rd.mid {w w' : World} {lo B : Nat} {A : Option Addr} {xs : List Value} (h : Rd w B A xs) (hl : LoA lo A xs) (hk : ∀ p : Addr, lo ≤ p.block → p.block < B → w'.cell? p = w.cell? p) : Rd w' B A xs := fun hx => by
  obtain ⟨b, off, e, hb, hc⟩ := h hx
  have h2 := hl hx _ e
  exact ⟨b, off, e, hb, fun j hj => (hk ⟨b, off + j, none⟩ h2 hb).trans (hc j hj)⟩
theorem RdLL.mid {w w' : World} {lo B : Nat} {v : Value} {L : List (List Int)} (h : RdLL w lo B v L) (hk : ∀ p : Addr, lo ≤ p.block → p.block < B → w'.cell? p = w.cell? p) : RdLL w' lo B v L := by
  obtain ⟨A, c, vs, h1, h2, h3, hl, h4, h5⟩ := h
  exact ⟨A, c, vs, h1, h2, h3.mid hl hk, hl, h4, fun i hi => by
    obtain ⟨Ai, ci, q1, q2, q3, q4⟩ := h5 i hi
    exact ⟨Ai, ci, q1, q2, q3.mid q4 hk, q4⟩⟩
/-- parameters of the state that came in, or new ones that lie apart from a row -/
def ParZ (v : Sv) (hi : Nat) (w : World) (row : Value) (A : Option Addr) (c : Nat) (l : List (List Int)) : Prop :=
  (A = v.A ∧ c = v.c ∧ l = v.s.l) ∨ ∃ lo B, hi ≤ lo ∧ B ≤ w.heap.size ∧ RdLL w lo B (.slice A l.length c) l ∧ ∀ g, row.ownBlock = some g → g < lo ∨ B ≤ g
theorem ParZ.ok {v : Sv} {hi : Nat} {w : World} {row : Value} {A : Option Addr} {c : Nat} {l : List (List Int)} (h : ParZ v hi w row A c l) : ParOk v hi w A c l := by
  rcases h with h | ⟨lo, B, h1, h2, h3, _⟩
  · exact .inl h
  · exact .inr ((h3.more h2).less h1)
theorem ParZ.next {v : Sv} {hi : Nat} {w w' : World} {row : Value} {A : Option Addr} {c : Nat} {l : List (List Int)} (h : ParZ v hi w row A c l) (hb : Below w.heap.size w w') : ParZ v hi w' row A c l := by
  rcases h with h | ⟨lo, B, h1, h2, h3, h4⟩
  · exact .inl h
  · exact .inr ⟨lo, B, h1, Nat.le_trans h2 hb.size, h3.below hb h2, h4⟩
theorem ParZ.less {v : Sv} {hi hi' : Nat} {w : World} {row : Value} {A : Option Addr} {c : Nat} {l : List (List Int)} (h : ParZ v hi w row A c l) (hl : hi' ≤ hi) : ParZ v hi' w row A c l := by
  rcases h with h | ⟨lo, B, h1, h2⟩
  · exact .inl h
  · exact .inr ⟨lo, B, Nat.le_trans hl h1, h2⟩
theorem ParZ.far {v : Sv} {hi : Nat} {w : World} {row : Value} {A : Option Addr} {c : Nat} {l : List (List Int)} (h : ParZ v hi w row A c l) (a : Addr) (ha : a.block < hi) (u : Value) : ParZ v hi (w.setCell a u) row A c l := by
  rcases h with h | ⟨lo, B, h1, h2, h3, h4⟩
  · exact .inl h
  · exact .inr ⟨lo, B, h1, by simpa [World.setCell] using h2, h3.far (Nat.lt_of_lt_of_le ha h1) u, h4⟩
theorem ParZ.put7 {v : Sv} {hi : Nat} {w : World} {row : Value} {A : Option Addr} {c : Nat} {l : List (List Int)} (h : ParZ v hi w row A c l) (b : Nat) (hb : b < hi) (v' : Sv) : ParZ v hi (World.put7 w b v') row A c l :=
  ((((((h.far ⟨b, 0, none⟩ hb _).far ⟨b, 1, none⟩ hb _).far ⟨b, 2, none⟩ hb _).far ⟨b, 3, none⟩ hb _).far ⟨b, 4, none⟩ hb _).far ⟨b, 5, none⟩ hb _).far ⟨b, 6, none⟩ hb _
/-- new parameters, behind a call that was made when the row was there -/
theorem ParZ.new {v v' : Sv} {hi : Nat} {w w' : World} {row : Value} {A : Option Addr} {c : Nat} {l : List (List Int)} (h : ParOk v' w.heap.size w' A c l) (hv : ParZ v hi w row v'.A v'.c v'.s.l) (hb : Below w.heap.size w w')
    (hi1 : hi ≤ w.heap.size) (hr : ∀ g, row.ownBlock = some g → g < w.heap.size) : ParZ v hi w' row A c l := by
  rcases h with ⟨rfl, rfl, rfl⟩ | h
  · exact hv.next hb
  · exact .inr ⟨w.heap.size, w'.heap.size, hi1, Nat.le_refl _, h, fun g hg => .inl (hr g hg)⟩
/-- the row is appended to -/
theorem ParZ.grow {v : Sv} {hi : Nat} {w w' : World} {row row' : Value} {A : Option Addr} {c : Nat} {l : List (List Int)} (h : ParZ v hi w row A c l) (hg : w.grownBy w' row.ownBlock)
    (hl : ∀ g, row'.ownBlock = some g → row.ownBlock = some g ∨ w.heap.size ≤ g) : ParZ v hi w' row' A c l := by
  rcases h with h | ⟨lo, B, h1, h2, h3, h4⟩
  · exact .inl h
  · refine .inr ⟨lo, B, h1, Nat.le_trans h2 hg.size, h3.mid fun p hp1 hp2 => World.cell?_of_block (hg.block p.block (by omega) fun e => ?_), fun g hgg => ?_⟩
    · rcases h4 p.block e.symm with h5 | h5 <;> omega
    · rcases hl g hgg with h5 | h5
      · exact h4 g h5
      · exact .inr (by omega)
theorem ParZ.of_nil (v : Sv) (hi : Nat) (w : World) (row : Value) : ParZ v hi w row none 0 [] :=
  .inr ⟨hi, 0, Nat.le_refl _, Nat.zero_le _, RdLL.nil _ _ _, fun _ _ => .inr (Nat.zero_le _)⟩
theorem ParZ.same (v : Sv) (hi : Nat) (w : World) (row : Value) : ParZ v hi w row v.A v.c v.s.l := .inl ⟨rfl, rfl, rfl⟩

/-- actions in a row that a call made -/
structure Owned (v : Sv) (hi : Nat) (w : World) (A : Option Addr) (c : Nat) (L : List Ax) (vs : List Av) : Prop where
  map : vs.map (·.x) = L
  own : w.ownsRow hi 96 6 (.slice A L.length c) L.length (avC vs)
  ok : ∀ x ∈ vs, x.Tx ∧ ParZ v hi w (.slice A L.length c) x.A x.c x.x.par
theorem Owned.cap {v : Sv} {hi : Nat} {w : World} {A : Option Addr} {c : Nat} {L : List Ax} {vs : List Av} (h : Owned v hi w A c L vs) : L.length ≤ c := by
  obtain ⟨A', c', e, hc⟩ := own_slice h.own
  injection e with e1 e2 e3
  omega
theorem Owned.acts {v : Sv} {hi : Nat} {w : World} {A : Option Addr} {c : Nat} {L : List Ax} {vs : List Av} (h : Owned v hi w A c L vs) : Acts v hi w A L vs :=
  ⟨h.map, Rd.of_own h.own, fun _ a ha => own_ge h.own a.block (by rw [ha]; rfl), fun x hx => ⟨(h.ok x hx).1, (h.ok x hx).2.ok⟩⟩
theorem Owned.next {v : Sv} {hi : Nat} {w w' : World} {A : Option Addr} {c : Nat} {L : List Ax} {vs : List Av} (h : Owned v hi w A c L vs) (hb : Below w.heap.size w w') : Owned v hi w' A c L vs :=
  ⟨h.map, own_past h.own hb, fun x hx => ⟨(h.ok x hx).1, (h.ok x hx).2.next hb⟩⟩
theorem Owned.less {v : Sv} {hi hi' : Nat} {w : World} {A : Option Addr} {c : Nat} {L : List Ax} {vs : List Av} (h : Owned v hi w A c L vs) (hl : hi' ≤ hi) : Owned v hi' w A c L vs :=
  ⟨h.map, own_base h.own hl, fun x hx => ⟨(h.ok x hx).1, (h.ok x hx).2.less hl⟩⟩
theorem Owned.nil (v : Sv) (hi : Nat) (w : World) : Owned v hi w none 0 [] [] := ⟨rfl, World.ownsRow_nil _ _ _ _, fun _ h => absurd h (by simp)⟩
theorem Owned.far {v : Sv} {hi : Nat} {w : World} {A : Option Addr} {c : Nat} {L : List Ax} {vs : List Av} (h : Owned v hi w A c L vs) (a : Addr) (ha : a.block < hi) (u : Value) : Owned v hi (w.setCell a u) A c L vs :=
  ⟨h.map, own_far h.own ha u, fun x hx => ⟨(h.ok x hx).1, (h.ok x hx).2.far a ha u⟩⟩
theorem Owned.put7 {v : Sv} {hi : Nat} {w : World} {A : Option Addr} {c : Nat} {L : List Ax} {vs : List Av} (h : Owned v hi w A c L vs) (b : Nat) (hb : b < hi) (v' : Sv) : Owned v hi (World.put7 w b v') A c L vs :=
  ((((((h.far ⟨b, 0, none⟩ hb _).far ⟨b, 1, none⟩ hb _).far ⟨b, 2, none⟩ hb _).far ⟨b, 3, none⟩ hb _).far ⟨b, 4, none⟩ hb _).far ⟨b, 5, none⟩ hb _).far ⟨b, 6, none⟩ hb _
/-- one action in a block of its own -/
theorem owned_one (v : Sv) (w : World) (x : Av) (h : x.Tx) (hp : ∀ w' row, ParZ v w.heap.size w' row x.A x.c x.x.par) : Owned v w.heap.size (w.alloc (.cells x.cells.toArray 96)) (some ⟨w.heap.size, 0, none⟩) 1 [x.x] [x] := by
  have e : avC [x] = x.cells := by simp [avC]
  refine ⟨rfl, ⟨by rw [e]; rfl, .inr ⟨w.heap.size, 1, x.cells.toArray, rfl, Nat.le_refl _, heap_alloc_new w _, Nat.le_refl _, by unfold maxLen; omega, rfl, ?_⟩⟩, fun y hy => ?_⟩
  · rw [e]; rfl
  · obtain rfl := List.mem_singleton.1 hy
    exact ⟨h, hp _ _⟩
/-- actions are appended to a row -/
theorem Owned.cat {v : Sv} {hi : Nat} {w w' : World} {A A' : Option Addr} {c c' n : Nat} {L L' : List Ax} {vs vs' : List Av} (h : Owned v hi w A c L vs)
    (hm : vs'.map (·.x) = L') (hok : ∀ x ∈ vs', x.Tx ∧ ParZ v hi w (.slice A L.length c) x.A x.c x.x.par) (hn : n = L.length + L'.length)
    (hown : w'.ownsRow hi 96 6 (.slice A' n c') n (avC vs ++ avC vs')) (hg : w.grownBy w' (Value.slice A L.length c).ownBlock)
    (hl : ∀ g, (Value.slice A' n c').ownBlock = some g → (Value.slice A L.length c).ownBlock = some g ∨ w.heap.size ≤ g) : Owned v hi w' A' c' (L ++ L') (vs ++ vs') := by
  subst hn
  have e : (L ++ L').length = L.length + L'.length := List.length_append
  refine ⟨by rw [List.map_append, h.map, hm], by rw [e, avC_append]; exact hown, fun x hx => ?_⟩
  rw [e]
  rcases List.mem_append.1 hx with hx | hx
  · exact ⟨(h.ok x hx).1, (h.ok x hx).2.grow hg hl⟩
  · exact ⟨(hok x hx).1, (hok x hx).2.grow hg hl⟩
theorem el_act : El Tryd.prog 83 96 6 80 :=
  El.mk' (z := .agg #[.int .i64 0, .int .i64 0, .int .u8 0, .string ⟨#[]⟩, .slice none 0 0, .string ⟨#[]⟩]) Tryd.underlying83 (by kernel_rfl) rfl (by omega)
def EndRet (u : Sv) (w : World) (L : List Ax) (e : Ending) (w' : World) : Prop := ∃ A c vs, e = .returned (.slice A L.length c) ∧ Owned u w.heap.size w' A c L vs ∧ Below w.heap.size w w'
set_option maxRecDepth 100000 in
theorem end_own (v u : Sv) (w : World) (hv : v.Tx) : Calls Tryd.prog 90 #[v.val] w (EndRet u w (endA v.s)) := by
  obtain ⟨⟨a, inter, over, l, o, text, kind⟩, ib, tb, A, c⟩ := v
  have hbx : Below w.heap.size w (w.alloc (.cells #[.int .i64 a, .string ib, .bool over, .slice A l.length c, .bool o, .string tb, .int .u8 kind] 82)) := (Below.refl _ _).alloc (Nat.le_refl _) _
  have HV := Lib.hid hv.tb; have HB := Lib.hid hbx
  have lift : ∀ (x : Av) (L : List Ax), x.Tx → (∀ hi w' row, ParZ u hi w' row x.A x.c x.x.par) → L = [x.x] →
      EndRet u w L (.returned (.slice (some ⟨w.heap.size + 1, 0, none⟩) 1 1)) ((w.alloc (.cells #[.int .i64 a, .string ib, .bool over, .slice A l.length c, .bool o, .string tb, .int .u8 kind] 82)).alloc (.cells x.cells.toArray 96)) := by
    intro x L hx hp hL
    subst hL
    have h := owned_one u (w.alloc (.cells #[.int .i64 a, .string ib, .bool over, .slice A l.length c, .bool o, .string tb, .int .u8 kind] 82)) x hx (fun w' row => hp _ w' row)
    have hs : (w.alloc (.cells #[.int .i64 a, .string ib, .bool over, .slice A l.length c, .bool o, .string tb, .int .u8 kind] 82)).heap.size = w.heap.size + 1 := by simp
    rw [hs] at h
    exact ⟨_, 1, [x], rfl, h.less (by omega), hbx.alloc (by simp) _⟩
  have LIFT := Lib.hid lift
  clear lift hv hbx
  show Calls Tryd.prog 90 #[.agg #[.int .i64 a, .string ib, .bool over, .slice A l.length c, .bool o, .string tb, .int .u8 kind]] w _
  by_cases h7 : a = 7
  · subst h7
    go_enter Tryd.func90, Tryd.ntmps90
    go_wp2
    go_ret
    exact LIFT.out ⟨⟨5, 0, 0, [], [], text⟩, ⟨#[]⟩, tb, none, 0⟩ _ ⟨rfl, HV.out⟩ (fun _ _ _ => ParZ.of_nil _ _ _ _) rfl
  by_cases h8 : a = 8
  · subst h8
    go_enter Tryd.func90, Tryd.ntmps90
    go_wp2
    go_ret
    exact LIFT.out ⟨⟨6, 0, 0, [], [], text⟩, ⟨#[]⟩, tb, none, 0⟩ _ ⟨rfl, HV.out⟩ (fun _ _ _ => ParZ.of_nil _ _ _ _) rfl
  by_cases h9 : a = 9
  · subst h9
    go_enter Tryd.func90, Tryd.ntmps90
    go_wp2
    go_ret
    exact LIFT.out ⟨⟨7, 0, kind, [], [], text⟩, ⟨#[]⟩, tb, none, 0⟩ _ ⟨rfl, HV.out⟩ (fun _ _ _ => ParZ.of_nil _ _ _ _) rfl
  · have e7 : (a == 7) = false := beq_eq_false_iff_ne.2 h7
    have e8 : (a == 8) = false := beq_eq_false_iff_ne.2 h8
    have e9 : (a == 9) = false := beq_eq_false_iff_ne.2 h9
    have he : endA ⟨a, inter, over, l, o, text, kind⟩ = [] := by simp [endA, h7, h8, h9]
    have HE := Lib.hid he
    clear he h7 h8 h9
    go_enter Tryd.func90, Tryd.ntmps90
    go_wp2
    go_ret
    rw [HE.out]
    exact ⟨none, 0, [], rfl, Owned.nil _ _ _, HB.out⟩
end Go.Proofs.YtcempbgbdlmjfaaDoor
