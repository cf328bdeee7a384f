/-
  parse: states and actions in memory; the walks of control, letter, end, isString.
-/
import Derived.Test.YtcempbgbdlmjfaaDoorP6Plain
import Derived.Test.YtcempbgbdlmjfaaDoorPbPr
namespace Go.Proofs.YtcempbgbdlmjfaaDoor
open Go.RowKit

/-- a state as a value -/
structure Sv where
  s : St
  ib : ByteArray
  tb : ByteArray
  A : Option Addr
  c : Nat
def Sv.cells (v : Sv) : List Value := [.int .i64 v.s.a, .string v.ib, .bool v.s.over, .slice v.A v.s.l.length v.c, .bool v.s.o, .string v.tb, .int .u8 v.s.kind]
def Sv.val (v : Sv) : Value := .agg v.cells.toArray
/-- the texts of a state are what they are -/
structure Sv.Tx (v : Sv) : Prop where
  ib : bI v.ib = v.s.inter
  tb : bI v.tb = v.s.text
  k : 0 ≤ v.s.kind ∧ v.s.kind < 256
structure Sv.Ok (v : Sv) (w : World) : Prop where
  tx : v.Tx
  rd : RdLL w 0 w.heap.size (.slice v.A v.s.l.length v.c) v.s.l
theorem Sv.Ok.next {v : Sv} {w w' : World} (h : v.Ok w) (hb : Below w.heap.size w w') : v.Ok w' := ⟨h.tx, h.rd.next hb⟩
/-- parameters that come out of a call: those of the state that came in, or new ones -/
def ParOk (v : Sv) (hi : Nat) (w' : World) (A : Option Addr) (c : Nat) (l : List (List Int)) : Prop := (A = v.A ∧ c = v.c ∧ l = v.s.l) ∨ RdLL w' hi w'.heap.size (.slice A l.length c) l
theorem ParOk.nil (v : Sv) (hi : Nat) (w' : World) : ParOk v hi w' none 0 [] := .inr (RdLL.nil _ _ _)
theorem ParOk.same (v : Sv) (hi : Nat) (w' : World) : ParOk v hi w' v.A v.c v.s.l := .inl ⟨rfl, rfl, rfl⟩
theorem ParOk.next {v : Sv} {hi : Nat} {w w' : World} {A : Option Addr} {c : Nat} {l : List (List Int)} (h : ParOk v hi w A c l) (hb : Below w.heap.size w w') : ParOk v hi w' A c l := by
  rcases h with h | h
  · exact .inl h
  · exact .inr (h.next hb)
theorem ParOk.less {v : Sv} {hi lo : Nat} {w : World} {A : Option Addr} {c : Nat} {l : List (List Int)} (h : ParOk v hi w A c l) (hl : lo ≤ hi) : ParOk v lo w A c l := by
  rcases h with h | h
  · exact .inl h
  · exact .inr (h.less hl)
/-- a store below what is new -/
theorem ParOk.far {v : Sv} {hi : Nat} {w : World} {A : Option Addr} {c : Nat} {l : List (List Int)} (h : ParOk v hi w A c l) (a : Addr) (ha : a.block < hi) (u : Value) : ParOk v hi (w.setCell a u) A c l := by
  rcases h with h | h
  · exact .inl h
  · exact .inr (by simpa [World.setCell] using h.far ha u)
theorem ParOk.rd {v : Sv} {hi : Nat} {w : World} {A : Option Addr} {c : Nat} {l : List (List Int)} (h : ParOk v hi w A c l) (hv : RdLL w 0 w.heap.size (.slice v.A v.s.l.length v.c) v.s.l) : RdLL w 0 w.heap.size (.slice A l.length c) l := by
  rcases h with ⟨rfl, rfl, rfl⟩ | h
  · exact hv
  · exact h.less (Nat.zero_le _)
def sv0 : Sv := ⟨st0, ⟨#[]⟩, ⟨#[]⟩, none, 0⟩
theorem sv0_tx : sv0.Tx := ⟨rfl, rfl, by decide⟩
theorem sv0_ok (w : World) : sv0.Ok w := ⟨sv0_tx, RdLL.nil _ _ _⟩
def svAt (a : Int) : Sv := ⟨atS a, ⟨#[]⟩, ⟨#[]⟩, none, 0⟩
theorem svAt_tx (a : Int) : (svAt a).Tx := ⟨rfl, rfl, by simp [svAt, atS]⟩
def svSos (k : Int) : Sv := ⟨sosS k, ⟨#[]⟩, ⟨#[]⟩, none, 0⟩
theorem svSos_tx (k : Int) (h : 0 ≤ k ∧ k < 256) : (svSos k).Tx := ⟨rfl, rfl, h⟩
/-- an action as cells -/
structure Av where
  x : Ax
  ib : ByteArray
  tb : ByteArray
  A : Option Addr
  c : Nat
def Av.cells (v : Av) : List Value := [.int .i64 v.x.what, .int .i64 v.x.r, .int .u8 v.x.fin, .string v.ib, .slice v.A v.x.par.length v.c, .string v.tb]
structure Av.Tx (x : Av) : Prop where
  ib : bI x.ib = x.x.inter
  tb : bI x.tb = x.x.text
def avC (l : List Av) : List Value := l.flatMap Av.cells
theorem avC_len (l : List Av) : (avC l).length = l.length * 6 := by
  induction l with
  | nil => rfl
  | cons v l ih => simp [avC, Av.cells] at ih ⊢; omega
theorem avC_one (l : List Av) : ∀ u ∈ avC l, u.oneCell' = true := by
  intro u hu
  obtain ⟨v, _, hv⟩ := List.mem_flatMap.1 hu
  simp only [Av.cells, List.mem_cons, List.not_mem_nil, or_false] at hv
  rcases hv with rfl | rfl | rfl | rfl | rfl | rfl <;> rfl
/-- actions that a call hands back: they lie in new blocks; their parameters are those of the state that came in, or new -/
structure Acts (v : Sv) (hi : Nat) (w : World) (A : Option Addr) (L : List Ax) (vs : List Av) : Prop where
  map : vs.map (·.x) = L
  rd : Rd w w.heap.size A (avC vs)
  lo : LoA hi A (avC vs)
  ok : ∀ x ∈ vs, x.Tx ∧ ParOk v hi w x.A x.c x.x.par
theorem Acts.len {v : Sv} {hi : Nat} {w : World} {A : Option Addr} {L : List Ax} {vs : List Av} (h : Acts v hi w A L vs) : vs.length = L.length := by rw [← h.map, List.length_map]
theorem Acts.nil (v : Sv) (hi : Nat) (w : World) (A : Option Addr) : Acts v hi w A [] [] := ⟨rfl, Rd.nil _ _ _, fun h => absurd h (by simp [avC]), fun _ h => absurd h (by simp)⟩
theorem Acts.next {v : Sv} {hi : Nat} {w w' : World} {A : Option Addr} {L : List Ax} {vs : List Av} (h : Acts v hi w A L vs) (hb : Below w.heap.size w w') : Acts v hi w' A L vs :=
  ⟨h.map, h.rd.next hb, h.lo, fun x hx => ⟨(h.ok x hx).1, (h.ok x hx).2.next hb⟩⟩
theorem Acts.less {v : Sv} {hi lo : Nat} {w : World} {A : Option Addr} {L : List Ax} {vs : List Av} (h : Acts v hi w A L vs) (hl : lo ≤ hi) : Acts v lo w A L vs :=
  ⟨h.map, h.rd, h.lo.less hl, fun x hx => ⟨(h.ok x hx).1, (h.ok x hx).2.less hl⟩⟩
theorem Acts.far {v : Sv} {hi : Nat} {w : World} {A : Option Addr} {L : List Ax} {vs : List Av} (h : Acts v hi w A L vs) (a : Addr) (ha : a.block < hi) (u : Value) : Acts v hi (w.setCell a u) A L vs :=
  ⟨h.map, by simpa [World.setCell] using h.rd.far h.lo ha u, h.lo, fun x hx => ⟨(h.ok x hx).1, (h.ok x hx).2.far a ha u⟩⟩
def ActsRet (v : Sv) (w : World) (L : List Ax) (e : Ending) (w' : World) : Prop := ∃ A c vs, e = .returned (.slice A L.length c) ∧ Acts v w.heap.size w' A L vs ∧ L.length ≤ c ∧ Below w.heap.size w w'
/-- one action in a block of its own -/
theorem acts_one (v : Sv) (w : World) (x : Av) (t : TypeId) (h : x.Tx) (hp : ∀ w', ParOk v w.heap.size w' x.A x.c x.x.par) : ActsRet v w [x.x] (.returned (.slice (some ⟨w.heap.size, 0, none⟩) 1 1)) (w.alloc (.cells x.cells.toArray t)) := by
  have hb : Below w.heap.size w (w.alloc (.cells x.cells.toArray t)) := (Below.refl _ _).alloc (Nat.le_refl _) _
  have e : avC [x] = x.cells := by simp [avC]
  refine ⟨_, 1, [x], rfl, ⟨rfl, ?_, fun _ a ha => ?_, fun y hy => ?_⟩, Nat.le_refl _, hb⟩
  · rw [e]
    exact rd_of_block (cs := x.cells) (heap_alloc_new w _) (by simp)
  · injection ha with ha; subst ha; exact Nat.le_refl _
  · obtain rfl := List.mem_singleton.1 hy
    exact ⟨h, hp _⟩
def avPlain (what r fin : Int) : Av := ⟨⟨what, r, fin, [], [], []⟩, ⟨#[]⟩, ⟨#[]⟩, none, 0⟩
theorem avPlain_tx (what r fin : Int) : (avPlain what r fin).Tx := ⟨rfl, rfl⟩

set_option maxRecDepth 100000 in
theorem control_any (v : Sv) (r : Int) (w : World) (h0 : 0 ≤ r) (h1 : r < 256) : Calls Tryd.prog 84 #[.int .i64 r] w (ActsRet v w [axExec r]) := by
  have e : byteOf r = r := by unfold byteOf; omega
  have HE := Lib.hid e
  clear e
  go_enter Tryd.func84, Tryd.ntmps84
  go_wp2
  go_ret
  have h := acts_one v w (avPlain 2 0 r) 96 (avPlain_tx _ _ _) (fun _ => ParOk.nil _ _ _)
  unfold axExec
  rw [HE.out]
  exact h
set_option maxRecDepth 100000 in
theorem letter6_any (v : Sv) (r : Int) (w : World) : Calls Tryd.prog 88 #[.int .i64 r] w (ActsRet v w [axPrint r]) := by
  go_enter Tryd.func88, Tryd.ntmps88
  go_wp2
  go_ret
  exact acts_one v w (avPlain 1 r 0) 96 (avPlain_tx _ _ _) (fun _ => ParOk.nil _ _ _)
set_option maxRecDepth 100000 in
theorem isstr_any (v : Sv) (w : World) : Calls Tryd.prog 86 #[v.val] w fun e w' => e = .returned (.bool (isStr v.s)) ∧ Below w.heap.size w w' := by
  obtain ⟨⟨a, inter, over, l, o, text, kind⟩, ib, tb, A, c⟩ := v
  show Calls Tryd.prog 86 #[.agg #[.int .i64 a, .string ib, .bool over, .slice A l.length c, .bool o, .string tb, .int .u8 kind]] w _
  by_cases h7 : a = 7
  · subst h7
    go_enter Tryd.func86, Tryd.ntmps86
    go_wp2
    go_ret
    exact ⟨rfl, (Below.refl _ _).alloc (Nat.le_refl _) _⟩
  by_cases h8 : a = 8
  · subst h8
    go_enter Tryd.func86, Tryd.ntmps86
    go_wp2
    go_ret
    exact ⟨rfl, (Below.refl _ _).alloc (Nat.le_refl _) _⟩
  by_cases h9 : a = 9
  · subst h9
    go_enter Tryd.func86, Tryd.ntmps86
    go_wp2
    go_ret
    exact ⟨rfl, (Below.refl _ _).alloc (Nat.le_refl _) _⟩
  · have e7 : (a == 7) = false := beq_eq_false_iff_ne.2 h7
    have e8 : (a == 8) = false := beq_eq_false_iff_ne.2 h8
    have e9 : (a == 9) = false := beq_eq_false_iff_ne.2 h9
    have he : isStr ⟨a, inter, over, l, o, text, kind⟩ = false := by simp [isStr, h7, h8, h9]
    have HE := Lib.hid he
    clear he h7 h8 h9
    go_enter Tryd.func86, Tryd.ntmps86
    go_wp2
    go_ret
    exact ⟨by rw [HE.out]; rfl, (Below.refl _ _).alloc (Nat.le_refl _) _⟩
set_option maxRecDepth 100000 in
theorem end_any (v u : Sv) (w : World) (hv : v.Tx) : Calls Tryd.prog 90 #[v.val] w (ActsRet u w (endA v.s)) := by
  obtain ⟨⟨a, inter, over, l, o, text, kind⟩, ib, tb, A, c⟩ := v
  have hbx : Below w.heap.size w (w.alloc (.cells #[.int .i64 a, .string ib, .bool over, .slice A l.length c, .bool o, .string tb, .int .u8 kind] 82)) := (Below.refl _ _).alloc (Nat.le_refl _) _
  have HV := Lib.hid hv.tb; have HB := Lib.hid hbx
  have lift : ∀ (x : Av) (L : List Ax), x.Tx → (∀ hi w', ParOk u hi w' x.A x.c x.x.par) → L = [x.x] →
      ActsRet u w L (.returned (.slice (some ⟨w.heap.size + 1, 0, none⟩) 1 1)) ((w.alloc (.cells #[.int .i64 a, .string ib, .bool over, .slice A l.length c, .bool o, .string tb, .int .u8 kind] 82)).alloc (.cells x.cells.toArray 96)) := by
    intro x L hx hp hL
    subst hL
    have h := acts_one u (w.alloc (.cells #[.int .i64 a, .string ib, .bool over, .slice A l.length c, .bool o, .string tb, .int .u8 kind] 82)) x 96 hx (fun w' => hp _ w')
    obtain ⟨A', c', vs, e, h2, h3, h4⟩ := h
    have hs : (w.alloc (.cells #[.int .i64 a, .string ib, .bool over, .slice A l.length c, .bool o, .string tb, .int .u8 kind] 82)).heap.size = w.heap.size + 1 := by simp
    rw [hs] at e
    exact ⟨A', c', vs, e, h2.less (by simp), h3, hbx.trans (h4.mono (by simp))⟩
  have LIFT := Lib.hid lift
  clear lift hv hbx
  show Calls Tryd.prog 90 #[.agg #[.int .i64 a, .string ib, .bool over, .slice A l.length c, .bool o, .string tb, .int .u8 kind]] w _
  by_cases h7 : a = 7
  · subst h7
    go_enter Tryd.func90, Tryd.ntmps90
    go_wp2
    go_ret
    exact LIFT.out ⟨⟨5, 0, 0, [], [], text⟩, ⟨#[]⟩, tb, none, 0⟩ _ ⟨rfl, HV.out⟩ (fun _ _ => ParOk.nil _ _ _) rfl
  by_cases h8 : a = 8
  · subst h8
    go_enter Tryd.func90, Tryd.ntmps90
    go_wp2
    go_ret
    exact LIFT.out ⟨⟨6, 0, 0, [], [], text⟩, ⟨#[]⟩, tb, none, 0⟩ _ ⟨rfl, HV.out⟩ (fun _ _ => ParOk.nil _ _ _) rfl
  by_cases h9 : a = 9
  · subst h9
    go_enter Tryd.func90, Tryd.ntmps90
    go_wp2
    go_ret
    exact LIFT.out ⟨⟨7, 0, kind, [], [], text⟩, ⟨#[]⟩, tb, none, 0⟩ _ ⟨rfl, HV.out⟩ (fun _ _ => ParOk.nil _ _ _) rfl
  · have e7 : (a == 7) = false := beq_eq_false_iff_ne.2 h7
    have e8 : (a == 8) = false := beq_eq_false_iff_ne.2 h8
    have e9 : (a == 9) = false := beq_eq_false_iff_ne.2 h9
    have he : endA ⟨a, inter, over, l, o, text, kind⟩ = [] := by simp [endA, h7, h8, h9]
    have HE := Lib.hid he
    clear he h7 h8 h9
    go_enter Tryd.func90, Tryd.ntmps90
    go_wp2
    go_ret
    rw [HE.out]
    exact ⟨none, 0, [], rfl, Acts.nil _ _ _ _, Nat.le_refl _, HB.out⟩
end Go.Proofs.YtcempbgbdlmjfaaDoor
