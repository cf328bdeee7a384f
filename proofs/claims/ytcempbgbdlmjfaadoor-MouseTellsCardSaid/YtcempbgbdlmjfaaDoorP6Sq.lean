/-
  parse: the walks of sequence and escape.
-/
import Derived.Test.YtcempbgbdlmjfaaDoorP6St
namespace Go.Proofs.YtcempbgbdlmjfaaDoor
open Go.RowKit

/-- one action in a new block -/
theorem acts_new (v : Sv) (hi : Nat) (w : World) (x : Av) (t : TypeId) (h : x.Tx) (hp : ∀ w', ParOk v hi w' x.A x.c x.x.par) (hh : hi ≤ w.heap.size) : Acts v hi ((w.alloc (.cells x.cells.toArray t)).drew) (some ⟨w.heap.size, 0, none⟩) [x.x] [x] := by
  have e : avC [x] = x.cells := by simp [avC]
  refine ⟨rfl, ?_, fun _ a ha => ?_, fun y hy => ?_⟩
  · rw [e]
    exact (rd_of_block (cs := x.cells) (heap_alloc_new w _) (by simp) : Rd (w.alloc (.cells x.cells.toArray t)) (w.alloc (.cells x.cells.toArray t)).heap.size _ _).next (Below.refl _ _).drew
  · injection ha with ha; subst ha; exact hh
  · obtain rfl := List.mem_singleton.1 hy
    exact ⟨h, hp _⟩
/-- a state that a call handed back is stored into a box of its own -/
theorem st_put {v v' z : Sv} {lo hi b : Nat} {w w1 : World} (hs : SAt w1 b z) (hb : Below lo w w1) (hp : ParOk v hi w1 v'.A v'.c v'.s.l) (h1 : lo ≤ b) (h2 : b < hi) :
    SAt (World.put7 w1 b v') b v' ∧ Below lo w (World.put7 w1 b v') ∧ ParOk v lo (World.put7 w1 b v') v'.A v'.c v'.s.l :=
  ⟨hs.put v', below_put7 hb h1 v', (hp.put7 b h2 v').less (by omega)⟩

theorem SvRet.open {v : Sv} {w : World} {s' : St} {e : Ending} {w' : World} (h : SvRet v w s' e w') : ∃ (a1 : Int) (inter1 : List Int) (ov1 : Bool) (l1 : List (List Int)) (o1 : Bool) (text1 : List Int) (k1 : Int) (ib1 tb1 : ByteArray) (A1 : Option Addr) (c1 : Nat), ⟨a1, inter1, ov1, l1, o1, text1, k1⟩ = s' ∧ e = .returned (.agg #[.int .i64 a1, .string ib1, .bool ov1, .slice A1 l1.length c1, .bool o1, .string tb1, .int .u8 k1]) ∧ Sv.Tx ⟨⟨a1, inter1, ov1, l1, o1, text1, k1⟩, ib1, tb1, A1, c1⟩ ∧ ParOk v w.heap.size w' A1 c1 l1 ∧ Below w.heap.size w w' := by
  obtain ⟨⟨⟨a1, inter1, ov1, l1, o1, text1, k1⟩, ib1, tb1, A1, c1⟩, h1, h2, h3, h4, h5⟩ := h
  exact ⟨a1, inter1, ov1, l1, o1, text1, k1, ib1, tb1, A1, c1, h1, h2, h3, h4, h5⟩
theorem StRet.open {v : Sv} {w : World} {s' : St} {L : List Ax} {e : Ending} {w' : World} (h : StRet v w s' L e w') : ∃ (a1 : Int) (inter1 : List Int) (ov1 : Bool) (l1 : List (List Int)) (o1 : Bool) (text1 : List Int) (k1 : Int) (ib1 tb1 : ByteArray) (A1 : Option Addr) (c1 : Nat) (Ac : Option Addr) (cA : Nat) (vs : List Av), ⟨a1, inter1, ov1, l1, o1, text1, k1⟩ = s' ∧ e = .returned (.tuple #[.agg #[.int .i64 a1, .string ib1, .bool ov1, .slice A1 l1.length c1, .bool o1, .string tb1, .int .u8 k1], .slice Ac L.length cA]) ∧ Sv.Tx ⟨⟨a1, inter1, ov1, l1, o1, text1, k1⟩, ib1, tb1, A1, c1⟩ ∧ ParOk v w.heap.size w' A1 c1 l1 ∧ Acts v w.heap.size w' Ac L vs ∧ L.length ≤ cA ∧ Below w.heap.size w w' := by
  obtain ⟨⟨⟨a1, inter1, ov1, l1, o1, text1, k1⟩, ib1, tb1, A1, c1⟩, Ac, cA, vs, h1, h2, h3, h4, h5, h6, h7⟩ := h
  exact ⟨a1, inter1, ov1, l1, o1, text1, k1, ib1, tb1, A1, c1, Ac, cA, vs, h1, h2, h3, h4, h5, h6, h7⟩

theorem size_two (w : World) (p q : Obj) : ((w.alloc p).alloc q).heap.size = w.heap.size + 1 + 1 := by simp
set_option maxRecDepth 100000 in
set_option maxHeartbeats 1600000 in
theorem sequence_any (v : Sv) (c : Int) (w : World) (hv : v.Tx) : Calls Tryd.prog 99 #[v.val, .int .u8 c] w (StRet v w (seqF v.s c).1 (seqF v.s c).2) := by
  obtain ⟨⟨a0, inter, over, l, o, text, kind⟩, ib, tb, A, cc⟩ := v
  have HV := Lib.hid hv
  clear hv
  cases over with
  | true =>
    show Calls Tryd.prog 99 #[.agg #[.int .i64 a0, .string ib, .bool true, .slice A l.length cc, .bool o, .string tb, .int .u8 kind], .int .u8 c] w _
    go_enter Tryd.func99, Tryd.ntmps99
    go_wp2
    refine bodyPost_ret (v := .tuple #[.agg #[.int .i64 0, .string ⟨#[]⟩, .bool false, .slice none 0 0, .bool false, .string ⟨#[]⟩, .int .u8 0], .slice none 0 0]) (by simp [results, Tryd.results99, go_sem]) rfl ?_
    exact ⟨sv0, none, 0, [], rfl, rfl, sv0_tx, ParOk.nil _ _ _, Acts.nil _ _ _ _, Nat.le_refl _, ((Below.refl _ _).alloc (Nat.le_refl _) _).alloc (by simp) _⟩
  | false =>
    have hf : seqF ⟨a0, inter, false, l, o, text, kind⟩ c = (st0, [axCsi ⟨a0, inter, false, l, o, text, kind⟩ c]) := rfl
    show Calls Tryd.prog 99 #[.agg #[.int .i64 a0, .string ib, .bool false, .slice A l.length cc, .bool o, .string tb, .int .u8 kind], .int .u8 c] w _
    go_enter Tryd.func99, Tryd.ntmps99
    go_upto_region 3 with (fail)
    go_region_law (fail)
    all_goals go_wp2
    all_goals
      refine bodyPost_ret (v := .tuple #[.agg #[.int .i64 0, .string ⟨#[]⟩, .bool false, .slice none 0 0, .bool false, .string ⟨#[]⟩, .int .u8 0], .slice (some ⟨w.heap.size + 1 + 1, 0, none⟩) 1 1]) (by simp [results, Tryd.results99, go_sem]) rfl ?_
      rw [hf]
      have ha := acts_new ⟨⟨a0, inter, false, l, o, text, kind⟩, ib, tb, A, cc⟩ w.heap.size ((w.alloc (.cells #[.int .i64 a0, .string ib, .bool false, .slice A l.length cc, .bool o, .string tb, .int .u8 kind] 82)).alloc (.cells #[.int .i64 0, .string ⟨#[]⟩, .bool false, .slice none 0 0, .bool false, .string ⟨#[]⟩, .int .u8 0] 82)) ⟨axCsi ⟨a0, inter, false, l, o, text, kind⟩ c, ib, ⟨#[]⟩, A, cc⟩ 96 ⟨HV.out.ib, rfl⟩ (fun _ => ParOk.same _ _ _) (by simp; omega)
      simp only [size_two] at ha
      exact ⟨sv0, _, 1, _, rfl, rfl, sv0_tx, ParOk.nil _ _ _, ha, Nat.le_refl _, (((((Below.refl _ _).alloc (Nat.le_refl _) _).alloc (by simp) _).alloc (by simp; omega) _).drew)⟩
set_option maxRecDepth 100000 in
set_option maxHeartbeats 1600000 in
theorem escape_low (v : Sv) (c : Int) (w : World) (hv : v.Tx) (c0 : 0 ≤ c) (c1 : c ≤ 47) : Calls Tryd.prog 96 #[v.val, .int .u8 c] w (StRet v w (escapeF v.s c).1 (escapeF v.s c).2) := by
  obtain ⟨n1, n2⟩ := s_two w v sv0
  obtain ⟨⟨a0, inter, over, l, o, text, kind⟩, ib, tb, A, cc⟩ := v
  have N1 := Lib.hid n1; have N2 := Lib.hid n2; have HV := Lib.hid hv
  have hf : escapeF ⟨a0, inter, over, l, o, text, kind⟩ c = (collectF ⟨a0, inter, over, l, o, text, kind⟩ c 2, []) := by unfold escapeF; rw [if_pos c1]
  have HE := Lib.hid hf
  clear n1 n2 hv hf
  show Calls Tryd.prog 96 #[.agg #[.int .i64 a0, .string ib, .bool over, .slice A l.length cc, .bool o, .string tb, .int .u8 kind], .int .u8 c] w _
  go_enter Tryd.func96, Tryd.ntmps96
  go_wp2_with fail
  refine (collect_any ⟨⟨a0, inter, over, l, o, text, kind⟩, ib, tb, A, cc⟩ c 2 _ HV.out c0 (by omega)).mono ?_
  intro e w1 hret
  obtain ⟨a1, inter1, ov1, l1, o1, text1, k1, ib1, tb1, A1, c1, he1, rfl, htx, hpar, hb⟩ := hret.open
  clear hret
  simp only [size_two] at hb hpar
  have hs := N2.out.past (hb.mono (by simp))
  have HS := Lib.hid hs; have HP := Lib.hid hpar; have HB := Lib.hid hb; have HTX := Lib.hid htx; have HE1 := Lib.hid he1
  obtain ⟨q0, q1, q2, q3, q4, q5, q6, g0, g1, g2, g3, g4, g5, g6⟩ := hs.cells
  simp only [sv0, st0] at q0 q1 q2 q3 q4 q5 q6
  clear hs hpar hb htx he1
  go_wp2_with fail
  obtain ⟨hp7, hb7, hq7⟩ := st_put (v' := ⟨⟨a1, inter1, ov1, l1, o1, text1, k1⟩, ib1, tb1, A1, c1⟩) HS.out ((((Below.refl _ _).alloc (Nat.le_refl _) _).alloc (by simp) _ : Below w.heap.size w _).trans (HB.out.mono (by omega))) HP.out (by omega) (by omega)
  simp only [World.put7] at hp7 hb7 hq7
  generalize (((((((w1.setCell ⟨w.heap.size + 1, 0, none⟩ (.int .i64 a1)).setCell ⟨w.heap.size + 1, 1, none⟩ (.string ib1)).setCell ⟨w.heap.size + 1, 2, none⟩ (.bool ov1)).setCell ⟨w.heap.size + 1, 3, none⟩ (.slice A1 l1.length c1)).setCell ⟨w.heap.size + 1, 4, none⟩ (.bool o1)).setCell ⟨w.heap.size + 1, 5, none⟩ (.string tb1)).setCell ⟨w.heap.size + 1, 6, none⟩ (.int .u8 k1)) = W7 at hp7 hb7 hq7 ⊢
  obtain ⟨d0, d1, d2, d3, d4, d5, d6, _⟩ := hp7.cells
  simp only at d0 d1 d2 d3 d4 d5 d6
  refine bodyPost_ret (v := .tuple #[.agg #[.int .i64 a1, .string ib1, .bool ov1, .slice A1 l1.length c1, .bool o1, .string tb1, .int .u8 k1], .slice none 0 0]) (by simp [results, Tryd.results96, go_sem, d0, d1, d2, d3, d4, d5, d6]) rfl ?_
  rw [HE.out]
  exact ⟨⟨⟨a1, inter1, ov1, l1, o1, text1, k1⟩, ib1, tb1, A1, c1⟩, none, 0, [], HE1.out, rfl, HTX.out, hq7, Acts.nil _ _ _ _, Nat.le_refl _, hb7⟩
end Go.Proofs.YtcempbgbdlmjfaaDoor
