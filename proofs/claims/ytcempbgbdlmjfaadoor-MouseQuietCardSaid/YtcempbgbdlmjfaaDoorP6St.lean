/-
  parse: a state in a block of its own; the walks of upper, collect.
-/
import Derived.Test.YtcempbgbdlmjfaaDoorP6Mem
import Derived.Laws.IdiomStrings
namespace Go.Proofs.YtcempbgbdlmjfaaDoor
open Go.RowKit

def SAt (w : World) (b : Nat) (v : Sv) : Prop := w.heap[b]? = some (.cells v.cells.toArray 82 (0, 0))
theorem SAt.cells {w : World} {b : Nat} {v : Sv} (h : SAt w b v) : w.cell? ⟨b, 0, none⟩ = some (.int .i64 v.s.a) ∧ w.cell? ⟨b, 1, none⟩ = some (.string v.ib) ∧ w.cell? ⟨b, 2, none⟩ = some (.bool v.s.over) ∧ w.cell? ⟨b, 3, none⟩ = some (.slice v.A v.s.l.length v.c) ∧ w.cell? ⟨b, 4, none⟩ = some (.bool v.s.o) ∧ w.cell? ⟨b, 5, none⟩ = some (.string v.tb) ∧ w.cell? ⟨b, 6, none⟩ = some (.int .u8 v.s.kind) ∧ w.frozen? ⟨b, 0, none⟩ = false ∧ w.frozen? ⟨b, 1, none⟩ = false ∧ w.frozen? ⟨b, 2, none⟩ = false ∧ w.frozen? ⟨b, 3, none⟩ = false ∧ w.frozen? ⟨b, 4, none⟩ = false ∧ w.frozen? ⟨b, 5, none⟩ = false ∧ w.frozen? ⟨b, 6, none⟩ = false :=
  ⟨bk_cell h 0 _ rfl, bk_cell h 1 _ rfl, bk_cell h 2 _ rfl, bk_cell h 3 _ rfl, bk_cell h 4 _ rfl, bk_cell h 5 _ rfl, bk_cell h 6 _ rfl, bk_free h 0, bk_free h 1, bk_free h 2, bk_free h 3, bk_free h 4, bk_free h 5, bk_free h 6⟩
theorem SAt.past {w w' : World} {b : Nat} {v : Sv} (h : SAt w b v) (hb : Below w.heap.size w w') : SAt w' b v := bk_past h hb (Nat.le_refl _)
theorem SAt.far {w : World} {b : Nat} {v : Sv} (h : SAt w b v) (a : Addr) (ha : b ≠ a.block) (u : Value) : SAt (w.setCell a u) b v := bk_far h ha u
theorem arr7 (x0 x1 x2 x3 x4 x5 x6 y0 y1 y2 y3 y4 y5 y6 : Value) : (((((((#[x0, x1, x2, x3, x4, x5, x6].setIfInBounds 0 y0).setIfInBounds 1 y1).setIfInBounds 2 y2).setIfInBounds 3 y3).setIfInBounds 4 y4).setIfInBounds 5 y5).setIfInBounds 6 y6) = #[y0, y1, y2, y3, y4, y5, y6] := by simp
theorem SAt.put {w : World} {b : Nat} {v : Sv} (h : SAt w b v) (v' : Sv) : SAt (((((((w.setCell ⟨b, 0, none⟩ (.int .i64 v'.s.a)).setCell ⟨b, 1, none⟩ (.string v'.ib)).setCell ⟨b, 2, none⟩ (.bool v'.s.over)).setCell ⟨b, 3, none⟩ (.slice v'.A v'.s.l.length v'.c)).setCell ⟨b, 4, none⟩ (.bool v'.s.o)).setCell ⟨b, 5, none⟩ (.string v'.tb)).setCell ⟨b, 6, none⟩ (.int .u8 v'.s.kind)) b v' := by
  unfold SAt at h
  have h1 := (bk_set (bk_set (bk_set (bk_set (bk_set (bk_set (bk_set h 0 (.int .i64 v'.s.a)) 1 (.string v'.ib)) 2 (.bool v'.s.over)) 3 (.slice v'.A v'.s.l.length v'.c)) 4 (.bool v'.s.o)) 5 (.string v'.tb)) 6 (.int .u8 v'.s.kind))
  rw [show v.cells.toArray = #[.int .i64 v.s.a, .string v.ib, .bool v.s.over, .slice v.A v.s.l.length v.c, .bool v.s.o, .string v.tb, .int .u8 v.s.kind] from rfl, arr7] at h1
  exact h1
/-- all seven cells are written -/
def World.put7 (w : World) (b : Nat) (v' : Sv) : World := (((((((w.setCell ⟨b, 0, none⟩ (.int .i64 v'.s.a)).setCell ⟨b, 1, none⟩ (.string v'.ib)).setCell ⟨b, 2, none⟩ (.bool v'.s.over)).setCell ⟨b, 3, none⟩ (.slice v'.A v'.s.l.length v'.c)).setCell ⟨b, 4, none⟩ (.bool v'.s.o)).setCell ⟨b, 5, none⟩ (.string v'.tb)).setCell ⟨b, 6, none⟩ (.int .u8 v'.s.kind))
theorem below_put7 {B : Nat} {w w' : World} {b : Nat} (h : Below B w w') (hb : B ≤ b) (v' : Sv) : Below B w (World.put7 w' b v') :=
  ((((((h.setCell hb _).setCell hb _).setCell hb _).setCell hb _).setCell hb _).setCell hb _).setCell hb _
theorem put7_size (w : World) (b : Nat) (v' : Sv) : (World.put7 w b v').heap.size = w.heap.size := by simp [World.put7, World.setCell]
theorem ba_size2 (a : ByteArray) : a.size = (bI a).length := by rw [bI_len]
def SvRet (v : Sv) (w : World) (s' : St) (e : Ending) (w' : World) : Prop := ∃ v' : Sv, v'.s = s' ∧ e = .returned v'.val ∧ v'.Tx ∧ ParOk v w.heap.size w' v'.A v'.c v'.s.l ∧ Below w.heap.size w w'
def StRet (v : Sv) (w : World) (s' : St) (L : List Ax) (e : Ending) (w' : World) : Prop := ∃ (v' : Sv) (A : Option Addr) (c : Nat) (vs : List Av), v'.s = s' ∧ e = .returned (.tuple #[v'.val, .slice A L.length c]) ∧ v'.Tx ∧ ParOk v w.heap.size w' v'.A v'.c v'.s.l ∧ Acts v w.heap.size w' A L vs ∧ L.length ≤ c ∧ Below w.heap.size w w'
theorem ParOk.put7 {v : Sv} {hi : Nat} {w : World} {A : Option Addr} {c : Nat} {l : List (List Int)} (h : ParOk v hi w A c l) (b : Nat) (hb : b < hi) (v' : Sv) : ParOk v hi (World.put7 w b v') A c l :=
  ((((((h.far ⟨b, 0, none⟩ hb _).far ⟨b, 1, none⟩ hb _).far ⟨b, 2, none⟩ hb _).far ⟨b, 3, none⟩ hb _).far ⟨b, 4, none⟩ hb _).far ⟨b, 5, none⟩ hb _).far ⟨b, 6, none⟩ hb _
theorem Acts.put7 {v : Sv} {hi : Nat} {w : World} {A : Option Addr} {L : List Ax} {vs : List Av} (h : Acts v hi w A L vs) (b : Nat) (hb : b < hi) (v' : Sv) : Acts v hi (World.put7 w b v') A L vs :=
  ((((((h.far ⟨b, 0, none⟩ hb _).far ⟨b, 1, none⟩ hb _).far ⟨b, 2, none⟩ hb _).far ⟨b, 3, none⟩ hb _).far ⟨b, 4, none⟩ hb _).far ⟨b, 5, none⟩ hb _).far ⟨b, 6, none⟩ hb _
theorem s_two (w : World) (v z : Sv) : SAt ((w.alloc (.cells v.cells.toArray 82)).alloc (.cells z.cells.toArray 82)) w.heap.size v ∧ SAt ((w.alloc (.cells v.cells.toArray 82)).alloc (.cells z.cells.toArray 82)) (w.heap.size + 1) z := two_new w _ _
/-- a text by its bytes -/
def sN (l : List Int) : ByteArray := ⟨(l.map fun x => UInt8.ofNat x.toNat).toArray⟩
theorem ofNat_nat (x : Int) (h0 : 0 ≤ x) (h1 : x < 256) : ((UInt8.ofNat x.toNat).toNat : Int) = x := by
  have h : x.toNat < 256 := by omega
  rw [UInt8.toNat_ofNat_of_lt' h]; omega
theorem bI_sN (l : List Int) (h : ∀ x ∈ l, 0 ≤ x ∧ x < 256) : bI (sN l) = l := by
  unfold bI sN
  simp only [List.map_map]
  conv => rhs; rw [← List.map_id l]
  apply List.map_congr_left
  intro x hx
  exact ofNat_nat x (h x hx).1 (h x hx).2
theorem bI_app (a b : ByteArray) : bI (a ++ b) = bI a ++ bI b := by
  unfold bI
  rw [ByteArray.data_append, Array.toList_append, List.map_append]
theorem sN_size (l : List Int) : (sN l).size = l.length := by rw [ba_size2, bI_len]; show (l.map _).toArray.size = _; simp
theorem conv_sN {W : World} {B : Nat} {A : Option Addr} (l : List Int) (cp : Nat) (hr : Rd W B A (l.map (.int .u8))) (hb : ∀ x ∈ l, 0 ≤ x ∧ x < 256) (hne : 0 < l.length) :
    (convert 72 9 (.slice A l.length cp)).run Tryd.prog W = .ok (.string (sN l)) W := by
  obtain ⟨b, off, rfl, _, hc⟩ := hr (by simpa using hne)
  have e := run_convert_bytes_back (P := Tryd.prog) W 72 9 5 ⟨b, off, none⟩ cp (l.map fun x => UInt8.ofNat x.toNat) Tryd.underlying72 Tryd.underlying5 Tryd.underlying9 (fun j hj => by
    have hj' : j < l.length := by simpa using hj
    have hadd : (⟨b, off, none⟩ : Addr).add j = ⟨b, off + j, none⟩ := by unfold Addr.add; split <;> simp_all
    rw [hadd, hc j (by simpa using hj')]
    simp only [List.getElem_map]
    rw [ofNat_nat _ (hb _ (List.getElem_mem hj')).1 (hb _ (List.getElem_mem hj')).2])
  rw [List.length_map] at e
  exact e

set_option maxRecDepth 100000 in
set_option maxHeartbeats 1600000 in
theorem collect_any (v : Sv) (c a : Int) (w : World) (hv : v.Tx) (c0 : 0 ≤ c) (c1 : c < 256) : Calls Tryd.prog 98 #[v.val, .int .u8 c, .int .i64 a] w (SvRet v w (collectF v.s c a)) := by
  obtain ⟨n1, n2⟩ := s_two w v sv0
  obtain ⟨⟨a0, inter, over, l, o, text, kind⟩, ib, tb, A, cc⟩ := v
  have N1 := Lib.hid n1; have N2 := Lib.hid n2; have HV := Lib.hid hv
  have hlen : ib.size = inter.length := by have h := hv.ib; simp only at h; rw [ba_size2, h]
  clear n1 n2 hv
  by_cases h2 : inter.length < 2
  · have d2 : decide ((ib.size : Int) < 2) = true := by simp; omega
    have d2' : (ib.size : Int) < 2 := by omega
    have hcv := conv_sN (W := (((w.alloc (.cells #[.int .i64 a0, .string ib, .bool over, .slice A l.length cc, .bool o, .string tb, .int .u8 kind] 82)).alloc (.cells #[.int .i64 0, .string ⟨#[]⟩, .bool false, .slice none 0 0, .bool false, .string ⟨#[]⟩, .int .u8 0] 82)).alloc (.cells #[.int .u8 c] 5))) (B := w.heap.size + 3) (A := some ⟨w.heap.size + 1 + 1, 0, none⟩) [c] 1 (rd_of_block (cs := [.int .u8 c]) (heap_new_at (by simp)) (by omega)) (by intro x hx; simp at hx; omega) (by simp)
    simp only [List.length_cons, List.length_nil, Nat.zero_add] at hcv
    have hz1 : (sN [c]).size = 1 := sN_size [c]
    obtain ⟨sc, hsc⟩ : ∃ sc, sN [c] = sc := ⟨_, rfl⟩
    rw [hsc] at hcv hz1
    have hbc : bI sc = [c] := by rw [← hsc]; exact bI_sN [c] (by intro x hx; simp at hx; omega)
    have HBC := Lib.hid hbc
    clear hbc hsc
    show Calls Tryd.prog 98 #[.agg #[.int .i64 a0, .string ib, .bool over, .slice A l.length cc, .bool o, .string tb, .int .u8 kind], .int .u8 c, .int .i64 a] w _
    go_enter Tryd.func98, Tryd.ntmps98
    go_wp2
    have hb : Below w.heap.size w (((w.alloc (.cells #[.int .i64 a, .string (ib ++ sc), .bool over, .slice A l.length cc, .bool o, .string tb, .int .u8 kind] 82)).alloc (.cells #[.int .i64 a, .string (ib ++ sc), .bool over, .slice A l.length cc, .bool o, .string tb, .int .u8 kind] 82)).alloc (.cells #[.int .u8 c] 5)) := (((Below.refl _ _).alloc (Nat.le_refl _) _).alloc (by simp) _).alloc (by simp; omega) _
    have hf : collectF ⟨a0, inter, over, l, o, text, kind⟩ c a = ⟨a, inter ++ [c], over, l, o, text, kind⟩ := by unfold collectF; rw [if_pos h2]
    have hok := HV.out
    refine bodyPost_ret (v := .agg #[.int .i64 a, .string (ib ++ sc), .bool over, .slice A l.length cc, .bool o, .string tb, .int .u8 kind]) (by simp [results, Tryd.results98, go_sem]) rfl ?_
    rw [hf]
    exact ⟨⟨⟨a, inter ++ [c], over, l, o, text, kind⟩, ib ++ sc, tb, A, cc⟩, rfl, rfl, ⟨by rw [bI_app, HBC.out]; exact congrArg (· ++ [c]) hok.ib, hok.tb, hok.k⟩, .inl ⟨rfl, rfl, rfl⟩, hb⟩
  · have d2 : decide ((ib.size : Int) < 2) = false := by simp; omega
    have d2' : ¬ (ib.size : Int) < 2 := by omega
    show Calls Tryd.prog 98 #[.agg #[.int .i64 a0, .string ib, .bool over, .slice A l.length cc, .bool o, .string tb, .int .u8 kind], .int .u8 c, .int .i64 a] w _
    go_enter Tryd.func98, Tryd.ntmps98
    go_wp2
    have hb : Below w.heap.size w ((w.alloc (.cells #[.int .i64 a, .string ib, .bool true, .slice A l.length cc, .bool o, .string tb, .int .u8 kind] 82)).alloc (.cells #[.int .i64 a, .string ib, .bool true, .slice A l.length cc, .bool o, .string tb, .int .u8 kind] 82)) := ((Below.refl _ _).alloc (Nat.le_refl _) _).alloc (by simp) _
    have hf : collectF ⟨a0, inter, over, l, o, text, kind⟩ c a = ⟨a, inter, true, l, o, text, kind⟩ := by unfold collectF; rw [if_neg h2]
    have hok := HV.out
    refine bodyPost_ret (v := .agg #[.int .i64 a, .string ib, .bool true, .slice A l.length cc, .bool o, .string tb, .int .u8 kind]) (by simp [results, Tryd.results98, go_sem]) rfl ?_
    rw [hf]
    exact ⟨⟨⟨a, inter, true, l, o, text, kind⟩, ib, tb, A, cc⟩, rfl, rfl, ⟨hok.ib, hok.tb, hok.k⟩, .inl ⟨rfl, rfl, rfl⟩, hb⟩
set_option maxRecDepth 100000 in
set_option maxHeartbeats 1600000 in
theorem upper_any (u : Sv) (r : Int) (w : World) (h0 : 128 ≤ r) (h1 : r ≤ 159) : Calls Tryd.prog 85 #[.int .i64 r] w (StRet u w (upperF r).1 (upperF r).2) := by
  by_cases e0 : r = 144
  · subst e0
    go_enter Tryd.func85, Tryd.ntmps85
    go_wp2
    exact bodyPost_ret (v := .tuple #[.agg #[.int .i64 8, .string ⟨#[]⟩, .bool false, .slice none 0 0, .bool false, .string ⟨#[]⟩, .int .u8 0], .slice none 0 0]) (by simp [results, Tryd.results85, go_sem]) rfl ⟨svAt 8, none, 0, [], rfl, rfl, svAt_tx _, ParOk.nil _ _ _, Acts.nil _ _ _ _, Nat.le_refl _, (Below.refl _ _).alloc (Nat.le_refl _) _⟩
  by_cases e1 : r = 152
  · subst e1
    go_enter Tryd.func85, Tryd.ntmps85
    go_wp2
    exact bodyPost_ret (v := .tuple #[.agg #[.int .i64 9, .string ⟨#[]⟩, .bool false, .slice none 0 0, .bool false, .string ⟨#[]⟩, .int .u8 88], .slice none 0 0]) (by simp [results, Tryd.results85, go_sem]) rfl ⟨svSos 88, none, 0, [], rfl, rfl, svSos_tx _ (by omega), ParOk.nil _ _ _, Acts.nil _ _ _ _, Nat.le_refl _, (Below.refl _ _).alloc (Nat.le_refl _) _⟩
  by_cases e2 : r = 155
  · subst e2
    go_enter Tryd.func85, Tryd.ntmps85
    go_wp2
    exact bodyPost_ret (v := .tuple #[.agg #[.int .i64 3, .string ⟨#[]⟩, .bool false, .slice none 0 0, .bool false, .string ⟨#[]⟩, .int .u8 0], .slice none 0 0]) (by simp [results, Tryd.results85, go_sem]) rfl ⟨svAt 3, none, 0, [], rfl, rfl, svAt_tx _, ParOk.nil _ _ _, Acts.nil _ _ _ _, Nat.le_refl _, (Below.refl _ _).alloc (Nat.le_refl _) _⟩
  by_cases e3 : r = 156
  · subst e3
    go_enter Tryd.func85, Tryd.ntmps85
    go_wp2
    exact bodyPost_ret (v := .tuple #[.agg #[.int .i64 0, .string ⟨#[]⟩, .bool false, .slice none 0 0, .bool false, .string ⟨#[]⟩, .int .u8 0], .slice none 0 0]) (by simp [results, Tryd.results85, go_sem]) rfl ⟨sv0, none, 0, [], rfl, rfl, sv0_tx, ParOk.nil _ _ _, Acts.nil _ _ _ _, Nat.le_refl _, (Below.refl _ _).alloc (Nat.le_refl _) _⟩
  by_cases e4 : r = 157
  · subst e4
    go_enter Tryd.func85, Tryd.ntmps85
    go_wp2
    exact bodyPost_ret (v := .tuple #[.agg #[.int .i64 7, .string ⟨#[]⟩, .bool false, .slice none 0 0, .bool false, .string ⟨#[]⟩, .int .u8 0], .slice none 0 0]) (by simp [results, Tryd.results85, go_sem]) rfl ⟨svAt 7, none, 0, [], rfl, rfl, svAt_tx _, ParOk.nil _ _ _, Acts.nil _ _ _ _, Nat.le_refl _, (Below.refl _ _).alloc (Nat.le_refl _) _⟩
  by_cases e5 : r = 158
  · subst e5
    go_enter Tryd.func85, Tryd.ntmps85
    go_wp2
    exact bodyPost_ret (v := .tuple #[.agg #[.int .i64 9, .string ⟨#[]⟩, .bool false, .slice none 0 0, .bool false, .string ⟨#[]⟩, .int .u8 94], .slice none 0 0]) (by simp [results, Tryd.results85, go_sem]) rfl ⟨svSos 94, none, 0, [], rfl, rfl, svSos_tx _ (by omega), ParOk.nil _ _ _, Acts.nil _ _ _ _, Nat.le_refl _, (Below.refl _ _).alloc (Nat.le_refl _) _⟩
  by_cases e6 : r = 159
  · subst e6
    go_enter Tryd.func85, Tryd.ntmps85
    go_wp2
    exact bodyPost_ret (v := .tuple #[.agg #[.int .i64 9, .string ⟨#[]⟩, .bool false, .slice none 0 0, .bool false, .string ⟨#[]⟩, .int .u8 95], .slice none 0 0]) (by simp [results, Tryd.results85, go_sem]) rfl ⟨svSos 95, none, 0, [], rfl, rfl, svSos_tx _ (by omega), ParOk.nil _ _ _, Acts.nil _ _ _ _, Nat.le_refl _, (Below.refl _ _).alloc (Nat.le_refl _) _⟩
  have f0 : (r == 144) = false := beq_eq_false_iff_ne.2 e0
  have f1 : (r == 152) = false := beq_eq_false_iff_ne.2 e1
  have f2 : (r == 155) = false := beq_eq_false_iff_ne.2 e2
  have f3 : (r == 156) = false := beq_eq_false_iff_ne.2 e3
  have f4 : (r == 157) = false := beq_eq_false_iff_ne.2 e4
  have f5 : (r == 158) = false := beq_eq_false_iff_ne.2 e5
  have f6 : (r == 159) = false := beq_eq_false_iff_ne.2 e6
  have hu : upperF r = (st0, [axExec r]) := by unfold upperF; rw [if_neg e0, if_neg e1, if_neg e2, if_neg e3, if_neg e4, if_neg e5, if_neg e6]
  rw [hu]
  have hz : SAt (w.alloc (.cells #[.int .i64 0, .string ⟨#[]⟩, .bool false, .slice none 0 0, .bool false, .string ⟨#[]⟩, .int .u8 0] 82)) w.heap.size sv0 := heap_alloc_new w _
  have HZ := Lib.hid hz
  clear hu hz e0 e1 e2 e3 e4 e5 e6
  go_enter Tryd.func85, Tryd.ntmps85
  go_wp2_with fail
  refine (control_any u r _ (by omega) (by omega)).mono ?_
  rintro e w1 ⟨A, c, vs, rfl, ha, hc, hb⟩
  have hs := HZ.out.past hb
  have HS := Lib.hid hs; have HA := Lib.hid ha; have HB := Lib.hid hb
  obtain ⟨c0, c1, c2, c3, c4, c5, c6, g0, g1, g2, g3, g4, g5, g6⟩ := hs.cells
  simp only [sv0, st0] at c0 c1 c2 c3 c4 c5 c6
  clear hs ha hb
  go_wp2_with fail
  have hp : SAt (((((((w1.setCell ⟨w.heap.size, 0, none⟩ (.int .i64 0)).setCell ⟨w.heap.size, 1, none⟩ (.string ⟨#[]⟩)).setCell ⟨w.heap.size, 2, none⟩ (.bool false)).setCell ⟨w.heap.size, 3, none⟩ (.slice none 0 0)).setCell ⟨w.heap.size, 4, none⟩ (.bool false)).setCell ⟨w.heap.size, 5, none⟩ (.string ⟨#[]⟩)).setCell ⟨w.heap.size, 6, none⟩ (.int .u8 0)) w.heap.size sv0 := HS.out.put sv0
  have hbw : Below w.heap.size w (((((((w1.setCell ⟨w.heap.size, 0, none⟩ (.int .i64 0)).setCell ⟨w.heap.size, 1, none⟩ (.string ⟨#[]⟩)).setCell ⟨w.heap.size, 2, none⟩ (.bool false)).setCell ⟨w.heap.size, 3, none⟩ (.slice none 0 0)).setCell ⟨w.heap.size, 4, none⟩ (.bool false)).setCell ⟨w.heap.size, 5, none⟩ (.string ⟨#[]⟩)).setCell ⟨w.heap.size, 6, none⟩ (.int .u8 0)) := below_put7 (((Below.refl w.heap.size w).alloc (Nat.le_refl _) _).trans (HB.out.mono (by simp))) (Nat.le_refl _) sv0
  have ha7 : Acts u (w.heap.size + 1) (((((((w1.setCell ⟨w.heap.size, 0, none⟩ (.int .i64 0)).setCell ⟨w.heap.size, 1, none⟩ (.string ⟨#[]⟩)).setCell ⟨w.heap.size, 2, none⟩ (.bool false)).setCell ⟨w.heap.size, 3, none⟩ (.slice none 0 0)).setCell ⟨w.heap.size, 4, none⟩ (.bool false)).setCell ⟨w.heap.size, 5, none⟩ (.string ⟨#[]⟩)).setCell ⟨w.heap.size, 6, none⟩ (.int .u8 0)) A [axExec r] vs := (HA.out.less (by simp)).put7 w.heap.size (by omega) sv0
  generalize (((((((w1.setCell ⟨w.heap.size, 0, none⟩ (.int .i64 0)).setCell ⟨w.heap.size, 1, none⟩ (.string ⟨#[]⟩)).setCell ⟨w.heap.size, 2, none⟩ (.bool false)).setCell ⟨w.heap.size, 3, none⟩ (.slice none 0 0)).setCell ⟨w.heap.size, 4, none⟩ (.bool false)).setCell ⟨w.heap.size, 5, none⟩ (.string ⟨#[]⟩)).setCell ⟨w.heap.size, 6, none⟩ (.int .u8 0)) = W7 at hp hbw ha7 ⊢
  obtain ⟨d0, d1, d2, d3, d4, d5, d6, _⟩ := hp.cells
  simp only [sv0, st0] at d0 d1 d2 d3 d4 d5 d6
  exact bodyPost_ret (v := .tuple #[.agg #[.int .i64 0, .string ⟨#[]⟩, .bool false, .slice none 0 0, .bool false, .string ⟨#[]⟩, .int .u8 0], .slice A 1 c]) (by simp [results, Tryd.results85, go_sem, d0, d1, d2, d3, d4, d5, d6]) rfl ⟨sv0, A, c, vs, rfl, rfl, sv0_tx, ParOk.nil _ _ _, ha7.less (by omega), hc, hbw⟩
end Go.Proofs.YtcempbgbdlmjfaaDoor
