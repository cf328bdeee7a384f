/-
  params: the walks of Next and Sub.
-/
import Derived.Test.YtcempbgbdlmjfaaDoorPaC
import Derived.Deep.RegionLaw
namespace Go.Proofs.YtcempbgbdlmjfaaDoor
open Go.RowKit

/-- what is left behind once the box and the result hold what is handed back -/
theorem step_fin {w w2 : World} {B : Nat} {T e1 e0 : TypeId} {v : Value} {L : List (List Int)} {vs : List Value} {r0 r1 : Value} (OW : OwnLL w2 B e1 e0 v L vs) (hB : w.heap.size + 1 < B)
    (M1 : w2.heap[w.heap.size + 1]? = some (.cells #[r0, r1] T (0, 0))) (b2 : Below w.heap.size w w2) (b : Bool) :
    ((w2.setCell ⟨w.heap.size + 1, 0, none⟩ v).setCell ⟨w.heap.size + 1, 1, none⟩ (.bool b)).cell? ⟨w.heap.size + 1, 0, none⟩ = some v ∧ ((w2.setCell ⟨w.heap.size + 1, 0, none⟩ v).setCell ⟨w.heap.size + 1, 1, none⟩ (.bool b)).cell? ⟨w.heap.size + 1, 1, none⟩ = some (.bool b) ∧
      RdLL ((w2.setCell ⟨w.heap.size + 1, 0, none⟩ v).setCell ⟨w.heap.size + 1, 1, none⟩ (.bool b)) B ((w2.setCell ⟨w.heap.size + 1, 0, none⟩ v).setCell ⟨w.heap.size + 1, 1, none⟩ (.bool b)).heap.size v L ∧
      Below w.heap.size w ((w2.setCell ⟨w.heap.size + 1, 0, none⟩ v).setCell ⟨w.heap.size + 1, 1, none⟩ (.bool b)) :=
  ⟨bk_cell (bk_set (bk_set M1 0 v) 1 (.bool b)) 0 _ rfl, bk_cell (bk_set (bk_set M1 0 v) 1 (.bool b)) 1 _ rfl,
    ((OW.far (p := ⟨w.heap.size + 1, 0, none⟩) (by simp; omega) v).far (p := ⟨w.heap.size + 1, 1, none⟩) (by simp; omega) (.bool b)).rd, (b2.setCell (by simp) _).setCell (by simp) _⟩
/-- one row more, that holds one number and lies in a new block -/
theorem push_fin {w2 w4 : World} {base n : Nat} {e1 e0 : TypeId} {v v' : Value} {L : List (List Int)} {vs : List Value} {x : Int} {cs : Array Value} (OW : OwnLL w2 base e1 e0 v L vs) (hb : base ≤ w2.heap.size) (hn : w2.heap.size = n)
    (hg : ((w2.alloc (.cells #[.int .i64 x] e0)).alloc (.cells cs e1)).grownBy w4 v.ownBlock) (hv : w4.ownsRow base e1 1 v' (L.length + 1) (vs ++ [.slice (some ⟨n, 0, none⟩) 1 1]))
    (hl : ∀ k, v'.ownBlock = some k → v.ownBlock = some k ∨ n + 2 ≤ k) : OwnLL w4 base e1 e0 v' (L ++ [[x]]) (vs ++ [.slice (some ⟨n, 0, none⟩) 1 1]) := by
  subst hn
  have h1 : (w2.alloc (.cells #[.int .i64 x] e0)).ownsRow base e0 1 (.slice (some ⟨w2.heap.size, 0, none⟩) 1 1) 1 [.int .i64 x] := World.ownsRow_lit w2 #[.int .i64 x] 1 hb (by unfold maxLen; omega) rfl
  have hap : ∀ {u : Value} {m : Nat} {xs : List Value} {e : TypeId}, w2.ownsRow base e 1 u m xs → Apart u (.slice (some ⟨w2.heap.size, 0, none⟩) 1 1) := fun ho g hg e => by
    have := own_lt ho g hg
    simp [Value.ownBlock] at e
    omega
  refine ((OW.alloc _).alloc _).push [x] (h1.alloc _) (hap OW.outer) (fun j y hy => ?_) hg hv (fun k hk => ?_)
  · have hj : j < L.length := by have := (List.getElem?_eq_some_iff.1 hy).1; have := OW.len; omega
    obtain ⟨u, q1, q2, _⟩ := OW.inner j hj
    rw [hy] at q1
    injection q1 with q1
    subst q1
    exact (hap q2).symm
  · rcases hl k hk with h | h
    · exact .inl h
    · exact .inr (by simp; omega)

/-- the last row has been appended to, and is laid into its place -/
theorem sub_fin {w4 W w5 : World} {B : Nat} {e1 e0 : TypeId} {M : List (List Int)} {q : List Int} {x y : Int} {g c' gi ci g5 cap5 : Nat} {vs : List Value} (OB : OwnLL w4 B e1 e0 (.slice (some ⟨g, 0, none⟩) (M.length + 1) c') (M ++ [q ++ [x]]) vs)
    (hW : Below w4.heap.size w4 W) (HVS : vs[M.length]? = some (.slice (some ⟨gi, 0, none⟩) (q.length + 1) ci)) (hg : W.grownBy w5 (Value.slice (some ⟨gi, 0, none⟩) (q.length + 1) ci).ownBlock)
    (ho : w5.ownsRow B e0 1 (.slice (some ⟨g5, 0, none⟩) (q.length + 1 + 1) cap5) (q.length + 1 + 1) (nC (q ++ [x]) ++ [.int .i64 y])) (hl : (Value.slice (some ⟨gi, 0, none⟩) (q.length + 1) ci).ownBlock = some g5 ∨ W.heap.size ≤ g5) :
    OwnLL (w5.setCell ⟨g, M.length, none⟩ (.slice (some ⟨g5, 0, none⟩) (q.length + 1 + 1) cap5)) B e1 e0 (.slice (some ⟨g, 0, none⟩) (M.length + 1) c') (M ++ [(q ++ [x]) ++ [y]]) (vs.set M.length (.slice (some ⟨g5, 0, none⟩) (q.length + 1 + 1) cap5)) := by
  have e : (nC (q ++ [x]) ++ [.int .i64 y]) = nC ((q ++ [x]) ++ [y]) := by rw [nC_append (q ++ [x]) [y]]; rfl
  rw [e] at ho
  have h := (OB.below hW).grow_put M.length (by simp) _ (.slice (some ⟨g5, 0, none⟩) (q.length + 1 + 1) cap5) HVS hg ((q ++ [x]) ++ [y]) (by simpa using ho) (fun k hk => by
    simp only [Value.ownBlock, Option.some.injEq] at hk hl ⊢
    omega)
  have es : (M ++ [q ++ [x]]).set M.length (q ++ [x] ++ [y]) = M ++ [(q ++ [x]) ++ [y]] := by simp
  rw [es] at h
  exact h

set_option maxRecDepth 100000 in
set_option maxHeartbeats 1600000 in
theorem next_any {lo lo' : Nat} (L : List (List Int)) (o : Bool) (v : Value) (w : World) (hr : RdLL w lo w.heap.size v L) (hlo : lo' ≤ w.heap.size) :
    Calls Tryd.prog 42 #[.agg #[v, .bool o]] w (RetP w lo' (nextP ⟨L, o⟩)) := by
  obtain ⟨A, cv, rfl, hcap⟩ := rdLL_form hr
  have tn := two_new w (.cells #[.slice A L.length cv, .bool o] 59) (.cells #[.slice none 0 0, .bool false] 59)
  have TN := Lib.hid tn; clear tn
  have hr2 := (hr.nextA (.cells #[.slice A L.length cv, .bool o] 59)).nextA (.cells #[.slice none 0 0, .bool false] 59)
  have HR := Lib.hid hr; have HR2 := Lib.hid hr2; clear hr hr2
  have bl2 : ∀ w1 : World, Below ((w.alloc (.cells #[.slice A L.length cv, .bool o] 59)).alloc (.cells #[.slice none 0 0, .bool false] 59)).heap.size ((w.alloc (.cells #[.slice A L.length cv, .bool o] 59)).alloc (.cells #[.slice none 0 0, .bool false] 59)) w1 →
      w1.heap[w.heap.size]? = some (.cells #[.slice A L.length cv, .bool o] 59 (0, 0)) ∧ w1.heap[w.heap.size + 1]? = some (.cells #[.slice none 0 0, .bool false] 59 (0, 0)) ∧ Below w.heap.size w w1 ∧ RdLL w1 lo w1.heap.size (.slice A L.length cv) L :=
    fun _ h => ⟨bk_past TN.out.1 h (Nat.le_refl _), bk_past TN.out.2 h (Nat.le_refl _), bt (((Below.refl _ _).alloc (Nat.le_refl _) _).alloc (by simp) _) h (by simp; omega), HR2.out.next h⟩
  have BL2 := Lib.hid bl2; clear bl2
  cases hs : saneP ⟨L, o⟩ with
  | false =>
    have e1 : nextP ⟨L, o⟩ = ⟨[], false⟩ := by unfold nextP; rw [if_pos hs]
    rw [e1]
    have HS := Lib.hid hs; clear hs e1
    go_enter Tryd.func42, Tryd.ntmps42
    go_wp2_with (go_at_call 38; refine (sanep_any L o _ _ HR2.out).mono ?_; rintro e w1 ⟨rfl, hb1⟩; simp only [HS.out]; obtain ⟨n0, n1, b1, r1⟩ := BL2.out _ hb1; have N0 := Lib.hid n0; have N1 := Lib.hid n1; have R1 := Lib.hid r1; have f0 := bk_free n1 0; have f1 := bk_free n1 1; have q0 := bk_cell n1 0 _ rfl; have q1 := bk_cell n1 1 _ rfl; have x0 := bk_cell n0 0 _ rfl; have x1 := bk_cell n0 1 _ rfl; have y0 := bk_free n0 0; have y1 := bk_free n0 1; clear n0 n1 hb1 r1)
    have hres := bk_set (bk_set N1.out 0 (.slice none 0 0)) 1 (.bool false)
    have p0 := bk_cell hres 0 _ rfl
    have p1 := bk_cell hres 1 _ rfl
    exact bodyPost_ret (v := .agg #[.slice none 0 0, .bool false]) (by simp [results, Tryd.results42, go_sem, p0, p1]) rfl ⟨_, rfl, RdLL.nil _ _ _, (b1.setCell (by simp) _).setCell (by simp) _⟩
  | true =>
    obtain ⟨M, q, x, hM, hM16, hq6, hx0, hx1⟩ := begun_split hs
    have HSS := Lib.hid hs
    have hl : (M ++ [q ++ [x]]).length = M.length + 1 := by simp
    have HM := Lib.hid hM; have HL := Lib.hid hl
    by_cases h16 : M.length + 1 = 16
    · have e1 : nextP ⟨L, o⟩ = ⟨M ++ [q ++ [x]], false⟩ := by
        unfold nextP
        rw [if_neg (by rw [hs]; simp), if_pos (by rw [hM, hl]; exact h16), hM]
      rw [e1]
      have d1 : ((M.length : Int) + 1 == 16) = true := beq_iff_eq.2 (by omega)
      have HS := Lib.hid hs; have H16 := Lib.hid h16; clear hs e1 hM hl h16
      go_enter Tryd.func42, Tryd.ntmps42
      go_upto_region 4 with (first
        | (go_at_call 38; refine (sanep_any L o _ _ HR2.out).mono ?_; rintro e w1 ⟨rfl, hb1⟩; simp only [HS.out]; obtain ⟨n0, n1, b1, r1⟩ := BL2.out _ hb1; have N0 := Lib.hid n0; have N1 := Lib.hid n1; have R1 := Lib.hid r1; have f0 := bk_free n1 0; have f1 := bk_free n1 1; have q0 := bk_cell n1 0 _ rfl; have q1 := bk_cell n1 1 _ rfl; have x0 := bk_cell n0 0 _ rfl; have x1 := bk_cell n0 1 _ rfl; have y0 := bk_free n0 0; have y1 := bk_free n0 1; clear n0 n1 hb1 r1)
        | (go_at_call 70; refine (begun_any L o _ _ R1.out HSS.out).mono ?_; rintro e w2 ⟨A', c', vs', rfl, ho2, hb2⟩; simp only [HM.out, HL.out] at ho2 ⊢; obtain ⟨g, cap, gi, ci, hv, hcap, hbg, hgl, hvs, hci, hbi, hgil, hne, t0, t1, t2, t3⟩ := ho2.last; simp only [Value.slice.injEq, true_and] at hv; obtain ⟨rfl, rfl⟩ := hv; have n0 := bk_past N0.out hb2 (Nat.le_refl _); have n1 := bk_past N1.out hb2 (Nat.le_refl _); have M0 := Lib.hid n0; have M1 := Lib.hid n1; have b2 := bt b1 hb2 b1.size; have g0 := bk_free n1 0; have g1 := bk_free n1 1; have h0 := bk_free n0 0; have h1 := bk_free n0 1; have k0 := bk_cell n0 0 _ rfl; have k1 := bk_cell n0 1 _ rfl; have l0 := bk_cell n1 0 _ rfl; have l1 := bk_cell n1 1 _ rfl; have bx := bk_lt N1.out; have HVS := Lib.hid hvs; have BB := hb2.size; have OW := Lib.hid ho2; clear ho2 n0 n1 hb2 hvs))
      have OB := Lib.hid ((OW.out.far (p := ⟨w.heap.size, 0, none⟩) (by simp; omega) (.slice (some ⟨g, 0, none⟩) (M.length + 1) c')).far (p := ⟨w.heap.size, 1, none⟩) (by simp; omega) (.bool (begunP ⟨L, o⟩).o))
      have n4 : ((w2.setCell ⟨w.heap.size, 0, none⟩ (.slice (some ⟨g, 0, none⟩) (M.length + 1) c')).setCell ⟨w.heap.size, 1, none⟩ (.bool (begunP ⟨L, o⟩).o)).heap[w.heap.size]? = some (.cells #[(.slice (some ⟨g, 0, none⟩) (M.length + 1) c'), .bool (begunP ⟨L, o⟩).o] 59 (0, 0)) := bk_set (bk_set M0.out 0 _) 1 _
      have m4 := bk_far (bk_far M1.out (p := ⟨w.heap.size, 0, none⟩) (by simp) (.slice (some ⟨g, 0, none⟩) (M.length + 1) c')) (p := ⟨w.heap.size, 1, none⟩) (by simp) (.bool (begunP ⟨L, o⟩).o)
      have b4 := (b2.setCell (p := ⟨w.heap.size, 0, none⟩) (by simp) (.slice (some ⟨g, 0, none⟩) (M.length + 1) c')).setCell (p := ⟨w.heap.size, 1, none⟩) (by simp) (.bool (begunP ⟨L, o⟩).o)
      have u0 : ((w2.setCell ⟨w.heap.size, 0, none⟩ (.slice (some ⟨g, 0, none⟩) (M.length + 1) c')).setCell ⟨w.heap.size, 1, none⟩ (.bool (begunP ⟨L, o⟩).o)).cell? ⟨g, M.length, none⟩ = some (.slice (some ⟨gi, 0, none⟩) (q.length + 1) ci) := by
        rw [World.cell?_setCell_far, World.cell?_setCell_far]
        · exact t0
        · simp; omega
        · simp; omega
      have v0 : ((w2.setCell ⟨w.heap.size, 0, none⟩ (.slice (some ⟨g, 0, none⟩) (M.length + 1) c')).setCell ⟨w.heap.size, 1, none⟩ (.bool (begunP ⟨L, o⟩).o)).frozen? ⟨g, M.length, none⟩ = false := by simpa using t1
      have N4 := Lib.hid n4; have M4 := Lib.hid m4
      have z4 : w1.heap.size ≤ ((w2.setCell ⟨w.heap.size, 0, none⟩ (.slice (some ⟨g, 0, none⟩) (M.length + 1) c')).setCell ⟨w.heap.size, 1, none⟩ (.bool (begunP ⟨L, o⟩).o)).heap.size := by simpa using BB
      clear n4 m4 b2 g0 g1 h0 h1 k0 k1 l0 l1 t0 t1 t2 t3 OW
      generalize ((w2.setCell ⟨w.heap.size, 0, none⟩ (.slice (some ⟨g, 0, none⟩) (M.length + 1) c')).setCell ⟨w.heap.size, 1, none⟩ (.bool (begunP ⟨L, o⟩).o)) = w4 at *
      have i0 := bk_cell N4.out 0 _ rfl
      have i1 := bk_cell N4.out 1 _ rfl
      have j0 := bk_free N4.out 0
      have j1 := bk_free N4.out 1
      have f40 := bk_free M4.out 0
      have f41 := bk_free M4.out 1
      have c40 := bk_cell M4.out 0 _ rfl
      have c41 := bk_cell M4.out 1 _ rfl
      go_wp2
      obtain ⟨p0, p1, p2, p3⟩ := step_fin (OB.out.far (p := ⟨w.heap.size, 1, none⟩) (by simp; omega) (.bool false)) bx (bk_far M4.out (by simp) _) (b4.setCell (by simp) _) false
      exact bodyPost_ret (v := .agg #[(.slice (some ⟨g, 0, none⟩) (M.length + 1) c'), .bool false]) (by simp [results, Tryd.results42, go_sem, p0, p1]) rfl ⟨_, rfl, p2.less (by omega), p3⟩
    · have e1 : nextP ⟨L, o⟩ = ⟨(M ++ [q ++ [x]]) ++ [[-1]], true⟩ := by
        unfold nextP
        rw [if_neg (by rw [hs]; simp), if_neg (by rw [hM, hl]; exact h16), hM]
      rw [e1]
      have d1 : ((M.length : Int) + 1 == 16) = false := beq_eq_false_iff_ne.2 (by omega)
      have HS := Lib.hid hs; have H16 := Lib.hid h16; clear hs e1 hM hl h16
      go_enter Tryd.func42, Tryd.ntmps42
      go_wp2_with (first
        | (go_at_call 38; refine (sanep_any L o _ _ HR2.out).mono ?_; rintro e w1 ⟨rfl, hb1⟩; simp only [HS.out]; obtain ⟨n0, n1, b1, r1⟩ := BL2.out _ hb1; have N0 := Lib.hid n0; have N1 := Lib.hid n1; have R1 := Lib.hid r1; have f0 := bk_free n1 0; have f1 := bk_free n1 1; have q0 := bk_cell n1 0 _ rfl; have q1 := bk_cell n1 1 _ rfl; have x0 := bk_cell n0 0 _ rfl; have x1 := bk_cell n0 1 _ rfl; have y0 := bk_free n0 0; have y1 := bk_free n0 1; clear n0 n1 hb1 r1)
        | (go_at_call 70; refine (begun_any L o _ _ R1.out HSS.out).mono ?_; rintro e w2 ⟨A', c', vs', rfl, ho2, hb2⟩; simp only [HM.out, HL.out] at ho2 ⊢; obtain ⟨g, cap, gi, ci, hv, hcap, hbg, hgl, hvs, hci, hbi, hgil, hne, t0, t1, t2, t3⟩ := ho2.last; simp only [Value.slice.injEq, true_and] at hv; obtain ⟨rfl, rfl⟩ := hv; have n0 := bk_past N0.out hb2 (Nat.le_refl _); have n1 := bk_past N1.out hb2 (Nat.le_refl _); have M0 := Lib.hid n0; have M1 := Lib.hid n1; have b2 := bt b1 hb2 b1.size; have g0 := bk_free n1 0; have g1 := bk_free n1 1; have h0 := bk_free n0 0; have h1 := bk_free n0 1; have k0 := bk_cell n0 0 _ rfl; have k1 := bk_cell n0 1 _ rfl; have l0 := bk_cell n1 0 _ rfl; have l1 := bk_cell n1 1 _ rfl; have bx := bk_lt N1.out; have HVS := Lib.hid hvs; have BB := hb2.size; have OB := Lib.hid ((ho2.far (p := ⟨w.heap.size, 0, none⟩) (by simp; omega) (.slice (some ⟨g, 0, none⟩) (M.length + 1) c')).far (p := ⟨w.heap.size, 1, none⟩) (by simp; omega) (.bool (begunP ⟨L, o⟩).o)); have o3 := ((OB.out.alloc (.cells #[.int .i64 (-1)] 3)).alloc (.cells #[.slice (some ⟨w2.heap.size, 0, none⟩) 1 1] 47)).outer; rw [HL.out] at o3; have O3 := Lib.hid o3; clear o3; have B3 := Lib.hid (heap_alloc_new (((w2.setCell ⟨w.heap.size, 0, none⟩ (.slice (some ⟨g, 0, none⟩) (M.length + 1) c')).setCell ⟨w.heap.size, 1, none⟩ (.bool (begunP ⟨L, o⟩).o)).alloc (.cells #[.int .i64 (-1)] 3)) (.cells #[.slice (some ⟨w2.heap.size, 0, none⟩) 1 1] 47)); have OW := Lib.hid ho2; clear ho2 n0 n1 hb2 hvs)
        | (at_builtin; go_loud (refine wpList_push (by rfl) (.tmp 16) (.tmp 18) 42 el_row (by rfl) w1.heap.size _ (M.length + 1) vs' (by rfl) O3.out (w2.heap.size + 1) 1 [.slice (some ⟨w2.heap.size, 0, none⟩) 1 1] (by rfl) (by have := B3.out; simpa using this) rfl (by simp [Value.oneCell']) (by unfold maxLen; omega) (by omega) (by simp; omega) (w2.heap.size + 1 + 1) (by simp) ?_); intro g4 cap4 w4 ho4 hg4 hl4; have n4 : w4.heap[w.heap.size]? = some (.cells #[(.slice (some ⟨g, 0, none⟩) (M.length + 1) c'), .bool (begunP ⟨L, o⟩).o] 59 (0, 0)) := bk_grown (bk_alloc (bk_alloc (bk_set (bk_set M0.out 0 _) 1 _) _) _) hg4 (by simp [Value.ownBlock]; omega); have m4 := bk_grown (bk_alloc (bk_alloc (bk_far (bk_far M1.out (p := ⟨w.heap.size, 0, none⟩) (by simp) (.slice (some ⟨g, 0, none⟩) (M.length + 1) c')) (p := ⟨w.heap.size, 1, none⟩) (by simp) (.bool (begunP ⟨L, o⟩).o)) (.cells #[.int .i64 (-1)] 3)) (.cells #[.slice (some ⟨w2.heap.size, 0, none⟩) 1 1] 47)) hg4 (by simp [Value.ownBlock]; omega); have HG4 := Lib.hid hg4; have HO4 := Lib.hid ho4; have HL4 := Lib.hid hl4; have N4 := Lib.hid n4; have M4 := Lib.hid m4; have i0 := bk_cell n4 0 _ rfl; have i1 := bk_cell n4 1 _ rfl; have j0 := bk_free n4 0; have j1 := bk_free n4 1; have f40 := bk_free m4 0; have f41 := bk_free m4 1; have c40 := bk_cell m4 0 _ rfl; have c41 := bk_cell m4 1 _ rfl; clear hg4 ho4 hl4 n4 m4))
      have o4 := push_fin (n := w2.heap.size) OB.out (by simp; omega) (by simp) HG4.out (by rw [HL.out]; exact HO4.out) (fun k hk => by
        simp only [Value.ownBlock, Option.some.injEq] at hk ⊢
        have := HL4.out
        simp only [Value.ownBlock, Option.some.injEq] at this
        omega)
      have b4 : Below w.heap.size w w4 := (((b2.setCell (p := ⟨w.heap.size, 0, none⟩) (by simp) (.slice (some ⟨g, 0, none⟩) (M.length + 1) c')).setCell (p := ⟨w.heap.size, 1, none⟩) (by simp) (.bool (begunP ⟨L, o⟩).o)).alloc (by simp; omega) _).alloc (by simp; omega) _ |>.trans (below_of_grown HG4.out (by simp; omega) (by simp [Value.ownBlock]; omega))
      obtain ⟨p0, p1, p2, p3⟩ := step_fin ((o4.far (p := ⟨w.heap.size, 0, none⟩) (by simp; omega) (.slice (some ⟨g4, 0, none⟩) (M.length + 1 + 1) cap4)).far (p := ⟨w.heap.size, 1, none⟩) (by simp; omega) (.bool true)) bx (bk_far (bk_far M4.out (by simp) _) (by simp) _) ((b4.setCell (by simp) _).setCell (by simp) _) true
      exact bodyPost_ret (v := .agg #[.slice (some ⟨g4, 0, none⟩) (M.length + 1 + 1) cap4, .bool true]) (by simp [results, Tryd.results42, go_sem, p0, p1]) rfl ⟨_, rfl, p2.less (by omega), p3⟩
set_option maxRecDepth 100000 in
set_option maxHeartbeats 1600000 in
theorem sub_any {lo lo' : Nat} (L : List (List Int)) (o : Bool) (v : Value) (w : World) (hr : RdLL w lo w.heap.size v L) (hlo : lo' ≤ w.heap.size) :
    Calls Tryd.prog 43 #[.agg #[v, .bool o]] w (RetP w lo' (subP ⟨L, o⟩)) := by
  obtain ⟨A, cv, rfl, hcap⟩ := rdLL_form hr
  have tn := two_new w (.cells #[.slice A L.length cv, .bool o] 59) (.cells #[.slice none 0 0, .bool false] 59)
  have TN := Lib.hid tn; clear tn
  have hr2 := (hr.nextA (.cells #[.slice A L.length cv, .bool o] 59)).nextA (.cells #[.slice none 0 0, .bool false] 59)
  have HR := Lib.hid hr; have HR2 := Lib.hid hr2; clear hr hr2
  have bl2 : ∀ w1 : World, Below ((w.alloc (.cells #[.slice A L.length cv, .bool o] 59)).alloc (.cells #[.slice none 0 0, .bool false] 59)).heap.size ((w.alloc (.cells #[.slice A L.length cv, .bool o] 59)).alloc (.cells #[.slice none 0 0, .bool false] 59)) w1 →
      w1.heap[w.heap.size]? = some (.cells #[.slice A L.length cv, .bool o] 59 (0, 0)) ∧ w1.heap[w.heap.size + 1]? = some (.cells #[.slice none 0 0, .bool false] 59 (0, 0)) ∧ Below w.heap.size w w1 ∧ RdLL w1 lo w1.heap.size (.slice A L.length cv) L :=
    fun _ h => ⟨bk_past TN.out.1 h (Nat.le_refl _), bk_past TN.out.2 h (Nat.le_refl _), bt (((Below.refl _ _).alloc (Nat.le_refl _) _).alloc (by simp) _) h (by simp; omega), HR2.out.next h⟩
  have BL2 := Lib.hid bl2; clear bl2
  cases hs : saneP ⟨L, o⟩ with
  | false =>
    have e1 : subP ⟨L, o⟩ = ⟨[], false⟩ := by unfold subP; rw [if_pos hs]
    rw [e1]
    have HS := Lib.hid hs; clear hs e1
    go_enter Tryd.func43, Tryd.ntmps43
    go_wp2_with (go_at_call 38; refine (sanep_any L o _ _ HR2.out).mono ?_; rintro e w1 ⟨rfl, hb1⟩; simp only [HS.out]; obtain ⟨n0, n1, b1, r1⟩ := BL2.out _ hb1; have N0 := Lib.hid n0; have N1 := Lib.hid n1; have R1 := Lib.hid r1; have f0 := bk_free n1 0; have f1 := bk_free n1 1; have q0 := bk_cell n1 0 _ rfl; have q1 := bk_cell n1 1 _ rfl; have x0 := bk_cell n0 0 _ rfl; have x1 := bk_cell n0 1 _ rfl; have y0 := bk_free n0 0; have y1 := bk_free n0 1; clear n0 n1 hb1 r1)
    have hres := bk_set (bk_set N1.out 0 (.slice none 0 0)) 1 (.bool false)
    have p0 := bk_cell hres 0 _ rfl
    have p1 := bk_cell hres 1 _ rfl
    exact bodyPost_ret (v := .agg #[.slice none 0 0, .bool false]) (by simp [results, Tryd.results43, go_sem, p0, p1]) rfl ⟨_, rfl, RdLL.nil _ _ _, (b1.setCell (by simp) _).setCell (by simp) _⟩
  | true =>
    obtain ⟨M, q, x, hM, hM16, hq6, hx0, hx1⟩ := begun_split hs
    have HSS := Lib.hid hs
    have hl : (M ++ [q ++ [x]]).length = M.length + 1 := by simp
    have HM := Lib.hid hM; have HL := Lib.hid hl
    cases ho : (begunP ⟨L, o⟩).o with
    | false =>
      have e1 : subP ⟨L, o⟩ = ⟨M ++ [q ++ [x]], false⟩ := by
        unfold subP
        rw [if_neg (by rw [hs]; simp), if_pos (.inl ho), hM]
      rw [e1]
      have HS := Lib.hid hs; have HO := Lib.hid ho; clear hs e1 hM hl ho
      go_enter Tryd.func43, Tryd.ntmps43
      go_upto_region 4 with (first
        | (go_at_call 38; refine (sanep_any L o _ _ HR2.out).mono ?_; rintro e w1 ⟨rfl, hb1⟩; simp only [HS.out]; obtain ⟨n0, n1, b1, r1⟩ := BL2.out _ hb1; have N0 := Lib.hid n0; have N1 := Lib.hid n1; have R1 := Lib.hid r1; have f0 := bk_free n1 0; have f1 := bk_free n1 1; have q0 := bk_cell n1 0 _ rfl; have q1 := bk_cell n1 1 _ rfl; have x0 := bk_cell n0 0 _ rfl; have x1 := bk_cell n0 1 _ rfl; have y0 := bk_free n0 0; have y1 := bk_free n0 1; clear n0 n1 hb1 r1)
        | (go_at_call 70; refine (begun_any L o _ _ R1.out HSS.out).mono ?_; rintro e w2 ⟨A', c', vs', rfl, ho2, hb2⟩; simp only [HM.out, HL.out] at ho2 ⊢; obtain ⟨g, cap, gi, ci, hv, hcap, hbg, hgl, hvs, hci, hbi, hgil, hne, t0, t1, t2, t3⟩ := ho2.last; simp only [Value.slice.injEq, true_and] at hv; obtain ⟨rfl, rfl⟩ := hv; have n0 := bk_past N0.out hb2 (Nat.le_refl _); have n1 := bk_past N1.out hb2 (Nat.le_refl _); have M0 := Lib.hid n0; have M1 := Lib.hid n1; have b2 := bt b1 hb2 b1.size; have g0 := bk_free n1 0; have g1 := bk_free n1 1; have h0 := bk_free n0 0; have h1 := bk_free n0 1; have k0 := bk_cell n0 0 _ rfl; have k1 := bk_cell n0 1 _ rfl; have l0 := bk_cell n1 0 _ rfl; have l1 := bk_cell n1 1 _ rfl; have bx := bk_lt N1.out; have HVS := Lib.hid hvs; have BB := hb2.size; simp only [HO.out]; have OW := Lib.hid ho2; clear ho2 n0 n1 hb2 hvs))
      have OB := Lib.hid ((OW.out.far (p := ⟨w.heap.size, 0, none⟩) (by simp; omega) (.slice (some ⟨g, 0, none⟩) (M.length + 1) c')).far (p := ⟨w.heap.size, 1, none⟩) (by simp; omega) (.bool false))
      have n4 : ((w2.setCell ⟨w.heap.size, 0, none⟩ (.slice (some ⟨g, 0, none⟩) (M.length + 1) c')).setCell ⟨w.heap.size, 1, none⟩ (.bool false)).heap[w.heap.size]? = some (.cells #[(.slice (some ⟨g, 0, none⟩) (M.length + 1) c'), .bool false] 59 (0, 0)) := bk_set (bk_set M0.out 0 _) 1 _
      have m4 := bk_far (bk_far M1.out (p := ⟨w.heap.size, 0, none⟩) (by simp) (.slice (some ⟨g, 0, none⟩) (M.length + 1) c')) (p := ⟨w.heap.size, 1, none⟩) (by simp) (.bool false)
      have b4 := (b2.setCell (p := ⟨w.heap.size, 0, none⟩) (by simp) (.slice (some ⟨g, 0, none⟩) (M.length + 1) c')).setCell (p := ⟨w.heap.size, 1, none⟩) (by simp) (.bool false)
      have u0 : ((w2.setCell ⟨w.heap.size, 0, none⟩ (.slice (some ⟨g, 0, none⟩) (M.length + 1) c')).setCell ⟨w.heap.size, 1, none⟩ (.bool false)).cell? ⟨g, M.length, none⟩ = some (.slice (some ⟨gi, 0, none⟩) (q.length + 1) ci) := by
        rw [World.cell?_setCell_far, World.cell?_setCell_far]
        · exact t0
        · simp; omega
        · simp; omega
      have v0 : ((w2.setCell ⟨w.heap.size, 0, none⟩ (.slice (some ⟨g, 0, none⟩) (M.length + 1) c')).setCell ⟨w.heap.size, 1, none⟩ (.bool false)).frozen? ⟨g, M.length, none⟩ = false := by simpa using t1
      have N4 := Lib.hid n4; have M4 := Lib.hid m4
      have z4 : w1.heap.size ≤ ((w2.setCell ⟨w.heap.size, 0, none⟩ (.slice (some ⟨g, 0, none⟩) (M.length + 1) c')).setCell ⟨w.heap.size, 1, none⟩ (.bool false)).heap.size := by simpa using BB
      clear n4 m4 b2 g0 g1 h0 h1 k0 k1 l0 l1 t0 t1 t2 t3 OW
      generalize ((w2.setCell ⟨w.heap.size, 0, none⟩ (.slice (some ⟨g, 0, none⟩) (M.length + 1) c')).setCell ⟨w.heap.size, 1, none⟩ (.bool false)) = w4 at *
      have i0 := bk_cell N4.out 0 _ rfl
      have i1 := bk_cell N4.out 1 _ rfl
      have j0 := bk_free N4.out 0
      have j1 := bk_free N4.out 1
      have f40 := bk_free M4.out 0
      have f41 := bk_free M4.out 1
      have c40 := bk_cell M4.out 0 _ rfl
      have c41 := bk_cell M4.out 1 _ rfl
      go_wp2
      obtain ⟨p0, p1, p2, p3⟩ := step_fin (OB.out.far (p := ⟨w.heap.size, 1, none⟩) (by simp; omega) (.bool false)) bx (bk_far M4.out (by simp) _) (b4.setCell (by simp) _) false
      exact bodyPost_ret (v := .agg #[(.slice (some ⟨g, 0, none⟩) (M.length + 1) c'), .bool false]) (by simp [results, Tryd.results43, go_sem, p0, p1]) rfl ⟨_, rfl, p2.less (by omega), p3⟩
    | true =>
      by_cases h6 : 6 ≤ q.length + 1
      · skip
        have e1 : subP ⟨L, o⟩ = ⟨M ++ [q ++ [x]], false⟩ := by
          unfold subP
          rw [if_neg (by rw [hs]; simp), if_pos (.inr (by simp only [lastL, hM, List.getLastD_concat]; simp; omega)), hM]
        rw [e1]
        have d1 : decide ((6 : Int) ≤ (q.length : Int) + 1) = true := by simp; omega
        clear h6
        have HS := Lib.hid hs; have HO := Lib.hid ho; clear hs e1 hM hl ho
        go_enter Tryd.func43, Tryd.ntmps43
        go_upto_region 4 with (first
          | (go_at_call 38; refine (sanep_any L o _ _ HR2.out).mono ?_; rintro e w1 ⟨rfl, hb1⟩; simp only [HS.out]; obtain ⟨n0, n1, b1, r1⟩ := BL2.out _ hb1; have N0 := Lib.hid n0; have N1 := Lib.hid n1; have R1 := Lib.hid r1; have f0 := bk_free n1 0; have f1 := bk_free n1 1; have q0 := bk_cell n1 0 _ rfl; have q1 := bk_cell n1 1 _ rfl; have x0 := bk_cell n0 0 _ rfl; have x1 := bk_cell n0 1 _ rfl; have y0 := bk_free n0 0; have y1 := bk_free n0 1; clear n0 n1 hb1 r1)
          | (go_at_call 70; refine (begun_any L o _ _ R1.out HSS.out).mono ?_; rintro e w2 ⟨A', c', vs', rfl, ho2, hb2⟩; simp only [HM.out, HL.out] at ho2 ⊢; obtain ⟨g, cap, gi, ci, hv, hcap, hbg, hgl, hvs, hci, hbi, hgil, hne, t0, t1, t2, t3⟩ := ho2.last; simp only [Value.slice.injEq, true_and] at hv; obtain ⟨rfl, rfl⟩ := hv; have n0 := bk_past N0.out hb2 (Nat.le_refl _); have n1 := bk_past N1.out hb2 (Nat.le_refl _); have M0 := Lib.hid n0; have M1 := Lib.hid n1; have b2 := bt b1 hb2 b1.size; have g0 := bk_free n1 0; have g1 := bk_free n1 1; have h0 := bk_free n0 0; have h1 := bk_free n0 1; have k0 := bk_cell n0 0 _ rfl; have k1 := bk_cell n0 1 _ rfl; have l0 := bk_cell n1 0 _ rfl; have l1 := bk_cell n1 1 _ rfl; have bx := bk_lt N1.out; have HVS := Lib.hid hvs; have BB := hb2.size; simp only [HO.out]; have OW := Lib.hid ho2; clear ho2 n0 n1 hb2 hvs))
        have OB := Lib.hid ((OW.out.far (p := ⟨w.heap.size, 0, none⟩) (by simp; omega) (.slice (some ⟨g, 0, none⟩) (M.length + 1) c')).far (p := ⟨w.heap.size, 1, none⟩) (by simp; omega) (.bool true))
        have n4 : ((w2.setCell ⟨w.heap.size, 0, none⟩ (.slice (some ⟨g, 0, none⟩) (M.length + 1) c')).setCell ⟨w.heap.size, 1, none⟩ (.bool true)).heap[w.heap.size]? = some (.cells #[(.slice (some ⟨g, 0, none⟩) (M.length + 1) c'), .bool true] 59 (0, 0)) := bk_set (bk_set M0.out 0 _) 1 _
        have m4 := bk_far (bk_far M1.out (p := ⟨w.heap.size, 0, none⟩) (by simp) (.slice (some ⟨g, 0, none⟩) (M.length + 1) c')) (p := ⟨w.heap.size, 1, none⟩) (by simp) (.bool true)
        have b4 := (b2.setCell (p := ⟨w.heap.size, 0, none⟩) (by simp) (.slice (some ⟨g, 0, none⟩) (M.length + 1) c')).setCell (p := ⟨w.heap.size, 1, none⟩) (by simp) (.bool true)
        have u0 : ((w2.setCell ⟨w.heap.size, 0, none⟩ (.slice (some ⟨g, 0, none⟩) (M.length + 1) c')).setCell ⟨w.heap.size, 1, none⟩ (.bool true)).cell? ⟨g, M.length, none⟩ = some (.slice (some ⟨gi, 0, none⟩) (q.length + 1) ci) := by
          rw [World.cell?_setCell_far, World.cell?_setCell_far]
          · exact t0
          · simp; omega
          · simp; omega
        have v0 : ((w2.setCell ⟨w.heap.size, 0, none⟩ (.slice (some ⟨g, 0, none⟩) (M.length + 1) c')).setCell ⟨w.heap.size, 1, none⟩ (.bool true)).frozen? ⟨g, M.length, none⟩ = false := by simpa using t1
        have N4 := Lib.hid n4; have M4 := Lib.hid m4
        have z4 : w1.heap.size ≤ ((w2.setCell ⟨w.heap.size, 0, none⟩ (.slice (some ⟨g, 0, none⟩) (M.length + 1) c')).setCell ⟨w.heap.size, 1, none⟩ (.bool true)).heap.size := by simpa using BB
        clear n4 m4 b2 g0 g1 h0 h1 k0 k1 l0 l1 t0 t1 t2 t3 OW
        generalize ((w2.setCell ⟨w.heap.size, 0, none⟩ (.slice (some ⟨g, 0, none⟩) (M.length + 1) c')).setCell ⟨w.heap.size, 1, none⟩ (.bool true)) = w4 at *
        have i0 := bk_cell N4.out 0 _ rfl
        have i1 := bk_cell N4.out 1 _ rfl
        have j0 := bk_free N4.out 0
        have j1 := bk_free N4.out 1
        have f40 := bk_free M4.out 0
        have f41 := bk_free M4.out 1
        have c40 := bk_cell M4.out 0 _ rfl
        have c41 := bk_cell M4.out 1 _ rfl
        go_wp2
        obtain ⟨p0, p1, p2, p3⟩ := step_fin (OB.out.far (p := ⟨w.heap.size, 1, none⟩) (by simp; omega) (.bool false)) bx (bk_far M4.out (by simp) _) (b4.setCell (by simp) _) false
        exact bodyPost_ret (v := .agg #[(.slice (some ⟨g, 0, none⟩) (M.length + 1) c'), .bool false]) (by simp [results, Tryd.results43, go_sem, p0, p1]) rfl ⟨_, rfl, p2.less (by omega), p3⟩
      · have e1 : subP ⟨L, o⟩ = ⟨M ++ [(q ++ [x]) ++ [-1]], true⟩ := by
          unfold subP
          rw [if_neg (by rw [hs]; simp), if_neg (by simp only [lastL, hM, ho, List.getLastD_concat]; simp; omega)]
          simp only [lastL, hM, setLast, List.getLastD_concat, List.dropLast_concat]
        rw [e1]
        have d1 : decide ((6 : Int) ≤ (q.length : Int) + 1) = false := by simp; omega
        clear h6
        have HS := Lib.hid hs; have HO := Lib.hid ho; clear hs e1 hM hl ho
        go_enter Tryd.func43, Tryd.ntmps43
        go_upto_region 4 with (first
          | (go_at_call 38; refine (sanep_any L o _ _ HR2.out).mono ?_; rintro e w1 ⟨rfl, hb1⟩; simp only [HS.out]; obtain ⟨n0, n1, b1, r1⟩ := BL2.out _ hb1; have N0 := Lib.hid n0; have N1 := Lib.hid n1; have R1 := Lib.hid r1; have f0 := bk_free n1 0; have f1 := bk_free n1 1; have q0 := bk_cell n1 0 _ rfl; have q1 := bk_cell n1 1 _ rfl; have x0 := bk_cell n0 0 _ rfl; have x1 := bk_cell n0 1 _ rfl; have y0 := bk_free n0 0; have y1 := bk_free n0 1; clear n0 n1 hb1 r1)
          | (go_at_call 70; refine (begun_any L o _ _ R1.out HSS.out).mono ?_; rintro e w2 ⟨A', c', vs', rfl, ho2, hb2⟩; simp only [HM.out, HL.out] at ho2 ⊢; obtain ⟨g, cap, gi, ci, hv, hcap, hbg, hgl, hvs, hci, hbi, hgil, hne, t0, t1, t2, t3⟩ := ho2.last; simp only [Value.slice.injEq, true_and] at hv; obtain ⟨rfl, rfl⟩ := hv; have n0 := bk_past N0.out hb2 (Nat.le_refl _); have n1 := bk_past N1.out hb2 (Nat.le_refl _); have M0 := Lib.hid n0; have M1 := Lib.hid n1; have b2 := bt b1 hb2 b1.size; have g0 := bk_free n1 0; have g1 := bk_free n1 1; have h0 := bk_free n0 0; have h1 := bk_free n0 1; have k0 := bk_cell n0 0 _ rfl; have k1 := bk_cell n0 1 _ rfl; have l0 := bk_cell n1 0 _ rfl; have l1 := bk_cell n1 1 _ rfl; have bx := bk_lt N1.out; have HVS := Lib.hid hvs; have BB := hb2.size; simp only [HO.out]; have OW := Lib.hid ho2; clear ho2 n0 n1 hb2 hvs))
        have OB := Lib.hid ((OW.out.far (p := ⟨w.heap.size, 0, none⟩) (by simp; omega) (.slice (some ⟨g, 0, none⟩) (M.length + 1) c')).far (p := ⟨w.heap.size, 1, none⟩) (by simp; omega) (.bool true))
        have n4 : ((w2.setCell ⟨w.heap.size, 0, none⟩ (.slice (some ⟨g, 0, none⟩) (M.length + 1) c')).setCell ⟨w.heap.size, 1, none⟩ (.bool true)).heap[w.heap.size]? = some (.cells #[(.slice (some ⟨g, 0, none⟩) (M.length + 1) c'), .bool true] 59 (0, 0)) := bk_set (bk_set M0.out 0 _) 1 _
        have m4 := bk_far (bk_far M1.out (p := ⟨w.heap.size, 0, none⟩) (by simp) (.slice (some ⟨g, 0, none⟩) (M.length + 1) c')) (p := ⟨w.heap.size, 1, none⟩) (by simp) (.bool true)
        have b4 := (b2.setCell (p := ⟨w.heap.size, 0, none⟩) (by simp) (.slice (some ⟨g, 0, none⟩) (M.length + 1) c')).setCell (p := ⟨w.heap.size, 1, none⟩) (by simp) (.bool true)
        have u0 : ((w2.setCell ⟨w.heap.size, 0, none⟩ (.slice (some ⟨g, 0, none⟩) (M.length + 1) c')).setCell ⟨w.heap.size, 1, none⟩ (.bool true)).cell? ⟨g, M.length, none⟩ = some (.slice (some ⟨gi, 0, none⟩) (q.length + 1) ci) := by
          rw [World.cell?_setCell_far, World.cell?_setCell_far]
          · exact t0
          · simp; omega
          · simp; omega
        have v0 : ((w2.setCell ⟨w.heap.size, 0, none⟩ (.slice (some ⟨g, 0, none⟩) (M.length + 1) c')).setCell ⟨w.heap.size, 1, none⟩ (.bool true)).frozen? ⟨g, M.length, none⟩ = false := by simpa using t1
        have N4 := Lib.hid n4; have M4 := Lib.hid m4
        have z4 : w1.heap.size ≤ ((w2.setCell ⟨w.heap.size, 0, none⟩ (.slice (some ⟨g, 0, none⟩) (M.length + 1) c')).setCell ⟨w.heap.size, 1, none⟩ (.bool true)).heap.size := by simpa using BB
        clear n4 m4 b2 g0 g1 h0 h1 k0 k1 l0 l1 t0 t1 t2 t3 OW
        generalize ((w2.setCell ⟨w.heap.size, 0, none⟩ (.slice (some ⟨g, 0, none⟩) (M.length + 1) c')).setCell ⟨w.heap.size, 1, none⟩ (.bool true)) = w4 at *
        have i0 := bk_cell N4.out 0 _ rfl
        have i1 := bk_cell N4.out 1 _ rfl
        have j0 := bk_free N4.out 0
        have j1 := bk_free N4.out 1
        have f40 := bk_free M4.out 0
        have f41 := bk_free M4.out 1
        have c40 := bk_cell M4.out 0 _ rfl
        have c41 := bk_cell M4.out 1 _ rfl
        have oi : ∀ W : World, Below w4.heap.size w4 W → W.ownsRow w1.heap.size 3 1 (.slice (some ⟨gi, 0, none⟩) (q.length + 1) ci) (q.length + 1) (nC (q ++ [x])) := fun W hW => by
          obtain ⟨uu, k1, k2, _⟩ := (OB.out.below hW).inner M.length (by simp)
          rw [HVS.out] at k1
          injection k1 with k1
          subst k1
          simpa using k2
        have OI := Lib.hid oi; clear oi
        have ow : ∀ W : World, Below w4.heap.size w4 W → g < W.heap.size ∧ W.frozen? ⟨g, M.length, none⟩ = false ∧ W.cell? ⟨g, M.length, none⟩ = some (.slice (some ⟨gi, 0, none⟩) (q.length + 1) ci) ∧
            W.heap[w.heap.size]? = some (.cells #[(.slice (some ⟨g, 0, none⟩) (M.length + 1) c'), .bool true] 59 (0, 0)) ∧ W.heap[w.heap.size + 1]? = some (.cells #[.slice none 0 0, .bool false] 59 (0, 0)) := fun W hW =>
          ⟨Nat.lt_of_lt_of_le (World.block_lt_of_cell? w4 _ u0) hW.size, past_frozen hW (World.block_lt_of_cell? w4 _ u0) v0, past_B hW (World.block_lt_of_cell? w4 _ u0) u0, bk_past N4.out hW (Nat.le_refl _), bk_past M4.out hW (Nat.le_refl _)⟩
        have OWW := Lib.hid ow; clear ow
        have j2 : (0 : Int) ≤ (M.length : Int) := by omega
        have j3 : (M.length : Int) < (M.length : Int) + 1 := by omega
        have x5 := (World.cell?_alloc_lt w4 (.cells #[.int .i64 (-1)] 3) _ (World.block_lt_of_cell? w4 _ u0)).trans u0
        have x6 := (World.cell?_alloc_lt w4 (.cells #[.int .i64 (-1)] 3) _ (World.block_lt_of_cell? w4 _ i0)).trans i0
        have x7 := (World.cell?_alloc_lt w4 (.cells #[.int .i64 (-1)] 3) _ (World.block_lt_of_cell? w4 _ i1)).trans i1
        go_upto_region 8 with (fail)
        go_region_law
          ((refine step_push (by rfl) _ _ _ el_num (by rfl) w1.heap.size _ (q.length + 1) (nC (q ++ [x])) (by rfl) (OI.out _ (by first | exact ((Below.refl w4.heap.size w4).alloc (Nat.le_refl _) _).drew | exact ((Below.refl w4.heap.size w4).drew.alloc (Nat.le_refl _) _))) w4.heap.size 1 [.int .i64 (-1)] (by rfl) (heap_alloc_new w4 _) rfl (by simp [Value.oneCell']) (by unfold maxLen; omega) (by omega) (by simp; omega) (w4.heap.size + 1) (by simp) ?_; intro g5 cap5 w5 ho5 hg5 hl5; obtain ⟨o1, o2, o3, o4, o5⟩ := OWW.out _ (((Below.refl w4.heap.size w4).alloc (Nat.le_refl _) (.cells #[.int .i64 (-1)] 3)).drew); have v5 := grown_free hg5 (p := ⟨g, M.length, none⟩) (by simp [Value.ownBlock]; omega) o1 o2; have c5 := past_grown hg5 (p := ⟨g, M.length, none⟩) (by simp [Value.ownBlock]; omega) o3; have n5 := bk_grown o4 hg5 (by simp [Value.ownBlock]; omega); have m5 := bk_grown o5 hg5 (by simp [Value.ownBlock]; omega); have d5 := bk_cell n5 0 _ rfl; have d6 := bk_cell n5 1 _ rfl; have HG5 := Lib.hid hg5; have HO5 := Lib.hid ho5; have HL5 := Lib.hid hl5; have N5 := Lib.hid n5; have M5 := Lib.hid m5; clear hl5 ho5 n5 m5 o1 o2 o3 o4 o5))
        all_goals
          have b5 : Below w.heap.size w w5 := (b4.alloc b4.size (.cells #[.int .i64 (-1)] 3)).drew.trans (below_of_grown HG5.out (by simp; omega) (by simp [Value.ownBlock]; omega))
          have o6 := sub_fin OB.out ((Below.refl w4.heap.size w4).alloc (Nat.le_refl _) (.cells #[.int .i64 (-1)] 3)).drew HVS.out HG5.out HO5.out (by
            rcases HL5.out with h | h
            · exact .inl h
            · exact .inr (by simp; omega))
          have b6 := b5.setCell (p := ⟨g, M.length, none⟩) (by simp; omega) (.slice (some ⟨g5, 0, none⟩) (q.length + 1 + 1) cap5)
          have n6 := bk_far N5.out (p := ⟨g, M.length, none⟩) (by simp; omega) (.slice (some ⟨g5, 0, none⟩) (q.length + 1 + 1) cap5)
          have m6 := bk_far M5.out (p := ⟨g, M.length, none⟩) (by simp; omega) (.slice (some ⟨g5, 0, none⟩) (q.length + 1 + 1) cap5)
          have O6 := Lib.hid o6; have N6 := Lib.hid n6; have M6 := Lib.hid m6
          clear o6 n6 m6 d5 d6 c5 v5 x5 x6 x7 HG5 HO5 HL5 N5 M5 b5
          generalize (w5.setCell ⟨g, M.length, none⟩ (.slice (some ⟨g5, 0, none⟩) (q.length + 1 + 1) cap5)) = w6 at *
          have a0 := bk_cell N6.out 0 _ rfl
          have a1 := bk_cell N6.out 1 _ rfl
          have f60 := bk_free M6.out 0
          have f61 := bk_free M6.out 1
          have c60 := bk_cell M6.out 0 _ rfl
          have c61 := bk_cell M6.out 1 _ rfl
          go_wp2
          obtain ⟨p0, p1, p2, p3⟩ := step_fin O6.out bx M6.out b6 true
          exact bodyPost_ret (v := .agg #[(.slice (some ⟨g, 0, none⟩) (M.length + 1) c'), .bool true]) (by simp [results, Tryd.results43, go_sem, p0, p1]) rfl ⟨_, rfl, p2.less (by omega), p3⟩
end Go.Proofs.YtcempbgbdlmjfaaDoor
