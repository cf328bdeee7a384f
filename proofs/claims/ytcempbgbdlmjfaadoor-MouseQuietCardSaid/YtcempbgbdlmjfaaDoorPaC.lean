/-
  params: the walk of Digit.
-/
import Derived.Test.YtcempbgbdlmjfaaDoorPaB
namespace Go.Proofs.YtcempbgbdlmjfaaDoor
open Go.RowKit

/-- what a step hands back -/
def RetP (w : World) (lo : Nat) (p : P5) (e : Ending) (w' : World) : Prop := ∃ v, e = .returned (.agg #[v, .bool p.o]) ∧ RdLL w' lo w'.heap.size v p.l ∧ Below w.heap.size w w'
/-- begun parameters have a last number -/
theorem begun_split {p : P5} (h : saneP p = true) : ∃ M q x, (begunP p).l = M ++ [q ++ [x]] ∧ M.length < 16 ∧ q.length < 6 ∧ -1 ≤ x ∧ x ≤ 65535 := by
  obtain ⟨hb, hn⟩ := begun_sane h
  obtain ⟨M, r, hM⟩ := split_last _ hn
  have h3 := (saneP_iff _).1 hb
  have hr := (okRow_iff _).1 (h3.2.2 r (by rw [hM]; simp))
  obtain ⟨q, x, hq⟩ := split_last r (fun e => by rw [e] at hr; simp at hr)
  subst hq
  have hx := hr.2 x (by simp)
  have h16 := h3.1
  rw [hM] at h16
  simp at h16 hr
  exact ⟨M, q, x, hM, by omega, by omega, hx.1, hx.2⟩

theorem digit_fin {w w1 w2 : World} {M : List (List Int)} {q : List Int} {x : Int} {g c' gi ci : Nat} {vs' : List Value} {T e1 e0 : TypeId} (OW : OwnLL w2 w1.heap.size e1 e0 (.slice (some ⟨g, 0, none⟩) (M.length + 1) c') (M ++ [q ++ [x]]) vs')
    (M1 : w2.heap[w.heap.size + 1]? = some (.cells #[.slice none 0 0, .bool false] T (0, 0))) (b2 : Below w.heap.size w w2) (bx : w.heap.size + 1 < w1.heap.size) (hbi : w1.heap.size ≤ gi)
    (HVS : vs'[M.length]? = some (.slice (some ⟨gi, 0, none⟩) (q.length + 1) ci)) (y y' : Int) (hy : y = y') (b : Bool) :
    let W := ((((w2.setCell ⟨w.heap.size, 0, none⟩ (.slice (some ⟨g, 0, none⟩) (M.length + 1) c')).setCell ⟨w.heap.size, 1, none⟩ (.bool true)).setCell ⟨gi, q.length, none⟩ (.int .i64 y)).setCell ⟨w.heap.size + 1, 0, none⟩ (.slice (some ⟨g, 0, none⟩) (M.length + 1) c')).setCell ⟨w.heap.size + 1, 1, none⟩ (.bool b)
    W.cell? ⟨w.heap.size + 1, 0, none⟩ = some (.slice (some ⟨g, 0, none⟩) (M.length + 1) c') ∧ W.cell? ⟨w.heap.size + 1, 1, none⟩ = some (.bool b) ∧ RdLL W w1.heap.size W.heap.size (.slice (some ⟨g, 0, none⟩) (M.length + 1) c') (M ++ [q ++ [y']]) ∧ Below w.heap.size w W := by
  intro W
  subst hy
  have hres := bk_set (bk_set (bk_far (bk_far (bk_far M1 (p := ⟨w.heap.size, 0, none⟩) (by simp) (.slice (some ⟨g, 0, none⟩) (M.length + 1) c')) (p := ⟨w.heap.size, 1, none⟩) (by simp) (.bool true)) (p := ⟨gi, q.length, none⟩) (by simp; omega) (.int .i64 y)) 0 (.slice (some ⟨g, 0, none⟩) (M.length + 1) c')) 1 (.bool b)
  have of := ((OW.far (p := ⟨w.heap.size, 0, none⟩) (by simp; omega) (.slice (some ⟨g, 0, none⟩) (M.length + 1) c')).far (p := ⟨w.heap.size, 1, none⟩) (by simp; omega) (.bool true)).cell M.length (by simp) HVS q.length y
  rw [set_last] at of
  have og := (of.far (p := ⟨w.heap.size + 1, 0, none⟩) (by simp; omega) (.slice (some ⟨g, 0, none⟩) (M.length + 1) c')).far (p := ⟨w.heap.size + 1, 1, none⟩) (by simp; omega) (.bool b)
  refine ⟨bk_cell hres 0 _ rfl, bk_cell hres 1 _ rfl, ?_, ((((b2.setCell (by simp) _).setCell (by simp) _).setCell (by simp; omega) _).setCell (by simp) _).setCell (by simp) _⟩
  have := og.rd
  rw [show (Value.slice (some ⟨g, 0, none⟩) (M.length + 1) c') = .slice (some ⟨g, 0, none⟩) (M.length + 1) c' from rfl] at this
  exact this

set_option maxRecDepth 100000 in
set_option maxHeartbeats 1600000 in
/-- digits make all anew: lo' may be as great as may be; otherwise what was there is handed back -/
theorem digit_gen {lo lo' : Nat} (L : List (List Int)) (o : Bool) (v : Value) (c : Int) (w : World) (hr : RdLL w lo w.heap.size v L) (hlo : lo' ≤ w.heap.size) (c0 : 0 ≤ c) (c1 : c < 256) (hx : (48 ≤ c ∧ c ≤ 57) ∨ lo' ≤ lo) :
    Calls Tryd.prog 41 #[.agg #[v, .bool o], .int .u8 c] w (RetP w lo' (digitP ⟨L, o⟩ c)) := by
  obtain ⟨A, cv, rfl, hcap⟩ := rdLL_form hr
  have tn := two_new w (.cells #[.slice A L.length cv, .bool o] 59) (.cells #[.slice none 0 0, .bool false] 59)
  have TN := Lib.hid tn; clear tn
  have hr2 := (hr.nextA (.cells #[.slice A L.length cv, .bool o] 59)).nextA (.cells #[.slice none 0 0, .bool false] 59)
  have HR := Lib.hid hr; have HR2 := Lib.hid hr2; clear hr hr2
  have bl2 : ∀ w1 : World, Below ((w.alloc (.cells #[.slice A L.length cv, .bool o] 59)).alloc (.cells #[.slice none 0 0, .bool false] 59)).heap.size ((w.alloc (.cells #[.slice A L.length cv, .bool o] 59)).alloc (.cells #[.slice none 0 0, .bool false] 59)) w1 →
      w1.heap[w.heap.size]? = some (.cells #[.slice A L.length cv, .bool o] 59 (0, 0)) ∧ w1.heap[w.heap.size + 1]? = some (.cells #[.slice none 0 0, .bool false] 59 (0, 0)) ∧ Below w.heap.size w w1 ∧ RdLL w1 lo w1.heap.size (.slice A L.length cv) L :=
    fun _ h => ⟨bk_past TN.out.1 h (Nat.le_refl _), bk_past TN.out.2 h (Nat.le_refl _), bt (((Below.refl _ _).alloc (Nat.le_refl _) _).alloc (by simp) _) h (by simp; omega), HR2.out.next h⟩
  have BL2 := Lib.hid bl2; clear bl2
  cases hs : saneP ⟨L, o⟩ with
  | false =>
    have e1 : digitP ⟨L, o⟩ c = ⟨[], false⟩ := by unfold digitP; rw [if_pos hs]
    rw [e1]
    have HS := Lib.hid hs; clear hs e1
    go_enter Tryd.func41, Tryd.ntmps41
    go_wp2_with (go_at_call 38; refine (sanep_any L o _ _ HR2.out).mono ?_; rintro e w1 ⟨rfl, hb1⟩; simp only [HS.out]; obtain ⟨n0, n1, b1, r1⟩ := BL2.out _ hb1; have N1 := Lib.hid n1; have f0 := bk_free n1 0; have f1 := bk_free n1 1; have q0 := bk_cell n1 0 _ rfl; have q1 := bk_cell n1 1 _ rfl; clear n0 n1 hb1)
    have hres := bk_set (bk_set N1.out 0 (.slice none 0 0)) 1 (.bool false)
    have p0 := bk_cell hres 0 _ rfl
    have p1 := bk_cell hres 1 _ rfl
    exact bodyPost_ret (v := .agg #[.slice none 0 0, .bool false]) (by simp [results, Tryd.results41, go_sem, p0, p1]) rfl ⟨_, rfl, RdLL.nil _ _ _, (b1.setCell (by simp) _).setCell (by simp) _⟩
  | true =>
    by_cases hlo' : c < 48
    · have e1 : digitP ⟨L, o⟩ c = ⟨L, o⟩ := by unfold digitP; rw [if_neg (by rw [hs]; simp), if_pos (.inl hlo')]
      rw [e1]
      have HS := Lib.hid hs; clear hs e1
      have d1 : decide (c < 48) = true := by simp; omega
      go_enter Tryd.func41, Tryd.ntmps41
      go_wp2_with (go_at_call 38; refine (sanep_any L o _ _ HR2.out).mono ?_; rintro e w1 ⟨rfl, hb1⟩; simp only [HS.out]; obtain ⟨n0, n1, b1, r1⟩ := BL2.out _ hb1; have N0 := Lib.hid n0; have N1 := Lib.hid n1; have R1 := Lib.hid r1; have f0 := bk_free n1 0; have f1 := bk_free n1 1; have q0 := bk_cell n1 0 _ rfl; have q1 := bk_cell n1 1 _ rfl; have x0 := bk_cell n0 0 _ rfl; have x1 := bk_cell n0 1 _ rfl; have y0 := bk_free n0 0; have y1 := bk_free n0 1; clear n0 n1 hb1 r1)
      have hres := bk_set (bk_set N1.out 0 (.slice A L.length cv)) 1 (.bool o)
      have p0 := bk_cell hres 0 _ rfl
      have p1 := bk_cell hres 1 _ rfl
      have bf := (b1.setCell (p := ⟨w.heap.size + 1, 0, none⟩) (by simp) (.slice A L.length cv)).setCell (p := ⟨w.heap.size + 1, 1, none⟩) (by simp) (.bool o)
      exact bodyPost_ret (v := .agg #[.slice A L.length cv, .bool o]) (by simp [results, Tryd.results41, go_sem, p0, p1]) rfl ⟨_, rfl, ((HR.out.below bf (Nat.le_refl _)).more bf.size).less (by omega), bf⟩
    by_cases hhi : 57 < c
    · have e1 : digitP ⟨L, o⟩ c = ⟨L, o⟩ := by unfold digitP; rw [if_neg (by rw [hs]; simp), if_pos (.inr hhi)]
      rw [e1]
      have HS := Lib.hid hs; clear hs e1
      have d1 : decide (c < 48) = false := by simp; omega
      have d2 : decide (57 < c) = true := by simp; omega
      go_enter Tryd.func41, Tryd.ntmps41
      go_wp2_with (go_at_call 38; refine (sanep_any L o _ _ HR2.out).mono ?_; rintro e w1 ⟨rfl, hb1⟩; simp only [HS.out]; obtain ⟨n0, n1, b1, r1⟩ := BL2.out _ hb1; have N0 := Lib.hid n0; have N1 := Lib.hid n1; have R1 := Lib.hid r1; have f0 := bk_free n1 0; have f1 := bk_free n1 1; have q0 := bk_cell n1 0 _ rfl; have q1 := bk_cell n1 1 _ rfl; have x0 := bk_cell n0 0 _ rfl; have x1 := bk_cell n0 1 _ rfl; have y0 := bk_free n0 0; have y1 := bk_free n0 1; clear n0 n1 hb1 r1)
      have hres := bk_set (bk_set N1.out 0 (.slice A L.length cv)) 1 (.bool o)
      have p0 := bk_cell hres 0 _ rfl
      have p1 := bk_cell hres 1 _ rfl
      have bf := (b1.setCell (p := ⟨w.heap.size + 1, 0, none⟩) (by simp) (.slice A L.length cv)).setCell (p := ⟨w.heap.size + 1, 1, none⟩) (by simp) (.bool o)
      exact bodyPost_ret (v := .agg #[.slice A L.length cv, .bool o]) (by simp [results, Tryd.results41, go_sem, p0, p1]) rfl ⟨_, rfl, ((HR.out.below bf (Nat.le_refl _)).more bf.size).less (by omega), bf⟩
    have d1 : decide (c < 48) = false := by simp; omega
    have d2 : decide (57 < c) = false := by simp; omega
    obtain ⟨M, q, x, hM, hM16, hq6, hx0, hx1⟩ := begun_split hs
    have HSS := Lib.hid hs
    cases ho : (begunP ⟨L, o⟩).o with
    | false =>
      have e1 : digitP ⟨L, o⟩ c = begunP ⟨L, o⟩ := by unfold digitP; rw [if_neg (by rw [hs]; simp), if_neg (by omega), if_pos ho]
      rw [e1]
      have HS := Lib.hid hs; have HO := Lib.hid ho; clear hs e1 hM ho
      go_enter Tryd.func41, Tryd.ntmps41
      go_wp2_with (first
        | (go_at_call 38; refine (sanep_any L o _ _ HR2.out).mono ?_; rintro e w1 ⟨rfl, hb1⟩; simp only [HS.out]; obtain ⟨n0, n1, b1, r1⟩ := BL2.out _ hb1; have N0 := Lib.hid n0; have N1 := Lib.hid n1; have R1 := Lib.hid r1; have f0 := bk_free n1 0; have f1 := bk_free n1 1; have q0 := bk_cell n1 0 _ rfl; have q1 := bk_cell n1 1 _ rfl; have x0 := bk_cell n0 0 _ rfl; have x1 := bk_cell n0 1 _ rfl; have y0 := bk_free n0 0; have y1 := bk_free n0 1; clear n0 n1 hb1 r1)
        | (go_at_call 70; refine (begun_any L o _ _ R1.out HSS.out).mono ?_; rintro e w2 ⟨A', c', vs', rfl, ho2, hb2⟩; simp only [HO.out]; have OW := Lib.hid ho2; have n0 := bk_past N0.out hb2 (Nat.le_refl _); have n1 := bk_past N1.out hb2 (Nat.le_refl _); have M0 := Lib.hid n0; have M1 := Lib.hid n1; have b2 := bt b1 hb2 b1.size; have g0 := bk_free n1 0; have g1 := bk_free n1 1; have h0 := bk_free n0 0; have h1 := bk_free n0 1; have k0 := bk_cell n0 0 _ rfl; have k1 := bk_cell n0 1 _ rfl; have l0 := bk_cell n1 0 _ rfl; have l1 := bk_cell n1 1 _ rfl; clear ho2 n0 n1 hb2))
      have bx : w.heap.size + 1 < w1.heap.size := bk_lt N1.out
      have hres := bk_set (bk_set (bk_far (bk_far M1.out (p := ⟨w.heap.size, 0, none⟩) (by simp) (.slice A' (begunP ⟨L, o⟩).l.length c')) (p := ⟨w.heap.size, 1, none⟩) (by simp) (.bool false)) 0 (.slice A' (begunP ⟨L, o⟩).l.length c')) 1 (.bool false)
      have p0 := bk_cell hres 0 _ rfl
      have p1 := bk_cell hres 1 _ rfl
      have of := (((OW.out.far (p := ⟨w.heap.size, 0, none⟩) (by simp; omega) (.slice A' (begunP ⟨L, o⟩).l.length c')).far (p := ⟨w.heap.size, 1, none⟩) (by simp; omega) (.bool false)).far (p := ⟨w.heap.size + 1, 0, none⟩) (by simp; omega) (.slice A' (begunP ⟨L, o⟩).l.length c')).far (p := ⟨w.heap.size + 1, 1, none⟩) (by simp; omega) (.bool false)
      exact bodyPost_ret (v := .agg #[.slice A' (begunP ⟨L, o⟩).l.length c', .bool false]) (by simp [results, Tryd.results41, go_sem, p0, p1]) rfl ⟨_, by rw [HO.out], of.rd.less (by omega), (((b2.setCell (by simp) _).setCell (by simp) _).setCell (by simp) _).setCell (by simp) _⟩
    | true =>
      have e1 : digitP ⟨L, o⟩ c = ⟨M ++ [q ++ [digitN x c]], true⟩ := by
        unfold digitP
        rw [if_neg (by rw [hs]; simp), if_neg (by omega), if_neg (by rw [ho]; simp)]
        simp only [lastL, hM, setLast, List.getLastD_concat, List.dropLast_concat]
      rw [e1]
      have hl : (M ++ [q ++ [x]]).length = M.length + 1 := by simp
      have HS := Lib.hid hs; have HO := Lib.hid ho; have HM := Lib.hid hM; have HL := Lib.hid hl; clear hs e1 hM ho hl
      go_enter Tryd.func41, Tryd.ntmps41
      go_wp2_with (first
        | (go_at_call 38; refine (sanep_any L o _ _ HR2.out).mono ?_; rintro e w1 ⟨rfl, hb1⟩; simp only [HS.out]; obtain ⟨n0, n1, b1, r1⟩ := BL2.out _ hb1; have N0 := Lib.hid n0; have N1 := Lib.hid n1; have R1 := Lib.hid r1; have f0 := bk_free n1 0; have f1 := bk_free n1 1; have q0 := bk_cell n1 0 _ rfl; have q1 := bk_cell n1 1 _ rfl; have x0 := bk_cell n0 0 _ rfl; have x1 := bk_cell n0 1 _ rfl; have y0 := bk_free n0 0; have y1 := bk_free n0 1; clear n0 n1 hb1 r1)
        | (go_at_call 70; refine (begun_any L o _ _ R1.out HSS.out).mono ?_; rintro e w2 ⟨A', c', vs', rfl, ho2, hb2⟩; simp only [HO.out, HM.out, HL.out] at ho2 ⊢; obtain ⟨g, cap, gi, ci, hv, hcap, hbg, hgl, hvs, hci, hbi, hgil, hne, t0, t1, t2, t3⟩ := ho2.last; simp only [Value.slice.injEq, true_and] at hv; obtain ⟨rfl, rfl⟩ := hv; have OW := Lib.hid ho2; have n0 := bk_past N0.out hb2 (Nat.le_refl _); have n1 := bk_past N1.out hb2 (Nat.le_refl _); have M0 := Lib.hid n0; have M1 := Lib.hid n1; have b2 := bt b1 hb2 b1.size; have g0 := bk_free n1 0; have g1 := bk_free n1 1; have h0 := bk_free n0 0; have h1 := bk_free n0 1; have k0 := bk_cell n0 0 _ rfl; have k1 := bk_cell n0 1 _ rfl; have l0 := bk_cell n1 0 _ rfl; have l1 := bk_cell n1 1 _ rfl; have bx := bk_lt N1.out; have HVS := Lib.hid hvs; clear ho2 n0 n1 hb2 hvs))
      · obtain ⟨p0, p1, p2, p3⟩ := digit_fin OW.out M1.out b2 bx hbi HVS.out (c - 48) (digitN x c) (by unfold digitN; omega) true
        exact bodyPost_ret (v := .agg #[.slice (some ⟨g, 0, none⟩) (M.length + 1) c', .bool true]) (by simp [results, Tryd.results41, go_sem, p0, p1]) rfl ⟨_, rfl, p2.less (by omega), p3⟩
      · obtain ⟨p0, p1, p2, p3⟩ := digit_fin OW.out M1.out b2 bx hbi HVS.out (65535) (digitN x c) (by unfold digitN; omega) true
        exact bodyPost_ret (v := .agg #[.slice (some ⟨g, 0, none⟩) (M.length + 1) c', .bool true]) (by simp [results, Tryd.results41, go_sem, p0, p1]) rfl ⟨_, rfl, p2.less (by omega), p3⟩
      · obtain ⟨p0, p1, p2, p3⟩ := digit_fin OW.out M1.out b2 bx hbi HVS.out (10 * x + (c - 48)) (digitN x c) (by unfold digitN; omega) true
        exact bodyPost_ret (v := .agg #[.slice (some ⟨g, 0, none⟩) (M.length + 1) c', .bool true]) (by simp [results, Tryd.results41, go_sem, p0, p1]) rfl ⟨_, rfl, p2.less (by omega), p3⟩
theorem digit_any {lo : Nat} (L : List (List Int)) (o : Bool) (v : Value) (c : Int) (w : World) (hr : RdLL w lo w.heap.size v L) (hlo : lo ≤ w.heap.size) (c0 : 0 ≤ c) (c1 : c < 256) :
    Calls Tryd.prog 41 #[.agg #[v, .bool o], .int .u8 c] w (RetP w lo (digitP ⟨L, o⟩ c)) := digit_gen L o v c w hr hlo c0 c1 (.inr (Nat.le_refl _))
end Go.Proofs.YtcempbgbdlmjfaaDoor
