/-
  pen: what the walk of Apply leans on.
-/
import Derived.Test.YtcempbgbdlmjfaaDoorPeH
import Derived.Test.YtcempbgbdlmjfaaDoorPeLaw
namespace Go.Proofs.YtcempbgbdlmjfaaDoor
open Go.RowKit

theorem RdLL.cut {w : World} {lo B b off c : Nat} {L : List (List Int)} (h : RdLL w lo B (.slice (some ⟨b, off, none⟩) L.length c) L) (N : Nat) (hN : N ≤ L.length) (n' c' : Nat) (hn : n' = L.length - N) (hc : n' ≤ c') :
    RdLL w lo B (.slice (some ⟨b, off + N, none⟩) n' c') (L.drop N) := by
  obtain ⟨A', c0, vs, h1, h2, h3, hlo, h4, h5⟩ := h
  injection h1 with q1 q2 q3
  subst q1
  refine ⟨_, c', vs.drop N, by simp [hn], by simp; omega, h3.drop N, fun hx a ha => ?_, by simp [h4], fun i hi => ?_⟩
  · injection ha with ha
    subst ha
    exact hlo (by simp at hx; omega) ⟨b, off, none⟩ rfl
  · simp at hi
    obtain ⟨Ai, ci, g1, g2, g3, g4⟩ := h5 (N + i) (by omega)
    have hg : (L.drop N)[i]'(by simp; omega) = L[N + i] := by simp
    rw [hg]
    exact ⟨Ai, ci, by rw [List.getElem?_drop]; exact g1, g2, g3, g4⟩
theorem RdLL.empty (w : World) (lo B : Nat) (A : Option Addr) (c : Nat) : RdLL w lo B (.slice A 0 c) [] := ⟨A, c, [], rfl, Nat.zero_le _, Rd.nil _ _ _, fun h => absurd h (by simp), rfl, fun i h => absurd h (by simp)⟩
theorem follow_n {lo : Nat} (l : List (List Int)) (A : Option Addr) (n c : Nat) (hn : l.length = n) (w : World) (hr : RdLL w lo w.heap.size (.slice A n c) l) :
    Calls Tryd.prog 67 #[.slice A n c] w (NumsRet w (followF l)) := by
  subst hn; exact follow_any l A c w hr
theorem inner_n (l : List Int) (A : Option Addr) (n c : Nat) (hn : l.length = n) (w : World) (hr : Rd w w.heap.size A (nC l)) (hne : 0 < n) :
    Calls Tryd.prog 66 #[.slice A n c] w (NumsRet w (innerF l)) := by
  subst hn; exact inner_any l A c w hr hne
theorem go_step (F : Nat) (p : Pn) (q : List Int) (l : List (List Int)) (hF : (q :: l).length ≤ F) : apGo F p (q :: l) =
    if q = [] then apGo F p l
    else if q.getD 0 0 ≠ 38 ∧ q.getD 0 0 ≠ 48 then apGo F (oneF p q) l
    else if (tells q l).1 = 0 ∧ ¬ 1 < q.length then p
    else apGo F (setCol p (q.getD 0 0) (tells q l).1) (l.drop (tells q l).2) := by
  simp only [List.length_cons] at hF
  obtain ⟨f, rfl⟩ : ∃ f, F = f + 1 := ⟨F - 1, by omega⟩
  rw [go_cons, go_fuel f (f + 1) p l (by omega) (by omega), go_fuel f (f + 1) (oneF p q) l (by omega) (by omega), go_fuel f (f + 1) (setCol p (q.getD 0 0) (tells q l).1) (l.drop (tells q l).2) (by simp; omega) (by simp; omega)]
theorem tells_nil (n : Int) (l : List (List Int)) : tells [n] l = colF (followF l) := by unfold tells; rw [if_neg (by simp)]
theorem tells_cons (n y : Int) (q : List Int) (l : List (List Int)) : tells (n :: y :: q) l = ((colF (innerF (y :: q))).1, 0) := by unfold tells; rw [if_pos (by simp)]; rfl
theorem below_drewN {B : Nat} {w w' : World} (h : Below B w w') (n : Nat) : Below B w (w'.drewN n) := h.trans ⟨rfl, rfl, rfl, Nat.le_refl _, fun _ _ => rfl⟩
/-- the pen's own block -/
def PenAt (w : World) (b : Nat) (p : Pn) : Prop := w.heap[b]? = some (.cells #[.int .i64 p.fg, .int .i64 p.bg, .int .i64 p.fl] 40 (0, 0))
theorem PenAt.cells {w : World} {b : Nat} {p : Pn} (h : PenAt w b p) : w.cell? ⟨b, 0, none⟩ = some (.int .i64 p.fg) ∧ w.cell? ⟨b, 1, none⟩ = some (.int .i64 p.bg) ∧ w.cell? ⟨b, 2, none⟩ = some (.int .i64 p.fl) ∧
    w.frozen? ⟨b, 0, none⟩ = false ∧ w.frozen? ⟨b, 1, none⟩ = false ∧ w.frozen? ⟨b, 2, none⟩ = false :=
  ⟨bk_cell h 0 _ rfl, bk_cell h 1 _ rfl, bk_cell h 2 _ rfl, bk_free h 0, bk_free h 1, bk_free h 2⟩
theorem PenAt.past {w w' : World} {b : Nat} {p : Pn} (h : PenAt w b p) (hb : Below w.heap.size w w') : PenAt w' b p := bk_past h hb (Nat.le_refl _)
theorem PenAt.drewN {w : World} {b : Nat} {p : Pn} (h : PenAt w b p) (n : Nat) : PenAt (w.drewN n) b p := h
theorem PenAt.far {w : World} {b : Nat} {p : Pn} (h : PenAt w b p) (a : Addr) (ha : b ≠ a.block) (u : Value) : PenAt (w.setCell a u) b p := bk_far h ha u
theorem PenAt.put {w : World} {b : Nat} {p : Pn} (h : PenAt w b p) (x y z : Int) : PenAt (((w.setCell ⟨b, 0, none⟩ (.int .i64 x)).setCell ⟨b, 1, none⟩ (.int .i64 y)).setCell ⟨b, 2, none⟩ (.int .i64 z)) b ⟨x, y, z⟩ :=
  bk_set (bk_set (bk_set h 0 _) 1 _) 2 _
theorem PenAt.putFg {w : World} {b : Nat} {p : Pn} (h : PenAt w b p) (x : Int) : PenAt (w.setCell ⟨b, 0, none⟩ (.int .i64 x)) b ⟨x, p.bg, p.fl⟩ := bk_set h 0 _
theorem PenAt.putBg {w : World} {b : Nat} {p : Pn} (h : PenAt w b p) (x : Int) : PenAt (w.setCell ⟨b, 1, none⟩ (.int .i64 x)) b ⟨p.fg, x, p.fl⟩ := bk_set h 1 _
theorem pens_new (w : World) (p z : Pn) : PenAt ((w.alloc (.cells #[.int .i64 p.fg, .int .i64 p.bg, .int .i64 p.fl] 40)).alloc (.cells #[.int .i64 z.fg, .int .i64 z.bg, .int .i64 z.fl] 40)) w.heap.size p ∧
    PenAt ((w.alloc (.cells #[.int .i64 p.fg, .int .i64 p.bg, .int .i64 p.fl] 40)).alloc (.cells #[.int .i64 z.fg, .int .i64 z.bg, .int .i64 z.fl] 40)) (w.heap.size + 1) z := two_new w _ _
theorem col_len (l : List Int) : (colF l).2 ≤ l.length := by
  unfold colF
  split
  · simp only; omega
  split
  · simp only; omega
  · simp
theorem follow_len (l : List (List Int)) : (followF l).length ≤ l.length := by simp [followF]; omega
end Go.Proofs.YtcempbgbdlmjfaaDoor
