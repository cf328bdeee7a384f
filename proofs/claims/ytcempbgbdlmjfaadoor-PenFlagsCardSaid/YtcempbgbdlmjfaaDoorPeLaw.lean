/-
  Layer 7 (pen), plain laws: what Apply keeps, what Print makes. No program in sight.
-/
import Derived.Test.YtcempbgbdlmjfaaDoorPePlain
namespace Go.Proofs.YtcempbgbdlmjfaaDoor
open Go.RowKit

theorem sane_iff (p : Pn) : sanePn p = true ↔ isCol p.fg = true ∧ isCol p.bg = true ∧ 0 ≤ p.fl ∧ p.fl ≤ 511 := by
  simp only [sanePn, Bool.and_eq_true, decide_eq_true_eq]
theorem isCol_iff (c : Int) : isCol c = true ↔ (0 ≤ c ∧ c ≤ 256) ∨ (16777216 ≤ c ∧ c < 33554432) := by
  simp only [isCol, Bool.or_eq_true, decide_eq_true_eq]
def nb (f : Int) : Bool := bits .and .i64 f 264 != 264
theorem fl_nat (f : Int) (h0 : 0 ≤ f) (h1 : f ≤ 511) : ∃ k : Fin 512, f = (k.val : Int) := ⟨⟨f.toNat, by omega⟩, by simp only; omega⟩

def offs : List Int := [264, 8, 256, 3, 4, 16, 0, 32, 64, 128]
def ons : List Int := [0, 1, 2, 4, 16, 32, 64, 128, 8, 256]
def okOff (f m : Int) : Bool := decide (0 ≤ flOff f m ∧ flOff f m ≤ 511) && (!nb f || nb (flOff f m))
def okOn (f m : Int) : Bool := decide (0 ≤ flOn f m ∧ flOn f m ≤ 511) && (!nb f || m == 8 || m == 256 || nb (flOn f m))
theorem off_all : ∀ k : Fin 512, offs.all (okOff (k.val : Int)) = true := by decide +kernel
theorem on_all : ∀ k : Fin 512, ons.all (okOn (k.val : Int)) = true := by decide +kernel
theorem line_all : ∀ k : Fin 512, (nb (flOn (flOff (k.val : Int) 8) 256) && nb (flOn (flOff (k.val : Int) 256) 8)) = true := by decide +kernel
theorem off_ok (f m : Int) (h0 : 0 ≤ f) (h1 : f ≤ 511) (hm : m ∈ offs) : 0 ≤ flOff f m ∧ flOff f m ≤ 511 ∧ (nb f = true → nb (flOff f m) = true) := by
  obtain ⟨k, rfl⟩ := fl_nat f h0 h1
  have := List.all_eq_true.1 (off_all k) m hm
  simp only [okOff, Bool.and_eq_true, decide_eq_true_eq, Bool.or_eq_true, Bool.not_eq_true'] at this
  obtain ⟨⟨a, b⟩, c⟩ := this
  exact ⟨a, b, fun h => by rcases c with c | c; rw [h] at c; cases c; exact c⟩
theorem on_ok (f m : Int) (h0 : 0 ≤ f) (h1 : f ≤ 511) (hm : m ∈ ons) : 0 ≤ flOn f m ∧ flOn f m ≤ 511 ∧ (m ≠ 8 → m ≠ 256 → nb f = true → nb (flOn f m) = true) := by
  obtain ⟨k, rfl⟩ := fl_nat f h0 h1
  have := List.all_eq_true.1 (on_all k) m hm
  simp only [okOn, Bool.and_eq_true, decide_eq_true_eq, Bool.or_eq_true, Bool.not_eq_true', beq_iff_eq] at this
  obtain ⟨⟨a, b⟩, c⟩ := this
  exact ⟨a, b, fun h8 h256 h => by rcases c with ((c | c) | c) | c; (rw [h] at c; cases c); exact absurd c h8; exact absurd c h256; exact c⟩
theorem line_ok (f : Int) (h0 : 0 ≤ f) (h1 : f ≤ 511) : nb (flOn (flOff f 8) 256) = true ∧ nb (flOn (flOff f 256) 8) = true := by
  obtain ⟨k, rfl⟩ := fl_nat f h0 h1
  have := line_all k
  simpa only [Bool.and_eq_true] using this

/-! ### a pen stays one -/
/-- sane, and, if it began so, not both lines -/
def Ok (d : Bool) (p : Pn) : Prop := sanePn p = true ∧ (d = true → nb p.fl = true)
theorem ok_zero (d : Bool) : Ok d ⟨0, 0, 0⟩ := ⟨by decide, fun _ => by decide +kernel⟩
theorem ok_fg {d : Bool} {p : Pn} (h : Ok d p) (c : Int) (hc : isCol c = true) : Ok d ⟨c, p.bg, p.fl⟩ := by
  obtain ⟨h1, h2⟩ := h
  rw [sane_iff] at h1
  exact ⟨(sane_iff _).2 ⟨hc, h1.2⟩, h2⟩
theorem ok_bg {d : Bool} {p : Pn} (h : Ok d p) (c : Int) (hc : isCol c = true) : Ok d ⟨p.fg, c, p.fl⟩ := by
  obtain ⟨h1, h2⟩ := h
  rw [sane_iff] at h1
  exact ⟨(sane_iff _).2 ⟨h1.1, hc, h1.2.2⟩, h2⟩
theorem ok_fl {d : Bool} {p : Pn} (h : Ok d p) (f : Int) (h0 : 0 ≤ f) (h1 : f ≤ 511) (hn : nb p.fl = true → nb f = true) : Ok d ⟨p.fg, p.bg, f⟩ := by
  obtain ⟨h2, h3⟩ := h
  rw [sane_iff] at h2
  exact ⟨(sane_iff _).2 ⟨h2.1, h2.2.1, h0, h1⟩, fun hd => hn (h3 hd)⟩
theorem sw_mem (n : Int) (h : 1 ≤ n ∧ n ≤ 9) : swT.getD n.toNat 0 ∈ ons ∧ swT.getD n.toNat 0 ≠ 256 ∧ (n ≠ 4 → swT.getD n.toNat 0 ≠ 8) := by
  obtain ⟨k, rfl⟩ := Int.eq_ofNat_of_zero_le (show 0 ≤ n by omega)
  rcases (show k = 1 ∨ k = 2 ∨ k = 3 ∨ k = 4 ∨ k = 5 ∨ k = 6 ∨ k = 7 ∨ k = 8 ∨ k = 9 by omega) with rfl | rfl | rfl | rfl | rfl | rfl | rfl | rfl | rfl <;> decide
theorem un_mem (n : Int) (h : 22 ≤ n ∧ n ≤ 29) : unT.getD (n - 22).toNat 0 ∈ offs := by
  obtain ⟨k, hk⟩ := Int.eq_ofNat_of_zero_le (show 0 ≤ n - 22 by omega)
  rw [hk]
  rcases (show k = 0 ∨ k = 1 ∨ k = 2 ∨ k = 3 ∨ k = 4 ∨ k = 5 ∨ k = 6 ∨ k = 7 by omega) with rfl | rfl | rfl | rfl | rfl | rfl | rfl | rfl <;> decide
def oneN (p : Pn) (q : List Int) (n : Int) : Pn :=
  if n = 0 ∨ n = -1 then ⟨0, 0, 0⟩
  else if n = 4 ∧ 1 < q.length ∧ q.getD 1 0 = 0 then ⟨p.fg, p.bg, flOff p.fl 264⟩
  else if n = 21 ∨ n = 4 ∧ 1 < q.length ∧ q.getD 1 0 = 2 then ⟨p.fg, p.bg, flOn (flOff p.fl 8) 256⟩
  else if n = 4 then ⟨p.fg, p.bg, flOn (flOff p.fl 256) 8⟩
  else if 1 ≤ n ∧ n ≤ 9 then ⟨p.fg, p.bg, flOn p.fl (swT.getD n.toNat 0)⟩
  else if 22 ≤ n ∧ n ≤ 29 then ⟨p.fg, p.bg, flOff p.fl (unT.getD (n - 22).toNat 0)⟩
  else if 30 ≤ n ∧ n ≤ 37 then ⟨n - 30 + 1, p.bg, p.fl⟩
  else if n = 39 then ⟨0, p.bg, p.fl⟩
  else if 40 ≤ n ∧ n ≤ 47 then ⟨p.fg, n - 40 + 1, p.fl⟩
  else if n = 49 then ⟨p.fg, 0, p.fl⟩
  else if 90 ≤ n ∧ n ≤ 97 then ⟨n - 90 + 8 + 1, p.bg, p.fl⟩
  else if 100 ≤ n ∧ n ≤ 107 then ⟨p.fg, n - 100 + 8 + 1, p.fl⟩
  else p
theorem one_eq (p : Pn) (q : List Int) : oneF p q = oneN p q (q.getD 0 0) := rfl
theorem ok_one {d : Bool} {p : Pn} (h : Ok d p) (q : List Int) : Ok d (oneF p q) := by
  have hs := (sane_iff p).1 h.1
  obtain ⟨_, _, f0, f1⟩ := hs
  rw [one_eq]
  generalize q.getD 0 0 = n
  unfold oneN
  by_cases c0 : n = 0 ∨ n = -1
  · rw [if_pos c0]; exact ok_zero d
  rw [if_neg c0]
  by_cases c1 : n = 4 ∧ 1 < q.length ∧ q.getD 1 0 = 0
  · rw [if_pos c1]; have := off_ok p.fl 264 f0 f1 (by decide); exact ok_fl h _ this.1 this.2.1 this.2.2
  rw [if_neg c1]
  by_cases c2 : n = 21 ∨ n = 4 ∧ 1 < q.length ∧ q.getD 1 0 = 2
  · rw [if_pos c2]; have a := off_ok p.fl 8 f0 f1 (by decide); have b := on_ok (flOff p.fl 8) 256 a.1 a.2.1 (by decide); exact ok_fl h _ b.1 b.2.1 fun _ => (line_ok p.fl f0 f1).1
  rw [if_neg c2]
  by_cases c3 : n = 4
  · rw [if_pos c3]; have a := off_ok p.fl 256 f0 f1 (by decide); have b := on_ok (flOff p.fl 256) 8 a.1 a.2.1 (by decide); exact ok_fl h _ b.1 b.2.1 fun _ => (line_ok p.fl f0 f1).2
  rw [if_neg c3]
  by_cases c4 : 1 ≤ n ∧ n ≤ 9
  · rw [if_pos c4]; have m := sw_mem n c4; have b := on_ok p.fl _ f0 f1 m.1; exact ok_fl h _ b.1 b.2.1 (b.2.2 (m.2.2 c3) m.2.1)
  rw [if_neg c4]
  by_cases c5 : 22 ≤ n ∧ n ≤ 29
  · rw [if_pos c5]; have b := off_ok p.fl _ f0 f1 (un_mem n c5); exact ok_fl h _ b.1 b.2.1 b.2.2
  rw [if_neg c5]
  by_cases c6 : 30 ≤ n ∧ n ≤ 37
  · rw [if_pos c6]; exact ok_fg h _ ((isCol_iff _).2 (by omega))
  rw [if_neg c6]
  by_cases c7 : n = 39
  · rw [if_pos c7]; exact ok_fg h _ ((isCol_iff _).2 (by omega))
  rw [if_neg c7]
  by_cases c8 : 40 ≤ n ∧ n ≤ 47
  · rw [if_pos c8]; exact ok_bg h _ ((isCol_iff _).2 (by omega))
  rw [if_neg c8]
  by_cases c9 : n = 49
  · rw [if_pos c9]; exact ok_bg h _ ((isCol_iff _).2 (by omega))
  rw [if_neg c9]
  by_cases c10 : 90 ≤ n ∧ n ≤ 97
  · rw [if_pos c10]; exact ok_fg h _ ((isCol_iff _).2 (by omega))
  rw [if_neg c10]
  by_cases c11 : 100 ≤ n ∧ n ≤ 107
  · rw [if_pos c11]; exact ok_bg h _ ((isCol_iff _).2 (by omega))
  rw [if_neg c11]
  exact h
theorem rgb_col (r g b : Int) : isCol (rgbF r g b) = true := (isCol_iff _).2 (.inr (by unfold rgbF bndF; omega))
theorem col_col (l : List Int) : isCol (colF l).1 = true := by
  unfold colF
  split
  · rename_i h
    have := h.2.2
    simp only [isByteF, decide_eq_true_eq] at this
    exact (isCol_iff _).2 (by simp only; omega)
  split
  · exact rgb_col _ _ _
  · decide
theorem col_le (l : List Int) : (colF l).2 ≤ 4 := by
  unfold colF
  split
  · simp
  split <;> simp
theorem tells_col (q : List Int) (l : List (List Int)) : isCol (tells q l).1 = true := by
  unfold tells
  split <;> exact col_col _
theorem ok_set {d : Bool} {p : Pn} (h : Ok d p) (n c : Int) (hc : isCol c = true) : Ok d (setCol p n c) := by
  unfold setCol
  split
  · exact h
  split
  · exact ok_fg h c hc
  · exact ok_bg h c hc
theorem ok_go (d : Bool) : ∀ (f : Nat) (p : Pn) (l : List (List Int)), Ok d p → Ok d (apGo f p l)
  | 0, p, _, h => by unfold apGo; exact h
  | f+1, p, [], h => by unfold apGo; exact h
  | f+1, p, q :: l, h => by
    unfold apGo
    split
    · exact ok_go d f p l h
    split
    · exact ok_go d f _ l (ok_one h q)
    split
    · exact h
    · exact ok_go d f _ _ (ok_set h _ _ (tells_col q l))
theorem ap_sane {p : Pn} {l : List (List Int)} (hs : sanePn p = true) (hl : l ≠ []) : applyF p l = apGo l.length p l := by
  unfold applyF
  rw [if_neg (by rintro (h | h); rw [hs] at h; cases h; exact hl h)]
theorem ok_ap {d : Bool} {p : Pn} (h : Ok d p) (l : List (List Int)) (hl : l ≠ []) : Ok d (applyF p l) := by
  rw [ap_sane h.1 hl]; exact ok_go d _ p l h
theorem go_fuel : ∀ (f g : Nat) (p : Pn) (l : List (List Int)), l.length ≤ f → l.length ≤ g → apGo f p l = apGo g p l
  | 0, g, p, l, hf, _ => by
    obtain rfl : l = [] := List.eq_nil_of_length_eq_zero (by omega)
    cases g <;> rfl
  | f+1, 0, p, l, _, hg => by
    obtain rfl : l = [] := List.eq_nil_of_length_eq_zero (by omega)
    rfl
  | f+1, g+1, p, [], _, _ => rfl
  | f+1, g+1, p, q :: l, hf, hg => by
    simp only [List.length_cons] at hf hg
    unfold apGo
    split
    · exact go_fuel f g _ _ (by omega) (by omega)
    split
    · exact go_fuel f g _ _ (by omega) (by omega)
    split
    · rfl
    · exact go_fuel f g _ _ (by simp; omega) (by simp; omega)
theorem go_cons (f : Nat) (p : Pn) (q : List Int) (l : List (List Int)) : apGo (f + 1) p (q :: l) =
    if q = [] then apGo f p l
    else if q.getD 0 0 ≠ 38 ∧ q.getD 0 0 ≠ 48 then apGo f (oneF p q) l
    else if (tells q l).1 = 0 ∧ ¬ 1 < q.length then p
    else apGo f (setCol p (q.getD 0 0) (tells q l).1) (l.drop (tells q l).2) := rfl
theorem go_app (m : List (List Int)) : ∀ (l : List (List Int)) (p : Pn), (∀ q ∈ l, q ≠ [] → q.getD 0 0 ≠ 38 ∧ q.getD 0 0 ≠ 48) → apGo (l ++ m).length p (l ++ m) = apGo m.length (apGo l.length p l) m
  | [], p, _ => by simp [apGo]
  | q :: l, p, h => by
    have ih := fun p' => go_app m l p' (fun x hx => h x (by simp [hx]))
    simp only [List.cons_append, List.length_cons]
    rw [go_cons, go_cons]
    by_cases hq : q = []
    · rw [if_pos hq, if_pos hq]; exact ih p
    · rw [if_neg hq, if_neg hq, if_pos (h q (by simp) hq), if_pos (h q (by simp) hq)]; exact ih _
/-- the first numbers, as Get tells them -/
def brk (l : List (List Int)) : Bool := l.any fun q => q.headD 0 == 38 || q.headD 0 == 48
theorem stays_app {p : Pn} {l m : List (List Int)} (hs : sanePn p = true) (hl : l ≠ []) (hm : m ≠ []) (hb : brk l = false) : applyF p (l ++ m) = applyF (applyF p l) m := by
  have h1 : Ok false (applyF p l) := ok_ap ⟨hs, fun h => by cases h⟩ l hl
  rw [ap_sane hs (by simp [hl]), ap_sane h1.1 hm, ap_sane hs hl]
  refine go_app m l p fun q hq hne => ?_
  have := List.any_eq_false.1 hb q hq
  cases q with
  | nil => exact absurd rfl hne
  | cons x xs =>
    simp only [List.headD_cons, Bool.or_eq_true, beq_iff_eq, not_or] at this
    simpa using this

/-! ### what is printed makes the pen -/
def flagB (f : Int) : Int := if bits .and .i64 f 264 = 264 then f - 8 else f
def flagsOk (k : Fin 512) : Bool :=
  let p := apGo (flagsF (k.val : Int)).length ⟨0, 0, 0⟩ (flagsF (k.val : Int))
  p.fg == 0 && p.bg == 0 && p.fl == flagB (k.val : Int) && (flagsF (k.val : Int)).all (fun q => q.getD 0 0 != 38 && q.getD 0 0 != 48)
theorem flags_all : ∀ k : Fin 512, flagsOk k = true := by decide +kernel
theorem flags_ap (f : Int) (h0 : 0 ≤ f) (h1 : f ≤ 511) : apGo (flagsF f).length ⟨0, 0, 0⟩ (flagsF f) = ⟨0, 0, flagB f⟩ ∧ ∀ q ∈ flagsF f, q.getD 0 0 ≠ 38 ∧ q.getD 0 0 ≠ 48 := by
  obtain ⟨k, rfl⟩ := fl_nat f h0 h1
  have := flags_all k
  simp only [flagsOk, Bool.and_eq_true, beq_iff_eq, List.all_eq_true, bne_iff_ne, ne_eq] at this
  obtain ⟨⟨⟨a, b⟩, c⟩, d⟩ := this
  refine ⟨?_, d⟩
  generalize apGo (flagsF (k.val : Int)).length ⟨0, 0, 0⟩ (flagsF (k.val : Int)) = p at a b c ⊢
  obtain ⟨x, y, z⟩ := p
  simp only at a b c
  rw [a, b, c]
theorem parts_0 : partsF 0 = (0, 0, 0, 0) := by decide
theorem parts_1 (c : Int) (h : 1 ≤ c ∧ c ≤ 256) : partsF c = (1, c - 1, 0, 0) := by unfold partsF; rw [if_neg (by omega), if_pos h]
theorem parts_2 (c : Int) (h : 16777216 ≤ c ∧ c < 33554432) : partsF c = (2, c / 65536 % 256, c / 256 % 256, c % 256) := by
  unfold partsF; rw [if_neg (by omega), if_neg (by omega), if_pos ((isCol_iff c).2 (.inr h))]
theorem rgb_of (c : Int) (h : 16777216 ≤ c ∧ c < 33554432) : rgbF (c / 65536 % 256) (c / 256 % 256) (c % 256) = c := by unfold rgbF bndF; omega
theorem byte_ok (x : Int) (h : 0 ≤ x ∧ x ≤ 255) : isByteF x = true := by simp [isByteF, h.1, h.2]
/-- a colour of the palette, told by 5 -/
theorem go_five (n a : Int) (hn : n = 38 ∨ n = 48) (ha : 0 ≤ a ∧ a ≤ 255) (p : Pn) (m : List (List Int)) : apGo ([n] :: [5] :: [a] :: m).length p ([n] :: [5] :: [a] :: m) = apGo m.length (setCol p n (a + 1)) m := by
  have ht : tells [n] ([5] :: [a] :: m) = (a + 1, 2) := by
    unfold tells
    rw [if_neg (by simp)]
    unfold colF followF
    rw [if_pos ⟨by simp, by simp, by simp [byte_ok a ha]⟩]
    simp
  simp only [List.length_cons]
  rw [apGo, if_neg (by simp), if_neg (by rcases hn with rfl | rfl <;> simp), ht, if_neg (by simp; omega)]
  simp only [List.drop_succ_cons, List.drop_zero, List.getD_cons_zero]
  exact go_fuel _ _ _ _ (by omega) (by omega)
theorem go_two (n x y z : Int) (hn : n = 38 ∨ n = 48) (hx : 0 ≤ x ∧ x ≤ 255) (hy : 0 ≤ y ∧ y ≤ 255) (hz : 0 ≤ z ∧ z ≤ 255) (p : Pn) (m : List (List Int)) :
    apGo ([n] :: [2] :: [x] :: [y] :: [z] :: m).length p ([n] :: [2] :: [x] :: [y] :: [z] :: m) = apGo m.length (setCol p n (rgbF x y z)) m := by
  have ht : tells [n] ([2] :: [x] :: [y] :: [z] :: m) = (rgbF x y z, 4) := by
    unfold tells
    rw [if_neg (by simp)]
    unfold colF followF
    rw [if_neg (by simp), if_pos ⟨by simp, by simp, by simp [byte_ok x hx], by simp [byte_ok y hy], by simp [byte_ok z hz]⟩]
    simp
  simp only [List.length_cons]
  rw [apGo, if_neg (by simp), if_neg (by rcases hn with rfl | rfl <;> simp), ht, if_neg (by simp [rgbF, bndF]; omega)]
  simp only [List.drop_succ_cons, List.drop_zero, List.getD_cons_zero]
  exact go_fuel _ _ _ _ (by omega) (by omega)
theorem go_own (n : Int) (t : List Int) (c : Int) (hn : n = 38 ∨ n = 48) (ht : t ≠ []) (hc : (colF (innerF t)).1 = c) (p : Pn) : apGo ([n :: t] : List (List Int)).length p [n :: t] = setCol p n c := by
  have hl : 1 < (n :: t).length := by have := List.length_pos_iff.2 ht; simp; omega
  have hu : tells (n :: t) [] = (c, 0) := by
    unfold tells
    rw [if_pos hl, List.tail_cons, hc]
  show apGo 1 p [n :: t] = _
  rw [apGo, if_neg (by simp), if_neg (by rcases hn with rfl | rfl <;> simp), hu, if_neg (by intro h; exact h.2 hl)]
  simp only [List.drop_zero, List.getD_cons_zero]
  rfl
theorem go_one (n : Int) (hn : n ≠ 38 ∧ n ≠ 48) (p : Pn) (m : List (List Int)) : apGo ([n] :: m).length p ([n] :: m) = apGo m.length (oneF p [n]) m := by
  simp only [List.length_cons]
  rw [apGo, if_neg (by simp), if_pos (by simpa using hn)]
/-- a colour that is shown is set -/
theorem shown_fg (c : Int) (hc : isCol c = true) (b f : Int) (m : List (List Int)) : apGo (shownF c 30 ++ m).length ⟨0, b, f⟩ (shownF c 30 ++ m) = apGo m.length ⟨c, b, f⟩ m := by
  rcases (isCol_iff c).1 hc with h | h
  · by_cases h0 : c = 0
    · subst h0; rfl
    · have hp := parts_1 c (by omega)
      unfold shownF
      simp only [hp]
      by_cases h8 : c - 1 < 8
      · rw [if_pos ⟨trivial, h8⟩]
        show apGo ([30 + (c - 1)] :: m).length _ ([30 + (c - 1)] :: m) = _
        rw [go_one _ (by omega)]
        have : oneF ⟨0, b, f⟩ [30 + (c - 1)] = ⟨c, b, f⟩ := by
          unfold oneF
          simp only [List.getD_cons_zero]
          rw [if_neg (by omega), if_neg (by omega), if_neg (by omega), if_neg (by omega), if_neg (by omega), if_neg (by omega), if_pos (by omega)]
          rw [show 30 + (c - 1) - 30 + 1 = c by omega]
        rw [this]
      · rw [if_neg (by omega)]
        by_cases h16 : c - 1 < 16
        · rw [if_pos ⟨trivial, h16⟩]
          show apGo ([30 + 60 + (c - 1) - 8] :: m).length _ ([30 + 60 + (c - 1) - 8] :: m) = _
          rw [go_one _ (by omega)]
          have : oneF ⟨0, b, f⟩ [30 + 60 + (c - 1) - 8] = ⟨c, b, f⟩ := by
            unfold oneF
            simp only [List.getD_cons_zero]
            rw [if_neg (by omega), if_neg (by omega), if_neg (by omega), if_neg (by omega), if_neg (by omega), if_neg (by omega), if_neg (by omega), if_neg (by omega), if_neg (by omega), if_neg (by omega), if_pos (by omega)]
            rw [show 30 + 60 + (c - 1) - 8 - 90 + 8 + 1 = c by omega]
          rw [this]
        · rw [if_neg (by omega), if_pos trivial]
          show apGo ([30 + 8] :: [5] :: [c - 1] :: m).length _ ([30 + 8] :: [5] :: [c - 1] :: m) = _
          rw [go_five (30 + 8) (c - 1) (.inl (by omega)) (by omega)]
          have : setCol ⟨0, b, f⟩ (30 + 8) (c - 1 + 1) = ⟨c, b, f⟩ := by
            unfold setCol
            rw [if_neg (by omega), if_pos (by omega), show c - 1 + 1 = c by omega]
          rw [this]
  · have hp := parts_2 c h
    unfold shownF
    simp only [hp]
    rw [if_neg (by omega), if_neg (by omega), if_neg (by omega), if_pos trivial]
    show apGo ([30 + 8] :: [2] :: [c / 65536 % 256] :: [c / 256 % 256] :: [c % 256] :: m).length _ ([30 + 8] :: [2] :: [c / 65536 % 256] :: [c / 256 % 256] :: [c % 256] :: m) = _
    rw [go_two (30 + 8) _ _ _ (.inl (by omega)) (by omega) (by omega) (by omega), rgb_of c h]
    have : setCol ⟨0, b, f⟩ (30 + 8) c = ⟨c, b, f⟩ := by
      unfold setCol
      rw [if_neg (by omega), if_pos (by omega)]
    rw [this]
theorem shown_bg (c : Int) (hc : isCol c = true) (g f : Int) (m : List (List Int)) : apGo (shownF c 40 ++ m).length ⟨g, 0, f⟩ (shownF c 40 ++ m) = apGo m.length ⟨g, c, f⟩ m := by
  rcases (isCol_iff c).1 hc with h | h
  · by_cases h0 : c = 0
    · subst h0; rfl
    · have hp := parts_1 c (by omega)
      unfold shownF
      simp only [hp]
      by_cases h8 : c - 1 < 8
      · rw [if_pos ⟨trivial, h8⟩]
        show apGo ([40 + (c - 1)] :: m).length _ ([40 + (c - 1)] :: m) = _
        rw [go_one _ (by omega)]
        have : oneF ⟨g, 0, f⟩ [40 + (c - 1)] = ⟨g, c, f⟩ := by
          unfold oneF
          simp only [List.getD_cons_zero]
          rw [if_neg (by omega), if_neg (by omega), if_neg (by omega), if_neg (by omega), if_neg (by omega), if_neg (by omega), if_neg (by omega), if_neg (by omega), if_pos (by omega)]
          rw [show 40 + (c - 1) - 40 + 1 = c by omega]
        rw [this]
      · rw [if_neg (by omega)]
        by_cases h16 : c - 1 < 16
        · rw [if_pos ⟨trivial, h16⟩]
          show apGo ([40 + 60 + (c - 1) - 8] :: m).length _ ([40 + 60 + (c - 1) - 8] :: m) = _
          rw [go_one _ (by omega)]
          have : oneF ⟨g, 0, f⟩ [40 + 60 + (c - 1) - 8] = ⟨g, c, f⟩ := by
            unfold oneF
            simp only [List.getD_cons_zero]
            rw [if_neg (by omega), if_neg (by omega), if_neg (by omega), if_neg (by omega), if_neg (by omega), if_neg (by omega), if_neg (by omega), if_neg (by omega), if_neg (by omega), if_neg (by omega), if_neg (by omega), if_pos (by omega)]
            rw [show 40 + 60 + (c - 1) - 8 - 100 + 8 + 1 = c by omega]
          rw [this]
        · rw [if_neg (by omega), if_pos trivial]
          show apGo ([40 + 8] :: [5] :: [c - 1] :: m).length _ ([40 + 8] :: [5] :: [c - 1] :: m) = _
          rw [go_five (40 + 8) (c - 1) (.inr (by omega)) (by omega)]
          have : setCol ⟨g, 0, f⟩ (40 + 8) (c - 1 + 1) = ⟨g, c, f⟩ := by
            unfold setCol
            rw [if_neg (by omega), if_neg (by omega), show c - 1 + 1 = c by omega]
          rw [this]
  · have hp := parts_2 c h
    unfold shownF
    simp only [hp]
    rw [if_neg (by omega), if_neg (by omega), if_neg (by omega), if_pos trivial]
    show apGo ([40 + 8] :: [2] :: [c / 65536 % 256] :: [c / 256 % 256] :: [c % 256] :: m).length _ ([40 + 8] :: [2] :: [c / 65536 % 256] :: [c / 256 % 256] :: [c % 256] :: m) = _
    rw [go_two (40 + 8) _ _ _ (.inr (by omega)) (by omega) (by omega) (by omega), rgb_of c h]
    have : setCol ⟨g, 0, f⟩ (40 + 8) c = ⟨g, c, f⟩ := by
      unfold setCol
      rw [if_neg (by omega), if_neg (by omega)]
    rw [this]
theorem print_ap (p q : Pn) (hp : sanePn p = true) (hq : sanePn q = true) : applyF q (printF p) = ⟨p.fg, p.bg, flagB p.fl⟩ := by
  have hs := (sane_iff p).1 hp
  have hl : printF p = [0] :: (flagsF p.fl ++ (shownF p.fg 30 ++ (shownF p.bg 40 ++ []))) := by
    unfold printF
    rw [if_neg (by rw [hp]; simp)]
    simp
  rw [hl, ap_sane hq (by simp), go_one 0 (by omega)]
  have h0 : oneF q [0] = ⟨0, 0, 0⟩ := by unfold oneF; rw [if_pos (by simp)]
  obtain ⟨f1, f2⟩ := flags_ap p.fl hs.2.2.1 hs.2.2.2
  rw [h0, go_app _ (flagsF p.fl) _ (fun x hx _ => f2 x hx), f1, shown_fg _ hs.1, shown_bg _ hs.2.1]
  try rfl
theorem print_len (p : Pn) (hp : sanePn p = true) : 1 ≤ (printF p).length := by
  unfold printF
  rw [if_neg (by rw [hp]; simp)]
  simp
end Go.Proofs.YtcempbgbdlmjfaaDoor
