/-
  Ranges, the plain part: tables of ranges as lists, what they tell of each number, and the laws of make, over and total. No program in sight.
-/
namespace Go.Proofs.Ytcempbgbdlmjfaa

structure R where
  lo : Int
  hi : Int
  v : Int

theorem R.ext' {x y : R} (h1 : x.lo = y.lo) (h2 : x.hi = y.hi) (h3 : x.v = y.v) : x = y := by
  cases x; cases y; simp_all

def fitsB (x : R) : Bool := decide (0 ≤ x.lo ∧ x.lo ≤ x.hi ∧ x.hi ≤ 1114111 ∧ 1 ≤ x.v ∧ x.v ≤ 255)
def touchB (a b : R) : Bool := decide (b.lo = a.hi + 1 ∧ b.v = a.v)
def okAft : Option R → R → Bool
  | none, _ => true
  | some q, x => !(decide (x.lo ≤ q.hi) || touchB q x)
def saneFrom : Option R → List R → Bool
  | _, [] => true
  | p, x :: xs => fitsB x && (okAft p x && saneFrom (some x) xs)
def saneF (l : List R) : Bool := decide (l.length ≤ 4096) && saneFrom none l
def pv (l : List R) (k : Nat) : Option R := if k = 0 then none else l[k-1]?

theorem sane_step (l : List R) (k : Nat) (h : k < l.length) :
    saneFrom (pv l k) (l.drop k) = (fitsB l[k] && (okAft (pv l k) l[k] && saneFrom (pv l (k+1)) (l.drop (k+1)))) := by
  rw [List.drop_eq_getElem_cons h]
  simp [saneFrom, pv, h]

def getF : List R → Int → Int
  | [], _ => 0
  | x :: xs, r => if x.lo ≤ r ∧ r ≤ x.hi then x.v else getF xs r

theorem get_step (l : List R) (k : Nat) (h : k < l.length) (r : Int) : getF (l.drop k) r = if l[k].lo ≤ r ∧ r ≤ l[k].hi then l[k].v else getF (l.drop (k+1)) r := by
  rw [List.drop_eq_getElem_cons h]; rfl

def totGo : List R → Int
  | [] => 0
  | x :: xs => (x.hi - x.lo + 1) + totGo xs
def totF (l : List R) : Int := if saneF l then totGo l else 0

def joinF (l : List R) (x : R) : List R :=
  match l.getLast? with
  | some q => if touchB q x then l.dropLast ++ [⟨q.lo, x.hi, q.v⟩] else l ++ [x]
  | none => l ++ [x]

/-- may a list of rows be made a table: each fits, each begins behind the one before -/
def aftB : Option R → R → Bool
  | none, _ => true
  | some q, x => decide (q.hi < x.lo)
def okFrom : Option R → List R → Bool
  | _, [] => true
  | p, x :: xs => fitsB x && (aftB p x && okFrom (some x) xs)
def okL (l : List R) : Bool := okFrom none l

def makeGo (l : List R) (acc : List R) : List R := l.foldl joinF acc
def makeF (l : List R) : List R × Int :=
  if okL l then (if 4096 < (makeGo l []).length then ([], 3) else (makeGo l [], 0)) else ([], 1)

def betGo : List R → List R → Nat → Int → Int → List R × Nat
  | l, [], i, _, _ => (l, i)
  | l, x :: xs, i, fr, to =>
    if x.lo ≤ to then
      let y : R := ⟨max x.lo fr, min x.hi to, x.v⟩
      let l' := if y.lo ≤ y.hi then joinF l y else l
      if to < x.hi then (l', i) else betGo l' xs (i+1) fr to
    else (l, i)
def betF (l a : List R) (i : Nat) (fr to : Int) : List R × Nat := betGo l (a.drop i) i fr to

def overStep (a : List R) (s : List R × Nat × Int) (x : R) : List R × Nat × Int :=
  (joinF (betF s.1 a s.2.1 s.2.2 (x.lo - 1)).1 x, (betF s.1 a s.2.1 s.2.2 (x.lo - 1)).2, x.hi + 1)
def overRaw (a b : List R) : List R :=
  let s := b.foldl (overStep a) ([], 0, 0)
  (betF s.1 a s.2.1 s.2.2 1114111).1
def overF (a b : List R) : List R :=
  if saneF a && saneF b then (if 4096 < (overRaw a b).length then [] else overRaw a b) else []

/-! ### sane tables as propositions -/

def Fit (x : R) : Prop := 0 ≤ x.lo ∧ x.lo ≤ x.hi ∧ x.hi ≤ 1114111 ∧ 1 ≤ x.v ∧ x.v ≤ 255
theorem fitsB_iff (x : R) : fitsB x = true ↔ Fit x := by simp [fitsB, Fit]

/-- a table whose rows begin at lo or later, the first of which doesn't go on with (h, v) -/
inductive San : Int → Int → Int → List R → Prop
  | nil (m h v : Int) : San m h v []
  | cons (m h v : Int) (x : R) (xs : List R) : Fit x → m ≤ x.lo → ¬ (x.lo = h ∧ x.v = v) → San (x.hi + 1) (x.hi + 1) x.v xs → San m h v (x :: xs)

theorem sane_some (q : R) (l : List R) : saneFrom (some q) l = true ↔ San (q.hi + 1) (q.hi + 1) q.v l := by
  induction l generalizing q with
  | nil => simp [saneFrom]; exact .nil _ _ _
  | cons x xs ih =>
    simp only [saneFrom, Bool.and_eq_true, fitsB_iff, ih, okAft, touchB]
    constructor
    · rintro ⟨hf, ho, hs⟩
      simp only [Bool.not_eq_true', Bool.or_eq_false_iff, decide_eq_false_iff_not] at ho
      exact .cons _ _ _ _ _ hf (by omega) (fun h => ho.2 h) hs
    · intro h
      cases h with
      | cons _ _ _ _ _ hf hm hn hs =>
        refine ⟨hf, ?_, hs⟩
        simp only [Bool.not_eq_true', Bool.or_eq_false_iff, decide_eq_false_iff_not]
        exact ⟨by omega, hn⟩

theorem sane_none (l : List R) : saneFrom none l = true ↔ San 0 (-1) 0 l := by
  cases l with
  | nil => simp [saneFrom]; exact .nil _ _ _
  | cons x xs =>
    simp only [saneFrom, Bool.and_eq_true, fitsB_iff, sane_some, okAft]
    constructor
    · rintro ⟨hf, _, hs⟩
      exact .cons _ _ _ _ _ hf hf.1 (fun h => by have := hf.1; omega) hs
    · intro h
      cases h with
      | cons _ _ _ _ _ hf hm hn hs => exact ⟨hf, trivial, hs⟩

theorem San.low {m h v : Int} {l : List R} (hs : San m h v l) {r : Int} (hr : r < m) : getF l r = 0 := by
  induction hs with
  | nil => rfl
  | cons m h v x xs hf hm hn hs ih =>
    obtain ⟨f1, f2, f3, f4, f5⟩ := hf
    simp only [getF]
    rw [if_neg (by omega)]
    exact ih (by omega)

theorem San.pos {m h v : Int} {l : List R} (hs : San m h v l) (r : Int) : 0 ≤ getF l r ∧ getF l r ≤ 255 := by
  induction hs with
  | nil => simp [getF]
  | cons m h v x xs hf hm hn hs ih =>
    obtain ⟨f1, f2, f3, f4, f5⟩ := hf
    simp only [getF]
    split <;> omega

theorem San.high {m h v : Int} {l : List R} (hs : San m h v l) {r : Int} (hr : 1114111 < r) : getF l r = 0 := by
  induction hs with
  | nil => rfl
  | cons m h v x xs hf hm hn hs ih =>
    obtain ⟨f1, f2, f3, f4, f5⟩ := hf
    simp only [getF]
    rw [if_neg (by omega)]
    exact ih

theorem San.weak {m m' h h' v v' : Int} {l : List R} (hs : San m h v l) (hm : m' ≤ m) (hh : h' < m ∨ (h' = h ∧ v' = v) ∨ v' = 0) : San m' h' v' l := by
  cases hs with
  | nil => exact .nil _ _ _
  | cons _ _ _ x xs hf hm' hn hs =>
    refine .cons _ _ _ _ _ hf (by omega) ?_ hs
    rintro ⟨e1, e2⟩
    rcases hh with hh | ⟨rfl, rfl⟩ | rfl
    · omega
    · exact hn ⟨e1, e2⟩
    · have := hf.2.2.2.1; omega

/-- two sane tables that tell the same of each number are the same -/
theorem San.uniq {m h v m' h' v' : Int} {l l' : List R} (hs : San m h v l) (hs' : San m' h' v' l') (hg : ∀ r, getF l r = getF l' r) : l = l' := by
  induction hs generalizing m' h' v' l' with
  | nil =>
    cases hs' with
    | nil => rfl
    | cons _ _ _ y ys hf _ _ _ =>
      have := hg y.lo
      obtain ⟨f1, f2, f3, f4, f5⟩ := hf
      simp only [getF] at this
      rw [if_pos (by omega)] at this
      omega
  | cons m h v x xs hf hm hn hs ih =>
    obtain ⟨f1, f2, f3, f4, f5⟩ := hf
    cases hs' with
    | nil =>
      have := hg x.lo
      simp only [getF] at this
      rw [if_pos (by omega)] at this
      omega
    | cons _ _ _ y ys hf' hm' hn' hs' =>
      obtain ⟨e1, e2, e3, e4, e5⟩ := hf'
      have hlo : x.lo = y.lo := by
        rcases Int.lt_trichotomy x.lo y.lo with hc | hc | hc
        · have := hg x.lo
          simp only [getF] at this
          rw [if_pos (by omega), if_neg (by omega), hs'.low (by omega)] at this
          omega
        · exact hc
        · have := hg y.lo
          simp only [getF] at this
          rw [if_neg (by omega), if_pos (by omega), hs.low (by omega)] at this
          omega
      have hv : x.v = y.v := by
        have := hg x.lo
        simp only [getF] at this
        rw [if_pos (by omega), if_pos (by omega)] at this
        exact this
      have nextv : ∀ {k w : Int} {t : List R}, San k k w t → w ≠ 0 → getF t k ≠ w := by
        intro k w t ht hw
        cases ht with
        | nil => simpa [getF] using fun h => hw h.symm
        | cons _ _ _ z zs hz hmz hnz hsz =>
          simp only [getF]
          split
          · rename_i hc
            have : z.lo = k := by omega
            intro e
            exact hnz ⟨this, e⟩
          · have : getF zs k = 0 := hsz.low (by have := hz.2.1; omega)
            rw [this]; exact fun h => hw h.symm
      have hhi : x.hi = y.hi := by
        rcases Int.lt_trichotomy x.hi y.hi with hc | hc | hc
        · have := hg (x.hi + 1)
          simp only [getF] at this
          rw [if_neg (by omega), if_pos (by omega)] at this
          exact absurd (this.trans hv.symm) (nextv hs (by omega))
        · exact hc
        · have := hg (y.hi + 1)
          simp only [getF] at this
          rw [if_pos (by omega), if_neg (by omega)] at this
          exact absurd (this.symm.trans hv) (nextv hs' (by omega))
      have hxy : x = y := R.ext' hlo hhi hv
      subst hxy
      congr 1
      refine ih hs' fun r => ?_
      by_cases hr : r < x.hi + 1
      · rw [hs.low hr, hs'.low hr]
      · have := hg r
        simp only [getF] at this
        rwa [if_neg (by omega), if_neg (by omega)] at this

/-! ### tables that are made behind: rows, all below m; the last one is q -/

/-- 'Beh l m': l is a sane table all of whose rows end below m -/
def Beh (l : List R) (m : Int) : Prop := San 0 (-1) 0 l ∧ ∀ x ∈ l, x.hi < m

theorem getF_append (l l' : List R) (r : Int) : (∀ x ∈ l, ¬ (x.lo ≤ r ∧ r ≤ x.hi)) → getF (l ++ l') r = getF l' r := by
  induction l with
  | nil => intro _; rfl
  | cons x xs ih =>
    intro h
    simp only [List.cons_append, getF]
    rw [if_neg (h x (by simp))]
    exact ih fun y hy => h y (by simp [hy])
theorem getF_append_left (l l' : List R) (r : Int) : getF l r ≠ 0 → getF (l ++ l') r = getF l r := by
  induction l with
  | nil => intro h; exact absurd rfl h
  | cons x xs ih =>
    simp only [List.cons_append, getF]
    split
    · intro _; rfl
    · exact ih
theorem getF_none {l : List R} {r : Int} (h : ∀ x ∈ l, ¬ (x.lo ≤ r ∧ r ≤ x.hi)) : getF l r = 0 := by
  have := getF_append l [] r h
  simpa [getF] using this
theorem getF_append_or {l l' : List R} {r : Int} (h : getF l' r = 0) : getF (l ++ l') r = getF l r := by
  by_cases h0 : getF l r = 0
  · rw [h0]
    induction l with
    | nil => exact h
    | cons x xs ih =>
      simp only [List.cons_append, getF] at h0 ⊢
      split
      · rename_i hc; rw [if_pos hc] at h0; exact h0
      · rename_i hc; rw [if_neg hc] at h0; exact ih h0
  · exact getF_append_left _ _ _ h0

/-- a sane table, split at its end -/
theorem San.snoc {m h v : Int} {l : List R} {x : R} (hs : San m h v l) (hx : Fit x) (hm : m ≤ x.lo) (hall : ∀ y ∈ l, y.hi < x.lo)
    (hne : match l.getLast? with | some q => ¬ (x.lo = q.hi + 1 ∧ x.v = q.v) | none => ¬ (x.lo = h ∧ x.v = v)) : San m h v (l ++ [x]) := by
  induction hs with
  | nil m h v => exact .cons _ _ _ _ _ hx hm hne (.nil _ _ _)
  | cons m h v y ys hf hm' hn hs ih =>
    rw [List.cons_append]
    refine .cons _ _ _ _ _ hf hm' hn (ih (by have := hall y (by simp); omega) (fun z hz => hall z (by simp [hz])) ?_)
    cases ys with
    | nil => simpa using hne
    | cons z zs =>
      rw [List.getLast?_cons_cons] at hne
      cases hz : (z :: zs).getLast? with
      | none => simp at hz
      | some q => rw [hz] at hne; exact hne

theorem San.stretch {m h v : Int} {l : List R} {q : R} {hi : Int} (hs : San m h v (l ++ [q])) (h1 : q.hi ≤ hi) (h2 : hi ≤ 1114111) : San m h v (l ++ [⟨q.lo, hi, q.v⟩]) := by
  induction l generalizing m h v with
  | nil =>
    cases hs with
    | cons _ _ _ _ _ hf hm hn _ =>
      obtain ⟨f1, f2, f3, f4, f5⟩ := hf
      exact .cons _ _ _ _ _ ⟨f1, by simp only; omega, h2, f4, f5⟩ hm hn (.nil _ _ _)
  | cons y ys ih =>
    cases hs with
    | cons _ _ _ _ _ hf hm hn hs => exact .cons _ _ _ _ _ hf hm hn (ih hs)

theorem San.memfit {m h v : Int} {l : List R} (hs : San m h v l) : ∀ x ∈ l, Fit x ∧ m ≤ x.lo := by
  induction hs with
  | nil => simp
  | cons m h v x xs hf hm hn hs ih =>
    intro y hy
    rcases List.mem_cons.1 hy with rfl | hy
    · exact ⟨hf, hm⟩
    · have := ih y hy
      refine ⟨this.1, ?_⟩
      have := hf.2.1
      omega

theorem getF_snoc_new {l : List R} {x : R} {r : Int} (hall : ∀ y ∈ l, y.hi < x.lo) (hr : x.lo ≤ r) : getF (l ++ [x]) r = if r ≤ x.hi then x.v else 0 := by
  rw [getF_append l [x] r (fun y hy => by have := hall y hy; omega)]
  simp only [getF]
  split <;> split <;> first | rfl | omega
theorem getF_snoc_old {l : List R} {x : R} {r : Int} (hr : r < x.lo) : getF (l ++ [x]) r = getF l r :=
  getF_append_or (by simp only [getF]; rw [if_neg (by omega)])

theorem joinF_get {l : List R} {x : R} (hb : Beh l x.lo) (hx : Fit x) (r : Int) :
    getF (joinF l x) r = if x.lo ≤ r then (if r ≤ x.hi then x.v else 0) else getF l r := by
  obtain ⟨hs, hall⟩ := hb
  unfold joinF
  have hplain : getF (l ++ [x]) r = if x.lo ≤ r then (if r ≤ x.hi then x.v else 0) else getF l r := by
    split
    · rename_i h; exact getF_snoc_new hall h
    · exact getF_snoc_old (by omega)
  split
  · rename_i q hq
    split
    · rename_i ht
      simp only [touchB, decide_eq_true_eq] at ht
      obtain ⟨t1, t2⟩ := ht
      obtain ⟨l0, rfl⟩ : ∃ l0, l = l0 ++ [q] := by
        rw [List.getLast?_eq_some_iff] at hq
        exact hq
      have hall0 : ∀ y ∈ l0, y.hi < q.lo := by
        have := hs
        clear hplain hq hx t1 t2
        induction l0 generalizing q with
        | nil => simp
        | cons y ys ih =>
          intro z hz
          have key : ∀ {m h v : Int} {t : List R}, San m h v (t ++ [q]) → ∀ z ∈ t, z.hi < q.lo := by
            intro m h v t
            induction t generalizing m h v with
            | nil => intro _ z hz; simp at hz
            | cons a as iha =>
              intro hsa z hz
              rw [List.cons_append] at hsa
              cases hsa with
              | cons _ _ _ _ _ hf hm hn hs2 =>
                rcases List.mem_cons.1 hz with rfl | hz
                · have := (hs2.memfit q (by simp)).2
                  omega
                · exact iha hs2 z hz
          exact key this z hz
      simp only [List.dropLast_concat]
      have hqf := (hs.memfit q (by simp)).1
      have hql : q.hi < x.lo := hall q (by simp)
      obtain ⟨f1, f2, f3, f4, f5⟩ := hqf
      obtain ⟨g1, g2, g3, g4, g5⟩ := hx
      by_cases hr : q.lo ≤ r
      · have e1 := getF_snoc_new (l := l0) (x := ⟨q.lo, x.hi, q.v⟩) (r := r) hall0 hr
        have e2 := getF_snoc_new (l := l0) (x := q) (r := r) hall0 hr
        rw [e1, e2]
        simp only
        (repeat' split) <;> first | rfl | omega
      · have e1 := getF_snoc_old (l := l0) (x := ⟨q.lo, x.hi, q.v⟩) (r := r) (by simp only; omega)
        have e2 := getF_snoc_old (l := l0) (x := q) (r := r) (by omega)
        rw [e1, e2, if_neg (by omega)]
    · exact hplain
  · exact hplain

theorem joinF_beh {l : List R} {x : R} (hb : Beh l x.lo) (hx : Fit x) : Beh (joinF l x) (x.hi + 1) := by
  obtain ⟨hs, hall⟩ := hb
  obtain ⟨g1, g2, g3, g4, g5⟩ := id hx
  unfold joinF
  split
  · rename_i q hq
    split
    · rename_i ht
      simp only [touchB, decide_eq_true_eq] at ht
      obtain ⟨l0, rfl⟩ : ∃ l0, l = l0 ++ [q] := by
        rw [List.getLast?_eq_some_iff] at hq
        exact hq
      simp only [List.dropLast_concat]
      refine ⟨hs.stretch (by have := hall q (by simp); omega) g3, fun y hy => ?_⟩
      rcases List.mem_append.1 hy with hy | hy
      · have := hall y (by simp [hy]); omega
      · simp at hy; subst hy; simp only; omega
    · rename_i ht
      refine ⟨hs.snoc hx g1 hall ?_, fun y hy => ?_⟩
      · rw [hq]
        simpa [touchB] using ht
      · rcases List.mem_append.1 hy with hy | hy
        · have := hall y hy; omega
        · simp at hy; subst hy; omega
  · rename_i hq
    refine ⟨hs.snoc hx g1 hall ?_, fun y hy => ?_⟩
    · rw [hq]
      rintro ⟨e, _⟩; omega
    · rcases List.mem_append.1 hy with hy | hy
      · have := hall y hy; omega
      · simp at hy; subst hy; omega

theorem joinF_len (l : List R) (x : R) : (joinF l x).length ≤ l.length + 1 := by
  unfold joinF
  split
  · split
    · simp
    · simp
  · simp
theorem joinF_pos (l : List R) (x : R) : 0 < (joinF l x).length := by
  unfold joinF
  split
  · split <;> simp
  · simp

theorem totGo_append (l l' : List R) : totGo (l ++ l') = totGo l + totGo l' := by
  induction l with
  | nil => simp [totGo]
  | cons x xs ih => simp [totGo, ih]; omega
theorem joinF_tot {l : List R} {x : R} (hb : Beh l x.lo) : totGo (joinF l x) = totGo l + (x.hi - x.lo + 1) := by
  unfold joinF
  split
  · rename_i q hq
    split
    · rename_i ht
      simp only [touchB, decide_eq_true_eq] at ht
      obtain ⟨l0, rfl⟩ : ∃ l0, l = l0 ++ [q] := by
        rw [List.getLast?_eq_some_iff] at hq
        exact hq
      simp only [List.dropLast_concat, totGo_append, totGo]
      omega
    · simp [totGo_append, totGo]
  · simp [totGo_append, totGo]

/-! ### make -/
theorem Beh.mono {l : List R} {m m' : Int} (h : Beh l m) (hm : m ≤ m') : Beh l m' := ⟨h.1, fun x hx => by have := h.2 x hx; omega⟩
theorem beh_nil (m : Int) : Beh [] m := ⟨.nil _ _ _, by simp⟩

theorem okFrom_cons (p : Option R) (x : R) (xs : List R) : okFrom p (x :: xs) = true ↔ Fit x ∧ (∀ q, p = some q → q.hi < x.lo) ∧ okFrom (some x) xs = true := by
  simp only [okFrom, Bool.and_eq_true, fitsB_iff]
  cases p <;> simp [aftB]

theorem ok_low (q : R) (l : List R) (h : okFrom (some q) l = true) {r : Int} (hr : r ≤ q.hi) : getF l r = 0 := by
  induction l generalizing q with
  | nil => rfl
  | cons x xs ih =>
    obtain ⟨hf, hq, hs⟩ := (okFrom_cons _ _ _).1 h
    have := hq q rfl
    simp only [getF]
    rw [if_neg (by omega)]
    exact ih x hs (by have := hf.2.1; omega)

theorem make_spec (l : List R) : ∀ (p : Option R) (acc : List R) (m : Int), okFrom p l = true → (∀ q, p = some q → m = q.hi + 1) → (p = none → m = 0 ∧ acc = []) → Beh acc m →
    San 0 (-1) 0 (makeGo l acc) ∧ (∀ r, getF (makeGo l acc) r = if r < m then getF acc r else getF l r) ∧ totGo (makeGo l acc) = totGo acc + totGo l ∧ (makeGo l acc).length ≤ acc.length + l.length := by
  induction l with
  | nil =>
    intro p acc m _ _ _ hb
    refine ⟨hb.1, fun r => ?_, by simp [makeGo, totGo], by simp [makeGo]⟩
    simp only [makeGo, List.foldl_nil]
    split
    · rfl
    · exact getF_none fun x hx => by have := hb.2 x hx; omega
  | cons x xs ih =>
    intro p acc m hok hp hn hb
    obtain ⟨hf, hq, hs⟩ := (okFrom_cons _ _ _).1 hok
    have hm : m ≤ x.lo := by
      cases p with
      | none => have := (hn rfl).1; have := hf.1; omega
      | some q => have := hp q rfl; have := hq q rfl; omega
    have hb' := hb.mono hm
    have hj := joinF_beh hb' hf
    obtain ⟨h1, h2, h3, h4⟩ := ih (some x) (joinF acc x) (x.hi + 1) hs (by rintro q ⟨⟩; rfl) (by simp) hj
    have hl := joinF_len acc x
    refine ⟨h1, fun r => ?_, ?_, ?_⟩
    · show getF (makeGo xs (joinF acc x)) r = _
      rw [h2 r, joinF_get hb' hf]
      simp only [getF]
      by_cases hr : r < m
      · rw [if_pos (by have := hf.2.1; omega), if_neg (by omega), if_pos hr]
      · rw [if_neg hr]
        by_cases hr2 : r < x.hi + 1
        · rw [if_pos hr2]
          by_cases hr3 : x.lo ≤ r
          · rw [if_pos hr3, if_pos (by omega), if_pos (by omega)]
          · rw [if_neg hr3, if_neg (by omega), ok_low x xs hs (by have := hf.2.1; omega)]
            exact getF_none fun y hy => by have := hb.2 y hy; omega
        · rw [if_neg hr2, if_neg (by omega)]
    · show totGo (makeGo xs (joinF acc x)) = _
      rw [h3, joinF_tot hb']; simp only [totGo]; omega
    · show (makeGo xs (joinF acc x)).length ≤ _
      simp only [List.length_cons]; omega

/-- what is made -/
theorem makeL_spec (l : List R) (h : okL l = true) : San 0 (-1) 0 (makeGo l []) ∧ (∀ r, getF (makeGo l []) r = getF l r) ∧ totGo (makeGo l []) = totGo l ∧ (makeGo l []).length ≤ l.length := by
  obtain ⟨h1, h2, h3, h4⟩ := make_spec l none [] 0 h (by simp) (by simp) (beh_nil _)
  refine ⟨h1, fun r => ?_, by simpa [totGo] using h3, by simpa using h4⟩
  rw [h2 r]
  split
  · rename_i hr
    symm
    refine getF_none fun x hx => ?_
    have key : ∀ (t : List R) (p : Option R), okFrom p t = true → ∀ x ∈ t, 0 ≤ x.lo := by
      intro t
      induction t with
      | nil => intro p _ x hx; simp at hx
      | cons y ys ih =>
        intro p hok x hx
        obtain ⟨hf, _, hs⟩ := (okFrom_cons _ _ _).1 hok
        rcases List.mem_cons.1 hx with rfl | hx
        · exact hf.1
        · exact ih _ hs x hx
    have := key l none h x hx
    omega
  · rfl

theorem San.ok {m h v : Int} {l : List R} (hs : San m h v l) : ∀ p : Option R, (∀ q, p = some q → q.hi < m) → okFrom p l = true := by
  induction hs with
  | nil => intro p _; simp [okFrom]
  | cons m h v x xs hf hm hn hs ih =>
    intro p hp
    exact (okFrom_cons _ _ _).2 ⟨hf, fun q hq => by have := hp q hq; omega, ih (some x) (by rintro q ⟨⟩; omega)⟩

/-- made again it is the same -/
theorem make_again {l : List R} (hs : San 0 (-1) 0 l) : makeGo l [] = l := by
  obtain ⟨h1, h2, _⟩ := makeL_spec l (hs.ok none (by simp))
  exact h1.uniq hs h2

/-! ### between and over -/

theorem betGo_spec (xs : List R) : ∀ (l : List R) (i : Nat) (fr to m h v : Int), San m h v xs → to ≤ 1114111 → 0 ≤ fr → Beh l fr →
    Beh (betGo l xs i fr to).1 (max fr (to + 1)) ∧
    (∀ r, getF (betGo l xs i fr to).1 r = if r < fr then getF l r else if r ≤ to then getF xs r else 0) ∧
    (∃ d, (betGo l xs i fr to).2 = i + d ∧ d ≤ xs.length ∧ (∀ r, to < r → getF (xs.drop d) r = getF xs r) ∧ (betGo l xs i fr to).1.length + (xs.length - d) ≤ l.length + xs.length + 1 ∧ (∃ m' h' v', San m' h' v' (xs.drop d) ∧ m ≤ m')) := by
  induction xs with
  | nil =>
    intro l i fr to m h v hs hto hfr hb
    refine ⟨hb.mono (by omega), fun r => ?_, 0, rfl, by simp, by simp, by simp [betGo], m, h, v, by simpa using hs, Int.le_refl _⟩
    simp only [betGo, getF]
    split
    · rfl
    · split <;> exact getF_none fun x hx => by have := hb.2 x hx; omega
  | cons x xs ih =>
    intro l i fr to m h v hs hto hfr hb
    cases hs with
    | cons _ _ _ _ _ hf hm hn hs =>
    obtain ⟨f1, f2, f3, f4, f5⟩ := id hf
    simp only [betGo]
    by_cases hlo : x.lo ≤ to
    · rw [if_pos hlo]
      -- the piece
      have hstep : ∃ l', (if max x.lo fr ≤ min x.hi to then joinF l ⟨max x.lo fr, min x.hi to, x.v⟩ else l) = l' ∧ Beh l' (max fr (min x.hi to + 1)) ∧ l'.length ≤ l.length + 1 ∧
          ∀ r, getF l' r = if r < fr then getF l r else if r ≤ to then (if x.lo ≤ r ∧ r ≤ x.hi then x.v else 0) else 0 := by
        refine ⟨_, rfl, ?_⟩
        by_cases hp : max x.lo fr ≤ min x.hi to
        · rw [if_pos hp]
          have hfy : Fit (⟨max x.lo fr, min x.hi to, x.v⟩ : R) := ⟨by simp only; omega, hp, by simp only; omega, f4, f5⟩
          have hby : Beh l (⟨max x.lo fr, min x.hi to, x.v⟩ : R).lo := hb.mono (by simp only; omega)
          refine ⟨(joinF_beh hby hfy).mono (by simp only; omega), joinF_len _ _, fun r => ?_⟩
          rw [joinF_get hby hfy]
          simp only
          by_cases hr : r < fr
          · rw [if_neg (by omega), if_pos hr]
          · rw [if_neg hr]
            by_cases h1 : max x.lo fr ≤ r
            · rw [if_pos h1]
              (repeat' split) <;> first | rfl | omega
            · rw [if_neg h1, getF_none (fun y hy => by have := hb.2 y hy; omega)]
              (repeat' split) <;> first | rfl | omega
        · rw [if_neg hp]
          refine ⟨hb.mono (by omega), by omega, fun r => ?_⟩
          by_cases hr : r < fr
          · rw [if_pos hr]
          · rw [if_neg hr, getF_none (fun y hy => by have := hb.2 y hy; omega)]
            (repeat' split) <;> first | rfl | omega
      obtain ⟨l', hl', hb', hlen', hg'⟩ := hstep
      rw [hl']
      by_cases hhi : to < x.hi
      · rw [if_pos hhi]
        refine ⟨hb'.mono (by omega), fun r => ?_, 0, rfl, by simp, by simp, by simp; omega, m, h, v, .cons _ _ _ _ _ hf hm hn hs, Int.le_refl _⟩
        rw [hg' r]
        split
        · rfl
        · split
          · simp only [getF]
            split
            · rfl
            · rw [hs.low (by omega)]
          · rfl
      · rw [if_neg hhi]
        have hb2 : Beh l' (max fr (x.hi + 1)) := hb'.mono (by omega)
        obtain ⟨g1, g2, d, g3, g4, g5, g6, m', h', v', g7, g8⟩ := ih l' (i + 1) (max fr (x.hi + 1)) to _ _ _ hs hto (by omega) hb2
        -- the walk goes on from fr: between fr and x.hi nothing of the rest lies
        have hsame : ∀ (zs : List R) (l0 : List R) (j : Nat) (m0 h0 v0 : Int), San m0 h0 v0 zs → x.hi + 1 ≤ m0 → betGo l0 zs j fr to = betGo l0 zs j (max fr (x.hi + 1)) to := by
          intro zs
          induction zs with
          | nil => intro l0 j m0 h0 v0 _ _; rfl
          | cons z zs ihz =>
            intro l0 j m0 h0 v0 hz hm0
            cases hz with
            | cons _ _ _ _ _ hfz hmz hnz hsz =>
              simp only [betGo]
              have e : max z.lo fr = max z.lo (max fr (x.hi + 1)) := by omega
              rw [e]
              split
              · split
                · rfl
                · exact ihz _ _ _ _ _ hsz (by have := hfz.2.1; omega)
              · rfl
        rw [hsame xs l' (i + 1) _ _ _ hs (Int.le_refl _)]
        refine ⟨g1.mono (by omega), fun r => ?_, d + 1, by rw [g3]; omega, by simp; omega, fun r hr => ?_, ?_, m', h', v', by simpa using g7, by omega⟩
        · rw [g2 r]
          by_cases hr : r < fr
          · rw [if_pos (by omega), if_pos hr, hg' r, if_pos hr]
          · rw [if_neg hr]
            by_cases hr2 : r < max fr (x.hi + 1)
            · rw [if_pos hr2, hg' r, if_neg hr]
              simp only [show r ≤ to from by omega, if_true, getF]
              split
              · rfl
              · rw [hs.low (by omega)]
            · rw [if_neg hr2]
              split
              · simp only [getF]; rw [if_neg (by omega)]
              · rfl
        · simp only [List.drop_succ_cons]
          rw [g5 r hr]
          simp only [getF]
          rw [if_neg (by omega)]
        · simp only [List.length_cons]; omega
    · rw [if_neg hlo]
      refine ⟨hb.mono (by omega), fun r => ?_, 0, rfl, by simp, by simp, by simp, m, h, v, .cons _ _ _ _ _ hf hm hn hs, Int.le_refl _⟩
      simp only
      split
      · rfl
      · rw [getF_none (fun y hy => by have := hb.2 y hy; omega)]
        split
        · simp only [getF]
          rw [if_neg (by omega), hs.low (by omega)]
        · rfl

theorem over_fold (a : List R) (b : List R) : ∀ (s : List R × Nat × Int) (h v : Int), San s.2.2 h v b → 0 ≤ s.2.2 → Beh s.1 s.2.2 → s.2.1 ≤ a.length →
    (∃ m' h' v', San m' h' v' (a.drop s.2.1)) → (∀ r, s.2.2 ≤ r → getF (a.drop s.2.1) r = getF a r) →
    ∃ t i n, b.foldl (overStep a) s = (t, i, n) ∧ 0 ≤ n ∧ Beh t n ∧ i ≤ a.length ∧ (∃ m' h' v', San m' h' v' (a.drop i)) ∧ (∀ r, n ≤ r → getF (a.drop i) r = getF a r) ∧
      (∀ r, r < n → getF t r = if r < s.2.2 then getF s.1 r else if getF b r = 0 then getF a r else getF b r) ∧ (∀ r, n ≤ r → getF b r = 0) ∧ s.2.2 ≤ n ∧
      t.length + (a.length - i) ≤ s.1.length + (a.length - s.2.1) + 2 * b.length := by
  induction b with
  | nil =>
    intro s h v hb hn hbeh hi hsan hget
    refine ⟨s.1, s.2.1, s.2.2, rfl, hn, hbeh, hi, hsan, hget, fun r hr => by rw [if_pos hr], fun _ _ => rfl, Int.le_refl _, by simp⟩
  | cons x xs ih =>
    intro s h v hb hn hbeh hi hsan hget
    cases hb with
    | cons _ _ _ _ _ hf hm hnx hs =>
    obtain ⟨f1, f2, f3, f4, f5⟩ := id hf
    obtain ⟨m', h', v', hsd⟩ := hsan
    obtain ⟨g1, g2, d, g3, g4, g5, g6, m2, h2, v2, g7, g8⟩ := betGo_spec (a.drop s.2.1) s.1 s.2.1 s.2.2 (x.lo - 1) m' h' v' hsd (by omega) hn hbeh
    have hbx : Beh (betF s.1 a s.2.1 s.2.2 (x.lo - 1)).1 x.lo := g1.mono (by omega)
    have hj := joinF_beh hbx hf
    have hjg := joinF_get hbx hf
    have hjl := joinF_len (betF s.1 a s.2.1 s.2.2 (x.lo - 1)).1 x
    have hdd : (a.drop s.2.1).drop d = a.drop (betF s.1 a s.2.1 s.2.2 (x.lo - 1)).2 := by
      rw [List.drop_drop]; congr 1; show _ = (betGo _ _ _ _ _).2; rw [g3]
    rw [List.length_drop] at g4 g6
    have hi2 : (betF s.1 a s.2.1 s.2.2 (x.lo - 1)).2 = s.2.1 + d := g3
    have hle2 : (betF s.1 a s.2.1 s.2.2 (x.lo - 1)).1.length + (a.length - s.2.1 - d) ≤ s.1.length + (a.length - s.2.1) + 1 := g6
    obtain ⟨t, i, n, e1, e2, e3, e4, e5, e6, e7, e8, e9, e10⟩ := ih (overStep a s x) (x.hi + 1) x.v (by simpa [overStep] using hs) (by simp only [overStep]; omega) hj
      (by simp only [overStep]; omega) ⟨m2, h2, v2, by simp only [overStep]; rw [← hdd]; exact g7⟩
      (fun r hr => by
        simp only [overStep] at hr ⊢
        rw [← hdd, g5 r (by omega), hget r (by omega)])
    refine ⟨t, i, n, e1, e2, e3, e4, e5, e6, fun r hr => ?_, fun r hr => ?_, ?_, ?_⟩
    · have e7r : getF t r = if r < x.hi + 1 then getF (joinF (betF s.1 a s.2.1 s.2.2 (x.lo - 1)).1 x) r else if getF xs r = 0 then getF a r else getF xs r := e7 r hr
      have g2r : getF (betF s.1 a s.2.1 s.2.2 (x.lo - 1)).1 r = if r < s.2.2 then getF s.1 r else if r ≤ x.lo - 1 then getF (a.drop s.2.1) r else 0 := g2 r
      rw [e7r, hjg, g2r]
      simp only [getF]
      by_cases hr1 : r < s.2.2
      · have q1 : r < x.hi + 1 := by omega
        have q2 : ¬ x.lo ≤ r := by omega
        simp only [hr1, q1, q2, if_true, if_false]
      · by_cases hr2 : r < x.hi + 1
        · by_cases hr3 : x.lo ≤ r
          · have q1 : r ≤ x.hi := by omega
            have q2 : ¬ x.v = 0 := by omega
            simp only [hr1, hr2, hr3, q1, q2, and_self, if_true, if_false]
          · have q1 : r ≤ x.lo - 1 := by omega
            have q2 := hs.low hr2
            have q3 := hget r (by omega)
            simp only [hr1, hr2, hr3, q1, q2, q3, false_and, if_true, if_false]
        · have q1 : ¬ r ≤ x.hi := by omega
          simp only [hr1, hr2, q1, and_false, if_false]
    · simp only [getF]
      simp only [overStep] at e9
      rw [if_neg (by omega)]
      exact e8 r hr
    · simp only [overStep] at e9
      omega
    · simp only [overStep, List.length_cons] at e10 ⊢
      omega

theorem overRaw_spec {a b : List R} (ha : San 0 (-1) 0 a) (hb : San 0 (-1) 0 b) :
    San 0 (-1) 0 (overRaw a b) ∧ (∀ r, getF (overRaw a b) r = if getF b r = 0 then getF a r else getF b r) ∧ (overRaw a b).length ≤ a.length + 2 * b.length + 1 := by
  obtain ⟨t, i, n, e1, e2, e3, e4, e5, e6, e7, e8, e9, e10⟩ := over_fold a b ([], 0, 0) (-1) 0 hb (Int.le_refl _) (beh_nil _) (Nat.zero_le _) ⟨0, -1, 0, by simpa using ha⟩ (by simp)
  unfold overRaw
  rw [e1]
  obtain ⟨m', h', v', hsd⟩ := e5
  obtain ⟨g1, g2, d, g3, g4, g5, g6, _⟩ := betGo_spec (a.drop i) t i n 1114111 m' h' v' hsd (Int.le_refl _) e2 e3
  refine ⟨g1.1, fun r => ?_, ?_⟩
  · have := g2 r
    refine this.trans ?_
    by_cases hr : r < n
    · rw [if_pos hr, e7 r hr]
      by_cases hr0 : r < 0
      · rw [if_pos hr0, ha.low hr0, hb.low hr0]; simp [getF]
      · rw [if_neg hr0]
    · rw [if_neg hr, e8 r (by omega), if_pos rfl]
      split
      · exact e6 r (by omega)
      · exact (ha.high (by omega)).symm
  · rw [List.length_drop] at g4 g6
    show (betGo t (a.drop i) i n 1114111).1.length ≤ _
    simp only [List.length_nil, Nat.sub_zero] at e10
    omega

theorem saneF_iff (l : List R) : saneF l = true ↔ l.length ≤ 4096 ∧ San 0 (-1) 0 l := by
  simp [saneF, sane_none]

theorem overF_spec {a b : List R} (ha : saneF a = true) (hb : saneF b = true) (hl : a.length + 2 * b.length + 1 ≤ 4096) :
    saneF (overF a b) = true ∧ (∀ r, getF (overF a b) r = if getF b r = 0 then getF a r else getF b r) ∧ (overF a b).length ≤ a.length + 2 * b.length + 1 ∧ overF a b = overRaw a b := by
  obtain ⟨h1, h2, h3⟩ := overRaw_spec ((saneF_iff a).1 ha).2 ((saneF_iff b).1 hb).2
  have e : overF a b = overRaw a b := by
    unfold overF
    rw [if_pos (by simp [ha, hb]), if_neg (by omega)]
  rw [e]
  exact ⟨(saneF_iff _).2 ⟨by omega, h1⟩, h2, h3, rfl⟩

/-! ### the laws -/

/-- RangesThree -/
theorem over_assoc {a b c : List R} (ha : saneF a = true) (hb : saneF b = true) (hc : saneF c = true) (la : a.length ≤ 30) (lb : b.length ≤ 30) (lc : c.length ≤ 30) :
    overF (overF a b) c = overF a (overF b c) := by
  obtain ⟨s1, g1, l1, _⟩ := overF_spec ha hb (by omega)
  obtain ⟨s2, g2, l2, _⟩ := overF_spec hb hc (by omega)
  obtain ⟨s3, g3, _, _⟩ := overF_spec s1 hc (by omega)
  obtain ⟨s4, g4, _, _⟩ := overF_spec ha s2 (by omega)
  refine (((saneF_iff _).1 s3).2).uniq ((saneF_iff _).1 s4).2 fun r => ?_
  rw [g3, g4, g2, g1]
  by_cases h : getF c r = 0 <;> simp [h]
theorem over_self {a : List R} (ha : saneF a = true) (la : a.length ≤ 30) : overF a a = a := by
  obtain ⟨s1, g1, _, _⟩ := overF_spec ha ha (by omega)
  refine (((saneF_iff _).1 s1).2).uniq ((saneF_iff _).1 ha).2 fun r => ?_
  rw [g1]
  by_cases h : getF a r = 0 <;> simp [h]

/-! ### how many numbers -/
def cnt (f : Int → Int) : Nat → Int
  | 0 => 0
  | n + 1 => cnt f n + if f n = 0 then 0 else 1
theorem cnt_congr {f g : Int → Int} (n : Nat) (h : ∀ i : Nat, i < n → (f i = 0 ↔ g i = 0)) : cnt f n = cnt g n := by
  induction n with
  | zero => rfl
  | succ n ih =>
    simp only [cnt]
    rw [ih fun i hi => h i (by omega)]
    have := h n (by omega)
    by_cases hf : f n = 0
    · rw [if_pos hf, if_pos (this.1 hf)]
    · rw [if_neg hf, if_neg (fun hg => hf (this.2 hg))]
theorem cnt_mono {f g : Int → Int} (n : Nat) (h : ∀ i : Nat, i < n → f i ≠ 0 → g i ≠ 0) : cnt f n ≤ cnt g n := by
  induction n with
  | zero => exact Int.le_refl _
  | succ n ih =>
    simp only [cnt]
    have := ih fun i hi => h i (by omega)
    have := h n (by omega)
    by_cases hf : f n = 0
    · rw [if_pos hf]; split <;> omega
    · rw [if_neg hf, if_neg (this hf)]; omega
theorem cnt_add {f g k : Int → Int} (n : Nat) (h : ∀ i : Nat, i < n → f i ≠ 0 → g i ≠ 0 ∨ k i ≠ 0) : cnt f n ≤ cnt g n + cnt k n := by
  induction n with
  | zero => simp [cnt]
  | succ n ih =>
    simp only [cnt]
    have := ih fun i hi => h i (by omega)
    have := h n (by omega)
    by_cases hf : f n = 0
    · rw [if_pos hf]; (repeat' split) <;> omega
    · rw [if_neg hf]
      rcases this hf with h1 | h1
      · rw [if_neg h1]; split <;> omega
      · rw [if_neg h1]; split <;> omega

theorem cnt_zero {f : Int → Int} (n : Nat) (h : ∀ i : Nat, i < n → f i = 0) : cnt f n = 0 := by
  induction n with
  | zero => rfl
  | succ n ih => simp only [cnt]; rw [ih fun i hi => h i (by omega), h n (by omega)]; simp

/-- a row first, then others behind it -/
theorem cnt_row (lo hi v : Int) (g : Int → Int) (hlo : 0 ≤ lo) (hhi : lo ≤ hi) (hv : v ≠ 0) (hg : ∀ r, r ≤ hi → g r = 0) (n : Nat) (hn : hi < n) :
    cnt (fun r => if lo ≤ r ∧ r ≤ hi then v else g r) n = (hi - lo + 1) + cnt g n := by
  have gen : ∀ n : Nat, cnt (fun r => if lo ≤ r ∧ r ≤ hi then v else g r) n = (if (n : Int) ≤ lo then 0 else if (n : Int) ≤ hi then n - lo else hi - lo + 1) + cnt g n := by
    intro n
    induction n with
    | zero => simp only [cnt]; rw [if_pos (by omega)]; rfl
    | succ n ih =>
      simp only [cnt, ih]
      by_cases h1 : lo ≤ (n : Int) ∧ (n : Int) ≤ hi
      · have q := hg n h1.2
        simp only [if_pos h1, q, if_neg hv, if_true]
        (repeat' split) <;> omega
      · simp only [if_neg h1]
        (repeat' split) <;> omega
  rw [gen n, if_neg (by omega), if_neg (by omega)]

theorem tot_cnt {m h v : Int} {l : List R} (hs : San m h v l) : totGo l = cnt (getF l) 1114112 := by
  induction hs with
  | nil => exact (cnt_zero _ fun _ _ => rfl).symm
  | cons m h v x xs hf hm hn hs ih =>
    obtain ⟨f1, f2, f3, f4, f5⟩ := hf
    have := cnt_row x.lo x.hi x.v (getF xs) f1 f2 (by omega) (fun r hr => hs.low (by omega)) 1114112 (by omega)
    have e : getF (x :: xs) = fun r => if x.lo ≤ r ∧ r ≤ x.hi then x.v else getF xs r := rfl
    rw [e, this, totGo, ih]

/-- RangesCount -/
theorem over_count {a b : List R} (ha : saneF a = true) (hb : saneF b = true) (la : a.length ≤ 30) (lb : b.length ≤ 30) :
    totF (overF a b) = totF (overF b a) ∧ totF a ≤ totF (overF a b) ∧ totF b ≤ totF (overF a b) ∧ totF (overF a b) ≤ totF a + totF b := by
  obtain ⟨s1, g1, l1, _⟩ := overF_spec ha hb (by omega)
  obtain ⟨s2, g2, l2, _⟩ := overF_spec hb ha (by omega)
  simp only [totF, if_pos ha, if_pos hb, if_pos s1, if_pos s2]
  rw [tot_cnt ((saneF_iff _).1 s1).2, tot_cnt ((saneF_iff _).1 s2).2, tot_cnt ((saneF_iff _).1 ha).2, tot_cnt ((saneF_iff _).1 hb).2]
  refine ⟨cnt_congr _ fun i _ => ?_, cnt_mono _ fun i _ h => ?_, cnt_mono _ fun i _ h => ?_, cnt_add _ fun i _ h => ?_⟩
  · rw [g1, g2]; by_cases h1 : getF a i = 0 <;> by_cases h2 : getF b i = 0 <;> simp [h1, h2]
  · rw [g1]; by_cases h2 : getF b i = 0 <;> simp [h2, h]
  · rw [g1]; simp [h]
  · rw [g1] at h; by_cases h2 : getF b i = 0
    · rw [if_pos h2] at h; exact .inl h
    · exact .inr h2

theorem San.tot_bd {m h v : Int} {l : List R} (hs : San m h v l) : 0 ≤ totGo l ∧ (m ≤ 1114112 → totGo l ≤ 1114112 - m) := by
  induction hs with
  | nil => simp only [totGo]; exact ⟨Int.le_refl _, fun _ => by omega⟩
  | cons m h v x xs hf hm hn hs ih =>
    obtain ⟨f1, f2, f3, f4, f5⟩ := hf
    simp only [totGo]
    have := ih.2 (by omega)
    exact ⟨by omega, fun _ => by omega⟩

/-- RangesEdges: in a sane table, at row i -/
theorem get_row {m h v : Int} {l : List R} (hs : San m h v l) (i : Nat) (hi : i < l.length) {r : Int} (h1 : l[i].lo ≤ r) (h2 : r ≤ l[i].hi) : getF l r = l[i].v := by
  induction hs generalizing i with
  | nil => simp at hi
  | cons m h v x xs hf hm hn hs ih =>
    cases i with
    | zero => simp only [List.getElem_cons_zero] at h1 h2 ⊢; simp only [getF]; rw [if_pos ⟨h1, h2⟩]
    | succ i =>
      have hi' : i < xs.length := by simpa using hi
      simp only [List.getElem_cons_succ] at h1 h2 ⊢
      simp only [getF]
      have hl := (hs.memfit xs[i] (by simp)).2
      rw [if_neg (by omega)]
      exact ih i (by simpa using hi) h1 h2
theorem San.next {m h v : Int} {l : List R} (hs : San m h v l) (i : Nat) (hi : i + 1 < l.length) : l[i].hi < l[i+1].lo ∧ ¬ (l[i+1].lo = l[i].hi + 1 ∧ l[i+1].v = l[i].v) := by
  induction hs generalizing i with
  | nil => simp at hi
  | cons m h v x xs hf hm hn hs ih =>
    cases i with
    | zero =>
      cases hs with
      | nil => simp at hi
      | cons _ _ _ y ys hfy hmy hny hsy => simp only [List.getElem_cons_zero, List.getElem_cons_succ]; exact ⟨by omega, hny⟩
    | succ i => simpa using ih i (by simpa using hi)

theorem get_before0 {m h v : Int} {l : List R} (hs : San m h v l) (hl : 0 < l.length) : getF l (l[0].lo - 1) = 0 := by
  cases hs with
  | nil => simp at hl
  | cons _ _ _ x xs hf hm hn hs =>
    have := hf.2.1
    simp only [List.getElem_cons_zero, getF]
    rw [if_neg (by omega)]
    exact hs.low (by omega)

theorem get_before {m h v : Int} {l : List R} (hs : San m h v l) (i : Nat) (hi : i + 1 < l.length) : getF l (l[i+1].lo - 1) = if l[i].hi = l[i+1].lo - 1 then l[i].v else 0 := by
  induction hs generalizing i with
  | nil => simp at hi
  | cons m h v x xs hf hm hn hs ih =>
    have hf2 := hf.2.1
    cases i with
    | zero =>
      cases hs with
      | nil => simp at hi
      | cons _ _ _ y ys hfy hmy hny hsy =>
        have := hfy.2.1
        simp only [List.getElem_cons_zero, List.getElem_cons_succ, getF]
        split
        · rw [if_pos (by omega)]
        · rw [if_neg (by omega), if_neg (by omega)]
          exact hsy.low (by omega)
    | succ i =>
      have hi' : i + 1 < xs.length := by simpa using hi
      have h1 := (hs.next i hi').1
      have h2 := (hs.memfit xs[i] (by simp)).2
      have h3 := (hs.memfit xs[i] (by simp)).1.2.1
      simp only [List.getElem_cons_succ, getF]
      rw [if_neg (by omega)]
      exact ih i hi'

theorem get_after {m h v : Int} {l : List R} (hs : San m h v l) (i : Nat) (hi : i + 1 < l.length) : getF l (l[i].hi + 1) = if l[i+1].lo = l[i].hi + 1 then l[i+1].v else 0 := by
  induction hs generalizing i with
  | nil => simp at hi
  | cons m h v x xs hf hm hn hs ih =>
    have hf2 := hf.2.1
    cases i with
    | zero =>
      cases hs with
      | nil => simp at hi
      | cons _ _ _ y ys hfy hmy hny hsy =>
        have := hfy.2.1
        simp only [List.getElem_cons_zero, List.getElem_cons_succ, getF]
        rw [if_neg (by omega)]
        split
        · rw [if_pos (by omega)]
        · rw [if_neg (by omega)]
          exact hsy.low (by omega)
    | succ i =>
      have hi' : i + 1 < xs.length := by simpa using hi
      have h2 := (hs.memfit xs[i] (by simp)).2
      have h3 := (hs.memfit xs[i] (by simp)).1.2.1
      simp only [List.getElem_cons_succ, getF]
      rw [if_neg (by omega)]
      exact ih i hi'

theorem get_afterLast {m h v : Int} {l : List R} (hs : San m h v l) (i : Nat) (hi : i + 1 = l.length) : getF l (l[i].hi + 1) = 0 := by
  induction hs generalizing i with
  | nil => simp at hi
  | cons m h v x xs hf hm hn hs ih =>
    have hf2 := hf.2.1
    cases i with
    | zero =>
      have : xs = [] := List.eq_nil_of_length_eq_zero (by rw [List.length_cons] at hi; omega)
      subst this
      simp only [List.getElem_cons_zero, getF]
      rw [if_neg (by omega)]
    | succ i =>
      have hi' : i + 1 = xs.length := by simpa using hi
      have h2 := (hs.memfit xs[i] (by simp)).2
      have h3 := (hs.memfit xs[i] (by simp)).1.2.1
      simp only [List.getElem_cons_succ, getF]
      rw [if_neg (by omega)]
      exact ih i hi'

end Go.Proofs.Ytcempbgbdlmjfaa
