/-
  Layer 5 (params), plain: what the steps, Get and Count compute, over lists of lists of numbers; and the laws of it. No program in sight.
-/
namespace Go.Proofs.YtcempbgbdlmjfaaDoor

structure P5 where
  l : List (List Int)
  o : Bool

def okNum (n : Int) : Bool := decide (-1 ≤ n ∧ n ≤ 65535)
def okRow (q : List Int) : Bool := decide (1 ≤ q.length ∧ q.length ≤ 6) && q.all okNum
def saneP (p : P5) : Bool := decide (p.l.length ≤ 16) && (!(p.o && p.l.isEmpty) && p.l.all okRow)
def begunP (p : P5) : P5 := if p.l = [] then ⟨[[-1]], true⟩ else p
def lastL (p : P5) : List Int := p.l.getLastD []
def digitN (n c : Int) : Int := min (10 * max n 0 + (c - 48)) 65535
def setLast (l : List (List Int)) (q : List Int) : List (List Int) := l.dropLast ++ [q]
def digitP (p : P5) (c : Int) : P5 :=
  if saneP p = false then ⟨[], false⟩ else if c < 48 ∨ 57 < c then p
  else if (begunP p).o = false then begunP p
  else ⟨setLast (begunP p).l ((lastL (begunP p)).dropLast ++ [digitN ((lastL (begunP p)).getLastD 0) c]), true⟩
def nextP (p : P5) : P5 :=
  if saneP p = false then ⟨[], false⟩ else if (begunP p).l.length = 16 then ⟨(begunP p).l, false⟩ else ⟨(begunP p).l ++ [[-1]], true⟩
def subP (p : P5) : P5 :=
  if saneP p = false then ⟨[], false⟩ else if (begunP p).o = false ∨ 6 ≤ (lastL (begunP p)).length then ⟨(begunP p).l, false⟩
  else ⟨setLast (begunP p).l (lastL (begunP p) ++ [-1]), true⟩
def stepP (p : P5) (c : Int) : Option P5 :=
  if 48 ≤ c ∧ c ≤ 57 then some (digitP p c) else if c = 59 then some (nextP p) else if c = 58 then some (subP p) else none
def parseGo : P5 → List Int → Option P5
  | p, [] => some p
  | p, c :: cs => match stepP p c with
    | none => none
    | some q => parseGo q cs

def getP (l : List (List Int)) (k usual : Int) : Int :=
  if k < 0 ∨ (l.length : Int) ≤ k then usual else match (l.getD k.toNat []) with
    | [] => usual
    | n :: _ => if n = -1 then usual else n
def countP (l : List (List Int)) (k usual least most : Int) : Int :=
  max (min (if getP l k usual = 0 then usual else getP l k usual) most) least

/-! ### sane ones stay sane -/
theorem okRow_iff (q : List Int) : okRow q = true ↔ (1 ≤ q.length ∧ q.length ≤ 6) ∧ ∀ n ∈ q, -1 ≤ n ∧ n ≤ 65535 := by
  simp [okRow, okNum]
theorem saneP_iff (p : P5) : saneP p = true ↔ p.l.length ≤ 16 ∧ (p.o = true → p.l ≠ []) ∧ ∀ q ∈ p.l, okRow q = true := by
  cases hp : p.o <;> simp [saneP, hp]
theorem begun_sane {p : P5} (h : saneP p = true) : saneP (begunP p) = true ∧ (begunP p).l ≠ [] := by
  unfold begunP
  split
  · exact ⟨by decide, by simp⟩
  · rename_i hn; exact ⟨h, hn⟩
theorem lastL_ok {p : P5} (h : saneP p = true) (hn : p.l ≠ []) : okRow (lastL p) = true := by
  have := ((saneP_iff p).1 h).2.2
  unfold lastL
  rw [List.getLastD_eq_getLast?, List.getLast?_eq_some_getLast hn]
  exact this _ (List.getLast_mem hn)
theorem setLast_len (l : List (List Int)) (q : List Int) (hn : l ≠ []) : (setLast l q).length = l.length := by
  have := List.length_pos_iff.2 hn
  simp [setLast]; omega
theorem digitN_ok (n c : Int) (hc : 48 ≤ c) : 0 ≤ digitN n c ∧ digitN n c ≤ 65535 := by unfold digitN; omega
theorem setLast_ok {l : List (List Int)} {q : List Int} (h : ∀ r ∈ l, okRow r = true) (hq : okRow q = true) : ∀ r ∈ setLast l q, okRow r = true := by
  intro r hr
  rcases List.mem_append.1 hr with hr | hr
  · exact h r (List.dropLast_subset _ hr)
  · simp at hr; rw [hr]; exact hq
theorem digit_sane {p : P5} {c : Int} (h : saneP p = true) : saneP (digitP p c) = true := by
  obtain ⟨hb, hn⟩ := begun_sane h
  have h3 := (saneP_iff _).1 hb
  have hl := lastL_ok hb hn
  unfold digitP
  rw [if_neg (by simp [h])]
  split
  · exact h
  rename_i hc
  split
  · exact hb
  · rw [saneP_iff]
    refine ⟨by rw [setLast_len _ _ hn]; exact h3.1, fun _ => by simp [setLast], setLast_ok h3.2.2 ?_⟩
    rw [okRow_iff] at hl ⊢
    refine ⟨by simp; omega, fun n hm => ?_⟩
    rcases List.mem_append.1 hm with hm | hm
    · exact hl.2 n (List.dropLast_subset _ hm)
    · obtain rfl := List.mem_singleton.1 hm
      have := digitN_ok ((lastL (begunP p)).getLastD 0) c (by omega)
      omega
theorem next_sane {p : P5} (h : saneP p = true) : saneP (nextP p) = true := by
  obtain ⟨hb, hn⟩ := begun_sane h
  have h3 := (saneP_iff _).1 hb
  unfold nextP
  rw [if_neg (by simp [h])]
  split
  · rw [saneP_iff]; exact ⟨h3.1, by simp, h3.2.2⟩
  · rw [saneP_iff]
    refine ⟨by simp; have := h3.1; omega, by simp, fun q hq => ?_⟩
    rcases List.mem_append.1 hq with hq | hq
    · exact h3.2.2 q hq
    · simp at hq; rw [hq]; decide
theorem sub_sane {p : P5} (h : saneP p = true) : saneP (subP p) = true := by
  obtain ⟨hb, hn⟩ := begun_sane h
  have h3 := (saneP_iff _).1 hb
  have hl := lastL_ok hb hn
  unfold subP
  rw [if_neg (by simp [h])]
  split
  · rw [saneP_iff]; exact ⟨h3.1, by simp, h3.2.2⟩
  · rename_i hc
    rw [saneP_iff]
    refine ⟨by rw [setLast_len _ _ hn]; exact h3.1, fun _ => by simp [setLast], setLast_ok h3.2.2 ?_⟩
    rw [okRow_iff] at hl ⊢
    refine ⟨by simp; omega, fun n hm => ?_⟩
    rcases List.mem_append.1 hm with hm | hm
    · exact hl.2 n hm
    · simp at hm; omega
theorem step_sane {p q : P5} {c : Int} (h : saneP p = true) (hs : stepP p c = some q) : saneP q = true := by
  unfold stepP at hs
  split at hs
  · injection hs with hs; subst hs; exact digit_sane h
  split at hs
  · injection hs with hs; subst hs; exact next_sane h
  split at hs
  · injection hs with hs; subst hs; exact sub_sane h
  · cases hs
theorem empty_sane : saneP ⟨[], false⟩ = true := by decide
theorem parse_sane (s : List Int) : ∀ {p q : P5}, saneP p = true → parseGo p s = some q → saneP q = true := by
  induction s with
  | nil => intro p q h hs; simp [parseGo] at hs; subst hs; exact h
  | cons c cs ih =>
    intro p q h hs
    simp only [parseGo] at hs
    cases e : stepP p c with
    | none => rw [e] at hs; cases hs
    | some r => rw [e] at hs; exact ih (step_sane h e) hs

/-! ### counts -/
theorem get_one (v usual : Int) (hv : 0 ≤ v) : getP [[v]] 0 usual = v := by
  simp [getP]; omega
theorem get_none (usual : Int) : getP [] 0 usual = usual := by simp [getP]
theorem counts (v lo hi u : Int) (hv : 0 ≤ v) (hlo : 0 ≤ lo) (hhi : lo ≤ hi) (hu : 0 ≤ u) :
    lo ≤ countP [[v]] 0 u lo hi ∧ countP [[v]] 0 u lo hi ≤ hi ∧ (v = 0 ∨ v < lo ∨ hi < v ∨ countP [[v]] 0 u lo hi = v) ∧ countP [] 0 u lo hi = countP [[0]] 0 u lo hi ∧
    lo ≤ countP [] 0 u lo hi ∧ countP [] 0 u lo hi ≤ hi ∧ (u < lo ∨ hi < u ∨ countP [] 0 u lo hi = u) := by
  unfold countP
  rw [get_one v u hv, get_one 0 u (by omega), get_none]
  refine ⟨?_, ?_, ?_, ?_, ?_, ?_, ?_⟩ <;> repeat (first | omega | split)
end Go.Proofs.YtcempbgbdlmjfaaDoor
