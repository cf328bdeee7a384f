/-
  Layer 6 (parse), plain: states, actions, and what a step computes. No program in sight.
-/
import Derived.Test.YtcempbgbdlmjfaaDoorPaPlain
import Derived.Test.YtcempbgbdlmjfaaDoorUtPut
namespace Go.Proofs.YtcempbgbdlmjfaaDoor

/-- a state: where it is, the bytes between, whether there were too many, parameters, a string's text, its kind -/
structure St where
  a : Int
  inter : List Int
  over : Bool
  l : List (List Int)
  o : Bool
  text : List Int
  kind : Int
/-- an action -/
structure Ax where
  what : Int
  r : Int
  fin : Int
  inter : List Int
  par : List (List Int)
  text : List Int
def st0 : St := ⟨0, [], false, [], false, [], 0⟩
def interOk : List Int → Bool
  | [] => true
  | c :: cs => (decide (60 ≤ c ∧ c ≤ 63) || decide (32 ≤ c ∧ c ≤ 47)) && cs.all fun d => decide (32 ≤ d ∧ d ≤ 47)
def saneS (s : St) : Bool :=
  decide (0 ≤ s.a ∧ s.a ≤ 9) && (decide (s.inter.length ≤ 2) && (decide (s.text.length ≤ 1024) && (saneP ⟨s.l, s.o⟩ && (interOk s.inter &&
    (if s.a = 0 then s.inter.isEmpty && (!s.over && (s.l.isEmpty && (s.text.isEmpty && decide (s.kind = 0)))) else if s.a = 3 then s.inter.isEmpty else true)))))
def byteOf (r : Int) : Int := r % 256
def axExec (r : Int) : Ax := ⟨2, 0, byteOf r, [], [], []⟩
def axPrint (r : Int) : Ax := ⟨1, r, 0, [], [], []⟩
def axEsc (s : St) (c : Int) : Ax := ⟨3, 0, c, s.inter, [], []⟩
def axCsi (s : St) (c : Int) : Ax := ⟨4, 0, c, s.inter, s.l, []⟩
def endA (s : St) : List Ax :=
  if s.a = 7 then [⟨5, 0, 0, [], [], s.text⟩] else if s.a = 8 then [⟨6, 0, 0, [], [], s.text⟩] else if s.a = 9 then [⟨7, 0, s.kind, [], [], s.text⟩] else []
def atS (a : Int) : St := ⟨a, [], false, [], false, [], 0⟩
def sosS (k : Int) : St := ⟨9, [], false, [], false, [], k⟩
def upperF (r : Int) : St × List Ax :=
  if r = 144 then (atS 8, []) else if r = 152 then (sosS 88, []) else if r = 155 then (atS 3, []) else if r = 156 then (st0, []) else if r = 157 then (atS 7, [])
  else if r = 158 then (sosS 94, []) else if r = 159 then (sosS 95, []) else (st0, [axExec r])
def addF (s : St) (r : Int) : St :=
  if (0 ≤ r ∧ r ≤ 31) ∨ r = 127 then s else if s.text.length + (putF r).length ≤ 1024 then { s with text := s.text ++ putF r } else s
def collectF (s : St) (c a : Int) : St := if s.inter.length < 2 then { s with inter := s.inter ++ [c], a := a } else { s with over := true, a := a }
def seqF (s : St) (c : Int) : St × List Ax := if s.over then (st0, []) else (st0, [axCsi s c])
def numbersF (s : St) (c : Int) : St × List Ax :=
  if c ≤ 47 then (collectF s c 5, []) else if 64 ≤ c then seqF s c
  else if c = 59 then ({ s with l := (nextP ⟨s.l, s.o⟩).l, o := (nextP ⟨s.l, s.o⟩).o, a := 4 }, [])
  else if c = 58 then ({ s with l := (subP ⟨s.l, s.o⟩).l, o := (subP ⟨s.l, s.o⟩).o, a := 4 }, [])
  else if c ≤ 57 then ({ s with l := (digitP ⟨s.l, s.o⟩ c).l, o := (digitP ⟨s.l, s.o⟩ c).o, a := 4 }, [])
  else if s.a = 3 then (collectF s c 4, []) else ({ s with a := 6 }, [])
def escapeF (s : St) (c : Int) : St × List Ax :=
  if c ≤ 47 then (collectF s c 2, [])
  else if s.a = 1 ∧ c = 91 then (atS 3, []) else if s.a = 1 ∧ c = 93 then (atS 7, []) else if s.a = 1 ∧ c = 80 then (atS 8, [])
  else if s.a = 1 ∧ (c = 88 ∨ c = 94 ∨ c = 95) then (sosS c, [])
  else if s.over then (st0, []) else (st0, [axEsc s c])
def graphicF (s : St) (c : Int) : St × List Ax :=
  if s.a = 1 ∨ s.a = 2 then escapeF s c
  else if s.a = 3 ∨ s.a = 4 then numbersF s c
  else if s.a = 5 then (if c ≤ 47 then (collectF s c 5, []) else if c ≤ 63 then ({ s with a := 6 }, []) else seqF s c)
  else if s.a = 6 then (if 64 ≤ c then (st0, []) else (s, []))
  else (st0, [axPrint c])
def isStr (s : St) : Bool := decide (s.a = 7) || (decide (s.a = 8) || decide (s.a = 9))
def stepS (s : St) (r : Int) : St × List Ax :=
  if saneS s = false then (st0, [])
  else if r = 24 ∨ r = 26 then (st0, [axExec r])
  else if r = 27 then (atS 1, endA s)
  else if 128 ≤ r ∧ r ≤ 159 then ((upperF r).1, endA s ++ (upperF r).2)
  else if s.a = 7 ∧ r = 7 then (st0, endA s)
  else if isStr s then (addF s r, [])
  else if 0 ≤ r ∧ r ≤ 31 then (s, [axExec r])
  else if r = 127 then (s, [])
  else if 159 < r ∨ r < 0 then (st0, [axPrint r])
  else graphicF s r
def feedGo : St → List Int → St × List Ax
  | s, [] => (s, [])
  | s, r :: rs => ((feedGo (stepS s r).1 rs).1, (stepS s r).2 ++ (feedGo (stepS s r).1 rs).2)
def feedS (s : St) (l : List Int) : St × List Ax := if saneS s = false then (st0, []) else feedGo s l

/-! ### a state stays one -/
theorem saneS_iff (s : St) : saneS s = true ↔ (0 ≤ s.a ∧ s.a ≤ 9) ∧ s.inter.length ≤ 2 ∧ s.text.length ≤ 1024 ∧ saneP ⟨s.l, s.o⟩ = true ∧ interOk s.inter = true ∧
    (s.a = 0 → s.inter = [] ∧ s.over = false ∧ s.l = [] ∧ s.text = [] ∧ s.kind = 0) ∧ (s.a = 3 → s.inter = []) := by
  unfold saneS
  by_cases h0 : s.a = 0
  · simp [h0]
  · by_cases h3 : s.a = 3
    · simp [h3]
    · simp [h0, h3]
theorem atS_sane (a : Int) (h : 0 ≤ a ∧ a ≤ 9) : saneS (atS a) = true := by
  rw [saneS_iff]
  exact ⟨h, by simp [atS], by simp [atS], (by decide : saneP ⟨[], false⟩ = true), rfl, fun _ => ⟨rfl, rfl, rfl, rfl, rfl⟩, fun _ => rfl⟩
theorem sosS_sane (k : Int) : saneS (sosS k) = true := by
  rw [saneS_iff]
  exact ⟨by simp [sosS], by simp [sosS], by simp [sosS], (by decide : saneP ⟨[], false⟩ = true), rfl, fun h => by simp [sosS] at h, fun h => by simp [sosS] at h⟩
theorem st0_sane : saneS st0 = true := atS_sane 0 (by omega)
theorem interOk_snoc {l : List Int} {c : Int} (h : interOk l = true) (hc : 32 ≤ c ∧ c ≤ 47) : interOk (l ++ [c]) = true := by
  cases l with
  | nil => simp [interOk, hc]
  | cons x xs =>
    simp only [interOk, Bool.and_eq_true, List.cons_append, List.all_append] at h ⊢
    exact ⟨h.1, h.2, by simp [hc]⟩
theorem collect_sane {s : St} {c a : Int} (h : saneS s = true) (ha : a = 2 ∨ a = 4 ∨ a = 5) (hc : (32 ≤ c ∧ c ≤ 47) ∨ (s.inter = [] ∧ 60 ≤ c ∧ c ≤ 63)) : saneS (collectF s c a) = true := by
  rw [saneS_iff] at h
  unfold collectF
  split
  · rw [saneS_iff]
    refine ⟨by simp only; omega, by simp; omega, h.2.2.1, h.2.2.2.1, ?_, fun h0 => by simp only at h0; omega, fun h0 => by simp only at h0; omega⟩
    rcases hc with hc | ⟨h1, hc⟩
    · exact interOk_snoc h.2.2.2.2.1 hc
    · simp only; rw [h1]; simp [interOk, hc]
  · rw [saneS_iff]
    exact ⟨by simp only; omega, h.2.1, h.2.2.1, h.2.2.2.1, h.2.2.2.2.1, fun h0 => by simp only at h0; omega, fun h0 => by simp only at h0; omega⟩
theorem params_sane {s : St} {q : P5} (h : saneS s = true) (hq : saneP q = true) : saneS { s with l := q.l, o := q.o, a := 4 } = true := by
  rw [saneS_iff] at h ⊢
  exact ⟨by simp only; omega, h.2.1, h.2.2.1, hq, h.2.2.2.2.1, fun h0 => by simp only at h0; omega, fun h0 => by simp only at h0; omega⟩
theorem six_sane {s : St} (h : saneS s = true) : saneS { s with a := 6 } = true := by
  rw [saneS_iff] at h ⊢
  exact ⟨by simp only; omega, h.2.1, h.2.2.1, h.2.2.2.1, h.2.2.2.2.1, fun h0 => by simp only at h0; omega, fun h0 => by simp only at h0; omega⟩
theorem seq_sane (s : St) (c : Int) : saneS (seqF s c).1 = true := by
  unfold seqF; split <;> exact st0_sane
theorem numbers_sane {s : St} {c : Int} (h : saneS s = true) (hc : 32 ≤ c ∧ c ≤ 126) : saneS (numbersF s c).1 = true := by
  have h4 := ((saneS_iff s).1 h).2.2.2.1
  have h3 := ((saneS_iff s).1 h).2.2.2.2.2.2
  unfold numbersF
  split
  · exact collect_sane h (by omega) (.inl (by omega))
  split
  · exact seq_sane s c
  split
  · exact params_sane h (next_sane h4)
  split
  · exact params_sane h (sub_sane h4)
  split
  · exact params_sane h (digit_sane h4)
  split
  · rename_i h47 h64 h59 h58 h57 ha
    exact collect_sane h (by omega) (.inr ⟨h3 ha, by omega, by omega⟩)
  · exact six_sane h
theorem escape_sane {s : St} {c : Int} (h : saneS s = true) (hc : 32 ≤ c ∧ c ≤ 126) : saneS (escapeF s c).1 = true := by
  unfold escapeF
  split
  · exact collect_sane h (by omega) (.inl (by omega))
  split
  · exact atS_sane 3 (by omega)
  split
  · exact atS_sane 7 (by omega)
  split
  · exact atS_sane 8 (by omega)
  split
  · exact sosS_sane c
  split <;> exact st0_sane
theorem graphic_sane {s : St} {c : Int} (h : saneS s = true) (hc : 32 ≤ c ∧ c ≤ 126) : saneS (graphicF s c).1 = true := by
  unfold graphicF
  split
  · exact escape_sane h hc
  split
  · exact numbers_sane h hc
  split
  · split
    · exact collect_sane h (by omega) (.inl (by omega))
    split
    · exact six_sane h
    · exact seq_sane s c
  split
  · split
    · exact st0_sane
    · exact h
  · exact st0_sane
theorem add_sane {s : St} {r : Int} (h : saneS s = true) (hs : isStr s = true) : saneS (addF s r) = true := by
  have ha : s.a = 7 ∨ s.a = 8 ∨ s.a = 9 := by simpa [isStr] using hs
  unfold addF
  split
  · exact h
  split
  · rename_i hl
    rw [saneS_iff] at h ⊢
    exact ⟨h.1, h.2.1, by simp; omega, h.2.2.2.1, h.2.2.2.2.1, fun h0 => by simp only at h0; omega, fun h0 => by simp only at h0; omega⟩
  · exact h
theorem upper_sane (r : Int) : saneS (upperF r).1 = true := by
  unfold upperF
  split
  · exact atS_sane 8 (by omega)
  split
  · exact sosS_sane 88
  split
  · exact atS_sane 3 (by omega)
  split
  · exact st0_sane
  split
  · exact atS_sane 7 (by omega)
  split
  · exact sosS_sane 94
  split
  · exact sosS_sane 95
  · exact st0_sane
theorem stepS_sane (s : St) (r : Int) : saneS (stepS s r).1 = true := by
  unfold stepS
  split
  · exact st0_sane
  rename_i hs
  have h : saneS s = true := by cases e : saneS s; exact absurd e hs; rfl
  split
  · exact st0_sane
  split
  · exact atS_sane 1 (by omega)
  split
  · exact upper_sane r
  split
  · exact st0_sane
  split
  · rename_i h7 h; exact add_sane (by assumption) h
  split
  · exact h
  split
  · exact h
  split
  · exact st0_sane
  · exact graphic_sane h (by omega)
theorem feedGo_sane : ∀ (l : List Int) (s : St), saneS s = true → saneS (feedGo s l).1 = true
  | [], s, h => h
  | r :: rs, s, h => feedGo_sane rs (stepS s r).1 (by have _ := h; exact stepS_sane s r)
theorem feedGo_app (a b : List Int) : ∀ s : St, feedGo s (a ++ b) = ((feedGo (feedGo s a).1 b).1, (feedGo s a).2 ++ (feedGo (feedGo s a).1 b).2) := by
  induction a with
  | nil => intro s; simp [feedGo]
  | cons r rs ih => intro s; simp [feedGo, ih]
end Go.Proofs.YtcempbgbdlmjfaaDoor
