/-
  Layer 3 (utf), plain: what Feed, Sane, End, All and Put compute, over lists of numbers; and the laws of it.
  No program in sight.
-/
import Derived.Test.YtcempbgbdlmjfaaDoorRows
namespace Go.Proofs.YtcempbgbdlmjfaaDoor

/-- how many bytes a letter has whose first byte is c -/
def leadN (c : Int) : Nat := if c ≤ 127 then 1 else if 194 ≤ c ∧ c ≤ 223 then 2 else if 224 ≤ c ∧ c ≤ 239 then 3 else if 240 ≤ c ∧ c ≤ 244 then 4 else 0
def leadLo (c : Int) : Int := if c = 224 then 160 else if c = 240 then 144 else 128
def leadHi (c : Int) : Int := if c = 237 then 159 else if c = 244 then 143 else 191
/-- how many bytes go on -/
def tailN : Nat → Int → Int → List Int → Nat
  | 0, _, _, _ => 0
  | _+1, _, _, [] => 0
  | m+1, lo, hi, x :: xs => if lo ≤ x ∧ x ≤ hi then tailN m 128 191 xs + 1 else 0
def begK : List Int → Nat
  | [] => 0
  | c :: r => if leadN c = 0 then 0 else tailN (leadN c - 1) (leadLo c) (leadHi c) r + 1
def begN : List Int → Nat
  | [] => 0
  | c :: _ => leadN c
def maskF (n : Nat) (c : Int) : Int := if n = 2 then c % 32 else if n = 3 then c % 16 else if n = 4 then c % 8 else c
def letF : List Int → Int
  | [] => 0
  | c :: r => r.foldl (fun a x => a * 64 + x % 64) (maskF (r.length + 1) c)
def feedN : Nat → List Int → List Int × List Int
  | 0, _ => ([], [])
  | f+1, all => if all = [] then ([], []) else
     if 0 < begK all ∧ begK all = begN all then ((feedN f (all.drop (begN all))).1, letF (all.take (begN all)) :: (feedN f (all.drop (begN all))).2)
     else if 0 < begK all ∧ begK all = all.length then (all, [])
     else ((feedN f (all.drop (max (begK all) 1))).1, 65533 :: (feedN f (all.drop (max (begK all) 1))).2)
def feedF (all : List Int) : List Int × List Int := feedN all.length all
def sanU (s : List Int) : Bool := s = [] || (begK s = s.length && decide (begK s < begN s))
def endF (s : List Int) : List Int := if s = [] ∨ sanU s = false then [] else [65533]
def allF (b : List Int) : List Int := (feedF b).2 ++ endF (feedF b).1

theorem tailN_le (m lo hi xs) : tailN m lo hi xs ≤ m ∧ tailN m lo hi xs ≤ xs.length := by
  induction xs generalizing m lo hi with
  | nil => cases m <;> simp [tailN]
  | cons x xs ih =>
    cases m with
    | zero => simp [tailN]
    | succ m =>
      have := ih m 128 191
      simp only [tailN, List.length_cons]
      split <;> omega

theorem begK_le (b) : begK b ≤ begN b ∧ begK b ≤ b.length := by
  cases b with
  | nil => simp [begK, begN]
  | cons c r =>
    have := tailN_le (leadN c - 1) (leadLo c) (leadHi c) r
    simp only [begK, begN, List.length_cons]
    split <;> omega

theorem begN_le (b) : begN b ≤ 4 := by
  cases b with
  | nil => simp [begN]
  | cons c r => simp only [begN, leadN]; repeat (first | omega | split)

theorem tailN_append (m lo hi) (xs ys : List Int) (h : tailN m lo hi xs = m ∨ tailN m lo hi xs < xs.length) :
    tailN m lo hi (xs ++ ys) = tailN m lo hi xs := by
  induction xs generalizing m lo hi with
  | nil => cases m <;> simp [tailN] at h ⊢
  | cons x xs ih =>
    cases m with
    | zero => simp [tailN]
    | succ m =>
      simp only [tailN, List.length_cons, List.cons_append] at h ⊢
      by_cases hc : lo ≤ x ∧ x ≤ hi
      · simp only [hc, and_self, if_true] at h ⊢
        rw [ih m 128 191 (by omega)]
      · simp only [hc, if_false]

theorem begK_append (b c : List Int) (hb : b ≠ []) (h : begK b = begN b ∨ begK b < b.length) : begK (b ++ c) = begK b := by
  cases b with
  | nil => exact absurd rfl hb
  | cons x r =>
    simp only [begK, begN, List.length_cons, List.cons_append] at h ⊢
    by_cases h0 : leadN x = 0
    · simp [h0]
    · simp only [h0, if_false] at h ⊢
      rw [tailN_append _ _ _ _ _ (by omega)]

theorem begN_append (b c : List Int) (hb : b ≠ []) : begN (b ++ c) = begN b := by
  cases b with
  | nil => exact absurd rfl hb
  | cons x r => rfl

theorem feedN_nil (f) : feedN f [] = ([], []) := by cases f <;> simp [feedN]

theorem feedN_fuel (f : Nat) : ∀ all : List Int, all.length ≤ f → feedN f all = feedN all.length all := by
  induction f using Nat.strongRecOn with
  | _ f ih =>
    intro all hl
    by_cases h0 : all = []
    · subst h0; rw [feedN_nil]; rfl
    obtain ⟨g, rfl⟩ : ∃ g, f = g + 1 := ⟨f - 1, by have := List.length_pos_iff.2 h0; omega⟩
    obtain ⟨k, hk⟩ : ∃ k, all.length = k + 1 := ⟨all.length - 1, by have := List.length_pos_iff.2 h0; omega⟩
    have key : ∀ d, 0 < d → feedN g (all.drop d) = feedN k (all.drop d) := by
      intro d hd
      have e1 := ih g (by omega) (all.drop d) (by simp; omega)
      by_cases hg : k = g
      · rw [hg]
      · have e2 := ih k (by omega) (all.drop d) (by simp; omega)
        rw [e1, e2]
    rw [hk]
    simp only [feedN, if_neg h0]
    by_cases h1 : 0 < begK all ∧ begK all = begN all
    · simp only [if_pos h1]
      rw [key (begN all) (by omega)]
    · simp only [if_neg h1]
      by_cases h2 : 0 < begK all ∧ begK all = all.length
      · simp only [if_pos h2]
      · simp only [if_neg h2]
        rw [key (max (begK all) 1) (by omega)]

theorem feedF_nil : feedF [] = ([], []) := rfl

theorem feedF_whole (all : List Int) (h0 : 0 < begK all) (h1 : begK all = begN all) :
    feedF all = ((feedF (all.drop (begN all))).1, letF (all.take (begN all)) :: (feedF (all.drop (begN all))).2) := by
  have hl := begK_le all
  obtain ⟨k, hk⟩ : ∃ k, all.length = k + 1 := ⟨all.length - 1, by omega⟩
  have hn : all ≠ [] := by intro e; subst e; simp at hk
  unfold feedF
  rw [hk]
  simp only [feedN, if_neg hn, h1]
  rw [if_pos ⟨by omega, trivial⟩, feedN_fuel k _ (by simp; omega)]

theorem feedF_stop (all : List Int) (h0 : 0 < begK all) (h1 : begK all ≠ begN all) (h2 : begK all = all.length) :
    feedF all = (all, []) := by
  obtain ⟨k, hk⟩ : ∃ k, all.length = k + 1 := ⟨all.length - 1, by omega⟩
  have hn : all ≠ [] := by intro e; subst e; simp at hk
  unfold feedF
  rw [hk]
  simp only [feedN, if_neg hn]
  rw [if_neg (fun h => h1 h.2), if_pos ⟨h0, h2⟩]

theorem feedF_bad (all : List Int) (hn : all ≠ []) (h1 : ¬ (0 < begK all ∧ begK all = begN all)) (h2 : ¬ (0 < begK all ∧ begK all = all.length)) :
    feedF all = ((feedF (all.drop (max (begK all) 1))).1, 65533 :: (feedF (all.drop (max (begK all) 1))).2) := by
  have hp := List.length_pos_iff.2 hn
  obtain ⟨k, hk⟩ : ∃ k, all.length = k + 1 := ⟨all.length - 1, by omega⟩
  unfold feedF
  rw [hk]
  simp only [feedN, if_neg hn]
  rw [if_neg h1, if_neg h2, feedN_fuel k _ (by simp; omega)]

/-- HOWEVER IT IS CUT -/
theorem feed_append (b c : List Int) : feedF (b ++ c) = ((feedF ((feedF b).1 ++ c)).1, (feedF b).2 ++ (feedF ((feedF b).1 ++ c)).2) := by
  generalize hm : b.length = m
  induction m using Nat.strongRecOn generalizing b with
  | _ m ih =>
    by_cases hn : b = []
    · subst hn; simp [feedF_nil]
    have hp := List.length_pos_iff.2 hn
    have hle := begK_le b
    by_cases h1 : 0 < begK b ∧ begK b = begN b
    · have hk := begK_append b c hn (Or.inl h1.2)
      have hN := begN_append b c hn
      rw [feedF_whole b h1.1 h1.2, feedF_whole (b ++ c) (by omega) (by omega), hN,
        List.drop_append_of_le_length (by omega), List.take_append_of_le_length (by omega),
        ih (b.drop (begN b)).length (by simp; omega) _ rfl]
      simp
    · by_cases h2 : 0 < begK b ∧ begK b = b.length
      · rw [feedF_stop b h2.1 (fun h => h1 ⟨h2.1, h⟩) h2.2]; simp
      · have hk : begK (b ++ c) = begK b := begK_append b c hn (by omega)
        have hN := begN_append b c hn
        rw [feedF_bad b hn h1 h2, feedF_bad (b ++ c) (by simp [hn]) (by omega) (by simp only [List.length_append]; omega), hk,
          List.drop_append_of_le_length (by omega),
          ih (b.drop (max (begK b) 1)).length (by simp; omega) _ rfl]
        simp

/-- what Feed leaves is a beginning -/
theorem feed_sane (b : List Int) : sanU (feedF b).1 = true := by
  generalize hm : b.length = m
  induction m using Nat.strongRecOn generalizing b with
  | _ m ih =>
    by_cases hn : b = []
    · subst hn; rfl
    have hp := List.length_pos_iff.2 hn
    have hle := begK_le b
    by_cases h1 : 0 < begK b ∧ begK b = begN b
    · rw [feedF_whole b h1.1 h1.2]
      exact ih _ (by simp; omega) _ rfl
    · by_cases h2 : 0 < begK b ∧ begK b = b.length
      · rw [feedF_stop b h2.1 (fun h => h1 ⟨h2.1, h⟩) h2.2]
        simp [sanU, hn]
        omega
      · rw [feedF_bad b hn h1 h2]
        exact ih _ (by simp; omega) _ rfl

theorem san_short (s : List Int) (h : sanU s = true) : s.length < 4 := by
  have h4 := begN_le s
  simp [sanU] at h
  rcases h with h | h
  · subst h; simp
  · omega

/-- a state that is one is fed as if nothing had gone before -/
theorem feed_of_sane (s : List Int) (h : sanU s = true) : feedF s = (s, []) := by
  by_cases hn : s = []
  · subst hn; rfl
  have hp := List.length_pos_iff.2 hn
  simp [sanU, hn] at h
  exact feedF_stop s (by omega) (by omega) h.1

theorem feed_state (b c : List Int) : feedF ((feedF b).1 ++ c) = feedF ((feedF b).1 ++ c) := rfl

/-- bytes below 80 are themselves -/
theorem feed_plain (b : List Int) (h : ∀ x ∈ b, 0 ≤ x ∧ x < 128) : feedF b = ([], b) := by
  induction b with
  | nil => rfl
  | cons x r ih =>
    have hx := h x (by simp)
    have e1 : leadN x = 1 := by simp only [leadN]; rw [if_pos (by omega)]
    have e2 : begK (x :: r) = 1 := by simp [begK, e1, tailN]
    have e3 : begN (x :: r) = 1 := by simp [begN, e1]
    rw [feedF_whole _ (by omega) (by omega), e3]
    simp only [List.drop_succ_cons, List.drop_zero, List.take_succ_cons, List.take_zero]
    rw [ih (fun y hy => h y (by simp [hy]))]
    simp [letF, maskF]

theorem end_sane (s : List Int) (h : sanU s = true) : endF s = if s = [] then [] else [65533] := by
  simp [endF, h]

theorem all_plain (b : List Int) (h : ∀ x ∈ b, 0 ≤ x ∧ x < 128) : allF b = b := by
  simp [allF, feed_plain b h, endF]

end Go.Proofs.YtcempbgbdlmjfaaDoor
