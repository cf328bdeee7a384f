/-
  Layer 3 (utf), plain: what Put computes, and that it is read again.
-/
import Derived.Test.YtcempbgbdlmjfaaDoorUtPlain
namespace Go.Proofs.YtcempbgbdlmjfaaDoor

/-- a letter, or the one of those that are none -/
def okR (r : Int) : Int := if r < 0 ∨ r > 1114111 ∨ (r ≥ 55296 ∧ r ≤ 57343) then 65533 else r
def encF (r : Int) : List Int :=
  if r < 128 then [r] else if r < 2048 then [192 + r / 64, 128 + r % 64]
  else if r < 65536 then [224 + r / 4096, 128 + r / 64 % 64, 128 + r % 64]
  else [240 + r / 262144, 128 + r / 4096 % 64, 128 + r / 64 % 64, 128 + r % 64]
def putF (r : Int) : List Int := encF (okR r)

def Letter (r : Int) : Prop := 0 ≤ r ∧ r ≤ 1114111 ∧ ¬ (55296 ≤ r ∧ r ≤ 57343)

theorem okR_letter (r : Int) : Letter (okR r) := by unfold okR Letter; split <;> omega

theorem okR_of {r : Int} (h : Letter r) : okR r = r := by unfold okR; unfold Letter at h; rw [if_neg (by omega)]

theorem enc_len (r : Int) : 0 < (encF r).length ∧ (encF r).length ≤ 4 := by
  unfold encF
  split
  · simp
  split
  · simp
  split <;> simp

theorem put_len (r : Int) : 0 < (putF r).length ∧ (putF r).length ≤ 4 := enc_len _

/-- how the bytes of a letter begin -/
theorem enc_begins (r : Int) (h : Letter r) : begK (encF r) = (encF r).length ∧ begN (encF r) = (encF r).length ∧ letF (encF r) = r := by
  unfold Letter at h
  unfold encF
  split
  · have e1 : leadN r = 1 := by simp only [leadN]; rw [if_pos (by omega)]
    simp [begK, begN, e1, tailN, letF, maskF]
  split
  · have e1 : leadN (192 + r / 64) = 2 := by simp only [leadN]; rw [if_neg (by omega), if_pos (by omega)]
    have e2 : leadLo (192 + r / 64) = 128 := by simp only [leadLo]; rw [if_neg (by omega), if_neg (by omega)]
    have e3 : leadHi (192 + r / 64) = 191 := by simp only [leadHi]; rw [if_neg (by omega), if_neg (by omega)]
    simp only [begK, begN, e1, e2, e3, tailN, letF, maskF, List.length_cons, List.length_nil, List.foldl]
    rw [if_neg (by omega), if_pos (by omega)]
    refine ⟨by simp, by simp, ?_⟩
    simp
    omega
  split
  · have e1 : leadN (224 + r / 4096) = 3 := by simp only [leadN]; rw [if_neg (by omega), if_neg (by omega), if_pos (by omega)]
    have e2 : leadLo (224 + r / 4096) ≤ 128 + r / 64 % 64 := by simp only [leadLo]; repeat (first | omega | split)
    have e3 : 128 + r / 64 % 64 ≤ leadHi (224 + r / 4096) := by simp only [leadHi]; repeat (first | omega | split)
    simp only [begK, begN, e1, tailN, letF, maskF, List.length_cons, List.length_nil, List.foldl]
    rw [if_neg (by omega), if_pos ⟨e2, e3⟩, if_pos (by omega)]
    refine ⟨by simp, by simp, ?_⟩
    simp
    omega
  · have e1 : leadN (240 + r / 262144) = 4 := by simp only [leadN]; rw [if_neg (by omega), if_neg (by omega), if_neg (by omega), if_pos (by omega)]
    have e2 : leadLo (240 + r / 262144) ≤ 128 + r / 4096 % 64 := by simp only [leadLo]; repeat (first | omega | split)
    have e3 : 128 + r / 4096 % 64 ≤ leadHi (240 + r / 262144) := by simp only [leadHi]; repeat (first | omega | split)
    simp only [begK, begN, e1, tailN, letF, maskF, List.length_cons, List.length_nil, List.foldl]
    rw [if_neg (by omega), if_pos ⟨e2, e3⟩, if_pos (by omega), if_pos (by omega)]
    refine ⟨by simp, by simp, ?_⟩
    simp
    omega

/-- WHAT IS PUT IS READ, whatever stands behind -/
theorem feed_enc (r : Int) (h : Letter r) (c : List Int) : feedF (encF r ++ c) = ((feedF c).1, r :: (feedF c).2) := by
  obtain ⟨h1, h2, h3⟩ := enc_begins r h
  have hl := enc_len r
  have hn : encF r ≠ [] := by intro e; rw [e] at hl; simp at hl
  have e1 := begK_append (encF r) c hn (Or.inl (by omega))
  have e2 := begN_append (encF r) c hn
  rw [feedF_whole _ (by omega) (by omega), e2, h2]
  simp [h3]

theorem feed_put (r : Int) (c : List Int) : feedF (putF r ++ c) = ((feedF c).1, okR r :: (feedF c).2) := feed_enc _ (okR_letter r) c

theorem feed_puts (l : List Int) : feedF (l.flatMap putF) = ([], l.map okR) := by
  induction l with
  | nil => rfl
  | cons r l ih => rw [List.flatMap_cons, feed_put, ih]; rfl

/-- a beginning of a letter's bytes is kept -/
theorem tailN_take (m lo hi) (xs : List Int) (h : tailN m lo hi xs = m) (k : Nat) (hk : k ≤ m) : tailN m lo hi (xs.take k) = k := by
  induction xs generalizing m lo hi k with
  | nil => cases m <;> simp_all [tailN]
  | cons x xs ih =>
    cases m with
    | zero => simp [tailN]; omega
    | succ m =>
      cases k with
      | zero => simp [tailN]
      | succ k =>
        simp only [tailN] at h
        simp only [List.take_succ_cons, tailN]
        split at h
        · rename_i hc; rw [if_pos hc, ih m _ _ (by omega) k (by omega)]
        · omega

theorem feed_part (r : Int) (k : Nat) (h0 : 0 < k) (hk : k < (putF r).length) : feedF ((putF r).take k) = ((putF r).take k, []) := by
  obtain ⟨h1, h2, _⟩ := enc_begins _ (okR_letter r)
  change begK (putF r) = (putF r).length at h1
  change begN (putF r) = (putF r).length at h2
  revert h1 h2 hk
  generalize putF r = b
  intro hk h1 h2
  cases b with
  | nil => simp at hk
  | cons c b =>
    obtain ⟨j, rfl⟩ : ∃ j, k = j + 1 := ⟨k - 1, by omega⟩
    simp only [begK, begN, List.length_cons] at h2 h1 hk ⊢
    have e := tailN_take (leadN c - 1) (leadLo c) (leadHi c) b (by split at h1 <;> omega) j (by omega)
    have e1 : begK (c :: b.take j) = j + 1 := by
      simp only [begK, e]; rw [if_neg (by omega)]
    refine feedF_stop _ (by simp only [List.take_succ_cons]; omega) (by simp only [List.take_succ_cons, begN]; omega) (by simp only [List.take_succ_cons, e1, List.length_cons, List.length_take]; omega)

/-- a byte below 80 behind a beginning makes it bad -/
theorem tailN_low (m lo hi) (xs : List Int) (c : Int) (hc : c < 128) (hlo : 128 ≤ lo) : tailN m lo hi (xs ++ [c]) = tailN m lo hi xs := by
  induction xs generalizing m lo hi with
  | nil => cases m <;> simp [tailN]; omega
  | cons x xs ih =>
    cases m with
    | zero => simp [tailN]
    | succ m => simp only [List.cons_append, tailN]; rw [ih m 128 191 (by omega)]

theorem lo_ge (c : Int) : 128 ≤ leadLo c := by unfold leadLo; repeat (first | omega | split)

theorem feed_low (s : List Int) (h : sanU s = true) (hn : s ≠ []) (c : Int) (h0 : 0 ≤ c) (hc : c < 128) : feedF (s ++ [c]) = ([], [65533, c]) := by
  have hp := List.length_pos_iff.2 hn
  simp [sanU, hn] at h
  have e1 : begK (s ++ [c]) = begK s := by
    cases s with
    | nil => exact absurd rfl hn
    | cons x r => simp only [List.cons_append, begK]; rw [tailN_low _ _ _ _ _ hc (lo_ge x)]
  have e2 := begN_append s [c] hn
  rw [feedF_bad _ (by simp) (by omega) (by simp; omega), e1, h.1, Nat.max_eq_left (by omega)]
  simp only [List.drop_left]
  rw [feed_plain [c] (by simp; omega)]

theorem all_low (b : List Int) (c : Int) (h0 : 0 ≤ c) (hc : c < 128) : allF (b ++ [c]) = allF b ++ [c] := by
  have hs := feed_sane b
  simp only [allF, feed_append b [c]]
  by_cases hn : (feedF b).1 = []
  · rw [hn]
    have e := feed_plain [c] (by simp; omega)
    simp only [List.nil_append, e]
    simp [endF]
  · rw [feed_low _ hs hn c h0 hc, end_sane _ hs, if_neg hn]
    simp [endF]

end Go.Proofs.YtcempbgbdlmjfaaDoor
