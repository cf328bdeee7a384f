/-
  Layer 5 (params), plain: a step changes the last parameter alone. No program in sight.
-/
import Derived.Test.YtcempbgbdlmjfaaDoorPaPlain
namespace Go.Proofs.YtcempbgbdlmjfaaDoor

/-- all but the last one stand -/
def Stays (L M : List (List Int)) : Prop := L.length ≤ M.length ∧ ∀ i, i + 1 < L.length → M[i]? = L[i]?
theorem Stays.refl (L : List (List Int)) : Stays L L := ⟨Nat.le_refl _, fun _ _ => rfl⟩
theorem setLast_get (l : List (List Int)) (q : List Int) (hn : l ≠ []) : Stays l (setLast l q) := by
  refine ⟨by rw [setLast_len _ _ hn]; exact Nat.le_refl _, fun i hi => ?_⟩
  unfold setLast
  rw [List.getElem?_append_left (by simp; omega), List.getElem?_dropLast, if_pos (by omega)]
theorem stays_nil (M : List (List Int)) : Stays [] M := ⟨by simp, fun i hi => by simp at hi⟩
theorem begun_stays (p : P5) : Stays p.l (begunP p).l := by
  unfold begunP
  split
  · rename_i h; rw [h]; exact stays_nil _
  · exact Stays.refl _
theorem begun_of (p : P5) (h : p.l ≠ []) : begunP p = p := by unfold begunP; rw [if_neg h]
theorem begun_nil (p : P5) (h : p.l = []) : begunP p = ⟨[[-1]], true⟩ := by unfold begunP; rw [if_pos h]
theorem digit_stays (p : P5) (c : Int) (hs : saneP p = true) : Stays p.l (digitP p c).l ∧ (digitP p c).l.length = max p.l.length (min (digitP p c).l.length 1) := by
  unfold digitP
  rw [if_neg (by simp [hs])]
  split
  · exact ⟨Stays.refl _, by omega⟩
  by_cases h : p.l = []
  · rw [begun_nil p h, h]
    exact ⟨stays_nil _, by simp [setLast]⟩
  · have := List.length_pos_iff.2 h
    rw [begun_of p h]
    split
    · exact ⟨Stays.refl _, by omega⟩
    · exact ⟨setLast_get _ _ h, by simp only; rw [setLast_len _ _ h]; omega⟩
theorem next_stays (p : P5) (hs : saneP p = true) : Stays p.l (nextP p).l ∧ (nextP p).l.length ≤ 16 := by
  refine ⟨?_, ((saneP_iff _).1 (next_sane hs)).1⟩
  unfold nextP
  rw [if_neg (by simp [hs])]
  by_cases h : p.l = []
  · rw [h]; exact stays_nil _
  · rw [begun_of p h]
    split
    · exact Stays.refl _
    · refine ⟨by simp, fun i hi => ?_⟩
      show (p.l ++ [[-1]])[i]? = _
      rw [List.getElem?_append_left (by omega)]
theorem sub_stays (p : P5) (hs : saneP p = true) : Stays p.l (subP p).l ∧ (subP p).l.length = max p.l.length 1 := by
  unfold subP
  rw [if_neg (by simp [hs])]
  by_cases h : p.l = []
  · rw [h, begun_nil p h]
    refine ⟨stays_nil _, ?_⟩
    split <;> simp [setLast]
  · have := List.length_pos_iff.2 h
    rw [begun_of p h]
    split
    · exact ⟨Stays.refl _, by simp only; omega⟩
    · exact ⟨setLast_get _ _ h, by simp only; rw [setLast_len _ _ h]; omega⟩
theorem Stays.at {L M : List (List Int)} (h : Stays L M) (i : Nat) (hi : i + 1 < L.length) (h1 : i < L.length) (h2 : i < M.length) : M[i] = L[i] := by
  have := h.2 i hi
  rw [List.getElem?_eq_getElem h1, List.getElem?_eq_getElem h2] at this
  exact Option.some.inj this
end Go.Proofs.YtcempbgbdlmjfaaDoor
