/-
  Layer 3 (utf), plain: what comes out are letters, and no more of them than bytes.
-/
import Derived.Test.YtcempbgbdlmjfaaUtPut
namespace Go.Proofs.Ytcempbgbdlmjfaa

theorem feed_count (b : List Int) : (feedF b).2.length + (feedF b).1.length ≤ b.length := by
  generalize hm : b.length = m
  induction m using Nat.strongRecOn generalizing b with
  | _ m ih =>
    by_cases hn : b = []
    · subst hn; simp [feedF_nil]
    have hp := List.length_pos_iff.2 hn
    have hle := begK_le b
    by_cases h1 : 0 < begK b ∧ begK b = begN b
    · rw [feedF_whole b h1.1 h1.2]
      have := ih (b.drop (begN b)).length (by simp; omega) _ rfl
      simp at this ⊢
      omega
    · by_cases h2 : 0 < begK b ∧ begK b = b.length
      · rw [feedF_stop b h2.1 (fun h => h1 ⟨h2.1, h⟩) h2.2]; simp; omega
      · rw [feedF_bad b hn h1 h2]
        have := ih (b.drop (max (begK b) 1)).length (by simp; omega) _ rfl
        simp at this ⊢
        omega

theorem all_count (b : List Int) : (allF b).length ≤ b.length := by
  have := feed_count b
  unfold allF endF
  split
  · simp; omega
  · rename_i h
    have : 0 < (feedF b).1.length := List.length_pos_iff.2 (fun e => h (.inl e))
    simp; omega

theorem hi_le (c : Int) : leadHi c ≤ 191 := by unfold leadHi; repeat (first | omega | split)

theorem letF_letter (b : List Int) (hb : ∀ y ∈ b, 0 ≤ y ∧ y < 256) (h0 : 0 < begK b) (h1 : begK b = begN b) : Letter (letF (b.take (begN b))) := by
  cases b with
  | nil => simp [begK] at h0
  | cons c r =>
    have hc := hb c (by simp)
    simp only [begK, begN] at h0 h1 ⊢
    split at h0
    · omega
    rename_i hz
    rw [if_neg hz] at h1
    have h4 : leadN c ≤ 4 := begN_le (c :: r)
    rcases (show leadN c = 1 ∨ leadN c = 2 ∨ leadN c = 3 ∨ leadN c = 4 by omega) with e | e | e | e
    · rw [e]
      have : c ≤ 127 := by unfold leadN at e; repeat (first | omega | split at e)
      simp [letF, maskF, Letter]; omega
    · have hr : 194 ≤ c ∧ c ≤ 223 := by unfold leadN at e; repeat (first | omega | split at e)
      rw [e] at h1 ⊢
      cases r with
      | nil => simp [tailN] at h1
      | cons y r =>
        simp only [tailN] at h1
        split at h1
        · simp [letF, maskF, Letter]; omega
        · omega
    · have hr : 224 ≤ c ∧ c ≤ 239 := by unfold leadN at e; repeat (first | omega | split at e)
      rw [e] at h1 ⊢
      cases r with
      | nil => simp [tailN] at h1
      | cons y r =>
        simp only [tailN] at h1
        split at h1
        · rename_i hy
          cases r with
          | nil => simp [tailN] at h1
          | cons z r =>
            simp only [tailN] at h1
            split at h1
            · rename_i hz'
              have q1 : c = 224 → 160 ≤ y := fun q => by subst q; simpa [leadLo] using hy.1
              have q2 : c = 237 → y ≤ 159 := fun q => by subst q; simpa [leadHi] using hy.2
              have q3 : 128 ≤ y := Int.le_trans (lo_ge c) hy.1
              have q4 : y ≤ 191 := Int.le_trans hy.2 (hi_le c)
              simp [letF, maskF, Letter]; omega
            · omega
        · omega
    · have hr : 240 ≤ c ∧ c ≤ 244 := by unfold leadN at e; repeat (first | omega | split at e)
      rw [e] at h1 ⊢
      cases r with
      | nil => simp [tailN] at h1
      | cons y r =>
        simp only [tailN] at h1
        split at h1
        · rename_i hy
          cases r with
          | nil => simp [tailN] at h1
          | cons z r =>
            simp only [tailN] at h1
            split at h1
            · rename_i hz'
              cases r with
              | nil => simp [tailN] at h1
              | cons u r =>
                simp only [tailN] at h1
                split at h1
                · have q1 : c = 240 → 144 ≤ y := fun q => by subst q; simpa [leadLo] using hy.1
                  have q2 : c = 244 → y ≤ 143 := fun q => by subst q; simpa [leadHi] using hy.2
                  have q3 : 128 ≤ y := Int.le_trans (lo_ge c) hy.1
                  have q4 : y ≤ 191 := Int.le_trans hy.2 (hi_le c)
                  simp [letF, maskF, Letter]; omega
                · omega
            · omega
        · omega

theorem feed_letters (b : List Int) (hb : ∀ y ∈ b, 0 ≤ y ∧ y < 256) : ∀ y ∈ (feedF b).2, Letter y := by
  generalize hm : b.length = m
  induction m using Nat.strongRecOn generalizing b with
  | _ m ih =>
    by_cases hn : b = []
    · subst hn; simp [feedF_nil]
    have hp := List.length_pos_iff.2 hn
    have hle := begK_le b
    by_cases h1 : 0 < begK b ∧ begK b = begN b
    · rw [feedF_whole b h1.1 h1.2]
      intro y hy
      rcases List.mem_cons.1 hy with rfl | hy
      · exact letF_letter b hb h1.1 h1.2
      · exact ih (b.drop (begN b)).length (by simp; omega) _ (fun y hy => hb y (List.mem_of_mem_drop hy)) rfl y hy
    · by_cases h2 : 0 < begK b ∧ begK b = b.length
      · rw [feedF_stop b h2.1 (fun h => h1 ⟨h2.1, h⟩) h2.2]; simp
      · rw [feedF_bad b hn h1 h2]
        intro y hy
        rcases List.mem_cons.1 hy with rfl | hy
        · unfold Letter; omega
        · exact ih (b.drop (max (begK b) 1)).length (by simp; omega) _ (fun y hy => hb y (List.mem_of_mem_drop hy)) rfl y hy

theorem all_letters (b : List Int) (hb : ∀ y ∈ b, 0 ≤ y ∧ y < 256) : ∀ y ∈ allF b, Letter y := by
  intro y hy
  rcases List.mem_append.1 hy with hy | hy
  · exact feed_letters b hb y hy
  · unfold endF at hy
    split at hy
    · simp at hy
    · simp at hy; subst hy; unfold Letter; omega

theorem feed_sub (b : List Int) : ∀ y ∈ (feedF b).1, y ∈ b := by
  generalize hm : b.length = m
  induction m using Nat.strongRecOn generalizing b with
  | _ m ih =>
    by_cases hn : b = []
    · subst hn; simp [feedF_nil]
    have hp := List.length_pos_iff.2 hn
    have hle := begK_le b
    by_cases h1 : 0 < begK b ∧ begK b = begN b
    · rw [feedF_whole b h1.1 h1.2]
      intro y hy
      exact List.mem_of_mem_drop (ih _ (by simp; omega) _ rfl y hy)
    · by_cases h2 : 0 < begK b ∧ begK b = b.length
      · rw [feedF_stop b h2.1 (fun h => h1 ⟨h2.1, h⟩) h2.2]; exact fun y hy => hy
      · rw [feedF_bad b hn h1 h2]
        intro y hy
        exact List.mem_of_mem_drop (ih _ (by simp; omega) _ rfl y hy)
end Go.Proofs.Ytcempbgbdlmjfaa
