/-
  mouse, plain: what Report tells, read by the parser.
-/
import Derived.Test.YtcempbgbdlmjfaaDoorP6Laws
import Derived.Test.YtcempbgbdlmjfaaDoorPbPlain
namespace Go.Proofs.YtcempbgbdlmjfaaDoor


theorem prt3 (n x y : Int) (hn : 0 ≤ n) (hx : 0 ≤ x) (hy : 0 ≤ y) : bL (printS [[n], [x], [y]]) = bL (Lib.itoa n) ++ (59 :: (bL (Lib.itoa x) ++ (59 :: bL (Lib.itoa y)))) := by
  have e : ∀ z : Int, 0 ≤ z → numS z = Lib.itoa z := fun z hz => by unfold numS; rw [if_neg (by omega)]
  simp [printS, rowsS, rowS, subsS, e _ hn, e _ hx, e _ hy, bL]
theorem parse3 (n x y : Int) (hn : 0 ≤ n ∧ n ≤ 65535) (hx : 0 ≤ x ∧ x ≤ 65535) (hy : 0 ≤ y ∧ y ≤ 65535) : ∃ q, parseGo ⟨[], false⟩ (bL (Lib.itoa n) ++ (59 :: (bL (Lib.itoa x) ++ (59 :: bL (Lib.itoa y))))) = some q ∧ q.l = [[n], [x], [y]] := by
  have hs : saneP ⟨[[n], [x], [y]], false⟩ = true := by
    refine (saneP_iff _).2 ⟨by simp, by simp, fun z hz => (okRow_iff z).2 ?_⟩
    simp only [List.mem_cons, List.not_mem_nil, or_false] at hz
    rcases hz with rfl | rfl | rfl <;> refine ⟨⟨by simp, by simp⟩, fun c hc => ?_⟩ <;> simp only [List.mem_cons, List.not_mem_nil, or_false] at hc <;> subst hc <;> omega
  obtain ⟨q, h1, h2⟩ := back_law _ hs
  rw [prt3 n x y hn.1 hx.1 hy.1] at h1
  rcases h2 with h2 | ⟨h2, _⟩
  · exact ⟨q, h1, h2⟩
  · simp at h2
theorem tells_law (n x y fin : Int) (mark : Bool) (hn : 0 ≤ n ∧ n ≤ 65535) (hx : 0 ≤ x ∧ x ≤ 65535) (hy : 0 ≤ y ∧ y ≤ 65535) (hf : 64 ≤ fin ∧ fin ≤ 126) :
    feedS st0 (27 :: 91 :: (optC mark 60 ++ (bL (Lib.itoa n) ++ (59 :: (bL (Lib.itoa x) ++ (59 :: (bL (Lib.itoa y) ++ [fin]))))))) = (st0, [⟨4, 0, fin, optC mark 60, [[n], [x], [y]], []⟩]) := by
  obtain ⟨q, h1, h2⟩ := parse3 n x y hn hx hy
  have h := csi_law _ q h1 mark false 60 32 fin (by omega) (by omega) hf
  rw [h2] at h
  simpa [optC] using h
end Go.Proofs.YtcempbgbdlmjfaaDoor
