/-
  pen: one, whatever comes.
-/
import Derived.Test.YtcempbgbdlmjfaaDoorPeG
namespace Go.Proofs.YtcempbgbdlmjfaaDoor
open Go.RowKit

theorem one_any (p : Pn) (n : Int) (q : List Int) (A : Option Addr) (c : Nat) (w : World) (hr : Rd w w.heap.size A (nC (n :: q))) (hT : TabP w) :
    Calls Tryd.prog 64 #[.agg #[.int .i64 p.fg, .int .i64 p.bg, .int .i64 p.fl], .slice A (q.length + 1) c] w (PenRet w (oneF p (n :: q))) := by
  obtain ⟨fg, bg, fl⟩ := p
  simp only
  by_cases x0 : n < -1
  · exact one_x0 _ _ _ _ _ _ _ _ hr x0
  by_cases em1 : n = -1
  · subst em1; exact one_em1 _ _ _ _ _ _ _ hr
  by_cases e0 : n = 0
  · subst e0; exact one_e0 _ _ _ _ _ _ _ hr
  by_cases h9 : n ≤ 9
  · rcases (show n = 1 ∨ n = 2 ∨ n = 3 ∨ n = 4 ∨ n = 5 ∨ n = 6 ∨ n = 7 ∨ n = 8 ∨ n = 9 by omega) with rfl | rfl | rfl | rfl | rfl | rfl | rfl | rfl | rfl
    · exact one_s1 _ _ _ _ _ _ _ hr hT
    · exact one_s2 _ _ _ _ _ _ _ hr hT
    · exact one_s3 _ _ _ _ _ _ _ hr hT
    · cases q with
      | nil => exact one_f4 _ _ _ _ _ _ hr
      | cons y q =>
        by_cases y0 : y = 0
        · subst y0; exact one_f40 _ _ _ _ _ _ _ hr
        by_cases y2 : y = 2
        · subst y2; exact one_f42 _ _ _ _ _ _ _ hr
        · exact one_f4x _ _ _ _ _ _ _ _ hr y0 y2
    · exact one_s5 _ _ _ _ _ _ _ hr hT
    · exact one_s6 _ _ _ _ _ _ _ hr hT
    · exact one_s7 _ _ _ _ _ _ _ hr hT
    · exact one_s8 _ _ _ _ _ _ _ hr hT
    · exact one_s9 _ _ _ _ _ _ _ hr hT
  by_cases x10 : n ≤ 20
  · exact one_x10 _ _ _ _ _ _ _ _ hr ⟨by omega, x10⟩
  by_cases n21 : n = 21
  · subst n21; exact one_n21 _ _ _ _ _ _ _ hr
  by_cases h29 : n ≤ 29
  · rcases (show n = 22 ∨ n = 23 ∨ n = 24 ∨ n = 25 ∨ n = 26 ∨ n = 27 ∨ n = 28 ∨ n = 29 by omega) with rfl | rfl | rfl | rfl | rfl | rfl | rfl | rfl
    · exact one_u22 _ _ _ _ _ _ _ hr hT
    · exact one_u23 _ _ _ _ _ _ _ hr hT
    · exact one_u24 _ _ _ _ _ _ _ hr hT
    · exact one_u25 _ _ _ _ _ _ _ hr hT
    · exact one_u26 _ _ _ _ _ _ _ hr hT
    · exact one_u27 _ _ _ _ _ _ _ hr hT
    · exact one_u28 _ _ _ _ _ _ _ hr hT
    · exact one_u29 _ _ _ _ _ _ _ hr hT
  by_cases r30 : n ≤ 37
  · exact one_r30 _ _ _ _ _ _ _ _ hr ⟨by omega, r30⟩
  by_cases x38 : n = 38
  · subst x38; exact one_x38 _ _ _ _ _ _ _ hr
  by_cases e39 : n = 39
  · subst e39; exact one_e39 _ _ _ _ _ _ _ hr
  by_cases r40 : n ≤ 47
  · exact one_r40 _ _ _ _ _ _ _ _ hr ⟨by omega, r40⟩
  by_cases x48 : n = 48
  · subst x48; exact one_x48 _ _ _ _ _ _ _ hr
  by_cases e49 : n = 49
  · subst e49; exact one_e49 _ _ _ _ _ _ _ hr
  by_cases x50 : n ≤ 89
  · exact one_x50 _ _ _ _ _ _ _ _ hr ⟨by omega, x50⟩
  by_cases r90 : n ≤ 97
  · exact one_r90 _ _ _ _ _ _ _ _ hr ⟨by omega, r90⟩
  by_cases x98 : n ≤ 99
  · exact one_x98 _ _ _ _ _ _ _ _ hr ⟨by omega, x98⟩
  by_cases r100 : n ≤ 107
  · exact one_r100 _ _ _ _ _ _ _ _ hr ⟨by omega, r100⟩
  · exact one_x108 _ _ _ _ _ _ _ _ hr (by omega)
end Go.Proofs.YtcempbgbdlmjfaaDoor
