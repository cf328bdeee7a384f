/-
  parse: the walk of utf.Put.
-/
import Derived.Lib.RuneBytes
import Derived.Test.YtcempbgbdlmjfaaDoorP6Plain
import Derived.Test.YtcempbgbdlmjfaaDoorPbPr
namespace Go.Proofs.YtcempbgbdlmjfaaDoor
open Go.RowKit

def byteCells (b : List Int) : List Value := b.map (.int .u8)
theorem byteCells_len (b : List Int) : (byteCells b).length = b.length := by simp [byteCells]
theorem runeCells_enc (r : Int) (h : Letter r) : Lib.runeCells r = byteCells (encF r) := by
  unfold Letter at h
  unfold Lib.runeCells byteCells
  congr 1
  unfold encF
  split
  · exact Lib.encodeRuneZ_one (by omega) (by omega)
  split
  · exact Lib.encodeRuneZ_two (by omega) (by omega)
  split
  · exact Lib.encodeRuneZ_three (by omega)
  · exact Lib.encodeRuneZ_four (by omega) (by omega)
theorem append_rune (r : Int) (h : Letter r) (w : World) :
    Calls Tryd.prog 102 #[.slice none 0 0, .int .i32 r] w fun e w' => ∃ A c, e = .returned (.slice A (encF r).length c) ∧
      w'.ownsRow w.heap.size 5 1 (.slice A (encF r).length c) (encF r).length (byteCells (encF r)) ∧ Below w.heap.size w w' := by
  have e := runeCells_enc r h
  unfold Letter at h
  refine (Tryd.utf8_AppendRune_plain w.heap.size (.slice none 0 0) 0 [] r (by omega) (by omega) w (World.ownsRow_nil _ _ _ _) (by omega) (Nat.le_refl _)).mono ?_
  rintro e' w' ⟨v', rfl, hown, o, hg⟩
  rw [e, byteCells_len, Nat.zero_add, List.nil_append] at hown
  obtain ⟨A, c, rfl, _⟩ := own_slice hown
  exact ⟨A, c, rfl, hown, ((Below.refl _ _).alloc (Nat.le_refl _) o).trans (below_of_grown hg (by simp) (by simp [Value.ownBlock]))⟩

set_option maxRecDepth 100000 in
set_option maxHeartbeats 1600000 in
theorem put_any (r : Int) (w : World) :
    Calls Tryd.prog 95 #[.int .i64 r] w fun e w' => ∃ A c, e = .returned (.slice A (putF r).length c) ∧
      w'.ownsRow w.heap.size 5 1 (.slice A (putF r).length c) (putF r).length (byteCells (putF r)) ∧ Below w.heap.size w w' := by
  by_cases h1 : r < 0
  · have e : putF r = encF 65533 := by
      have : okR r = 65533 := by unfold okR; split <;> omega
      simp [putF, this]
    rw [e]
    go_enter Tryd.func95, Tryd.ntmps95
    go_wp2_with (go_at_call 102; refine (append_rune 65533 (by unfold Letter; omega) _).mono ?_; rintro e w1 ⟨A, c, rfl, ho, hb⟩)
    go_ret
    exact ⟨A, c, rfl, ho, hb⟩
  by_cases h2 : 1114111 < r
  · have e : putF r = encF 65533 := by
      have : okR r = 65533 := by unfold okR; split <;> omega
      simp [putF, this]
    rw [e]
    go_enter Tryd.func95, Tryd.ntmps95
    go_wp2_with (go_at_call 102; refine (append_rune 65533 (by unfold Letter; omega) _).mono ?_; rintro e w1 ⟨A, c, rfl, ho, hb⟩)
    go_ret
    exact ⟨A, c, rfl, ho, hb⟩
  by_cases h3 : r < 55296
  · have e : putF r = encF r := by
      have : okR r = r := by unfold okR; split <;> omega
      simp [putF, this]
    rw [e]
    go_enter Tryd.func95, Tryd.ntmps95
    go_wp2_with (go_at_call 102; refine (append_rune r (by unfold Letter; omega) _).mono ?_; rintro e w1 ⟨A, c, rfl, ho, hb⟩)
    go_ret
    exact ⟨A, c, rfl, ho, hb⟩
  by_cases h4 : r ≤ 57343
  · have e : putF r = encF 65533 := by
      have : okR r = 65533 := by unfold okR; split <;> omega
      simp [putF, this]
    rw [e]
    go_enter Tryd.func95, Tryd.ntmps95
    go_wp2_with (go_at_call 102; refine (append_rune 65533 (by unfold Letter; omega) _).mono ?_; rintro e w1 ⟨A, c, rfl, ho, hb⟩)
    go_ret
    exact ⟨A, c, rfl, ho, hb⟩
  · have e : putF r = encF r := by
      have : okR r = r := by unfold okR; split <;> omega
      simp [putF, this]
    rw [e]
    go_enter Tryd.func95, Tryd.ntmps95
    go_wp2_with (go_at_call 102; refine (append_rune r (by unfold Letter; omega) _).mono ?_; rintro e w1 ⟨A, c, rfl, ho, hb⟩)
    go_ret
    exact ⟨A, c, rfl, ho, hb⟩

end Go.Proofs.YtcempbgbdlmjfaaDoor
