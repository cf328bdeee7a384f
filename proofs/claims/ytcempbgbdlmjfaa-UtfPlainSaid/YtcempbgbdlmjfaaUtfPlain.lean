/-
  lapwinglaw03.UtfPlain: for any bytes it answers true: bytes below 80 are themselves, wherever they stand. No condition.
-/
import Derived.Test.YtcempbgbdlmjfaaUtH
namespace Go.Proofs.Ytcempbgbdlmjfaa
open Go.RowKit

set_option maxRecDepth 100000 in
set_option maxHeartbeats 1600000 in
theorem plain_walk (b : List Int) (A : Option Addr) (c : Nat) (w : World) (hr : Rd w w.heap.size A (byteCells b)) (hb : Bytes b) (hl : b.length ≤ maxLen) :
    Calls Try.prog 8 #[.slice A b.length c] w fun e w' => e = .returned (.bool true) ∧ Below w.heap.size w w' := by
  unfold maxLen at hl
  by_cases h5 : 500 < b.length
  · go_enter Try.func8, Try.ntmps8
    go_wp2_with (go_at_call 25; refine (awake3_any _).mono ?_; rintro e w1 ⟨rfl, hb1⟩)
    go_ret
    exact ⟨rfl, hb1⟩
  go_enter Try.func8, Try.ntmps8
  go_wp2_with (go_at_call 25; refine (awake3_any _).mono ?_; rintro e w1 ⟨rfl, hb1⟩)
  have m1 := hb1.size
  have hr1 := hr.below hb1 (Nat.le_refl _)
  go_loopw [4, 5] (fun want i wr => ∃ (k : Nat) (Aw : Option Addr) (cw : Nat), i = .int .i64 k ∧ k ≤ b.length ∧ want = .slice Aw k cw ∧ wr.ownsRow w1.heap.size 3 1 want k (intCells (b.take k)) ∧ (∀ y ∈ b.take k, y < 128) ∧ Below w1.heap.size w1 wr) (fun _ i _ => b.length - (intOf i).toNat)
  case atStart => exact ⟨0, none, 0, rfl, by omega, rfl, World.ownsRow_nil _ _ _ _, by simp, Below.refl _ _⟩
  case round =>
    obtain ⟨k, Aw, cw, rfl, hk, rfl, hown, hlow, hbw⟩ := hrel
    have HLOW := Lib.hid hlow; clear hlow
    have mr := hbw.size
    by_cases hlt : k < b.length
    · obtain ⟨bb, off, rfl, hbB, hc⟩ := hr1 (by simp [byteCells]; omega)
      have c0 : w1.cell? ⟨bb, off + k, none⟩ = some (.int .u8 b[k]) := by simpa [byteCells] using hc k (by simpa [byteCells] using hlt)
      have d0 := past hbw c0
      have hx := hb b[k] (by simp)
      clear hc c0 hr1 hr
      by_cases hhi : 128 ≤ b[k]
      · go_wp2
        go_ret
        exact ⟨rfl, bt hb1 hbw m1⟩
      · go_wp2_with (at_builtin; go_loud (refine wpList_push (by rfl) (.tmp 23) (.tmp 29) 43 el_int (by rfl) w1.heap.size _ k (intCells (b.take k)) (by rfl) (hown.alloc _) wr.heap.size 1 [.int .i64 b[k]] (by rfl) (heap_new_at rfl) rfl (by simp [Value.oneCell']) (by unfold maxLen; omega) (by omega) (by simp; omega) (wr.heap.size + 1) (by simp) ?_); intro g7 c7 w7 hown7 hgrow7 hat7)
        go_roundw
        case rel =>
          refine ⟨k + 1, some ⟨g7, 0, none⟩, c7, by go_num, by omega, rfl, ?_, ?_, bt (hbw.alloc mr _) (below_of_grown hgrow7 (show w1.heap.size ≤ _ by simp; omega) (own_ge hown)) (Nat.le_refl _)⟩
          · rw [List.take_succ_eq_append_getElem hlt, intCells_append]
            exact hown7
          · rw [List.take_succ_eq_append_getElem hlt]
            intro y hy
            rcases List.mem_append.1 hy with h | h
            · exact HLOW.out y h
            · simp at h; omega
        case measure => simp [intOf]; omega
    · obtain rfl : k = b.length := by omega
      have hlow := HLOW.out
      simp only [List.take_length] at hown hlow
      have ha := all_plain b (fun y hy => ⟨(hb y hy).1, hlow y hy⟩)
      have HA := Lib.hid ha; clear ha hlow
      have rw1 := Rd.of_own hown
      have hr2 := hr1.below hbw m1
      go_wp2_with (first
        | (go_at_call 29; refine (all_any b A c _ w.heap.size (by omega) hr2 hb (by omega)).mono ?_; rintro e w3 ⟨A3, c3, rfl, ho3, hb3⟩; simp only [HA.out] at ho3 ⊢; have rd3 := Rd.of_own ho3; have rd4 := rw1.next hb3)
        | (go_at_call 27; refine (ints_any b _ _ c3 cw _ _ rd3 rd4 (by unfold maxLen; omega)).mono ?_; rintro e w4 ⟨rfl, hb4⟩))
      go_ret
      exact ⟨rfl, bt (bt (bt hb1 hbw m1) hb3 (by omega)) hb4 (by have := hb3.size; omega)⟩
end Go.Proofs.Ytcempbgbdlmjfaa
