/-
  utf: the walk of Ints, over one list read twice.
-/
import Derived.Test.YtcempbgbdlmjfaaUtA
namespace Go.Proofs.Ytcempbgbdlmjfaa
open Go.RowKit

def intCells (l : List Int) : List Value := l.map (.int .i64)

set_option maxHeartbeats 800000 in
theorem ints_any (l : List Int) (A A' : Option Addr) (c c' : Nat) (w : World) (B : Nat) (hr0 : Rd w B A (intCells l)) (hr1 : Rd w B A' (intCells l)) (hl : l.length ≤ maxLen) :
    Calls Try.prog 27 #[.slice A l.length c, .slice A' l.length c'] w fun e w' => e = .returned (.bool true) ∧ Below w.heap.size w w' := by
  unfold maxLen at hl
  go_enter Try.func27, Try.ntmps27
  go_wp2
  go_loopw [5] (fun i wr => ∃ k : Nat, k ≤ l.length ∧ i = .int .i64 k ∧ ∃ n, wr = w.drewN n) (fun i _ => l.length - (intOf i).toNat)
  case atStart => exact ⟨0, Nat.zero_le _, rfl, 0, rfl⟩
  case round =>
    obtain ⟨k, hk, rfl, n, rfl⟩ := hrel
    by_cases hlt : k < l.length
    · obtain ⟨b, off, rfl, hbB, hc⟩ := hr0 (by simp [intCells]; omega)
      obtain ⟨b', off', rfl, hbB', hc'⟩ := hr1 (by simp [intCells]; omega)
      have c0 : w.cell? ⟨b, off + k, none⟩ = some (.int .i64 l[k]) := by simpa [intCells] using hc k (by simpa [intCells] using hlt)
      have d0 : w.cell? ⟨b', off' + k, none⟩ = some (.int .i64 l[k]) := by simpa [intCells] using hc' k (by simpa [intCells] using hlt)
      clear hc hc' hr0 hr1
      have i0 : (0 : Int) ≤ ↑k := by omega
      have i1 : (↑k : Int) < ↑l.length := by omega
      go_wp2
      go_quiet (fail)
      go_wp2
      go_roundw
      case rel => exact ⟨k + 1, by omega, by go_num, _, rfl⟩
      case measure => simp [intOf]; omega
    · go_wp2
      go_ret
      exact ⟨rfl, below_drewN (Below.refl _ _) _⟩
end Go.Proofs.Ytcempbgbdlmjfaa
