/-
  params: the walk of the document's Few.
-/
import Derived.Test.YtcempbgbdlmjfaaDoorPaG
namespace Go.Proofs.YtcempbgbdlmjfaaDoor
open Go.RowKit

def fewF (L : List (List Int)) : Bool := decide (L.length ≤ 30) && L.all fun q => decide (q.length ≤ 20)
theorem few_iff (L : List (List Int)) : fewF L = true ↔ L.length ≤ 30 ∧ ∀ q ∈ L, q.length ≤ 20 := by simp [fewF]
set_option maxRecDepth 100000 in
set_option maxHeartbeats 1600000 in
theorem few_any {lo : Nat} (L : List (List Int)) (v : Value) (w : World) (hr : RdLL w lo w.heap.size v L) :
    Calls Tryd.prog 35 #[v] w fun e w' => e = .returned (.bool (fewF L)) ∧ w = w' := by
  obtain ⟨A, c, rfl, hcap⟩ := rdLL_form hr
  by_cases h30 : L.length ≤ 30
  · have HR := Lib.hid hr
    clear hr
    go_enter Tryd.func35, Tryd.ntmps35
    go_wp2
    go_loop [3] (fun i => ∃ k : Nat, k ≤ L.length ∧ i = .int .i64 k ∧ (L.take k).all (fun q => decide (q.length ≤ 20)) = true) (fun i => L.length - (intOf i).toNat)
    case atStart => exact ⟨0, Nat.zero_le _, rfl, rfl⟩
    case round =>
      obtain ⟨k, hk, rfl, hall⟩ := hrel
      have HA := Lib.hid hall; clear hall
      by_cases hlt : k < L.length
      · obtain ⟨b, off, Ai, ci, rfl, hbB, hc, hci, hri⟩ := HR.out.at k hlt
        obtain ⟨q, hq⟩ : ∃ q, L[k] = q := ⟨_, rfl⟩
        rw [hq] at hc hci hri
        have HQ := Lib.hid hq
        clear hq hri
        have i0 : (0 : Int) ≤ ↑k := by omega
        have i1 : (↑k : Int) < ↑L.length := by omega
        by_cases h20 : q.length ≤ 20
        · have d1 : decide ((20 : Int) < (q.length : Int)) = false := by simp; omega
          have hst : (L.take (k + 1)).all (fun q => decide (q.length ≤ 20)) = true := by
            rw [List.take_succ_eq_append_getElem hlt, List.all_append, HA.out, HQ.out]
            simp [h20]
          have HST := Lib.hid hst
          clear hst
          go_wp2
          go_round
          case rel => exact ⟨k + 1, by omega, by go_num, HST.out⟩
          case measure => simp [intOf]; omega
        · have d1 : decide ((20 : Int) < (q.length : Int)) = true := by simp; omega
          have hf : fewF L = false := by
            cases h : fewF L with
            | false => rfl
            | true => exact absurd (((few_iff L).1 h).2 _ (List.getElem_mem hlt)) (by rw [HQ.out]; exact h20)
          have HF := Lib.hid hf
          clear hf h20
          go_wp2
          go_ret
          exact ⟨by rw [HF.out]; rfl, rfl⟩
      · obtain rfl : k = L.length := by omega
        have hf : fewF L = true := by
          have := HA.out
          rw [List.take_length] at this
          unfold fewF
          rw [this]
          simp [h30]
        have HF := Lib.hid hf
        clear hf
        go_wp2
        go_ret
        exact ⟨by rw [HF.out]; rfl, rfl⟩
  · have d1 : decide ((30 : Int) < (L.length : Int)) = true := by simp; omega
    have hf : fewF L = false := by simp [fewF, h30]
    have HF := Lib.hid hf
    clear hf h30 hr
    go_enter Tryd.func35, Tryd.ntmps35
    go_wp2
    go_ret
    exact ⟨by rw [HF.out]; rfl, rfl⟩
end Go.Proofs.YtcempbgbdlmjfaaDoor
