/-
  params: the walk of the document's Same.
-/
import Derived.Test.YtcempbgbdlmjfaaDoorPaF
import Derived.BigQuiet
import Derived.Deep.QuietTactic
namespace Go.Proofs.YtcempbgbdlmjfaaDoor
open Go.RowKit

theorem bne_t {a b : Int} (h : a ≠ b) : (a != b) = true := bne_iff_ne.2 h
theorem bne_f {a b : Int} (h : a = b) : (a != b) = false := by rw [h]; simp
theorem take_next {α : Type} {L L' : List α} (k : Nat) (h : k < L.length) (h' : k < L'.length) (ht : L.take k = L'.take k) (he : L[k] = L'[k]) : L.take (k + 1) = L'.take (k + 1) := by
  rw [List.take_succ_eq_append_getElem h, List.take_succ_eq_append_getElem h', ht, he]

set_option maxRecDepth 100000 in
set_option maxHeartbeats 1600000 in
theorem same5_any {lo lo' : Nat} (L L' : List (List Int)) (v v' : Value) (w : World) (hr : RdLL w lo w.heap.size v L) (hr' : RdLL w lo' w.heap.size v' L') (hm : ∀ q ∈ L, q.length ≤ 1000000) (hl : L.length ≤ 1000000) :
    Calls Tryd.prog 44 #[v, v'] w fun e w' => e = .returned (.bool (decide (L = L'))) ∧ ∃ n, w' = w.drewN n := by
  obtain ⟨A, c, rfl, hcap⟩ := rdLL_form hr
  obtain ⟨A', c', rfl, hcap'⟩ := rdLL_form hr'
  by_cases hne : L.length ≠ L'.length
  · have z1 : ((L.length : Int) != (L'.length : Int)) = true := bne_t (by omega)
    have e1 : decide (L = L') = false := decide_eq_false (fun e => hne (by rw [e]))
    rw [e1]
    clear e1 hne
    go_enter Tryd.func44, Tryd.ntmps44
    go_wp2
    go_ret
    exact ⟨rfl, 0, rfl⟩
  have hne : L.length = L'.length := by omega
  have z1 : ((L.length : Int) != (L'.length : Int)) = false := bne_f (by omega)
  have HNE := Lib.hid hne; have HR := Lib.hid hr; have HR' := Lib.hid hr'; have HMX := Lib.hid hm
  clear hne hr hr' hm
  go_enter Tryd.func44, Tryd.ntmps44
  go_wp2
  go_loopw [5] (fun i wr => ∃ k : Nat, k ≤ L.length ∧ i = .int .i64 k ∧ L.take k = L'.take k ∧ ∃ n, wr = w.drewN n) (fun i _ => L.length - (intOf i).toNat)
  case atStart => exact ⟨0, Nat.zero_le _, rfl, rfl, 0, rfl⟩
  case round =>
    obtain ⟨k, hk, rfl, ht, n, rfl⟩ := hrel
    have HT := Lib.hid ht; clear ht
    by_cases hlt : k < L.length
    · have hlt' : k < L'.length := by have := HNE.out; omega
      obtain ⟨b, off, Ai, ci, rfl, hbB, hc, hci, hri⟩ := HR.out.at k hlt
      obtain ⟨b', off', Ai', ci', rfl, hbB', hc', hci', hri'⟩ := HR'.out.at k hlt'
      have hmq := HMX.out _ (List.getElem_mem hlt)
      obtain ⟨q, hq⟩ : ∃ q, L[k] = q := ⟨_, rfl⟩
      obtain ⟨q', hq'⟩ : ∃ q', L'[k] = q' := ⟨_, rfl⟩
      rw [hq] at hc hci hri hmq
      rw [hq'] at hc' hci' hri'
      have HQ := Lib.hid hq; have HQ' := Lib.hid hq'
      clear hq hq'
      have i0 : (0 : Int) ≤ ↑k := by omega
      have i1 : (↑k : Int) < ↑L.length := by omega
      have i2 : (↑k : Int) < ↑L'.length := by omega
      by_cases hlq : q.length ≠ q'.length
      · have z2 : ((q.length : Int) != (q'.length : Int)) = true := bne_t (by omega)
        have e1 : decide (L = L') = false := decide_eq_false (fun e => by subst e; exact hlq (by rw [← HQ.out, ← HQ'.out]))
        have E1 := Lib.hid e1
        clear e1 hlq
        go_wp2
        go_quiet (fail)
        go_wp2
        go_ret
        exact ⟨ret_bool E1.out.symm, _, World.drewN_drewN _ _ _⟩
      have hlq : q.length = q'.length := by omega
      have z2 : ((q.length : Int) != (q'.length : Int)) = false := bne_f (by omega)
      have HLQ := Lib.hid hlq; clear hlq
      go_wp2
      go_quiet (fail)
      go_wp2
      go_loopw [6] (fun i wr => ∃ m : Nat, m ≤ q.length ∧ i = .int .i64 m ∧ q.take m = q'.take m ∧ ∃ n, wr = w.drewN n) (fun i _ => q.length - (intOf i).toNat)
      case atStart => exact ⟨0, Nat.zero_le _, rfl, rfl, _, World.drewN_drewN _ _ _⟩
      case round =>
        obtain ⟨m, hm, rfl, ht2, n2, rfl⟩ := hrel
        have HT2 := Lib.hid ht2; clear ht2
        by_cases hmt : m < q.length
        · have hmt' : m < q'.length := by have := HLQ.out; omega
          obtain ⟨b2, off2, rfl, hb2, hc2⟩ := hri (by rw [nC_len]; omega)
          have hc3 := hc2 m (by rw [nC_len]; omega)
          have e3 : (nC q)[m]'(by rw [nC_len]; omega) = .int .i64 q[m] := by simp [nC]
          rw [e3] at hc3
          obtain ⟨b2', off2', rfl, hb2', hc2'⟩ := hri' (by rw [nC_len]; omega)
          have hc3' := hc2' m (by rw [nC_len]; omega)
          have e3' : (nC q')[m]'(by rw [nC_len]; omega) = .int .i64 q'[m] := by simp [nC]
          rw [e3'] at hc3'
          clear e3 hc2 e3' hc2'
          obtain ⟨x, hx⟩ : ∃ x, q[m] = x := ⟨_, rfl⟩
          obtain ⟨x', hx'⟩ : ∃ x', q'[m] = x' := ⟨_, rfl⟩
          rw [hx] at hc3
          rw [hx'] at hc3'
          have HX := Lib.hid hx; have HX' := Lib.hid hx'
          clear hx hx'
          have j0 : (0 : Int) ≤ ↑m := by omega
          have j1 : (↑m : Int) < ↑q.length := by omega
          have j2 : (↑m : Int) < ↑q'.length := by omega
          by_cases hxx : x = x'
          · have z3 : (x != x') = false := bne_f hxx
            have HXX := Lib.hid hxx; clear hxx
            go_wp2
            go_quiet (fail)
            go_wp2
            go_roundw
            case rel => exact ⟨m + 1, by omega, by go_num, take_next m hmt hmt' HT2.out (by rw [HX.out, HX'.out, HXX.out]), _, rfl⟩
            case measure => simp [intOf]; omega
          · have z3 : (x != x') = true := bne_t hxx
            have e1 : decide (L = L') = false := decide_eq_false (fun e => by
              have h1 : q = q' := by rw [← HQ.out, ← HQ'.out]; subst e; rfl
              exact hxx (by rw [← HX.out, ← HX'.out]; subst h1; rfl))
            have E1 := Lib.hid e1
            clear e1 hxx
            go_wp2
            go_quiet (fail)
            go_wp2
            go_ret
            exact ⟨ret_bool E1.out.symm, _, World.drewN_drewN _ _ _⟩
        · obtain rfl : m = q.length := by omega
          have hqq : q = q' := by
            have := HT2.out
            rw [List.take_length, HLQ.out, List.take_length] at this
            exact this
          have HQQ := Lib.hid hqq; clear hqq
          go_wp2
          go_roundw
          case rel => exact ⟨k + 1, by omega, by go_num, take_next k hlt hlt' HT.out (by rw [HQ.out, HQ'.out, HQQ.out]), _, rfl⟩
          case measure => simp [intOf]; omega
    · obtain rfl : k = L.length := by omega
      have hLL : L = L' := by
        have := HT.out
        rw [List.take_length, HNE.out, List.take_length] at this
        exact this
      have HLL := Lib.hid hLL; clear hLL
      go_wp2
      go_ret
      exact ⟨ret_bool (decide_eq_true HLL.out).symm, _, rfl⟩
end Go.Proofs.YtcempbgbdlmjfaaDoor
