/-
  params: the walk of Sane.
-/
import Derived.Test.YtcempbgbdlmjfaaDoorPaMem
import Derived.Test.YtcempbgbdlmjfaaDoorPaPlain
import Derived.Test.YtcempbgbdlmjfaaDoorProg
import Derived.Outline
import Derived.Deep.DeepCutAuto
import Derived.Deep.RegionHeld3
namespace Go.Proofs.YtcempbgbdlmjfaaDoor
open Go.RowKit

theorem all_step (f : List Int → Bool) (L : List (List Int)) (k : Nat) (h : k < L.length) : (L.drop k).all f = (f L[k] && (L.drop (k + 1)).all f) := by
  rw [List.drop_eq_getElem_cons h]; rfl
theorem alln_step (f : Int → Bool) (L : List Int) (k : Nat) (h : k < L.length) : (L.drop k).all f = (f L[k] && (L.drop (k + 1)).all f) := by
  rw [List.drop_eq_getElem_cons h]; rfl

set_option maxHeartbeats 800000 in
theorem sanep_any {lo : Nat} (L : List (List Int)) (o : Bool) (v : Value) (w : World) (hr : RdLL w lo w.heap.size v L) :
    Calls Tryd.prog 38 #[.agg #[v, .bool o]] w fun e w' => e = .returned (.bool (saneP ⟨L, o⟩)) ∧ Below w.heap.size w w' := by
  obtain ⟨A, c, rfl, hcap⟩ := rdLL_form hr
  by_cases h16 : 16 < L.length
  · have h16' : decide ((16 : Int) < L.length) = true := by simp; omega
    go_enter Tryd.func38, Tryd.ntmps38
    go_wp2
    go_ret
    exact ⟨ret_bool (by simp [saneP]; omega), (Below.refl _ _).alloc (Nat.le_refl _) _⟩
  have h16' : decide ((16 : Int) < L.length) = false := by simp; omega
  by_cases h0 : o = true ∧ L.length = 0
  · obtain ⟨rfl, h0⟩ := h0
    have hL : L = [] := List.eq_nil_of_length_eq_zero h0
    subst hL
    go_enter Tryd.func38, Tryd.ntmps38
    go_wp2
    go_ret
    exact ⟨ret_bool (by simp [saneP]), (Below.refl _ _).alloc (Nat.le_refl _) _⟩
  have hS : saneP ⟨L, o⟩ = L.all okRow := by
    have e1 : decide (L.length ≤ 16) = true := by simp; omega
    have e2 : (o && L.isEmpty) = false := by
      cases o
      · rfl
      · cases L
        · exact absurd ⟨rfl, rfl⟩ h0
        · rfl
    simp only [saneP]
    rw [e1, e2]; simp
  rw [hS]
  clear hS
  have hz : o = true → ((L.length : Int) == 0) = false := fun ho => by
    have : L.length ≠ 0 := fun e => h0 ⟨ho, e⟩
    exact beq_eq_false_iff_ne.2 (by omega)
  clear h0
  have HR := Lib.hid hr; clear hr
  cases o
  all_goals
    try (have hz' := hz rfl)
    clear hz
    go_enter Tryd.func38, Tryd.ntmps38
    go_wp2
    go_loopw [24] (fun i wr => ∃ k : Nat, k ≤ L.length ∧ i = .int .i64 k ∧ (L.drop k).all okRow = L.all okRow ∧ Below w.heap.size w wr) (fun i _ => L.length - (intOf i).toNat)
    case atStart => exact ⟨0, Nat.zero_le _, rfl, rfl, (Below.refl _ _).alloc (Nat.le_refl _) _⟩
    case round =>
      obtain ⟨k, hk, rfl, hg, hb⟩ := hrel
      have HG := Lib.hid hg; clear hg
      by_cases hlt : k < L.length
      · obtain ⟨b, off, Ai, ci, rfl, hbB, hc, hci, hri⟩ := (HR.out.below hb (Nat.le_refl _)).at k hlt
        have hst := Lib.hid (all_step okRow L k hlt)
        obtain ⟨q, hq⟩ : ∃ q, L[k] = q := ⟨_, rfl⟩
        rw [hq] at hc hci hri hst
        clear hq
        by_cases h1 : q.length < 1
        · have h1' : decide ((q.length : Int) < 1) = true := by simp; omega
          go_wp2
          go_ret
          exact ⟨ret_bool (by rw [← HG.out, hst.out, show okRow q = false from by simp [okRow]; omega]; rfl), hb⟩
        have h1' : decide ((q.length : Int) < 1) = false := by simp; omega
        by_cases h6 : 6 < q.length
        · have h6' : decide ((6 : Int) < q.length) = true := by simp; omega
          go_wp2
          go_ret
          exact ⟨ret_bool (by rw [← HG.out, hst.out, show okRow q = false from by simp [okRow]; omega]; rfl), hb⟩
        have h6' : decide ((6 : Int) < q.length) = false := by simp; omega
        have hok : okRow q = q.all okNum := by
          unfold okRow
          rw [show decide (1 ≤ q.length ∧ q.length ≤ 6) = true from by simp; omega]; rfl
        have HK := Lib.hid hok; clear hok
        go_wp2
        go_loopw [38] (fun i wi => ∃ m : Nat, m ≤ q.length ∧ i = .int .i64 m ∧ (q.drop m).all okNum = q.all okNum ∧ wr = wi) (fun i _ => q.length - (intOf i).toNat)
        case atStart => exact ⟨0, Nat.zero_le _, rfl, rfl, rfl⟩
        case round =>
          obtain ⟨m, hm, rfl, hg2, rfl⟩ := hrel
          have HG2 := Lib.hid hg2; clear hg2
          by_cases hmt : m < q.length
          · obtain ⟨b2, off2, rfl, hb2, hc2⟩ := hri (by rw [nC_len]; omega)
            have hc3 := hc2 m (by rw [nC_len]; omega)
            have e3 : (nC q)[m]'(by rw [nC_len]; omega) = .int .i64 q[m] := by simp [nC]
            rw [e3] at hc3
            clear e3 hc2
            have hst2 := Lib.hid (alln_step okNum q m hmt)
            obtain ⟨x, hx⟩ : ∃ x, q[m] = x := ⟨_, rfl⟩
            rw [hx] at hc3 hst2
            clear hx
            by_cases hlo : x < -1
            · have hlo' : decide (x < -1) = true := by simp; omega
              go_wp2
              go_ret
              exact ⟨ret_bool (by rw [← HG.out, hst.out, HK.out, ← HG2.out, hst2.out, show okNum x = false from by simp [okNum]; omega]; rfl), hb⟩
            have hlo' : decide (x < -1) = false := by simp; omega
            by_cases hhi : 65535 < x
            · have hhi' : decide (65535 < x) = true := by simp; omega
              go_wp2
              go_ret
              exact ⟨ret_bool (by rw [← HG.out, hst.out, HK.out, ← HG2.out, hst2.out, show okNum x = false from by simp [okNum]; omega]; rfl), hb⟩
            have hhi' : decide (65535 < x) = false := by simp; omega
            go_wp2
            go_roundw
            case rel => exact ⟨m + 1, by omega, by go_num, by rw [← HG2.out, hst2.out, show okNum x = true from by simp [okNum]; omega]; rfl, trivial⟩
            case measure => simp [intOf]; omega
          · obtain rfl : m = q.length := by omega
            have hall : q.all okNum = true := by rw [← HG2.out, List.drop_length]; rfl
            have HA := Lib.hid hall; clear hall
            go_wp2
            go_roundw
            case rel => exact ⟨k + 1, by omega, by go_num, by rw [← HG.out, hst.out, HK.out, HA.out]; rfl, hb⟩
            case measure => simp [intOf]; omega
      · obtain rfl : k = L.length := by omega
        go_wp2
        go_ret
        exact ⟨ret_bool (by rw [← HG.out, List.drop_length]; rfl), hb⟩
end Go.Proofs.YtcempbgbdlmjfaaDoor
