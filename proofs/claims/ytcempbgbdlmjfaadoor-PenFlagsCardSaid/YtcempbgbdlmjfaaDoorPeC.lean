/-
  pen: the walk of colour.
-/
import Derived.Test.YtcempbgbdlmjfaaDoorPeB
namespace Go.Proofs.YtcempbgbdlmjfaaDoor
open Go.RowKit

theorem nums_cells {w : World} {B : Nat} {A : Option Addr} {l : List Int} (h : Rd w B A (nC l)) (h0 : 0 < l.length) : ∃ b off, A = some ⟨b, off, none⟩ ∧ b < B ∧ ∀ j (hj : j < l.length), w.cell? ⟨b, off + j, none⟩ = some (.int .i64 l[j]) := by
  obtain ⟨b, off, e, hb, hc⟩ := h (by rw [nC_len]; exact h0)
  exact ⟨b, off, e, hb, fun j hj => by rw [hc j (by rw [nC_len]; exact hj)]; simp [nC]⟩
def ColRet (l : List Int) (w : World) (e : Ending) (w' : World) : Prop := e = .returned (.tuple #[.int .i64 (colF l).1, .int .i64 ((colF l).2 : Int)]) ∧ ∃ n, w' = w.drewN n

set_option maxRecDepth 100000 in
set_option maxHeartbeats 1600000 in
theorem colour_any (l : List Int) (A : Option Addr) (c : Nat) (w : World) (B : Nat) (hr : Rd w B A (nC l)) :
    Calls Tryd.prog 65 #[.slice A l.length c] w (ColRet l w) := by
  by_cases h2 : l.length < 2
  · have d1 : decide ((2 : Int) ≤ l.length) = false := by simp; omega
    have d2 : decide ((4 : Int) ≤ l.length) = false := by simp; omega
    have hc : colF l = (0, 0) := by unfold colF; rw [if_neg (by omega), if_neg (by omega)]
    have HC := Lib.hid hc
    clear hc hr h2
    go_enter Tryd.func65, Tryd.ntmps65
    go_wp2
    go_ret2
    exact ⟨by rw [HC.out]; rfl, 0, rfl⟩
  obtain ⟨b, off, rfl, hbB, hcl⟩ := nums_cells hr (by omega)
  have c0 := hcl 0 (by omega)
  have c1 := hcl 1 (by omega)
  rw [Nat.add_zero] at c0
  have d1 : decide ((2 : Int) ≤ l.length) = true := by simp; omega
  have g0 : l.getD 0 0 = l[0] := by simp [List.getD, show 0 < l.length by omega]
  have g1 : l.getD 1 0 = l[1] := by simp [List.getD, show 1 < l.length by omega]
  obtain ⟨x, hx⟩ : ∃ x, l[0] = x := ⟨_, rfl⟩
  obtain ⟨y, hy⟩ : ∃ y, l[1] = y := ⟨_, rfl⟩
  rw [hx] at c0 g0
  rw [hy] at c1 g1
  obtain ⟨n, hn⟩ : ∃ n, l.length = n + 2 := ⟨l.length - 2, by omega⟩
  have i0 : 0 < l.length := by omega
  have i1 : 1 < l.length := by omega
  have i2 : (1 : Int) < l.length := by omega
  clear hx hy
  by_cases h5 : x = 5
  · have e5 : (x == 5) = true := beq_iff_eq.2 h5
    have e2 : (x == 2) = false := beq_eq_false_iff_ne.2 (by omega)
    cases hb : isByteF y with
    | true =>
      have hc : colF l = (y + 1, 2) := by unfold colF; rw [g0, g1, if_pos ⟨by omega, h5, hb⟩]
      have hyb : 0 ≤ y ∧ y ≤ 255 := by simpa [isByteF] using hb
      obtain ⟨y0, y1⟩ := hyb
      have HC := Lib.hid hc; have HB := Lib.hid hb
      clear hc hb g0 g1 hr hcl h5 h2 hn
      go_enter Tryd.func65, Tryd.ntmps65
      go_wp2_with (go_at_call 91; refine (isbyte_any y _).mono ?_; rintro e w1 ⟨rfl, rfl⟩; simp only [HB.out])
      go_ret2
      exact ⟨by rw [HC.out]; rfl, 0, rfl⟩
    | false =>
      have hc : colF l = (0, 0) := by unfold colF; rw [g0, g1, if_neg (by rw [hb]; simp), if_neg (by omega)]
      have HC := Lib.hid hc; have HB := Lib.hid hb
      clear hc hb g0 g1 hr hcl h5 h2 hn
      by_cases h4 : (4 : Int) ≤ l.length
      · have d2 : decide ((4 : Int) ≤ l.length) = true := by simp; omega
        clear h4
        go_enter Tryd.func65, Tryd.ntmps65
        go_wp2_with (go_at_call 91; refine (isbyte_any y _).mono ?_; rintro e w1 ⟨rfl, rfl⟩; simp only [HB.out])
        go_ret2
        exact ⟨by rw [HC.out]; rfl, 0, rfl⟩
      · have d2 : decide ((4 : Int) ≤ l.length) = false := by simp; omega
        clear h4
        go_enter Tryd.func65, Tryd.ntmps65
        go_wp2_with (go_at_call 91; refine (isbyte_any y _).mono ?_; rintro e w1 ⟨rfl, rfl⟩; simp only [HB.out])
        go_ret2
        exact ⟨by rw [HC.out]; rfl, 0, rfl⟩
  · have e5 : (x == 5) = false := beq_eq_false_iff_ne.2 h5
    by_cases h4 : l.length < 4
    · have d2 : decide ((4 : Int) ≤ l.length) = false := by simp; omega
      have hc : colF l = (0, 0) := by unfold colF; rw [g0, g1, if_neg (fun h => h5 h.2.1), if_neg (by omega)]
      have HC := Lib.hid hc
      clear hc g0 g1 hr hcl h5 h2 hn h4
      go_enter Tryd.func65, Tryd.ntmps65
      go_wp2
      go_ret2
      exact ⟨by rw [HC.out]; rfl, 0, rfl⟩
    have d2 : decide ((4 : Int) ≤ l.length) = true := by simp; omega
    have c2 := hcl 2 (by omega)
    have c3 := hcl 3 (by omega)
    have g2 : l.getD 2 0 = l[2] := by simp [List.getD, show 2 < l.length by omega]
    have g3 : l.getD 3 0 = l[3] := by simp [List.getD, show 3 < l.length by omega]
    obtain ⟨z, hz⟩ : ∃ z, l[2] = z := ⟨_, rfl⟩
    obtain ⟨u, hu⟩ : ∃ u, l[3] = u := ⟨_, rfl⟩
    rw [hz] at c2 g2
    rw [hu] at c3 g3
    have i3 : 2 < l.length := by omega
    have i4 : 3 < l.length := by omega
    have i5 : (2 : Int) < l.length := by omega
    have i6 : (3 : Int) < l.length := by omega
    clear hz hu
    by_cases hx2 : x = 2
    · have e2 : (x == 2) = true := beq_iff_eq.2 hx2
      obtain ⟨by', hby⟩ : ∃ q, isByteF y = q := ⟨_, rfl⟩
      obtain ⟨bz, hbz⟩ : ∃ q, isByteF z = q := ⟨_, rfl⟩
      obtain ⟨bu, hbu⟩ : ∃ q, isByteF u = q := ⟨_, rfl⟩
      have hc : colF l = if by' = true ∧ bz = true ∧ bu = true then (rgbF y z u, 4) else (0, 0) := by
        unfold colF
        rw [g0, g1, g2, g3, if_neg (fun h => h5 h.2.1), hby, hbz, hbu]
        by_cases hq : by' = true ∧ bz = true ∧ bu = true
        · rw [if_pos hq, if_pos ⟨by omega, hx2, hq⟩]
        · rw [if_neg hq, if_neg (fun h => hq h.2.2)]
      have HC := Lib.hid hc; have HBY := Lib.hid hby; have HBZ := Lib.hid hbz; have HBU := Lib.hid hbu
      clear hc g0 g1 g2 g3 hr hcl h5 h2 hn h4 hby hbz hbu hx2
      cases by' <;> cases bz <;> cases bu
      case true.true.true =>
        go_enter Tryd.func65, Tryd.ntmps65
        go_wp2_with (first
            | (go_at_call_of 91 (Value.int IntKind.i64 y); refine (isbyte_any y _).mono ?_; rintro e w1 ⟨rfl, rfl⟩; simp only [HBY.out])
            | (go_at_call_of 91 (Value.int IntKind.i64 z); refine (isbyte_any z _).mono ?_; rintro e w1 ⟨rfl, rfl⟩; simp only [HBZ.out])
            | (go_at_call_of 91 (Value.int IntKind.i64 u); refine (isbyte_any u _).mono ?_; rintro e w1 ⟨rfl, rfl⟩; simp only [HBU.out]))
        go_quiet ((go_at_call 33; exact Calls.quiet_of_same ((rgb_any y z u _).mono fun _ _ h => ⟨h.1, h.2.symm⟩)))
        go_wp2
        go_ret2
        exact ⟨by rw [HC.out]; rfl, _, rfl⟩
      all_goals
        go_enter Tryd.func65, Tryd.ntmps65
        go_wp2_with (first
            | (go_at_call_of 91 (Value.int IntKind.i64 y); refine (isbyte_any y _).mono ?_; rintro e w1 ⟨rfl, rfl⟩; simp only [HBY.out])
            | (go_at_call_of 91 (Value.int IntKind.i64 z); refine (isbyte_any z _).mono ?_; rintro e w1 ⟨rfl, rfl⟩; simp only [HBZ.out])
            | (go_at_call_of 91 (Value.int IntKind.i64 u); refine (isbyte_any u _).mono ?_; rintro e w1 ⟨rfl, rfl⟩; simp only [HBU.out]))
        go_ret2
        exact ⟨by rw [HC.out]; rfl, 0, rfl⟩
    · have e2 : (x == 2) = false := beq_eq_false_iff_ne.2 hx2
      have hc : colF l = (0, 0) := by unfold colF; rw [g0, g1, if_neg (fun h => h5 h.2.1), if_neg (fun h => hx2 h.2.1)]
      have HC := Lib.hid hc
      clear hc g0 g1 g2 g3 hr hcl h5 h2 hn h4 hx2
      go_enter Tryd.func65, Tryd.ntmps65
      go_wp2
      go_ret2
      exact ⟨by rw [HC.out]; rfl, 0, rfl⟩
end Go.Proofs.YtcempbgbdlmjfaaDoor
