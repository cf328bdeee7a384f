/-
  modes: the walks of New, which, Mouse, Has, Set.
-/
import Derived.Test.YtcempbgbdlmjfaaDoorMoB
namespace Go.Proofs.YtcempbgbdlmjfaaDoor
open Go.RowKit

def whGo : Nat → List (Bool × Int) → B64 → Int
  | _, [], _ => 0
  | i, x :: xs, b => if b.getLsbD i then x.2 else whGo (i + 1) xs b
def whF (b : B64) : Int := whGo 0 tblM b
theorem wh_step (k : Nat) (hk : k < 24) (b : B64) : whGo k (tblM.drop k) b = if b.getLsbD k then (tblM[k]'hk).2 else whGo (k + 1) (tblM.drop (k + 1)) b := by
  rw [List.drop_eq_getElem_cons (show k < tblM.length from hk)]
  rfl
theorem wh_mice (b : B64) : whF (b &&& miceB) = mouseB (b.getLsbD 7) (b.getLsbD 12) (b.getLsbD 13) (b.getLsbD 14) := by
  rw [mice_val]
  cases b.getLsbD 7 <;> cases b.getLsbD 12 <;> cases b.getLsbD 13 <;> cases b.getLsbD 14 <;> decide
theorem wh_enc (b : B64) : whF (b &&& encB) = codeB (b.getLsbD 16) (b.getLsbD 17) := by
  rw [enc_val]
  cases b.getLsbD 16 <;> cases b.getLsbD 17 <;> decide

theorem pow_bv (k : Nat) (hk : k < 24) : wrap64 ((2 : Int) ^ k) = ((2 ^ k : Nat) : Int) ∧ BitVec.ofInt 64 (wrap64 ((2 : Int) ^ k)) = 1#64 <<< k := by
  have h : ∀ j : Fin 24, wrap64 ((2 : Int) ^ j.1) = ((2 ^ j.1 : Nat) : Int) ∧ BitVec.ofInt 64 (wrap64 ((2 : Int) ^ j.1)) = 1#64 <<< j.1 := by decide +kernel
  exact h ⟨k, hk⟩
theorem bit_zero (b : B64) (k : Nat) (hk : k < 64) : (b &&& (1#64 <<< k) == 0#64) = !b.getLsbD k := by
  cases h : b.getLsbD k with
  | true =>
    simp only [Bool.not_true, beq_eq_false_iff_ne]
    intro e
    have := congrArg (fun v : B64 => v.getLsbD k) e
    simp only [BitVec.getLsbD_and, h, bit_one k k hk hk, decide_true, Bool.and_true, BitVec.getLsbD_zero] at this
    cases this
  | false =>
    simp only [Bool.not_false, beq_iff_eq]
    apply BitVec.eq_of_getLsbD_eq
    intro j hj
    rw [BitVec.getLsbD_and, bit_one k j hk hj, BitVec.getLsbD_zero]
    by_cases e : j = k
    · subst e; rw [h]; rfl
    · simp [e]
theorem bit_test (x : Int) (k : Nat) (hk : k < 24) : (bits .and .i64 x (wrap64 (2 ^ k)) != 0) = (BitVec.ofInt 64 x).getLsbD k := by
  have h : (bits .and .i64 x (wrap64 (2 ^ k)) != 0) = !(bits .and .i64 x (wrap64 (2 ^ k)) == 0) := rfl
  rw [h, and_zero, (pow_bv k hk).2, bit_zero _ k (by omega), Bool.not_not]

set_option maxRecDepth 100000 in
set_option maxHeartbeats 1600000 in
theorem which_any (x : Nat) (w : World) (hT : TabM w) :
    Calls Tryd.prog 61 #[.int .i64 (x : Int)] w fun e w' => e = .returned (.int .i64 (whF (BitVec.ofNat 64 x))) ∧ Below w.heap.size w w' := by
  obtain ⟨tt, fr, hg⟩ := hT
  go_enter Tryd.func61, Tryd.ntmps61
  go_upto_region 1 with (fail)
  go_step
  refine wpList_load_row (by rfl) 105 (.global 0) (by rfl) 0 (by rfl) tt tblV fr _ hg Tryd.underlying105 rfl info_tbl ?_
  go_wp2
  go_loopw [6] (fun i wr => ∃ k : Nat, k ≤ 24 ∧ i = .int .i64 k ∧ whGo k (tblM.drop k) (BitVec.ofNat 64 x) = whF (BitVec.ofNat 64 x) ∧ Below w.heap.size w wr) (fun i _ => 24 - (intOf i).toNat)
  case atStart => exact ⟨0, by omega, rfl, rfl, Below.refl _ _⟩
  case round =>
    obtain ⟨k, hk, rfl, hwg, hb⟩ := hrel
    have HG := Lib.hid hwg; clear hwg
    by_cases hlt : k < 24
    · have hix := idx_tab k hlt
      have hst := wh_step k hlt (BitVec.ofNat 64 x)
      have hbt := bit_test (x : Int) k hlt
      rw [BitVec.ofInt_natCast] at hbt
      obtain ⟨a, ha⟩ : ∃ a, (tblM[k]'hlt).1 = a := ⟨_, rfl⟩
      obtain ⟨c, hc⟩ : ∃ c, (tblM[k]'hlt).2 = c := ⟨_, rfl⟩
      rw [ha, hc] at hix
      rw [hc] at hst
      clear ha hc
      cases ht : (BitVec.ofNat 64 x).getLsbD k with
      | true =>
        rw [ht] at hbt hst
        have HS := Lib.hid hst; clear hst ht
        go_wp2
        go_ret
        exact ⟨ret_int (by rw [← HG.out, HS.out, if_pos trivial]), hb.alloc hb.size _⟩
      | false =>
        rw [ht] at hbt hst
        have HS := Lib.hid hst; clear hst ht
        go_wp2
        go_roundw
        case rel => exact ⟨k + 1, by omega, by go_num, by rw [← HG.out, HS.out, if_neg (by simp)], hb.alloc hb.size _⟩
        case measure => simp [intOf]; omega
    · obtain rfl : k = 24 := by omega
      go_wp2
      go_ret
      exact ⟨ret_int (by rw [← HG.out]; rfl), hb⟩
theorem new_any (w : World) : Calls Tryd.prog 26 #[] w fun e w' => e = .returned (.agg #[.int .i64 322]) ∧ Below w.heap.size w w' := by
  go_enter Tryd.func26, Tryd.ntmps26
  go_wp2
  exact bodyPost_ret (v := .agg #[.int .i64 322]) (by simp [results, Tryd.results26, go_sem]) rfl ⟨rfl, (Below.refl _ _).alloc (Nat.le_refl _) _⟩
end Go.Proofs.YtcempbgbdlmjfaaDoor
