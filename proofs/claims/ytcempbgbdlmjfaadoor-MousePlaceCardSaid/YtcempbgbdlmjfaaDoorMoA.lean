/-
  modes: the table of all modes as the program reads it; the walks of Place, single, Sane, New.
-/
import Derived.Test.YtcempbgbdlmjfaaDoorRows
import Derived.Test.YtcempbgbdlmjfaaDoorBase4
import Derived.Test.YtcempbgbdlmjfaaDoorMoPlain
import Derived.Deep.DeepCutAuto
namespace Go.Proofs.YtcempbgbdlmjfaaDoor
open Go.RowKit

def tblV : Array Value := (tblM.flatMap fun x => [Value.bool x.1, Value.int .i64 x.2]).toArray
/-- the table stands in its block -/
def TabM (w : World) : Prop := ∃ t fr, w.heap[(0 : Nat)]? = some (.cells tblV t fr)
theorem TabM.below {w w' : World} (h : TabM w) (hb : Below w.heap.size w w') : TabM w' := by
  obtain ⟨t, fr, h⟩ := h
  exact ⟨t, fr, (hb.block 0 (Array.getElem?_eq_some_iff.1 h).1).trans h⟩
theorem TabM.alloc {w : World} (h : TabM w) (o : Obj) : TabM (w.alloc o) := h.below ((Below.refl _ _).alloc (Nat.le_refl _) o)
theorem idx_tab : (k : Nat) → (hk : k < 24) → ∀ w : World, (Instr.index 105 (.agg tblV) (.int .i64 (k : Nat))).run Tryd.prog w = .ok (.agg #[.bool (tblM[k]'hk).1, .int .i64 (tblM[k]'hk).2]) w
  | 0, _ => fun _ => by kernel_rfl
  | 1, _ => fun _ => by kernel_rfl
  | 2, _ => fun _ => by kernel_rfl
  | 3, _ => fun _ => by kernel_rfl
  | 4, _ => fun _ => by kernel_rfl
  | 5, _ => fun _ => by kernel_rfl
  | 6, _ => fun _ => by kernel_rfl
  | 7, _ => fun _ => by kernel_rfl
  | 8, _ => fun _ => by kernel_rfl
  | 9, _ => fun _ => by kernel_rfl
  | 10, _ => fun _ => by kernel_rfl
  | 11, _ => fun _ => by kernel_rfl
  | 12, _ => fun _ => by kernel_rfl
  | 13, _ => fun _ => by kernel_rfl
  | 14, _ => fun _ => by kernel_rfl
  | 15, _ => fun _ => by kernel_rfl
  | 16, _ => fun _ => by kernel_rfl
  | 17, _ => fun _ => by kernel_rfl
  | 18, _ => fun _ => by kernel_rfl
  | 19, _ => fun _ => by kernel_rfl
  | 20, _ => fun _ => by kernel_rfl
  | 21, _ => fun _ => by kernel_rfl
  | 22, _ => fun _ => by kernel_rfl
  | 23, _ => fun _ => by kernel_rfl
  | n + 24, h => absurd h (by omega)
theorem info_tbl : (Tryd.prog.info? 105).map (·.size) = some tblV.size := by kernel_rfl

theorem plc_step (k : Nat) (hk : k < 24) (p : Bool) (n : Int) : plcGo k (tblM.drop k) p n = if (tblM[k]'hk).1 = p ∧ (tblM[k]'hk).2 = n then (k : Int) else plcGo (k + 1) (tblM.drop (k + 1)) p n := by
  rw [List.drop_eq_getElem_cons (show k < tblM.length from hk)]
  rfl

set_option maxRecDepth 100000 in
set_option maxHeartbeats 1600000 in
theorem place_any (p : Bool) (n : Int) (w : World) (hT : TabM w) :
    Calls Tryd.prog 24 #[.bool p, .int .i64 n] w fun e w' => e = .returned (.int .i64 (plcF p n)) ∧ Below w.heap.size w w' := by
  obtain ⟨tt, fr, hg⟩ := hT
  go_enter Tryd.func24, Tryd.ntmps24
  go_upto_region 1 with (fail)
  go_step
  refine wpList_load_row (by rfl) 105 (.global 0) (by rfl) 0 (by rfl) tt tblV fr _ hg Tryd.underlying105 rfl info_tbl ?_
  go_wp2
  go_loopw [8] (fun i wr => ∃ k : Nat, k ≤ 24 ∧ i = .int .i64 k ∧ plcGo k (tblM.drop k) p n = plcF p n ∧ Below w.heap.size w wr) (fun i _ => 24 - (intOf i).toNat)
  case atStart => exact ⟨0, by omega, rfl, rfl, Below.refl _ _⟩
  case round =>
    obtain ⟨k, hk, rfl, hg, hb⟩ := hrel
    have HG := Lib.hid hg; clear hg
    by_cases hlt : k < 24
    · have hix := idx_tab k hlt
      have hst := plc_step k hlt p n
      obtain ⟨a, ha⟩ : ∃ a, (tblM[k]'hlt).1 = a := ⟨_, rfl⟩
      obtain ⟨c, hc⟩ : ∃ c, (tblM[k]'hlt).2 = c := ⟨_, rfl⟩
      rw [ha, hc] at hix hst
      have HS := Lib.hid hst; clear hst ha hc
      by_cases h1 : a = p
      · subst h1
        by_cases h2 : c = n
        · subst h2
          go_wp2
          go_ret
          exact ⟨ret_int (by rw [← HG.out, HS.out, if_pos (by simp)]), hb.alloc hb.size _⟩
        · have h3 : (c == n) = false := by simpa using h2
          go_wp2
          go_roundw
          case rel => exact ⟨k + 1, by omega, by go_num, by rw [← HG.out, HS.out, if_neg (fun e => h2 e.2)], hb.alloc hb.size _⟩
          case measure => simp [intOf]; omega
      · have h3 : (a == p) = false := by simpa using h1
        go_wp2
        go_roundw
        case rel => exact ⟨k + 1, by omega, by go_num, by rw [← HG.out, HS.out, if_neg (fun e => h1 e.1)], hb.alloc hb.size _⟩
        case measure => simp [intOf]; omega
    · obtain rfl : k = 24 := by omega
      go_wp2
      go_ret
      exact ⟨ret_int (by rw [← HG.out]; rfl), hb⟩

theorem wrap_zero (t : Nat) (h : t < 18446744073709551616) : (IntKind.i64.wrap (t : Int) = 0) ↔ t = 0 := by rw [IntKind.wrap_i64]; omega
theorem and_bv (x y : Int) (h : (BitVec.ofInt 64 x &&& BitVec.ofInt 64 y).toNat < 9223372036854775808) : bits .and .i64 x y = ((BitVec.ofInt 64 x &&& BitVec.ofInt 64 y).toNat : Int) := by
  show IntKind.i64.wrap ((BitVec.ofInt 64 x &&& BitVec.ofInt 64 y).toNat : Int) = _
  exact IntWalk.i64_in _ (by omega)
theorem and_zero (x y : Int) : (bits .and .i64 x y == 0) = (BitVec.ofInt 64 x &&& BitVec.ofInt 64 y == 0#64) := by
  have h : bits .and .i64 x y = IntKind.i64.wrap ((BitVec.ofInt 64 x &&& BitVec.ofInt 64 y).toNat : Int) := rfl
  have h2 := wrap_zero (BitVec.ofInt 64 x &&& BitVec.ofInt 64 y).toNat (BitVec.ofInt 64 x &&& BitVec.ofInt 64 y).isLt
  rw [h, Bool.eq_iff_iff]
  simp only [beq_iff_eq]
  rw [h2]
  constructor
  · intro h3; exact BitVec.eq_of_toNat_eq (by simpa using h3)
  · intro h3; rw [h3]; rfl
theorem and_lt_right (a b : B64) (n : Nat) (h : b.toNat < n) : (a &&& b).toNat < n := by
  rw [BitVec.toNat_and]
  exact Nat.lt_of_le_of_lt Nat.and_le_right h

set_option maxHeartbeats 800000 in
theorem single_any (B : B64) (w : World) (hB : B.toNat < 16777216) :
    Calls Tryd.prog 60 #[.int .i64 (B.toNat : Int)] w fun e w' => e = .returned (.bool (sngB B)) ∧ Below w.heap.size w w' := by
  obtain ⟨x, hx⟩ : ∃ x : Int, (B.toNat : Int) = x := ⟨_, rfl⟩
  have h0 : 0 ≤ x := by omega
  have h1 : x < 16777216 := by omega
  have hb : BitVec.ofInt 64 x = B := by rw [← hx]; exact sw_ofInt B
  have hv : (bits .and .i64 x (x - 1) == 0) = sngB B := by
    rw [and_zero, show x - 1 = x + (-1) from rfl, BitVec.ofInt_add, hb, show BitVec.ofInt 64 (-1) = -1#64 from by decide]
    unfold sngB
    rw [BitVec.sub_eq_add_neg]
  rw [hx]
  have HV := Lib.hid hv; clear hv hb hx
  go_enter Tryd.func60, Tryd.ntmps60
  go_wp2
  go_ret
  exact ⟨ret_bool HV.out, Below.refl _ _⟩

theorem mask_mice (b : Int) : bits .and .i64 b 28800 = (((BitVec.ofInt 64 b &&& miceB).toNat : Nat) : Int) := and_bv b 28800 (Nat.lt_trans (and_lt_right _ _ 28801 (by decide)) (by decide))
theorem mask_enc (b : Int) : bits .and .i64 b 196608 = (((BitVec.ofInt 64 b &&& encB).toNat : Nat) : Int) := and_bv b 196608 (Nat.lt_trans (and_lt_right _ _ 196609 (by decide)) (by decide))
end Go.Proofs.YtcempbgbdlmjfaaDoor
