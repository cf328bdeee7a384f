/-
  modes: the table of all modes as the program reads it; the walks of Place, single, Sane, New.
  modes: the walks of Sane, New, which, Mouse.
  modes: the walks of New, which, Mouse, Has, Set.
  modes: the walks of Mouse and Has.
-/
import Derived.Test.YtcempbgbdlmjfaaDoorRows
import Derived.Test.YtcempbgbdlmjfaaDoorBase4
import Derived.Test.YtcempbgbdlmjfaaDoorMoPlain
import Derived.Deep.DeepCutAuto
import Derived.Deep.RegionWith
namespace Go.Proofs.YtcempbgbdlmjfaaDoor
open Go.RowKit

def tblV : Array Value := (tblM.flatMap fun x => [Value.bool x.1, Value.int .i64 x.2]).toArray
/-- the table stands in its block -/
def TabM (w : World) : Prop := ∃ t fr, w.heap[(0 : Nat)]? = some (.cells tblV t fr)
theorem TabM.below {w w' : World} (h : TabM w) (hb : Below w.heap.size w w') : TabM w' := by
  obtain ⟨t, fr, h⟩ := h
  exact ⟨t, fr, (hb.block 0 (Array.getElem?_eq_some_iff.1 h).1).trans h⟩
theorem TabM.alloc {w : World} (h : TabM w) (o : Obj) : TabM (w.alloc o) := h.below ((Below.refl _ _).alloc (Nat.le_refl _) o)
theorem idx_tab : (k : Nat) → (hk : k < 24) → ∀ w : World, (Instr.index 105 (.agg tblV) (.int .i64 (k : Nat))).run Tryd.prog w = .ok (.agg #[.bool (tblM[k]'hk).1, .int .i64 (tblM[k]'hk).2]) w
  | 0, _ => fun _ => by kernel_rfl
  | 1, _ => fun _ => by kernel_rfl
  | 2, _ => fun _ => by kernel_rfl
  | 3, _ => fun _ => by kernel_rfl
  | 4, _ => fun _ => by kernel_rfl
  | 5, _ => fun _ => by kernel_rfl
  | 6, _ => fun _ => by kernel_rfl
  | 7, _ => fun _ => by kernel_rfl
  | 8, _ => fun _ => by kernel_rfl
  | 9, _ => fun _ => by kernel_rfl
  | 10, _ => fun _ => by kernel_rfl
  | 11, _ => fun _ => by kernel_rfl
  | 12, _ => fun _ => by kernel_rfl
  | 13, _ => fun _ => by kernel_rfl
  | 14, _ => fun _ => by kernel_rfl
  | 15, _ => fun _ => by kernel_rfl
  | 16, _ => fun _ => by kernel_rfl
  | 17, _ => fun _ => by kernel_rfl
  | 18, _ => fun _ => by kernel_rfl
  | 19, _ => fun _ => by kernel_rfl
  | 20, _ => fun _ => by kernel_rfl
  | 21, _ => fun _ => by kernel_rfl
  | 22, _ => fun _ => by kernel_rfl
  | 23, _ => fun _ => by kernel_rfl
  | n + 24, h => absurd h (by omega)
theorem info_tbl : (Tryd.prog.info? 105).map (·.size) = some tblV.size := by kernel_rfl

theorem plc_step (k : Nat) (hk : k < 24) (p : Bool) (n : Int) : plcGo k (tblM.drop k) p n = if (tblM[k]'hk).1 = p ∧ (tblM[k]'hk).2 = n then (k : Int) else plcGo (k + 1) (tblM.drop (k + 1)) p n := by
  rw [List.drop_eq_getElem_cons (show k < tblM.length from hk)]
  rfl

set_option maxRecDepth 100000 in
set_option maxHeartbeats 1600000 in
theorem place_any (p : Bool) (n : Int) (w : World) (hT : TabM w) :
    Calls Tryd.prog 24 #[.bool p, .int .i64 n] w fun e w' => e = .returned (.int .i64 (plcF p n)) ∧ Below w.heap.size w w' := by
  obtain ⟨tt, fr, hg⟩ := hT
  go_enter Tryd.func24, Tryd.ntmps24
  go_upto_region 1 with (fail)
  go_step
  refine wpList_load_row (by rfl) 105 (.global 0) (by rfl) 0 (by rfl) tt tblV fr _ hg Tryd.underlying105 rfl info_tbl ?_
  go_wp2
  go_loopw [8] (fun i wr => ∃ k : Nat, k ≤ 24 ∧ i = .int .i64 k ∧ plcGo k (tblM.drop k) p n = plcF p n ∧ Below w.heap.size w wr) (fun i _ => 24 - (intOf i).toNat)
  case atStart => exact ⟨0, by omega, rfl, rfl, Below.refl _ _⟩
  case round =>
    obtain ⟨k, hk, rfl, hg, hb⟩ := hrel
    have HG := Lib.hid hg; clear hg
    by_cases hlt : k < 24
    · have hix := idx_tab k hlt
      have hst := plc_step k hlt p n
      obtain ⟨a, ha⟩ : ∃ a, (tblM[k]'hlt).1 = a := ⟨_, rfl⟩
      obtain ⟨c, hc⟩ : ∃ c, (tblM[k]'hlt).2 = c := ⟨_, rfl⟩
      rw [ha, hc] at hix hst
      have HS := Lib.hid hst; clear hst ha hc
      by_cases h1 : a = p
      · subst h1
        by_cases h2 : c = n
        · subst h2
          go_wp2
          go_ret
          exact ⟨ret_int (by rw [← HG.out, HS.out, if_pos (by simp)]), hb.alloc hb.size _⟩
        · have h3 : (c == n) = false := by simpa using h2
          go_wp2
          go_roundw
          case rel => exact ⟨k + 1, by omega, by go_num, by rw [← HG.out, HS.out, if_neg (fun e => h2 e.2)], hb.alloc hb.size _⟩
          case measure => simp [intOf]; omega
      · have h3 : (a == p) = false := by simpa using h1
        go_wp2
        go_roundw
        case rel => exact ⟨k + 1, by omega, by go_num, by rw [← HG.out, HS.out, if_neg (fun e => h1 e.1)], hb.alloc hb.size _⟩
        case measure => simp [intOf]; omega
    · obtain rfl : k = 24 := by omega
      go_wp2
      go_ret
      exact ⟨ret_int (by rw [← HG.out]; rfl), hb⟩

theorem wrap_zero (t : Nat) (h : t < 18446744073709551616) : (IntKind.i64.wrap (t : Int) = 0) ↔ t = 0 := by rw [IntKind.wrap_i64]; omega
theorem and_bv (x y : Int) (h : (BitVec.ofInt 64 x &&& BitVec.ofInt 64 y).toNat < 9223372036854775808) : bits .and .i64 x y = ((BitVec.ofInt 64 x &&& BitVec.ofInt 64 y).toNat : Int) := by
  show IntKind.i64.wrap ((BitVec.ofInt 64 x &&& BitVec.ofInt 64 y).toNat : Int) = _
  exact IntWalk.i64_in _ (by omega)
theorem and_zero (x y : Int) : (bits .and .i64 x y == 0) = (BitVec.ofInt 64 x &&& BitVec.ofInt 64 y == 0#64) := by
  have h : bits .and .i64 x y = IntKind.i64.wrap ((BitVec.ofInt 64 x &&& BitVec.ofInt 64 y).toNat : Int) := rfl
  have h2 := wrap_zero (BitVec.ofInt 64 x &&& BitVec.ofInt 64 y).toNat (BitVec.ofInt 64 x &&& BitVec.ofInt 64 y).isLt
  rw [h, Bool.eq_iff_iff]
  simp only [beq_iff_eq]
  rw [h2]
  constructor
  · intro h3; exact BitVec.eq_of_toNat_eq (by simpa using h3)
  · intro h3; rw [h3]; rfl
theorem and_lt_right (a b : B64) (n : Nat) (h : b.toNat < n) : (a &&& b).toNat < n := by
  rw [BitVec.toNat_and]
  exact Nat.lt_of_le_of_lt Nat.and_le_right h

set_option maxHeartbeats 800000 in
theorem single_any (B : B64) (w : World) (hB : B.toNat < 16777216) :
    Calls Tryd.prog 60 #[.int .i64 (B.toNat : Int)] w fun e w' => e = .returned (.bool (sngB B)) ∧ Below w.heap.size w w' := by
  obtain ⟨x, hx⟩ : ∃ x : Int, (B.toNat : Int) = x := ⟨_, rfl⟩
  have h0 : 0 ≤ x := by omega
  have h1 : x < 16777216 := by omega
  have hb : BitVec.ofInt 64 x = B := by rw [← hx]; exact sw_ofInt B
  have hv : (bits .and .i64 x (x - 1) == 0) = sngB B := by
    rw [and_zero, show x - 1 = x + (-1) from rfl, BitVec.ofInt_add, hb, show BitVec.ofInt 64 (-1) = -1#64 from by decide]
    unfold sngB
    rw [BitVec.sub_eq_add_neg]
  rw [hx]
  have HV := Lib.hid hv; clear hv hb hx
  go_enter Tryd.func60, Tryd.ntmps60
  go_wp2
  go_ret
  exact ⟨ret_bool HV.out, Below.refl _ _⟩

theorem mask_mice (b : Int) : bits .and .i64 b 28800 = (((BitVec.ofInt 64 b &&& miceB).toNat : Nat) : Int) := and_bv b 28800 (Nat.lt_trans (and_lt_right _ _ 28801 (by decide)) (by decide))
theorem mask_enc (b : Int) : bits .and .i64 b 196608 = (((BitVec.ofInt 64 b &&& encB).toNat : Nat) : Int) := and_bv b 196608 (Nat.lt_trans (and_lt_right _ _ 196609 (by decide)) (by decide))
end Go.Proofs.YtcempbgbdlmjfaaDoor
namespace Go.Proofs.YtcempbgbdlmjfaaDoor
open Go.RowKit

theorem single_n (x : Nat) (w : World) (h : x < 16777216) :
    Calls Tryd.prog 60 #[.int .i64 (x : Int)] w fun e w' => e = .returned (.bool (sngB (BitVec.ofNat 64 x))) ∧ Below w.heap.size w w' := by
  have e : (BitVec.ofNat 64 x).toNat = x := by rw [BitVec.toNat_ofNat]; omega
  have h2 := single_any (BitVec.ofNat 64 x) w (by rw [e]; exact h)
  rw [e] at h2
  exact h2
theorem masks (b : Int) : ∃ x y : Nat, bits .and .i64 b 28800 = (x : Int) ∧ bits .and .i64 b 196608 = (y : Int) ∧ x < 16777216 ∧ y < 16777216 ∧ BitVec.ofInt 64 b &&& miceB = BitVec.ofNat 64 x ∧ BitVec.ofInt 64 b &&& encB = BitVec.ofNat 64 y :=
  ⟨_, _, mask_mice b, mask_enc b, Nat.lt_trans (and_lt_right _ _ 28801 (by decide)) (by decide), Nat.lt_trans (and_lt_right _ _ 196609 (by decide)) (by decide), by rw [BitVec.ofNat_toNat, BitVec.setWidth_eq], by rw [BitVec.ofNat_toNat, BitVec.setWidth_eq]⟩

set_option maxRecDepth 100000 in
set_option maxHeartbeats 1600000 in
theorem saneM_any (b : Int) (w : World) :
    Calls Tryd.prog 22 #[.agg #[.int .i64 b]] w fun e w' => e = .returned (.bool (saneM b)) ∧ Below w.heap.size w w' := by
  by_cases h0 : b < 0
  · go_enter Tryd.func22, Tryd.ntmps22
    go_wp2
    go_ret
    exact ⟨ret_bool (by simp [saneM]; omega), (Below.refl _ _).alloc (Nat.le_refl _) _⟩
  by_cases h1 : 16777216 ≤ b
  · go_enter Tryd.func22, Tryd.ntmps22
    go_wp2
    go_ret
    exact ⟨ret_bool (by simp [saneM]; omega), (Below.refl _ _).alloc (Nat.le_refl _) _⟩
  obtain ⟨x, y, mm, me, l1, l2, hX, hY⟩ := masks b
  have hs : saneM b = (sngB (BitVec.ofNat 64 x) && sngB (BitVec.ofNat 64 y)) := by
    unfold saneM
    rw [decide_eq_true (show 0 ≤ b ∧ b < 16777216 by omega), hX, hY]
    rfl
  clear hX hY
  have HS := Lib.hid hs; clear hs
  cases hx : sngB (BitVec.ofNat 64 x) with
  | false =>
    have HX := Lib.hid hx; clear hx
    go_enter Tryd.func22, Tryd.ntmps22
    go_wp2_with (go_at_call 60; refine (single_n x _ l1).mono ?_; rintro e w1 ⟨rfl, hb1⟩; simp only [HX.out])
    go_ret
    exact ⟨ret_bool (by rw [HS.out, HX.out]; rfl), bt ((Below.refl _ _).alloc (Nat.le_refl _) _) hb1 (by simp)⟩
  | true =>
    have HX := Lib.hid hx; clear hx
    go_enter Tryd.func22, Tryd.ntmps22
    go_wp2_with (first
      | (go_at_call_of 60 (Value.int IntKind.i64 (x : Int)); refine (single_n x _ l1).mono ?_; rintro e w1 ⟨rfl, hb1⟩; simp only [HX.out]; have nb := new_cell hb1 0 _ rfl)
      | (go_at_call_of 60 (Value.int IntKind.i64 (y : Int)); refine (single_n y _ l2).mono ?_; rintro e w2 ⟨rfl, hb2⟩))
    go_ret
    exact ⟨ret_bool (by rw [HS.out, HX.out]; rfl), bt (bt ((Below.refl _ _).alloc (Nat.le_refl _) _) hb1 (by simp)) hb2 (by have := hb1.size; simp at this; omega)⟩
end Go.Proofs.YtcempbgbdlmjfaaDoor
namespace Go.Proofs.YtcempbgbdlmjfaaDoor
open Go.RowKit

def whGo : Nat → List (Bool × Int) → B64 → Int
  | _, [], _ => 0
  | i, x :: xs, b => if b.getLsbD i then x.2 else whGo (i + 1) xs b
def whF (b : B64) : Int := whGo 0 tblM b
theorem wh_step (k : Nat) (hk : k < 24) (b : B64) : whGo k (tblM.drop k) b = if b.getLsbD k then (tblM[k]'hk).2 else whGo (k + 1) (tblM.drop (k + 1)) b := by
  rw [List.drop_eq_getElem_cons (show k < tblM.length from hk)]
  rfl
theorem wh_mice (b : B64) : whF (b &&& miceB) = mouseB (b.getLsbD 7) (b.getLsbD 12) (b.getLsbD 13) (b.getLsbD 14) := by
  rw [mice_val]
  cases b.getLsbD 7 <;> cases b.getLsbD 12 <;> cases b.getLsbD 13 <;> cases b.getLsbD 14 <;> decide
theorem wh_enc (b : B64) : whF (b &&& encB) = codeB (b.getLsbD 16) (b.getLsbD 17) := by
  rw [enc_val]
  cases b.getLsbD 16 <;> cases b.getLsbD 17 <;> decide

theorem pow_bv (k : Nat) (hk : k < 24) : wrap64 ((2 : Int) ^ k) = ((2 ^ k : Nat) : Int) ∧ BitVec.ofInt 64 (wrap64 ((2 : Int) ^ k)) = 1#64 <<< k := by
  have h : ∀ j : Fin 24, wrap64 ((2 : Int) ^ j.1) = ((2 ^ j.1 : Nat) : Int) ∧ BitVec.ofInt 64 (wrap64 ((2 : Int) ^ j.1)) = 1#64 <<< j.1 := by decide +kernel
  exact h ⟨k, hk⟩
theorem bit_zero (b : B64) (k : Nat) (hk : k < 64) : (b &&& (1#64 <<< k) == 0#64) = !b.getLsbD k := by
  cases h : b.getLsbD k with
  | true =>
    simp only [Bool.not_true, beq_eq_false_iff_ne]
    intro e
    have := congrArg (fun v : B64 => v.getLsbD k) e
    simp only [BitVec.getLsbD_and, h, bit_one k k hk hk, decide_true, Bool.and_true, BitVec.getLsbD_zero] at this
    cases this
  | false =>
    simp only [Bool.not_false, beq_iff_eq]
    apply BitVec.eq_of_getLsbD_eq
    intro j hj
    rw [BitVec.getLsbD_and, bit_one k j hk hj, BitVec.getLsbD_zero]
    by_cases e : j = k
    · subst e; rw [h]; rfl
    · simp [e]
theorem bit_test (x : Int) (k : Nat) (hk : k < 24) : (bits .and .i64 x (wrap64 (2 ^ k)) != 0) = (BitVec.ofInt 64 x).getLsbD k := by
  have h : (bits .and .i64 x (wrap64 (2 ^ k)) != 0) = !(bits .and .i64 x (wrap64 (2 ^ k)) == 0) := rfl
  rw [h, and_zero, (pow_bv k hk).2, bit_zero _ k (by omega), Bool.not_not]

set_option maxRecDepth 100000 in
set_option maxHeartbeats 1600000 in
theorem which_any (x : Nat) (w : World) (hT : TabM w) :
    Calls Tryd.prog 61 #[.int .i64 (x : Int)] w fun e w' => e = .returned (.int .i64 (whF (BitVec.ofNat 64 x))) ∧ Below w.heap.size w w' := by
  obtain ⟨tt, fr, hg⟩ := hT
  go_enter Tryd.func61, Tryd.ntmps61
  go_upto_region 1 with (fail)
  go_step
  refine wpList_load_row (by rfl) 105 (.global 0) (by rfl) 0 (by rfl) tt tblV fr _ hg Tryd.underlying105 rfl info_tbl ?_
  go_wp2
  go_loopw [6] (fun i wr => ∃ k : Nat, k ≤ 24 ∧ i = .int .i64 k ∧ whGo k (tblM.drop k) (BitVec.ofNat 64 x) = whF (BitVec.ofNat 64 x) ∧ Below w.heap.size w wr) (fun i _ => 24 - (intOf i).toNat)
  case atStart => exact ⟨0, by omega, rfl, rfl, Below.refl _ _⟩
  case round =>
    obtain ⟨k, hk, rfl, hwg, hb⟩ := hrel
    have HG := Lib.hid hwg; clear hwg
    by_cases hlt : k < 24
    · have hix := idx_tab k hlt
      have hst := wh_step k hlt (BitVec.ofNat 64 x)
      have hbt := bit_test (x : Int) k hlt
      rw [BitVec.ofInt_natCast] at hbt
      obtain ⟨a, ha⟩ : ∃ a, (tblM[k]'hlt).1 = a := ⟨_, rfl⟩
      obtain ⟨c, hc⟩ : ∃ c, (tblM[k]'hlt).2 = c := ⟨_, rfl⟩
      rw [ha, hc] at hix
      rw [hc] at hst
      clear ha hc
      cases ht : (BitVec.ofNat 64 x).getLsbD k with
      | true =>
        rw [ht] at hbt hst
        have HS := Lib.hid hst; clear hst ht
        go_wp2
        go_ret
        exact ⟨ret_int (by rw [← HG.out, HS.out, if_pos trivial]), hb.alloc hb.size _⟩
      | false =>
        rw [ht] at hbt hst
        have HS := Lib.hid hst; clear hst ht
        go_wp2
        go_roundw
        case rel => exact ⟨k + 1, by omega, by go_num, by rw [← HG.out, HS.out, if_neg (by simp)], hb.alloc hb.size _⟩
        case measure => simp [intOf]; omega
    · obtain rfl : k = 24 := by omega
      go_wp2
      go_ret
      exact ⟨ret_int (by rw [← HG.out]; rfl), hb⟩
theorem new_any (w : World) : Calls Tryd.prog 26 #[] w fun e w' => e = .returned (.agg #[.int .i64 322]) ∧ Below w.heap.size w w' := by
  go_enter Tryd.func26, Tryd.ntmps26
  go_wp2
  exact bodyPost_ret (v := .agg #[.int .i64 322]) (by simp [results, Tryd.results26, go_sem]) rfl ⟨rfl, (Below.refl _ _).alloc (Nat.le_refl _) _⟩
end Go.Proofs.YtcempbgbdlmjfaaDoor
namespace Go.Proofs.YtcempbgbdlmjfaaDoor
open Go.RowKit

theorem TabM.after {w : World} (h : TabM w) (u : After w) : TabM u.get := h.below u.below
set_option maxRecDepth 100000 in
set_option maxHeartbeats 1600000 in
theorem mouse_any (b : Int) (w : World) (hT : TabM w) :
    Calls Tryd.prog 27 #[.agg #[.int .i64 b]] w fun e w' => e = .returned (.tuple #[.int .i64 (mouF b), .int .i64 (codF b)]) ∧ Below w.heap.size w w' := by
  cases hs : saneM b with
  | false =>
    have e1 : mouF b = 0 := by simp [mouF, hs]
    have e2 : codF b = 0 := by simp [codF, hs]
    rw [e1, e2]
    have HS := Lib.hid hs; clear hs e1 e2
    go_enter Tryd.func27, Tryd.ntmps27
    go_wp2_with (go_at_call 22; refine (saneM_any b _).mono ?_; rintro e w1 ⟨rfl, hb1⟩; simp only [HS.out])
    go_ret2
    exact ⟨rfl, bt ((Below.refl _ _).alloc (Nat.le_refl _) _) hb1 (by simp)⟩
  | true =>
    obtain ⟨x, y, mm, me, l1, l2, hX, hY⟩ := masks b
    have e1 : mouF b = whF (BitVec.ofNat 64 x) := by rw [← hX, wh_mice]; simp [mouF, hs]
    have e2 : codF b = whF (BitVec.ofNat 64 y) := by rw [← hY, wh_enc]; simp [codF, hs]
    rw [e1, e2]
    have HS := Lib.hid hs; clear hs e1 e2 hX hY
    have hT1 := hT.alloc (.cells #[.int .i64 b] 24)
    go_enter Tryd.func27, Tryd.ntmps27
    go_wp2_with (go_at_call 22; refine (saneM_any b _).mono ?_; rintro e w1 ⟨rfl, hb1⟩; simp only [HS.out]; have nb := new_cell hb1 0 _ rfl; have hT2 := hT1.below hb1)
    have y0 := fun u : After w1 => u.cell nb
    have y1 := fun u : After w1 => hT2.after u
    have Y1 := Lib.hid y1; clear y1
    refine wp_region_after (by kernel_rfl) (by kernel_rfl) ?_
    repeat (go_big_quiet_step (first
      | (go_at_call_of 61 (Value.int IntKind.i64 (x : Int)); exact Calls.after_int rfl (which_any x _ (Y1.out _)))
      | (go_at_call_of 61 (Value.int IntKind.i64 (y : Int)); exact Calls.after_int rfl (which_any y _ (Y1.out _)))))
    refine wpQuiet_nil ?_
    rintro _ ⟨u, rfl⟩
    clear y0
    go_wp2_with fail
    go_ret2
    exact ⟨rfl, bt (bt ((Below.refl _ _).alloc (Nat.le_refl _) _) hb1 (by simp)) u.below (by have := hb1.size; simp at this; omega)⟩

set_option maxRecDepth 100000 in
set_option maxHeartbeats 1600000 in
theorem has_any (b : Int) (p : Bool) (n : Int) (w : World) (hT : TabM w) :
    Calls Tryd.prog 25 #[.agg #[.int .i64 b], .bool p, .int .i64 n] w fun e w' => e = .returned (.bool (hasF b p n)) ∧ Below w.heap.size w w' := by
  have hT1 := hT.alloc (.cells #[.int .i64 b] 24)
  cases hs : saneM b with
  | false =>
    have e1 : hasF b p n = false := by simp [hasF, hs]
    rw [e1]
    have HS := Lib.hid hs; clear hs e1
    go_enter Tryd.func25, Tryd.ntmps25
    go_wp2_with (go_at_call 24; refine (place_any p n _ hT1).mono ?_; rintro e w1 ⟨rfl, hb1⟩; have nb := new_cell hb1 0 _ rfl)
    have y0 := fun u : After w1 => u.cell nb
    refine wp_region_after (by kernel_rfl) (by kernel_rfl) ?_
    repeat (go_big_quiet_step ((go_at_call 22; exact Calls.after_bool HS.out (saneM_any b _))))
    refine wpQuiet_nil ?_
    rintro _ ⟨u, rfl⟩
    clear y0
    go_wp2_with fail
    go_ret
    exact ⟨rfl, bt (bt ((Below.refl _ _).alloc (Nat.le_refl _) _) hb1 (by simp)) u.below (by have := hb1.size; simp at this; omega)⟩
  | true =>
    rcases plcF_spec p n with hp | ⟨i, hp, _⟩
    · have e1 : hasF b p n = false := by simp [hasF, hp]
      rw [e1]
      have HS := Lib.hid hs; have HP := Lib.hid hp; clear hs e1 hp
      go_enter Tryd.func25, Tryd.ntmps25
      go_wp2_with (go_at_call 24; refine (place_any p n _ hT1).mono ?_; rintro e w1 ⟨rfl, hb1⟩; simp only [HP.out]; have nb := new_cell hb1 0 _ rfl)
      have y0 := fun u : After w1 => u.cell nb
      refine wp_region_after (by kernel_rfl) (by kernel_rfl) ?_
      repeat (go_big_quiet_step ((go_at_call 22; exact Calls.after_bool HS.out (saneM_any b _))))
      refine wpQuiet_nil ?_
      rintro _ ⟨u, rfl⟩
      clear y0
      go_wp2_with fail
      go_ret
      exact ⟨rfl, bt (bt ((Below.refl _ _).alloc (Nat.le_refl _) _) hb1 (by simp)) u.below (by have := hb1.size; simp at this; omega)⟩
    · obtain ⟨k, hk⟩ := i
      simp only at hp
      have e1 : hasF b p n = (BitVec.ofInt 64 b).getLsbD k := by simp [hasF, hp, hs]
      have hbt := bit_test b k hk
      rw [e1]
      generalize (BitVec.ofInt 64 b).getLsbD k = t at hbt
      have HS := Lib.hid hs; have HP := Lib.hid hp; clear hs e1 hp
      have i0 : (0 : Int) ≤ (k : Int) := by omega
      have i1 : (k : Int) < 64 := by omega
      have i2 : decide (0 ≤ (k : Int)) = true := by simp
      go_enter Tryd.func25, Tryd.ntmps25
      go_wp2_with (go_at_call 24; refine (place_any p n _ hT1).mono ?_; rintro e w1 ⟨rfl, hb1⟩; simp only [HP.out]; have nb := new_cell hb1 0 _ rfl)
      have y0 := fun u : After w1 => u.cell nb
      refine wp_region_after (by kernel_rfl) (by kernel_rfl) ?_
      repeat (go_big_quiet_step ((go_at_call 22; exact Calls.after_bool HS.out (saneM_any b _))))
      refine wpQuiet_nil ?_
      rintro _ ⟨u, rfl⟩
      clear y0
      go_wp2_with fail
      go_ret
      exact ⟨rfl, bt (bt ((Below.refl _ _).alloc (Nat.le_refl _) _) hb1 (by simp)) u.below (by have := hb1.size; simp at this; omega)⟩
end Go.Proofs.YtcempbgbdlmjfaaDoor
