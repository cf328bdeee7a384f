/-
  modes: the walk of Set.
-/
import Derived.Test.YtcempbgbdlmjfaaDoorMoD
namespace Go.Proofs.YtcempbgbdlmjfaaDoor
open Go.RowKit

theorem andnot_bv (x y : Int) (h : (BitVec.ofInt 64 x &&& ~~~(BitVec.ofInt 64 y)).toNat < 9223372036854775808) : bits .andNot .i64 x y = ((BitVec.ofInt 64 x &&& ~~~(BitVec.ofInt 64 y)).toNat : Int) := by
  show IntKind.i64.wrap ((BitVec.ofInt 64 x &&& ~~~(BitVec.ofInt 64 y)).toNat : Int) = _
  exact IntWalk.i64_in _ (by omega)
theorem or_bv (x y : Int) (h : (BitVec.ofInt 64 x ||| BitVec.ofInt 64 y).toNat < 9223372036854775808) : bits .or .i64 x y = ((BitVec.ofInt 64 x ||| BitVec.ofInt 64 y).toNat : Int) := by
  show IntKind.i64.wrap ((BitVec.ofInt 64 x ||| BitVec.ofInt 64 y).toNat : Int) = _
  exact IntWalk.i64_in _ (by omega)
theorem and_lt_left (a b : B64) (n : Nat) (h : a.toNat < n) : (a &&& b).toNat < n := by
  rw [BitVec.toNat_and]
  exact Nat.lt_of_le_of_lt Nat.and_le_left h
theorem ofInt_lt (b : Int) (h0 : 0 ≤ b) (h1 : b < 16777216) : (BitVec.ofInt 64 b).toNat < 16777216 := by
  obtain ⟨x, rfl⟩ := Int.eq_ofNat_of_zero_le h0
  rw [BitVec.ofInt_natCast, BitVec.toNat_ofNat]
  have : x < 16777216 := by omega
  rw [Nat.mod_eq_of_lt (by omega)]
  exact this
theorem off_val (b : Int) (k : Nat) (hk : k < 24) (h0 : 0 ≤ b) (h1 : b < 16777216) : bits .andNot .i64 b (wrap64 (2 ^ k)) = ((offB (BitVec.ofInt 64 b) k).toNat : Int) := by
  rw [andnot_bv _ _ (Nat.lt_trans (and_lt_left _ _ 16777216 (ofInt_lt b h0 h1)) (by omega)), (pow_bv k hk).2]
  rfl
theorem or_lt (a : B64) (k : Nat) (hk : k < 24) (h : a.toNat < 16777216) : (a ||| (1#64 <<< k)).toNat < 16777216 := by
  rw [BitVec.toNat_or]
  have h2 : (1#64 <<< k).toNat < 2 ^ 24 := by
    have : ∀ j : Fin 24, (1#64 <<< j.1).toNat < 2 ^ 24 := by decide +kernel
    exact this ⟨k, hk⟩
  exact Nat.or_lt_two_pow (n := 24) (by omega) h2
theorem on_val (c : Int) (C : B64) (k : Nat) (hk : k < 24) (hc : c = (C.toNat : Int)) (hC : C.toNat < 16777216) : bits .or .i64 c (wrap64 (2 ^ k)) = ((C ||| (1#64 <<< k)).toNat : Int) := by
  have e : BitVec.ofInt 64 c = C := by rw [hc]; exact sw_ofInt C
  have hl := or_lt C k hk hC
  rw [or_bv _ _ (by rw [e, (pow_bv k hk).2]; omega), e, (pow_bv k hk).2]
theorem not_val (b y : Int) (h0 : 0 ≤ b) (h1 : b < 16777216) : bits .andNot .i64 b y = ((BitVec.ofInt 64 b &&& ~~~(BitVec.ofInt 64 y)).toNat : Int) ∧ (BitVec.ofInt 64 b &&& ~~~(BitVec.ofInt 64 y)).toNat < 16777216 := by
  have h := and_lt_left (BitVec.ofInt 64 b) (~~~(BitVec.ofInt 64 y)) 16777216 (ofInt_lt b h0 h1)
  exact ⟨andnot_bv _ _ (by omega), h⟩
/-- what Set leaves, of a mode that is one, in each of the four cases -/
theorem set_off (b : Int) (p : Bool) (n : Int) (k : Nat) (hk : k < 24) (hs : saneM b = true) (hp : plcF p n = (k : Int)) : setF b p n false = bits .andNot .i64 b (wrap64 (2 ^ k)) := by
  have h3 := ((saneM_iff b).1 hs).1
  rw [off_val b k hk h3.1 h3.2]
  simp [setF, hs, hp, swB]
  omega
theorem ones_and (c : B64) : c &&& ~~~0#64 = c := by
  apply BitVec.eq_of_getLsbD_eq
  intro j hj
  rw [BitVec.getLsbD_and, BitVec.getLsbD_not]
  simp [hj]
theorem set_on (b : Int) (p : Bool) (n : Int) (k : Nat) (hk : k < 24) (hs : saneM b = true) (hp : plcF p n = (k : Int)) :
    (isMice k = true → isEnc k = false → setF b p n true = bits .or .i64 (bits .andNot .i64 b 28800) (wrap64 (2 ^ k))) ∧
    (isMice k = false → isEnc k = true → setF b p n true = bits .or .i64 (bits .andNot .i64 b 196608) (wrap64 (2 ^ k))) ∧
    (isMice k = false → isEnc k = false → setF b p n true = bits .or .i64 b (wrap64 (2 ^ k))) := by
  have h3 := ((saneM_iff b).1 hs).1
  have e : setF b p n true = ((onB (BitVec.ofInt 64 b) k).toNat : Int) := by
    simp [setF, hs, hp, swB]
    omega
  have nm := not_val b 28800 h3.1 h3.2
  have ne := not_val b 196608 h3.1 h3.2
  have hb : b = ((BitVec.ofInt 64 b).toNat : Int) := by
    obtain ⟨x, rfl⟩ := Int.eq_ofNat_of_zero_le h3.1
    have h4 : x < 16777216 := by have := h3.2; omega
    rw [BitVec.ofInt_natCast, BitVec.toNat_ofNat, Nat.mod_eq_of_lt (by omega)]
  refine ⟨fun h1 h2 => ?_, fun h1 h2 => ?_, fun h1 h2 => ?_⟩
  · rw [e, on_val _ _ k hk nm.1 nm.2]
    unfold onB
    rw [h1, h2, if_pos rfl, if_neg (by simp), ones_and]
    rfl
  · rw [e, on_val _ _ k hk ne.1 ne.2]
    unfold onB
    rw [h1, h2, if_pos rfl, if_neg (by simp), ones_and]
    rfl
  · rw [e, on_val _ _ k hk hb (ofInt_lt b h3.1 h3.2)]
    unfold onB
    rw [h1, h2, if_neg (by simp), if_neg (by simp), ones_and, ones_and]
theorem test_mice (k : Nat) (hk : k < 24) : (bits .and .i64 (wrap64 (2 ^ k)) 28800 != 0) = isMice k := by
  have : ∀ j : Fin 24, (bits .and .i64 (wrap64 (2 ^ j.1)) 28800 != 0) = isMice j.1 := by decide +kernel
  exact this ⟨k, hk⟩
theorem test_enc (k : Nat) (hk : k < 24) : (bits .and .i64 (wrap64 (2 ^ k)) 196608 != 0) = isEnc k := by
  have : ∀ j : Fin 24, (bits .and .i64 (wrap64 (2 ^ j.1)) 196608 != 0) = isEnc j.1 := by decide +kernel
  exact this ⟨k, hk⟩

theorem old_two {w w1 : World} {o1 o2 : Obj} (h : Below ((w.alloc o1).alloc o2).heap.size ((w.alloc o1).alloc o2) w1) : w1.cell? ⟨w.heap.size, 0, none⟩ = ((w.alloc o1).alloc o2).cell? ⟨w.heap.size, 0, none⟩ ∧
    w1.cell? ⟨w.heap.size + 1, 0, none⟩ = ((w.alloc o1).alloc o2).cell? ⟨w.heap.size + 1, 0, none⟩ ∧ w1.frozen? ⟨w.heap.size + 1, 0, none⟩ = ((w.alloc o1).alloc o2).frozen? ⟨w.heap.size + 1, 0, none⟩ ∧ w.heap.size + 1 < w1.heap.size :=
  ⟨(bcell h).1 _ _ (by simp; omega), (bcell h).1 _ _ (by simp), (bcell h).2 _ _ (by simp), by have := h.size; simp at this; omega⟩

set_option maxRecDepth 100000 in
set_option maxHeartbeats 1600000 in
theorem set_any (b : Int) (p : Bool) (n : Int) (on : Bool) (w : World) (hT : TabM w) :
    Calls Tryd.prog 23 #[.agg #[.int .i64 b], .bool p, .int .i64 n, .bool on] w fun e w' => e = .returned (.agg #[.int .i64 (setF b p n on)]) ∧ Below w.heap.size w w' := by
  have hT1 := (hT.alloc (.cells #[.int .i64 b] 24)).alloc (.cells #[.int .i64 0] 24)
  have bl2 : ∀ w1 : World, Below ((w.alloc (.cells #[.int .i64 b] 24)).alloc (.cells #[.int .i64 0] 24)).heap.size ((w.alloc (.cells #[.int .i64 b] 24)).alloc (.cells #[.int .i64 0] 24)) w1 → Below w.heap.size w w1 :=
    fun _ h => bt (((Below.refl _ _).alloc (Nat.le_refl _) _).alloc (by simp) _) h (by simp; omega)
  have BL2 := Lib.hid bl2; clear bl2
  cases hs : saneM b with
  | false =>
    have e1 : setF b p n on = 322 := by simp [setF, hs]
    rw [e1]
    have HS := Lib.hid hs; clear hs e1
    go_enter Tryd.func23, Tryd.ntmps23
    go_wp2_with (first
      | (go_at_call 22; refine (saneM_any b _).mono ?_; rintro e w1 ⟨rfl, hb1⟩; simp only [HS.out]; obtain ⟨q0, q1, f1, z1⟩ := old_two hb1; simp at q0 q1 f1)
      | (go_at_call 26; refine (new_any _).mono ?_; rintro e w2 ⟨rfl, hb2⟩; have q2 := past hb2 q1; have f2 := past_frozen hb2 z1 f1))
    exact bodyPost_ret (v := .agg #[.int .i64 322]) (by simp [results, Tryd.results23, go_sem, q2]) rfl ⟨rfl, (bt (BL2.out _ hb1) hb2 (by omega)).setCell (by simp) _⟩
  | true =>
    rcases plcF_spec p n with hp | ⟨i, hp, _⟩
    · have e1 : setF b p n on = b := by simp [setF, hs, hp]
      rw [e1]
      have HS := Lib.hid hs; have HP := Lib.hid hp; clear hs hp e1
      go_enter Tryd.func23, Tryd.ntmps23
      go_wp2_with (first
        | (go_at_call 22; refine (saneM_any b _).mono ?_; rintro e w1 ⟨rfl, hb1⟩; simp only [HS.out]; obtain ⟨q0, q1, f1, z1⟩ := old_two hb1; simp at q0 q1 f1; have hT2 := hT1.below hb1)
        | (go_at_call 24; refine (place_any p n _ hT2).mono ?_; rintro e w2 ⟨rfl, hb2⟩; simp only [HP.out]; have p2 := past hb2 q0; have q2 := past hb2 q1; have f2 := past_frozen hb2 z1 f1))
      exact bodyPost_ret (v := .agg #[.int .i64 b]) (by simp [results, Tryd.results23, go_sem, q2]) rfl ⟨rfl, (bt (BL2.out _ hb1) hb2 (by omega)).setCell (by simp) _⟩
    · obtain ⟨k, hk⟩ := i
      simp only at hp
      have i0 : (0 : Int) ≤ (k : Int) := by omega
      have i1 : (k : Int) < 64 := by omega
      have hoff := set_off b p n k hk hs hp
      have hon := set_on b p n k hk hs hp
      have tm := test_mice k hk
      have te := test_enc k hk
      have HS := Lib.hid hs; have HP := Lib.hid hp; have HOFF := Lib.hid hoff; have HON := Lib.hid hon; clear hs hp hoff hon
      cases on with
      | false =>
        clear tm te
        rw [HOFF.out]
        go_enter Tryd.func23, Tryd.ntmps23
        go_wp2_with (first
          | (go_at_call 22; refine (saneM_any b _).mono ?_; rintro e w1 ⟨rfl, hb1⟩; simp only [HS.out]; obtain ⟨q0, q1, f1, z1⟩ := old_two hb1; simp at q0 q1 f1; have hT2 := hT1.below hb1)
          | (go_at_call 24; refine (place_any p n _ hT2).mono ?_; rintro e w2 ⟨rfl, hb2⟩; simp only [HP.out]; have p2 := past hb2 q0; have q2 := past hb2 q1; have f2 := past_frozen hb2 z1 f1))
        exact bodyPost_ret (v := .agg #[.int .i64 (bits .andNot .i64 b (wrap64 (2 ^ k)))]) (by simp [results, Tryd.results23, go_sem, q2]) rfl ⟨rfl, (bt (BL2.out _ hb1) hb2 (by omega)).setCell (by simp) _⟩
      | true =>
        cases hm : isMice k with
        | true =>
          have he : isEnc k = false := by
            have : ∀ j : Fin 24, isMice j.1 = true → isEnc j.1 = false := by decide
            exact this ⟨k, hk⟩ hm
          rw [(HON.out.1 hm he)]
          rw [hm] at tm
          rw [he] at te
          clear hm he
          go_enter Tryd.func23, Tryd.ntmps23
          go_wp2_with (first
            | (go_at_call 22; refine (saneM_any b _).mono ?_; rintro e w1 ⟨rfl, hb1⟩; simp only [HS.out]; obtain ⟨q0, q1, f1, z1⟩ := old_two hb1; simp at q0 q1 f1; have hT2 := hT1.below hb1)
            | (go_at_call 24; refine (place_any p n _ hT2).mono ?_; rintro e w2 ⟨rfl, hb2⟩; simp only [HP.out]; have p2 := past hb2 q0; have q2 := past hb2 q1; have f2 := past_frozen hb2 z1 f1))
          exact bodyPost_ret (v := .agg #[.int .i64 (bits .or .i64 (bits .andNot .i64 b 28800) (wrap64 (2 ^ k)))]) (by simp [results, Tryd.results23, go_sem, q2]) rfl ⟨rfl, (bt (BL2.out _ hb1) hb2 (by omega)).setCell (by simp) _⟩
        | false =>
          cases he : isEnc k with
          | true =>
            rw [(HON.out.2.1 hm he)]
            rw [hm] at tm
            rw [he] at te
            clear hm he
            go_enter Tryd.func23, Tryd.ntmps23
            go_wp2_with (first
              | (go_at_call 22; refine (saneM_any b _).mono ?_; rintro e w1 ⟨rfl, hb1⟩; simp only [HS.out]; obtain ⟨q0, q1, f1, z1⟩ := old_two hb1; simp at q0 q1 f1; have hT2 := hT1.below hb1)
              | (go_at_call 24; refine (place_any p n _ hT2).mono ?_; rintro e w2 ⟨rfl, hb2⟩; simp only [HP.out]; have p2 := past hb2 q0; have q2 := past hb2 q1; have f2 := past_frozen hb2 z1 f1))
            exact bodyPost_ret (v := .agg #[.int .i64 (bits .or .i64 (bits .andNot .i64 b 196608) (wrap64 (2 ^ k)))]) (by simp [results, Tryd.results23, go_sem, q2]) rfl ⟨rfl, (bt (BL2.out _ hb1) hb2 (by omega)).setCell (by simp) _⟩
          | false =>
            rw [(HON.out.2.2 hm he)]
            rw [hm] at tm
            rw [he] at te
            clear hm he
            go_enter Tryd.func23, Tryd.ntmps23
            go_wp2_with (first
              | (go_at_call 22; refine (saneM_any b _).mono ?_; rintro e w1 ⟨rfl, hb1⟩; simp only [HS.out]; obtain ⟨q0, q1, f1, z1⟩ := old_two hb1; simp at q0 q1 f1; have hT2 := hT1.below hb1)
              | (go_at_call 24; refine (place_any p n _ hT2).mono ?_; rintro e w2 ⟨rfl, hb2⟩; simp only [HP.out]; have p2 := past hb2 q0; have q2 := past hb2 q1; have f2 := past_frozen hb2 z1 f1))
            exact bodyPost_ret (v := .agg #[.int .i64 (bits .or .i64 b (wrap64 (2 ^ k)))]) (by simp [results, Tryd.results23, go_sem, q2]) rfl ⟨rfl, (bt (BL2.out _ hb1) hb2 (by omega)).setCell (by simp) _⟩
end Go.Proofs.YtcempbgbdlmjfaaDoor
