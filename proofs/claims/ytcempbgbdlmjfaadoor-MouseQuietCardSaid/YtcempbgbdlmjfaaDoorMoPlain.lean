/-
  Layer 13 (modes), plain: digits of two; what Sane, Place, Has, Set, Report and Mouse compute, and the laws of it. No program in sight.
-/
namespace Go.Proofs.YtcempbgbdlmjfaaDoor

def tblM : List (Bool × Int) := [(false, 4), (false, 8), (false, 20), (true, 1), (true, 5), (true, 6), (true, 7), (true, 9), (true, 25), (true, 45), (true, 47), (true, 66),
  (true, 1000), (true, 1002), (true, 1003), (true, 1004), (true, 1006), (true, 1015), (true, 1047), (true, 1048), (true, 1049), (true, 2004), (true, 2500), (true, 2501)]
def plcGo : Nat → List (Bool × Int) → Bool → Int → Int
  | _, [], _, _ => -1
  | i, x :: xs, p, n => if x.1 = p ∧ x.2 = n then (i : Int) else plcGo (i + 1) xs p n
def plcF (p : Bool) (n : Int) : Int := plcGo 0 tblM p n

abbrev B64 := BitVec 64
def miceB : B64 := 28800#64
def encB : B64 := 196608#64
def isMice (i : Nat) : Bool := i == 7 || i == 12 || i == 13 || i == 14
def isEnc (i : Nat) : Bool := i == 16 || i == 17
def sngB (x : B64) : Bool := x &&& (x - 1#64) == 0#64
def saneM (b : Int) : Bool := decide (0 ≤ b ∧ b < 16777216) && (sngB (BitVec.ofInt 64 b &&& miceB) && sngB (BitVec.ofInt 64 b &&& encB))
/-- the digits behind a switch -/
def onB (b : B64) (i : Nat) : B64 :=
  ((b &&& (if isMice i then ~~~miceB else ~~~0#64)) &&& (if isEnc i then ~~~encB else ~~~0#64)) ||| (1#64 <<< i)
def offB (b : B64) (i : Nat) : B64 := b &&& ~~~(1#64 <<< i)
def swB (b : B64) (i : Nat) (on : Bool) : B64 := if on then onB b i else offB b i

theorem bit_mice (i : Nat) : miceB.getLsbD i = isMice i := by
  by_cases h : i < 64
  · have : ∀ k : Fin 64, miceB.getLsbD k.1 = isMice k.1 := by decide
    exact this ⟨i, h⟩
  · rw [BitVec.getLsbD_of_ge _ _ (by omega)]
    symm; simp [isMice]; omega
theorem bit_enc (i : Nat) : encB.getLsbD i = isEnc i := by
  by_cases h : i < 64
  · have : ∀ k : Fin 64, encB.getLsbD k.1 = isEnc k.1 := by decide
    exact this ⟨i, h⟩
  · rw [BitVec.getLsbD_of_ge _ _ (by omega)]
    symm; simp [isEnc]; omega

def amo4 (a b c d : Bool) : Bool := !(a && b) && !(a && c) && !(a && d) && !(b && c) && !(b && d) && !(c && d)
theorem mice_val (b : B64) : b &&& miceB = (bif b.getLsbD 7 then 128#64 else 0) ||| (bif b.getLsbD 12 then 4096#64 else 0) ||| (bif b.getLsbD 13 then 8192#64 else 0) ||| (bif b.getLsbD 14 then 16384#64 else 0) := by
  have e : ∀ (c : Bool) (k i : Nat), k < 64 → i < 64 → (bif c then (1#64 <<< k) else 0).getLsbD i = (c && i == k) := by
    intro c k i hk hi
    cases c
    · simp
    · simp only [cond_true, BitVec.getLsbD_shiftLeft, Bool.true_and, hi, decide_true]
      by_cases h : i < k
      · simp [h]; omega
      · by_cases h2 : i = k
        · subst h2; simp
        · simp [h]
          have : i - k ≠ 0 := by omega
          simp [this, h2]
  apply BitVec.eq_of_getLsbD_eq
  intro i hi
  rw [show (128#64 : B64) = 1#64 <<< 7 from by decide, show (4096#64 : B64) = 1#64 <<< 12 from by decide, show (8192#64 : B64) = 1#64 <<< 13 from by decide, show (16384#64 : B64) = 1#64 <<< 14 from by decide]
  simp only [BitVec.getLsbD_or, BitVec.getLsbD_and, bit_mice, e _ _ _ (show 7 < 64 by omega) hi, e _ _ _ (show 12 < 64 by omega) hi, e _ _ _ (show 13 < 64 by omega) hi, e _ _ _ (show 14 < 64 by omega) hi, isMice]
  by_cases h1 : i = 7
  · subst h1; simp
  by_cases h2 : i = 12
  · subst h2; simp
  by_cases h3 : i = 13
  · subst h3; simp
  by_cases h4 : i = 14
  · subst h4; simp
  simp only [beq_eq_false_iff_ne.2 h1, beq_eq_false_iff_ne.2 h2, beq_eq_false_iff_ne.2 h3, beq_eq_false_iff_ne.2 h4, Bool.and_false, Bool.or_false]
theorem enc_val (b : B64) : b &&& encB = (bif b.getLsbD 16 then 65536#64 else 0) ||| (bif b.getLsbD 17 then 131072#64 else 0) := by
  have e : ∀ (c : Bool) (k i : Nat), k < 64 → i < 64 → (bif c then (1#64 <<< k) else 0).getLsbD i = (c && i == k) := by
    intro c k i hk hi
    cases c
    · simp
    · simp only [cond_true, BitVec.getLsbD_shiftLeft, Bool.true_and, hi, decide_true]
      by_cases h : i < k
      · simp [h]; omega
      · by_cases h2 : i = k
        · subst h2; simp
        · simp [h]
          have : i - k ≠ 0 := by omega
          simp [this, h2]
  apply BitVec.eq_of_getLsbD_eq
  intro i hi
  rw [show (65536#64 : B64) = 1#64 <<< 16 from by decide, show (131072#64 : B64) = 1#64 <<< 17 from by decide]
  simp only [BitVec.getLsbD_or, BitVec.getLsbD_and, bit_enc, e _ _ _ (show 16 < 64 by omega) hi, e _ _ _ (show 17 < 64 by omega) hi, isEnc]
  by_cases h1 : i = 16
  · subst h1; simp
  by_cases h2 : i = 17
  · subst h2; simp
  simp only [beq_eq_false_iff_ne.2 h1, beq_eq_false_iff_ne.2 h2, Bool.and_false, Bool.or_false]
theorem sng_mice (b : B64) : sngB (b &&& miceB) = amo4 (b.getLsbD 7) (b.getLsbD 12) (b.getLsbD 13) (b.getLsbD 14) := by
  rw [mice_val]
  cases b.getLsbD 7 <;> cases b.getLsbD 12 <;> cases b.getLsbD 13 <;> cases b.getLsbD 14 <;> decide
theorem sng_enc (b : B64) : sngB (b &&& encB) = !(b.getLsbD 16 && b.getLsbD 17) := by
  rw [enc_val]
  cases b.getLsbD 16 <;> cases b.getLsbD 17 <;> decide

theorem bit_one (i j : Nat) (hi : i < 64) (hj : j < 64) : (1#64 <<< i).getLsbD j = decide (j = i) := by
  simp only [BitVec.getLsbD_shiftLeft, hj, decide_true, Bool.true_and]
  by_cases h : j < i
  · simp [h]; omega
  · by_cases h2 : j = i
    · subst h2; simp
    · have : j - i ≠ 0 := by omega
      simp [h, BitVec.getLsbD_one, this, h2]
/-- each digit behind a switch -/
theorem bit_sw (b : B64) (i j : Nat) (on : Bool) (hi : i < 24) (hj : j < 64) :
    (swB b i on).getLsbD j = if j = i then on else (b.getLsbD j && !(on && ((isMice i && isMice j) || (isEnc i && isEnc j)))) := by
  have ones : (~~~0#64 : B64).getLsbD j = true := by rw [BitVec.getLsbD_not]; simp [hj]
  have e1 : (if isMice i = true then ~~~miceB else ~~~0#64).getLsbD j = !(isMice i && isMice j) := by
    cases isMice i
    · rw [if_neg (by simp), ones]; rfl
    · rw [if_pos rfl, BitVec.getLsbD_not, bit_mice]; simp [hj]
  have e2 : (if isEnc i = true then ~~~encB else ~~~0#64).getLsbD j = !(isEnc i && isEnc j) := by
    cases isEnc i
    · rw [if_neg (by simp), ones]; rfl
    · rw [if_pos rfl, BitVec.getLsbD_not, bit_enc]; simp [hj]
  have e3 := bit_one i j (by omega) hj
  unfold swB
  cases on
  · rw [if_neg (by simp)]
    unfold offB
    rw [BitVec.getLsbD_and, BitVec.getLsbD_not, e3]
    by_cases h : j = i
    · rw [if_pos h]; simp [h]
    · rw [if_neg h]
      simp only [h, hj, decide_true, decide_false, Bool.not_false, Bool.and_true, Bool.false_and]
  · rw [if_pos rfl]
    unfold onB
    rw [BitVec.getLsbD_or, BitVec.getLsbD_and, BitVec.getLsbD_and, e1, e2, e3]
    by_cases h : j = i
    · rw [if_pos h]; simp [h]
    · rw [if_neg h]
      simp only [h, decide_false, Bool.or_false, Bool.true_and]
      cases b.getLsbD j <;> cases isMice i <;> cases isMice j <;> cases isEnc i <;> cases isEnc j <;> rfl

theorem big_lt (b : B64) : (∀ j, 24 ≤ j → j < 64 → b.getLsbD j = false) → b.toNat < 16777216 := by
  intro h
  have : b.toNat < 2 ^ 24 := by
    apply Nat.lt_pow_two_of_testBit
    intro j hj
    by_cases h2 : j < 64
    · exact h j hj h2
    · exact BitVec.getLsbD_of_ge b j (by omega)
  omega
theorem lt_big (b : Int) (h0 : 0 ≤ b) (h1 : b < 16777216) (j : Nat) (hj : 24 ≤ j) : (BitVec.ofInt 64 b).getLsbD j = false := by
  obtain ⟨n, rfl⟩ := Int.eq_ofNat_of_zero_le h0
  rw [BitVec.ofInt_natCast, BitVec.getLsbD_ofNat]
  have : n.testBit j = false := Nat.testBit_lt_two_pow (Nat.lt_of_lt_of_le (show n < 2 ^ 24 by omega) (Nat.pow_le_pow_right (by omega) hj))
  simp [this]

/-! ### places -/
theorem plcGo_spec (xs : List (Bool × Int)) (p : Bool) (n : Int) : ∀ i : Nat, plcGo i xs p n = -1 ∨ ∃ j, ∃ h : j < xs.length, plcGo i xs p n = ((i + j : Nat) : Int) ∧ xs[j] = (p, n) := by
  induction xs with
  | nil => intro i; exact .inl rfl
  | cons x xs ih =>
    intro i
    unfold plcGo
    split
    · rename_i h; exact .inr ⟨0, by simp, by simp, Prod.ext h.1 h.2⟩
    · rcases ih (i + 1) with h | ⟨j, hj, h1, h2⟩
      · exact .inl h
      · exact .inr ⟨j + 1, by simp; omega, by rw [h1]; congr 1; omega, by simpa using h2⟩
theorem plcF_spec (p : Bool) (n : Int) : plcF p n = -1 ∨ ∃ j : Fin 24, plcF p n = (j.1 : Int) ∧ tblM[j.1]'j.2 = (p, n) := by
  rcases plcGo_spec tblM p n 0 with h | ⟨j, hj, h1, h2⟩
  · exact .inl h
  · refine .inr ⟨⟨j, hj⟩, ?_, h2⟩
    unfold plcF; rw [h1]; simp
theorem plc_tbl : ∀ j : Fin 24, plcF (tblM[j.1]'j.2).1 (tblM[j.1]'j.2).2 = (j.1 : Int) := by decide
def isMouseN (n : Int) : Bool := n == 9 || n == 1000 || n == 1002 || n == 1003
def isCodeN (n : Int) : Bool := n == 1006 || n == 1015
theorem tbl_mice : ∀ j : Fin 24, isMice j.1 = ((tblM[j.1]'j.2).1 && isMouseN (tblM[j.1]'j.2).2) := by decide
theorem tbl_enc : ∀ j : Fin 24, isEnc j.1 = ((tblM[j.1]'j.2).1 && isCodeN (tblM[j.1]'j.2).2) := by decide

def hasF (b : Int) (p : Bool) (n : Int) : Bool := saneM b && (decide (0 ≤ plcF p n) && (BitVec.ofInt 64 b).getLsbD (plcF p n).toNat)
def setF (b : Int) (p : Bool) (n : Int) (on : Bool) : Int :=
  if saneM b = false then 322 else if plcF p n < 0 then b else ((swB (BitVec.ofInt 64 b) (plcF p n).toNat on).toNat : Int)
def repF (b : Int) (p : Bool) (n : Int) : Int := if saneM b = false ∨ plcF p n < 0 then 0 else if hasF b p n then 1 else 2
def mouseB (a b c d : Bool) : Int := if a then 9 else if b then 1000 else if c then 1002 else if d then 1003 else 0
def codeB (e f : Bool) : Int := if e then 1006 else if f then 1015 else 0
def mouF (b : Int) : Int := if saneM b = false then 0 else mouseB ((BitVec.ofInt 64 b).getLsbD 7) ((BitVec.ofInt 64 b).getLsbD 12) ((BitVec.ofInt 64 b).getLsbD 13) ((BitVec.ofInt 64 b).getLsbD 14)
def codF (b : Int) : Int := if saneM b = false then 0 else codeB ((BitVec.ofInt 64 b).getLsbD 16) ((BitVec.ofInt 64 b).getLsbD 17)

theorem saneM_iff (b : Int) : saneM b = true ↔ (0 ≤ b ∧ b < 16777216) ∧ amo4 ((BitVec.ofInt 64 b).getLsbD 7) ((BitVec.ofInt 64 b).getLsbD 12) ((BitVec.ofInt 64 b).getLsbD 13) ((BitVec.ofInt 64 b).getLsbD 14) = true ∧ ((BitVec.ofInt 64 b).getLsbD 16 && (BitVec.ofInt 64 b).getLsbD 17) = false := by
  unfold saneM
  rw [sng_mice, sng_enc]
  cases (BitVec.ofInt 64 b).getLsbD 16 <;> cases (BitVec.ofInt 64 b).getLsbD 17 <;> simp

def newBit (i j : Nat) (on old : Bool) : Bool := if j = i then on else (old && !(on && ((isMice i && isMice j) || (isEnc i && isEnc j))))
theorem play_bits : ∀ (i : Fin 24) (on a b c d e f : Bool), amo4 a b c d = true → (e && f) = false →
    amo4 (newBit i.1 7 on a) (newBit i.1 12 on b) (newBit i.1 13 on c) (newBit i.1 14 on d) = true ∧ (newBit i.1 16 on e && newBit i.1 17 on f) = false ∧
    mouseB (newBit i.1 7 on a) (newBit i.1 12 on b) (newBit i.1 13 on c) (newBit i.1 14 on d) =
      (if isMice i.1 then (if on then (tblM[i.1]'i.2).2 else if mouseB a b c d = (tblM[i.1]'i.2).2 then 0 else mouseB a b c d) else mouseB a b c d) ∧
    codeB (newBit i.1 16 on e) (newBit i.1 17 on f) =
      (if isEnc i.1 then (if on then (tblM[i.1]'i.2).2 else if codeB e f = (tblM[i.1]'i.2).2 then 0 else codeB e f) else codeB e f) := by
  decide +kernel

theorem sw_ofInt (b : B64) : BitVec.ofInt 64 (b.toNat : Int) = b := by
  rw [BitVec.ofInt_natCast, BitVec.ofNat_toNat, BitVec.setWidth_eq]
theorem sw_lt {b : Int} (h0 : 0 ≤ b) (h1 : b < 16777216) (i : Nat) (on : Bool) (hi : i < 24) : (swB (BitVec.ofInt 64 b) i on).toNat < 16777216 := by
  apply big_lt
  intro j hj hj2
  rw [bit_sw _ _ _ _ hi hj2, if_neg (by omega), lt_big b h0 h1 j hj]
  rfl
/-- the digits behind a switch of a mode that is one -/
theorem set_bits {b : Int} {p : Bool} {n : Int} (on : Bool) (hs : saneM b = true) (i : Fin 24) (hp : plcF p n = (i.1 : Int)) :
    (∀ j, j < 64 → (BitVec.ofInt 64 (setF b p n on)).getLsbD j = newBit i.1 j on ((BitVec.ofInt 64 b).getLsbD j)) ∧ 0 ≤ setF b p n on ∧ setF b p n on < 16777216 := by
  have h3 := (saneM_iff b).1 hs
  have hlt := sw_lt h3.1.1 h3.1.2 i.1 on i.2
  have e : setF b p n on = ((swB (BitVec.ofInt 64 b) i.1 on).toNat : Int) := by
    unfold setF
    rw [if_neg (by simp [hs]), hp, if_neg (by omega)]
    simp
  rw [e]
  refine ⟨fun j hj => ?_, by omega, by omega⟩
  rw [sw_ofInt, bit_sw _ _ _ _ i.2 hj]
  rfl
theorem set_sane {b : Int} {p : Bool} {n : Int} (on : Bool) (hs : saneM b = true) : saneM (setF b p n on) = true := by
  rcases plcF_spec p n with h | ⟨i, hi, _⟩
  · unfold setF; rw [if_neg (by simp [hs]), h, if_pos (by omega)]; exact hs
  · have h3 := (saneM_iff b).1 hs
    obtain ⟨hb, h0, h1⟩ := set_bits on hs i hi
    rw [saneM_iff]
    rw [hb 7 (by omega), hb 12 (by omega), hb 13 (by omega), hb 14 (by omega), hb 16 (by omega), hb 17 (by omega)]
    have := play_bits i on _ _ _ _ _ _ h3.2.1 h3.2.2
    exact ⟨⟨h0, h1⟩, this.1, this.2.1⟩

/-! ### what is switched touches no other mode -/
theorem apart_same {b : Int} {p : Bool} {n : Int} (on : Bool) (hs : saneM b = true) (h : plcF p n < 0) : setF b p n on = b := by
  unfold setF; rw [if_neg (by simp [hs]), if_pos h]
theorem apart_has {b : Int} {p : Bool} {n : Int} (on : Bool) (hs : saneM b = true) (h : 0 ≤ plcF p n) : hasF (setF b p n on) p n = on := by
  rcases plcF_spec p n with h' | ⟨i, hi, _⟩
  · omega
  · obtain ⟨hb, _, _⟩ := set_bits on hs i hi
    have hi2 := i.2
    unfold hasF
    rw [set_sane on hs, hi, Int.toNat_natCast, hb i.1 (by omega)]
    simp [newBit]
theorem apart_again {b : Int} {p : Bool} {n : Int} (on : Bool) (hs : saneM b = true) (h : 0 ≤ plcF p n) : setF (setF b p n on) p n on = setF b p n on := by
  rcases plcF_spec p n with h' | ⟨i, hi, _⟩
  · omega
  · obtain ⟨hb, h0, h1⟩ := set_bits on hs i hi
    obtain ⟨hc, g0, g1⟩ := set_bits on (set_sane (p := p) (n := n) on hs) i hi
    have e : BitVec.ofInt 64 (setF (setF b p n on) p n on) = BitVec.ofInt 64 (setF b p n on) := by
      apply BitVec.eq_of_getLsbD_eq
      intro j hj
      rw [hc j hj, hb j hj]
      unfold newBit
      by_cases hji : j = i.1
      · simp [hji]
      · simp only [hji, if_false]
        cases (BitVec.ofInt 64 b).getLsbD j <;> cases on <;> cases isMice i.1 <;> cases isMice j <;> cases isEnc i.1 <;> cases isEnc j <;> rfl
    have q := congrArg BitVec.toNat e
    obtain ⟨x, hx⟩ := Int.eq_ofNat_of_zero_le h0
    obtain ⟨y, hy⟩ := Int.eq_ofNat_of_zero_le g0
    rw [hy] at q g1
    rw [hx] at q h1
    rw [hy, hx]
    rw [BitVec.ofInt_natCast, BitVec.ofInt_natCast, BitVec.toNat_ofNat, BitVec.toNat_ofNat, Nat.mod_eq_of_lt (by omega), Nat.mod_eq_of_lt (by omega)] at q
    rw [q]
theorem apart_other {b : Int} {p : Bool} {n : Int} (on : Bool) {p' : Bool} {k : Int} (hs : saneM b = true) (h : 0 ≤ plcF p n) (hne : p' ≠ p ∨ k ≠ n)
    (hg : (p && (p' && (on && ((isMouseN n && isMouseN k) || (isCodeN n && isCodeN k))))) = false) : hasF (setF b p n on) p' k = hasF b p' k := by
  rcases plcF_spec p n with h' | ⟨i, hi, ti⟩
  · omega
  rcases plcF_spec p' k with h' | ⟨j, hj, tj⟩
  · unfold hasF; rw [set_sane on hs, hs, h']; rfl
  · obtain ⟨hb, _, _⟩ := set_bits on hs i hi
    have hj2 := j.2
    unfold hasF
    rw [set_sane on hs, hs, hj, Int.toNat_natCast, hb j.1 (by omega)]
    have hij : j.1 ≠ i.1 := by
      intro e
      have : j = i := Fin.ext e
      subst this
      rw [ti] at tj
      injection tj with t1 t2
      subst t1; subst t2
      rcases hne with h | h <;> exact h rfl
    have m1 := tbl_mice i
    have m2 := tbl_mice j
    have m3 := tbl_enc i
    have m4 := tbl_enc j
    rw [ti] at m1 m3
    rw [tj] at m2 m4
    simp only at m1 m2 m3 m4
    unfold newBit
    rw [if_neg hij, m1, m2, m3, m4]
    congr 2
    revert hg
    cases (BitVec.ofInt 64 b).getLsbD j.1 <;> cases p <;> cases p' <;> cases on <;> cases isMouseN n <;> cases isMouseN k <;> cases isCodeN n <;> cases isCodeN k <;> simp

/-! ### what is no mode -/
theorem plc_inj {p p' : Bool} {n k : Int} (h : 0 ≤ plcF p n) (he : plcF p n = plcF p' k) : n = k ∧ p = p' := by
  rcases plcF_spec p n with h' | ⟨i, hi, ti⟩
  · omega
  rcases plcF_spec p' k with h' | ⟨j, hj, tj⟩
  · omega
  have : i = j := Fin.ext (by omega)
  subst this
  rw [ti] at tj
  injection tj with t1 t2
  exact ⟨t2, t1⟩
theorem plc_bd (p : Bool) (n : Int) : -1 ≤ plcF p n ∧ plcF p n < 24 := by
  rcases plcF_spec p n with h' | ⟨i, hi, ti⟩
  · omega
  · have := i.2; omega

/-! ### a play -/
theorem play_step {b : Int} (p : Bool) (n : Int) (on : Bool) (hs : saneM b = true) :
    mouF (setF b p n on) = (if p && isMouseN n then (if on then n else if mouF b = n then 0 else mouF b) else mouF b) ∧
    codF (setF b p n on) = (if p && isCodeN n then (if on then n else if codF b = n then 0 else codF b) else codF b) := by
  rcases plcF_spec p n with h' | ⟨i, hi, ti⟩
  · rw [apart_same on hs (by omega)]
    have hm : (p && isMouseN n) = false := by
      cases p
      · rfl
      · simp only [Bool.true_and, isMouseN, Bool.or_eq_false_iff, beq_eq_false_iff_ne]
        refine ⟨⟨⟨?_, ?_⟩, ?_⟩, ?_⟩ <;> (rintro rfl; revert h'; decide)
    have hc : (p && isCodeN n) = false := by
      cases p
      · rfl
      · simp only [Bool.true_and, isCodeN, Bool.or_eq_false_iff, beq_eq_false_iff_ne]
        refine ⟨?_, ?_⟩ <;> (rintro rfl; revert h'; decide)
    simp [hm, hc]
  · have h3 := (saneM_iff b).1 hs
    obtain ⟨hb, h0, h1⟩ := set_bits on hs i hi
    have hpb := play_bits i on _ _ _ _ _ _ h3.2.1 h3.2.2
    have m1 := tbl_mice i
    have m3 := tbl_enc i
    rw [ti] at m1 m3 hpb
    simp only at m1 m3 hpb
    rw [m1, m3] at hpb
    unfold mouF codF
    rw [set_sane on hs, hs]
    simp only [Bool.true_eq_false, if_false]
    rw [hb 7 (by omega), hb 12 (by omega), hb 13 (by omega), hb 14 (by omega), hb 16 (by omega), hb 17 (by omega)]
    exact ⟨hpb.2.2.1, hpb.2.2.2⟩
theorem new_sane : saneM 322 = true := by decide
end Go.Proofs.YtcempbgbdlmjfaaDoor
