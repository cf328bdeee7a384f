/-
  Ranges, the plain part of packing: numbers in sevens of digits, rows as numbers, and back. No program in sight.
-/
import Derived.Test.YtcempbgbdlmjfaaRgPlain
namespace Go.Proofs.Ytcempbgbdlmjfaa

/-- a number in sevens of digits, the lowest first -/
def numG : Nat → Int → List Int
  | 0, n => [n]
  | f+1, n => if n < 128 then [n] else (n % 128 + 128) :: numG f (n / 128)
def numF (n : Int) : List Int := numG 9 n
def packG : Int → List R → List Int
  | _, [] => []
  | a, x :: xs => numF (x.lo - a) ++ (numF (x.hi - x.lo) ++ (numF x.v ++ packG x.hi xs))
/-- the number at the beginning of bytes, how many bytes it has, and the error -/
def nbrG : Nat → Nat → Int → List Int → Int × Nat × Int
  | 0, _, _, _ => (0, 0, 2)
  | _+1, _, _, [] => (0, 0, 5)
  | t+1, k, n, x :: xs =>
    if 128 ≤ x then nbrG t (k+1) (n + x % 128 * 128 ^ k) xs
    else if x = 0 ∧ 0 < k then (0, 0, 2) else (n + x % 128 * 128 ^ k, k + 1, 0)
def nbrF (b : List Int) : Int × Nat × Int := nbrG 4 0 0 b
def unG : Nat → Int → List Int → List R × Int
  | 0, _, _ => ([], 0)
  | f+1, a, b =>
    if b = [] then ([], 0)
    else if (nbrF b).2.2 ≠ 0 then ([], (nbrF b).2.2)
    else if (nbrF (b.drop (nbrF b).2.1)).2.2 ≠ 0 then ([], (nbrF (b.drop (nbrF b).2.1)).2.2)
    else if (nbrF ((b.drop (nbrF b).2.1).drop (nbrF (b.drop (nbrF b).2.1)).2.1)).2.2 ≠ 0 then ([], (nbrF ((b.drop (nbrF b).2.1).drop (nbrF (b.drop (nbrF b).2.1)).2.1)).2.2)
    else
      let x : R := ⟨a + (nbrF b).1, a + (nbrF b).1 + (nbrF (b.drop (nbrF b).2.1)).1, (nbrF ((b.drop (nbrF b).2.1).drop (nbrF (b.drop (nbrF b).2.1)).2.1)).1⟩
      let r := unG f x.hi (((b.drop (nbrF b).2.1).drop (nbrF (b.drop (nbrF b).2.1)).2.1).drop (nbrF ((b.drop (nbrF b).2.1).drop (nbrF (b.drop (nbrF b).2.1)).2.1)).2.1)
      if r.2 ≠ 0 then ([], r.2) else (x :: r.1, 0)
def unpackF (b : List Int) : List R × Int :=
  if (unG b.length 0 b).2 ≠ 0 then ([], (unG b.length 0 b).2) else if saneF (unG b.length 0 b).1 then ((unG b.length 0 b).1, 0) else ([], 2)
def packF (l : List R) : List Int × Int := if saneF l then (packG 0 l, 0) else ([], 1)

theorem numG_fuel (n : Int) : ∀ (f g : Nat), 0 ≤ n → n < 128 ^ (f + 1) → n < 128 ^ (g + 1) → numG f n = numG g n := by
  intro f
  induction f generalizing n with
  | zero =>
    intro g h0 h1 _
    have h1' : n < 128 := by simpa using h1
    cases g with
    | zero => rfl
    | succ g => simp [numG, h1']
  | succ f ih =>
    intro g h0 h1 h2
    cases g with
    | zero => have h1' : n < 128 := by simpa using h2
              simp [numG, h1']
    | succ g =>
      unfold numG
      split
      · rfl
      · rw [ih (n / 128) g (by omega) (by rw [Int.pow_succ] at h1; omega) (by rw [Int.pow_succ] at h2; omega)]

theorem numG_pos (f : Nat) (n : Int) : 0 < (numG f n).length := by
  cases f <;> simp [numG]; split <;> simp

theorem numG_len (f : Nat) : ∀ n : Int, (numG f n).length ≤ f + 1 := by
  induction f with
  | zero => intro n; simp [numG]
  | succ f ih =>
    intro n
    unfold numG
    split
    · simp
    · have := ih (n / 128); simp; omega

/-- what is laid is read: the number, its length; whatever stands behind -/
theorem nbr_num (f : Nat) : ∀ (t k : Nat) (n acc : Int) (rest : List Int), 0 ≤ n → n < 128 ^ (f + 1) → f < t → (n = 0 → k = 0) →
    nbrG t k acc (numG f n ++ rest) = (acc + n * 128 ^ k, k + (numG f n).length, 0) := by
  induction f with
  | zero =>
    intro t k n acc rest h0 h1 ht hk
    obtain ⟨t, rfl⟩ : ∃ u, t = u + 1 := ⟨t - 1, by omega⟩
    have h1' : n < 128 := by simpa using h1
    have e : n % 128 = n := by omega
    simp only [numG, List.cons_append, List.nil_append, nbrG, List.length_cons, List.length_nil]
    rw [if_neg (by omega), if_neg (by omega), e]
  | succ f ih =>
    intro t k n acc rest h0 h1 ht hk
    obtain ⟨t, rfl⟩ : ∃ u, t = u + 1 := ⟨t - 1, by omega⟩
    unfold numG
    by_cases hn : n < 128
    · have e : n % 128 = n := by omega
      simp only [if_pos hn, List.cons_append, List.nil_append, nbrG, List.length_cons, List.length_nil]
      rw [if_neg (by omega), if_neg (by omega), e]
    · simp only [if_neg hn, List.cons_append, nbrG, List.length_cons]
      rw [if_pos (by omega), ih t (k + 1) (n / 128) _ rest (by omega) (by rw [Int.pow_succ] at h1; omega) (by omega) (by omega)]
      have e1 : (n % 128 + 128) % 128 = n % 128 := by omega
      have e2 : n = n % 128 + n / 128 * 128 := by omega
      rw [e1, Int.pow_succ]
      refine Prod.ext ?_ (Prod.ext ?_ rfl)
      · show acc + n % 128 * 128 ^ k + n / 128 * (128 ^ k * 128) = acc + n * 128 ^ k
        generalize (128 : Int) ^ k = K
        generalize n / 128 = q at *
        generalize n % 128 = m at *
        subst e2
        rw [Int.add_mul, Int.mul_comm K 128, ← Int.mul_assoc]
        omega
      · show k + 1 + _ = k + (_ + 1)
        omega

theorem nbrF_num (n : Int) (rest : List Int) (h0 : 0 ≤ n) (h1 : n < 268435456) : nbrF (numF n ++ rest) = (n, (numF n).length, 0) := by
  unfold nbrF numF
  rw [numG_fuel n 9 3 h0 (by omega) (by omega), nbr_num 3 4 0 n 0 rest h0 (by omega) (by omega) (by simp)]
  simp

/-- a number that lacks its last byte is none -/
theorem nbr_short (f : Nat) : ∀ (t k : Nat) (n acc : Int), 0 ≤ n → n < 128 ^ (f + 1) → f < t →
    (nbrG t k acc (numG f n).dropLast).2.2 = 5 := by
  induction f with
  | zero =>
    intro t k n acc h0 h1 ht
    obtain ⟨t, rfl⟩ : ∃ u, t = u + 1 := ⟨t - 1, by omega⟩
    simp [numG, nbrG]
  | succ f ih =>
    intro t k n acc h0 h1 ht
    obtain ⟨t, rfl⟩ : ∃ u, t = u + 1 := ⟨t - 1, by omega⟩
    unfold numG
    by_cases hn : n < 128
    · simp [if_pos hn, nbrG]
    · have hp := numG_pos f (n / 128)
      have hne : numG f (n / 128) ≠ [] := by intro e; rw [e] at hp; simp at hp
      rw [if_neg hn, List.dropLast_cons_of_ne_nil hne]
      simp only [nbrG]
      rw [if_pos (by omega)]
      exact ih t (k + 1) (n / 128) _ (by omega) (by rw [Int.pow_succ] at h1; omega) (by omega)
theorem nbrF_short (n : Int) (h0 : 0 ≤ n) (h1 : n < 268435456) : (nbrF (numF n).dropLast).2.2 = 5 := by
  unfold nbrF numF
  rw [numG_fuel n 9 3 h0 (by omega) (by omega)]
  exact nbr_short 3 4 0 n 0 h0 (by omega) (by omega)

/-- what is read was laid so -/
theorem nbr_back (t : Nat) : ∀ (k : Nat) (acc : Int) (b : List Int), (∀ y ∈ b, 0 ≤ y ∧ y < 256) → (nbrG t k acc b).2.2 = 0 →
    ∃ n : Int, 0 ≤ n ∧ n < 128 ^ t ∧ (nbrG t k acc b).1 = acc + n * 128 ^ k ∧ (nbrG t k acc b).2.1 = k + (numG t n).length ∧ b = numG t n ++ b.drop (numG t n).length ∧ (0 < k → 0 < n) := by
  induction t with
  | zero => intro k acc b hb h; simp [nbrG] at h
  | succ t ih =>
    intro k acc b hb h
    cases b with
    | nil => simp [nbrG] at h
    | cons x xs =>
      have hx := hb x (by simp)
      simp only [nbrG] at h ⊢
      have hpow : (0 : Int) < 128 ^ t := Int.pow_pos (by omega)
      by_cases h1 : 128 ≤ x
      · rw [if_pos h1] at h ⊢
        obtain ⟨n, n0, n1, n2, n3, n4, n5⟩ := ih (k + 1) _ xs (fun y hy => hb y (by simp [hy])) h
        have n6 := n5 (by omega)
        have hge : ¬ (x % 128 + n * 128 < 128) := by omega
        have hm : (x % 128 + n * 128) % 128 = x % 128 := by omega
        have hd : (x % 128 + n * 128) / 128 = n := by omega
        have hN : numG (t + 1) (x % 128 + n * 128) = x :: numG t n := by
          rw [numG, if_neg hge, hm, hd]; congr 1; omega
        refine ⟨x % 128 + n * 128, by omega, by rw [Int.pow_succ]; omega, ?_, ?_, ?_, by omega⟩
        · rw [n2, Int.pow_succ, Int.add_mul, Int.mul_assoc, Int.mul_comm 128 (128 ^ k)]; omega
        · rw [n3, hN]; simp only [List.length_cons]; omega
        · rw [hN]; simp only [List.length_cons, List.drop_succ_cons, List.cons_append]; rw [← n4]
      · rw [if_neg h1] at h ⊢
        by_cases h2 : x = 0 ∧ 0 < k
        · rw [if_pos h2] at h; simp at h
        · rw [if_neg h2] at h ⊢
          have e : x % 128 = x := by omega
          have hN : numG (t + 1) x = [x] := by rw [numG, if_pos (by omega)]
          refine ⟨x, hx.1, by rw [Int.pow_succ]; omega, by rw [e], by rw [hN]; rfl, by rw [hN]; rfl, by omega⟩
theorem nbrF_back (b : List Int) (hb : ∀ y ∈ b, 0 ≤ y ∧ y < 256) (h : (nbrF b).2.2 = 0) :
    0 ≤ (nbrF b).1 ∧ (nbrF b).1 < 268435456 ∧ b = numF (nbrF b).1 ++ b.drop (nbrF b).2.1 ∧ 0 < (nbrF b).2.1 ∧ (nbrF b).2.1 ≤ b.length ∧ (nbrF b).2.1 ≤ 4 := by
  obtain ⟨n, n0, n1, n2, n3, n4, _⟩ := nbr_back 4 0 0 b hb h
  have n1' : n < 268435456 := by simpa using n1
  have e1 : (nbrF b).1 = n := by unfold nbrF; rw [n2]; simp
  have e2 : (nbrF b).2.1 = (numG 4 n).length := by unfold nbrF; rw [n3]; simp
  have e3 : numF n = numG 4 n := numG_fuel n 9 4 n0 (by omega) (by omega)
  rw [e1, e2, e3]
  have hp := numG_pos 4 n
  have hl := congrArg List.length n4
  rw [List.length_append, List.length_drop] at hl
  have e4 : numG 4 n = numG 3 n := numG_fuel n 4 3 n0 (by omega) (by omega)
  have l4 := numG_len 3 n
  exact ⟨n0, n1', n4, hp, by omega, by rw [e4]; omega⟩

theorem unG_nil (f : Nat) (a : Int) : unG f a [] = ([], 0) := by cases f <;> simp [unG]

theorem unG_step (f : Nat) (a n0 n1 n2 : Int) (rest : List Int) (h0 : 0 ≤ n0 ∧ n0 < 268435456) (h1 : 0 ≤ n1 ∧ n1 < 268435456) (h2 : 0 ≤ n2 ∧ n2 < 268435456) :
    unG (f + 1) a (numF n0 ++ (numF n1 ++ (numF n2 ++ rest))) =
      if (unG f (a + n0 + n1) rest).2 ≠ 0 then ([], (unG f (a + n0 + n1) rest).2) else (⟨a + n0, a + n0 + n1, n2⟩ :: (unG f (a + n0 + n1) rest).1, 0) := by
  have e0 := nbrF_num n0 (numF n1 ++ (numF n2 ++ rest)) h0.1 h0.2
  have e1 := nbrF_num n1 (numF n2 ++ rest) h1.1 h1.2
  have e2 := nbrF_num n2 rest h2.1 h2.2
  have hne : numF n0 ++ (numF n1 ++ (numF n2 ++ rest)) ≠ [] := by
    have := numG_pos 9 n0
    intro e
    have := congrArg List.length e
    simp only [List.length_append, List.length_nil] at this
    unfold numF at this
    omega
  simp only [unG, if_neg hne, e0, List.drop_left, e1, e2, ne_eq, not_true_eq_false, if_false]

theorem un_pack {m h v : Int} {l : List R} (hs : San m h v l) : ∀ (f : Nat) (a : Int), 0 ≤ a → a ≤ m → (packG a l).length ≤ f → unG f a (packG a l) = (l, 0) := by
  induction hs with
  | nil => intro f a _ _ _; exact unG_nil f a
  | cons m h v x xs hf hm ht hr ih =>
    intro f a h0 ha hl
    obtain ⟨f1, f2, f3, f4, f5⟩ := hf
    have hp := numG_pos 9 (x.lo - a)
    simp only [packG, List.length_append] at hl ⊢
    obtain ⟨f, rfl⟩ : ∃ u, f = u + 1 := ⟨f - 1, by unfold numF at hl; omega⟩
    rw [unG_step f a _ _ _ _ ⟨by omega, by omega⟩ ⟨by omega, by omega⟩ ⟨by omega, by omega⟩]
    have e1 : a + (x.lo - a) = x.lo := by omega
    have e2 : x.lo + (x.hi - x.lo) = x.hi := by omega
    rw [e1, e2, ih f x.hi (by omega) (by omega) (by unfold numF at hl; omega)]
    simp

theorem dropLast_append_ne {α : Type} (a b : List α) (h : b ≠ []) : (a ++ b).dropLast = a ++ b.dropLast := List.dropLast_append_of_ne_nil h
theorem numF_ne (n : Int) (rest : List Int) : numF n ++ rest ≠ [] := by
  intro e
  have := congrArg List.length e
  have hp := numG_pos 9 n
  simp only [List.length_append, List.length_nil] at this
  unfold numF at this
  omega
theorem numF_ne0 (n : Int) : numF n ≠ [] := by have := numF_ne n []; simpa using this

theorem un_short {m h v : Int} {l : List R} (hs : San m h v l) (hne : l ≠ []) : ∀ (f : Nat) (a : Int), 0 ≤ a → a ≤ m → (packG a l).length ≤ f + 1 → (unG f a (packG a l).dropLast).2 ≠ 0 := by
  induction hs with
  | nil => exact absurd rfl hne
  | cons m h v x xs hf hm ht hr ih =>
    intro f a h0 ha hl
    obtain ⟨f1, f2, f3, f4, f5⟩ := hf
    have hp := numG_pos 9 (x.lo - a)
    have hp1 := numG_pos 9 (x.hi - x.lo)
    have hp2 := numG_pos 9 x.v
    simp only [packG, List.length_append] at hl ⊢
    obtain ⟨f, rfl⟩ : ∃ u, f = u + 1 := ⟨f - 1, by unfold numF at hl; omega⟩
    by_cases hx : xs = []
    · subst hx
      simp only [packG, List.append_nil]
      rw [dropLast_append_ne _ _ (numF_ne _ _), dropLast_append_ne _ _ (numF_ne0 _)]
      have e0 := nbrF_num (x.lo - a) (numF (x.hi - x.lo) ++ (numF x.v).dropLast) (by omega) (by omega)
      have e1 := nbrF_num (x.hi - x.lo) (numF x.v).dropLast (by omega) (by omega)
      have e2 := nbrF_short x.v (by omega) (by omega)
      simp only [unG, if_neg (numF_ne _ _), e0, List.drop_left, e1, e2, ne_eq, not_true_eq_false, if_false]
      simp
    · have hpk : packG x.hi xs ≠ [] := by
        cases xs with
        | nil => exact absurd rfl hx
        | cons y ys => exact numF_ne _ _
      rw [dropLast_append_ne _ _ (numF_ne _ _), dropLast_append_ne _ _ (numF_ne _ _), dropLast_append_ne _ _ hpk]
      rw [unG_step f a _ _ _ _ ⟨by omega, by omega⟩ ⟨by omega, by omega⟩ ⟨by omega, by omega⟩]
      have e1 : a + (x.lo - a) = x.lo := by omega
      have e2 : x.lo + (x.hi - x.lo) = x.hi := by omega
      have hi := ih hx f x.hi (by omega) (by omega) (by unfold numF at hl; omega)
      rw [e1, e2, if_pos hi]
      exact hi

theorem un_back (f : Nat) : ∀ (a : Int) (b : List Int), (∀ y ∈ b, 0 ≤ y ∧ y < 256) → b.length ≤ f → (unG f a b).2 = 0 → packG a (unG f a b).1 = b := by
  induction f with
  | zero => intro a b hb hl h; have : b = [] := List.eq_nil_of_length_eq_zero (by omega); subst this; rfl
  | succ f ih =>
    intro a b hb hl h
    by_cases hn : b = []
    · subst hn; rw [unG_nil]; rfl
    by_cases z0 : (nbrF b).2.2 = 0
    · obtain ⟨p0, p1, p2, p3, p4, _⟩ := nbrF_back b hb z0
      have hb1 : ∀ y ∈ b.drop (nbrF b).2.1, 0 ≤ y ∧ y < 256 := fun y hy => hb y (List.mem_of_mem_drop hy)
      by_cases z1 : (nbrF (b.drop (nbrF b).2.1)).2.2 = 0
      · obtain ⟨q0, q1, q2, q3, q4, _⟩ := nbrF_back _ hb1 z1
        have hb2 : ∀ y ∈ (b.drop (nbrF b).2.1).drop (nbrF (b.drop (nbrF b).2.1)).2.1, 0 ≤ y ∧ y < 256 := fun y hy => hb1 y (List.mem_of_mem_drop hy)
        by_cases z2 : (nbrF ((b.drop (nbrF b).2.1).drop (nbrF (b.drop (nbrF b).2.1)).2.1)).2.2 = 0
        · obtain ⟨r0, r1, r2, r3, r4, _⟩ := nbrF_back _ hb2 z2
          have hb3 : ∀ y ∈ ((b.drop (nbrF b).2.1).drop (nbrF (b.drop (nbrF b).2.1)).2.1).drop (nbrF ((b.drop (nbrF b).2.1).drop (nbrF (b.drop (nbrF b).2.1)).2.1)).2.1, 0 ≤ y ∧ y < 256 := fun y hy => hb2 y (List.mem_of_mem_drop hy)
          generalize hN0 : nbrF b = N0 at *
          generalize hB1 : b.drop N0.2.1 = b1 at *
          generalize hN1 : nbrF b1 = N1 at *
          generalize hB2 : b1.drop N1.2.1 = b2 at *
          generalize hN2 : nbrF b2 = N2 at *
          generalize hB3 : b2.drop N2.2.1 = b3 at *
          have l1 : b1.length = b.length - N0.2.1 := by rw [← hB1]; simp
          have l2 : b2.length = b1.length - N1.2.1 := by rw [← hB2]; simp
          have l3 : b3.length = b2.length - N2.2.1 := by rw [← hB3]; simp
          have hu : unG (f + 1) a b = if (unG f (a + N0.1 + N1.1) b3).2 ≠ 0 then ([], (unG f (a + N0.1 + N1.1) b3).2) else (⟨a + N0.1, a + N0.1 + N1.1, N2.1⟩ :: (unG f (a + N0.1 + N1.1) b3).1, 0) := by
            simp only [unG, if_neg hn, hN0, hB1, hN1, hB2, hN2, hB3, z0, z1, z2, ne_eq, not_true_eq_false, if_false]
          rw [hu] at h ⊢
          by_cases z3 : (unG f (a + N0.1 + N1.1) b3).2 = 0
          · rw [if_neg (fun e => e z3)]
            simp only [packG]
            rw [ih _ b3 hb3 (by omega) z3, ← r2, show a + N0.1 + N1.1 - (a + N0.1) = N1.1 from by omega, ← q2, show a + N0.1 - a = N0.1 from by omega, ← p2]
          · rw [if_pos z3] at h; exact absurd h z3
        · simp only [unG, if_neg hn, z0, z1, z2, ne_eq, not_true_eq_false, not_false_eq_true, if_true, if_false] at h
          all_goals exact absurd h z2
      · simp only [unG, if_neg hn, z0, z1, ne_eq, not_true_eq_false, not_false_eq_true, if_true, if_false] at h
        all_goals exact absurd h z1
    · simp only [unG, if_neg hn, z0, ne_eq, not_false_eq_true, if_true] at h
      all_goals exact absurd h z0

theorem unpack_pack {l : List R} (hs : saneF l = true) : unpackF (packG 0 l) = (l, 0) := by
  have := un_pack ((saneF_iff l).1 hs).2 (packG 0 l).length 0 (by omega) (by omega) (Nat.le_refl _)
  simp [unpackF, this, hs]
theorem unpack_short {l : List R} (hs : saneF l = true) (hne : l ≠ []) : (unpackF (packG 0 l).dropLast).2 ≠ 0 := by
  have := un_short ((saneF_iff l).1 hs).2 hne (packG 0 l).dropLast.length 0 (by omega) (by omega) (by simp; omega)
  unfold unpackF
  rw [if_pos this]
  exact this
theorem pack_unpack {b : List Int} (hb : ∀ y ∈ b, 0 ≤ y ∧ y < 256) (h : (unpackF b).2 = 0) : saneF (unpackF b).1 = true ∧ packG 0 (unpackF b).1 = b := by
  unfold unpackF at h ⊢
  by_cases z : (unG b.length 0 b).2 = 0
  · rw [if_neg (fun e => e z)] at h ⊢
    by_cases y : saneF (unG b.length 0 b).1 = true
    · rw [if_pos y]
      exact ⟨y, un_back _ _ b hb (Nat.le_refl _) z⟩
    · rw [if_neg y] at h; simp at h
  · rw [if_pos z] at h; exact absurd h z
theorem unpack_bad {b : List Int} (h : (unpackF b).2 ≠ 0) : (unpackF b).1 = [] := by
  unfold unpackF at h ⊢
  by_cases z : (unG b.length 0 b).2 = 0
  · rw [if_neg (fun e => e z)] at h ⊢
    by_cases y : saneF (unG b.length 0 b).1 = true
    · rw [if_pos y] at h; simp at h
    · rw [if_neg y]
  · rw [if_pos z]
end Go.Proofs.Ytcempbgbdlmjfaa
