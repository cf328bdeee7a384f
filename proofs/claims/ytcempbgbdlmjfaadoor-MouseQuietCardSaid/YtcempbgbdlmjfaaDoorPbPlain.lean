/-
  Layer 5 (params), plain: what Print computes, and that what is printed is parsed. No program in sight.
-/
import Derived.Test.YtcempbgbdlmjfaaDoorPaPlain
import Derived.Lib.ItoaNum
namespace Go.Proofs.YtcempbgbdlmjfaaDoor

def bL (l : List UInt8) : List Int := l.map fun c => (c.toNat : Int)
theorem bL_append (a b : List UInt8) : bL (a ++ b) = bL a ++ bL b := List.map_append
def numS (n : Int) : List UInt8 := if n = -1 then [] else Lib.itoa n
def subsS (xs : List Int) : List UInt8 := xs.flatMap fun y => 58 :: numS y
def rowS : List Int → List UInt8
  | [] => []
  | x :: xs => numS x ++ subsS xs
def rowsS (qs : List (List Int)) : List UInt8 := qs.flatMap fun q => 59 :: rowS q
def printS : List (List Int) → List UInt8
  | [] => []
  | q :: qs => rowS q ++ rowsS qs
theorem subs_snoc (xs : List Int) (x : Int) : subsS (xs ++ [x]) = subsS xs ++ 58 :: numS x := by simp [subsS]
theorem rows_snoc (qs : List (List Int)) (q : List Int) : rowsS (qs ++ [q]) = rowsS qs ++ 59 :: rowS q := by simp [rowsS]
theorem row_step (q : List Int) (k : Nat) (h : k < q.length) : rowS (q.take (k + 1)) = rowS (q.take k) ++ (if k = 0 then numS q[k] else 58 :: numS q[k]) := by
  rw [List.take_succ_eq_append_getElem h]
  cases k with
  | zero => simp [rowS, subsS]
  | succ k =>
    cases q with
    | nil => simp at h
    | cons x xs =>
      have h' : k < xs.length := by simpa using h
      show rowS (x :: (xs.take k ++ [xs[k]])) = rowS (x :: xs.take k) ++ _
      rw [if_neg (by omega)]
      simp only [rowS, subs_snoc, List.append_assoc]
      rfl
theorem print_step (L : List (List Int)) (k : Nat) (h : k < L.length) : printS (L.take (k + 1)) = printS (L.take k) ++ (if k = 0 then rowS L[k] else 59 :: rowS L[k]) := by
  rw [List.take_succ_eq_append_getElem h]
  cases k with
  | zero => simp [printS, rowsS]
  | succ k =>
    cases L with
    | nil => simp at h
    | cons x xs =>
      have h' : k < xs.length := by simpa using h
      show printS (x :: (xs.take k ++ [xs[k]])) = printS (x :: xs.take k) ++ _
      rw [if_neg (by omega)]
      simp only [printS, rows_snoc, List.append_assoc]
      rfl

theorem parse_app (a b : List Int) : ∀ p : P5, parseGo p (a ++ b) = match parseGo p a with | none => none | some q => parseGo q b := by
  induction a with
  | nil => intro p; simp [parseGo]
  | cons c cs ih =>
    intro p
    simp only [List.cons_append, parseGo]
    cases stepP p c with
    | none => rfl
    | some r => exact ih r
theorem last_eq (M : List (List Int)) (r : List Int) (o : Bool) : lastL ⟨M ++ [r], o⟩ = r := by simp [lastL]
theorem begun_eq (M : List (List Int)) (r : List Int) (o : Bool) : begunP ⟨M ++ [r], o⟩ = ⟨M ++ [r], o⟩ := by unfold begunP; rw [if_neg (by simp)]
theorem digit_last (M : List (List Int)) (q : List Int) (x c : Int) (hs : saneP ⟨M ++ [q ++ [x]], true⟩ = true) (h0 : 48 ≤ c) (h1 : c ≤ 57) :
    digitP ⟨M ++ [q ++ [x]], true⟩ c = ⟨M ++ [q ++ [digitN x c]], true⟩ := by
  unfold digitP
  rw [if_neg (by rw [hs]; simp), if_neg (by omega), begun_eq, if_neg (by simp), last_eq]
  simp [setLast]
theorem step_digit (M : List (List Int)) (q : List Int) (x c : Int) (hs : saneP ⟨M ++ [q ++ [x]], true⟩ = true) (h0 : 48 ≤ c) (h1 : c ≤ 57) :
    stepP ⟨M ++ [q ++ [x]], true⟩ c = some ⟨M ++ [q ++ [digitN x c]], true⟩ := by
  unfold stepP
  rw [if_pos ⟨h0, h1⟩, digit_last M q x c hs h0 h1]
theorem step_next (M : List (List Int)) (r : List Int) (hs : saneP ⟨M ++ [r], true⟩ = true) (hl : (M ++ [r]).length < 16) : stepP ⟨M ++ [r], true⟩ 59 = some ⟨M ++ [r] ++ [[-1]], true⟩ := by
  unfold stepP
  rw [if_neg (by omega), if_pos rfl]
  unfold nextP
  rw [if_neg (by rw [hs]; simp), begun_eq, if_neg (by simp only; omega)]
theorem step_sub (M : List (List Int)) (r : List Int) (hs : saneP ⟨M ++ [r], true⟩ = true) (hl : r.length < 6) : stepP ⟨M ++ [r], true⟩ 58 = some ⟨M ++ [r ++ [-1]], true⟩ := by
  unfold stepP
  rw [if_neg (by omega), if_neg (by omega), if_pos rfl]
  unfold subP
  rw [if_neg (by rw [hs]; simp), begun_eq, last_eq, if_neg (by simp; omega)]
  simp [setLast]
theorem byte_of (d : Nat) (h : d < 10) : ((UInt8.ofNat (48 + d)).toNat : Int) = 48 + d := by
  have h2 : 48 + d < 256 := by omega
  rw [UInt8.toNat_ofNat_of_lt' h2]; omega
/-- the digits of a number are read as it -/
theorem dig_parse (M : List (List Int)) (q : List Int) : ∀ (n : Nat) (x : Int), n ≤ 65535 → x ≤ 0 → saneP ⟨M ++ [q ++ [x]], true⟩ = true →
    parseGo ⟨M ++ [q ++ [x]], true⟩ (bL (Lib.decDigits n)) = some ⟨M ++ [q ++ [(n : Int)]], true⟩ := by
  intro n
  induction n using Nat.strongRecOn with
  | ind n ih =>
    intro x hn hx hs
    rw [Lib.decDigits]
    by_cases h : n < 10
    · rw [dif_pos h]
      have e := step_digit M q x ((UInt8.ofNat (48 + n)).toNat : Int) hs (by rw [byte_of n h]; omega) (by rw [byte_of n h]; omega)
      show parseGo _ [((UInt8.ofNat (48 + n)).toNat : Int)] = _
      rw [parseGo, e]
      simp only [parseGo]
      rw [byte_of n h]
      have : digitN x (48 + (n : Int)) = n := by unfold digitN; omega
      rw [this]
    · rw [dif_neg h, bL_append, parse_app, ih (n / 10) (by omega) x (by omega) hx hs]
      simp only
      have hp := ih (n / 10) (by omega) x (by omega) hx hs
      have hs2 := parse_sane _ hs hp
      have hm : n % 10 < 10 := Nat.mod_lt _ (by omega)
      have e := step_digit M q ((n / 10 : Nat) : Int) ((UInt8.ofNat (48 + n % 10)).toNat : Int) hs2 (by rw [byte_of _ hm]; omega) (by rw [byte_of _ hm]; omega)
      show parseGo _ [((UInt8.ofNat (48 + n % 10)).toNat : Int)] = _
      rw [parseGo, e]
      simp only [parseGo]
      rw [byte_of _ hm]
      have : digitN ((n / 10 : Nat) : Int) (48 + ((n % 10 : Nat) : Int)) = n := by unfold digitN; omega
      rw [this]
theorem num_parse (M : List (List Int)) (q : List Int) (n : Int) (hn : -1 ≤ n ∧ n ≤ 65535) (hs : saneP ⟨M ++ [q ++ [-1]], true⟩ = true) : parseGo ⟨M ++ [q ++ [-1]], true⟩ (bL (numS n)) = some ⟨M ++ [q ++ [n]], true⟩ := by
  unfold numS
  by_cases h : n = -1
  · rw [if_pos h, h]; rfl
  · rw [if_neg h]
    obtain ⟨k, rfl⟩ := Int.eq_ofNat_of_zero_le (show 0 ≤ n by omega)
    unfold Lib.itoa
    rw [if_neg (by omega), Int.toNat_natCast]
    exact dig_parse M q k (-1) (by omega) (by omega) hs
theorem subs_parse (M : List (List Int)) : ∀ (xs : List Int) (r : List Int), r ≠ [] → (r.length + xs.length ≤ 6) → (∀ n ∈ xs, -1 ≤ n ∧ n ≤ 65535) → saneP ⟨M ++ [r], true⟩ = true →
    parseGo ⟨M ++ [r], true⟩ (bL (subsS xs)) = some ⟨M ++ [r ++ xs], true⟩
  | [], r, _, _, _, _ => by simp [subsS, bL, parseGo]
  | x :: xs, r, hr, hl, hx, hs => by
    simp only [List.length_cons] at hl
    have h1 := step_sub M r hs (by omega)
    have hs1 := step_sane hs h1
    have h2 := num_parse M r x (hx x (by simp)) hs1
    have hs2 := parse_sane _ hs1 h2
    have h3 := subs_parse M xs (r ++ [x]) (by simp) (by simp; omega) (fun n hn => hx n (by simp [hn])) hs2
    have e : bL (subsS (x :: xs)) = 58 :: (bL (numS x) ++ bL (subsS xs)) := by simp [subsS, bL]
    rw [e, parseGo, h1]
    simp only
    rw [parse_app, h2]
    simp only
    rw [h3]
    simp
theorem row_parse (M : List (List Int)) (q : List Int) (hq : okRow q = true) (hs : saneP ⟨M ++ [[-1]], true⟩ = true) : parseGo ⟨M ++ [[-1]], true⟩ (bL (rowS q)) = some ⟨M ++ [q], true⟩ := by
  obtain ⟨hl, hn⟩ := (okRow_iff q).1 hq
  cases q with
  | nil => simp at hl
  | cons x xs =>
    simp only [List.length_cons] at hl
    have h2 := num_parse M [] x (hn x (by simp)) hs
    have hs2 := parse_sane _ hs h2
    have h3 := subs_parse M xs ([] ++ [x]) (by simp) (by simp; omega) (fun n h => hn n (by simp [h])) hs2
    show parseGo _ (bL (numS x ++ subsS xs)) = _
    rw [bL_append, parse_app]
    have h2' : parseGo ⟨M ++ [[-1]], true⟩ (bL (numS x)) = some ⟨M ++ [[] ++ [x]], true⟩ := h2
    rw [h2']
    simp only
    rw [h3]
    simp
theorem rows_parse : ∀ (qs M : List (List Int)) (r : List Int), (M ++ [r]).length + qs.length ≤ 16 → (∀ q ∈ qs, okRow q = true) → saneP ⟨M ++ [r], true⟩ = true →
    parseGo ⟨M ++ [r], true⟩ (bL (rowsS qs)) = some ⟨M ++ [r] ++ qs, true⟩
  | [], M, r, _, _, _ => by simp [rowsS, bL, parseGo]
  | q :: qs, M, r, hl, hq, hs => by
    simp only [List.length_cons] at hl
    have h1 := step_next M r hs (by omega)
    have hs1 := step_sane hs h1
    have h2 := row_parse (M ++ [r]) q (hq q (by simp)) hs1
    have hs2 := parse_sane _ hs1 h2
    have h3 := rows_parse qs (M ++ [r]) q (by simp at hl ⊢; omega) (fun x hx => hq x (by simp [hx])) hs2
    have e : bL (rowsS (q :: qs)) = 59 :: (bL (rowS q) ++ bL (rowsS qs)) := by simp [rowsS, bL]
    rw [e, parseGo, h1]
    simp only
    rw [parse_app, h2]
    simp only
    rw [h3]
    simp
theorem first_step (c : Int) : stepP ⟨[], false⟩ c = stepP ⟨[[-1]], true⟩ c := by
  unfold stepP
  by_cases h : 48 ≤ c ∧ c ≤ 57
  · rw [if_pos h, if_pos h]
    unfold digitP
    rw [if_neg (by decide), if_neg (by omega), if_neg (by decide), if_neg (by decide), if_neg (by omega), if_neg (by decide)]
    rfl
  · rw [if_neg h, if_neg h]
    by_cases h59 : c = 59
    · rw [if_pos h59, if_pos h59]; rfl
    · rw [if_neg h59, if_neg h59]
      by_cases h58 : c = 58
      · rw [if_pos h58, if_pos h58]; rfl
      · rw [if_neg h58, if_neg h58]
theorem first_go (s : List Int) (hs : s ≠ []) : parseGo ⟨[], false⟩ s = parseGo ⟨[[-1]], true⟩ s := by
  cases s with
  | nil => exact absurd rfl hs
  | cons c cs => rw [parseGo, parseGo, first_step]
theorem decDigits_ne (n : Nat) : Lib.decDigits n ≠ [] := by
  rw [Lib.decDigits]
  split <;> simp
theorem numS_nil (n : Int) (hn : -1 ≤ n) (h : numS n = []) : n = -1 := by
  unfold numS at h
  by_cases e : n = -1
  · exact e
  · rw [if_neg e] at h
    unfold Lib.itoa at h
    rw [if_neg (by omega)] at h
    exact absurd h (decDigits_ne _)
theorem printS_nil (L : List (List Int)) (hs : saneP ⟨L, false⟩ = true) (h : printS L = []) : L = [] ∨ L = [[-1]] := by
  cases L with
  | nil => exact .inl rfl
  | cons q qs =>
    right
    have hq := ((saneP_iff _).1 hs).2.2 q (by simp)
    obtain ⟨hl, hn⟩ := (okRow_iff q).1 hq
    unfold printS at h
    obtain ⟨h1, h2⟩ := List.append_eq_nil_iff.1 h
    cases qs with
    | cons r rs => simp [rowsS] at h2
    | nil =>
      cases q with
      | nil => simp at hl
      | cons x xs =>
        unfold rowS at h1
        obtain ⟨h3, h4⟩ := List.append_eq_nil_iff.1 h1
        cases xs with
        | cons y ys => simp [subsS] at h4
        | nil => rw [numS_nil x (hn x (by simp)).1 h3]
/-- what is printed is parsed -/
theorem back_law (L : List (List Int)) (hs : saneP ⟨L, false⟩ = true) : ∃ q, parseGo ⟨[], false⟩ (bL (printS L)) = some q ∧ (q.l = L ∨ (L = [[-1]] ∧ q.l = [])) := by
  by_cases h : printS L = []
  · rcases printS_nil L hs h with rfl | rfl
    · exact ⟨⟨[], false⟩, rfl, .inl rfl⟩
    · exact ⟨⟨[], false⟩, by rw [h]; rfl, .inr ⟨rfl, rfl⟩⟩
  · cases L with
    | nil => exact absurd rfl h
    | cons q qs =>
      have h3 := (saneP_iff _).1 hs
      simp only [List.length_cons] at h3
      have hq := h3.2.2 q (by simp)
      refine ⟨⟨q :: qs, true⟩, ?_, .inl rfl⟩
      rw [first_go _ (by simpa [bL] using h)]
      have h1 := row_parse [] q hq (by decide)
      have hs1 := parse_sane _ (show saneP ⟨[] ++ [[-1]], true⟩ = true by decide) h1
      have h2 := rows_parse qs [] q (by simp; omega) (fun x hx => h3.2.2 x (by simp [hx])) hs1
      show parseGo _ (bL (rowS q ++ rowsS qs)) = _
      rw [bL_append, parse_app]
      have h1' : parseGo ⟨[[-1]], true⟩ (bL (rowS q)) = some ⟨[] ++ [q], true⟩ := h1
      rw [h1']
      simp only
      rw [h2]
      rfl
theorem print_back (L : List (List Int)) (hs : saneP ⟨L, false⟩ = true) (q : P5) (hq : q.l = L ∨ (L = [[-1]] ∧ q.l = [])) : printS q.l = printS L := by
  rcases hq with h | ⟨rfl, h⟩
  · rw [h]
  · rw [h]; rfl
theorem nDigits_5 (u : Nat) (h : u ≤ 65535) : Lib.nDigits u ≤ 5 := by
  rw [Lib.nDigits]
  split
  · omega
  rw [Lib.nDigits]
  split
  · omega
  rw [Lib.nDigits]
  split
  · omega
  rw [Lib.nDigits]
  split
  · omega
  rw [Lib.nDigits, dif_pos (by omega)]
  omega
theorem numS_len (n : Int) (hn : -1 ≤ n ∧ n ≤ 65535) : (numS n).length ≤ 5 := by
  unfold numS
  split
  · simp
  · unfold Lib.itoa
    rw [if_neg (by omega), Lib.decDigits_length]
    exact nDigits_5 _ (by omega)
theorem subs_len : ∀ xs : List Int, (∀ n ∈ xs, -1 ≤ n ∧ n ≤ 65535) → (subsS xs).length ≤ 6 * xs.length
  | [], _ => by simp [subsS]
  | x :: xs, h => by
    have h1 := numS_len x (h x (by simp))
    have h2 := subs_len xs (fun n hn => h n (by simp [hn]))
    have e : (subsS (x :: xs)).length = 1 + (numS x).length + (subsS xs).length := by simp [subsS]; omega
    simp only [List.length_cons]
    omega
theorem row_len (q : List Int) (hq : okRow q = true) : (rowS q).length ≤ 35 := by
  obtain ⟨hl, hn⟩ := (okRow_iff q).1 hq
  cases q with
  | nil => simp [rowS]
  | cons x xs =>
    have h1 := numS_len x (hn x (by simp))
    have h2 := subs_len xs (fun n h => hn n (by simp [h]))
    simp only [List.length_cons] at hl
    simp only [rowS, List.length_append]
    omega
theorem rows_len : ∀ qs : List (List Int), (∀ q ∈ qs, okRow q = true) → (rowsS qs).length ≤ 36 * qs.length
  | [], _ => by simp [rowsS]
  | q :: qs, h => by
    have h1 := row_len q (h q (by simp))
    have h2 := rows_len qs (fun x hx => h x (by simp [hx]))
    have e : (rowsS (q :: qs)).length = 1 + (rowS q).length + (rowsS qs).length := by simp [rowsS]; omega
    simp only [List.length_cons]
    omega
theorem print_lenS (L : List (List Int)) (hs : saneP ⟨L, false⟩ = true) : (printS L).length ≤ 576 := by
  have h3 := (saneP_iff _).1 hs
  cases L with
  | nil => simp [printS]
  | cons q qs =>
    have h1 := row_len q (h3.2.2 q (by simp))
    have h2 := rows_len qs (fun x hx => h3.2.2 x (by simp [hx]))
    simp only [List.length_cons] at h3
    simp only [printS, List.length_append]
    omega
end Go.Proofs.YtcempbgbdlmjfaaDoor
