/-
  Layer 6 (parse), plain: what the statements say of steps and of feeding. No program in sight.
-/
import Derived.Test.YtcempbgbdlmjfaaDoorP6Plain
namespace Go.Proofs.YtcempbgbdlmjfaaDoor

theorem st_a_cases (s : St) (h : saneS s = true) : s.a = 0 ∨ s.a = 1 ∨ s.a = 2 ∨ s.a = 3 ∨ s.a = 4 ∨ s.a = 5 ∨ s.a = 6 ∨ s.a = 7 ∨ s.a = 8 ∨ s.a = 9 := by
  have := ((saneS_iff s).1 h).1
  omega
/-! ### no more actions than letters -/
structure AxOk (x : Ax) : Prop where
  w : 1 ≤ x.what ∧ x.what ≤ 7
  t : x.text.length ≤ 1024
  i : x.inter.length ≤ 2
  p : x.par.length ≤ 16
theorem exec_ok (r : Int) : AxOk (axExec r) := ⟨by simp [axExec], by simp [axExec], by simp [axExec], by simp [axExec]⟩
theorem print_ok (r : Int) : AxOk (axPrint r) := ⟨by simp [axPrint], by simp [axPrint], by simp [axPrint], by simp [axPrint]⟩
structure Few6 (n : Nat) (L : List Ax) : Prop where
  len : L.length ≤ n
  ok : ∀ x ∈ L, AxOk x
theorem few_nil (n : Nat) : Few6 n [] := ⟨Nat.zero_le _, fun _ h => absurd h (by simp)⟩
theorem few_one {x : Ax} (h : AxOk x) : Few6 1 [x] := ⟨Nat.le_refl _, fun y hy => by rw [List.mem_singleton.1 hy]; exact h⟩
theorem Few6.mono {n m : Nat} {L : List Ax} (h : Few6 n L) (hm : n ≤ m) : Few6 m L := ⟨Nat.le_trans h.len hm, h.ok⟩
theorem end_few (s : St) (h : saneS s = true) : Few6 (if s.a < 7 then 0 else 1) (endA s) := by
  have ht := ((saneS_iff s).1 h).2.2.1
  unfold endA
  by_cases h7 : s.a = 7
  · rw [if_pos h7, if_neg (by omega)]; exact few_one ⟨by simp, ht, by simp, by simp⟩
  rw [if_neg h7]
  by_cases h8 : s.a = 8
  · rw [if_pos h8, if_neg (by omega)]; exact few_one ⟨by simp, ht, by simp, by simp⟩
  rw [if_neg h8]
  by_cases h9 : s.a = 9
  · rw [if_pos h9, if_neg (by omega)]; exact few_one ⟨by simp, ht, by simp, by simp⟩
  rw [if_neg h9]
  exact few_nil _
theorem upper_few (r : Int) : Few6 1 (upperF r).2 := by
  unfold upperF
  repeat (first | exact few_nil _ | exact few_one (exec_ok r) | split)
theorem esc_ok {s : St} (c : Int) (h : saneS s = true) : AxOk (axEsc s c) := ⟨by simp [axEsc], by simp [axEsc], ((saneS_iff s).1 h).2.1, by simp [axEsc]⟩
theorem csi_ok {s : St} (c : Int) (h : saneS s = true) : AxOk (axCsi s c) :=
  ⟨by simp [axCsi], by simp [axCsi], ((saneS_iff s).1 h).2.1, ((saneP_iff _).1 ((saneS_iff s).1 h).2.2.2.1).1⟩
theorem seq_few {s : St} (c : Int) (h : saneS s = true) : Few6 1 (seqF s c).2 := by
  unfold seqF
  split
  · exact few_nil _
  · exact few_one (csi_ok c h)
theorem graphic_few {s : St} (c : Int) (h : saneS s = true) : Few6 1 (graphicF s c).2 := by
  unfold graphicF escapeF numbersF
  repeat (first | exact few_nil _ | exact few_one (esc_ok c h) | exact seq_few c h | exact few_one (print_ok c) | split)
theorem step_few (s : St) (r : Int) (h : saneS s = true) : Few6 2 (stepS s r).2 ∧ (s.a < 7 → (stepS s r).2.length ≤ 1) := by
  have he := end_few s h
  have hu := upper_few r
  have he1 : Few6 1 (endA s) := he.mono (by split <;> omega)
  have one : ∀ L, Few6 1 L → Few6 2 L ∧ (s.a < 7 → L.length ≤ 1) := fun L hL => ⟨hL.mono (by omega), fun _ => hL.len⟩
  unfold stepS
  rw [if_neg (by simp [h])]
  split
  · exact one _ (few_one (exec_ok r))
  split
  · exact one _ he1
  split
  · refine ⟨⟨by have := he1.len; have := hu.len; simp; omega, fun x hx => ?_⟩, fun h7 => ?_⟩
    · rcases List.mem_append.1 hx with hx | hx
      · exact he.ok x hx
      · exact hu.ok x hx
    · rw [if_pos h7] at he
      have := he.len; have := hu.len; simp; omega
  split
  · exact one _ he1
  split
  · exact one _ (few_nil _)
  split
  · exact one _ (few_one (exec_ok r))
  split
  · exact one _ (few_nil _)
  split
  · exact one _ (few_one (print_ok r))
  · exact one _ (graphic_few r h)

/-! ### cuts -/
theorem feedS_sane {s : St} (h : saneS s = true) (l : List Int) : feedS s l = feedGo s l := by unfold feedS; rw [if_neg (by simp [h])]
theorem feed_cut (a b : List Int) : feedS st0 (a ++ b) = ((feedS (feedS st0 a).1 b).1, (feedS st0 a).2 ++ (feedS (feedS st0 a).1 b).2) := by
  rw [feedS_sane st0_sane, feedS_sane st0_sane, feedS_sane (feedGo_sane a st0 st0_sane), feedGo_app]
theorem feedS_st (l : List Int) : saneS (feedS st0 l).1 = true := by rw [feedS_sane st0_sane]; exact feedGo_sane l st0 st0_sane
theorem step_cancel {s : St} (h : saneS s = true) : stepS s 24 = (st0, [axExec 24]) := by
  unfold stepS; rw [if_neg (by simp [h]), if_pos (.inl rfl)]

/-! ### a string is told whole -/
def oscS (t : List Int) : St := ⟨7, [], false, [], false, t, 0⟩
theorem osc_sane (t : List Int) (h : t.length ≤ 1024) : saneS (oscS t) = true := by
  rw [saneS_iff]
  exact ⟨by simp [oscS], by simp [oscS], h, (by decide : saneP ⟨[], false⟩ = true), rfl, fun h => by simp [oscS] at h, fun h => by simp [oscS] at h⟩
theorem put_ascii {c : Int} (h : 0 ≤ c ∧ c < 128) : putF c = [c] := by
  unfold putF
  rw [show okR c = c by unfold okR; rw [if_neg (by omega)]]
  unfold encF
  rw [if_pos (by omega)]
theorem step_osc (t : List Int) (c : Int) (ht : t.length ≤ 1024) (hc : 32 ≤ c ∧ c ≤ 126) : stepS (oscS t) c = (oscS ((t ++ [c]).take 1024), []) := by
  unfold stepS
  have h7 : isStr (oscS t) = true := rfl
  rw [if_neg (by simp [osc_sane t ht]), if_neg (by omega), if_neg (by omega), if_neg (by omega), if_neg (by omega), if_pos h7]
  unfold addF
  rw [if_neg (by omega), put_ascii (by omega)]
  by_cases h : t.length + 1 ≤ 1024
  · rw [if_pos (by simp [oscS]; omega), List.take_of_length_le (by simp; omega)]
    rfl
  · rw [if_neg (by simp [oscS]; omega)]
    have : t.length = 1024 := by omega
    rw [← this, List.take_left]
theorem take_app (t l : List Int) (c : Int) : ((t ++ [c]).take 1024 ++ l).take 1024 = (t ++ c :: l).take 1024 := by
  by_cases h : t.length + 1 ≤ 1024
  · rw [List.take_of_length_le (l := t ++ [c]) (by simp; omega), List.append_assoc]; rfl
  · have e1 : (t ++ [c]).take 1024 = t.take 1024 := List.take_append_of_le_length (by omega)
    have e2 : (t ++ c :: l).take 1024 = t.take 1024 := List.take_append_of_le_length (by omega)
    rw [e1, e2, List.take_append_of_le_length (by simp; omega), List.take_take, Nat.min_self]
theorem feed_osc (l : List Int) : ∀ t : List Int, t.length ≤ 1024 → (∀ c ∈ l, 32 ≤ c ∧ c ≤ 126) → feedGo (oscS t) l = (oscS ((t ++ l).take 1024), []) := by
  induction l with
  | nil => intro t ht _; simp [feedGo, List.take_of_length_le ht]
  | cons c l ih =>
    intro t ht hl
    unfold feedGo
    rw [step_osc t c ht (hl c (by simp)), ih _ (by simp; omega) (fun d hd => hl d (by simp [hd]))]
    rw [take_app]
    rfl
theorem text_law (l : List Int) (hl : ∀ c ∈ l, 32 ≤ c ∧ c ≤ 126) :
    feedS st0 (27 :: 93 :: (l ++ [7])) = (st0, [⟨5, 0, 0, [], [], l.take 1024⟩]) ∧
    feedS st0 (27 :: 93 :: (l ++ [27, 92])) = (st0, [⟨5, 0, 0, [], [], l.take 1024⟩, ⟨3, 0, 92, [], [], []⟩]) := by
  have e1 : stepS st0 27 = (atS 1, []) := rfl
  have e2 : stepS (atS 1) 93 = (oscS [], []) := rfl
  have hf := feed_osc l [] (by simp) hl
  rw [List.nil_append] at hf
  have hs : saneS (oscS (l.take 1024)) = true := osc_sane _ (by simp; omega)
  have e3 : stepS (oscS (l.take 1024)) 7 = (st0, [⟨5, 0, 0, [], [], l.take 1024⟩]) := by
    unfold stepS
    rw [if_neg (by simp [hs]), if_neg (by omega), if_neg (by omega), if_neg (by omega), if_pos ⟨rfl, rfl⟩]
    rfl
  have e4 : stepS (oscS (l.take 1024)) 27 = (atS 1, [⟨5, 0, 0, [], [], l.take 1024⟩]) := by
    unfold stepS
    rw [if_neg (by simp [hs]), if_neg (by omega), if_pos rfl]
    rfl
  have e5 : stepS (atS 1) 92 = (st0, [⟨3, 0, 92, [], [], []⟩]) := by rfl
  rw [feedS_sane st0_sane, feedS_sane st0_sane]
  constructor
  · simp only [feedGo, e1, e2, feedGo_app, hf, e3, List.nil_append, List.append_nil]
  · simp only [feedGo, e1, e2, feedGo_app, hf, e4, e5, List.nil_append, List.append_nil, List.cons_append]

/-! ### a sequence is told as it stands -/
/-- in a control sequence: of a sign or none, with parameters -/
theorem step_num {s : St} {c : Int} {q : P5} (hs : saneS s = true) (ha : s.a = 3 ∨ s.a = 4) (hc : stepP ⟨s.l, s.o⟩ c = some q) : stepS s c = ({ s with l := q.l, o := q.o, a := 4 }, []) := by
  have hc' : (48 ≤ c ∧ c ≤ 57) ∨ c = 59 ∨ c = 58 := by
    unfold stepP at hc
    split at hc
    · exact .inl (by assumption)
    split at hc
    · exact .inr (.inl (by assumption))
    split at hc
    · exact .inr (.inr (by assumption))
    · cases hc
  have hn : isStr s = false := by unfold isStr; simp; omega
  unfold stepS
  rw [if_neg (by simp [hs]), if_neg (by omega), if_neg (by omega), if_neg (by omega), if_neg (by omega), if_neg (by simp [hn]), if_neg (by omega), if_neg (by omega), if_neg (by omega)]
  unfold graphicF
  rw [if_neg (by omega), if_pos (by omega)]
  unfold numbersF
  rw [if_neg (by omega), if_neg (by omega)]
  unfold stepP at hc
  rcases hc' with h | h | h
  · rw [if_pos h] at hc
    injection hc with hc
    rw [if_neg (by omega), if_neg (by omega), if_pos (by omega), hc]
  · rw [if_neg (by omega), if_pos h] at hc
    injection hc with hc
    rw [if_pos h, hc]
  · rw [if_neg (by omega), if_neg (by omega), if_pos h] at hc
    injection hc with hc
    rw [if_neg (by omega), if_pos h, hc]
theorem feed_num (l : List Int) : ∀ (s : St) (q : P5), saneS s = true → (s.a = 3 ∨ s.a = 4) → parseGo ⟨s.l, s.o⟩ l = some q →
    ∃ s' : St, feedGo s l = (s', []) ∧ saneS s' = true ∧ (s'.a = 3 ∨ s'.a = 4) ∧ s'.l = q.l ∧ s'.inter = s.inter ∧ s'.over = s.over := by
  induction l with
  | nil =>
    intro s q hs ha hq
    simp only [parseGo] at hq
    injection hq with hq
    exact ⟨s, rfl, hs, ha, by rw [← hq], rfl, rfl⟩
  | cons c l ih =>
    intro s q hs ha hq
    simp only [parseGo] at hq
    cases e : stepP ⟨s.l, s.o⟩ c with
    | none => rw [e] at hq; cases hq
    | some p =>
      rw [e] at hq
      have h1 := step_num hs ha e
      have hs1 : saneS { s with l := p.l, o := p.o, a := 4 } = true := by have := stepS_sane s c; rw [h1] at this; exact this
      obtain ⟨s', f1, f2, f3, f4, f5, f6⟩ := ih { s with l := p.l, o := p.o, a := 4 } q hs1 (.inr rfl) hq
      exact ⟨s', by simp only [feedGo, h1, f1, List.append_nil], f2, f3, f4, f5, f6⟩
theorem step_graph {s : St} {c : Int} (hs : saneS s = true) (ha : s.a < 7) (hc : 32 ≤ c ∧ c ≤ 126) : stepS s c = graphicF s c := by
  have hn : isStr s = false := by unfold isStr; simp; omega
  unfold stepS
  rw [if_neg (by simp [hs]), if_neg (by omega), if_neg (by omega), if_neg (by omega), if_neg (by omega), if_neg (by simp [hn]), if_neg (by omega), if_neg (by omega), if_neg (by omega)]
theorem end_plain {s : St} {f : Int} (hs : saneS s = true) (ha : s.a = 3 ∨ s.a = 4) (ho : s.over = false) (hf : 64 ≤ f ∧ f ≤ 126) : feedGo s [f] = (st0, [⟨4, 0, f, s.inter, s.l, []⟩]) := by
  simp only [feedGo, step_graph hs (by omega) (by omega : 32 ≤ f ∧ f ≤ 126)]
  unfold graphicF numbersF seqF
  rw [if_neg (by omega), if_pos ha, if_neg (by omega), if_pos (by omega), ho]
  rfl
theorem end_more {s : St} {m f : Int} (hs : saneS s = true) (ha : s.a = 3 ∨ s.a = 4) (ho : s.over = false) (hi : s.inter.length ≤ 1) (hm : 32 ≤ m ∧ m ≤ 47) (hf : 64 ≤ f ∧ f ≤ 126) :
    feedGo s [m, f] = (st0, [⟨4, 0, f, s.inter ++ [m], s.l, []⟩]) := by
  have e1 : stepS s m = ({ s with inter := s.inter ++ [m], a := 5 }, []) := by
    rw [step_graph hs (by omega) (by omega)]
    unfold graphicF numbersF collectF
    rw [if_neg (by omega), if_pos ha, if_pos (by omega), if_pos (by omega)]
  have hs1 : saneS { s with inter := s.inter ++ [m], a := 5 } = true := by have := stepS_sane s m; rw [e1] at this; exact this
  have e2 : stepS { s with inter := s.inter ++ [m], a := 5 } f = (st0, [⟨4, 0, f, s.inter ++ [m], s.l, []⟩]) := by
    rw [step_graph hs1 (by simp) (by omega)]
    unfold graphicF seqF
    rw [if_neg (by simp), if_neg (by simp), if_pos rfl, if_neg (by omega), if_neg (by omega)]
    simp only [ho]
    rfl
  simp only [feedGo, e1, e2, List.nil_append, List.append_nil]
/-- the sign of its own, the bytes between: none or one -/
def optC (b : Bool) (c : Int) : List Int := if b then [c] else []
theorem csi_law (l : List Int) (q : P5) (hq : parseGo ⟨[], false⟩ l = some q) (b1 b2 : Bool) (g m f : Int) (hg : 60 ≤ g ∧ g ≤ 63) (hm : 32 ≤ m ∧ m ≤ 47) (hf : 64 ≤ f ∧ f ≤ 126) :
    feedS st0 (27 :: 91 :: (optC b1 g ++ (l ++ (optC b2 m ++ [f])))) = (st0, [⟨4, 0, f, optC b1 g ++ optC b2 m, q.l, []⟩]) := by
  have e1 : stepS st0 27 = (atS 1, []) := rfl
  have e2 : stepS (atS 1) 91 = (atS 3, []) := rfl
  have h0 : ∃ s : St, feedGo (atS 3) (optC b1 g) = (s, []) ∧ saneS s = true ∧ (s.a = 3 ∨ s.a = 4) ∧ s.l = [] ∧ s.o = false ∧ s.inter = optC b1 g ∧ s.over = false := by
    cases b1 with
    | false => exact ⟨atS 3, rfl, atS_sane 3 (by omega), .inl rfl, rfl, rfl, rfl, rfl⟩
    | true =>
      have e3 : stepS (atS 3) g = (⟨4, [g], false, [], false, [], 0⟩, []) := by
        rw [step_graph (atS_sane 3 (by omega)) (by simp [atS]) (by omega)]
        unfold graphicF numbersF collectF
        rw [if_neg (by simp [atS]), if_pos (.inl rfl), if_neg (by omega), if_neg (by omega), if_neg (by omega), if_neg (by omega), if_neg (by omega), if_pos (show (atS 3).a = 3 from rfl), if_pos (by simp [atS])]
        rfl
      have hs : saneS ⟨4, [g], false, [], false, [], 0⟩ = true := by have := stepS_sane (atS 3) g; rw [e3] at this; exact this
      exact ⟨⟨4, [g], false, [], false, [], 0⟩, by simp [optC, feedGo, e3], hs, .inr rfl, rfl, rfl, rfl, rfl⟩
  obtain ⟨s, f1, f2, f3, f4, f5, f6, f7⟩ := h0
  obtain ⟨s', k1, k2, k3, k4, k5, k6⟩ := feed_num l s q f2 f3 (by rw [f4, f5]; exact hq)
  have hend : feedGo s' (optC b2 m ++ [f]) = (st0, [⟨4, 0, f, optC b1 g ++ optC b2 m, q.l, []⟩]) := by
    cases b2 with
    | false =>
      have := end_plain k2 k3 (by rw [k6, f7]) hf
      rw [k4, k5, f6] at this
      simpa [optC] using this
    | true =>
      have := end_more k2 k3 (by rw [k6, f7]) (by rw [k5, f6]; cases b1 <;> simp [optC]) hm hf
      rw [k4, k5, f6] at this
      simpa [optC] using this
  rw [feedS_sane st0_sane]
  simp only [feedGo, e1, e2, feedGo_app, f1, k1, hend, List.nil_append]
end Go.Proofs.YtcempbgbdlmjfaaDoor
