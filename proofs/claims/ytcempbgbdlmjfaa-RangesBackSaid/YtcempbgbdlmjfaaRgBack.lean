/-
  lapwinglaw01.RangesBack: for all rows and bytes it answers true: a table as bytes is that table again; what is unpacked is packed as it was. No condition.
-/
import Derived.Test.YtcempbgbdlmjfaaRbD
import Derived.Test.YtcempbgbdlmjfaaRgMake
import Derived.Laws.BytesArg
import Derived.Deep.RegionHeld3
namespace Go.Proofs.Ytcempbgbdlmjfaa
open Go.RowKit

theorem run_strC {P : Program} {w : World} {B : Nat} {A : Option Addr} {xs : List Int} (h : Rd w B A (bC xs)) (src e dst : TypeId) (cap : Nat) (hs : P.underlying src = some (.slice e)) (he : P.underlying e = some (.int .u8)) (hd : P.underlying dst = some .string) :
    (convert src dst (.slice A xs.length cap)).run P w = .ok (.string (strOfNums xs)) w := by
  by_cases hn : xs = []
  · subst hn
    cases A with
    | none => exact run_convert_bytes_nil w src e hs he _ _ dst hd
    | some a =>
      obtain ⟨b, off, sp⟩ := a
      show (convert src dst (.slice (some ⟨b, off, sp⟩) 0 cap)).run P w = _
      rw [run_convert_bytes_string w src dst e _ _ cap hs he hd, run_bytesToString w _ 0 cap [] (by simpa using run_loadCells_list (P := P) w ⟨b, off, sp⟩ [] (fun j v hj => by simp at hj)), foldl_push_bytes]
      rfl
  · obtain ⟨b, off, rfl, _, hc⟩ := h (by simp [bC]; exact List.length_pos_iff.2 hn)
    exact run_convert_bytes_arg w src e hs he b off xs.length cap xs rfl (fun i hi => by
      rw [hc i (by simpa [bC] using hi)]
      simp [bC, List.getD, hi]) dst hd
theorem make_sane {l : List R} (hl : l.length ≤ 200) (h : (makeF l).2 = 0) : saneF (makeF l).1 = true ∧ (makeF l).1.length ≤ 200 := by
  cases hk : okL l with
  | true =>
    obtain ⟨h1, h2, _, _, _, h6⟩ := make_law l hk hl
    rw [h1]; exact ⟨h2, by simp only; omega⟩
  | false => rw [make_bad l hk] at h; simp at h
theorem numG_bytes (f : Nat) : ∀ n : Int, 0 ≤ n → n < 128 ^ (f + 1) → BytesI (numG f n) := by
  induction f with
  | zero => intro n h0 h1 y hy; simp [numG] at hy h1; omega
  | succ f ih =>
    intro n h0 h1 y hy
    by_cases hn : n < 128
    · rw [numG_lt _ _ hn] at hy; simp at hy; omega
    · rw [numG_ge f n (by omega)] at hy
      rcases List.mem_cons.1 hy with rfl | hy
      · omega
      · exact ih (n / 128) (by omega) (by rw [Int.pow_succ] at h1; omega) y hy
theorem numF_bytes (n : Int) (h0 : 0 ≤ n) (h1 : n < 268435456) : BytesI (numF n) := numG_bytes 9 n h0 (by omega)
theorem bytesI_append {a b : List Int} (ha : BytesI a) (hb : BytesI b) : BytesI (a ++ b) := fun y hy => by
  rcases List.mem_append.1 hy with h | h
  · exact ha y h
  · exact hb y h
theorem pack_bytes {m h v : Int} {l : List R} (hs : San m h v l) : ∀ a : Int, 0 ≤ a → a ≤ m → BytesI (packG a l) := by
  induction hs with
  | nil => intro a _ _ y hy; simp [packG] at hy
  | cons m h v x xs hf hm ht hr ih =>
    intro a h0 ha
    obtain ⟨f1, f2, f3, f4, f5⟩ := hf
    exact bytesI_append (numF_bytes _ (by omega) (by omega)) (bytesI_append (numF_bytes _ (by omega) (by omega)) (bytesI_append (numF_bytes _ (by omega) (by omega)) (ih x.hi (by omega) (by omega))))
theorem pack_len (l : List R) : ∀ a : Int, (packG a l).length ≤ 30 * l.length := by
  induction l with
  | nil => intro a; simp [packG]
  | cons x xs ih =>
    intro a
    have h0 : (numF (x.lo - a)).length ≤ 10 := numG_len 9 _
    have h1 : (numF (x.hi - x.lo)).length ≤ 10 := numG_len 9 _
    have h2 : (numF x.v).length ≤ 10 := numG_len 9 _
    have := ih x.hi
    simp only [packG, List.length_append, List.length_cons]
    omega
theorem pack_three {l : List R} (h : l ≠ []) (a : Int) : 3 ≤ (packG a l).length := by
  cases l with
  | nil => exact absurd rfl h
  | cons x xs =>
    have h0 : 0 < (numF (x.lo - a)).length := numG_pos 9 _
    have h1 : 0 < (numF (x.hi - x.lo)).length := numG_pos 9 _
    have h2 : 0 < (numF x.v).length := numG_pos 9 _
    simp only [packG, List.length_append]
    omega
theorem pack_ne {l : List R} (h : l ≠ []) (a : Int) : packG a l ≠ [] := by
  cases l with
  | nil => exact absurd rfl h
  | cons x xs => exact numF_ne _ _

set_option maxRecDepth 100000 in
set_option maxHeartbeats 6400000 in
theorem back_walk (rows : List R) (b : List Int) (A B : Option Addr) (c d : Nat) (w : World) (hr : Rd w w.heap.size A (rowCells rows)) (hrb : Rd w w.heap.size B (bC b)) (hb : BytesI b) (hbd : b.length ≤ d) (hl : rows.length ≤ maxLen) (hl2 : b.length ≤ maxLen) :
    Calls Try.prog 11 #[.slice A rows.length c, .slice B b.length d] w fun e w' => e = .returned (.bool true) ∧ Below w.heap.size w w' := by
  have HR := Lib.hid hr; have HRB := Lib.hid hrb; have HBY := Lib.hid hb
  clear hr hrb hb
  unfold maxLen at hl hl2
  by_cases h200 : 200 < rows.length
  · have d1 : decide ((200 : Int) < rows.length) = true := by simp; omega
    go_enter Try.func11, Try.ntmps11
    go_wp2_with fail
    refine (awake_any _).mono ?_
    rintro e w1 ⟨rfl, hb1⟩
    go_wp2_with fail
    go_ret
    exact ⟨rfl, hb1⟩
  have d1 : decide ((200 : Int) < rows.length) = false := by simp; omega
  by_cases h1000 : 1000 < b.length
  · have d2 : decide ((1000 : Int) < b.length) = true := by simp; omega
    go_enter Try.func11, Try.ntmps11
    go_wp2_with fail
    refine (awake_any _).mono ?_
    rintro e w1 ⟨rfl, hb1⟩
    go_wp2_with fail
    go_ret
    exact ⟨rfl, hb1⟩
  have d2 : decide ((1000 : Int) < b.length) = false := by simp; omega
  obtain ⟨t, er, hm⟩ : ∃ t er, makeF rows = (t, er) := ⟨_, _, rfl⟩
  have hms := make_sane (l := rows) (by omega)
  rw [hm] at hms
  simp only at hms
  obtain ⟨v, ev, hu⟩ : ∃ v ev, unpackF b = (v, ev) := ⟨_, _, rfl⟩
  have HM := Lib.hid hm; have HMS := Lib.hid hms; have HU := Lib.hid hu
  clear hm hms hu
  go_enter Try.func11, Try.ntmps11
  go_wp2_with fail
  refine (awake_any _).mono ?_
  rintro e w1 ⟨rfl, hb1⟩
  go_wp2_with fail
  refine (ours_any rows A c _ _ (Nat.le_refl _) (Rd.next HR.out hb1) (by omega)).mono ?_
  rintro e w2 ⟨A2, c2, rfl, ho2, hb2⟩
  go_wp2_with fail
  refine (make_any rows A2 c2 _ _ (Nat.le_refl _) (Rd.of_own ho2) (by omega)).mono ?_
  rintro e w3 ⟨A3, c3, rfl, ho3, hb3⟩
  simp only [HM.out] at ho3 ⊢
  have rb3 := ((HRB.out.next hb1).next hb2).next hb3
  have b3 := bt (bt hb1 hb2 hb1.size) hb3 (by have := hb1.size; have := hb2.size; omega)
  have RB3 := Lib.hid rb3; have B3 := Lib.hid b3; have O3 := Lib.hid ho3
  clear hb1 hb2 hb3 ho2 ho3 rb3 b3
  by_cases he : er = 0
  · subst he
    obtain ⟨hst, htl⟩ := HMS.out rfl
    obtain ⟨P, hP⟩ : ∃ P, packG 0 t = P := ⟨_, rfl⟩
    have hpk : packF t = (P, 0) := by unfold packF; rw [if_pos hst, hP]
    have hup : unpackF P = (t, 0) := by rw [← hP]; exact unpack_pack hst
    have hpb : BytesI P := by rw [← hP]; exact pack_bytes ((saneF_iff t).1 hst).2 0 (by omega) (by omega)
    have hpl : P.length ≤ 6000 := by have := pack_len t 0; rw [hP] at this; omega
    have hsh : t ≠ [] → (P ≠ [] ∧ 3 ≤ P.length) ∧ (unpackF P.dropLast).2 ≠ 0 := fun h => by rw [← hP]; exact ⟨⟨pack_ne h 0, pack_three h 0⟩, unpack_short hst h⟩
    have hpn : t = [] → P = [] := fun h => by rw [← hP, h]; rfl
    have HPK := Lib.hid hpk; have HUP := Lib.hid hup; have HPB := Lib.hid hpb; have HSH := Lib.hid hsh; have HPN := Lib.hid hpn
    have htm : t.length ≤ maxLen := by unfold maxLen; omega
    have HTM := Lib.hid htm
    clear hst hP hpk hup hpb hsh hpn htm HM HMS
    have rt3 := (Rd.of_own O3.out).nextA (.cells #[.slice A3 t.length c3] 27)
    have n3 := heap_alloc_new w3 (.cells #[.slice A3 t.length c3] 27)
    have rb3 := RB3.out.nextA (.cells #[.slice A3 t.length c3] 27)
    have b3 := B3.out.alloc B3.out.size (.cells #[.slice A3 t.length c3] 27)
    have RT3 := Lib.hid rt3; have N3 := Lib.hid n3; have RB3' := Lib.hid rb3; have B3' := Lib.hid b3
    clear rt3 n3 rb3 b3
    go_wp2_with fail
    refine (pack_any t A3 c3 _ RT3.out HTM.out).mono ?_
    rintro e w4 ⟨A4, c4, rfl, ho4, hb4⟩
    simp only [HPK.out] at ho4 ⊢
    have rp4 := Rd.of_own ho4
    have hcap4 : P.length ≤ c4 := by
      obtain ⟨_, _, e, h⟩ := own_slice ho4
      injection e with _ _ e
      omega
    have RP4 := Lib.hid rp4; have RT4 := Lib.hid (RT3.out.next hb4); have RB4 := Lib.hid (RB3'.out.next hb4); have B4 := Lib.hid (bt B3'.out hb4 B3'.out.size); have N4 := Lib.hid (bk_past N3.out hb4 (Nat.le_refl _))
    clear ho4 rp4 hb4 RT3 RB3' B3' N3
    go_wp2_with fail
    refine (unpack_any P A4 c4 _ RP4.out HPB.out (by omega) hcap4).mono ?_
    rintro e w5 ⟨A5, c5, rfl, ho5, hb5⟩
    simp only [HUP.out] at ho5 ⊢
    have T5 := Lib.hid ((Rd.of_own ho5).nextA (.cells #[.slice A5 t.length c5] 27))
    have T3 := Lib.hid ((RT4.out.next hb5).nextA (.cells #[.slice A5 t.length c5] 27))
    have RP5 := Lib.hid ((RP4.out.next hb5).nextA (.cells #[.slice A5 t.length c5] 27))
    have RB5 := Lib.hid ((RB4.out.next hb5).nextA (.cells #[.slice A5 t.length c5] 27))
    have B5 := Lib.hid ((bt B4.out hb5 B4.out.size).alloc (bt B4.out hb5 B4.out.size).size (.cells #[.slice A5 t.length c5] 27))
    have k5 := bk_cell (heap_alloc_new w5 (.cells #[.slice A5 t.length c5] 27)) 0 _ rfl
    have k3 := bk_cell (bk_alloc (bk_past N4.out hb5 (Nat.le_refl _)) (.cells #[.slice A5 t.length c5] 27)) 0 _ rfl
    clear ho5 hb5 RT4 RP4 RB4 B4 N4 RB3 B3 O3
    go_wp2_with fail
    generalize hW5 : (w5.alloc (.cells #[.slice A5 t.length c5] 27)) = W5 at T5 T3 RP5 RB5 B5 k5 k3 ⊢
    clear hW5
    go_region_held3 (fun w' => w'.cell? ⟨w3.heap.size, 0, none⟩ = some (.slice A3 t.length c3) ∧ w'.cell? ⟨w5.heap.size, 0, none⟩ = some (.slice A5 t.length c5) ∧ Below W5.heap.size W5 w')
      (first | (go_split_ands; refine ⟨?_, ?_, ?_⟩ <;> first | exact past hb2 (by assumption) | exact bt (by assumption) hb2 (Below.size (by assumption))) | (go_split_ands; refine ⟨?_, ?_, ?_⟩ <;> first | assumption | exact Below.drew (Below.refl _ _)) | go_keep)
      (first
        | (go_at_call_of 23 (Value.slice A3 t.length c3); refine (theirs_any t _ _ _ W5.heap.size (Below.size (by go_split_ands; assumption)) (Rd.below T3.out (by go_split_ands; assumption) (Nat.le_refl _)) (by omega)).mono ?_; rintro e w23 ⟨A23, c23, rfl, o23, hb2⟩; have r23 := Lib.hid (Rd.of_own o23); clear o23)
        | (go_at_call_of 23 (Value.slice A5 t.length c5); refine (theirs_any t _ _ _ W5.heap.size (Below.size (by go_split_ands; assumption)) (Rd.below T5.out (by go_split_ands; assumption) (Nat.le_refl _)) (by omega)).mono ?_; rintro e w24 ⟨A24, c24, rfl, o24, hb2⟩; have r24 := Lib.hid (Rd.of_own o24); have r25 := Lib.hid (Rd.next r23.out hb2); clear o24)
        | (go_at_call 22; refine (same_any t _ _ _ _ _ _ r25.out r24.out HTM.out).mono ?_; rintro e w26 ⟨rfl, hb2⟩))
    have hb26 : Below W5.heap.size W5 w26 := by go_split_ands; assumption
    have q3 : w26.cell? ⟨w3.heap.size, 0, none⟩ = some (.slice A3 t.length c3) := by go_split_ands; assumption
    have RB26 := Lib.hid (RB5.out.next hb26)
    have RP26 := Lib.hid (RP5.out.next hb26)
    have B26 := Lib.hid (bt B5.out hb26 B5.out.size)
    by_cases ht : t = []
    · subst ht
      have hP0 := HPN.out rfl
      subst hP0
      have hu0 : unpackF [] = ([], 0) := by simp [unpackF, unG, saneF, saneFrom]
      have HU0 := Lib.hid hu0
      clear hu0
      go_wp2_with fail
      refine (unpack_any [] A4 c4 _ (Rd.nil _ _ _) (fun y hy => by simp at hy) (by simp) (by simp)).mono ?_
      rintro e w6 ⟨A6, c6, rfl, ho6, hb6⟩
      simp only [HU0.out] at ho6 ⊢
      have q6 := past hb6 q3
      have q7 := (World.cell?_alloc_lt w6 (.cells #[.slice A6 0 c6] 27) _ (World.block_lt_of_cell? w6 _ q6)).trans q6
      have RBX := Lib.hid ((RB26.out.next hb6).nextA (.cells #[.slice A6 0 c6] 27))
      have BX := Lib.hid ((bt B26.out hb6 B26.out.size).alloc (bt B26.out hb6 B26.out.size).size (.cells #[.slice A6 0 c6] 27))
      clear ho6 hb6 hb26 q3 q6
      go_wp2_with fail
      refine (unpack_any b B d _ RBX.out HBY.out (by omega) hbd).mono ?_
      rintro e w7 ⟨A7, c7, rfl, ho7, hb7⟩
      simp only [HU.out] at ho7 ⊢
      have b7 := bt BX.out hb7 BX.out.size
      have rb7 := (RBX.out.next hb7).nextA (.cells #[.slice A7 v.length c7] 27)
      have rv7 := (Rd.of_own ho7).nextA (.cells #[.slice A7 v.length c7] 27)
      have RB7 := Lib.hid rb7; have RV7 := Lib.hid rv7; have B7 := Lib.hid (b7.alloc b7.size (.cells #[.slice A7 v.length c7] 27))
      have N7 := Lib.hid (heap_alloc_new w7 (.cells #[.slice A7 v.length c7] 27))
      clear ho7 hb7 b7 rb7 rv7
      by_cases hev : ev = 0
      · subst hev
        have hpu := pack_unpack (b := b) HBY.out (by rw [HU.out])
        rw [HU.out] at hpu
        simp only at hpu
        have hpk : packF v = (b, 0) := by unfold packF; rw [if_pos hpu.1, hpu.2]
        have hvl : v.length ≤ maxLen := by
          have := hpu.1
          simp [saneF] at this
          unfold maxLen; omega
        have HPK := Lib.hid hpk; have HSV := Lib.hid hpu.1; have HVL := Lib.hid hvl
        clear hpk hpu hvl
        go_wp2_with fail
        refine (pack_any v A7 c7 _ RV7.out HVL.out).mono ?_
        rintro e w8 ⟨A8, c8, rfl, ho8, hb8⟩
        simp only [HPK.out] at ho8 ⊢
        have x1 := run_strC (Rd.of_own ho8) 42 5 9 c8 Try.underlying42 Try.underlying5 Try.underlying9
        have x2 := run_strC (RB7.out.next hb8) 42 5 9 d Try.underlying42 Try.underlying5 Try.underlying9
        have n8 := bk_cell (bk_past N7.out hb8 (Nat.le_refl _)) 0 _ rfl
        have rv8 := Lib.hid (RV7.out.next hb8)
        have b8 := bt B7.out hb8 B7.out.size
        clear ho8
        go_wp2_with (go_at_call 16; refine (sane_any v A7 c7 _ _ (Nat.le_refl _) rv8.out HVL.out).mono ?_; rintro e w9 ⟨rfl, hb9⟩; simp only [HSV.out])
        go_ret
        exact ⟨rfl, bt b8 hb9 b8.size⟩
      · have d4 : (ev != 0) = true := bne_iff_ne.2 hev
        have hv0 : v = [] := by
          have := unpack_bad (b := b) (by rw [HU.out]; exact hev)
          rw [HU.out] at this
          exact this
        subst hv0
        have n7 := bk_cell N7.out 0 _ rfl
        clear hev
        go_wp2_with fail
        go_ret
        exact ⟨rfl, B7.out⟩
    · obtain ⟨⟨hpne, hp3⟩, hbad⟩ := HSH.out ht
      obtain ⟨m, hm⟩ : ∃ m, P.length = m + 1 := ⟨P.length - 1, by have := List.length_pos_iff.2 hpne; omega⟩
      obtain ⟨v6, e6, hu6⟩ : ∃ v6 e6, unpackF P.dropLast = (v6, e6) := ⟨_, _, rfl⟩
      rw [hu6] at hbad
      have hdl : P.dropLast.length = m := by simp; omega
      have hun : ∀ W : World, Rd W W.heap.size A4 (bC P) → Calls Try.prog 39 #[.slice A4 m c4] W fun e w' => ∃ A' c', e = .returned (.tuple #[.agg #[.slice A' v6.length c'], .int .i64 e6]) ∧ Below W.heap.size W w' := fun W hW => by
        have h := unpack_any P.dropLast A4 c4 W (by have := hW.take m; rw [List.dropLast_eq_take, hm]; simpa [bC] using this) (fun y hy => HPB.out y (List.dropLast_subset _ hy)) (by omega) (by omega)
        rw [hdl, hu6] at h
        exact h.mono fun _ _ ⟨A', c', h1, _, h2⟩ => ⟨A', c', h1, h2⟩
      have HUN := Lib.hid hun
      have i0 : (0 : Int) < (m : Int) := by omega
      have i4 : 0 < m := by omega
      have i5 : ¬ m = 0 := by omega
      have i1 : (m : Int) ≤ (c4 : Int) := by omega
      have i2 : (m : Int) ≤ 6000 := by omega
      have i3 : m ≤ 6000 := by omega
      have d5 : decide (0 < t.length) = true := by have := List.length_pos_iff.2 ht; simp; omega
      have d6 : (e6 == 0) = false := beq_eq_false_iff_ne.2 hbad
      clear hun hbad hu6 hdl hpne ht
      simp only [hm]
      clear hm
      go_wp2_with fail
      refine (HUN.out _ RP26.out).mono ?_
      rintro e w6 ⟨A6, c6, rfl, hb6⟩
      have q6 := past hb6 q3
      have q7 := (World.cell?_alloc_lt w6 (.cells #[.slice A6 v6.length c6] 27) _ (World.block_lt_of_cell? w6 _ q6)).trans q6
      have RBX := Lib.hid ((RB26.out.next hb6).nextA (.cells #[.slice A6 v6.length c6] 27))
      have BX := Lib.hid ((bt B26.out hb6 B26.out.size).alloc (bt B26.out hb6 B26.out.size).size (.cells #[.slice A6 v6.length c6] 27))
      clear hb6 hb26 q3 q6
      go_wp2_with fail
      refine (unpack_any b B d _ RBX.out HBY.out (by omega) hbd).mono ?_
      rintro e w7 ⟨A7, c7, rfl, ho7, hb7⟩
      simp only [HU.out] at ho7 ⊢
      have b7 := bt BX.out hb7 BX.out.size
      have rb7 := (RBX.out.next hb7).nextA (.cells #[.slice A7 v.length c7] 27)
      have rv7 := (Rd.of_own ho7).nextA (.cells #[.slice A7 v.length c7] 27)
      have RB7 := Lib.hid rb7; have RV7 := Lib.hid rv7; have B7 := Lib.hid (b7.alloc b7.size (.cells #[.slice A7 v.length c7] 27))
      have N7 := Lib.hid (heap_alloc_new w7 (.cells #[.slice A7 v.length c7] 27))
      clear ho7 hb7 b7 rb7 rv7
      by_cases hev : ev = 0
      · subst hev
        have hpu := pack_unpack (b := b) HBY.out (by rw [HU.out])
        rw [HU.out] at hpu
        simp only at hpu
        have hpk : packF v = (b, 0) := by unfold packF; rw [if_pos hpu.1, hpu.2]
        have hvl : v.length ≤ maxLen := by
          have := hpu.1
          simp [saneF] at this
          unfold maxLen; omega
        have HPK := Lib.hid hpk; have HSV := Lib.hid hpu.1; have HVL := Lib.hid hvl
        clear hpk hpu hvl
        go_wp2_with fail
        refine (pack_any v A7 c7 _ RV7.out HVL.out).mono ?_
        rintro e w8 ⟨A8, c8, rfl, ho8, hb8⟩
        simp only [HPK.out] at ho8 ⊢
        have x1 := run_strC (Rd.of_own ho8) 42 5 9 c8 Try.underlying42 Try.underlying5 Try.underlying9
        have x2 := run_strC (RB7.out.next hb8) 42 5 9 d Try.underlying42 Try.underlying5 Try.underlying9
        have n8 := bk_cell (bk_past N7.out hb8 (Nat.le_refl _)) 0 _ rfl
        have rv8 := Lib.hid (RV7.out.next hb8)
        have b8 := bt B7.out hb8 B7.out.size
        clear ho8
        go_wp2_with (go_at_call 16; refine (sane_any v A7 c7 _ _ (Nat.le_refl _) rv8.out HVL.out).mono ?_; rintro e w9 ⟨rfl, hb9⟩; simp only [HSV.out])
        go_ret
        exact ⟨rfl, bt b8 hb9 b8.size⟩
      · have d4 : (ev != 0) = true := bne_iff_ne.2 hev
        have hv0 : v = [] := by
          have := unpack_bad (b := b) (by rw [HU.out]; exact hev)
          rw [HU.out] at this
          exact this
        subst hv0
        have n7 := bk_cell N7.out 0 _ rfl
        clear hev
        go_wp2_with fail
        go_ret
        exact ⟨rfl, B7.out⟩
  · have d3 : (er == 0) = false := beq_eq_false_iff_ne.2 he
    clear he
    have RBX := Lib.hid (RB3.out.nextA (.cells #[.slice A3 t.length c3] 27))
    have BX := Lib.hid (B3.out.alloc B3.out.size (.cells #[.slice A3 t.length c3] 27))
    go_wp2_with fail
    refine (unpack_any b B d _ RBX.out HBY.out (by omega) hbd).mono ?_
    rintro e w7 ⟨A7, c7, rfl, ho7, hb7⟩
    simp only [HU.out] at ho7 ⊢
    have b7 := bt BX.out hb7 BX.out.size
    have rb7 := (RBX.out.next hb7).nextA (.cells #[.slice A7 v.length c7] 27)
    have rv7 := (Rd.of_own ho7).nextA (.cells #[.slice A7 v.length c7] 27)
    have RB7 := Lib.hid rb7; have RV7 := Lib.hid rv7; have B7 := Lib.hid (b7.alloc b7.size (.cells #[.slice A7 v.length c7] 27))
    have N7 := Lib.hid (heap_alloc_new w7 (.cells #[.slice A7 v.length c7] 27))
    clear ho7 hb7 b7 rb7 rv7
    by_cases hev : ev = 0
    · subst hev
      have hpu := pack_unpack (b := b) HBY.out (by rw [HU.out])
      rw [HU.out] at hpu
      simp only at hpu
      have hpk : packF v = (b, 0) := by unfold packF; rw [if_pos hpu.1, hpu.2]
      have hvl : v.length ≤ maxLen := by
        have := hpu.1
        simp [saneF] at this
        unfold maxLen; omega
      have HPK := Lib.hid hpk; have HSV := Lib.hid hpu.1; have HVL := Lib.hid hvl
      clear hpk hpu hvl
      go_wp2_with fail
      refine (pack_any v A7 c7 _ RV7.out HVL.out).mono ?_
      rintro e w8 ⟨A8, c8, rfl, ho8, hb8⟩
      simp only [HPK.out] at ho8 ⊢
      have x1 := run_strC (Rd.of_own ho8) 42 5 9 c8 Try.underlying42 Try.underlying5 Try.underlying9
      have x2 := run_strC (RB7.out.next hb8) 42 5 9 d Try.underlying42 Try.underlying5 Try.underlying9
      have n8 := bk_cell (bk_past N7.out hb8 (Nat.le_refl _)) 0 _ rfl
      have rv8 := Lib.hid (RV7.out.next hb8)
      have b8 := bt B7.out hb8 B7.out.size
      clear ho8
      go_wp2_with (go_at_call 16; refine (sane_any v A7 c7 _ _ (Nat.le_refl _) rv8.out HVL.out).mono ?_; rintro e w9 ⟨rfl, hb9⟩; simp only [HSV.out])
      go_ret
      exact ⟨rfl, bt b8 hb9 b8.size⟩
    · have d4 : (ev != 0) = true := bne_iff_ne.2 hev
      have hv0 : v = [] := by
        have := unpack_bad (b := b) (by rw [HU.out]; exact hev)
        rw [HU.out] at this
        exact this
      subst hv0
      have n7 := bk_cell N7.out 0 _ rfl
      clear hev
      go_wp2_with fail
      go_ret
      exact ⟨rfl, B7.out⟩
end Go.Proofs.Ytcempbgbdlmjfaa
