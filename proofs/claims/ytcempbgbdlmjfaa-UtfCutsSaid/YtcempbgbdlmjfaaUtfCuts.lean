/-
  lapwinglaw03.UtfCuts: for any bytes and any numbers it answers true: however bytes are cut, the letters are the same, and what is left is the same. No condition.
-/
import Derived.Test.YtcempbgbdlmjfaaUtI
import Derived.Deep.DeepCutAuto
import Derived.Deep.RegionHeld3
namespace Go.Proofs.Ytcempbgbdlmjfaa
open Go.RowKit

theorem and_7i (k : Int) : ∃ m : Nat, bits .and .i64 k 7 = (m : Int) ∧ m < 8 :=
  ⟨_, and_low k 3 (by omega) 7 (by decide), by have := Nat.mod_lt (BitVec.ofInt 64 k).toNat (show 0 < 2 ^ 3 by decide); omega⟩
theorem feed_len (b : List Int) : (feedF b).2.length ≤ b.length := by have := feed_count b; omega
/-- a piece more -/
theorem feed_more (b : List Int) (p n : Nat) : feedF ((feedF (b.take p)).1 ++ (b.drop p).take n) = ((feedF (b.take (p + n))).1, (feedF ((feedF (b.take p)).1 ++ (b.drop p).take n)).2) ∧
    (feedF (b.take (p + n))).2 = (feedF (b.take p)).2 ++ (feedF ((feedF (b.take p)).1 ++ (b.drop p).take n)).2 := by
  have h := feed_append (b.take p) ((b.drop p).take n)
  have e : b.take p ++ (b.drop p).take n = b.take (p + n) := (List.take_add).symm
  rw [e] at h
  rw [h]
  exact ⟨rfl, rfl⟩
theorem feed_rest (b : List Int) (p : Nat) : feedF ((feedF (b.take p)).1 ++ b.drop p) = ((feedF b).1, (feedF ((feedF (b.take p)).1 ++ b.drop p)).2) ∧
    (feedF b).2 = (feedF (b.take p)).2 ++ (feedF ((feedF (b.take p)).1 ++ b.drop p)).2 := by
  have h := feed_append (b.take p) (b.drop p)
  rw [List.take_append_drop] at h
  rw [h]
  exact ⟨rfl, rfl⟩
theorem feed_bytes (b : List Int) (h : Bytes b) : Bytes (feedF b).1 := fun y hy => h y (feed_sub b y hy)

set_option maxRecDepth 100000 in
set_option maxHeartbeats 6400000 in
theorem cuts_walk (b cuts : List Int) (A A' : Option Addr) (c c' : Nat) (w : World) (hr : Rd w w.heap.size A (byteCells b)) (hr' : Rd w w.heap.size A' (intCells cuts)) (hb : Bytes b) (hl : b.length ≤ maxLen) (hl' : cuts.length ≤ maxLen) (hcap : b.length ≤ c) :
    Calls Try.prog 6 #[.slice A b.length c, .slice A' cuts.length c'] w fun e w' => e = .returned (.bool true) ∧ Below w.heap.size w w' := by
  unfold maxLen at hl hl'
  by_cases h5 : 500 < b.length
  · go_enter Try.func6, Try.ntmps6
    go_wp2_with (go_at_call 25; refine (awake3_any _).mono ?_; rintro e w1 ⟨rfl, hb1⟩)
    go_ret
    exact ⟨rfl, hb1⟩
  by_cases h6 : 60 < cuts.length
  · go_enter Try.func6, Try.ntmps6
    go_wp2_with (go_at_call 25; refine (awake3_any _).mono ?_; rintro e w1 ⟨rfl, hb1⟩)
    go_ret
    exact ⟨rfl, hb1⟩
  have HB := Lib.hid hb; clear hb
  go_enter Try.func6, Try.ntmps6
  go_wp2_with (go_at_call 25; refine (awake3_any _).mono ?_; rintro e w1 ⟨rfl, hb1⟩; have hr1 := (hr.next hb1).nextA (.cells #[.slice none 0 0] 45); have hr1' := (hr'.next hb1).nextA (.cells #[.slice none 0 0] 45); have m1 := hb1.size)
  have hr0 := hr.next hb1
  have hr0' := hr'.next hb1
  clear hr1 hr1' hr hr'
  go_loopw [7, 8, 9] (fun out pos i wr => ∃ (k p n ol cs co : Nat) (As Ao : Option Addr), i = .int .i64 k ∧ k ≤ cuts.length ∧ pos = .int .i64 p ∧ p ≤ b.length ∧ n = (feedF (b.take p)).1.length ∧ ol = (feedF (b.take p)).2.length ∧ out = .slice Ao ol co ∧
    wr.cell? ⟨w1.heap.size, 0, none⟩ = some (.slice As n cs) ∧ wr.frozen? ⟨w1.heap.size, 0, none⟩ = false ∧ wr.ownsRow (w1.heap.size + 1) 5 1 (.slice As n cs) n (byteCells (feedF (b.take p)).1) ∧ wr.ownsRow (w1.heap.size + 1) 3 1 out ol (intCells (feedF (b.take p)).2) ∧ Apart out (.slice As n cs) ∧ w1.heap.size < wr.heap.size ∧ Below w1.heap.size w1 wr) (fun _ _ i _ => cuts.length - (intOf i).toNat)
  case atStart => exact ⟨0, 0, 0, 0, 0, 0, none, none, rfl, by omega, rfl, by omega, by simp [feedF_nil], by simp [feedF_nil], rfl, new_cell (Below.refl _ _) 0 _ rfl, new_frozen (Below.refl _ _) 0, World.ownsRow_nil _ _ _ _, World.ownsRow_nil _ _ _ _, apart_nil _ _ _, by simp, (Below.refl _ _).alloc (Nat.le_refl _) _⟩
  case round =>
    obtain ⟨k, p, n, ol, cs, co, As, Ao, rfl, hk, rfl, hp, hn, hol, rfl, qc, qf, hos, hoo, hap, hgs, hbw⟩ := hrel
    have HN := Lib.hid hn; have HOL := Lib.hid hol; clear hn hol
    by_cases hlt : k < cuts.length
    · obtain ⟨bc, oc, rfl, hbc, hcc⟩ := hr0' (by simp [intCells]; omega)
      have c0 : w1.cell? ⟨bc, oc + k, none⟩ = some (.int .i64 cuts[k]) := by simpa [intCells] using hcc k (by simpa [intCells] using hlt)
      have d0 := past hbw c0
      clear c0 hcc hr0'
      obtain ⟨y, hy⟩ : ∃ y, cuts[k] = y := ⟨_, rfl⟩
      rw [hy] at d0
      clear hy
      obtain ⟨q, hq, hq8⟩ := and_7i y
      obtain ⟨nn, hnn⟩ : ∃ nn, min q (b.length - p) = nn := ⟨_, rfl⟩
      have hnp : p + nn ≤ b.length := by omega
      have hmin : min (q : Int) ((b.length : Int) - (p : Int)) = (nn : Int) := by omega
      clear hnn
      have hmore := feed_more b p nn
      have hst : sanU (feedF (b.take p)).1 = true := feed_sane _
      have hbs : Bytes (feedF (b.take p)).1 := feed_bytes _ (fun y hy => HB.out y (List.mem_of_mem_take hy))
      have hbp : Bytes ((b.drop p).take nn) := fun y hy => HB.out y (List.mem_of_mem_drop (List.mem_of_mem_take hy))
      have hlp : ((b.drop p).take nn).length = nn := by simp; omega
      have HM := Lib.hid hmore; have HST := Lib.hid hst; have HBS := Lib.hid hbs; have HBP := Lib.hid hbp; have HLP := Lib.hid hlp
      clear hmore hst hbs hbp hlp
      obtain ⟨m, hm⟩ : ∃ m, (feedF ((feedF (b.take p)).1 ++ (b.drop p).take nn)).2 = m := ⟨_, rfl⟩
      obtain ⟨t, ht⟩ : ∃ t, (feedF (b.take (p + nn))).1 = t := ⟨_, rfl⟩
      have hf : feedF ((feedF (b.take p)).1 ++ (b.drop p).take nn) = (t, m) := by rw [HM.out.1, hm, ht]
      have hout : (feedF (b.take (p + nn))).2 = (feedF (b.take p)).2 ++ m := by rw [HM.out.2, hm]
      have hml : ol + m.length ≤ 500 := by
        have h1 := feed_len (b.take (p + nn))
        rw [hout, List.length_append, ← HOL.out] at h1
        simp at h1
        omega
      have HT := Lib.hid ht; have HF := Lib.hid hf; have HOUT := Lib.hid hout
      clear hm ht hf hout
      have rdb : nn ≠ 0 → ∃ bb off, A = some ⟨bb, off, none⟩ ∧ Rd wr wr.heap.size (some ⟨bb, off + p, none⟩) (byteCells ((b.drop p).take nn)) := by
        intro h0
        have h := hr0.below hbw (Nat.le_refl _)
        obtain ⟨bb, off, rfl, _, _⟩ := h (by rw [byteCells_len]; omega)
        refine ⟨bb, off, rfl, ?_⟩
        have h2 := ((h.drop p).take nn).more (show w1.heap.size ≤ wr.heap.size by omega)
        rw [show ((byteCells b).drop p).take nn = byteCells ((b.drop p).take nn) from by simp [byteCells]] at h2
        exact h2
      have hns := Rd.of_own hos
      have RDB := Lib.hid rdb; have RNS := Lib.hid hns
      clear rdb hns
      have qs : IntKind.i64.wrap ((p : Int) + (nn : Int)) = (p : Int) + (nn : Int) := IntWalk.i64_in _ (by omega)
      have i0 : (0 : Int) ≤ (p : Int) := by omega
      have i1 : (p : Int) ≤ (p : Int) + (nn : Int) := by omega
      have i2 : (p : Int) + (nn : Int) ≤ (c : Int) := by omega
      have i3 : ((p : Int) + (nn : Int)).toNat = p + nn := by omega
      go_upto_region 11 with (fail)
      go_cut [11, 12] (fun s11 s12 wx => Fed wr wx s11 s12 t m)
      case first =>
        by_cases h0 : nn = 0
        · have hpe : byteCells ((b.drop p).take nn) = [] := by rw [h0]; rfl
          have HPE := Lib.hid hpe; clear hpe h0
          cases A with
          | none =>
            go_region_held3 (fun w' => w'.cell? ⟨w1.heap.size, 0, none⟩ = some (.slice As n cs)) (first | exact past hb4 (by assumption) | go_keep | (rw [World.cell?_alloc_lt _ _ _ (show w1.heap.size < w4.heap.size by omega)]; exact (hb4.cell (p := ⟨w1.heap.size, 0, none⟩) (by simp; omega)).trans (by simpa using qc)) | (rw [World.cell?_setCell_far _ _ _ _ (show wr.heap.size ≠ w1.heap.size by omega)]; assumption))
              (first | (go_at_call 26; refine (feed_says (feedF (b.take p)).1 ((b.drop p).take nn) t m As _ n nn cs _ _ wr.heap.size (by simp) (by first | exact RNS.out | exact RNS.out.alloc (by simp) _) (by rw [HPE.out]; exact Rd.nil _ _ _) HST.out HBS.out HBP.out (by rw [HLP.out]; omega) HN.out.symm HLP.out HF.out).mono ?_; rintro e w4 ⟨A5, c5, A6, c6, rfl, ho5, ho6, hb4⟩; have m4 := hb4.size; simp at m4; obtain ⟨hc4, hf4⟩ := bcell hb4))
            all_goals go_wp2_with fail
            all_goals go_meet
            · exact fed_1d hb4 ho5 ho6
            · exact fed_2d hb4 ho5 ho6
          | some a =>
            by_cases hcp : c = p
            · subst hcp
              go_region_held3 (fun w' => w'.cell? ⟨w1.heap.size, 0, none⟩ = some (.slice As n cs)) (first | exact past hb4 (by assumption) | go_keep | (rw [World.cell?_alloc_lt _ _ _ (show w1.heap.size < w4.heap.size by omega)]; exact (hb4.cell (p := ⟨w1.heap.size, 0, none⟩) (by simp; omega)).trans (by simpa using qc)) | (rw [World.cell?_setCell_far _ _ _ _ (show wr.heap.size ≠ w1.heap.size by omega)]; assumption))
                (first | (go_at_call 26; refine (feed_says (feedF (b.take c)).1 ((b.drop c).take nn) t m As _ n nn cs _ _ wr.heap.size (by simp) (by first | exact RNS.out | exact RNS.out.alloc (by simp) _) (by rw [HPE.out]; exact Rd.nil _ _ _) HST.out HBS.out HBP.out (by rw [HLP.out]; omega) HN.out.symm HLP.out HF.out).mono ?_; rintro e w4 ⟨A5, c5, A6, c6, rfl, ho5, ho6, hb4⟩; have m4 := hb4.size; simp at m4; obtain ⟨hc4, hf4⟩ := bcell hb4))
              all_goals go_wp2_with fail
              all_goals go_meet
              · exact fed_1d hb4 ho5 ho6
              · exact fed_2d hb4 ho5 ho6
            · go_region_held3 (fun w' => w'.cell? ⟨w1.heap.size, 0, none⟩ = some (.slice As n cs)) (first | exact past hb4 (by assumption) | go_keep | (rw [World.cell?_alloc_lt _ _ _ (show w1.heap.size < w4.heap.size by omega)]; exact (hb4.cell (p := ⟨w1.heap.size, 0, none⟩) (by simp; omega)).trans (by simpa using qc)) | (rw [World.cell?_setCell_far _ _ _ _ (show wr.heap.size ≠ w1.heap.size by omega)]; assumption))
                (first | (go_at_call 26; refine (feed_says (feedF (b.take p)).1 ((b.drop p).take nn) t m As _ n nn cs _ _ wr.heap.size (by simp) (by first | exact RNS.out | exact RNS.out.alloc (by simp) _) (by rw [HPE.out]; exact Rd.nil _ _ _) HST.out HBS.out HBP.out (by rw [HLP.out]; omega) HN.out.symm HLP.out HF.out).mono ?_; rintro e w4 ⟨A5, c5, A6, c6, rfl, ho5, ho6, hb4⟩; have m4 := hb4.size; simp at m4; obtain ⟨hc4, hf4⟩ := bcell hb4))
              all_goals go_wp2_with fail
              all_goals go_meet
              · exact fed_1d hb4 ho5 ho6
              · exact fed_2d hb4 ho5 ho6
        · obtain ⟨bb, off, hA, hrd⟩ := RDB.out h0
          subst hA
          have hcp : ¬ c = p := by omega
          go_region_held3 (fun w' => w'.cell? ⟨w1.heap.size, 0, none⟩ = some (.slice As n cs)) (first | exact past hb4 (by assumption) | go_keep | (rw [World.cell?_alloc_lt _ _ _ (show w1.heap.size < w4.heap.size by omega)]; exact (hb4.cell (p := ⟨w1.heap.size, 0, none⟩) (by simp; omega)).trans (by simpa using qc)) | (rw [World.cell?_setCell_far _ _ _ _ (show wr.heap.size ≠ w1.heap.size by omega)]; assumption))
            (first | (go_at_call 26; refine (feed_says (feedF (b.take p)).1 ((b.drop p).take nn) t m As _ n nn cs _ _ wr.heap.size (by simp) (by first | exact RNS.out | exact RNS.out.alloc (by simp) _) (by first | exact hrd | exact hrd.alloc (by simp) _) HST.out HBS.out HBP.out (by rw [HLP.out]; omega) HN.out.symm HLP.out HF.out).mono ?_; rintro e w4 ⟨A5, c5, A6, c6, rfl, ho5, ho6, hb4⟩; have m4 := hb4.size; simp at m4; obtain ⟨hc4, hf4⟩ := bcell hb4))
          all_goals go_wp2_with fail
          all_goals go_meet
          · exact fed_1d hb4 ho5 ho6
          · exact fed_2d hb4 ho5 ho6
      case rest =>
        obtain ⟨⟨g, A5, c5, A6, c6, rfl, rfl, qg, qgf, hg1, hg2, ho5, ho6⟩, hbx⟩ := hcut
        have mx := hbx.size
        have qcx := past hbx qc
        have qfx := past_frozen hbx hgs qf
        have hoox := own_past hoo hbx
        have ho5s := own_far (p := ⟨w1.heap.size, 0, none⟩) ho5 (show w1.heap.size < wr.heap.size by omega) (.slice A5 t.length c5)
        have ho6s := own_far (p := ⟨w1.heap.size, 0, none⟩) ho6 (show w1.heap.size < wr.heap.size by omega) (.slice A5 t.length c5)
        have hoos := own_far (p := ⟨w1.heap.size, 0, none⟩) hoox (show w1.heap.size < w1.heap.size + 1 by omega) (.slice A5 t.length c5)
        have rd6 := Rd.of_own ho6s
        have hbs2 : Below w1.heap.size w1 (wc.setCell ⟨w1.heap.size, 0, none⟩ (.slice A5 t.length c5)) := (bt hbw hbx (by omega)).setCell (by simp) _
        have qcs : (wc.setCell ⟨w1.heap.size, 0, none⟩ (.slice A5 t.length c5)).cell? ⟨w1.heap.size, 0, none⟩ = some (.slice A5 t.length c5) := World.cell?_setCell_same _ _ _ qcx
        have qfs : (wc.setCell ⟨w1.heap.size, 0, none⟩ (.slice A5 t.length c5)).frozen? ⟨w1.heap.size, 0, none⟩ = false := by simpa using qfx
        have hszs : (wc.setCell ⟨w1.heap.size, 0, none⟩ (.slice A5 t.length c5)).heap.size = wc.heap.size := by simp [World.setCell]
        have hap5 : Apart (.slice Ao ol co) (.slice A5 t.length c5) := fun g' h1 h2 => by
          have a1 := own_lt hoo g' h1
          have a2 := own_ge ho5 g' h2
          omega
        clear hoox ho5 ho6 hbx hos hoo qc qf
        have H1 := Lib.hid ho5s; have H2 := Lib.hid hap5; have H3 := Lib.hid qcs; have H4 := Lib.hid qfs; have H5 := Lib.hid hszs; have H6 := Lib.hid hbs2
        clear ho5s hap5 qcs qfs hszs hbs2
        go_wp2_with (at_builtin; go_loud (refine wpList_cat (by rfl) (.tmp 56) (.tmp 57) 43 el_int (by rfl) (w1.heap.size + 1) _ ol (intCells (feedF (b.take p)).2) (by rfl) hoos _ A6 m.length c6 (intCells m) (by rfl) rd6 (by simp [intCells]) (intCells_one _) (by unfold maxLen; omega) (by omega) (by rw [H5.out]; omega) ?_); intro A7 c7 w7 ho7 hg7 hl7)
        have hne : some w1.heap.size ≠ (Value.slice Ao ol co).ownBlock := fun e => by have := own_ge hoos w1.heap.size e.symm; omega
        have m7 := hg7.size
        go_roundw
        case rel =>
          refine ⟨k + 1, p + nn, t.length, ol + m.length, c5, c7, A5, A7, by go_num, by omega, by go_num, hnp, by rw [HT.out], by rw [HOUT.out, List.length_append, ← HOL.out], rfl, World.grownBy.cell hg7 H3.out hne, ?_, ?_, ?_, ?_, ?_, ?_⟩
          · exact (World.grownBy.frozen_far hg7 ⟨w1.heap.size, 0, none⟩ (by rw [H5.out]; show w1.heap.size < wc.heap.size; omega) hne).trans H4.out
          · rw [HT.out]; exact own_base (own_apart H1.out hg7 H2.out) (by omega)
          · rw [HOUT.out, intCells_append]; exact ho7
          · exact Apart.grow H2.out H1.out (Nat.le_refl _) hl7
          · rw [H5.out] at m7; omega
          · exact bt H6.out (below_of_grown hg7 (show w1.heap.size ≤ _ by rw [H5.out]; omega) (fun g' e => by have := own_ge hoos g' e; omega)) (Nat.le_refl _)
        case measure => simp [intOf]; omega
    · obtain rfl : k = cuts.length := by omega
      have hmore := feed_rest b p
      have hst : sanU (feedF (b.take p)).1 = true := feed_sane _
      have hbs : Bytes (feedF (b.take p)).1 := feed_bytes _ (fun y hy => HB.out y (List.mem_of_mem_take hy))
      have hbp : Bytes (b.drop p) := HB.out.drop p
      have hlp : (b.drop p).length = b.length - p := by simp
      have HM := Lib.hid hmore; have HST := Lib.hid hst; have HBS := Lib.hid hbs; have HBP := Lib.hid hbp; have HLP := Lib.hid hlp
      clear hmore hst hbs hbp hlp
      obtain ⟨m, hm⟩ : ∃ m, (feedF ((feedF (b.take p)).1 ++ b.drop p)).2 = m := ⟨_, rfl⟩
      obtain ⟨t, ht⟩ : ∃ t, (feedF b).1 = t := ⟨_, rfl⟩
      have hf : feedF ((feedF (b.take p)).1 ++ b.drop p) = (t, m) := by rw [HM.out.1, hm, ht]
      have hout : (feedF b).2 = (feedF (b.take p)).2 ++ m := by rw [HM.out.2, hm]
      have hml : ol + m.length ≤ 500 := by
        have h1 := feed_len b
        rw [hout, List.length_append, ← HOL.out] at h1
        omega
      have HT := Lib.hid ht; have HF := Lib.hid hf; have HOUT := Lib.hid hout
      clear hm ht hf hout
      have hrb := (hr0.below hbw (Nat.le_refl _)).more (show w1.heap.size ≤ wr.heap.size by omega)
      have rdb : b.length - p ≠ 0 → ∃ bb off, A = some ⟨bb, off, none⟩ ∧ Rd wr wr.heap.size (some ⟨bb, off + p, none⟩) (byteCells (b.drop p)) := by
        intro h0
        obtain ⟨bb, off, rfl, _, _⟩ := hrb (by rw [byteCells_len]; omega)
        refine ⟨bb, off, rfl, ?_⟩
        have h2 := hrb.drop p
        rw [show (byteCells b).drop p = byteCells (b.drop p) from by simp [byteCells]] at h2
        exact h2
      have hns := Rd.of_own hos
      have RDB := Lib.hid rdb; have RNS := Lib.hid hns; have HRB := Lib.hid hrb
      clear rdb hns hrb
      have i0 : (0 : Int) ≤ (p : Int) := by omega
      have i1 : (p : Int) ≤ (b.length : Int) := by omega
      have i2 : (b.length : Int) ≤ (c : Int) := by omega
      go_upto_region 15 with (fail)
      go_cut [13, 14] (fun s13 s14 wx => Fed wr wx s13 s14 t m)
      case first =>
        by_cases h0 : b.length - p = 0
        · have hdr : b.drop p = [] := List.drop_eq_nil_of_le (by omega)
          have hf0 := HF.out
          rw [hdr] at hf0
          have HF0 := Lib.hid hf0; clear hf0 hdr
          obtain rfl : p = b.length := by omega
          clear h0
          cases A with
          | none =>
            go_region_held3 (fun w' => w'.cell? ⟨w1.heap.size, 0, none⟩ = some (.slice As n cs)) (first | exact past hb4 (by assumption) | go_keep | (rw [World.cell?_alloc_lt _ _ _ (show w1.heap.size < w4.heap.size by omega)]; exact (hb4.cell (p := ⟨w1.heap.size, 0, none⟩) (by simp; omega)).trans (by simpa using qc)) | (rw [World.cell?_setCell_far _ _ _ _ (show wr.heap.size ≠ w1.heap.size by omega)]; assumption))
              (first | (go_at_call 26; refine (feed_says (feedF (b.take b.length)).1 [] t m As _ n 0 cs _ _ wr.heap.size (by simp) (by first | exact RNS.out | exact RNS.out.alloc (by simp) _) (Rd.nil _ _ _) HST.out HBS.out (by intro y hy; simp at hy) (by simp) HN.out.symm rfl HF0.out).mono ?_; rintro e w4 ⟨A5, c5, A6, c6, rfl, ho5, ho6, hb4⟩; have m4 := hb4.size; simp at m4; obtain ⟨hc4, hf4⟩ := bcell hb4))
            all_goals go_wp2_with fail
            all_goals go_meet
            · exact fed_1d hb4 ho5 ho6
            · exact fed_2d hb4 ho5 ho6
          | some a =>
            by_cases hcp : c = b.length
            · subst hcp
              go_region_held3 (fun w' => w'.cell? ⟨w1.heap.size, 0, none⟩ = some (.slice As n cs)) (first | exact past hb4 (by assumption) | go_keep | (rw [World.cell?_alloc_lt _ _ _ (show w1.heap.size < w4.heap.size by omega)]; exact (hb4.cell (p := ⟨w1.heap.size, 0, none⟩) (by simp; omega)).trans (by simpa using qc)) | (rw [World.cell?_setCell_far _ _ _ _ (show wr.heap.size ≠ w1.heap.size by omega)]; assumption))
                (first | (go_at_call 26; refine (feed_says (feedF (b.take b.length)).1 [] t m As _ n 0 cs _ _ wr.heap.size (by simp) (by first | exact RNS.out | exact RNS.out.alloc (by simp) _) (Rd.nil _ _ _) HST.out HBS.out (by intro y hy; simp at hy) (by simp) HN.out.symm rfl HF0.out).mono ?_; rintro e w4 ⟨A5, c5, A6, c6, rfl, ho5, ho6, hb4⟩; have m4 := hb4.size; simp at m4; obtain ⟨hc4, hf4⟩ := bcell hb4))
              all_goals go_wp2_with fail
              all_goals go_meet
              · exact fed_1d hb4 ho5 ho6
              · exact fed_2d hb4 ho5 ho6
            · go_region_held3 (fun w' => w'.cell? ⟨w1.heap.size, 0, none⟩ = some (.slice As n cs)) (first | exact past hb4 (by assumption) | go_keep | (rw [World.cell?_alloc_lt _ _ _ (show w1.heap.size < w4.heap.size by omega)]; exact (hb4.cell (p := ⟨w1.heap.size, 0, none⟩) (by simp; omega)).trans (by simpa using qc)) | (rw [World.cell?_setCell_far _ _ _ _ (show wr.heap.size ≠ w1.heap.size by omega)]; assumption))
                (first | (go_at_call 26; refine (feed_says (feedF (b.take b.length)).1 [] t m As _ n 0 cs _ _ wr.heap.size (by simp) (by first | exact RNS.out | exact RNS.out.alloc (by simp) _) (Rd.nil _ _ _) HST.out HBS.out (by intro y hy; simp at hy) (by simp) HN.out.symm rfl HF0.out).mono ?_; rintro e w4 ⟨A5, c5, A6, c6, rfl, ho5, ho6, hb4⟩; have m4 := hb4.size; simp at m4; obtain ⟨hc4, hf4⟩ := bcell hb4))
              all_goals go_wp2_with fail
              all_goals go_meet
              · exact fed_1d hb4 ho5 ho6
              · exact fed_2d hb4 ho5 ho6
        · obtain ⟨bb, off, hA, hrd⟩ := RDB.out h0
          subst hA
          have hcp : ¬ c = p := by omega
          go_region_held3 (fun w' => w'.cell? ⟨w1.heap.size, 0, none⟩ = some (.slice As n cs)) (first | exact past hb4 (by assumption) | go_keep | (rw [World.cell?_alloc_lt _ _ _ (show w1.heap.size < w4.heap.size by omega)]; exact (hb4.cell (p := ⟨w1.heap.size, 0, none⟩) (by simp; omega)).trans (by simpa using qc)) | (rw [World.cell?_setCell_far _ _ _ _ (show wr.heap.size ≠ w1.heap.size by omega)]; assumption))
            (first | (go_at_call 26; refine (feed_says (feedF (b.take p)).1 (b.drop p) t m As _ n (b.length - p) cs _ _ wr.heap.size (by simp) (by first | exact RNS.out | exact RNS.out.alloc (by simp) _) (by first | exact hrd | exact hrd.alloc (by simp) _) HST.out HBS.out HBP.out (by rw [HLP.out]; omega) HN.out.symm HLP.out HF.out).mono ?_; rintro e w4 ⟨A5, c5, A6, c6, rfl, ho5, ho6, hb4⟩; have m4 := hb4.size; simp at m4; obtain ⟨hc4, hf4⟩ := bcell hb4))
          all_goals go_wp2_with fail
          all_goals go_meet
          · exact fed_1d hb4 ho5 ho6
          · exact fed_2d hb4 ho5 ho6
      case rest =>
        obtain ⟨⟨g, A5, c5, A6, c6, rfl, rfl, qg, qgf, hg1, hg2, ho5, ho6⟩, hbx⟩ := hcut
        have mx := hbx.size
        have hoox := own_past hoo hbx
        have rd6 := Rd.of_own ho6
        have hLL : (feedF b).2.length = ol + m.length := by rw [HOUT.out, List.length_append, ← HOL.out]
        have hst2 : sanU t = true := by rw [← HT.out]; exact feed_sane _
        have hsh := san_short t hst2
        have hbt : Bytes t := by rw [← HT.out]; exact feed_bytes b HB.out
        have hf2 : feedF ([] ++ b) = (t, (feedF b).2) := by rw [List.nil_append, ← HT.out]
        have HLL := Lib.hid hLL; have HST2 := Lib.hid hst2; have HBT := Lib.hid hbt; have HF2 := Lib.hid hf2
        clear hLL hst2 hbt hf2
        have hapt : Apart (.slice Ao ol co) (.slice A5 t.length c5) := fun g' h1 h2 => by
          have a1 := own_lt hoo g' h1
          have a2 := own_ge ho5 g' h2
          omega
        have hneg : some g ≠ (Value.slice Ao ol co).ownBlock := fun e => by have := own_lt hoo g e.symm; omega
        have hblw : Below w.heap.size w wc := bt (bt hb1 hbw m1) hbx (by omega)
        have HAPT := Lib.hid hapt; have HO5 := Lib.hid ho5; have HNEG := Lib.hid hneg; have HBX := Lib.hid hbx; have HOOX := Lib.hid hoox
        have HR1 := Lib.hid (hr0.below hbw (Nat.le_refl _))
        clear hapt ho5 hneg hbx hoo hos ho6 hoox qc qf hbw hb1
        go_wp2_with (at_builtin; (refine wpList_cat (by rfl) (.tmp 70) (.tmp 71) 43 el_int (by rfl) (w1.heap.size + 1) _ ol (intCells (feedF (b.take p)).2) (by rfl) HOOX.out _ A6 m.length c6 (intCells m) (by rfl) rd6 (by simp [intCells]) (intCells_one _) (by unfold maxLen; omega) (by omega) (by omega) ?_); intro A7 c7 w7 ho7 hg7 hl7; rw [← intCells_append, ← HOUT.out] at ho7; have m7 := hg7.size; have qg7 := World.grownBy.cell hg7 qg HNEG.out; have ho57 := own_apart HO5.out hg7 HAPT.out; have b7 : Below w.heap.size w w7 := bt hblw (below_of_grown hg7 (show w1.heap.size + 1 ≤ _ by omega) (fun g' e => own_ge HOOX.out g' e)) (by omega); have hrb7 : Rd w7 w1.heap.size A (byteCells b) := (HR1.out.below HBX.out (by omega)).below (below_of_grown hg7 (show w1.heap.size + 1 ≤ _ by omega) (fun g' e => own_ge HOOX.out g' e)) (by omega))
        have rd7o := Rd.of_own ho7
        have rd7t := Rd.of_own ho57
        clear hg7 hl7 ho7
        have hfd := feed_says [] b t (feedF b).2 none A 0 b.length 0 c w7 w1.heap.size (by omega) (Rd.nil _ _ _) hrb7 rfl (by intro y hy; simp at hy) HB.out (by omega) rfl rfl HF2.out
        rw [HLL.out] at hfd
        refine hfd.mono ?_
        rintro e w8 ⟨A8, c8, A9, c9, rfl, ho8, ho9, hb8⟩
        clear hfd
        have m8 := hb8.size
        have rd9 := (Rd.of_own ho9).nextA (.cells #[.slice A8 t.length c8] 45)
        have rd8 := (Rd.of_own ho8).nextA (.cells #[.slice A8 t.length c8] 45)
        have rd8o := (rd7o.next hb8).nextA (.cells #[.slice A8 t.length c8] 45)
        have rd8t := (rd7t.next hb8).nextA (.cells #[.slice A8 t.length c8] 45)
        have b8 := bt b7 hb8 (by omega)
        have qg8 := (World.cell?_alloc_lt w8 (.cells #[.slice A8 t.length c8] 45) ⟨g, 0, none⟩ (show g < w8.heap.size by omega)).trans (past hb8 qg7)
        clear ho8 ho9 hb8 rd7o rd7t b7 qg7 ho57 hrb7
        go_wp2_with fail
        have hin := ints_any (feedF b).2 A7 A9 c7 c9 _ _ rd8o rd9 (by rw [HLL.out]; unfold maxLen; omega)
        rw [HLL.out] at hin
        refine hin.mono ?_
        rintro e w9 ⟨rfl, hb9⟩
        clear hin
        have qg9 := past hb9 qg8
        have qu9 : w9.cell? ⟨w8.heap.size, 0, none⟩ = some (.slice A8 t.length c8) := new_cell hb9 0 _ rfl
        have x1 := run_str (rd8t.next hb9) 42 5 9 c5 Try.underlying42 Try.underlying5 Try.underlying9
        have x2 := run_str (rd8.next hb9) 42 5 9 c8 Try.underlying42 Try.underlying5 Try.underlying9
        have rd9t := rd8t.next hb9
        have b9 := bt (b8.alloc b8.size (.cells #[.slice A8 t.length c8] 45)) hb9 (by simp; omega)
        clear hb9 qg8 rd9 rd8 rd8o rd8t
        go_wp2_with (go_at_call 28; refine (saneU_any t A5 c5 _ _ (Nat.le_refl _) rd9t HBT.out (by unfold maxLen; omega)).mono ?_; rintro e w10 ⟨rfl, hb10⟩; simp only [HST2.out]; have qg10 := past hb10 qg9)
        go_ret
        exact ⟨ret_bool (decide_eq_true (by omega)), bt b9 hb10 b9.size⟩
end Go.Proofs.Ytcempbgbdlmjfaa
