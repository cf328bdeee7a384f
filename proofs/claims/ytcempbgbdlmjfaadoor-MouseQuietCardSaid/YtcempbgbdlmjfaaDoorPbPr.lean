/-
  params: the walk of Print.
-/
import Derived.Test.YtcempbgbdlmjfaaDoorPbBld
import Derived.Test.YtcempbgbdlmjfaaDoorPbPlain
import Derived.Test.YtcempbgbdlmjfaaDoorPaG
import Derived.Lib.SmallJoins
namespace Go.Proofs.YtcempbgbdlmjfaaDoor
open Go.RowKit

/-- the library's table of powers stands in its block -/
def TabI (w : World) : Prop := Lib.TabIs Tryd.prog w "internal/strconv.uint64pow10" .u64 Lib.pow10Tab
theorem gPow : Tryd.prog.globalNamed "internal/strconv.uint64pow10" = some 5 := by kernel_rfl
theorem TabI.below {w w' : World} (h : TabI w) (hb : Below w.heap.size w w') : TabI w' := Joins.tab_stays gPow h hb (Nat.le_refl _)
theorem TabI.alloc {w : World} (h : TabI w) (o : Obj) : TabI (w.alloc o) := h.below ((Below.refl _ _).alloc (Nat.le_refl _) o)
theorem below_growN (w : World) (k : Nat) (os : Array Obj) : Below w.heap.size w (Go.Sort.grow (w.drewN k) os) :=
  ⟨rfl, rfl, rfl, by show w.heap.size ≤ (w.heap ++ os).size; simp, fun i hi => by
    show (w.heap ++ os)[i]? = w.heap[i]?
    rw [Array.getElem?_append_left hi]⟩
theorem itoa_any (n : Int) (h0 : -9223372036854775808 ≤ n) (h1 : n ≤ 9223372036854775807) (w : World) (hT : TabI w) :
    Calls Tryd.prog 69 #[.int .i64 n] w fun e w' => e = .returned (.string ⟨(Lib.itoa n).toArray⟩) ∧ Below w.heap.size w w' :=
  (Tryd.strconv_Itoa n h0 h1 w hT).mono fun e w' h => by
    obtain ⟨he, k, os, hw⟩ := h
    subst hw
    exact ⟨he, below_growN w k os⟩
theorem sane_take {L : List (List Int)} (h : saneP ⟨L, false⟩ = true) (k : Nat) : saneP ⟨L.take k, false⟩ = true := by
  have h3 := (saneP_iff _).1 h
  exact (saneP_iff _).2 ⟨by simp; have := h3.1; simp at this; omega, by simp, fun q hq => h3.2.2 q (List.mem_of_mem_take hq)⟩
theorem row_take_len (q : List Int) (hq : okRow q = true) (j : Nat) : (rowS (q.take j)).length ≤ 35 := by
  by_cases h : q.take j = []
  · rw [h]; simp [rowS]
  · obtain ⟨hl, hn⟩ := (okRow_iff q).1 hq
    exact row_len _ ((okRow_iff _).2 ⟨⟨List.length_pos_iff.2 h, by rw [List.length_take]; omega⟩, fun n hm => hn n (List.mem_of_mem_take hm)⟩)
theorem bc_snoc (l : List UInt8) (c : UInt8) : Lib.byteCells l ++ [.int .u8 (c.toNat : Int)] = Lib.byteCells (l ++ [c]) := by simp [Lib.byteCells]
abbrev Bd (w : World) (b : Nat) (l : List UInt8) : Prop := Lib.IsBuilder 119 5 b b (Lib.byteCells l) w
theorem wb_any (b : Nat) (l : List UInt8) (c : UInt8) (x : Int) (hx : (c.toNat : Int) = x) (w : World) (h : Bd w b l) (hlen : l.length ≤ 100000) (hBw : b ≤ w.heap.size) :
    Calls Tryd.prog 74 #[.pointer (some ⟨b, 0, none⟩), .int .u8 x] w fun e w' => e = .returned .nilIface ∧ Bd w' b (l ++ [c]) ∧ Below b w w' := by
  subst hx
  refine (writeByte_any b b _ (c.toNat : Int) w h (by rw [Lib.byteCells_length]; omega) hBw).mono fun e w' h => ?_
  obtain ⟨he, h1, h2⟩ := h
  rw [bc_snoc] at h1
  exact ⟨he, h1, h2⟩
theorem ws_any (b : Nat) (l m : List UInt8) (w : World) (h : Bd w b l) (hlen : l.length + m.length ≤ 100000) (hBw : b ≤ w.heap.size) :
    Calls Tryd.prog 75 #[.pointer (some ⟨b, 0, none⟩), .string ⟨m.toArray⟩] w fun e w' => e = .returned (.tuple #[.int .i64 (m.length : Int), .nilIface]) ∧ Bd w' b (l ++ m) ∧ Below b w w' := by
  have hs : (⟨m.toArray⟩ : ByteArray).size = m.length := by simp [ByteArray.size]
  refine (writeString_any b b _ ⟨m.toArray⟩ w h (by rw [Lib.byteCells_length, hs]; omega) hBw).mono fun e w' h => ?_
  obtain ⟨he, h1, h2⟩ := h
  rw [hs] at he
  have e1 : Lib.strCells ⟨m.toArray⟩ = Lib.byteCells m := rfl
  rw [e1, ← Lib.byteCells_append] at h1
  exact ⟨he, h1, h2⟩
theorem itoa_len (n : Int) (hn : -1 ≤ n ∧ n ≤ 65535) (h : n ≠ -1) : (Lib.itoa n).length ≤ 5 := by
  have := numS_len n hn
  unfold numS at this
  rwa [if_neg h] at this

theorem nums_at {w : World} {B : Nat} {A : Option Addr} {l : List Int} (h : Rd w B A (nC l)) (h0 : 0 < l.length) : ∃ b off, A = some ⟨b, off, none⟩ ∧ b < B ∧ ∀ j (hj : j < l.length), w.cell? ⟨b, off + j, none⟩ = some (.int .i64 l[j]) := by
  obtain ⟨b, off, e, hb, hc⟩ := h (by rw [nC_len]; exact h0)
  exact ⟨b, off, e, hb, fun j hj => by rw [hc j (by rw [nC_len]; exact hj)]; simp [nC]⟩
theorem bd_past {w w' : World} {b : Nat} {l : List UInt8} (h : Bd w b l) (hb : Below w.heap.size w w') : Bd w' b l := by
  rcases h with ⟨h1, v, h2, h3, h4⟩ | ⟨h1, v, h2, h3, h4⟩
  · exact .inl ⟨h1, v, bk_past h2 hb (Nat.le_refl _), own_past h3 hb, h4⟩
  · exact .inr ⟨h1, v, bk_past h2 hb (Nat.le_refl _), own_past h3 hb, h4⟩
set_option maxRecDepth 100000 in
set_option maxHeartbeats 3200000 in
theorem print5_any {lo : Nat} (L : List (List Int)) (v : Value) (w : World) (hr : RdLL w lo w.heap.size v L) (hT : TabI w) (hs : saneP ⟨L, false⟩ = true) :
    Calls Tryd.prog 46 #[v] w fun e w' => e = .returned (.string ⟨(printS L).toArray⟩) ∧ Below w.heap.size w w' := by
  obtain ⟨A, c, rfl, hcap⟩ := rdLL_form hr
  have h3 := (saneP_iff _).1 hs
  have hl16 : L.length ≤ 16 := h3.1
  have hrow : ∀ q ∈ L, okRow q = true := h3.2.2
  have HROW := Lib.hid hrow; have HS := Lib.hid hs
  have HR := Lib.hid hr; have HT := Lib.hid hT
  have hfr : Bd (w.alloc (.cells #[.pointer none, .slice none 0 0] 119)) w.heap.size [] := Lib.fresh_isBuilder _ _ w
  have HF := Lib.hid hfr
  clear hr hT hs h3 hrow hfr
  go_enter Tryd.func46, Tryd.ntmps46
  go_wp2
  go_loopw [10] (fun i wr => ∃ k : Nat, k ≤ L.length ∧ i = .int .i64 k ∧ Bd wr w.heap.size (printS (L.take k)) ∧ Below w.heap.size w wr) (fun i _ => L.length - (intOf i).toNat)
  case atStart => exact ⟨0, Nat.zero_le _, rfl, HF.out, (Below.refl _ _).alloc (Nat.le_refl _) _⟩
  case round =>
    obtain ⟨k, hk, rfl, hI, hb⟩ := hrel
    have HI := Lib.hid hI; have HB := Lib.hid hb
    have hz := hb.size
    clear hI hb HF
    by_cases hlt : k < L.length
    · obtain ⟨b, off, Ai, ci, rfl, hbB, hc0, hci, hri⟩ := HR.out.at k hlt
      have hc := past_B HB.out hbB hc0
      clear hc0
      have hok := HROW.out _ (List.getElem_mem hlt)
      have hst := print_step L k hlt
      have hpl := print_lenS _ (sane_take HS.out k)
      obtain ⟨q, hq⟩ : ∃ q, L[k] = q := ⟨_, rfl⟩
      rw [hq] at hc hci hri hok hst
      obtain ⟨acc, hacc⟩ : ∃ acc, printS (L.take k) = acc := ⟨_, rfl⟩
      rw [hacc] at HI hst hpl
      have hq6 := ((okRow_iff q).1 hok).1
      have HST := Lib.hid hst; have HOK := Lib.hid hok; have HRI := Lib.hid hri
      clear hq hacc hst hok hri
      by_cases hk0 : k = 0
      · have hst0 := HST.out
        rw [if_pos hk0] at hst0
        have HST0 := Lib.hid hst0
        have kz : decide (0 < k) = false := by simp [hk0]
        have kz' : decide ((0 : Int) < (k : Int)) = false := by simp; omega
        clear hst0 HST hk0
        go_wp2
        go_loopw [20] (fun i2 wx => ∃ j : Nat, j ≤ q.length ∧ i2 = .int .i64 j ∧ Bd wx w.heap.size (acc ++ rowS (q.take j)) ∧ Below w.heap.size w wx) (fun i2 _ => q.length - (intOf i2).toNat)
        case atStart => exact ⟨0, Nat.zero_le _, rfl, by simpa [rowS] using HI.out, HB.out⟩
        case round =>
          obtain ⟨j, hj, rfl, hI5, hb5⟩ := hrel
          have HI5 := Lib.hid hI5; have HB5 := Lib.hid hb5
          have hz5 := hb5.size
          clear hI5 hb5
          by_cases hjl : j < q.length
          · obtain ⟨b2, off2, hA, hbB2, hcl⟩ := nums_at (HRI.out.below HB5.out (Nat.le_refl _)) (by omega)
            subst hA
            have cj := hcl j hjl
            have hrs := row_step q j hjl
            have hrl := row_take_len q HOK.out j
            have hnn := ((okRow_iff q).1 HOK.out).2 _ (List.getElem_mem hjl)
            obtain ⟨n, hn⟩ : ∃ n, q[j] = n := ⟨_, rfl⟩
            rw [hn] at cj hrs hnn
            obtain ⟨n0, n1⟩ := hnn
            obtain ⟨pre, hpre⟩ : ∃ pre, acc ++ rowS (q.take j) = pre := ⟨_, rfl⟩
            have hpl5 : pre.length ≤ 700 := by rw [← hpre]; simp; omega
            rw [hpre] at HI5
            have HPRE := Lib.hid hpre; have HRS := Lib.hid hrs
            clear hn hpre hrs hcl hrl
            by_cases hj0 : j = 0
            · have hr0 := HRS.out
              rw [if_pos hj0] at hr0
              have jz : decide (0 < j) = false := by simp [hj0]
              have jz' : decide ((0 : Int) < (j : Int)) = false := by simp; omega
              by_cases hn1 : n = -1
              · have e1 : (n != -1) = false := by rw [hn1]; rfl
                have hfin : acc ++ rowS (q.take (j + 1)) = pre := by rw [hr0, hn1, ← HPRE.out]; simp [numS]
                have HFIN := Lib.hid hfin
                clear hfin hr0 hn1 hj0 HRS
                go_wp2
                go_roundw
                case rel => exact ⟨j + 1, by omega, by go_num, by rw [HFIN.out]; exact HI5.out, HB5.out⟩
                case measure => simp [intOf]; omega
              · have e1 : (n != -1) = true := bne_iff_ne.2 hn1
                have hil := itoa_len n ⟨n0, n1⟩ hn1
                have hfin : acc ++ rowS (q.take (j + 1)) = pre ++ Lib.itoa n := by rw [hr0, ← HPRE.out]; simp [numS, hn1]
                have HFIN := Lib.hid hfin
                clear hfin hr0 hn1 hj0 HRS
                go_wp2_with (first
                  | (go_at_call 69; refine (itoa_any n (by omega) (by omega) _ (HT.out.below HB5.out)).mono ?_; rintro e w6 ⟨rfl, hb6⟩; have HB6 := Lib.hid (HB5.out.trans (hb6.mono hz5)); have HI6 := Lib.hid (bd_past HI5.out hb6); have hz6 := hb6.size; clear hb6)
                  | (go_at_call 75; refine (ws_any w.heap.size pre (Lib.itoa n) _ HI6.out (by omega) (by omega)).mono ?_; rintro e w7 ⟨rfl, hI7, hb7⟩; have HI7 := Lib.hid hI7; have HB7 := Lib.hid (HB6.out.trans hb7); clear hI7 hb7))
                go_roundw
                case rel => exact ⟨j + 1, by omega, by go_num, by rw [HFIN.out]; exact HI7.out, HB7.out⟩
                case measure => simp [intOf]; omega
            · have hr0 := HRS.out
              rw [if_neg hj0] at hr0
              have jpos : (0 : Int) < (j : Int) := by omega
              by_cases hn1 : n = -1
              · have e1 : (n != -1) = false := by rw [hn1]; rfl
                have hfin : acc ++ rowS (q.take (j + 1)) = pre ++ [58] := by rw [hr0, hn1, ← HPRE.out]; simp [numS]
                have HFIN := Lib.hid hfin
                clear hfin hr0 hn1 hj0 HRS
                go_wp2_with (go_at_call 74; refine (wb_any w.heap.size pre 58 58 rfl _ HI5.out (by omega) hz5).mono ?_; rintro e w6 ⟨rfl, hI6, hb6⟩; have HI6 := Lib.hid hI6; have HB6 := Lib.hid (HB5.out.trans hb6); clear hI6 hb6)
                go_roundw
                case rel => exact ⟨j + 1, by omega, by go_num, by rw [HFIN.out]; exact HI6.out, HB6.out⟩
                case measure => simp [intOf]; omega
              · have e1 : (n != -1) = true := bne_iff_ne.2 hn1
                have hil := itoa_len n ⟨n0, n1⟩ hn1
                have hfin : acc ++ rowS (q.take (j + 1)) = pre ++ [58] ++ Lib.itoa n := by rw [hr0, ← HPRE.out]; simp [numS, hn1]
                have HFIN := Lib.hid hfin
                clear hfin hr0 hn1 hj0 HRS
                go_wp2_with (first
                  | (go_at_call 74; refine (wb_any w.heap.size pre 58 58 rfl _ HI5.out (by omega) hz5).mono ?_; rintro e w6 ⟨rfl, hI6, hb6⟩; have HI6 := Lib.hid hI6; have HB6 := Lib.hid (HB5.out.trans hb6); have hz6 := hb6.size; clear hI6 hb6)
                  | (go_at_call 69; refine (itoa_any n (by omega) (by omega) _ (HT.out.below HB6.out)).mono ?_; rintro e w7 ⟨rfl, hb7⟩; have HB7 := Lib.hid (HB6.out.trans (hb7.mono (by omega))); have HI7 := Lib.hid (bd_past HI6.out hb7); have hz7 := hb7.size; clear hb7)
                  | (go_at_call 75; refine (ws_any w.heap.size (pre ++ [58]) (Lib.itoa n) _ HI7.out (by simp; omega) (by omega)).mono ?_; rintro e w8 ⟨rfl, hI8, hb8⟩; have HI8 := Lib.hid hI8; have HB8 := Lib.hid (HB7.out.trans hb8); clear hI8 hb8))
                go_roundw
                case rel => exact ⟨j + 1, by omega, by go_num, by rw [HFIN.out]; exact HI8.out, HB8.out⟩
                case measure => simp [intOf]; omega
          · obtain rfl : j = q.length := by omega
            have hI6 := HI5.out
            rw [List.take_length] at hI6
            have HI6 := Lib.hid hI6
            clear hI6 HI5
            go_wp2
            go_roundw
            case rel => exact ⟨k + 1, by omega, by go_num, by rw [HST0.out]; exact HI6.out, HB5.out⟩
            case measure => simp [intOf]; omega
      · have hst0 := HST.out
        rw [if_neg hk0] at hst0
        have HST0 := Lib.hid hst0
        have kpos : (0 : Int) < (k : Int) := by omega
        clear hst0 HST
        go_wp2_with (go_at_call 74; refine (wb_any w.heap.size acc 59 59 rfl _ HI.out (by omega) hz).mono ?_; rintro e w2 ⟨rfl, hI2, hb2⟩; have HI2 := Lib.hid hI2; have HB2 := Lib.hid hb2; have hz2 := hb2.size; clear hI2 hb2)
        go_loopw [20] (fun i2 wx => ∃ j : Nat, j ≤ q.length ∧ i2 = .int .i64 j ∧ Bd wx w.heap.size ((acc ++ [59]) ++ rowS (q.take j)) ∧ Below w.heap.size w wx) (fun i2 _ => q.length - (intOf i2).toNat)
        case atStart => exact ⟨0, Nat.zero_le _, rfl, by simpa [rowS] using HI2.out, (HB.out.trans HB2.out)⟩
        case round =>
          obtain ⟨j, hj, rfl, hI5, hb5⟩ := hrel
          have HI5 := Lib.hid hI5; have HB5 := Lib.hid hb5
          have hz5 := hb5.size
          clear hI5 hb5
          by_cases hjl : j < q.length
          · obtain ⟨b2, off2, hA, hbB2, hcl⟩ := nums_at (HRI.out.below HB5.out (Nat.le_refl _)) (by omega)
            subst hA
            have cj := hcl j hjl
            have hrs := row_step q j hjl
            have hrl := row_take_len q HOK.out j
            have hnn := ((okRow_iff q).1 HOK.out).2 _ (List.getElem_mem hjl)
            obtain ⟨n, hn⟩ : ∃ n, q[j] = n := ⟨_, rfl⟩
            rw [hn] at cj hrs hnn
            obtain ⟨n0, n1⟩ := hnn
            obtain ⟨pre, hpre⟩ : ∃ pre, (acc ++ [59]) ++ rowS (q.take j) = pre := ⟨_, rfl⟩
            have hpl5 : pre.length ≤ 700 := by rw [← hpre]; simp; omega
            rw [hpre] at HI5
            have HPRE := Lib.hid hpre; have HRS := Lib.hid hrs
            clear hn hpre hrs hcl hrl
            by_cases hj0 : j = 0
            · have hr0 := HRS.out
              rw [if_pos hj0] at hr0
              have jz : decide (0 < j) = false := by simp [hj0]
              have jz' : decide ((0 : Int) < (j : Int)) = false := by simp; omega
              by_cases hn1 : n = -1
              · have e1 : (n != -1) = false := by rw [hn1]; rfl
                have hfin : (acc ++ [59]) ++ rowS (q.take (j + 1)) = pre := by rw [hr0, hn1, ← HPRE.out]; simp [numS]
                have HFIN := Lib.hid hfin
                clear hfin hr0 hn1 hj0 HRS
                go_wp2
                go_roundw
                case rel => exact ⟨j + 1, by omega, by go_num, by rw [HFIN.out]; exact HI5.out, HB5.out⟩
                case measure => simp [intOf]; omega
              · have e1 : (n != -1) = true := bne_iff_ne.2 hn1
                have hil := itoa_len n ⟨n0, n1⟩ hn1
                have hfin : (acc ++ [59]) ++ rowS (q.take (j + 1)) = pre ++ Lib.itoa n := by rw [hr0, ← HPRE.out]; simp [numS, hn1]
                have HFIN := Lib.hid hfin
                clear hfin hr0 hn1 hj0 HRS
                go_wp2_with (first
                  | (go_at_call 69; refine (itoa_any n (by omega) (by omega) _ (HT.out.below HB5.out)).mono ?_; rintro e w6 ⟨rfl, hb6⟩; have HB6 := Lib.hid (HB5.out.trans (hb6.mono hz5)); have HI6 := Lib.hid (bd_past HI5.out hb6); have hz6 := hb6.size; clear hb6)
                  | (go_at_call 75; refine (ws_any w.heap.size pre (Lib.itoa n) _ HI6.out (by omega) (by omega)).mono ?_; rintro e w7 ⟨rfl, hI7, hb7⟩; have HI7 := Lib.hid hI7; have HB7 := Lib.hid (HB6.out.trans hb7); clear hI7 hb7))
                go_roundw
                case rel => exact ⟨j + 1, by omega, by go_num, by rw [HFIN.out]; exact HI7.out, HB7.out⟩
                case measure => simp [intOf]; omega
            · have hr0 := HRS.out
              rw [if_neg hj0] at hr0
              have jpos : (0 : Int) < (j : Int) := by omega
              by_cases hn1 : n = -1
              · have e1 : (n != -1) = false := by rw [hn1]; rfl
                have hfin : (acc ++ [59]) ++ rowS (q.take (j + 1)) = pre ++ [58] := by rw [hr0, hn1, ← HPRE.out]; simp [numS]
                have HFIN := Lib.hid hfin
                clear hfin hr0 hn1 hj0 HRS
                go_wp2_with (go_at_call 74; refine (wb_any w.heap.size pre 58 58 rfl _ HI5.out (by omega) hz5).mono ?_; rintro e w6 ⟨rfl, hI6, hb6⟩; have HI6 := Lib.hid hI6; have HB6 := Lib.hid (HB5.out.trans hb6); clear hI6 hb6)
                go_roundw
                case rel => exact ⟨j + 1, by omega, by go_num, by rw [HFIN.out]; exact HI6.out, HB6.out⟩
                case measure => simp [intOf]; omega
              · have e1 : (n != -1) = true := bne_iff_ne.2 hn1
                have hil := itoa_len n ⟨n0, n1⟩ hn1
                have hfin : (acc ++ [59]) ++ rowS (q.take (j + 1)) = pre ++ [58] ++ Lib.itoa n := by rw [hr0, ← HPRE.out]; simp [numS, hn1]
                have HFIN := Lib.hid hfin
                clear hfin hr0 hn1 hj0 HRS
                go_wp2_with (first
                  | (go_at_call 74; refine (wb_any w.heap.size pre 58 58 rfl _ HI5.out (by omega) hz5).mono ?_; rintro e w6 ⟨rfl, hI6, hb6⟩; have HI6 := Lib.hid hI6; have HB6 := Lib.hid (HB5.out.trans hb6); have hz6 := hb6.size; clear hI6 hb6)
                  | (go_at_call 69; refine (itoa_any n (by omega) (by omega) _ (HT.out.below HB6.out)).mono ?_; rintro e w7 ⟨rfl, hb7⟩; have HB7 := Lib.hid (HB6.out.trans (hb7.mono (by omega))); have HI7 := Lib.hid (bd_past HI6.out hb7); have hz7 := hb7.size; clear hb7)
                  | (go_at_call 75; refine (ws_any w.heap.size (pre ++ [58]) (Lib.itoa n) _ HI7.out (by simp; omega) (by omega)).mono ?_; rintro e w8 ⟨rfl, hI8, hb8⟩; have HI8 := Lib.hid hI8; have HB8 := Lib.hid (HB7.out.trans hb8); clear hI8 hb8))
                go_roundw
                case rel => exact ⟨j + 1, by omega, by go_num, by rw [HFIN.out]; exact HI8.out, HB8.out⟩
                case measure => simp [intOf]; omega
          · obtain rfl : j = q.length := by omega
            have hI6 := HI5.out
            rw [List.take_length] at hI6
            have HI6 := Lib.hid hI6
            clear hI6 HI5
            go_wp2
            go_roundw
            case rel => exact ⟨k + 1, by omega, by go_num, by rw [HST0.out]; simpa using HI6.out, HB5.out⟩
            case measure => simp [intOf]; omega
    · obtain rfl : k = L.length := by omega
      have hI := HI.out
      rw [List.take_length] at hI
      have HIL := Lib.hid hI
      clear hI HI
      go_wp2_with (go_at_call 76; refine (Tryd.Builder_String_any w.heap.size w.heap.size (printS L) _ HIL.out hz).mono ?_; rintro e w2 ⟨rfl, hb2⟩; have HB2 := Lib.hid hb2; clear hb2)
      go_ret
      exact ⟨rfl, HB.out.trans HB2.out⟩
end Go.Proofs.YtcempbgbdlmjfaaDoor
