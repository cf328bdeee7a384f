/-
  params: the walk of the document's Print, and of the law's 'ours'.
-/
import Derived.Test.YtcempbgbdlmjfaaDoorPbPr
namespace Go.Proofs.YtcempbgbdlmjfaaDoor
open Go.RowKit

theorem ba_app (a b : ByteArray) : (a ++ b).data.toList = a.data.toList ++ b.data.toList := by
  rw [ByteArray.data_append, Array.toList_append]
theorem ba_size (a : ByteArray) : a.size = a.data.toList.length := by
  show a.data.size = _
  simp
theorem ba_ext (a : ByteArray) (l : List UInt8) (h : a.data.toList = l) : a = ⟨l.toArray⟩ := by
  cases a with
  | mk d => simp at h; subst h; simp

set_option maxRecDepth 100000 in
set_option maxHeartbeats 3200000 in
theorem refPrint_any {lo : Nat} (L : List (List Int)) (v : Value) (w : World) (hr : RdLL w lo w.heap.size v L) (hT : TabI w) (hs : saneP ⟨L, false⟩ = true) :
    Calls Tryd.prog 40 #[v] w fun e w' => e = .returned (.string ⟨(printS L).toArray⟩) ∧ Below w.heap.size w w' := by
  obtain ⟨A, c, rfl, hcap⟩ := rdLL_form hr
  have h3 := (saneP_iff _).1 hs
  have hl16 : L.length ≤ 16 := h3.1
  have hrow : ∀ q ∈ L, okRow q = true := h3.2.2
  have HROW := Lib.hid hrow; have HS := Lib.hid hs
  have HR := Lib.hid hr; have HT := Lib.hid hT
  clear hr hT hs h3 hrow
  go_enter Tryd.func40, Tryd.ntmps40
  go_wp2
  go_loopw [3, 4] (fun s3 i wr => ∃ (k : Nat) (sb : ByteArray), k ≤ L.length ∧ i = .int .i64 k ∧ s3 = .string sb ∧ sb.data.toList = printS (L.take k) ∧ Below w.heap.size w wr) (fun _ i _ => L.length - (intOf i).toNat)
  case atStart => exact ⟨0, ⟨#[]⟩, Nat.zero_le _, rfl, rfl, rfl, Below.refl _ _⟩
  case round =>
    obtain ⟨k, sb, hk, rfl, rfl, hsb, hb⟩ := hrel
    have HB := Lib.hid hb
    have hz := hb.size
    clear hb
    by_cases hlt : k < L.length
    · obtain ⟨b, off, Ai, ci, rfl, hbB, hc0, hci, hri⟩ := HR.out.at k hlt
      have hc := past_B HB.out hbB hc0
      have hok := HROW.out _ (List.getElem_mem hlt)
      have hst := print_step L k hlt
      have hpl := print_lenS _ (sane_take HS.out k)
      rw [← hsb, ← ba_size] at hpl
      obtain ⟨q, hq⟩ : ∃ q, L[k] = q := ⟨_, rfl⟩
      rw [hq] at hc hc0 hci hri hok hst
      rw [← hsb] at hst
      have hq6 := ((okRow_iff q).1 hok).1
      have HST := Lib.hid hst; have HOK := Lib.hid hok; have HRI := Lib.hid hri; have HC0 := Lib.hid hc0
      clear hq hst hok hri hsb hc0
      by_cases hk0 : k = 0
      · have hst0 := HST.out
        rw [if_pos hk0] at hst0
        have HST0 := Lib.hid hst0
        have kz : decide (0 < k) = false := by simp [hk0]
        have kz' : decide ((0 : Int) < (k : Int)) = false := by simp; omega
        clear hst0 HST hk0
        go_wp2
        go_loopw [3, 5] (fun s3 i2 wx => ∃ (j : Nat) (sx : ByteArray), j ≤ q.length ∧ i2 = .int .i64 j ∧ s3 = .string sx ∧ sx.data.toList = sb.data.toList ++ rowS (q.take j) ∧ Below w.heap.size w wx) (fun _ i2 _ => q.length - (intOf i2).toNat)
        case atStart => exact ⟨0, sb, Nat.zero_le _, rfl, rfl, by simp [rowS], HB.out⟩
        case round =>
          obtain ⟨j, sx, hj, rfl, rfl, hsx, hb5⟩ := hrel
          have HB5 := Lib.hid hb5
          have hz5 := hb5.size
          have hc5 := past_B HB5.out hbB HC0.out
          clear hb5 hc
          have i0 : (0 : Int) ≤ ↑k := by omega
          have i1 : (↑k : Int) < ↑L.length := by omega
          by_cases hjl : j < q.length
          · obtain ⟨b2, off2, hA, hbB2, hcl⟩ := nums_at (HRI.out.below HB5.out (Nat.le_refl _)) (by omega)
            subst hA
            have cj := hcl j hjl
            have hrs := row_step q j hjl
            have hrl := row_take_len q HOK.out j
            have hnn := ((okRow_iff q).1 HOK.out).2 _ (List.getElem_mem hjl)
            obtain ⟨n, hn⟩ : ∃ n, q[j] = n := ⟨_, rfl⟩
            rw [hn] at cj hrs hnn
            obtain ⟨n0, n1⟩ := hnn
            have hpl5 : sx.size ≤ 700 := by rw [ba_size, hsx]; simp; omega
            have HSX := Lib.hid hsx; have HRS := Lib.hid hrs
            clear hn hsx hrs hcl hrl
            have j0 : (0 : Int) ≤ ↑j := by omega
            have j1 : (↑j : Int) < ↑q.length := by omega
            by_cases hj0 : j = 0
            · have hr0 := HRS.out
              rw [if_pos hj0] at hr0
              have jz : decide (0 < j) = false := by simp [hj0]
              have jz' : decide ((0 : Int) < (j : Int)) = false := by simp; omega
              by_cases hn1 : n = -1
              · have e1 : (n != -1) = false := by rw [hn1]; rfl
                have hfin : sx.data.toList = sb.data.toList ++ rowS (q.take (j + 1)) := by rw [hr0, hn1, HSX.out]; simp [numS]
                have HFIN := Lib.hid hfin
                clear hfin hr0 hn1 hj0 HRS
                go_wp2
                go_roundw
                case rel => exact ⟨j + 1, sx, by omega, by go_num, rfl, HFIN.out, HB5.out⟩
                case measure => simp [intOf]; omega
              · have e1 : (n != -1) = true := bne_iff_ne.2 hn1
                have hil := itoa_len n ⟨n0, n1⟩ hn1
                obtain ⟨sn, hsn⟩ : ∃ sn : ByteArray, (⟨(Lib.itoa n).toArray⟩ : ByteArray) = sn := ⟨_, rfl⟩
                have hsnl : sn.data.toList = Lib.itoa n := by rw [← hsn]
                have hsz : sn.size ≤ 5 := by rw [ba_size, hsnl]; exact hil
                have hfin : (sx ++ sn).data.toList = sb.data.toList ++ rowS (q.take (j + 1)) := by rw [ba_app, hr0, HSX.out, hsnl]; simp [numS, hn1]
                have HFIN := Lib.hid hfin; have HSN := Lib.hid hsn
                clear hfin hr0 hn1 hj0 HRS hsn hsnl
                go_wp2_with (go_at_call 69; refine (itoa_any n (by omega) (by omega) _ (HT.out.below HB5.out)).mono ?_; rintro e w6 ⟨rfl, hb6⟩; simp only [HSN.out]; have HB6 := Lib.hid (HB5.out.trans (hb6.mono hz5)); clear hb6)
                go_roundw
                case rel => exact ⟨j + 1, sx ++ sn, by omega, by go_num, rfl, HFIN.out, HB6.out⟩
                case measure => simp [intOf]; omega
            · have hr0 := HRS.out
              rw [if_neg hj0] at hr0
              have jpos : (0 : Int) < (j : Int) := by omega
              by_cases hn1 : n = -1
              · have e1 : (n != -1) = false := by rw [hn1]; rfl
                have hfin : (sx ++ ⟨#[58]⟩).data.toList = sb.data.toList ++ rowS (q.take (j + 1)) := by rw [ba_app, hr0, hn1, HSX.out]; simp [numS]
                have HFIN := Lib.hid hfin
                clear hfin hr0 hn1 hj0 HRS
                go_wp2
                go_roundw
                case rel => exact ⟨j + 1, sx ++ ⟨#[58]⟩, by omega, by go_num, rfl, HFIN.out, HB5.out⟩
                case measure => simp [intOf]; omega
              · have e1 : (n != -1) = true := bne_iff_ne.2 hn1
                have hil := itoa_len n ⟨n0, n1⟩ hn1
                obtain ⟨sn, hsn⟩ : ∃ sn : ByteArray, (⟨(Lib.itoa n).toArray⟩ : ByteArray) = sn := ⟨_, rfl⟩
                have hsnl : sn.data.toList = Lib.itoa n := by rw [← hsn]
                have hsz : sn.size ≤ 5 := by rw [ba_size, hsnl]; exact hil
                have hfin : (sx ++ ⟨#[58]⟩ ++ sn).data.toList = sb.data.toList ++ rowS (q.take (j + 1)) := by rw [ba_app, ba_app, hr0, HSX.out, hsnl]; simp [numS, hn1]
                have HFIN := Lib.hid hfin; have HSN := Lib.hid hsn
                have hs58 : (sx ++ ⟨#[58]⟩ : ByteArray).size = sx.size + 1 := by rw [ba_size, ba_app, ba_size]; simp
                clear hfin hr0 hn1 hj0 HRS hsn hsnl
                go_wp2_with (go_at_call 69; refine (itoa_any n (by omega) (by omega) _ (HT.out.below HB5.out)).mono ?_; rintro e w6 ⟨rfl, hb6⟩; simp only [HSN.out]; have HB6 := Lib.hid (HB5.out.trans (hb6.mono hz5)); clear hb6)
                go_roundw
                case rel => exact ⟨j + 1, sx ++ ⟨#[58]⟩ ++ sn, by omega, by go_num, rfl, HFIN.out, HB6.out⟩
                case measure => simp [intOf]; omega
          · obtain rfl : j = q.length := by omega
            rw [List.take_length] at hsx
            have hfin : sx.data.toList = printS (L.take (k + 1)) := by rw [HST0.out, hsx]; try simp
            have HFIN := Lib.hid hfin
            clear hsx hfin
            go_wp2
            go_roundw
            case rel => exact ⟨k + 1, sx, by omega, by go_num, rfl, HFIN.out, HB5.out⟩
            case measure => simp [intOf]; omega
      · have hst0 := HST.out
        rw [if_neg hk0] at hst0
        have HST0 := Lib.hid hst0
        have kpos : (0 : Int) < (k : Int) := by omega
        clear hst0 HST
        go_wp2
        go_loopw [3, 5] (fun s3 i2 wx => ∃ (j : Nat) (sx : ByteArray), j ≤ q.length ∧ i2 = .int .i64 j ∧ s3 = .string sx ∧ sx.data.toList = (sb.data.toList ++ [59]) ++ rowS (q.take j) ∧ Below w.heap.size w wx) (fun _ i2 _ => q.length - (intOf i2).toNat)
        case atStart => exact ⟨0, sb ++ ⟨#[59]⟩, Nat.zero_le _, rfl, rfl, by rw [ba_app]; simp [rowS], HB.out⟩
        case round =>
          obtain ⟨j, sx, hj, rfl, rfl, hsx, hb5⟩ := hrel
          have HB5 := Lib.hid hb5
          have hz5 := hb5.size
          have hc5 := past_B HB5.out hbB HC0.out
          clear hb5 hc
          have i0 : (0 : Int) ≤ ↑k := by omega
          have i1 : (↑k : Int) < ↑L.length := by omega
          by_cases hjl : j < q.length
          · obtain ⟨b2, off2, hA, hbB2, hcl⟩ := nums_at (HRI.out.below HB5.out (Nat.le_refl _)) (by omega)
            subst hA
            have cj := hcl j hjl
            have hrs := row_step q j hjl
            have hrl := row_take_len q HOK.out j
            have hnn := ((okRow_iff q).1 HOK.out).2 _ (List.getElem_mem hjl)
            obtain ⟨n, hn⟩ : ∃ n, q[j] = n := ⟨_, rfl⟩
            rw [hn] at cj hrs hnn
            obtain ⟨n0, n1⟩ := hnn
            have hpl5 : sx.size ≤ 700 := by rw [ba_size, hsx]; simp; omega
            have HSX := Lib.hid hsx; have HRS := Lib.hid hrs
            clear hn hsx hrs hcl hrl
            have j0 : (0 : Int) ≤ ↑j := by omega
            have j1 : (↑j : Int) < ↑q.length := by omega
            by_cases hj0 : j = 0
            · have hr0 := HRS.out
              rw [if_pos hj0] at hr0
              have jz : decide (0 < j) = false := by simp [hj0]
              have jz' : decide ((0 : Int) < (j : Int)) = false := by simp; omega
              by_cases hn1 : n = -1
              · have e1 : (n != -1) = false := by rw [hn1]; rfl
                have hfin : sx.data.toList = (sb.data.toList ++ [59]) ++ rowS (q.take (j + 1)) := by rw [hr0, hn1, HSX.out]; simp [numS]
                have HFIN := Lib.hid hfin
                clear hfin hr0 hn1 hj0 HRS
                go_wp2
                go_roundw
                case rel => exact ⟨j + 1, sx, by omega, by go_num, rfl, HFIN.out, HB5.out⟩
                case measure => simp [intOf]; omega
              · have e1 : (n != -1) = true := bne_iff_ne.2 hn1
                have hil := itoa_len n ⟨n0, n1⟩ hn1
                obtain ⟨sn, hsn⟩ : ∃ sn : ByteArray, (⟨(Lib.itoa n).toArray⟩ : ByteArray) = sn := ⟨_, rfl⟩
                have hsnl : sn.data.toList = Lib.itoa n := by rw [← hsn]
                have hsz : sn.size ≤ 5 := by rw [ba_size, hsnl]; exact hil
                have hfin : (sx ++ sn).data.toList = (sb.data.toList ++ [59]) ++ rowS (q.take (j + 1)) := by rw [ba_app, hr0, HSX.out, hsnl]; simp [numS, hn1]
                have HFIN := Lib.hid hfin; have HSN := Lib.hid hsn
                clear hfin hr0 hn1 hj0 HRS hsn hsnl
                go_wp2_with (go_at_call 69; refine (itoa_any n (by omega) (by omega) _ (HT.out.below HB5.out)).mono ?_; rintro e w6 ⟨rfl, hb6⟩; simp only [HSN.out]; have HB6 := Lib.hid (HB5.out.trans (hb6.mono hz5)); clear hb6)
                go_roundw
                case rel => exact ⟨j + 1, sx ++ sn, by omega, by go_num, rfl, HFIN.out, HB6.out⟩
                case measure => simp [intOf]; omega
            · have hr0 := HRS.out
              rw [if_neg hj0] at hr0
              have jpos : (0 : Int) < (j : Int) := by omega
              by_cases hn1 : n = -1
              · have e1 : (n != -1) = false := by rw [hn1]; rfl
                have hfin : (sx ++ ⟨#[58]⟩).data.toList = (sb.data.toList ++ [59]) ++ rowS (q.take (j + 1)) := by rw [ba_app, hr0, hn1, HSX.out]; simp [numS]
                have HFIN := Lib.hid hfin
                clear hfin hr0 hn1 hj0 HRS
                go_wp2
                go_roundw
                case rel => exact ⟨j + 1, sx ++ ⟨#[58]⟩, by omega, by go_num, rfl, HFIN.out, HB5.out⟩
                case measure => simp [intOf]; omega
              · have e1 : (n != -1) = true := bne_iff_ne.2 hn1
                have hil := itoa_len n ⟨n0, n1⟩ hn1
                obtain ⟨sn, hsn⟩ : ∃ sn : ByteArray, (⟨(Lib.itoa n).toArray⟩ : ByteArray) = sn := ⟨_, rfl⟩
                have hsnl : sn.data.toList = Lib.itoa n := by rw [← hsn]
                have hsz : sn.size ≤ 5 := by rw [ba_size, hsnl]; exact hil
                have hfin : (sx ++ ⟨#[58]⟩ ++ sn).data.toList = (sb.data.toList ++ [59]) ++ rowS (q.take (j + 1)) := by rw [ba_app, ba_app, hr0, HSX.out, hsnl]; simp [numS, hn1]
                have HFIN := Lib.hid hfin; have HSN := Lib.hid hsn
                have hs58 : (sx ++ ⟨#[58]⟩ : ByteArray).size = sx.size + 1 := by rw [ba_size, ba_app, ba_size]; simp
                clear hfin hr0 hn1 hj0 HRS hsn hsnl
                go_wp2_with (go_at_call 69; refine (itoa_any n (by omega) (by omega) _ (HT.out.below HB5.out)).mono ?_; rintro e w6 ⟨rfl, hb6⟩; simp only [HSN.out]; have HB6 := Lib.hid (HB5.out.trans (hb6.mono hz5)); clear hb6)
                go_roundw
                case rel => exact ⟨j + 1, sx ++ ⟨#[58]⟩ ++ sn, by omega, by go_num, rfl, HFIN.out, HB6.out⟩
                case measure => simp [intOf]; omega
          · obtain rfl : j = q.length := by omega
            rw [List.take_length] at hsx
            have hfin : sx.data.toList = printS (L.take (k + 1)) := by rw [HST0.out, hsx]; try simp
            have HFIN := Lib.hid hfin
            clear hsx hfin
            go_wp2
            go_roundw
            case rel => exact ⟨k + 1, sx, by omega, by go_num, rfl, HFIN.out, HB5.out⟩
            case measure => simp [intOf]; omega
    · obtain rfl : k = L.length := by omega
      rw [List.take_length] at hsb
      have HSB := Lib.hid hsb
      clear hsb
      go_wp2
      go_ret
      exact ⟨by rw [ba_ext _ _ HSB.out]; rfl, HB.out⟩
end Go.Proofs.YtcempbgbdlmjfaaDoor
