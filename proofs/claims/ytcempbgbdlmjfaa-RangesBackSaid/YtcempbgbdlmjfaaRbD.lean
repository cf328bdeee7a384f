/-
  ranges: the walk of Pack.
-/
import Derived.Test.YtcempbgbdlmjfaaRbC
namespace Go.Proofs.Ytcempbgbdlmjfaa
open Go.RowKit

def aheadOf (p : Option R) : Int := match p with
  | none => 0
  | some q => q.hi
theorem pv_succ (l : List R) (k : Nat) (h : k < l.length) : pv l (k + 1) = some l[k] := by simp [pv, h]

set_option maxRecDepth 100000 in
set_option maxHeartbeats 3200000 in
theorem pack_any (rows : List R) (A : Option Addr) (c : Nat) (w : World) (hr0 : Rd w w.heap.size A (rowCells rows)) (hl : rows.length ≤ maxLen) :
    Calls Try.prog 38 #[.agg #[.slice A rows.length c]] w fun e w' => ∃ A' c', e = .returned (.tuple #[.slice A' (packF rows).1.length c', .int .i64 (packF rows).2]) ∧
      w'.ownsRow w.heap.size 5 1 (.slice A' (packF rows).1.length c') (packF rows).1.length (bC (packF rows).1) ∧ Below w.heap.size w w' := by
  have hr1 := hr0.alloc (Nat.le_refl _) (.cells #[.slice A rows.length c] 27)
  have HR1 := Lib.hid hr1; have HR := Lib.hid hr0; have HLL := Lib.hid hl
  clear hr1 hr0
  have hbx := heap_alloc_new w (.cells #[.slice A rows.length c] 27)
  have HBX := Lib.hid hbx; clear hbx
  cases hs : saneF rows with
  | false =>
    have hp : packF rows = ([], 1) := by simp [packF, hs]
    have HS := Lib.hid hs; have HP := Lib.hid hp
    clear hs hp
    go_enter Try.func38, Try.ntmps38
    go_wp2_with (go_at_call 16; refine (sane_any rows A c _ w.heap.size (by simp) HR1.out HLL.out).mono ?_; rintro e w1 ⟨rfl, hb1⟩; simp only [HS.out])
    go_ret2
    exact (by rw [HP.out]; exact ⟨_, _, rfl, World.ownsRow_nil _ _ _ _, bt ((Below.refl _ _).alloc (Nat.le_refl _) _) hb1 (by simp)⟩)
  | true =>
    have hp : packF rows = (packG 0 rows, 0) := by simp [packF, hs]
    have hs4 : rows.length ≤ 4096 ∧ saneFrom none rows = true := by simpa [saneF] using hs
    have HS := Lib.hid hs; have HP := Lib.hid hp; have HS4 := Lib.hid hs4.2
    have h4096 := hs4.1
    clear hs hp hs4 hl
    go_enter Try.func38, Try.ntmps38
    go_wp2_with (go_at_call 16; refine (sane_any rows A c _ w.heap.size (by simp) HR1.out HLL.out).mono ?_; rintro e w1 ⟨rfl, hb1⟩; simp only [HS.out]; go_loud (have n1 := bk_past HBX.out hb1 (Nat.le_refl _); have cb1 := bk_cell n1 0 _ rfl; have b1 := bt ((Below.refl w.heap.size w).alloc (Nat.le_refl _) (.cells #[.slice A rows.length c] 27)) hb1 (by simp); have z1 : w.heap.size + 1 ≤ w1.heap.size := (by have h := hb1.size; simp at h; omega); clear n1 hb1))
    go_loopw [4, 5, 14] (fun s4 s5 i wr => ∃ (k : Nat) (cur : List Int) (A1 : Option Addr) (c1 : Nat) (a : Int), k ≤ rows.length ∧ i = .int .i64 k ∧ s4 = .slice A1 cur.length c1 ∧ s5 = .int .i64 a ∧ a = aheadOf (pv rows k) ∧ cur ++ packG a (rows.drop k) = packG 0 rows ∧
      saneFrom (pv rows k) (rows.drop k) = true ∧ wr.ownsRow (w.heap.size + 1) 5 1 (.slice A1 cur.length c1) cur.length (bC cur) ∧ cur.length ≤ 30 * k ∧ Below w.heap.size w wr ∧ w.heap.size + 1 ≤ wr.heap.size ∧ 0 ≤ a ∧ a ≤ 1114111) (fun _ _ i _ => rows.length - (intOf i).toNat)
    case atStart => exact ⟨0, [], none, 0, 0, Nat.zero_le _, rfl, rfl, rfl, rfl, rfl, HS4.out, World.ownsRow_nil _ _ _ _, by simp, b1, z1, by omega, by omega⟩
    case round =>
      obtain ⟨k, cur, A1, c1, a, hk, rfl, rfl, rfl, hae, hcu, hsf, hown, hcl, hb, hz, ha0, ha1⟩ := hrel
      have HO := Lib.hid hown; have HCU := Lib.hid hcu; have HAE := Lib.hid hae; have HSF := Lib.hid hsf
      clear hown hcu hae hsf
      by_cases hlt : k < rows.length
      · obtain ⟨b, off, rfl, hbB, hc⟩ := rd_rows HR.out (by omega)
        obtain ⟨c0', c1', c2'⟩ := hc k hlt
        have d0 := past_B hb hbB c0'
        have d1 := past_B hb hbB c1'
        have d2 := past_B hb hbB c2'
        have hst := HSF.out
        rw [sane_step rows k hlt] at hst
        simp only [Bool.and_eq_true] at hst
        have hpk := HCU.out
        rw [List.drop_eq_getElem_cons hlt] at hpk
        obtain ⟨x, hx⟩ : ∃ x, rows[k] = x := ⟨_, rfl⟩
        rw [hx] at d0 d1 d2 hst hpk
        have hfx := hst.1
        have hfit : 0 ≤ x.lo ∧ x.lo ≤ x.hi ∧ x.hi ≤ 1114111 ∧ 1 ≤ x.v ∧ x.v ≤ 255 := by simpa [fitsB] using hfx
        have haft : a ≤ x.lo := by
          rw [HAE.out]
          cases hpv : pv rows k with
          | none => simp [aheadOf]; omega
          | some q =>
            have := hst.2.1
            rw [hpv] at this
            simp [okAft] at this
            simp [aheadOf]; omega
        have hpv1 : pv rows (k + 1) = some x := by rw [pv_succ rows k hlt, hx]
        have hsf2 := hst.2.2
        have HSF2 := Lib.hid hsf2; have HPV := Lib.hid hpv1; have HPK := Lib.hid hpk
        clear hst hfx hpv1 hsf2 hpk hx c0' c1' c2' hc
        obtain ⟨h1, h2, h3, h4, h5⟩ := hfit
        have tn := two_new wr (.cells #[.int .i64 x.lo, .int .i64 x.hi, .int .i64 x.v] 74) (.cells #[.int .i64 (x.lo - a), .int .i64 (x.hi - x.lo), .int .i64 x.v] 3)
        have TN := Lib.hid tn
        have hlt5 := own_lt HO.out
        have LT := Lib.hid hlt5
        have hown2 := (HO.out.alloc (.cells #[.int .i64 x.lo, .int .i64 x.hi, .int .i64 x.v] 74)).alloc (.cells #[.int .i64 (x.lo - a), .int .i64 (x.hi - x.lo), .int .i64 x.v] 3)
        have HO2 := Lib.hid hown2
        have hns : ∀ n ∈ [x.lo - a, x.hi - x.lo, x.v], 0 ≤ n ∧ n < 268435456 := fun n hn => by
          simp only [List.mem_cons, List.not_mem_nil, or_false] at hn
          rcases hn with rfl | rfl | rfl <;> omega
        have HNS := Lib.hid hns
        have hne5 : (Value.slice A1 cur.length c1).ownBlock ≠ some (wr.heap.size + 1) := fun e => by have := LT.out _ e; omega
        have HNE := Lib.hid hne5
        clear tn hlt5 hown2 hns hne5
        go_wp2_with (go_at_call 53; go_loud (refine (numbers_any cur [x.lo - a, x.hi - x.lo, x.v] A1 c1 (wr.heap.size + 1) _ _ (w.heap.size + 1) (by simp; omega) HO2.out TN.out.2 HNE.out HNS.out (by simp) (by omega)).mono ?_); rintro e w5 ⟨A5, c5, rfl, hg5⟩; have m5 := bk_grown TN.out.1 hg5.grown (fun e => by have := LT.out _ e; omega); have x5 := bk_cell m5 1 _ rfl; have HG5 := Lib.hid hg5; clear m5 hg5)
        have hcur2 : cur ++ [x.lo - a, x.hi - x.lo, x.v].flatMap numF ++ packG x.hi (rows.drop (k + 1)) = packG 0 rows := by
          rw [← HPK.out]
          simp [packG, List.append_assoc]
        have hlen2 : (cur ++ [x.lo - a, x.hi - x.lo, x.v].flatMap numF).length ≤ 30 * (k + 1) := by
          have := flat_len [x.lo - a, x.hi - x.lo, x.v]
          rw [List.length_append]
          simp at this ⊢
          omega
        obtain ⟨cur5, hcur5⟩ : ∃ q, cur ++ [x.lo - a, x.hi - x.lo, x.v].flatMap numF = q := ⟨_, rfl⟩
        rw [hcur5] at hcur2 hlen2
        have hg6 := HG5.out
        rw [hcur5] at hg6
        have hb6 : Below w.heap.size w w5 := ((hb.alloc hb.size (.cells #[.int .i64 x.lo, .int .i64 x.hi, .int .i64 x.v] 74)).alloc (by simp; have := hb.size; omega) (.cells #[.int .i64 (x.lo - a), .int .i64 (x.hi - x.lo), .int .i64 x.v] 3)).trans (below_of_grown hg6.grown (by simp; omega) (fun g hg => by have := own_ge HO.out g hg; omega))
        have hz6 := hg6.grown.size
        have HG6 := Lib.hid hg6; have HCU2 := Lib.hid hcur2; have HC5 := Lib.hid hcur5
        clear hg6 hcur2 hcur5
        go_roundw
        case rel =>
          refine ⟨k + 1, cur5, A5, c5, x.hi, by omega, by go_num, by rw [← HC5.out]; simp, rfl, ?_, HCU2.out, by rw [HPV.out]; rw [HPV.out] at HSF2; exact HSF2.out, HG6.out.own, hlen2, hb6, by simp at hz6; omega, by omega, by omega⟩
          rw [HPV.out]; rfl
        case measure => simp [intOf]; omega
      · obtain rfl : k = rows.length := by omega
        have hfin := HCU.out
        rw [List.drop_length] at hfin
        simp only [packG, List.append_nil] at hfin
        subst hfin
        go_wp2
        go_ret2
        exact (by rw [HP.out]; exact ⟨_, _, rfl, own_base HO.out (by omega), hb⟩)
end Go.Proofs.Ytcempbgbdlmjfaa
