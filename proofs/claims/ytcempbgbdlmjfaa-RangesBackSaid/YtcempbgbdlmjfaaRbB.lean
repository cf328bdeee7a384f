/-
  ranges: the walk of Unpack.
-/
import Derived.Test.YtcempbgbdlmjfaaRbA
import Derived.Test.YtcempbgbdlmjfaaRgD
import Derived.Test.YtcempbgbdlmjfaaPaMem
import Derived.Deep.RegionLaw
namespace Go.Proofs.Ytcempbgbdlmjfaa
open Go.RowKit

/-! ### a row's three numbers, one by one -/
def uZ (f : Nat) (a n0 n1 n2 : Int) (b : List Int) : List R × Int :=
  if (unG f (a + n0 + n1) b).2 ≠ 0 then ([], (unG f (a + n0 + n1) b).2) else (⟨a + n0, a + n0 + n1, n2⟩ :: (unG f (a + n0 + n1) b).1, 0)
def uY (f : Nat) (a n0 n1 : Int) (b : List Int) : List R × Int :=
  if (nbrF b).2.2 ≠ 0 then ([], (nbrF b).2.2) else uZ f a n0 n1 (nbrF b).1 (b.drop (nbrF b).2.1)
def uX (f : Nat) (a n0 : Int) (b : List Int) : List R × Int :=
  if (nbrF b).2.2 ≠ 0 then ([], (nbrF b).2.2) else uY f a n0 (nbrF b).1 (b.drop (nbrF b).2.1)
def uW (f : Nat) (a : Int) (b : List Int) : List R × Int :=
  if (nbrF b).2.2 ≠ 0 then ([], (nbrF b).2.2) else uX f a (nbrF b).1 (b.drop (nbrF b).2.1)
theorem unG_W (f : Nat) (a : Int) (b : List Int) (h : b ≠ []) : unG (f + 1) a b = uW f a b := by
  rw [unG, if_neg h]; rfl
def uN (f : Nat) (a : Int) (ns : List Int) (b : List Int) : List R × Int :=
  match ns with
  | [] => uW f a b
  | [n0] => uX f a n0 b
  | [n0, n1] => uY f a n0 n1 b
  | [n0, n1, n2] => uZ f a n0 n1 n2 b
  | _ => ([], 0)
def cmb (acc : List R) (r : List R × Int) : List R × Int := if r.2 ≠ 0 then ([], r.2) else (acc ++ r.1, 0)
theorem cmb_nil (r : List R × Int) (h : r.2 ≠ 0 → r.1 = []) : cmb [] r = r := by
  unfold cmb
  split
  · rename_i h0; rw [← h h0]
  · rename_i h0; have : r.2 = 0 := Decidable.byContradiction h0
    rw [← this]; rfl
theorem unG_err (f : Nat) : ∀ (a : Int) (b : List Int), (unG f a b).2 ≠ 0 → (unG f a b).1 = [] := by
  intro a b
  cases f with
  | zero => simp [unG]
  | succ f =>
    by_cases hb : b = []
    · subst hb; simp [unG]
    · rw [unG_W f a b hb]
      unfold uW uX uY uZ
      repeat (first | split | simp)
theorem cmb_Z (acc : List R) (f : Nat) (a n0 n1 n2 : Int) (b : List Int) : cmb acc (uZ f a n0 n1 n2 b) = cmb (acc ++ [⟨a + n0, a + n0 + n1, n2⟩]) (unG f (a + n0 + n1) b) := by
  unfold uZ
  by_cases h : (unG f (a + n0 + n1) b).2 ≠ 0
  · rw [if_pos h]; unfold cmb; rw [if_pos h, if_pos h]
  · rw [if_neg h]; unfold cmb; rw [if_neg (by simp), if_neg h]; simp
theorem nbr_ok {b : List Int} (hb : BytesI b) (h : (nbrF b).2.2 = 0) : 0 ≤ (nbrF b).1 ∧ (nbrF b).1 < 268435456 ∧ 0 < (nbrF b).2.1 ∧ (nbrF b).2.1 ≤ b.length ∧ (nbrF b).2.1 ≤ 4 := by
  obtain ⟨p0, p1, _, p3, p4, p5⟩ := nbrF_back b hb h
  exact ⟨p0, p1, p3, p4, p5⟩
theorem un_end (f : Nat) (a : Int) (acc : List R) {r : List R × Int} (h : cmb acc (unG f a []) = r) : r = (acc, 0) := by
  rw [← h, unG_nil]
  simp [cmb]

def lenS : Value → Nat
  | .slice _ n _ => n
  | _ => 0
/-- what the loop of Unpack keeps -/
structure Un (w wr : World) (b : List Int) (rest : List Int) (A : Option Addr) (c : Nat) (acc : List R) (At : Option Addr) (ct : Nat) : Prop where
  res : wr.heap[w.heap.size]? = some (.cells #[.slice none 0 0] 27 (0, 0))
  tab : wr.heap[w.heap.size + 1]? = some (.cells #[.slice At acc.length ct] 27 (0, 0))
  own : wr.ownsRow (w.heap.size + 2) 74 3 (.slice At acc.length ct) acc.length (rowCells acc)
  rd : Rd wr w.heap.size A (bC rest)
  cap : rest.length ≤ c
  byt : BytesI rest
  old : Below w.heap.size w wr
theorem Un.keep {w wr wr' : World} {b rest : List Int} {A : Option Addr} {c : Nat} {acc : List R} {At : Option Addr} {ct : Nat} (h : Un w wr b rest A c acc At ct) (hb : Below wr.heap.size wr wr') : Un w wr' b rest A c acc At ct :=
  ⟨bk_past h.res hb (Nat.le_refl _), bk_past h.tab hb (Nat.le_refl _), own_past h.own hb, h.rd.below hb h.old.size, h.cap, h.byt, h.old.trans (hb.mono h.old.size)⟩
theorem Un.alloc {w wr : World} {b rest : List Int} {A : Option Addr} {c : Nat} {acc : List R} {At : Option Addr} {ct : Nat} (h : Un w wr b rest A c acc At ct) (o : Obj) : Un w (wr.alloc o) b rest A c acc At ct :=
  h.keep ((Below.refl _ _).alloc (Nat.le_refl _) o)
def arr3 (ns : List Int) : Array Value := #[.int .i64 (ns.getD 0 0), .int .i64 (ns.getD 1 0), .int .i64 (ns.getD 2 0)]
theorem Un.put {w wr : World} {b rest : List Int} {A : Option Addr} {c : Nat} {acc : List R} {At : Option Addr} {ct : Nat} (h : Un w wr b rest A c acc At ct) (L : Nat) (hL : w.heap.size + 1 < L)
    (hol : ∀ g, (Value.slice At acc.length ct).ownBlock = some g → g < L) (j : Nat) (u : Value) : Un w (wr.setCell ⟨L, j, none⟩ u) b rest A c acc At ct :=
  ⟨bk_far h.res (by simp; omega) _, bk_far h.tab (by simp; omega) _, own_setfar h.own (fun e => by have := hol L e; omega) _, h.rd.below ((Below.refl w.heap.size wr).setCell (by simp; omega) _) (Nat.le_refl _), h.cap, h.byt, h.old.setCell (by simp; omega) _⟩
theorem Un.drew {w wr : World} {b rest : List Int} {A : Option Addr} {c : Nat} {acc : List R} {At : Option Addr} {ct : Nat} (h : Un w wr b rest A c acc At ct) : Un w wr.drew b rest A c acc At ct := h.keep (Below.refl _ _).drew
theorem Un.cut {w wr : World} {b rest : List Int} {gb goff : Nat} {c : Nat} {acc : List R} {At : Option Addr} {ct : Nat} (h : Un w wr b rest (some ⟨gb, goff, none⟩) c acc At ct) (N : Nat) :
    Un w wr b (rest.drop N) (if c = N then some ⟨gb, goff, none⟩ else some ⟨gb, goff + N, none⟩) (c - N) acc At ct :=
  ⟨h.res, h.tab, h.own, by have := rd_cut h.rd N c (by rw [bC_len]; exact h.cap); simpa [bC] using this, by have := h.cap; simp; omega, fun y hy => h.byt y (List.mem_of_mem_drop hy), h.old⟩
theorem arr3_snoc (ns : List Int) (j : Nat) (hj : ns.length = j) (h3 : j < 3) (n : Int) : (arr3 ns).setIfInBounds j (.int .i64 n) = arr3 (ns ++ [n]) := by
  subst hj
  match ns, h3 with
  | [], _ => rfl
  | [_], _ => rfl
  | [_, _], _ => rfl
  | _ :: _ :: _ :: _, h => simp at h; omega

set_option maxRecDepth 100000 in
set_option maxHeartbeats 3200000 in
theorem unpack_any (b : List Int) (A : Option Addr) (c : Nat) (w : World) (hr : Rd w w.heap.size A (bC b)) (hb : BytesI b) (hl : b.length ≤ 100000) (hc : b.length ≤ c) :
    Calls Try.prog 39 #[.slice A b.length c] w fun e w' => ∃ A' c', e = .returned (.tuple #[.agg #[.slice A' (unpackF b).1.length c'], .int .i64 (unpackF b).2]) ∧
      w'.ownsRow w.heap.size 74 3 (.slice A' (unpackF b).1.length c') (unpackF b).1.length (rowCells (unpackF b).1) ∧ Below w.heap.size w w' := by
  obtain ⟨r, hres⟩ : ∃ r, unG b.length 0 b = r := ⟨_, rfl⟩
  have hcm : cmb [] (unG b.length 0 b) = r := by rw [cmb_nil _ (unG_err _ _ _), hres]
  have HRES := Lib.hid hres; have HCM := Lib.hid hcm
  have h0 : Un w ((w.alloc (.cells #[.slice none 0 0] 27)).alloc (.cells #[.slice none 0 0] 27)) b b A c [] none 0 :=
    ⟨(two_new _ _ _).1, (two_new _ _ _).2, World.ownsRow_nil _ _ _ _, (hr.alloc (Nat.le_refl _) _).alloc (by simp) _, hc, hb, ((Below.refl _ _).alloc (Nat.le_refl _) _).alloc (by simp) _⟩
  have H0 := Lib.hid h0
  clear hres hcm h0 hr
  go_enter Try.func39, Try.ntmps39
  go_wp2
  go_loopw [0, 5] (fun s0 s5 wr => ∃ (rest : List Int) (A1 : Option Addr) (c1 : Nat) (acc : List R) (At : Option Addr) (ct : Nat) (a : Int) (f : Nat), s0 = .slice A1 rest.length c1 ∧ s5 = .int .i64 a ∧ Un w wr b rest A1 c1 acc At ct ∧
      cmb acc (unG f a rest) = r ∧ rest.length ≤ f ∧ acc.length * 3 + rest.length ≤ b.length ∧ 0 ≤ a ∧ a ≤ acc.length * 536870912) (fun s0 _ _ => lenS s0)
  case atStart => exact ⟨b, A, c, [], none, 0, 0, b.length, rfl, rfl, H0.out, HCM.out, Nat.le_refl _, by simp, by omega, by simp⟩
  case round =>
    obtain ⟨rest, A1, c1, acc, At, ct, a, f, rfl, rfl, hun, hg, hf, hlen, ha0, ha1⟩ := hrel
    have HU := Lib.hid hun; have HG := Lib.hid hg
    clear hun hg H0
    by_cases hn : rest = []
    · subst hn
      have hr0 := un_end f a acc HG.out
      have d0 := bk_cell HU.out.tab 0 _ rfl
      have e0 := bk_cell HU.out.res 0 _ rfl
      have f0 := bk_free HU.out.res 0
      have hrd := Rd.of_own HU.out.own
      have hal : acc.length ≤ maxLen := by unfold maxLen; omega
      have HRD := Lib.hid hrd; clear hrd
      have hp := HRES.out
      rw [hr0] at hp
      cases hsn : saneF acc with
      | false =>
        have hup : unpackF b = ([], 2) := by unfold unpackF; rw [hp]; simp [hsn]
        have HUP := Lib.hid hup
        have HS := Lib.hid hsn; clear hsn hup hp hr0
        go_wp2_with (go_at_call 16; refine (sane_any acc At ct _ _ (Nat.le_refl _) HRD.out hal).mono ?_; rintro e w1 ⟨rfl, hb1⟩; simp only [HS.out]; have n1 := bk_past HU.out.res hb1 (Nat.le_refl _); have N1 := Lib.hid n1; have e1 := bk_cell n1 0 _ rfl; have f1 := bk_free n1 0; clear n1)
        have hres := bk_set N1.out 0 (.slice none 0 0)
        have p0 := bk_cell hres 0 _ rfl
        exact bodyPost_ret (v := .tuple #[.agg #[.slice none 0 0], .int .i64 2]) (by simp [results, Try.results39, go_sem, p0]) rfl (by rw [HUP.out]; exact ⟨_, _, rfl, World.ownsRow_nil _ _ _ _, (HU.out.old.trans (hb1.mono HU.out.old.size)).setCell (by simp) _⟩)
      | true =>
        have hup : unpackF b = (acc, 0) := by unfold unpackF; rw [hp]; simp [hsn]
        have HUP := Lib.hid hup
        have HS := Lib.hid hsn; clear hsn hup hp hr0
        go_wp2_with (go_at_call 16; refine (sane_any acc At ct _ _ (Nat.le_refl _) HRD.out hal).mono ?_; rintro e w1 ⟨rfl, hb1⟩; simp only [HS.out]; have n1 := bk_past HU.out.res hb1 (Nat.le_refl _); have n2 := bk_past HU.out.tab hb1 (Nat.le_refl _); have N1 := Lib.hid n1; have e1 := bk_cell n1 0 _ rfl; have f1 := bk_free n1 0; have e2 := bk_cell n2 0 _ rfl; clear n1 n2)
        have hres := bk_set N1.out 0 (.slice At acc.length ct)
        have p0 := bk_cell hres 0 _ rfl
        exact bodyPost_ret (v := .tuple #[.agg #[.slice At acc.length ct], .int .i64 0]) (by simp [results, Try.results39, go_sem, p0]) rfl (by rw [HUP.out]; exact ⟨_, _, rfl, own_base (own_far (own_past HU.out.own hb1) (by simp) _) (by omega), (HU.out.old.trans (hb1.mono HU.out.old.size)).setCell (by simp) _⟩)
    · obtain ⟨f, rfl⟩ : ∃ g, f = g + 1 := ⟨f - 1, by have := List.length_pos_iff.2 hn; omega⟩
      have hg2 := HG.out
      rw [unG_W f a rest hn] at hg2
      have HG2 := Lib.hid hg2; clear hg2 HG
      have hpos : (0 : Int) < (rest.length : Int) := by have := List.length_pos_iff.2 hn; omega
      have hposd : decide (0 < rest.length) = true := by have := List.length_pos_iff.2 hn; simp; omega
      go_wp2
      have hu0 : Un w (wr.alloc (.cells #[.int .i64 0, .int .i64 0, .int .i64 0] 88)) b rest A1 c1 acc At ct := HU.out.alloc _
      have HU0 := Lib.hid hu0
      have HL0 := Lib.hid (heap_alloc_new wr (.cells #[.int .i64 0, .int .i64 0, .int .i64 0] 88))
      have hwr : w.heap.size + 1 < wr.heap.size := bk_lt HU.out.tab
      clear hu0
      have hol : ∀ g, (Value.slice At acc.length ct).ownBlock = some g → g < wr.heap.size := own_lt HU.out.own
      have HOL := Lib.hid hol; clear hol
      generalize hLb : wr.heap.size = Lb at *
      go_loopw [0, 15] (fun s0 i wl => ∃ (j : Nat) (ns : List Int) (rs : List Int) (A2 : Option Addr) (c2 : Nat), j ≤ 3 ∧ i = .int .i64 j ∧ ns.length = j ∧ s0 = .slice A2 rs.length c2 ∧ Un w wl b rs A2 c2 acc At ct ∧ wl.heap[Lb]? = some (.cells (arr3 ns) 88 (0, 0)) ∧
        cmb acc (uN f a ns rs) = r ∧ rs.length + j ≤ rest.length ∧ (∀ n ∈ ns, 0 ≤ n ∧ n < 268435456) ∧ wl.heap.size = Lb + 1) (fun _ i _ => 3 - (intOf i).toNat)
      case atStart => exact ⟨0, [], rest, A1, c1, by omega, rfl, rfl, rfl, HU0.out, HL0.out, HG2.out, by omega, by simp, by simp [hLb]⟩
      case round =>
        obtain ⟨j, ns, rs, A2, c2, hj, rfl, hns, rfl, hu2, hL, hg3, hrl, hnb, hsz⟩ := hrel
        have HU2 := Lib.hid hu2; have HL := Lib.hid hL; have HG3 := Lib.hid hg3
        clear hu2 hL hg3 HU0 HL0
        by_cases hj3 : j < 3
        · have hrs := (HU2.out.rd).more HU2.out.old.size
          have hrsl : rs.length ≤ maxLen := by unfold maxLen; omega
          obtain ⟨n, cnt, er, hnb2⟩ : ∃ n cnt er, nbrF rs = (n, cnt, er) := ⟨_, _, _, rfl⟩
          have HNB := Lib.hid hnb2
          have HRS := Lib.hid hrs
          clear hrs
          by_cases her : er = 0
          · subst her
            have hok := nbr_ok HU2.out.byt (by rw [hnb2])
            rw [hnb2] at hok
            simp only at hok
            obtain ⟨k0, k1, k2, k3, k4⟩ := hok
            clear hnb2
            have hgo : ∀ (q : List Int), q = ns → uN f a q rs = uN f a (ns ++ [n]) (rs.drop cnt) := by
              rintro q rfl
              match q, hns with
              | [], _ => simp only [uN, List.nil_append]; unfold uW; rw [HNB.out]; simp
              | [x0], _ => simp only [uN, List.cons_append, List.nil_append]; unfold uX; rw [HNB.out]; simp
              | [x0, x1], _ => simp only [uN, List.cons_append, List.nil_append]; unfold uY; rw [HNB.out]; simp
              | x0 :: x1 :: x2 :: xs, h => simp at h; omega
            have hg4 := HG3.out
            rw [hgo ns rfl] at hg4
            have HG4 := Lib.hid hg4
            clear hg4 hgo HG3
            obtain ⟨gb, goff, rfl, hgB, _⟩ := HU2.out.rd (by rw [bC_len]; omega)
            have i0 : (0 : Int) ≤ (cnt : Int) := by omega
            have i1 : (cnt : Int) ≤ (rs.length : Int) := by omega
            have hcc := HU2.out.cap
            have i2 : (rs.length : Int) ≤ (c2 : Int) := by omega
            have i3 : (0 : Int) ≤ (j : Int) := by omega
            have i4 : (j : Int) < 3 := by omega
            have zf := bk_free HL.out j
            have zc : wr.cell? ⟨Lb, j, none⟩ = some (.int .i64 (ns.getD j 0)) := by
              rcases (show j = 0 ∨ j = 1 ∨ j = 2 by omega) with rfl | rfl | rfl <;> exact bk_cell HL.out _ _ rfl
            go_upto_region 11 with (go_at_call 54; refine (number_any rs _ _ _ HRS.out HU2.out.byt hrsl).mono ?_; rintro e w3 ⟨rfl, rfl⟩; simp only [HNB.out])
            have HSZ := Lib.hid hsz
            clear hsz
            have hu3 := ((HU2.out.put Lb hwr HOL.out j (.int .i64 n)).drew).cut cnt
            have hl3 := bk_set HL.out j (.int .i64 n)
            rw [arr3_snoc ns j hns hj3] at hl3
            have hb3 : ∀ m ∈ ns ++ [n], 0 ≤ m ∧ m < 268435456 := fun m hm => by
              rcases List.mem_append.1 hm with hm | hm
              · exact hnb m hm
              · simp at hm; subst hm; exact ⟨k0, k1⟩
            have HU3 := Lib.hid hu3; have HL3 := Lib.hid hl3; have HB3 := Lib.hid hb3
            clear hu3 hl3 hb3 hnb
            by_cases hc2 : c2 = cnt
            · subst hc2
              have hu4 := HU3.out
              rw [if_pos rfl, Nat.sub_self] at hu4
              have HU4 := Lib.hid hu4; clear hu4 HU3
              go_region_law (fail)
              go_wp2
              go_roundw
              case rel => exact ⟨j + 1, ns ++ [n], rs.drop c2, _, _, by omega, by go_num, by simp [hns], by rw [List.length_drop, show rs.length - c2 = 0 from by omega], HU4.out, HL3.out, HG4.out, by simp; omega, HB3.out, by simp; exact HSZ.out⟩
              case measure => simp [intOf]; omega
            · have hu4 := HU3.out
              rw [if_neg hc2] at hu4
              have HU4 := Lib.hid hu4; clear hu4 HU3
              have hcn : (c2 == cnt) = false := beq_eq_false_iff_ne.2 hc2
              go_region_law (fail)
              go_wp2
              go_roundw
              case rel => exact ⟨j + 1, ns ++ [n], rs.drop cnt, _, _, by omega, by go_num, by simp [hns], by rw [List.length_drop], HU4.out, HL3.out, HG4.out, by simp; omega, HB3.out, by simp; exact HSZ.out⟩
              case measure => simp [intOf]; omega
          · have hbad : uN f a ns rs = ([], er) := by
              match ns, hns with
              | [], _ => simp only [uN]; unfold uW; rw [HNB.out]; simp [her]
              | [x0], _ => simp only [uN]; unfold uX; rw [HNB.out]; simp [her]
              | [x0, x1], _ => simp only [uN]; unfold uY; rw [HNB.out]; simp [her]
              | x0 :: x1 :: x2 :: xs, h => simp at h; omega
            have hr2 := HG3.out
            rw [hbad] at hr2
            have hr3 : r = ([], er) := by rw [← hr2]; simp [cmb, her]
            have hup : unpackF b = ([], er) := by unfold unpackF; rw [HRES.out, hr3]; simp [her]
            have HUP := Lib.hid hup
            have d1 : (er != 0) = true := bne_iff_ne.2 her
            have e0 := bk_cell HU2.out.res 0 _ rfl
            have f0 := bk_free HU2.out.res 0
            clear hbad hr2 hr3 hup hnb2 her hsz
            go_wp2_with (go_at_call 54; refine (number_any rs _ _ _ HRS.out HU2.out.byt hrsl).mono ?_; rintro e w3 ⟨rfl, rfl⟩; simp only [HNB.out])
            have hres := bk_set HU2.out.res 0 (.slice none 0 0)
            have p0 := bk_cell hres 0 _ rfl
            exact bodyPost_ret (v := .tuple #[.agg #[.slice none 0 0], .int .i64 er]) (by simp [results, Try.results39, go_sem, p0]) rfl (by rw [HUP.out]; exact ⟨_, _, rfl, World.ownsRow_nil _ _ _ _, HU2.out.old.setCell (by simp) _⟩)
        · have hj33 : j = 3 := by omega
          subst hj33
          obtain ⟨n0, n1, n2, rfl⟩ : ∃ n0 n1 n2, ns = [n0, n1, n2] := by
            match ns, hns with
            | [x0, x1, x2], _ => exact ⟨x0, x1, x2, rfl⟩
          have b0 := hnb n0 (by simp)
          have b1 := hnb n1 (by simp)
          have b2 := hnb n2 (by simp)
          have hg4 := HG3.out
          rw [show uN f a [n0, n1, n2] rs = uZ f a n0 n1 n2 rs from rfl, cmb_Z] at hg4
          have HG4 := Lib.hid hg4
          have l0 := bk_cell HL.out 0 _ rfl
          have l1 := bk_cell HL.out 1 _ rfl
          have l2 := bk_cell HL.out 2 _ rfl
          simp only [arr3] at l0 l1 l2
          clear hg4 HG3 hnb
          have hwb : w.heap.size ≤ wr.heap.size := HU2.out.old.size
          have hX : Un w ((wr.alloc (.cells #[.int .i64 (a + n0), .int .i64 (a + n0 + n1), .int .i64 n2] 74)).alloc (.cells #[.int .i64 (a + n0), .int .i64 (a + n0 + n1), .int .i64 n2] 74)) b rs A2 c2 acc At ct := (HU2.out.alloc _).alloc _
          have hxb := two_new wr (.cells #[.int .i64 (a + n0), .int .i64 (a + n0 + n1), .int .i64 n2] 74) (.cells #[.int .i64 (a + n0), .int .i64 (a + n0 + n1), .int .i64 n2] 74)
          have t0 := bk_cell HU2.out.tab 0 _ rfl
          have t1 := bk_cell (bk_alloc HU2.out.tab (.cells #[.int .i64 (a + n0), .int .i64 (a + n0 + n1), .int .i64 n2] 74)) 0 _ rfl
          have t2 := bk_cell (bk_alloc (bk_alloc HU2.out.tab (.cells #[.int .i64 (a + n0), .int .i64 (a + n0 + n1), .int .i64 n2] 74)) (.cells #[.int .i64 (a + n0), .int .i64 (a + n0 + n1), .int .i64 n2] 74)) 0 _ rfl
          have ge := own_ge HU2.out.own
          have lt := own_lt HU2.out.own
          have GE := Lib.hid ge; have LT := Lib.hid lt; clear ge lt
          have hws : Lb < wr.heap.size := by omega
          have HX := Lib.hid hX; have HXB := Lib.hid hxb
          have hal : acc.length ≤ 100000 := by omega
          clear hsz hX hxb
          go_wp2_with (at_builtin; go_loud (refine wpList_push (by rfl) (.tmp 50) (.tmp 52) 25 el_row (by rfl) (w.heap.size + 2) _ acc.length (rowCells acc) (by rfl) HX.out.own (wr.heap.size + 1) 1 [.int .i64 (a + n0), .int .i64 (a + n0 + n1), .int .i64 n2] (by rfl) HXB.out.2 rfl (by simp [Value.oneCell']) (by unfold maxLen; omega) (by omega) (by simp; omega) (wr.heap.size + 1 + 1) (by simp) ?_); intro g5 cap5 w5 ho5 hg5 hl5; have n5 := bk_grown (bk_alloc (bk_alloc HU2.out.tab (.cells #[.int .i64 (a + n0), .int .i64 (a + n0 + n1), .int .i64 n2] 74)) (.cells #[.int .i64 (a + n0), .int .i64 (a + n0 + n1), .int .i64 n2] 74)) hg5 (fun e => by have := GE.out _ e; omega); have m5 := bk_grown HXB.out.1 hg5 (fun e => by have := LT.out _ e; omega); have q5 := bk_grown (bk_alloc (bk_alloc HU2.out.res (.cells #[.int .i64 (a + n0), .int .i64 (a + n0 + n1), .int .i64 n2] 74)) (.cells #[.int .i64 (a + n0), .int .i64 (a + n0 + n1), .int .i64 n2] 74)) hg5 (fun e => by have := GE.out _ e; omega); have HG5 := Lib.hid hg5; have HO5 := Lib.hid ho5; have HL5 := Lib.hid hl5; have N5 := Lib.hid n5; have M5 := Lib.hid m5; have Q5 := Lib.hid q5; have t5 := bk_cell n5 0 _ rfl; have f5 := bk_free n5 0; have x5 := bk_cell m5 1 _ rfl; clear hg5 ho5 hl5 n5 m5 q5)
          have b5 : Below w.heap.size wr w5 := (((Below.refl _ _).alloc (by omega) (.cells #[.int .i64 (a + n0), .int .i64 (a + n0 + n1), .int .i64 n2] 74)).alloc (by simp; omega) (.cells #[.int .i64 (a + n0), .int .i64 (a + n0 + n1), .int .i64 n2] 74)).trans (below_of_grown HG5.out (by simp; omega) (fun g hg => by have := GE.out g hg; omega))
          have b6 := b5.setCell (p := ⟨w.heap.size + 1, 0, none⟩) (by simp) (.slice (some ⟨g5, 0, none⟩) (acc.length + 1) cap5)
          have hown := own_far HO5.out (p := ⟨w.heap.size + 1, 0, none⟩) (by simp) (.slice (some ⟨g5, 0, none⟩) (acc.length + 1) cap5)
          have hlx : (acc ++ [(⟨a + n0, a + n0 + n1, n2⟩ : R)]).length = acc.length + 1 := by simp
          have hnew : Un w (w5.setCell ⟨w.heap.size + 1, 0, none⟩ (.slice (some ⟨g5, 0, none⟩) (acc.length + 1) cap5)) b rs A2 c2 (acc ++ [⟨a + n0, a + n0 + n1, n2⟩]) (some ⟨g5, 0, none⟩) cap5 := by
            refine ⟨bk_far Q5.out (by simp) _, ?_, ?_, HU2.out.rd.below b6 (Nat.le_refl _), HU2.out.cap, HU2.out.byt, HU2.out.old.trans b6⟩
            · rw [hlx]; exact bk_set N5.out 0 _
            · rw [hlx, rowCells_append]; exact hown
          have HN := Lib.hid hnew
          clear hnew hown hlx
          go_roundw
          case rel => exact ⟨rs, A2, c2, acc ++ [⟨a + n0, a + n0 + n1, n2⟩], some ⟨g5, 0, none⟩, cap5, a + n0 + n1, f, rfl, rfl, HN.out, HG4.out, by omega, by simp; omega, by omega, by simp; omega⟩
          case measure => simp only [lenS]; omega
end Go.Proofs.Ytcempbgbdlmjfaa
