/-
  lapwinglaw22.MouseTells: the walk: for any modes, event and sizes it answers true.
-/
import Derived.Test.YtcempbgbdlmjfaaDoorMsD
import Derived.Test.YtcempbgbdlmjfaaDoorMsO
import Derived.Test.YtcempbgbdlmjfaaDoorMsT0
import Derived.Test.YtcempbgbdlmjfaaDoorP6Aw
import Derived.Deep.DeepCutAuto
import Derived.Deep.RegionWith
namespace Go.Proofs.YtcempbgbdlmjfaaDoor
open Go.RowKit

/-- what is told with an encoding -/
def txtL (mark : Bool) (n x y fin : Int) : List Int := 27 :: 91 :: (optC mark 60 ++ (bL (Lib.itoa n) ++ (59 :: (bL (Lib.itoa x) ++ (59 :: (bL (Lib.itoa y) ++ [fin]))))))
theorem txt_len (mark : Bool) (n x y fin : Int) (hn : 0 ≤ n ∧ n ≤ 65535) (hx : 0 ≤ x ∧ x ≤ 65535) (hy : 0 ≤ y ∧ y ≤ 65535) : 1 ≤ (txtL mark n x y fin).length ∧ (txtL mark n x y fin).length ≤ 100 := by
  have h1 := itoa_len n ⟨by omega, hn.2⟩
  have h2 := itoa_len x ⟨by omega, hx.2⟩
  have h3 := itoa_len y ⟨by omega, hy.2⟩
  have h4 : (optC mark 60).length ≤ 1 := by cases mark <;> simp [optC]
  simp only [txtL, List.length_cons, List.length_append, List.length_nil, bL, List.length_map]
  omega
theorem bL_byte (l : List UInt8) : ∀ c ∈ bL l, 0 ≤ c ∧ c < 256 := by
  intro c hc
  unfold bL at hc
  obtain ⟨y, _, rfl⟩ := List.mem_map.1 hc
  have := y.toNat_lt
  omega
theorem txt_byte (mark : Bool) (n x y fin : Int) (hf : 0 ≤ fin ∧ fin < 256) : ∀ c ∈ txtL mark n x y fin, 0 ≤ c ∧ c < 256 := by
  intro c hc
  have h4 : ∀ c ∈ optC mark 60, 0 ≤ c ∧ c < 256 := by intro c hc; cases mark <;> simp [optC] at hc; omega
  simp only [txtL, List.mem_cons, List.mem_append, List.not_mem_nil, or_false] at hc
  rcases hc with rfl | rfl | hc | hc | rfl | hc | rfl | hc | rfl
  · omega
  · omega
  · exact h4 c hc
  · exact bL_byte _ c hc
  · omega
  · exact bL_byte _ c hc
  · omega
  · exact bL_byte _ c hc
  · exact hf
theorem get_1 (n x y : Int) (hx : 0 ≤ x) : getP [[n], [x], [y]] 1 0 = x := by simp [getP]; omega
theorem get_2 (n x y : Int) (hy : 0 ≤ y) : getP [[n], [x], [y]] 2 0 = y := by simp [getP]; omega
theorem enc_cases (B : Int) : codF B = 0 ∨ codF B = 1006 ∨ codF B = 1015 := by
  unfold codF codeB
  repeat (first | split | omega)
def Rep (B k b m x y H V : Int) (P : World → Option Addr → Nat → Prop) : Prop := ∀ W : World, TabM W → TabI W → Calls Tryd.prog 48 #[.agg #[.int .i64 B], .agg #[.int .i64 k, .int .i64 b, .int .i64 m, .int .i64 x, .int .i64 y], .int .i64 H, .int .i64 V] W fun e w' => ∃ A N cp, e = .returned (.slice A N cp) ∧ P w' A N ∧ Below W.heap.size W w'
/-- what the law's own Report tells, in one cell -/
def SlT (W wx : World) (s : Value) (P : World → Option Addr → Nat → Prop) : Prop := ∃ A N cp, s = .slice A N cp ∧ P wx A N ∧ Below W.heap.size W wx
set_option maxRecDepth 100000 in
set_option maxHeartbeats 6400000 in
theorem mt_quick (B k b m x y x2 x3 : Int) (w : World) (hM : TabM w) (hT : TabI w) (p q H V : Nat) (hp : bits .and .i64 x2 255 = (p : Int)) (hq : bits .and .i64 x3 255 = (q : Int)) (eH : (1 : Int) + p = H) (eV : (1 : Int) + q = V) (_hH1 : 1 ≤ H) (hH2 : H ≤ 256) (_hV1 : 1 ≤ V) (hV2 : V ≤ 256) (P : World → Option Addr → Nat → Prop) (hPP : ∀ wx A N, P wx A N → N = 0 ∨ codF B = 0) (hrep : Rep B k b m x y H V P) : Calls Tryd.prog 20 #[.int .i64 B, .agg #[.int .i64 k, .int .i64 b, .int .i64 m, .int .i64 x, .int .i64 y], .int .i64 x2, .int .i64 x3] w fun e w' => e = .returned (.bool true) ∧ Below w.heap.size w w' := by
  obtain ⟨enc, henc⟩ : ∃ enc, codF B = enc := ⟨_, rfl⟩
  have HC := Lib.hid henc; have HPP := Lib.hid hPP
  clear henc hPP
  have n1 : EvL (w.alloc (.cells #[.int .i64 k, .int .i64 b, .int .i64 m, .int .i64 x, .int .i64 y] 71)) w.heap.size k b m x y := heap_alloc_new w _
  have b1 : Below w.heap.size w (w.alloc (.cells #[.int .i64 k, .int .i64 b, .int .i64 m, .int .i64 x, .int .i64 y] 71)) := (Below.refl _ _).alloc (Nat.le_refl _) _
  have m1 := hM.below b1
  have t1 := hT.below b1
  have HR := Lib.hid hrep
  have wH : IntKind.i64.wrap (H : Int) = H := IntWalk.i64_in _ (by omega)
  have wV : IntKind.i64.wrap (V : Int) = V := IntWalk.i64_in _ (by omega)
  have N1 := Lib.hid n1; have B1 := Lib.hid b1; have M1 := Lib.hid m1; have T1 := Lib.hid t1
  clear hM hT n1 b1 m1 t1 hrep
  go_enter Tryd.func20, Tryd.ntmps20
  go_wp2_with fail
  refine (awake22_any _ M1.out T1.out).mono ?_
  rintro e w1 ⟨rfl, hb⟩
  have hb1 : Below w1.heap.size w1 (w1.alloc (.cells #[.int .i64 B] 24)) := (Below.refl _ _).alloc (Nat.le_refl _) _
  have hn := (N1.out.past hb).past hb1
  have hk : (w1.alloc (.cells #[.int .i64 B] 24)).heap[w1.heap.size]? = some (.cells #[.int .i64 B] 24 (0, 0)) := heap_alloc_new w1 _
  have mc := bk_cell hk 0 _ rfl
  have hbb := B1.out.trans (hb.mono B1.out.size)
  have N2 := Lib.hid hn; have B2 := Lib.hid (hbb.trans (hb1.mono hbb.size)); have M2 := Lib.hid ((M1.out.below hb).below hb1); have T2 := Lib.hid ((T1.out.below hb).below hb1); have G2 := Lib.hid hk
  obtain ⟨e0, e1, e2, e3, e4⟩ := hn.cells
  have zg := bk_lt hk
  have ze := bk_lt hn
  clear hb hb1 hk hn hbb N1 B1 M1 T1
  go_upto_region 3 with (fail)
  generalize (w1.alloc (.cells #[.int .i64 B] 24)) = W2 at mc N2 B2 M2 T2 G2 e0 e1 e2 e3 e4 zg ze ⊢
  go_cut [11] (fun s wx => SlT W2 wx s P)
  case first =>
    go_region_with (first
      | (go_at_call 49; refine (ours_any k b m x y _).mono ?_; rintro e wa ⟨rfl, hba⟩; have bb : Below W2.heap.size W2 wa := al_call (by (repeat first | exact Below.refl _ _ | assumption | apply al_drew | apply al_alloc)) hba; have f0 := past bb mc)
      | (go_at_call 48; refine (HR.out _ (M2.out.below (by (repeat first | exact Below.refl _ _ | assumption | apply al_drew | apply al_alloc))) (T2.out.below (by (repeat first | exact Below.refl _ _ | assumption | apply al_drew | apply al_alloc)))).mono ?_; rintro e wa ⟨A, N, cp, rfl, hP, hba⟩; have bb2 : Below W2.heap.size W2 wa := al_call (by (repeat first | exact Below.refl _ _ | assumption | apply al_drew | apply al_alloc)) hba))
    all_goals
      go_wp2_with fail
      go_meet
      case rel => exact ⟨A, N, cp, rfl, hP, bb2⟩
  case rest =>
  obtain ⟨A3, N3, cp3, rfl, hP3, hb3⟩ := hcut
  have N3' := Lib.hid (N2.out.past hb3); have B3 := Lib.hid (B2.out.trans (hb3.mono B2.out.size)); have M3 := Lib.hid (M2.out.below hb3); have T3 := Lib.hid (T2.out.below hb3); have G3 := Lib.hid (bk_past G2.out hb3 (Nat.le_refl _))
  clear mc e0 e1 e2 e3 e4 zg ze hb3 N2 B2 M2 T2 G2
  have mc := bk_cell G3.out 0 _ rfl
  have HP3 := Lib.hid hP3
  clear hP3
  go_wp2_with fail
  refine (mouse_any B _ M3.out).mono ?_
  rintro e w4 ⟨rfl, hb⟩
  simp only [HC.out]
  have N4 := Lib.hid (N3'.out.past hb); have B4 := Lib.hid (B3.out.trans (hb.mono B3.out.size)); have T4 := Lib.hid (T3.out.below hb)
  have HB4 := Lib.hid hb
  clear hb mc N3' B3 M3 T3 G3
  have hor := HPP.out _ _ _ HP3.out
  rw [HC.out] at hor
  by_cases h0 : N3 = 0
  · subst h0
    clear hor
    go_wp2_with fail
    go_ret
    exact ⟨rfl, B4.out⟩
  · have dz : ((N3 : Int) == 0) = false := by rw [beq_eq_false_iff_ne]; omega
    have he : enc = 0 := by rcases hor with h | h; exact absurd h h0; exact h
    subst he
    clear hor h0
    go_wp2_with fail
    go_ret
    exact ⟨rfl, B4.out⟩
set_option maxRecDepth 100000 in
set_option maxHeartbeats 12800000 in
theorem mt_main (B k b m x y x2 x3 : Int) (w : World) (hM : TabM w) (hT : TabI w) (p q H V : Nat) (hp : bits .and .i64 x2 255 = (p : Int)) (hq : bits .and .i64 x3 255 = (q : Int)) (eH : (1 : Int) + p = H) (eV : (1 : Int) + q = V) (_hH1 : 1 ≤ H) (hH2 : H ≤ 256) (_hV1 : 1 ≤ V) (hV2 : V ≤ 256)
    (mark : Bool) (n cx cy fin enc : Int) (henc : codF B = enc) (he0 : enc = 1006 ∨ enc = 1015) (hn : 0 ≤ n ∧ n ≤ 65535) (hcx : 1 ≤ cx ∧ cx ≤ V) (hcy : 1 ≤ cy ∧ cy ≤ H) (_hfin : fin = 109 ∨ fin = 77)
    (hxx : x < 0 ∨ (V : Int) ≤ x ∨ cx = x + 1) (hw : (enc = 1006 ∧ k = 1 ∧ fin = 109 ∧ mark = true) ∨ (enc = 1006 ∧ k ≠ 1 ∧ fin = 77 ∧ mark = true) ∨ (enc = 1015 ∧ fin = 77 ∧ mark = false))
    (P : World → Option Addr → Nat → Prop) (hPP : ∀ wx A N, P wx A N → N = (txtL mark n cx cy fin).length ∧ Rd wx wx.heap.size A ((txtL mark n cx cy fin).map (.int .u8))) (hrep : Rep B k b m x y H V P) : Calls Tryd.prog 20 #[.int .i64 B, .agg #[.int .i64 k, .int .i64 b, .int .i64 m, .int .i64 x, .int .i64 y], .int .i64 x2, .int .i64 x3] w fun e w' => e = .returned (.bool true) ∧ Below w.heap.size w w' := by
  have HC := Lib.hid henc; have HPP := Lib.hid hPP
  have hlaw := tells_law n cx cy fin mark hn (by omega) (by omega) (by omega)
  have hlen := txt_len mark n cx cy fin hn (by omega) (by omega)
  have hbyte := txt_byte mark n cx cy fin (by omega)
  have HLAW : Hid (feedS st0 (txtL mark n cx cy fin) = (st0, [⟨4, 0, fin, optC mark 60, [[n], [cx], [cy]], []⟩])) := Lib.hid hlaw
  have hg1 := get_1 n cx cy (by omega)
  have hg2 := get_2 n cx cy (by omega)
  have G1 := Lib.hid hg1; have GG2 := Lib.hid hg2
  obtain ⟨L, hL⟩ : ∃ L, txtL mark n cx cy fin = L := ⟨_, rfl⟩
  rw [hL] at HLAW hlen hbyte
  have HL := Lib.hid hL
  have HBY := Lib.hid hbyte
  obtain ⟨NL, hNL⟩ : ∃ NL, L.length = NL := ⟨_, rfl⟩
  rw [hNL] at hlen
  have HNL := Lib.hid hNL
  obtain ⟨hl1, hl2⟩ := hlen
  have HN := Lib.hid hn; have HXX := Lib.hid hxx; have HW := Lib.hid hw; have HE0 := Lib.hid he0
  clear henc hPP hlaw hbyte hg1 hg2 hL hNL hn _hfin hxx hw he0
  have n1 : EvL (w.alloc (.cells #[.int .i64 k, .int .i64 b, .int .i64 m, .int .i64 x, .int .i64 y] 71)) w.heap.size k b m x y := heap_alloc_new w _
  have b1 : Below w.heap.size w (w.alloc (.cells #[.int .i64 k, .int .i64 b, .int .i64 m, .int .i64 x, .int .i64 y] 71)) := (Below.refl _ _).alloc (Nat.le_refl _) _
  have m1 := hM.below b1
  have t1 := hT.below b1
  have HR := Lib.hid hrep
  have wH : IntKind.i64.wrap (H : Int) = H := IntWalk.i64_in _ (by omega)
  have wV : IntKind.i64.wrap (V : Int) = V := IntWalk.i64_in _ (by omega)
  have N1 := Lib.hid n1; have B1 := Lib.hid b1; have M1 := Lib.hid m1; have T1 := Lib.hid t1
  clear hM hT n1 b1 m1 t1 hrep
  go_enter Tryd.func20, Tryd.ntmps20
  go_wp2_with fail
  refine (awake22_any _ M1.out T1.out).mono ?_
  rintro e w1 ⟨rfl, hb⟩
  have hb1 : Below w1.heap.size w1 (w1.alloc (.cells #[.int .i64 B] 24)) := (Below.refl _ _).alloc (Nat.le_refl _) _
  have hn := (N1.out.past hb).past hb1
  have hk : (w1.alloc (.cells #[.int .i64 B] 24)).heap[w1.heap.size]? = some (.cells #[.int .i64 B] 24 (0, 0)) := heap_alloc_new w1 _
  have mc := bk_cell hk 0 _ rfl
  have hbb := B1.out.trans (hb.mono B1.out.size)
  have N2 := Lib.hid hn; have B2 := Lib.hid (hbb.trans (hb1.mono hbb.size)); have M2 := Lib.hid ((M1.out.below hb).below hb1); have T2 := Lib.hid ((T1.out.below hb).below hb1); have G2 := Lib.hid hk
  obtain ⟨e0, e1, e2, e3, e4⟩ := hn.cells
  have zg := bk_lt hk
  have ze := bk_lt hn
  clear hb hb1 hk hn hbb N1 B1 M1 T1
  go_upto_region 3 with (fail)
  generalize (w1.alloc (.cells #[.int .i64 B] 24)) = W2 at mc N2 B2 M2 T2 G2 e0 e1 e2 e3 e4 zg ze ⊢
  go_cut [11] (fun s wx => SlT W2 wx s P)
  case first =>
    go_region_with (first
      | (go_at_call 49; refine (ours_any k b m x y _).mono ?_; rintro e wa ⟨rfl, hba⟩; have bb : Below W2.heap.size W2 wa := al_call (by (repeat first | exact Below.refl _ _ | assumption | apply al_drew | apply al_alloc)) hba; have f0 := past bb mc)
      | (go_at_call 48; refine (HR.out _ (M2.out.below (by (repeat first | exact Below.refl _ _ | assumption | apply al_drew | apply al_alloc))) (T2.out.below (by (repeat first | exact Below.refl _ _ | assumption | apply al_drew | apply al_alloc)))).mono ?_; rintro e wa ⟨A, N, cp, rfl, hP, hba⟩; have bb2 : Below W2.heap.size W2 wa := al_call (by (repeat first | exact Below.refl _ _ | assumption | apply al_drew | apply al_alloc)) hba))
    all_goals
      go_wp2_with fail
      go_meet
      case rel => exact ⟨A, N, cp, rfl, hP, bb2⟩
  case rest =>
  obtain ⟨A3, N3, cp3, rfl, hP3, hb3⟩ := hcut
  have N3' := Lib.hid (N2.out.past hb3); have B3 := Lib.hid (B2.out.trans (hb3.mono B2.out.size)); have M3 := Lib.hid (M2.out.below hb3); have T3 := Lib.hid (T2.out.below hb3); have G3 := Lib.hid (bk_past G2.out hb3 (Nat.le_refl _))
  clear mc e0 e1 e2 e3 e4 zg ze hb3 N2 B2 M2 T2 G2
  have mc := bk_cell G3.out 0 _ rfl
  have HP3 := Lib.hid hP3
  clear hP3
  go_wp2_with fail
  refine (mouse_any B _ M3.out).mono ?_
  rintro e w4 ⟨rfl, hb⟩
  simp only [HC.out]
  have N4 := Lib.hid (N3'.out.past hb); have B4 := Lib.hid (B3.out.trans (hb.mono B3.out.size)); have T4 := Lib.hid (T3.out.below hb)
  have HB4 := Lib.hid hb
  clear hb mc N3' B3 M3 T3 G3
  obtain ⟨hN, hR⟩ := HPP.out _ _ _ HP3.out
  rw [HL.out] at hN hR
  rw [HNL.out] at hN
  subst hN
  have HR4 := Lib.hid (hR.next HB4.out)
  have dz : ((N3 : Int) == 0) = false := by rw [beq_eq_false_iff_ne]; omega
  have dc : (enc == 0) = false := by rw [beq_eq_false_iff_ne]; rcases HE0.out with h | h <;> omega
  clear hR HP3 HB4
  go_wp2_with fail
  go_loopw [14, 15] (fun all i wr => ∃ (j : Nat) (A : Option Addr) (c : Nat), j ≤ N3 ∧ i = .int .i64 j ∧ all = .slice A j c ∧ wr.ownsRow w4.heap.size 3 1 (.slice A j c) j (nC (L.take j)) ∧ Below w4.heap.size w4 wr) (fun _ i _ => N3 - (intOf i).toNat)
  case atStart => exact ⟨0, none, 0, Nat.zero_le _, rfl, rfl, World.ownsRow_nil _ _ _ _, Below.refl _ _⟩
  case round =>
    obtain ⟨j, A, c, hj, rfl, rfl, hown, hbr⟩ := hrel
    have HO := Lib.hid hown; have BR := Lib.hid hbr
    have hsz := hbr.size
    by_cases hlt : j < N3
    · have hll := HNL.out
      have hjL : j < L.length := by omega
      obtain ⟨bk, off, hA, hbB, hc⟩ := HR4.out (by rw [List.length_map]; omega)
      subst hA
      have hcx := past_B hbr (p := ⟨bk, off + j, none⟩) hbB (hc j (by rw [List.length_map]; omega))
      obtain ⟨z, hz⟩ : ∃ z, L[j]'hjL = z := ⟨_, rfl⟩
      have hzz : (L.map (.int .u8))[j]'(by rw [List.length_map]; omega) = Value.int .u8 z := by rw [← hz]; simp
      rw [hzz] at hcx
      have hzr := HBY.out z (by rw [← hz]; exact List.getElem_mem _)
      obtain ⟨hz0, hz1⟩ := hzr
      have i0 : (0 : Int) ≤ (j : Int) := by omega
      have i1 : (j : Int) < (N3 : Int) := by omega
      have HZ := Lib.hid hz
      have HO2 : Hid (World.ownsRow (wr.alloc (.cells #[.int .i64 z] 3)) w4.heap.size 3 1 (.slice A j c) j (nC (L.take j))) := Lib.hid (own_past hown ((Below.refl _ _).alloc (Nat.le_refl _) _))
      have HLL := Lib.hid hll
      clear hown hbr hz hc hzz hll
      go_wp2_with (at_builtin; go_loud (refine wpList_push (by rfl) (.tmp 52) (.tmp 58) 47 el_num (by rfl) w4.heap.size _ j (nC (L.take j)) (by rfl) HO2.out wr.heap.size 1 [.int .i64 z] (by rfl) (heap_alloc_new wr _) rfl (by simp [Value.oneCell']) (by unfold maxLen; omega) (by omega) (by simp; omega) (wr.heap.size + 1) (by simp) ?_); intro g cap w5 ho5 hg5 hl5; refine Hid.out ?_)
      have hb5 : Below w4.heap.size w4 w5 := (BR.out.alloc hsz (.cells #[.int .i64 z] 3)).trans (below_of_grown hg5 (by simp; omega) fun g' hg' => own_ge HO.out g' hg')
      have ho6 : w5.ownsRow w4.heap.size 3 1 (.slice (some ⟨g, 0, none⟩) (j + 1) cap) (j + 1) (nC (L.take (j + 1))) := by
        rw [List.take_succ_eq_append_getElem (by have := HLL.out; omega), HZ.out, nC_append]
        exact ho5
      refine Lib.hid ?_
      clear ho5 hg5 hl5
      go_wp2_with fail
      go_roundw
      case rel => exact ⟨j + 1, _, _, by omega, by go_num, rfl, ho6, hb5⟩
      case measure => simp [intOf]; omega
    · obtain rfl : j = N3 := by omega
      have hrl := own_nC hown
      rw [List.take_of_length_le (by have := HNL.out; omega)] at hrl
      have HRL := Lib.hid hrl
      have hN5 := N4.out.past hbr
      have hb5 := B4.out.trans (hbr.mono B4.out.size)
      have N5 := Lib.hid hN5; have B5 := Lib.hid hb5
      clear hown hbr hrl hN5 hb5 N4 B4 HR4
      go_wp2_with fail
      refine (feed_st L _ _ j 1 HLAW.out HNL.out rfl A c _ HRL.out (by omega)).mono ?_
      rintro e w6 ⟨a5, inter5, ov5, l5, o5, text5, k5, ib5, tb5, A5, c5, Ac, cA, vs, hs5, rfl, htx, hpz, hown, hb⟩
      simp only [st0, St.mk.injEq] at hs5
      obtain ⟨rfl, rfl, rfl, rfl, rfl, rfl, rfl⟩ := hs5
      obtain ⟨g, ⟨ax, ibx, tbx, Ax, cxx⟩, rfl, hge, hgl, hxe, hvx, htxx, hpx, y0, y1, y2, y3, y4, y5⟩ := own_ax hown 0 (by simp)
      simp only [List.getElem_cons_zero] at hxe
      subst hxe
      simp only [Nat.zero_mul, Nat.zero_add, List.length_cons, List.length_nil] at y0 y1 y2 y3 y4 y5
      have hib := htxx.ib
      simp only at hib
      have hrl := hpx.ok.rd (v := sv0) (RdLL.nil _ _ _)
      simp only [List.length_cons, List.length_nil] at hrl
      have hn6 := N5.out.past hb
      have hb6 := B5.out.trans (hb.mono B5.out.size)
      have bx : Below w6.heap.size w6 (w6.alloc (.cells #[.int .i64 0, .string ib5, .bool false, .slice A5 0 c5, .bool false, .string tb5, .int .u8 0] 82)) := (Below.refl _ _).alloc (Nat.le_refl _) _
      have hn7 := hn6.past bx
      have z0 := past bx y0; have z2 := past bx y2; have z3 := past bx y3; have z4 := past bx y4
      obtain ⟨e0, e1, e2, e3, e4⟩ := hn7.cells
      have HX := Lib.hid (hrl.next bx); have B7 := Lib.hid (hb6.trans (bx.mono hb6.size)); have HIB := Lib.hid hib
      clear hib htxx hvx hpx hrl hn6 hb6 bx hb hown htx hpz y1 y5 hn7 e1 e2 e4 N5 B5 y0 y2 y3 y4
      go_wp2_with fail
      generalize (w6.alloc (.cells #[.int .i64 0, .string ib5, .bool false, .slice A5 0 c5, .bool false, .string tb5, .int .u8 0] 82)) = W7 at z0 z2 z3 z4 e0 e3 HX B7 ⊢
      refine (get5_any _ _ _ _ _ HX.out).mono ?_
      rintro e _ ⟨rfl, rfl⟩
      simp only [G1.out]
      go_wp2_with fail
      refine (get5_any _ _ _ _ _ HX.out).mono ?_
      rintro e _ ⟨rfl, rfl⟩
      simp only [GG2.out]
      obtain ⟨cx0, cx1⟩ := hcx
      obtain ⟨cy0, cy1⟩ := hcy
      have hib := HIB.out
      have r0 := fun u : After W7 => u.cell e0
      have r3 := fun u : After W7 => u.cell e3
      have s2 := fun u : After W7 => u.cell z2
      have s3 := fun u : After W7 => u.cell z3
      clear e0 e3 z0 z2 z3 z4
      have hxx := HXX.out
      by_cases hX0 : x < 0
      · clear hxx
        rcases HW.out with ⟨rfl, rfl, rfl, rfl⟩ | ⟨rfl, hk1, rfl, rfl⟩ | ⟨rfl, rfl, rfl⟩
        · obtain rfl : ibx = ⟨#[60]⟩ := bI_inj (by rw [hib]; rfl)
          clear hib
          go_wp2_with fail
          refine wp_region_after (by kernel_rfl) (by kernel_rfl) ?_
          repeat (go_big_quiet_step (fail))
          refine wpQuiet_nil ?_
          rintro _ ⟨u, rfl⟩
          go_wp2_with fail
          go_ret
          exact ⟨rfl, B7.out.trans (u.below.mono B7.out.size)⟩
        · obtain rfl : ibx = ⟨#[60]⟩ := bI_inj (by rw [hib]; rfl)
          have dk : (k == 1) = false := by rw [beq_eq_false_iff_ne]; exact hk1
          clear hib hk1
          go_wp2_with fail
          refine wp_region_after (by kernel_rfl) (by kernel_rfl) ?_
          repeat (go_big_quiet_step (fail))
          refine wpQuiet_nil ?_
          rintro _ ⟨u, rfl⟩
          go_wp2_with fail
          go_ret
          exact ⟨rfl, B7.out.trans (u.below.mono B7.out.size)⟩
        · obtain rfl : ibx = ⟨#[]⟩ := bI_inj (by rw [hib]; rfl)
          clear hib
          go_wp2_with fail
          refine wp_region_after (by kernel_rfl) (by kernel_rfl) ?_
          repeat (go_big_quiet_step (fail))
          refine wpQuiet_nil ?_
          rintro _ ⟨u, rfl⟩
          go_wp2_with fail
          go_ret
          exact ⟨rfl, B7.out.trans (u.below.mono B7.out.size)⟩
      by_cases hX1 : (V : Int) ≤ x
      · have dL : decide (x < 0) = false := decide_eq_false (by omega)
        have dG : decide ((V : Int) ≤ x) = true := decide_eq_true (by omega)
        clear hxx
        rcases HW.out with ⟨rfl, rfl, rfl, rfl⟩ | ⟨rfl, hk1, rfl, rfl⟩ | ⟨rfl, rfl, rfl⟩
        · obtain rfl : ibx = ⟨#[60]⟩ := bI_inj (by rw [hib]; rfl)
          clear hib
          go_wp2_with fail
          refine wp_region_after (by kernel_rfl) (by kernel_rfl) ?_
          repeat (go_big_quiet_step (fail))
          refine wpQuiet_nil ?_
          rintro _ ⟨u, rfl⟩
          go_wp2_with fail
          go_ret
          exact ⟨rfl, B7.out.trans (u.below.mono B7.out.size)⟩
        · obtain rfl : ibx = ⟨#[60]⟩ := bI_inj (by rw [hib]; rfl)
          have dk : (k == 1) = false := by rw [beq_eq_false_iff_ne]; exact hk1
          clear hib hk1
          go_wp2_with fail
          refine wp_region_after (by kernel_rfl) (by kernel_rfl) ?_
          repeat (go_big_quiet_step (fail))
          refine wpQuiet_nil ?_
          rintro _ ⟨u, rfl⟩
          go_wp2_with fail
          go_ret
          exact ⟨rfl, B7.out.trans (u.below.mono B7.out.size)⟩
        · obtain rfl : ibx = ⟨#[]⟩ := bI_inj (by rw [hib]; rfl)
          clear hib
          go_wp2_with fail
          refine wp_region_after (by kernel_rfl) (by kernel_rfl) ?_
          repeat (go_big_quiet_step (fail))
          refine wpQuiet_nil ?_
          rintro _ ⟨u, rfl⟩
          go_wp2_with fail
          go_ret
          exact ⟨rfl, B7.out.trans (u.below.mono B7.out.size)⟩
      · have dL : decide (x < 0) = false := decide_eq_false (by omega)
        have dG : decide ((V : Int) ≤ x) = false := decide_eq_false (by omega)
        have dX : (cx == x + 1) = true := by rw [beq_iff_eq]; omega
        have x0' : 0 ≤ x := by omega
        have x1' : x ≤ 256 := by omega
        clear hxx hX0 hX1
        rcases HW.out with ⟨rfl, rfl, rfl, rfl⟩ | ⟨rfl, hk1, rfl, rfl⟩ | ⟨rfl, rfl, rfl⟩
        · obtain rfl : ibx = ⟨#[60]⟩ := bI_inj (by rw [hib]; rfl)
          clear hib
          go_wp2_with fail
          refine wp_region_after (by kernel_rfl) (by kernel_rfl) ?_
          repeat (go_big_quiet_step (fail))
          refine wpQuiet_nil ?_
          rintro _ ⟨u, rfl⟩
          go_wp2_with fail
          go_ret
          exact ⟨rfl, B7.out.trans (u.below.mono B7.out.size)⟩
        · obtain rfl : ibx = ⟨#[60]⟩ := bI_inj (by rw [hib]; rfl)
          have dk : (k == 1) = false := by rw [beq_eq_false_iff_ne]; exact hk1
          clear hib hk1
          go_wp2_with fail
          refine wp_region_after (by kernel_rfl) (by kernel_rfl) ?_
          repeat (go_big_quiet_step (fail))
          refine wpQuiet_nil ?_
          rintro _ ⟨u, rfl⟩
          go_wp2_with fail
          go_ret
          exact ⟨rfl, B7.out.trans (u.below.mono B7.out.size)⟩
        · obtain rfl : ibx = ⟨#[]⟩ := bI_inj (by rw [hib]; rfl)
          clear hib
          go_wp2_with fail
          refine wp_region_after (by kernel_rfl) (by kernel_rfl) ?_
          repeat (go_big_quiet_step (fail))
          refine wpQuiet_nil ?_
          rintro _ ⟨u, rfl⟩
          go_wp2_with fail
          go_ret
          exact ⟨rfl, B7.out.trans (u.below.mono B7.out.size)⟩
theorem rep_of_none {B k b m x y H V : Int} (h : ∀ w : World, TabM w → Calls Tryd.prog 48 #[.agg #[.int .i64 B], .agg #[.int .i64 k, .int .i64 b, .int .i64 m, .int .i64 x, .int .i64 y], .int .i64 H, .int .i64 V] w fun e w' => e = .returned (.slice none 0 0) ∧ Below w.heap.size w w') : Rep B k b m x y H V (fun _ _ N => N = 0) := fun w hM _ =>
  (h w hM).mono fun _ _ ⟨e, hb⟩ => ⟨none, 0, 0, e, rfl, hb⟩
theorem mt_any (B k b m x y x2 x3 : Int) (w : World) (hM : TabM w) (hT : TabI w) (hx : Wf x) (hy : Wf y) (hm : Wf m) : Calls Tryd.prog 20 #[.int .i64 B, .agg #[.int .i64 k, .int .i64 b, .int .i64 m, .int .i64 x, .int .i64 y], .int .i64 x2, .int .i64 x3] w fun e w' => e = .returned (.bool true) ∧ Below w.heap.size w w' := by
  obtain ⟨p, hp, hp2⟩ : ∃ p : Nat, bits .and .i64 x2 255 = (p : Int) ∧ p < 2 ^ 8 := ⟨_, and_low x2 8 (by omega) 255 (by rfl), Nat.mod_lt _ (by omega)⟩
  obtain ⟨q, hq, hq2⟩ : ∃ q : Nat, bits .and .i64 x3 255 = (q : Int) ∧ q < 2 ^ 8 := ⟨_, and_low x3 8 (by omega) 255 (by rfl), Nat.mod_lt _ (by omega)⟩
  have eH : (1 : Int) + p = ((p + 1 : Nat) : Int) := by omega
  have eV : (1 : Int) + q = ((q + 1 : Nat) : Int) := by omega
  generalize p + 1 = H at eH
  generalize q + 1 = V at eV
  have hH1 : 1 ≤ H := by omega
  have hH2 : H ≤ 256 := by omega
  have hV1 : 1 ≤ V := by omega
  have hV2 : V ≤ 256 := by omega
  have wh : Wf (H : Int) := by unfold Wf; omega
  have wv : Wf (V : Int) := by unfold Wf; omega
  cases hf : fineF k b m with
  | false => exact mt_quick B k b m x y x2 x3 w hM hT p q H V hp hq eH eV hH1 hH2 hV1 hV2 _ (fun _ _ _ h => .inl h) (rep_of_none fun W hM => rep_nofine B k b m x y H V W hM hf)
  | true =>
    cases ht : toldF (mouF B) k b with
    | false => exact mt_quick B k b m x y x2 x3 w hM hT p q H V hp hq eH eV hH1 hH2 hV1 hV2 _ (fun _ _ _ h => .inl h) (rep_of_none fun W hM => rep_notold B k b m x y H V W hM hf ht)
    | true =>
      have hsh : shapeF k b = true ∧ modsOk m = true := by unfold fineF at hf; simpa using hf
      have hmb := mods_bd m hm hsh.2
      have hkb := of_decide_eq_true hsh.1
      have hcx : 0 ≤ clampF x V ∧ clampF x V + 1 ≤ V := by unfold clampF; rw [if_neg (by omega)]; omega
      have hcy : 0 ≤ clampF y H ∧ clampF y H + 1 ≤ H := by unfold clampF; rw [if_neg (by omega)]; omega
      have hxx : x < 0 ∨ (V : Int) ≤ x ∨ clampF x V + 1 = x + 1 := by unfold clampF; rw [if_neg (by omega)]; omega
      have hn : ∀ e, 0 ≤ codeF (mouF B) e k b m ∧ codeF (mouF B) e k b m + 32 ≤ 65535 := fun e => by
        unfold codeF
        repeat (first | split | omega)
      rcases enc_cases B with hc | hc | hc
      · exact mt_quick B k b m x y x2 x3 w hM hT p q H V hp hq eH eV hH1 hH2 hV1 hV2 (fun _ _ _ => True) (fun _ _ _ _ => .inr hc) fun W hM hT =>
          (rep_old B k b m x y H V W hM hT hx hy wh wv hf ht hm hc).mono fun _ _ ⟨A, N, cp, e, hb⟩ => ⟨A, N, cp, e, trivial, hb⟩
      · have hn1 := hn 1006
        by_cases hk : k = 1
        · refine mt_main B k b m x y x2 x3 w hM hT p q H V hp hq eH eV hH1 hH2 hV1 hV2 true (codeF (mouF B) 1006 k b m) (clampF x V + 1) (clampF y H + 1) 109 1006 hc (.inl rfl) (by omega) (by omega) (by omega) (.inl rfl) hxx (.inl ⟨rfl, hk, rfl, rfl⟩) _ (fun _ _ _ h => h) fun W hM hT => ?_
          refine (rep_sgr1 B k b m x y H V W hM hT hx hy wh wv hf ht hm hc hk).mono ?_
          rintro e w' ⟨A, N, cp, he, hN, hr, hb⟩
          have hl : repL k (codeF (mouF B) 1006 k b m) (clampF x V) (clampF y H) = txtL true (codeF (mouF B) 1006 k b m) (clampF x V + 1) (clampF y H + 1) 109 := by
            unfold repL txtL optC; rw [if_pos hk]; rfl
          rw [hl] at hN hr
          exact ⟨A, N, cp, he, ⟨hN, hr⟩, hb⟩
        · refine mt_main B k b m x y x2 x3 w hM hT p q H V hp hq eH eV hH1 hH2 hV1 hV2 true (codeF (mouF B) 1006 k b m) (clampF x V + 1) (clampF y H + 1) 77 1006 hc (.inl rfl) (by omega) (by omega) (by omega) (.inr rfl) hxx (.inr (.inl ⟨rfl, hk, rfl, rfl⟩)) _ (fun _ _ _ h => h) fun W hM hT => ?_
          refine (rep_sgr B k b m x y H V W hM hT hx hy wh wv hf ht hm hc hk).mono ?_
          rintro e w' ⟨A, N, cp, he, hN, hr, hb⟩
          have hl : repL k (codeF (mouF B) 1006 k b m) (clampF x V) (clampF y H) = txtL true (codeF (mouF B) 1006 k b m) (clampF x V + 1) (clampF y H + 1) 77 := by
            unfold repL txtL optC; rw [if_neg hk]; rfl
          rw [hl] at hN hr
          exact ⟨A, N, cp, he, ⟨hN, hr⟩, hb⟩
      · have hn1 := hn 1015
        refine mt_main B k b m x y x2 x3 w hM hT p q H V hp hq eH eV hH1 hH2 hV1 hV2 false (codeF (mouF B) 1015 k b m + 32) (clampF x V + 1) (clampF y H + 1) 77 1015 hc (.inr rfl) (by omega) (by omega) (by omega) (.inr rfl) hxx (.inr (.inr ⟨rfl, rfl, rfl⟩)) _ (fun _ _ _ h => h) fun W hM hT => ?_
        refine (rep_urx B k b m x y H V W hM hT hx hy wh wv hf ht hm hc).mono ?_
        rintro e w' ⟨A, N, cp, he, hN, hr, hb⟩
        have hl : repU (codeF (mouF B) 1015 k b m) (clampF x V) (clampF y H) = txtL false (codeF (mouF B) 1015 k b m + 32) (clampF x V + 1) (clampF y H + 1) 77 := by
          unfold repU txtL optC; rfl
        rw [hl] at hN hr
        exact ⟨A, N, cp, he, ⟨hN, hr⟩, hb⟩
end Go.Proofs.YtcempbgbdlmjfaaDoor
