/-
  lapwinglaw06.ParseCuts: the walk: for any letters, cut anywhere, it answers true. No condition.
-/
import Derived.Test.YtcempbgbdlmjfaaDoorP6Gd
import Derived.Test.YtcempbgbdlmjfaaDoorP6Nw
namespace Go.Proofs.YtcempbgbdlmjfaaDoor
open Go.RowKit

theorem sane_true (v : Sv) (w : World) (hv : v.Ok w) (hs : saneS v.s = true) : Calls Tryd.prog 56 #[v.val] w fun e w' => e = .returned (.bool true) ∧ Below w.heap.size w w' := by
  have h := sane6_any v w hv (by have := ((saneS_iff _).1 hs).2.1; omega) (by have := ((saneS_iff _).1 hs).2.2.1; omega)
  rw [hs] at h
  exact h
set_option maxRecDepth 100000 in
set_option maxHeartbeats 6400000 in
theorem pc_big (zs : List Int) (n : Int) (Al : Option Addr) (cl : Nat) (w : World) (_hr : Rd w w.heap.size Al (nC zs)) (_hcap : zs.length ≤ cl) (_hz : zs.length < 9223372036854775808) (hT : TabI w) (h : 1200 < zs.length) : Calls Tryd.prog 15 #[.slice Al zs.length cl, .int .i64 n] w fun e w' => e = .returned (.bool true) ∧ Below w.heap.size w w' := by
  have HT := Lib.hid hT
  clear hT
  go_enter Tryd.func15, Tryd.ntmps15
  go_wp2_with fail
  refine (awake6_any _ HT.out).mono ?_
  rintro e w1 ⟨rfl, hb⟩
  have HB := Lib.hid hb
  clear hb
  go_wp2_with fail
  go_ret
  exact ⟨rfl, HB.out⟩
set_option maxRecDepth 100000 in
set_option maxHeartbeats 6400000 in
theorem pc_some (zs : List Int) (n : Int) (b off cl k mm : Nat) (w : World) (hr : Rd w w.heap.size (some ⟨b, off, none⟩) (nC zs)) (hcap : zs.length ≤ cl) (hT : TabI w) (h4 : zs.length ≤ 1200) (hk : k < zs.length) (hmm : bits .and .i64 n 65535 = (mm : Int)) (hkm : mm % zs.length = k) : Calls Tryd.prog 15 #[.slice (some ⟨b, off, none⟩) zs.length cl, .int .i64 n] w fun e w' => e = .returned (.bool true) ∧ Below w.heap.size w w' := by
  obtain ⟨⟨s1, L1⟩, hf1⟩ : ∃ p, feedS st0 (zs.take k) = p := ⟨_, rfl⟩
  obtain ⟨⟨s', L2⟩, hf2⟩ : ∃ p, feedS s1 (zs.drop k) = p := ⟨_, rfl⟩
  have hsn1 : saneS s1 = true := by have := feedS_st (zs.take k); rw [hf1] at this; exact this
  have hf2g : feedGo s1 (zs.drop k) = (s', L2) := by rw [← feedS_sane hsn1]; exact hf2
  have hsn' : saneS s' = true := by have := feedGo_sane (zs.drop k) s1 hsn1; rw [hf2g] at this; exact this
  have hf : feedS st0 zs = (s', L1 ++ L2) := by
    have h := feed_cut (zs.take k) (zs.drop k)
    rw [hf1] at h
    simp only at h
    rw [hf2] at h
    simpa using h
  obtain ⟨m1, hm1⟩ : ∃ m, L1.length = m := ⟨_, rfl⟩
  obtain ⟨m2, hm2⟩ : ∃ m, L2.length = m := ⟨_, rfl⟩
  have hfg : feedGo st0 zs = (s', L1 ++ L2) := by rw [← feedS_sane st0_sane]; exact hf
  have hpb : ∀ x ∈ L1 ++ L2, ParB x.par := by have := feed_parB zs st0; rw [hfg] at this; exact this
  have hlen : m1 + m2 ≤ 2400 := by
    have h := feedGo_len zs st0 st0_sane
    rw [hfg] at h
    simp only [List.length_append] at h
    omega
  have hsp := sane_parB hsn'
  have HT := Lib.hid hT; have HR := Lib.hid hr; have HF := Lib.hid hf; have HF1 := Lib.hid hf1; have HF2 := Lib.hid hf2g; have HSN1 := Lib.hid hsn1; have HSN' := Lib.hid hsn'; have HM1 := Lib.hid hm1; have HM2 := Lib.hid hm2; have HPB := Lib.hid hpb; have HSP := Lib.hid hsp
  clear hT hr hf hf1 hf2 hf2g hsn1 hsn' hm1 hm2 hfg hpb hsp
  have hl0 : (0 : Int) < (zs.length : Int) := by omega
  have hln : ((zs.length : Int) == 0) = false := beq_eq_false_iff_ne.2 (by omega)
  have hkr : Int.tmod (mm : Int) (zs.length : Int) = (k : Int) := by rw [← hkm]; rfl
  have i0 : (0 : Int) ≤ (k : Int) := by omega
  have i1 : (k : Int) ≤ (zs.length : Int) := by omega
  have i2 : (k : Int) ≤ (cl : Int) := by omega
  have i3 : (zs.length : Int) ≤ (cl : Int) := by omega
  have hck : ¬ cl = k := by omega
  have HKM := Lib.hid hkm
  clear hkm
  go_enter Tryd.func15, Tryd.ntmps15
  go_wp2_with fail
  refine (awake6_any _ HT.out).mono ?_
  rintro e w1 ⟨rfl, hb⟩
  have HR1 := Lib.hid (HR.out.next hb); have HB1 := Lib.hid hb
  clear hb HR HT
  go_wp2_with fail
  refine (feed_st zs s' (L1 ++ L2) zs.length (m1 + m2) HF.out rfl (by rw [List.length_append, HM1.out, HM2.out]) (some ⟨b, off, none⟩) cl _ HR1.out (by omega)).mono ?_
  rintro e w2 ⟨a1, inter1, ov1, l1, o1, text1, k1, ib1, tb1, A1, c1, Ax, cx, vx, he1, rfl, htx1, hpz1, hown1, hb⟩
  have bx : Below w2.heap.size w2 (w2.alloc (.cells #[.int .i64 a1, .string ib1, .bool ov1, .slice A1 l1.length c1, .bool o1, .string tb1, .int .u8 k1] 82)) := (Below.refl _ _).alloc (Nat.le_refl _) _
  have s8 : SAt (w2.alloc (.cells #[.int .i64 a1, .string ib1, .bool ov1, .slice A1 l1.length c1, .bool o1, .string tb1, .int .u8 k1] 82)) w2.heap.size ⟨⟨a1, inter1, ov1, l1, o1, text1, k1⟩, ib1, tb1, A1, c1⟩ := heap_alloc_new w2 _
  have p1 := (hpz1.ok.rd (v := sv0) (RdLL.nil _ _ _)).next bx
  have x8 := (hown1.acts.less (Nat.zero_le _)).next bx
  have r8 := (HR1.out.next hb).next bx
  have hbb := HB1.out.trans (hb.mono HB1.out.size)
  have b8 := hbb.trans (bx.mono hbb.size)
  have HE1 := Lib.hid he1; have HTX1 := Lib.hid htx1
  clear bx hb hbb htx1 hpz1 hown1 he1 HR1 HB1
  go_wp2_with fail
  generalize (w2.alloc (.cells #[.int .i64 a1, .string ib1, .bool ov1, .slice A1 l1.length c1, .bool o1, .string tb1, .int .u8 k1] 82)) = W8 at s8 p1 x8 r8 b8 ⊢
  have S8 := Lib.hid s8; have P1 := Lib.hid p1; have X8 := Lib.hid x8; have R8 := Lib.hid r8; have B8 := Lib.hid b8
  clear s8 p1 x8 r8 b8
  refine (feed_st (zs.take k) s1 L1 k m1 HF1.out (by rw [List.length_take]; omega) HM1.out (some ⟨b, off, none⟩) cl _ (by have h := R8.out.take k; rw [show (nC zs).take k = nC (zs.take k) from by simp [nC]] at h; exact h) (by omega)).mono ?_
  rintro e w3 ⟨a2, inter2, ov2, l2, o2, text2, k2, ib2, tb2, A2, c2, Ay, cy, vy, he2, rfl, htx2, hpz2, hown2, hb⟩
  have bx : Below w3.heap.size w3 (w3.alloc (.cells #[.int .i64 a2, .string ib2, .bool ov2, .slice A2 l2.length c2, .bool o2, .string tb2, .int .u8 k2] 82)) := (Below.refl _ _).alloc (Nat.le_refl _) _
  have s9 : SAt (w3.alloc (.cells #[.int .i64 a2, .string ib2, .bool ov2, .slice A2 l2.length c2, .bool o2, .string tb2, .int .u8 k2] 82)) w3.heap.size ⟨⟨a2, inter2, ov2, l2, o2, text2, k2⟩, ib2, tb2, A2, c2⟩ := heap_alloc_new w3 _
  have hrow : ∀ g, (Value.slice Ay m1 cy).ownBlock = some g → W8.heap.size ≤ g ∧ g < w3.heap.size := fun g hg => by rw [← HM1.out] at hg; exact ⟨own_ge hown2.own g hg, own_lt hown2.own g hg⟩
  have pz9 := hpz2.next bx
  have y9 := hown2.next bx
  have b9 := (Below.trans hb (bx.mono hb.size) : Below W8.heap.size W8 _)
  have r9 := (R8.out.next hb).next bx
  have hok9 : Sv.Ok ⟨⟨a2, inter2, ov2, l2, o2, text2, k2⟩, ib2, tb2, A2, c2⟩ (w3.alloc (.cells #[.int .i64 a2, .string ib2, .bool ov2, .slice A2 l2.length c2, .bool o2, .string tb2, .int .u8 k2] 82)) := ⟨htx2, (pz9.ok.rd (v := sv0) (RdLL.nil _ _ _))⟩
  have hsz9 : W8.heap.size ≤ w3.heap.size := hb.size
  have hz9 : w3.heap.size < (w3.alloc (.cells #[.int .i64 a2, .string ib2, .bool ov2, .slice A2 l2.length c2, .bool o2, .string tb2, .int .u8 k2] 82)).heap.size := by simp
  have HE2 := Lib.hid he2; have HTX2 := Lib.hid htx2; have HROW := Lib.hid hrow
  clear bx hb htx2 hpz2 hown2 he2 hrow
  go_wp2_with fail
  go_upto_region 9 with (fail)
  generalize (w3.alloc (.cells #[.int .i64 a2, .string ib2, .bool ov2, .slice A2 l2.length c2, .bool o2, .string tb2, .int .u8 k2] 82)) = W9 at s9 pz9 y9 b9 r9 hok9 hz9 ⊢
  obtain ⟨e0, e1, e2, e3, e4, e5, e6, _⟩ := s9.cells
  simp only at e0 e1 e2 e3 e4 e5 e6
  have S9 := Lib.hid s9; have PZ9 := Lib.hid pz9; have Y9 := Lib.hid y9; have B9 := Lib.hid b9; have OK9 := Lib.hid hok9
  have r10 : Rd W9 W9.heap.size (some ⟨b, off + k, none⟩) (nC (zs.drop k)) := by have h := r9.drop k; rw [show (nC zs).drop k = nC (zs.drop k) from by simp [nC]] at h; exact h
  have R9 := Lib.hid r9; have R10 := Lib.hid r10
  have hfd : ∀ (W : World) (Ad : Option Addr) (cd : Nat), Sv.Ok ⟨⟨a2, inter2, ov2, l2, o2, text2, k2⟩, ib2, tb2, A2, c2⟩ W → Rd W W.heap.size Ad (nC (zs.drop k)) → Calls Tryd.prog 52 #[.agg #[.int .i64 a2, .string ib2, .bool ov2, .slice A2 l2.length c2, .bool o2, .string tb2, .int .u8 k2], .slice Ad (zs.length - k) cd] W fun e w' => ∃ (a3 : Int) (inter3 : List Int) (ov3 : Bool) (l3 : List (List Int)) (o3 : Bool) (text3 : List Int) (k3 : Int) (ib3 tb3 : ByteArray) (A3 : Option Addr) (c3 : Nat) (Ac : Option Addr) (cA : Nat) (vs : List Av), ⟨a3, inter3, ov3, l3, o3, text3, k3⟩ = s' ∧ e = .returned (.tuple #[.agg #[.int .i64 a3, .string ib3, .bool ov3, .slice A3 l3.length c3, .bool o3, .string tb3, .int .u8 k3], .slice Ac m2 cA]) ∧ Sv.Tx ⟨⟨a3, inter3, ov3, l3, o3, text3, k3⟩, ib3, tb3, A3, c3⟩ ∧
      ParOk ⟨⟨a2, inter2, ov2, l2, o2, text2, k2⟩, ib2, tb2, A2, c2⟩ W.heap.size w' A3 c3 l3 ∧ Acts ⟨⟨a2, inter2, ov2, l2, o2, text2, k2⟩, ib2, tb2, A2, c2⟩ W.heap.size w' Ac L2 vs ∧ Below W.heap.size W w' := fun W Ad cd hW hR => by
    refine (feed_n ⟨⟨a2, inter2, ov2, l2, o2, text2, k2⟩, ib2, tb2, A2, c2⟩ (zs.drop k) s' L2 (zs.length - k) m2 (by rw [← HE2.out] at HF2; exact HF2.out) (by rw [List.length_drop]) HM2.out Ad cd W hW (by have h := HSN1.out; rw [← HE2.out] at h; exact h) hR (by omega)).mono fun e w' hh => ?_
    obtain ⟨a3, inter3, ov3, l3, o3, text3, k3, ib3, tb3, A3, c3, Ac, cA, vs, h1, h2, h3, h4, h5, h6⟩ := hh
    exact ⟨a3, inter3, ov3, l3, o3, text3, k3, ib3, tb3, A3, c3, Ac, cA, vs, h1, h2, h3, h4.ok, h5.acts, h6⟩
  have FD := Lib.hid hfd
  have SZ : Hid (SAt (W9.alloc (.cells #[.int .i64 0, .string ⟨#[]⟩, .bool false, .slice none 0 0, .bool false, .string ⟨#[]⟩, .int .u8 0] 82)) W9.heap.size sv0) := Lib.hid (heap_alloc_new W9 _)
  clear s9 pz9 y9 b9 r9 hok9 r10 hfd
  go_cut [11, 12] (fun s7 s8 wx => StNew ⟨⟨a2, inter2, ov2, l2, o2, text2, k2⟩, ib2, tb2, A2, c2⟩ W9 wx s7 s8 s' L2 m2)
  case first =>
    go_region_with (go_at_call 52; (first | (refine (FD.out _ _ _ (OK9.out.next (Below.refl _ _).drew) (R10.out.next (Below.refl _ _).drew)).mono ?_) | (refine (FD.out _ _ _ (OK9.out.next ((Below.refl _ _).alloc (Nat.le_refl _) _).drew) (R10.out.next ((Below.refl _ _).alloc (Nat.le_refl _) _).drew)).mono ?_)); rintro e w4 ⟨a3, inter3, ov3, l3, o3, text3, k3, ib3, tb3, A3, c3, Ac, cA, vs, hs4, rfl, htx4, hp4, ha4, hb4⟩; (try (have hz4 := SAt.past (w := (W9.alloc (.cells #[.int .i64 0, .string ⟨#[]⟩, .bool false, .slice none 0 0, .bool false, .string ⟨#[]⟩, .int .u8 0] 82)).drew) SZ.out hb4; obtain ⟨j0, j1, j2, j3, j4, j5, j6, f0, f1, f2, f3, f4, f5, f6⟩ := hz4.cells; simp only [sv0, st0] at j0 j1 j2 j3 j4 j5 j6; clear hz4)); have HS4 := Lib.hid hs4; have HTX4 := Lib.hid htx4; first | (with_reducible have HP4a : Hid (ParOk ⟨⟨a2, inter2, ov2, l2, o2, text2, k2⟩, ib2, tb2, A2, c2⟩ W9.drew.heap.size w4 A3 c3 l3) := Lib.hid hp4; have HA4 := Lib.hid ha4; have HB4 := Lib.hid hb4; clear hs4 htx4 hp4 ha4 hb4) | (have HP4b := Lib.hid hp4; have HA4 := Lib.hid ha4; have HB4 := Lib.hid hb4; clear hs4 htx4 hp4 ha4 hb4))
    all_goals go_wp2_with fail
    all_goals go_meet
    all_goals first
      | (have hf := HP4a.out; exact stn_1 (t := ⟨⟨a3, inter3, ov3, l3, o3, text3, k3⟩, ib3, tb3, A3, c3⟩) HB4.out HS4.out HTX4.out hf HA4.out)
      | (have hf := HP4b.out; exact stn_2 (t := ⟨⟨a3, inter3, ov3, l3, o3, text3, k3⟩, ib3, tb3, A3, c3⟩) HB4.out HS4.out HTX4.out hf HA4.out)
  case rest =>
  obtain ⟨⟨⟨a3, inter3, ov3, l3, o3, text3, k3⟩, ib3, tb3, A3, c3⟩, g3, cz, Az, vz, rfl, rfl, hs3, he3, htx3, hp3, ha3, hg3, hb3⟩ := hcut
  have hvz : vz.length = m2 := by rw [ha3.len, HM2.out]
  have hz3 := hb3.size
  have hy3 : Hid (World.ownsRow wc W8.heap.size 96 6 (.slice Ay m1 cy) m1 (avC vy)) := Lib.hid (owned_row (Y9.out.next hb3) HM1.out)
  have hrd3 := Lib.hid ha3.rd
  go_wp2_with (at_builtin; go_loud (refine wpList_cat (by rfl) (.tmp 48) (.tmp 49) 83 el_act (by rfl) W8.heap.size _ m1 (avC vy) (by rfl) hy3.out wc.heap.size Az m2 cz (avC vz) (by rfl) hrd3.out (by rw [avC_len, hvz]) (avC_one _) (by unfold maxLen; omega) (by omega) (by omega) ?_); intro A5 c5 w5 ho5 hg5 hl5; refine Hid.out ?_)
  have hpz : ParZ sv0 W8.heap.size W9 (.slice Ay m1 cy) A2 c2 l2 := PZ9.out
  have hr9 : ∀ g, (Value.slice Ay m1 cy).ownBlock = some g → g < W9.heap.size := fun g hg => by have := (HROW.out g hg).2; omega
  have hcat : Owned sv0 W8.heap.size w5 A5 c5 (L1 ++ L2) (vy ++ vz) := (Y9.out.next hb3).cat ha3.map (fun x hx => ⟨(ha3.ok x hx).1, by rw [HM1.out]; exact ParZ.new (ha3.ok x hx).2 hpz hb3 (by omega) hr9⟩) (by rw [HM1.out, HM2.out]) ho5 (by rw [HM1.out]; exact hg5) (by rw [HM1.out]; exact hl5)
  have hb85 : Below W8.heap.size W8 w5 := (B9.out.trans (hb3.mono (by omega))).trans (below_of_grown hg5 (by omega) fun g hg => (HROW.out g hg).1)
  have q1 : SAt w5 w2.heap.size ⟨⟨a1, inter1, ov1, l1, o1, text1, k1⟩, ib1, tb1, A1, c1⟩ := S8.out.past hb85
  have q2 : SAt w5 w3.heap.size ⟨⟨a2, inter2, ov2, l2, o2, text2, k2⟩, ib2, tb2, A2, c2⟩ := bk_grown (S9.out.past hb3) hg5 fun e => by have := (HROW.out _ e).2; omega
  have q3 : SAt w5 g3 ⟨⟨a3, inter3, ov3, l3, o3, text3, k3⟩, ib3, tb3, A3, c3⟩ := bk_grown hs3 hg5 fun e => by have := (HROW.out _ e).2; omega
  have p1 := P1.out.next hb85
  have p2 := ((hpz.next hb3).grow hg5 hl5).ok.rd (v := sv0) (RdLL.nil _ _ _)
  have p3 := ((ParZ.new hp3 hpz hb3 (by omega) hr9).grow hg5 hl5).ok.rd (v := sv0) (RdLL.nil _ _ _)
  have ax := X8.out.next hb85
  have ay := hcat.acts.less (Nat.zero_le _)
  have HBW := Lib.hid (B8.out.trans (hb85.mono B8.out.size))
  have T1 : Hid (∀ U : World, Calls Tryd.prog 54 #[.agg #[.int .i64 a1, .string ib1, .bool ov1, .slice A1 l1.length c1, .bool o1, .string tb1, .int .u8 k1]] U fun e w' => e = .returned (.agg #[.int .i64 a1, .string ib1, .bool ov1, .slice A1 l1.length c1, .bool o1, .string tb1, .int .u8 k1]) ∧ Below U.heap.size U w') := Lib.hid (fun U => theirs6_any ⟨⟨a1, inter1, ov1, l1, o1, text1, k1⟩, ib1, tb1, A1, c1⟩ U)
  have T3 : Hid (∀ U : World, Calls Tryd.prog 54 #[.agg #[.int .i64 a3, .string ib3, .bool ov3, .slice A3 l3.length c3, .bool o3, .string tb3, .int .u8 k3]] U fun e w' => e = .returned (.agg #[.int .i64 a3, .string ib3, .bool ov3, .slice A3 l3.length c3, .bool o3, .string tb3, .int .u8 k3]) ∧ Below U.heap.size U w') := Lib.hid (fun U => theirs6_any ⟨⟨a3, inter3, ov3, l3, o3, text3, k3⟩, ib3, tb3, A3, c3⟩ U)
  have Q1 : Hid (∀ u : After w5, Calls Tryd.prog 53 #[.agg #[.int .i64 a1, .string ib1, .bool ov1, .slice A1 l1.length c1, .bool o1, .string tb1, .int .u8 k1], .agg #[.int .i64 a3, .string ib3, .bool ov3, .slice A3 l3.length c3, .bool o3, .string tb3, .int .u8 k3]] u.get fun e w' => e = .returned (.bool true) ∧ Below u.get.heap.size u.get w') := Lib.hid (fun u => same6_any (lo := 0) (lo' := 0) ⟨⟨a1, inter1, ov1, l1, o1, text1, k1⟩, ib1, tb1, A1, c1⟩ ⟨⟨a3, inter3, ov3, l3, o3, text3, k3⟩, ib3, tb3, A3, c3⟩ _ (HE1.out.trans he3.symm) HTX1.out htx3 (p1.next u.below) (p3.next u.below) (by have h := HSP.out; rw [← HE1.out] at h; exact h.2) (by have h := HSP.out; rw [← HE1.out] at h; exact h.1))
  have Q3 : Hid (∀ u : After w5, Calls Tryd.prog 55 #[.slice Ax (m1 + m2) cx, .slice A5 (m1 + m2) c5] u.get fun e w' => e = .returned (.bool true) ∧ Below u.get.heap.size u.get w') := Lib.hid (fun u => by
    have h := actions_any (v := sv0) (u := sv0) (L1 ++ L2) vx (vy ++ vz) Ax A5 cx c5 u.get (ax.next u.below) (ay.next u.below) (RdLL.nil _ _ _) (RdLL.nil _ _ _) HPB.out (by rw [List.length_append, HM1.out, HM2.out]; omega)
    rw [List.length_append, HM1.out, HM2.out] at h
    exact h)
  have N1 : Hid (∀ u : After w5, Calls Tryd.prog 56 #[.agg #[.int .i64 a1, .string ib1, .bool ov1, .slice A1 l1.length c1, .bool o1, .string tb1, .int .u8 k1]] u.get fun e w' => e = .returned (.bool true) ∧ Below u.get.heap.size u.get w') := Lib.hid (fun u => sane_true ⟨⟨a1, inter1, ov1, l1, o1, text1, k1⟩, ib1, tb1, A1, c1⟩ _ ⟨HTX1.out, p1.next u.below⟩ (by have h := HSN'.out; rw [← HE1.out] at h; exact h))
  have N2 : Hid (∀ u : After w5, Calls Tryd.prog 56 #[.agg #[.int .i64 a2, .string ib2, .bool ov2, .slice A2 l2.length c2, .bool o2, .string tb2, .int .u8 k2]] u.get fun e w' => e = .returned (.bool true) ∧ Below u.get.heap.size u.get w') := Lib.hid (fun u => sane_true ⟨⟨a2, inter2, ov2, l2, o2, text2, k2⟩, ib2, tb2, A2, c2⟩ _ ⟨HTX2.out, p2.next u.below⟩ (by have h := HSN1.out; rw [← HE2.out] at h; exact h))
  obtain ⟨i0', i1', i2', i3', i4', i5', i6', _⟩ := q1.cells
  obtain ⟨j0', j1', j2', j3', j4', j5', j6', _⟩ := q2.cells
  obtain ⟨k0', k1', k2', k3', k4', k5', k6', _⟩ := q3.cells
  simp only at i0' i1' i2' i3' i4' i5' i6' j0' j1' j2' j3' j4' j5' j6' k0' k1' k2' k3' k4' k5' k6'
  have ri0' := fun u : After w5 => u.cell i0'
  have ri1' := fun u : After w5 => u.cell i1'
  have ri2' := fun u : After w5 => u.cell i2'
  have ri3' := fun u : After w5 => u.cell i3'
  have ri4' := fun u : After w5 => u.cell i4'
  have ri5' := fun u : After w5 => u.cell i5'
  have ri6' := fun u : After w5 => u.cell i6'
  have rj0' := fun u : After w5 => u.cell j0'
  have rj1' := fun u : After w5 => u.cell j1'
  have rj2' := fun u : After w5 => u.cell j2'
  have rj3' := fun u : After w5 => u.cell j3'
  have rj4' := fun u : After w5 => u.cell j4'
  have rj5' := fun u : After w5 => u.cell j5'
  have rj6' := fun u : After w5 => u.cell j6'
  have rk0' := fun u : After w5 => u.cell k0'
  have rk1' := fun u : After w5 => u.cell k1'
  have rk2' := fun u : After w5 => u.cell k2'
  have rk3' := fun u : After w5 => u.cell k3'
  have rk4' := fun u : After w5 => u.cell k4'
  have rk5' := fun u : After w5 => u.cell k5'
  have rk6' := fun u : After w5 => u.cell k6'
  refine Lib.hid ?_
  clear i0' i1' i2' i3' i4' i5' i6' j0' j1' j2' j3' j4' j5' j6' k0' k1' k2' k3' k4' k5' k6' q1 q2 q3 p1 p2 p3 ax ay hcat hb85 hpz hr9 ho5 hg5 hl5 hy3 hrd3 hvz hs3 he3 htx3 hp3 ha3 hg3 hb3 e0 e1 e2 e3 e4 e5 e6 hz3 hsz9 hz9 S8 P1 X8 R8 S9 PZ9 Y9 OK9 R9 R10 FD SZ HROW HPB HSP HF HF1 HF2 HSN1 HSN' HE1 HE2 HTX1 HTX2 HM1 HM2 B9
  go_wp2_with fail
  refine wp_region_after (by kernel_rfl) (by kernel_rfl) ?_
  repeat (go_big_quiet_step (first
    | (go_at_call_of 54 (Value.string ib1); exact Calls.after_of (T1.out _))
    | (go_at_call_of 54 (Value.string ib3); exact Calls.after_of (T3.out _))
    | (go_at_call 53; exact Calls.after_of (Q1.out _))
    | (go_at_call 55; exact Calls.after_of (Q3.out _))
    | (go_at_call_of 56 (Value.string ib1); exact Calls.after_of (N1.out _))
    | (go_at_call_of 56 (Value.string ib2); exact Calls.after_of (N2.out _))))
  refine wpQuiet_nil ?_
  rintro _ ⟨u, rfl⟩
  go_wp2_with fail
  go_ret
  exact ⟨rfl, HBW.out.trans (u.below.mono HBW.out.size)⟩
set_option maxRecDepth 100000 in
set_option maxHeartbeats 6400000 in
theorem pc_none (n : Int) (cl : Nat) (w : World) (hT : TabI w) : Calls Tryd.prog 15 #[.slice none 0 cl, .int .i64 n] w fun e w' => e = .returned (.bool true) ∧ Below w.heap.size w w' := by
  have hr : Rd w w.heap.size none (nC []) := Rd.nil _ _ _
  obtain ⟨⟨s1, L1⟩, hf1⟩ : ∃ p, feedS st0 [] = p := ⟨_, rfl⟩
  obtain ⟨⟨s', L2⟩, hf2⟩ : ∃ p, feedS s1 [] = p := ⟨_, rfl⟩
  have hsn1 : saneS s1 = true := by have := feedS_st []; rw [hf1] at this; exact this
  have hf2g : feedGo s1 [] = (s', L2) := by rw [← feedS_sane hsn1]; exact hf2
  have hsn' : saneS s' = true := by have := feedGo_sane [] s1 hsn1; rw [hf2g] at this; exact this
  have hf : feedS st0 [] = (s', L1 ++ L2) := by
    have h := feed_cut [] []
    rw [hf1] at h
    simp only at h
    rw [hf2] at h
    simpa using h
  obtain ⟨m1, hm1⟩ : ∃ m, L1.length = m := ⟨_, rfl⟩
  obtain ⟨m2, hm2⟩ : ∃ m, L2.length = m := ⟨_, rfl⟩
  have hfg : feedGo st0 [] = (s', L1 ++ L2) := by rw [← feedS_sane st0_sane]; exact hf
  have hpb : ∀ x ∈ L1 ++ L2, ParB x.par := by have := feed_parB [] st0; rw [hfg] at this; exact this
  have hlen : m1 + m2 ≤ 2400 := by
    have h := feedGo_len [] st0 st0_sane
    rw [hfg] at h
    simp only [List.length_append, List.length_nil] at h
    omega
  have hsp := sane_parB hsn'
  have HT := Lib.hid hT; have HR := Lib.hid hr; have HF := Lib.hid hf; have HF1 := Lib.hid hf1; have HF2 := Lib.hid hf2g; have HSN1 := Lib.hid hsn1; have HSN' := Lib.hid hsn'; have HM1 := Lib.hid hm1; have HM2 := Lib.hid hm2; have HPB := Lib.hid hpb; have HSP := Lib.hid hsp
  clear hT hr hf hf1 hf2 hf2g hsn1 hsn' hm1 hm2 hfg hpb hsp
  go_enter Tryd.func15, Tryd.ntmps15
  go_wp2_with fail
  refine (awake6_any _ HT.out).mono ?_
  rintro e w1 ⟨rfl, hb⟩
  have HR1 := Lib.hid (HR.out.next hb); have HB1 := Lib.hid hb
  clear hb HR HT
  go_wp2_with fail
  refine (feed_st [] s' (L1 ++ L2) 0 (m1 + m2) HF.out rfl (by rw [List.length_append, HM1.out, HM2.out]) none cl _ HR1.out (by omega)).mono ?_
  rintro e w2 ⟨a1, inter1, ov1, l1, o1, text1, k1, ib1, tb1, A1, c1, Ax, cx, vx, he1, rfl, htx1, hpz1, hown1, hb⟩
  have bx : Below w2.heap.size w2 (w2.alloc (.cells #[.int .i64 a1, .string ib1, .bool ov1, .slice A1 l1.length c1, .bool o1, .string tb1, .int .u8 k1] 82)) := (Below.refl _ _).alloc (Nat.le_refl _) _
  have s8 : SAt (w2.alloc (.cells #[.int .i64 a1, .string ib1, .bool ov1, .slice A1 l1.length c1, .bool o1, .string tb1, .int .u8 k1] 82)) w2.heap.size ⟨⟨a1, inter1, ov1, l1, o1, text1, k1⟩, ib1, tb1, A1, c1⟩ := heap_alloc_new w2 _
  have p1 := (hpz1.ok.rd (v := sv0) (RdLL.nil _ _ _)).next bx
  have x8 := (hown1.acts.less (Nat.zero_le _)).next bx
  have r8 := (HR1.out.next hb).next bx
  have hbb := HB1.out.trans (hb.mono HB1.out.size)
  have b8 := hbb.trans (bx.mono hbb.size)
  have HE1 := Lib.hid he1; have HTX1 := Lib.hid htx1
  clear bx hb hbb htx1 hpz1 hown1 he1 HR1 HB1
  go_wp2_with fail
  generalize (w2.alloc (.cells #[.int .i64 a1, .string ib1, .bool ov1, .slice A1 l1.length c1, .bool o1, .string tb1, .int .u8 k1] 82)) = W8 at s8 p1 x8 r8 b8 ⊢
  have S8 := Lib.hid s8; have P1 := Lib.hid p1; have X8 := Lib.hid x8; have R8 := Lib.hid r8; have B8 := Lib.hid b8
  clear s8 p1 x8 r8 b8
  refine (feed_st [] s1 L1 0 m1 HF1.out rfl HM1.out none cl _ (Rd.nil _ _ _) (by omega)).mono ?_
  rintro e w3 ⟨a2, inter2, ov2, l2, o2, text2, k2, ib2, tb2, A2, c2, Ay, cy, vy, he2, rfl, htx2, hpz2, hown2, hb⟩
  have bx : Below w3.heap.size w3 (w3.alloc (.cells #[.int .i64 a2, .string ib2, .bool ov2, .slice A2 l2.length c2, .bool o2, .string tb2, .int .u8 k2] 82)) := (Below.refl _ _).alloc (Nat.le_refl _) _
  have s9 : SAt (w3.alloc (.cells #[.int .i64 a2, .string ib2, .bool ov2, .slice A2 l2.length c2, .bool o2, .string tb2, .int .u8 k2] 82)) w3.heap.size ⟨⟨a2, inter2, ov2, l2, o2, text2, k2⟩, ib2, tb2, A2, c2⟩ := heap_alloc_new w3 _
  have hrow : ∀ g, (Value.slice Ay m1 cy).ownBlock = some g → W8.heap.size ≤ g ∧ g < w3.heap.size := fun g hg => by rw [← HM1.out] at hg; exact ⟨own_ge hown2.own g hg, own_lt hown2.own g hg⟩
  have pz9 := hpz2.next bx
  have y9 := hown2.next bx
  have b9 := (Below.trans hb (bx.mono hb.size) : Below W8.heap.size W8 _)
  have r9 := (R8.out.next hb).next bx
  have hok9 : Sv.Ok ⟨⟨a2, inter2, ov2, l2, o2, text2, k2⟩, ib2, tb2, A2, c2⟩ (w3.alloc (.cells #[.int .i64 a2, .string ib2, .bool ov2, .slice A2 l2.length c2, .bool o2, .string tb2, .int .u8 k2] 82)) := ⟨htx2, (pz9.ok.rd (v := sv0) (RdLL.nil _ _ _))⟩
  have hsz9 : W8.heap.size ≤ w3.heap.size := hb.size
  have hz9 : w3.heap.size < (w3.alloc (.cells #[.int .i64 a2, .string ib2, .bool ov2, .slice A2 l2.length c2, .bool o2, .string tb2, .int .u8 k2] 82)).heap.size := by simp
  have HE2 := Lib.hid he2; have HTX2 := Lib.hid htx2; have HROW := Lib.hid hrow
  clear bx hb htx2 hpz2 hown2 he2 hrow
  go_wp2_with fail
  go_upto_region 9 with (fail)
  generalize (w3.alloc (.cells #[.int .i64 a2, .string ib2, .bool ov2, .slice A2 l2.length c2, .bool o2, .string tb2, .int .u8 k2] 82)) = W9 at s9 pz9 y9 b9 r9 hok9 hz9 ⊢
  obtain ⟨e0, e1, e2, e3, e4, e5, e6, _⟩ := s9.cells
  simp only at e0 e1 e2 e3 e4 e5 e6
  have S9 := Lib.hid s9; have PZ9 := Lib.hid pz9; have Y9 := Lib.hid y9; have B9 := Lib.hid b9; have OK9 := Lib.hid hok9
  have r10 : Rd W9 W9.heap.size none (nC []) := Rd.nil _ _ _
  have R9 := Lib.hid r9; have R10 := Lib.hid r10
  have hfd : ∀ (W : World) (Ad : Option Addr) (cd : Nat), Sv.Ok ⟨⟨a2, inter2, ov2, l2, o2, text2, k2⟩, ib2, tb2, A2, c2⟩ W → Rd W W.heap.size Ad (nC []) → Calls Tryd.prog 52 #[.agg #[.int .i64 a2, .string ib2, .bool ov2, .slice A2 l2.length c2, .bool o2, .string tb2, .int .u8 k2], .slice Ad 0 cd] W fun e w' => ∃ (a3 : Int) (inter3 : List Int) (ov3 : Bool) (l3 : List (List Int)) (o3 : Bool) (text3 : List Int) (k3 : Int) (ib3 tb3 : ByteArray) (A3 : Option Addr) (c3 : Nat) (Ac : Option Addr) (cA : Nat) (vs : List Av), ⟨a3, inter3, ov3, l3, o3, text3, k3⟩ = s' ∧ e = .returned (.tuple #[.agg #[.int .i64 a3, .string ib3, .bool ov3, .slice A3 l3.length c3, .bool o3, .string tb3, .int .u8 k3], .slice Ac m2 cA]) ∧ Sv.Tx ⟨⟨a3, inter3, ov3, l3, o3, text3, k3⟩, ib3, tb3, A3, c3⟩ ∧
      ParOk ⟨⟨a2, inter2, ov2, l2, o2, text2, k2⟩, ib2, tb2, A2, c2⟩ W.heap.size w' A3 c3 l3 ∧ Acts ⟨⟨a2, inter2, ov2, l2, o2, text2, k2⟩, ib2, tb2, A2, c2⟩ W.heap.size w' Ac L2 vs ∧ Below W.heap.size W w' := fun W Ad cd hW hR => by
    refine (feed_n ⟨⟨a2, inter2, ov2, l2, o2, text2, k2⟩, ib2, tb2, A2, c2⟩ [] s' L2 0 m2 (by rw [← HE2.out] at HF2; exact HF2.out) rfl HM2.out Ad cd W hW (by have h := HSN1.out; rw [← HE2.out] at h; exact h) hR (by omega)).mono fun e w' hh => ?_
    obtain ⟨a3, inter3, ov3, l3, o3, text3, k3, ib3, tb3, A3, c3, Ac, cA, vs, h1, h2, h3, h4, h5, h6⟩ := hh
    exact ⟨a3, inter3, ov3, l3, o3, text3, k3, ib3, tb3, A3, c3, Ac, cA, vs, h1, h2, h3, h4.ok, h5.acts, h6⟩
  have FD := Lib.hid hfd
  have SZ : Hid (SAt (W9.alloc (.cells #[.int .i64 0, .string ⟨#[]⟩, .bool false, .slice none 0 0, .bool false, .string ⟨#[]⟩, .int .u8 0] 82)) W9.heap.size sv0) := Lib.hid (heap_alloc_new W9 _)
  clear s9 pz9 y9 b9 r9 hok9 r10 hfd
  go_cut [11, 12] (fun s7 s8 wx => StNew ⟨⟨a2, inter2, ov2, l2, o2, text2, k2⟩, ib2, tb2, A2, c2⟩ W9 wx s7 s8 s' L2 m2)
  case first =>
    go_region_with (go_at_call 52; (first | (refine (FD.out _ _ _ (OK9.out.next (Below.refl _ _).drew) (R10.out.next (Below.refl _ _).drew)).mono ?_) | (refine (FD.out _ _ _ (OK9.out.next ((Below.refl _ _).alloc (Nat.le_refl _) _).drew) (R10.out.next ((Below.refl _ _).alloc (Nat.le_refl _) _).drew)).mono ?_)); rintro e w4 ⟨a3, inter3, ov3, l3, o3, text3, k3, ib3, tb3, A3, c3, Ac, cA, vs, hs4, rfl, htx4, hp4, ha4, hb4⟩; (try (have hz4 := SAt.past (w := (W9.alloc (.cells #[.int .i64 0, .string ⟨#[]⟩, .bool false, .slice none 0 0, .bool false, .string ⟨#[]⟩, .int .u8 0] 82)).drew) SZ.out hb4; obtain ⟨j0, j1, j2, j3, j4, j5, j6, f0, f1, f2, f3, f4, f5, f6⟩ := hz4.cells; simp only [sv0, st0] at j0 j1 j2 j3 j4 j5 j6; clear hz4)); have HS4 := Lib.hid hs4; have HTX4 := Lib.hid htx4; first | (with_reducible have HP4a : Hid (ParOk ⟨⟨a2, inter2, ov2, l2, o2, text2, k2⟩, ib2, tb2, A2, c2⟩ W9.drew.heap.size w4 A3 c3 l3) := Lib.hid hp4; have HA4 := Lib.hid ha4; have HB4 := Lib.hid hb4; clear hs4 htx4 hp4 ha4 hb4) | (have HP4b := Lib.hid hp4; have HA4 := Lib.hid ha4; have HB4 := Lib.hid hb4; clear hs4 htx4 hp4 ha4 hb4))
    all_goals go_wp2_with fail
    all_goals go_meet
    all_goals first
      | (have hf := HP4a.out; exact stn_1 (t := ⟨⟨a3, inter3, ov3, l3, o3, text3, k3⟩, ib3, tb3, A3, c3⟩) HB4.out HS4.out HTX4.out hf HA4.out)
      | (have hf := HP4b.out; exact stn_2 (t := ⟨⟨a3, inter3, ov3, l3, o3, text3, k3⟩, ib3, tb3, A3, c3⟩) HB4.out HS4.out HTX4.out hf HA4.out)
  case rest =>
  obtain ⟨⟨⟨a3, inter3, ov3, l3, o3, text3, k3⟩, ib3, tb3, A3, c3⟩, g3, cz, Az, vz, rfl, rfl, hs3, he3, htx3, hp3, ha3, hg3, hb3⟩ := hcut
  have hvz : vz.length = m2 := by rw [ha3.len, HM2.out]
  have hz3 := hb3.size
  have hy3 : Hid (World.ownsRow wc W8.heap.size 96 6 (.slice Ay m1 cy) m1 (avC vy)) := Lib.hid (owned_row (Y9.out.next hb3) HM1.out)
  have hrd3 := Lib.hid ha3.rd
  go_wp2_with (at_builtin; go_loud (refine wpList_cat (by rfl) (.tmp 48) (.tmp 49) 83 el_act (by rfl) W8.heap.size _ m1 (avC vy) (by rfl) hy3.out wc.heap.size Az m2 cz (avC vz) (by rfl) hrd3.out (by rw [avC_len, hvz]) (avC_one _) (by unfold maxLen; omega) (by omega) (by omega) ?_); intro A5 c5 w5 ho5 hg5 hl5; refine Hid.out ?_)
  have hpz : ParZ sv0 W8.heap.size W9 (.slice Ay m1 cy) A2 c2 l2 := PZ9.out
  have hr9 : ∀ g, (Value.slice Ay m1 cy).ownBlock = some g → g < W9.heap.size := fun g hg => by have := (HROW.out g hg).2; omega
  have hcat : Owned sv0 W8.heap.size w5 A5 c5 (L1 ++ L2) (vy ++ vz) := (Y9.out.next hb3).cat ha3.map (fun x hx => ⟨(ha3.ok x hx).1, by rw [HM1.out]; exact ParZ.new (ha3.ok x hx).2 hpz hb3 (by omega) hr9⟩) (by rw [HM1.out, HM2.out]) ho5 (by rw [HM1.out]; exact hg5) (by rw [HM1.out]; exact hl5)
  have hb85 : Below W8.heap.size W8 w5 := (B9.out.trans (hb3.mono (by omega))).trans (below_of_grown hg5 (by omega) fun g hg => (HROW.out g hg).1)
  have q1 : SAt w5 w2.heap.size ⟨⟨a1, inter1, ov1, l1, o1, text1, k1⟩, ib1, tb1, A1, c1⟩ := S8.out.past hb85
  have q2 : SAt w5 w3.heap.size ⟨⟨a2, inter2, ov2, l2, o2, text2, k2⟩, ib2, tb2, A2, c2⟩ := bk_grown (S9.out.past hb3) hg5 fun e => by have := (HROW.out _ e).2; omega
  have q3 : SAt w5 g3 ⟨⟨a3, inter3, ov3, l3, o3, text3, k3⟩, ib3, tb3, A3, c3⟩ := bk_grown hs3 hg5 fun e => by have := (HROW.out _ e).2; omega
  have p1 := P1.out.next hb85
  have p2 := ((hpz.next hb3).grow hg5 hl5).ok.rd (v := sv0) (RdLL.nil _ _ _)
  have p3 := ((ParZ.new hp3 hpz hb3 (by omega) hr9).grow hg5 hl5).ok.rd (v := sv0) (RdLL.nil _ _ _)
  have ax := X8.out.next hb85
  have ay := hcat.acts.less (Nat.zero_le _)
  have HBW := Lib.hid (B8.out.trans (hb85.mono B8.out.size))
  have T1 : Hid (∀ U : World, Calls Tryd.prog 54 #[.agg #[.int .i64 a1, .string ib1, .bool ov1, .slice A1 l1.length c1, .bool o1, .string tb1, .int .u8 k1]] U fun e w' => e = .returned (.agg #[.int .i64 a1, .string ib1, .bool ov1, .slice A1 l1.length c1, .bool o1, .string tb1, .int .u8 k1]) ∧ Below U.heap.size U w') := Lib.hid (fun U => theirs6_any ⟨⟨a1, inter1, ov1, l1, o1, text1, k1⟩, ib1, tb1, A1, c1⟩ U)
  have T3 : Hid (∀ U : World, Calls Tryd.prog 54 #[.agg #[.int .i64 a3, .string ib3, .bool ov3, .slice A3 l3.length c3, .bool o3, .string tb3, .int .u8 k3]] U fun e w' => e = .returned (.agg #[.int .i64 a3, .string ib3, .bool ov3, .slice A3 l3.length c3, .bool o3, .string tb3, .int .u8 k3]) ∧ Below U.heap.size U w') := Lib.hid (fun U => theirs6_any ⟨⟨a3, inter3, ov3, l3, o3, text3, k3⟩, ib3, tb3, A3, c3⟩ U)
  have Q1 : Hid (∀ u : After w5, Calls Tryd.prog 53 #[.agg #[.int .i64 a1, .string ib1, .bool ov1, .slice A1 l1.length c1, .bool o1, .string tb1, .int .u8 k1], .agg #[.int .i64 a3, .string ib3, .bool ov3, .slice A3 l3.length c3, .bool o3, .string tb3, .int .u8 k3]] u.get fun e w' => e = .returned (.bool true) ∧ Below u.get.heap.size u.get w') := Lib.hid (fun u => same6_any (lo := 0) (lo' := 0) ⟨⟨a1, inter1, ov1, l1, o1, text1, k1⟩, ib1, tb1, A1, c1⟩ ⟨⟨a3, inter3, ov3, l3, o3, text3, k3⟩, ib3, tb3, A3, c3⟩ _ (HE1.out.trans he3.symm) HTX1.out htx3 (p1.next u.below) (p3.next u.below) (by have h := HSP.out; rw [← HE1.out] at h; exact h.2) (by have h := HSP.out; rw [← HE1.out] at h; exact h.1))
  have Q3 : Hid (∀ u : After w5, Calls Tryd.prog 55 #[.slice Ax (m1 + m2) cx, .slice A5 (m1 + m2) c5] u.get fun e w' => e = .returned (.bool true) ∧ Below u.get.heap.size u.get w') := Lib.hid (fun u => by
    have h := actions_any (v := sv0) (u := sv0) (L1 ++ L2) vx (vy ++ vz) Ax A5 cx c5 u.get (ax.next u.below) (ay.next u.below) (RdLL.nil _ _ _) (RdLL.nil _ _ _) HPB.out (by rw [List.length_append, HM1.out, HM2.out]; omega)
    rw [List.length_append, HM1.out, HM2.out] at h
    exact h)
  have N1 : Hid (∀ u : After w5, Calls Tryd.prog 56 #[.agg #[.int .i64 a1, .string ib1, .bool ov1, .slice A1 l1.length c1, .bool o1, .string tb1, .int .u8 k1]] u.get fun e w' => e = .returned (.bool true) ∧ Below u.get.heap.size u.get w') := Lib.hid (fun u => sane_true ⟨⟨a1, inter1, ov1, l1, o1, text1, k1⟩, ib1, tb1, A1, c1⟩ _ ⟨HTX1.out, p1.next u.below⟩ (by have h := HSN'.out; rw [← HE1.out] at h; exact h))
  have N2 : Hid (∀ u : After w5, Calls Tryd.prog 56 #[.agg #[.int .i64 a2, .string ib2, .bool ov2, .slice A2 l2.length c2, .bool o2, .string tb2, .int .u8 k2]] u.get fun e w' => e = .returned (.bool true) ∧ Below u.get.heap.size u.get w') := Lib.hid (fun u => sane_true ⟨⟨a2, inter2, ov2, l2, o2, text2, k2⟩, ib2, tb2, A2, c2⟩ _ ⟨HTX2.out, p2.next u.below⟩ (by have h := HSN1.out; rw [← HE2.out] at h; exact h))
  obtain ⟨i0', i1', i2', i3', i4', i5', i6', _⟩ := q1.cells
  obtain ⟨j0', j1', j2', j3', j4', j5', j6', _⟩ := q2.cells
  obtain ⟨k0', k1', k2', k3', k4', k5', k6', _⟩ := q3.cells
  simp only at i0' i1' i2' i3' i4' i5' i6' j0' j1' j2' j3' j4' j5' j6' k0' k1' k2' k3' k4' k5' k6'
  have ri0' := fun u : After w5 => u.cell i0'
  have ri1' := fun u : After w5 => u.cell i1'
  have ri2' := fun u : After w5 => u.cell i2'
  have ri3' := fun u : After w5 => u.cell i3'
  have ri4' := fun u : After w5 => u.cell i4'
  have ri5' := fun u : After w5 => u.cell i5'
  have ri6' := fun u : After w5 => u.cell i6'
  have rj0' := fun u : After w5 => u.cell j0'
  have rj1' := fun u : After w5 => u.cell j1'
  have rj2' := fun u : After w5 => u.cell j2'
  have rj3' := fun u : After w5 => u.cell j3'
  have rj4' := fun u : After w5 => u.cell j4'
  have rj5' := fun u : After w5 => u.cell j5'
  have rj6' := fun u : After w5 => u.cell j6'
  have rk0' := fun u : After w5 => u.cell k0'
  have rk1' := fun u : After w5 => u.cell k1'
  have rk2' := fun u : After w5 => u.cell k2'
  have rk3' := fun u : After w5 => u.cell k3'
  have rk4' := fun u : After w5 => u.cell k4'
  have rk5' := fun u : After w5 => u.cell k5'
  have rk6' := fun u : After w5 => u.cell k6'
  refine Lib.hid ?_
  clear i0' i1' i2' i3' i4' i5' i6' j0' j1' j2' j3' j4' j5' j6' k0' k1' k2' k3' k4' k5' k6' q1 q2 q3 p1 p2 p3 ax ay hcat hb85 hpz hr9 ho5 hg5 hl5 hy3 hrd3 hvz hs3 he3 htx3 hp3 ha3 hg3 hb3 e0 e1 e2 e3 e4 e5 e6 hz3 hsz9 hz9 S8 P1 X8 R8 S9 PZ9 Y9 OK9 R9 R10 FD SZ HROW HPB HSP HF HF1 HF2 HSN1 HSN' HE1 HE2 HTX1 HTX2 HM1 HM2 B9
  go_wp2_with fail
  refine wp_region_after (by kernel_rfl) (by kernel_rfl) ?_
  repeat (go_big_quiet_step (first
    | (go_at_call_of 54 (Value.string ib1); exact Calls.after_of (T1.out _))
    | (go_at_call_of 54 (Value.string ib3); exact Calls.after_of (T3.out _))
    | (go_at_call 53; exact Calls.after_of (Q1.out _))
    | (go_at_call 55; exact Calls.after_of (Q3.out _))
    | (go_at_call_of 56 (Value.string ib1); exact Calls.after_of (N1.out _))
    | (go_at_call_of 56 (Value.string ib2); exact Calls.after_of (N2.out _))))
  refine wpQuiet_nil ?_
  rintro _ ⟨u, rfl⟩
  go_wp2_with fail
  go_ret
  exact ⟨rfl, HBW.out.trans (u.below.mono HBW.out.size)⟩
set_option maxRecDepth 100000 in
set_option maxHeartbeats 6400000 in
theorem pc_zero (n : Int) (a : Addr) (w : World) (hT : TabI w) : Calls Tryd.prog 15 #[.slice (some a) 0 0, .int .i64 n] w fun e w' => e = .returned (.bool true) ∧ Below w.heap.size w w' := by
  have hr : Rd w w.heap.size (some a) (nC []) := Rd.nil _ _ _
  obtain ⟨⟨s1, L1⟩, hf1⟩ : ∃ p, feedS st0 [] = p := ⟨_, rfl⟩
  obtain ⟨⟨s', L2⟩, hf2⟩ : ∃ p, feedS s1 [] = p := ⟨_, rfl⟩
  have hsn1 : saneS s1 = true := by have := feedS_st []; rw [hf1] at this; exact this
  have hf2g : feedGo s1 [] = (s', L2) := by rw [← feedS_sane hsn1]; exact hf2
  have hsn' : saneS s' = true := by have := feedGo_sane [] s1 hsn1; rw [hf2g] at this; exact this
  have hf : feedS st0 [] = (s', L1 ++ L2) := by
    have h := feed_cut [] []
    rw [hf1] at h
    simp only at h
    rw [hf2] at h
    simpa using h
  obtain ⟨m1, hm1⟩ : ∃ m, L1.length = m := ⟨_, rfl⟩
  obtain ⟨m2, hm2⟩ : ∃ m, L2.length = m := ⟨_, rfl⟩
  have hfg : feedGo st0 [] = (s', L1 ++ L2) := by rw [← feedS_sane st0_sane]; exact hf
  have hpb : ∀ x ∈ L1 ++ L2, ParB x.par := by have := feed_parB [] st0; rw [hfg] at this; exact this
  have hlen : m1 + m2 ≤ 2400 := by
    have h := feedGo_len [] st0 st0_sane
    rw [hfg] at h
    simp only [List.length_append, List.length_nil] at h
    omega
  have hsp := sane_parB hsn'
  have HT := Lib.hid hT; have HR := Lib.hid hr; have HF := Lib.hid hf; have HF1 := Lib.hid hf1; have HF2 := Lib.hid hf2g; have HSN1 := Lib.hid hsn1; have HSN' := Lib.hid hsn'; have HM1 := Lib.hid hm1; have HM2 := Lib.hid hm2; have HPB := Lib.hid hpb; have HSP := Lib.hid hsp
  clear hT hr hf hf1 hf2 hf2g hsn1 hsn' hm1 hm2 hfg hpb hsp
  go_enter Tryd.func15, Tryd.ntmps15
  go_wp2_with fail
  refine (awake6_any _ HT.out).mono ?_
  rintro e w1 ⟨rfl, hb⟩
  have HR1 := Lib.hid (HR.out.next hb); have HB1 := Lib.hid hb
  clear hb HR HT
  go_wp2_with fail
  refine (feed_st [] s' (L1 ++ L2) 0 (m1 + m2) HF.out rfl (by rw [List.length_append, HM1.out, HM2.out]) (some a) 0 _ HR1.out (by omega)).mono ?_
  rintro e w2 ⟨a1, inter1, ov1, l1, o1, text1, k1, ib1, tb1, A1, c1, Ax, cx, vx, he1, rfl, htx1, hpz1, hown1, hb⟩
  have bx : Below w2.heap.size w2 (w2.alloc (.cells #[.int .i64 a1, .string ib1, .bool ov1, .slice A1 l1.length c1, .bool o1, .string tb1, .int .u8 k1] 82)) := (Below.refl _ _).alloc (Nat.le_refl _) _
  have s8 : SAt (w2.alloc (.cells #[.int .i64 a1, .string ib1, .bool ov1, .slice A1 l1.length c1, .bool o1, .string tb1, .int .u8 k1] 82)) w2.heap.size ⟨⟨a1, inter1, ov1, l1, o1, text1, k1⟩, ib1, tb1, A1, c1⟩ := heap_alloc_new w2 _
  have p1 := (hpz1.ok.rd (v := sv0) (RdLL.nil _ _ _)).next bx
  have x8 := (hown1.acts.less (Nat.zero_le _)).next bx
  have r8 := (HR1.out.next hb).next bx
  have hbb := HB1.out.trans (hb.mono HB1.out.size)
  have b8 := hbb.trans (bx.mono hbb.size)
  have HE1 := Lib.hid he1; have HTX1 := Lib.hid htx1
  clear bx hb hbb htx1 hpz1 hown1 he1 HR1 HB1
  go_wp2_with fail
  generalize (w2.alloc (.cells #[.int .i64 a1, .string ib1, .bool ov1, .slice A1 l1.length c1, .bool o1, .string tb1, .int .u8 k1] 82)) = W8 at s8 p1 x8 r8 b8 ⊢
  have S8 := Lib.hid s8; have P1 := Lib.hid p1; have X8 := Lib.hid x8; have R8 := Lib.hid r8; have B8 := Lib.hid b8
  clear s8 p1 x8 r8 b8
  refine (feed_st [] s1 L1 0 m1 HF1.out rfl HM1.out (some a) 0 _ (Rd.nil _ _ _) (by omega)).mono ?_
  rintro e w3 ⟨a2, inter2, ov2, l2, o2, text2, k2, ib2, tb2, A2, c2, Ay, cy, vy, he2, rfl, htx2, hpz2, hown2, hb⟩
  have bx : Below w3.heap.size w3 (w3.alloc (.cells #[.int .i64 a2, .string ib2, .bool ov2, .slice A2 l2.length c2, .bool o2, .string tb2, .int .u8 k2] 82)) := (Below.refl _ _).alloc (Nat.le_refl _) _
  have s9 : SAt (w3.alloc (.cells #[.int .i64 a2, .string ib2, .bool ov2, .slice A2 l2.length c2, .bool o2, .string tb2, .int .u8 k2] 82)) w3.heap.size ⟨⟨a2, inter2, ov2, l2, o2, text2, k2⟩, ib2, tb2, A2, c2⟩ := heap_alloc_new w3 _
  have hrow : ∀ g, (Value.slice Ay m1 cy).ownBlock = some g → W8.heap.size ≤ g ∧ g < w3.heap.size := fun g hg => by rw [← HM1.out] at hg; exact ⟨own_ge hown2.own g hg, own_lt hown2.own g hg⟩
  have pz9 := hpz2.next bx
  have y9 := hown2.next bx
  have b9 := (Below.trans hb (bx.mono hb.size) : Below W8.heap.size W8 _)
  have r9 := (R8.out.next hb).next bx
  have hok9 : Sv.Ok ⟨⟨a2, inter2, ov2, l2, o2, text2, k2⟩, ib2, tb2, A2, c2⟩ (w3.alloc (.cells #[.int .i64 a2, .string ib2, .bool ov2, .slice A2 l2.length c2, .bool o2, .string tb2, .int .u8 k2] 82)) := ⟨htx2, (pz9.ok.rd (v := sv0) (RdLL.nil _ _ _))⟩
  have hsz9 : W8.heap.size ≤ w3.heap.size := hb.size
  have hz9 : w3.heap.size < (w3.alloc (.cells #[.int .i64 a2, .string ib2, .bool ov2, .slice A2 l2.length c2, .bool o2, .string tb2, .int .u8 k2] 82)).heap.size := by simp
  have HE2 := Lib.hid he2; have HTX2 := Lib.hid htx2; have HROW := Lib.hid hrow
  clear bx hb htx2 hpz2 hown2 he2 hrow
  go_wp2_with fail
  go_upto_region 9 with (fail)
  generalize (w3.alloc (.cells #[.int .i64 a2, .string ib2, .bool ov2, .slice A2 l2.length c2, .bool o2, .string tb2, .int .u8 k2] 82)) = W9 at s9 pz9 y9 b9 r9 hok9 hz9 ⊢
  obtain ⟨e0, e1, e2, e3, e4, e5, e6, _⟩ := s9.cells
  simp only at e0 e1 e2 e3 e4 e5 e6
  have S9 := Lib.hid s9; have PZ9 := Lib.hid pz9; have Y9 := Lib.hid y9; have B9 := Lib.hid b9; have OK9 := Lib.hid hok9
  have r10 : Rd W9 W9.heap.size (some a) (nC []) := Rd.nil _ _ _
  have R9 := Lib.hid r9; have R10 := Lib.hid r10
  have hfd : ∀ (W : World) (Ad : Option Addr) (cd : Nat), Sv.Ok ⟨⟨a2, inter2, ov2, l2, o2, text2, k2⟩, ib2, tb2, A2, c2⟩ W → Rd W W.heap.size Ad (nC []) → Calls Tryd.prog 52 #[.agg #[.int .i64 a2, .string ib2, .bool ov2, .slice A2 l2.length c2, .bool o2, .string tb2, .int .u8 k2], .slice Ad 0 cd] W fun e w' => ∃ (a3 : Int) (inter3 : List Int) (ov3 : Bool) (l3 : List (List Int)) (o3 : Bool) (text3 : List Int) (k3 : Int) (ib3 tb3 : ByteArray) (A3 : Option Addr) (c3 : Nat) (Ac : Option Addr) (cA : Nat) (vs : List Av), ⟨a3, inter3, ov3, l3, o3, text3, k3⟩ = s' ∧ e = .returned (.tuple #[.agg #[.int .i64 a3, .string ib3, .bool ov3, .slice A3 l3.length c3, .bool o3, .string tb3, .int .u8 k3], .slice Ac m2 cA]) ∧ Sv.Tx ⟨⟨a3, inter3, ov3, l3, o3, text3, k3⟩, ib3, tb3, A3, c3⟩ ∧
      ParOk ⟨⟨a2, inter2, ov2, l2, o2, text2, k2⟩, ib2, tb2, A2, c2⟩ W.heap.size w' A3 c3 l3 ∧ Acts ⟨⟨a2, inter2, ov2, l2, o2, text2, k2⟩, ib2, tb2, A2, c2⟩ W.heap.size w' Ac L2 vs ∧ Below W.heap.size W w' := fun W Ad cd hW hR => by
    refine (feed_n ⟨⟨a2, inter2, ov2, l2, o2, text2, k2⟩, ib2, tb2, A2, c2⟩ [] s' L2 0 m2 (by rw [← HE2.out] at HF2; exact HF2.out) rfl HM2.out Ad cd W hW (by have h := HSN1.out; rw [← HE2.out] at h; exact h) hR (by omega)).mono fun e w' hh => ?_
    obtain ⟨a3, inter3, ov3, l3, o3, text3, k3, ib3, tb3, A3, c3, Ac, cA, vs, h1, h2, h3, h4, h5, h6⟩ := hh
    exact ⟨a3, inter3, ov3, l3, o3, text3, k3, ib3, tb3, A3, c3, Ac, cA, vs, h1, h2, h3, h4.ok, h5.acts, h6⟩
  have FD := Lib.hid hfd
  have SZ : Hid (SAt (W9.alloc (.cells #[.int .i64 0, .string ⟨#[]⟩, .bool false, .slice none 0 0, .bool false, .string ⟨#[]⟩, .int .u8 0] 82)) W9.heap.size sv0) := Lib.hid (heap_alloc_new W9 _)
  clear s9 pz9 y9 b9 r9 hok9 r10 hfd
  go_cut [11, 12] (fun s7 s8 wx => StNew ⟨⟨a2, inter2, ov2, l2, o2, text2, k2⟩, ib2, tb2, A2, c2⟩ W9 wx s7 s8 s' L2 m2)
  case first =>
    go_region_with (go_at_call 52; (first | (refine (FD.out _ _ _ (OK9.out.next (Below.refl _ _).drew) (R10.out.next (Below.refl _ _).drew)).mono ?_) | (refine (FD.out _ _ _ (OK9.out.next ((Below.refl _ _).alloc (Nat.le_refl _) _).drew) (R10.out.next ((Below.refl _ _).alloc (Nat.le_refl _) _).drew)).mono ?_)); rintro e w4 ⟨a3, inter3, ov3, l3, o3, text3, k3, ib3, tb3, A3, c3, Ac, cA, vs, hs4, rfl, htx4, hp4, ha4, hb4⟩; (try (have hz4 := SAt.past (w := (W9.alloc (.cells #[.int .i64 0, .string ⟨#[]⟩, .bool false, .slice none 0 0, .bool false, .string ⟨#[]⟩, .int .u8 0] 82)).drew) SZ.out hb4; obtain ⟨j0, j1, j2, j3, j4, j5, j6, f0, f1, f2, f3, f4, f5, f6⟩ := hz4.cells; simp only [sv0, st0] at j0 j1 j2 j3 j4 j5 j6; clear hz4)); have HS4 := Lib.hid hs4; have HTX4 := Lib.hid htx4; first | (with_reducible have HP4a : Hid (ParOk ⟨⟨a2, inter2, ov2, l2, o2, text2, k2⟩, ib2, tb2, A2, c2⟩ W9.drew.heap.size w4 A3 c3 l3) := Lib.hid hp4; have HA4 := Lib.hid ha4; have HB4 := Lib.hid hb4; clear hs4 htx4 hp4 ha4 hb4) | (have HP4b := Lib.hid hp4; have HA4 := Lib.hid ha4; have HB4 := Lib.hid hb4; clear hs4 htx4 hp4 ha4 hb4))
    all_goals go_wp2_with fail
    all_goals go_meet
    all_goals first
      | (have hf := HP4a.out; exact stn_1 (t := ⟨⟨a3, inter3, ov3, l3, o3, text3, k3⟩, ib3, tb3, A3, c3⟩) HB4.out HS4.out HTX4.out hf HA4.out)
      | (have hf := HP4b.out; exact stn_2 (t := ⟨⟨a3, inter3, ov3, l3, o3, text3, k3⟩, ib3, tb3, A3, c3⟩) HB4.out HS4.out HTX4.out hf HA4.out)
  case rest =>
  obtain ⟨⟨⟨a3, inter3, ov3, l3, o3, text3, k3⟩, ib3, tb3, A3, c3⟩, g3, cz, Az, vz, rfl, rfl, hs3, he3, htx3, hp3, ha3, hg3, hb3⟩ := hcut
  have hvz : vz.length = m2 := by rw [ha3.len, HM2.out]
  have hz3 := hb3.size
  have hy3 : Hid (World.ownsRow wc W8.heap.size 96 6 (.slice Ay m1 cy) m1 (avC vy)) := Lib.hid (owned_row (Y9.out.next hb3) HM1.out)
  have hrd3 := Lib.hid ha3.rd
  go_wp2_with (at_builtin; go_loud (refine wpList_cat (by rfl) (.tmp 48) (.tmp 49) 83 el_act (by rfl) W8.heap.size _ m1 (avC vy) (by rfl) hy3.out wc.heap.size Az m2 cz (avC vz) (by rfl) hrd3.out (by rw [avC_len, hvz]) (avC_one _) (by unfold maxLen; omega) (by omega) (by omega) ?_); intro A5 c5 w5 ho5 hg5 hl5; refine Hid.out ?_)
  have hpz : ParZ sv0 W8.heap.size W9 (.slice Ay m1 cy) A2 c2 l2 := PZ9.out
  have hr9 : ∀ g, (Value.slice Ay m1 cy).ownBlock = some g → g < W9.heap.size := fun g hg => by have := (HROW.out g hg).2; omega
  have hcat : Owned sv0 W8.heap.size w5 A5 c5 (L1 ++ L2) (vy ++ vz) := (Y9.out.next hb3).cat ha3.map (fun x hx => ⟨(ha3.ok x hx).1, by rw [HM1.out]; exact ParZ.new (ha3.ok x hx).2 hpz hb3 (by omega) hr9⟩) (by rw [HM1.out, HM2.out]) ho5 (by rw [HM1.out]; exact hg5) (by rw [HM1.out]; exact hl5)
  have hb85 : Below W8.heap.size W8 w5 := (B9.out.trans (hb3.mono (by omega))).trans (below_of_grown hg5 (by omega) fun g hg => (HROW.out g hg).1)
  have q1 : SAt w5 w2.heap.size ⟨⟨a1, inter1, ov1, l1, o1, text1, k1⟩, ib1, tb1, A1, c1⟩ := S8.out.past hb85
  have q2 : SAt w5 w3.heap.size ⟨⟨a2, inter2, ov2, l2, o2, text2, k2⟩, ib2, tb2, A2, c2⟩ := bk_grown (S9.out.past hb3) hg5 fun e => by have := (HROW.out _ e).2; omega
  have q3 : SAt w5 g3 ⟨⟨a3, inter3, ov3, l3, o3, text3, k3⟩, ib3, tb3, A3, c3⟩ := bk_grown hs3 hg5 fun e => by have := (HROW.out _ e).2; omega
  have p1 := P1.out.next hb85
  have p2 := ((hpz.next hb3).grow hg5 hl5).ok.rd (v := sv0) (RdLL.nil _ _ _)
  have p3 := ((ParZ.new hp3 hpz hb3 (by omega) hr9).grow hg5 hl5).ok.rd (v := sv0) (RdLL.nil _ _ _)
  have ax := X8.out.next hb85
  have ay := hcat.acts.less (Nat.zero_le _)
  have HBW := Lib.hid (B8.out.trans (hb85.mono B8.out.size))
  have T1 : Hid (∀ U : World, Calls Tryd.prog 54 #[.agg #[.int .i64 a1, .string ib1, .bool ov1, .slice A1 l1.length c1, .bool o1, .string tb1, .int .u8 k1]] U fun e w' => e = .returned (.agg #[.int .i64 a1, .string ib1, .bool ov1, .slice A1 l1.length c1, .bool o1, .string tb1, .int .u8 k1]) ∧ Below U.heap.size U w') := Lib.hid (fun U => theirs6_any ⟨⟨a1, inter1, ov1, l1, o1, text1, k1⟩, ib1, tb1, A1, c1⟩ U)
  have T3 : Hid (∀ U : World, Calls Tryd.prog 54 #[.agg #[.int .i64 a3, .string ib3, .bool ov3, .slice A3 l3.length c3, .bool o3, .string tb3, .int .u8 k3]] U fun e w' => e = .returned (.agg #[.int .i64 a3, .string ib3, .bool ov3, .slice A3 l3.length c3, .bool o3, .string tb3, .int .u8 k3]) ∧ Below U.heap.size U w') := Lib.hid (fun U => theirs6_any ⟨⟨a3, inter3, ov3, l3, o3, text3, k3⟩, ib3, tb3, A3, c3⟩ U)
  have Q1 : Hid (∀ u : After w5, Calls Tryd.prog 53 #[.agg #[.int .i64 a1, .string ib1, .bool ov1, .slice A1 l1.length c1, .bool o1, .string tb1, .int .u8 k1], .agg #[.int .i64 a3, .string ib3, .bool ov3, .slice A3 l3.length c3, .bool o3, .string tb3, .int .u8 k3]] u.get fun e w' => e = .returned (.bool true) ∧ Below u.get.heap.size u.get w') := Lib.hid (fun u => same6_any (lo := 0) (lo' := 0) ⟨⟨a1, inter1, ov1, l1, o1, text1, k1⟩, ib1, tb1, A1, c1⟩ ⟨⟨a3, inter3, ov3, l3, o3, text3, k3⟩, ib3, tb3, A3, c3⟩ _ (HE1.out.trans he3.symm) HTX1.out htx3 (p1.next u.below) (p3.next u.below) (by have h := HSP.out; rw [← HE1.out] at h; exact h.2) (by have h := HSP.out; rw [← HE1.out] at h; exact h.1))
  have Q3 : Hid (∀ u : After w5, Calls Tryd.prog 55 #[.slice Ax (m1 + m2) cx, .slice A5 (m1 + m2) c5] u.get fun e w' => e = .returned (.bool true) ∧ Below u.get.heap.size u.get w') := Lib.hid (fun u => by
    have h := actions_any (v := sv0) (u := sv0) (L1 ++ L2) vx (vy ++ vz) Ax A5 cx c5 u.get (ax.next u.below) (ay.next u.below) (RdLL.nil _ _ _) (RdLL.nil _ _ _) HPB.out (by rw [List.length_append, HM1.out, HM2.out]; omega)
    rw [List.length_append, HM1.out, HM2.out] at h
    exact h)
  have N1 : Hid (∀ u : After w5, Calls Tryd.prog 56 #[.agg #[.int .i64 a1, .string ib1, .bool ov1, .slice A1 l1.length c1, .bool o1, .string tb1, .int .u8 k1]] u.get fun e w' => e = .returned (.bool true) ∧ Below u.get.heap.size u.get w') := Lib.hid (fun u => sane_true ⟨⟨a1, inter1, ov1, l1, o1, text1, k1⟩, ib1, tb1, A1, c1⟩ _ ⟨HTX1.out, p1.next u.below⟩ (by have h := HSN'.out; rw [← HE1.out] at h; exact h))
  have N2 : Hid (∀ u : After w5, Calls Tryd.prog 56 #[.agg #[.int .i64 a2, .string ib2, .bool ov2, .slice A2 l2.length c2, .bool o2, .string tb2, .int .u8 k2]] u.get fun e w' => e = .returned (.bool true) ∧ Below u.get.heap.size u.get w') := Lib.hid (fun u => sane_true ⟨⟨a2, inter2, ov2, l2, o2, text2, k2⟩, ib2, tb2, A2, c2⟩ _ ⟨HTX2.out, p2.next u.below⟩ (by have h := HSN1.out; rw [← HE2.out] at h; exact h))
  obtain ⟨i0', i1', i2', i3', i4', i5', i6', _⟩ := q1.cells
  obtain ⟨j0', j1', j2', j3', j4', j5', j6', _⟩ := q2.cells
  obtain ⟨k0', k1', k2', k3', k4', k5', k6', _⟩ := q3.cells
  simp only at i0' i1' i2' i3' i4' i5' i6' j0' j1' j2' j3' j4' j5' j6' k0' k1' k2' k3' k4' k5' k6'
  have ri0' := fun u : After w5 => u.cell i0'
  have ri1' := fun u : After w5 => u.cell i1'
  have ri2' := fun u : After w5 => u.cell i2'
  have ri3' := fun u : After w5 => u.cell i3'
  have ri4' := fun u : After w5 => u.cell i4'
  have ri5' := fun u : After w5 => u.cell i5'
  have ri6' := fun u : After w5 => u.cell i6'
  have rj0' := fun u : After w5 => u.cell j0'
  have rj1' := fun u : After w5 => u.cell j1'
  have rj2' := fun u : After w5 => u.cell j2'
  have rj3' := fun u : After w5 => u.cell j3'
  have rj4' := fun u : After w5 => u.cell j4'
  have rj5' := fun u : After w5 => u.cell j5'
  have rj6' := fun u : After w5 => u.cell j6'
  have rk0' := fun u : After w5 => u.cell k0'
  have rk1' := fun u : After w5 => u.cell k1'
  have rk2' := fun u : After w5 => u.cell k2'
  have rk3' := fun u : After w5 => u.cell k3'
  have rk4' := fun u : After w5 => u.cell k4'
  have rk5' := fun u : After w5 => u.cell k5'
  have rk6' := fun u : After w5 => u.cell k6'
  refine Lib.hid ?_
  clear i0' i1' i2' i3' i4' i5' i6' j0' j1' j2' j3' j4' j5' j6' k0' k1' k2' k3' k4' k5' k6' q1 q2 q3 p1 p2 p3 ax ay hcat hb85 hpz hr9 ho5 hg5 hl5 hy3 hrd3 hvz hs3 he3 htx3 hp3 ha3 hg3 hb3 e0 e1 e2 e3 e4 e5 e6 hz3 hsz9 hz9 S8 P1 X8 R8 S9 PZ9 Y9 OK9 R9 R10 FD SZ HROW HPB HSP HF HF1 HF2 HSN1 HSN' HE1 HE2 HTX1 HTX2 HM1 HM2 B9
  go_wp2_with fail
  refine wp_region_after (by kernel_rfl) (by kernel_rfl) ?_
  repeat (go_big_quiet_step (first
    | (go_at_call_of 54 (Value.string ib1); exact Calls.after_of (T1.out _))
    | (go_at_call_of 54 (Value.string ib3); exact Calls.after_of (T3.out _))
    | (go_at_call 53; exact Calls.after_of (Q1.out _))
    | (go_at_call 55; exact Calls.after_of (Q3.out _))
    | (go_at_call_of 56 (Value.string ib1); exact Calls.after_of (N1.out _))
    | (go_at_call_of 56 (Value.string ib2); exact Calls.after_of (N2.out _))))
  refine wpQuiet_nil ?_
  rintro _ ⟨u, rfl⟩
  go_wp2_with fail
  go_ret
  exact ⟨rfl, HBW.out.trans (u.below.mono HBW.out.size)⟩
set_option maxRecDepth 100000 in
set_option maxHeartbeats 6400000 in
theorem pc_cap (n : Int) (a : Addr) (cl : Nat) (hcl : cl ≠ 0) (w : World) (hT : TabI w) : Calls Tryd.prog 15 #[.slice (some a) 0 cl, .int .i64 n] w fun e w' => e = .returned (.bool true) ∧ Below w.heap.size w w' := by
  have hr : Rd w w.heap.size (some a) (nC []) := Rd.nil _ _ _
  obtain ⟨⟨s1, L1⟩, hf1⟩ : ∃ p, feedS st0 [] = p := ⟨_, rfl⟩
  obtain ⟨⟨s', L2⟩, hf2⟩ : ∃ p, feedS s1 [] = p := ⟨_, rfl⟩
  have hsn1 : saneS s1 = true := by have := feedS_st []; rw [hf1] at this; exact this
  have hf2g : feedGo s1 [] = (s', L2) := by rw [← feedS_sane hsn1]; exact hf2
  have hsn' : saneS s' = true := by have := feedGo_sane [] s1 hsn1; rw [hf2g] at this; exact this
  have hf : feedS st0 [] = (s', L1 ++ L2) := by
    have h := feed_cut [] []
    rw [hf1] at h
    simp only at h
    rw [hf2] at h
    simpa using h
  obtain ⟨m1, hm1⟩ : ∃ m, L1.length = m := ⟨_, rfl⟩
  obtain ⟨m2, hm2⟩ : ∃ m, L2.length = m := ⟨_, rfl⟩
  have hfg : feedGo st0 [] = (s', L1 ++ L2) := by rw [← feedS_sane st0_sane]; exact hf
  have hpb : ∀ x ∈ L1 ++ L2, ParB x.par := by have := feed_parB [] st0; rw [hfg] at this; exact this
  have hlen : m1 + m2 ≤ 2400 := by
    have h := feedGo_len [] st0 st0_sane
    rw [hfg] at h
    simp only [List.length_append, List.length_nil] at h
    omega
  have hsp := sane_parB hsn'
  have HT := Lib.hid hT; have HR := Lib.hid hr; have HF := Lib.hid hf; have HF1 := Lib.hid hf1; have HF2 := Lib.hid hf2g; have HSN1 := Lib.hid hsn1; have HSN' := Lib.hid hsn'; have HM1 := Lib.hid hm1; have HM2 := Lib.hid hm2; have HPB := Lib.hid hpb; have HSP := Lib.hid hsp
  clear hT hr hf hf1 hf2 hf2g hsn1 hsn' hm1 hm2 hfg hpb hsp
  go_enter Tryd.func15, Tryd.ntmps15
  go_wp2_with fail
  refine (awake6_any _ HT.out).mono ?_
  rintro e w1 ⟨rfl, hb⟩
  have HR1 := Lib.hid (HR.out.next hb); have HB1 := Lib.hid hb
  clear hb HR HT
  go_wp2_with fail
  refine (feed_st [] s' (L1 ++ L2) 0 (m1 + m2) HF.out rfl (by rw [List.length_append, HM1.out, HM2.out]) (some a) cl _ HR1.out (by omega)).mono ?_
  rintro e w2 ⟨a1, inter1, ov1, l1, o1, text1, k1, ib1, tb1, A1, c1, Ax, cx, vx, he1, rfl, htx1, hpz1, hown1, hb⟩
  have bx : Below w2.heap.size w2 (w2.alloc (.cells #[.int .i64 a1, .string ib1, .bool ov1, .slice A1 l1.length c1, .bool o1, .string tb1, .int .u8 k1] 82)) := (Below.refl _ _).alloc (Nat.le_refl _) _
  have s8 : SAt (w2.alloc (.cells #[.int .i64 a1, .string ib1, .bool ov1, .slice A1 l1.length c1, .bool o1, .string tb1, .int .u8 k1] 82)) w2.heap.size ⟨⟨a1, inter1, ov1, l1, o1, text1, k1⟩, ib1, tb1, A1, c1⟩ := heap_alloc_new w2 _
  have p1 := (hpz1.ok.rd (v := sv0) (RdLL.nil _ _ _)).next bx
  have x8 := (hown1.acts.less (Nat.zero_le _)).next bx
  have r8 := (HR1.out.next hb).next bx
  have hbb := HB1.out.trans (hb.mono HB1.out.size)
  have b8 := hbb.trans (bx.mono hbb.size)
  have HE1 := Lib.hid he1; have HTX1 := Lib.hid htx1
  clear bx hb hbb htx1 hpz1 hown1 he1 HR1 HB1
  go_wp2_with fail
  generalize (w2.alloc (.cells #[.int .i64 a1, .string ib1, .bool ov1, .slice A1 l1.length c1, .bool o1, .string tb1, .int .u8 k1] 82)) = W8 at s8 p1 x8 r8 b8 ⊢
  have S8 := Lib.hid s8; have P1 := Lib.hid p1; have X8 := Lib.hid x8; have R8 := Lib.hid r8; have B8 := Lib.hid b8
  clear s8 p1 x8 r8 b8
  refine (feed_st [] s1 L1 0 m1 HF1.out rfl HM1.out (some a) cl _ (Rd.nil _ _ _) (by omega)).mono ?_
  rintro e w3 ⟨a2, inter2, ov2, l2, o2, text2, k2, ib2, tb2, A2, c2, Ay, cy, vy, he2, rfl, htx2, hpz2, hown2, hb⟩
  have bx : Below w3.heap.size w3 (w3.alloc (.cells #[.int .i64 a2, .string ib2, .bool ov2, .slice A2 l2.length c2, .bool o2, .string tb2, .int .u8 k2] 82)) := (Below.refl _ _).alloc (Nat.le_refl _) _
  have s9 : SAt (w3.alloc (.cells #[.int .i64 a2, .string ib2, .bool ov2, .slice A2 l2.length c2, .bool o2, .string tb2, .int .u8 k2] 82)) w3.heap.size ⟨⟨a2, inter2, ov2, l2, o2, text2, k2⟩, ib2, tb2, A2, c2⟩ := heap_alloc_new w3 _
  have hrow : ∀ g, (Value.slice Ay m1 cy).ownBlock = some g → W8.heap.size ≤ g ∧ g < w3.heap.size := fun g hg => by rw [← HM1.out] at hg; exact ⟨own_ge hown2.own g hg, own_lt hown2.own g hg⟩
  have pz9 := hpz2.next bx
  have y9 := hown2.next bx
  have b9 := (Below.trans hb (bx.mono hb.size) : Below W8.heap.size W8 _)
  have r9 := (R8.out.next hb).next bx
  have hok9 : Sv.Ok ⟨⟨a2, inter2, ov2, l2, o2, text2, k2⟩, ib2, tb2, A2, c2⟩ (w3.alloc (.cells #[.int .i64 a2, .string ib2, .bool ov2, .slice A2 l2.length c2, .bool o2, .string tb2, .int .u8 k2] 82)) := ⟨htx2, (pz9.ok.rd (v := sv0) (RdLL.nil _ _ _))⟩
  have hsz9 : W8.heap.size ≤ w3.heap.size := hb.size
  have hz9 : w3.heap.size < (w3.alloc (.cells #[.int .i64 a2, .string ib2, .bool ov2, .slice A2 l2.length c2, .bool o2, .string tb2, .int .u8 k2] 82)).heap.size := by simp
  have HE2 := Lib.hid he2; have HTX2 := Lib.hid htx2; have HROW := Lib.hid hrow
  clear bx hb htx2 hpz2 hown2 he2 hrow
  go_wp2_with fail
  go_upto_region 9 with (fail)
  generalize (w3.alloc (.cells #[.int .i64 a2, .string ib2, .bool ov2, .slice A2 l2.length c2, .bool o2, .string tb2, .int .u8 k2] 82)) = W9 at s9 pz9 y9 b9 r9 hok9 hz9 ⊢
  obtain ⟨e0, e1, e2, e3, e4, e5, e6, _⟩ := s9.cells
  simp only at e0 e1 e2 e3 e4 e5 e6
  have S9 := Lib.hid s9; have PZ9 := Lib.hid pz9; have Y9 := Lib.hid y9; have B9 := Lib.hid b9; have OK9 := Lib.hid hok9
  have r10 : Rd W9 W9.heap.size (some a) (nC []) := Rd.nil _ _ _
  have R9 := Lib.hid r9; have R10 := Lib.hid r10
  have hfd : ∀ (W : World) (Ad : Option Addr) (cd : Nat), Sv.Ok ⟨⟨a2, inter2, ov2, l2, o2, text2, k2⟩, ib2, tb2, A2, c2⟩ W → Rd W W.heap.size Ad (nC []) → Calls Tryd.prog 52 #[.agg #[.int .i64 a2, .string ib2, .bool ov2, .slice A2 l2.length c2, .bool o2, .string tb2, .int .u8 k2], .slice Ad 0 cd] W fun e w' => ∃ (a3 : Int) (inter3 : List Int) (ov3 : Bool) (l3 : List (List Int)) (o3 : Bool) (text3 : List Int) (k3 : Int) (ib3 tb3 : ByteArray) (A3 : Option Addr) (c3 : Nat) (Ac : Option Addr) (cA : Nat) (vs : List Av), ⟨a3, inter3, ov3, l3, o3, text3, k3⟩ = s' ∧ e = .returned (.tuple #[.agg #[.int .i64 a3, .string ib3, .bool ov3, .slice A3 l3.length c3, .bool o3, .string tb3, .int .u8 k3], .slice Ac m2 cA]) ∧ Sv.Tx ⟨⟨a3, inter3, ov3, l3, o3, text3, k3⟩, ib3, tb3, A3, c3⟩ ∧
      ParOk ⟨⟨a2, inter2, ov2, l2, o2, text2, k2⟩, ib2, tb2, A2, c2⟩ W.heap.size w' A3 c3 l3 ∧ Acts ⟨⟨a2, inter2, ov2, l2, o2, text2, k2⟩, ib2, tb2, A2, c2⟩ W.heap.size w' Ac L2 vs ∧ Below W.heap.size W w' := fun W Ad cd hW hR => by
    refine (feed_n ⟨⟨a2, inter2, ov2, l2, o2, text2, k2⟩, ib2, tb2, A2, c2⟩ [] s' L2 0 m2 (by rw [← HE2.out] at HF2; exact HF2.out) rfl HM2.out Ad cd W hW (by have h := HSN1.out; rw [← HE2.out] at h; exact h) hR (by omega)).mono fun e w' hh => ?_
    obtain ⟨a3, inter3, ov3, l3, o3, text3, k3, ib3, tb3, A3, c3, Ac, cA, vs, h1, h2, h3, h4, h5, h6⟩ := hh
    exact ⟨a3, inter3, ov3, l3, o3, text3, k3, ib3, tb3, A3, c3, Ac, cA, vs, h1, h2, h3, h4.ok, h5.acts, h6⟩
  have FD := Lib.hid hfd
  have SZ : Hid (SAt (W9.alloc (.cells #[.int .i64 0, .string ⟨#[]⟩, .bool false, .slice none 0 0, .bool false, .string ⟨#[]⟩, .int .u8 0] 82)) W9.heap.size sv0) := Lib.hid (heap_alloc_new W9 _)
  clear s9 pz9 y9 b9 r9 hok9 r10 hfd
  go_cut [11, 12] (fun s7 s8 wx => StNew ⟨⟨a2, inter2, ov2, l2, o2, text2, k2⟩, ib2, tb2, A2, c2⟩ W9 wx s7 s8 s' L2 m2)
  case first =>
    go_region_with (go_at_call 52; (first | (refine (FD.out _ _ _ (OK9.out.next (Below.refl _ _).drew) (R10.out.next (Below.refl _ _).drew)).mono ?_) | (refine (FD.out _ _ _ (OK9.out.next ((Below.refl _ _).alloc (Nat.le_refl _) _).drew) (R10.out.next ((Below.refl _ _).alloc (Nat.le_refl _) _).drew)).mono ?_)); rintro e w4 ⟨a3, inter3, ov3, l3, o3, text3, k3, ib3, tb3, A3, c3, Ac, cA, vs, hs4, rfl, htx4, hp4, ha4, hb4⟩; (try (have hz4 := SAt.past (w := (W9.alloc (.cells #[.int .i64 0, .string ⟨#[]⟩, .bool false, .slice none 0 0, .bool false, .string ⟨#[]⟩, .int .u8 0] 82)).drew) SZ.out hb4; obtain ⟨j0, j1, j2, j3, j4, j5, j6, f0, f1, f2, f3, f4, f5, f6⟩ := hz4.cells; simp only [sv0, st0] at j0 j1 j2 j3 j4 j5 j6; clear hz4)); have HS4 := Lib.hid hs4; have HTX4 := Lib.hid htx4; first | (with_reducible have HP4a : Hid (ParOk ⟨⟨a2, inter2, ov2, l2, o2, text2, k2⟩, ib2, tb2, A2, c2⟩ W9.drew.heap.size w4 A3 c3 l3) := Lib.hid hp4; have HA4 := Lib.hid ha4; have HB4 := Lib.hid hb4; clear hs4 htx4 hp4 ha4 hb4) | (have HP4b := Lib.hid hp4; have HA4 := Lib.hid ha4; have HB4 := Lib.hid hb4; clear hs4 htx4 hp4 ha4 hb4))
    all_goals go_wp2_with fail
    all_goals go_meet
    all_goals first
      | (have hf := HP4a.out; exact stn_1 (t := ⟨⟨a3, inter3, ov3, l3, o3, text3, k3⟩, ib3, tb3, A3, c3⟩) HB4.out HS4.out HTX4.out hf HA4.out)
      | (have hf := HP4b.out; exact stn_2 (t := ⟨⟨a3, inter3, ov3, l3, o3, text3, k3⟩, ib3, tb3, A3, c3⟩) HB4.out HS4.out HTX4.out hf HA4.out)
  case rest =>
  obtain ⟨⟨⟨a3, inter3, ov3, l3, o3, text3, k3⟩, ib3, tb3, A3, c3⟩, g3, cz, Az, vz, rfl, rfl, hs3, he3, htx3, hp3, ha3, hg3, hb3⟩ := hcut
  have hvz : vz.length = m2 := by rw [ha3.len, HM2.out]
  have hz3 := hb3.size
  have hy3 : Hid (World.ownsRow wc W8.heap.size 96 6 (.slice Ay m1 cy) m1 (avC vy)) := Lib.hid (owned_row (Y9.out.next hb3) HM1.out)
  have hrd3 := Lib.hid ha3.rd
  go_wp2_with (at_builtin; go_loud (refine wpList_cat (by rfl) (.tmp 48) (.tmp 49) 83 el_act (by rfl) W8.heap.size _ m1 (avC vy) (by rfl) hy3.out wc.heap.size Az m2 cz (avC vz) (by rfl) hrd3.out (by rw [avC_len, hvz]) (avC_one _) (by unfold maxLen; omega) (by omega) (by omega) ?_); intro A5 c5 w5 ho5 hg5 hl5; refine Hid.out ?_)
  have hpz : ParZ sv0 W8.heap.size W9 (.slice Ay m1 cy) A2 c2 l2 := PZ9.out
  have hr9 : ∀ g, (Value.slice Ay m1 cy).ownBlock = some g → g < W9.heap.size := fun g hg => by have := (HROW.out g hg).2; omega
  have hcat : Owned sv0 W8.heap.size w5 A5 c5 (L1 ++ L2) (vy ++ vz) := (Y9.out.next hb3).cat ha3.map (fun x hx => ⟨(ha3.ok x hx).1, by rw [HM1.out]; exact ParZ.new (ha3.ok x hx).2 hpz hb3 (by omega) hr9⟩) (by rw [HM1.out, HM2.out]) ho5 (by rw [HM1.out]; exact hg5) (by rw [HM1.out]; exact hl5)
  have hb85 : Below W8.heap.size W8 w5 := (B9.out.trans (hb3.mono (by omega))).trans (below_of_grown hg5 (by omega) fun g hg => (HROW.out g hg).1)
  have q1 : SAt w5 w2.heap.size ⟨⟨a1, inter1, ov1, l1, o1, text1, k1⟩, ib1, tb1, A1, c1⟩ := S8.out.past hb85
  have q2 : SAt w5 w3.heap.size ⟨⟨a2, inter2, ov2, l2, o2, text2, k2⟩, ib2, tb2, A2, c2⟩ := bk_grown (S9.out.past hb3) hg5 fun e => by have := (HROW.out _ e).2; omega
  have q3 : SAt w5 g3 ⟨⟨a3, inter3, ov3, l3, o3, text3, k3⟩, ib3, tb3, A3, c3⟩ := bk_grown hs3 hg5 fun e => by have := (HROW.out _ e).2; omega
  have p1 := P1.out.next hb85
  have p2 := ((hpz.next hb3).grow hg5 hl5).ok.rd (v := sv0) (RdLL.nil _ _ _)
  have p3 := ((ParZ.new hp3 hpz hb3 (by omega) hr9).grow hg5 hl5).ok.rd (v := sv0) (RdLL.nil _ _ _)
  have ax := X8.out.next hb85
  have ay := hcat.acts.less (Nat.zero_le _)
  have HBW := Lib.hid (B8.out.trans (hb85.mono B8.out.size))
  have T1 : Hid (∀ U : World, Calls Tryd.prog 54 #[.agg #[.int .i64 a1, .string ib1, .bool ov1, .slice A1 l1.length c1, .bool o1, .string tb1, .int .u8 k1]] U fun e w' => e = .returned (.agg #[.int .i64 a1, .string ib1, .bool ov1, .slice A1 l1.length c1, .bool o1, .string tb1, .int .u8 k1]) ∧ Below U.heap.size U w') := Lib.hid (fun U => theirs6_any ⟨⟨a1, inter1, ov1, l1, o1, text1, k1⟩, ib1, tb1, A1, c1⟩ U)
  have T3 : Hid (∀ U : World, Calls Tryd.prog 54 #[.agg #[.int .i64 a3, .string ib3, .bool ov3, .slice A3 l3.length c3, .bool o3, .string tb3, .int .u8 k3]] U fun e w' => e = .returned (.agg #[.int .i64 a3, .string ib3, .bool ov3, .slice A3 l3.length c3, .bool o3, .string tb3, .int .u8 k3]) ∧ Below U.heap.size U w') := Lib.hid (fun U => theirs6_any ⟨⟨a3, inter3, ov3, l3, o3, text3, k3⟩, ib3, tb3, A3, c3⟩ U)
  have Q1 : Hid (∀ u : After w5, Calls Tryd.prog 53 #[.agg #[.int .i64 a1, .string ib1, .bool ov1, .slice A1 l1.length c1, .bool o1, .string tb1, .int .u8 k1], .agg #[.int .i64 a3, .string ib3, .bool ov3, .slice A3 l3.length c3, .bool o3, .string tb3, .int .u8 k3]] u.get fun e w' => e = .returned (.bool true) ∧ Below u.get.heap.size u.get w') := Lib.hid (fun u => same6_any (lo := 0) (lo' := 0) ⟨⟨a1, inter1, ov1, l1, o1, text1, k1⟩, ib1, tb1, A1, c1⟩ ⟨⟨a3, inter3, ov3, l3, o3, text3, k3⟩, ib3, tb3, A3, c3⟩ _ (HE1.out.trans he3.symm) HTX1.out htx3 (p1.next u.below) (p3.next u.below) (by have h := HSP.out; rw [← HE1.out] at h; exact h.2) (by have h := HSP.out; rw [← HE1.out] at h; exact h.1))
  have Q3 : Hid (∀ u : After w5, Calls Tryd.prog 55 #[.slice Ax (m1 + m2) cx, .slice A5 (m1 + m2) c5] u.get fun e w' => e = .returned (.bool true) ∧ Below u.get.heap.size u.get w') := Lib.hid (fun u => by
    have h := actions_any (v := sv0) (u := sv0) (L1 ++ L2) vx (vy ++ vz) Ax A5 cx c5 u.get (ax.next u.below) (ay.next u.below) (RdLL.nil _ _ _) (RdLL.nil _ _ _) HPB.out (by rw [List.length_append, HM1.out, HM2.out]; omega)
    rw [List.length_append, HM1.out, HM2.out] at h
    exact h)
  have N1 : Hid (∀ u : After w5, Calls Tryd.prog 56 #[.agg #[.int .i64 a1, .string ib1, .bool ov1, .slice A1 l1.length c1, .bool o1, .string tb1, .int .u8 k1]] u.get fun e w' => e = .returned (.bool true) ∧ Below u.get.heap.size u.get w') := Lib.hid (fun u => sane_true ⟨⟨a1, inter1, ov1, l1, o1, text1, k1⟩, ib1, tb1, A1, c1⟩ _ ⟨HTX1.out, p1.next u.below⟩ (by have h := HSN'.out; rw [← HE1.out] at h; exact h))
  have N2 : Hid (∀ u : After w5, Calls Tryd.prog 56 #[.agg #[.int .i64 a2, .string ib2, .bool ov2, .slice A2 l2.length c2, .bool o2, .string tb2, .int .u8 k2]] u.get fun e w' => e = .returned (.bool true) ∧ Below u.get.heap.size u.get w') := Lib.hid (fun u => sane_true ⟨⟨a2, inter2, ov2, l2, o2, text2, k2⟩, ib2, tb2, A2, c2⟩ _ ⟨HTX2.out, p2.next u.below⟩ (by have h := HSN1.out; rw [← HE2.out] at h; exact h))
  obtain ⟨i0', i1', i2', i3', i4', i5', i6', _⟩ := q1.cells
  obtain ⟨j0', j1', j2', j3', j4', j5', j6', _⟩ := q2.cells
  obtain ⟨k0', k1', k2', k3', k4', k5', k6', _⟩ := q3.cells
  simp only at i0' i1' i2' i3' i4' i5' i6' j0' j1' j2' j3' j4' j5' j6' k0' k1' k2' k3' k4' k5' k6'
  have ri0' := fun u : After w5 => u.cell i0'
  have ri1' := fun u : After w5 => u.cell i1'
  have ri2' := fun u : After w5 => u.cell i2'
  have ri3' := fun u : After w5 => u.cell i3'
  have ri4' := fun u : After w5 => u.cell i4'
  have ri5' := fun u : After w5 => u.cell i5'
  have ri6' := fun u : After w5 => u.cell i6'
  have rj0' := fun u : After w5 => u.cell j0'
  have rj1' := fun u : After w5 => u.cell j1'
  have rj2' := fun u : After w5 => u.cell j2'
  have rj3' := fun u : After w5 => u.cell j3'
  have rj4' := fun u : After w5 => u.cell j4'
  have rj5' := fun u : After w5 => u.cell j5'
  have rj6' := fun u : After w5 => u.cell j6'
  have rk0' := fun u : After w5 => u.cell k0'
  have rk1' := fun u : After w5 => u.cell k1'
  have rk2' := fun u : After w5 => u.cell k2'
  have rk3' := fun u : After w5 => u.cell k3'
  have rk4' := fun u : After w5 => u.cell k4'
  have rk5' := fun u : After w5 => u.cell k5'
  have rk6' := fun u : After w5 => u.cell k6'
  refine Lib.hid ?_
  clear i0' i1' i2' i3' i4' i5' i6' j0' j1' j2' j3' j4' j5' j6' k0' k1' k2' k3' k4' k5' k6' q1 q2 q3 p1 p2 p3 ax ay hcat hb85 hpz hr9 ho5 hg5 hl5 hy3 hrd3 hvz hs3 he3 htx3 hp3 ha3 hg3 hb3 e0 e1 e2 e3 e4 e5 e6 hz3 hsz9 hz9 S8 P1 X8 R8 S9 PZ9 Y9 OK9 R9 R10 FD SZ HROW HPB HSP HF HF1 HF2 HSN1 HSN' HE1 HE2 HTX1 HTX2 HM1 HM2 B9
  go_wp2_with fail
  refine wp_region_after (by kernel_rfl) (by kernel_rfl) ?_
  repeat (go_big_quiet_step (first
    | (go_at_call_of 54 (Value.string ib1); exact Calls.after_of (T1.out _))
    | (go_at_call_of 54 (Value.string ib3); exact Calls.after_of (T3.out _))
    | (go_at_call 53; exact Calls.after_of (Q1.out _))
    | (go_at_call 55; exact Calls.after_of (Q3.out _))
    | (go_at_call_of 56 (Value.string ib1); exact Calls.after_of (N1.out _))
    | (go_at_call_of 56 (Value.string ib2); exact Calls.after_of (N2.out _))))
  refine wpQuiet_nil ?_
  rintro _ ⟨u, rfl⟩
  go_wp2_with fail
  go_ret
  exact ⟨rfl, HBW.out.trans (u.below.mono HBW.out.size)⟩
theorem pcuts_walk (zs : List Int) (n : Int) (Al : Option Addr) (cl : Nat) (w : World) (hr : Rd w w.heap.size Al (nC zs)) (hcap : zs.length ≤ cl) (_hz : zs.length < 9223372036854775808) (hT : TabI w) : Calls Tryd.prog 15 #[.slice Al zs.length cl, .int .i64 n] w fun e w' => e = .returned (.bool true) ∧ Below w.heap.size w w' := by
  by_cases h : 1200 < zs.length
  · exact pc_big zs n Al cl w hr hcap _hz hT h
  by_cases h0 : zs = []
  · subst h0
    cases Al with
    | none => exact pc_none n cl w hT
    | some a =>
      by_cases hc : cl = 0
      · subst hc
        exact pc_zero n a w hT
      · exact pc_cap n a cl hc w hT
  · have hl : 0 < zs.length := List.length_pos_iff.2 h0
    obtain ⟨b, off, hA, _, _⟩ := hr (by rw [nC_len]; exact hl)
    subst hA
    obtain ⟨mm, hmm, _⟩ := and_16 n
    exact pc_some zs n b off cl (mm % zs.length) mm w hr hcap hT (by omega) (Nat.mod_lt _ hl) hmm rfl
end Go.Proofs.YtcempbgbdlmjfaaDoor
