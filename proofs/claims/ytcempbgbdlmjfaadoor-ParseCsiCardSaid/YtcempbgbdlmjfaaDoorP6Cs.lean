/-
  lapwinglaw06.ParseCsi: the walk: for any numbers and any text it answers true. No condition.
-/
import Derived.Test.YtcempbgbdlmjfaaDoorP6Aw
namespace Go.Proofs.YtcempbgbdlmjfaaDoor
open Go.RowKit

theorem and_of (k : Int) (n : Nat) (hn : n ≤ 62) (y : Int) (hy : y = ((2 ^ n - 1 : Nat) : Int)) : ∃ m : Nat, bits .and .i64 k y = (m : Int) ∧ m < 2 ^ n :=
  ⟨_, and_low k n hn y hy, Nat.mod_lt _ (Nat.two_pow_pos n)⟩
theorem one_str (w : World) (c : Int) (h0 : 0 ≤ c) (h1 : c < 256) (n : Nat) (hn : w.heap.size = n) : ∃ s : ByteArray, bI s = [c] ∧ s.size = 1 ∧
    (convert 72 9 (.slice (some ⟨n, 0, none⟩) 1 1)).run Tryd.prog (w.alloc (.cells #[.int .u8 c] 5)) = .ok (.string s) (w.alloc (.cells #[.int .u8 c] 5)) := by
  have hcv := conv_sN (W := w.alloc (.cells #[.int .u8 c] 5)) (B := n + 1) (A := some ⟨n, 0, none⟩) [c] 1 (rd_of_block (cs := [.int .u8 c]) (heap_new_at hn) (by omega)) (by intro x hx; simp at hx; omega) (by simp)
  exact ⟨sN [c], bI_sN [c] (by intro x hx; simp at hx; omega), sN_size [c], hcv⟩
set_option maxRecDepth 100000 in
set_option maxHeartbeats 6400000 in
theorem pk_big (x0 : Int) (s : ByteArray) (x2 x3 : Int) (w : World) (hs : s.size ≤ maxLen) (hT : TabI w) (h : 200 < s.size) : Calls Tryd.prog 19 #[.int .i64 x0, .string s, .int .i64 x2, .int .i64 x3] w fun e w' => e = .returned (.bool true) ∧ Below w.heap.size w w' := by
  have HT := Lib.hid hT
  unfold maxLen at hs
  clear hT
  go_enter Tryd.func19, Tryd.ntmps19
  go_wp2_with fail
  refine (awake6_any _ HT.out).mono ?_
  rintro e w1 ⟨rfl, hb⟩
  have HB := Lib.hid hb
  clear hb
  go_wp2_with fail
  go_ret
  exact ⟨rfl, HB.out⟩
set_option maxRecDepth 100000 in
set_option maxHeartbeats 6400000 in
theorem pk_none (x0 : Int) (s : ByteArray) (x2 x3 : Int) (w : World) (hs : s.size ≤ maxLen) (hT : TabI w) (h : s.size ≤ 200) (hp : parseGo ⟨[], false⟩ (bI s) = none) : Calls Tryd.prog 19 #[.int .i64 x0, .string s, .int .i64 x2, .int .i64 x3] w fun e w' => e = .returned (.bool true) ∧ Below w.heap.size w w' := by
  have HT := Lib.hid hT; have HP := Lib.hid hp
  clear hT hp
  go_enter Tryd.func19, Tryd.ntmps19
  go_wp2_with fail
  refine (awake6_any _ HT.out).mono ?_
  rintro e w1 ⟨rfl, hb⟩
  have HB := Lib.hid hb
  clear hb
  go_wp2_with fail
  refine (parse_any s _ hs).mono ?_
  rintro e w2 ⟨hb2, hpp⟩
  rw [HP.out] at hpp
  simp only at hpp
  subst hpp
  have HB2 := Lib.hid (HB.out.trans (hb2.mono HB.out.size))
  clear hb2
  go_wp2_with fail
  go_ret
  exact ⟨rfl, HB2.out⟩
set_option maxRecDepth 100000 in
set_option maxHeartbeats 6400000 in
theorem pk_tt (x0 : Int) (s : ByteArray) (x2 x3 : Int) (w : World) (hs : s.size ≤ maxLen) (hT : TabI w) (h : s.size ≤ 200) (q : P5) (hp : parseGo ⟨[], false⟩ (bI s) = some q) (p7 p3 p1 p15 fr : Nat) (h7 : bits .and .i64 x0 7 = (p7 : Int)) (h3 : bits .and .i64 x0 3 = (p3 : Int)) (h1 : bits .and .i64 x2 1 = (p1 : Int)) (h15 : bits .and .i64 (x2 / 2) 15 = (p15 : Int)) (hfr : bits .and .i64 x3 255 = (fr : Int))
    (l3 : p3 < 4) (l15 : p15 < 16) (c7 : p7 < 4) (c1 : p1 = 1) : Calls Tryd.prog 19 #[.int .i64 x0, .string s, .int .i64 x2, .int .i64 x3] w fun e w' => e = .returned (.bool true) ∧ Below w.heap.size w w' := by
  have HT := Lib.hid hT; have HP := Lib.hid hp
  have hsn := parse_sane (bI s) empty_sane hp
  have hq3 := (saneP_iff q).1 hsn
  have hl1 : q.l.length ≤ 1000000 := by have := hq3.1; omega
  have hl2 : ∀ x ∈ q.l, x.length ≤ 1000000 := fun x hx => by have := ((okRow_iff x).1 (hq3.2.2 x hx)).1; omega
  have hlaw := csi_law (bI s) q hp true true (60 + (p3 : Int)) (32 + (p15 : Int)) (64 + (fr : Int) % 63) (by omega) (by omega) (by omega)
  have HLAW := Lib.hid hlaw; have L1 := Lib.hid hl1; have L2 := Lib.hid hl2
  subst c1
  have d7 : decide ((p7 : Int) < 4) = true := by simp; omega
  have HLS : Hid ((bI s).length = s.size) := Lib.hid (bI_len s)
  clear hT hp hsn hq3 hl1 hl2 hlaw
  go_enter Tryd.func19, Tryd.ntmps19
  go_wp2_with fail
  refine (awake6_any _ HT.out).mono ?_
  rintro e w1 ⟨rfl, hb⟩
  have HB := Lib.hid hb
  clear hb
  go_wp2_with fail
  refine (parse_any s _ hs).mono ?_
  rintro e w2 ⟨hb2, hpp⟩
  rw [HP.out] at hpp
  obtain ⟨v2, rfl, hr2⟩ := hpp
  obtain ⟨A2, c2, rfl, hc2⟩ := rdLL_form hr2
  have HB2 := Lib.hid (HB.out.trans (hb2.mono HB.out.size))
  have HR2 := Lib.hid hr2
  clear hb2 hr2
  obtain ⟨ms, hms, hms1, hcm⟩ := one_str w2 (60 + (p3 : Int)) (by omega) (by omega) (w2.heap.size) rfl
  obtain ⟨mo, hmo, hmo1, hco⟩ := one_str (w2.alloc (.cells #[.int .u8 (60 + (p3 : Int))] 5)) (32 + (p15 : Int)) (by omega) (by omega) (w2.heap.size + 1) (by simp)
  obtain ⟨fs, hfs, hfs1, hcf⟩ := one_str ((w2.alloc (.cells #[.int .u8 (60 + (p3 : Int))] 5)).alloc (.cells #[.int .u8 (32 + (p15 : Int))] 5)) (64 + (fr : Int) % 63) (by omega) (by omega) (w2.heap.size + 1 + 1) (by simp)
  have HMS := Lib.hid hms; have HMO := Lib.hid hmo; have HFS := Lib.hid hfs
  clear hms hmo hfs
  have hbf : Below w2.heap.size w2 (((w2.alloc (.cells #[.int .u8 (60 + (p3 : Int))] 5)).alloc (.cells #[.int .u8 (32 + (p15 : Int))] 5)).alloc (.cells #[.int .u8 (64 + (fr : Int) % 63)] 5)) := (((Below.refl _ _).alloc (Nat.le_refl _) _).alloc (by simp) _).alloc (by simp; omega) _
  have HB2f := Lib.hid (HB2.out.trans (hbf.mono HB2.out.size)); have HR2f := Lib.hid (HR2.out.next hbf)
  clear hbf
  have e27 : bI (ByteArray.mk #[27, 91]) = [27, 91] := rfl
  have e00 : bI (ByteArray.mk #[]) = [] := rfl
  have E27 := Lib.hid e27; have E00 := Lib.hid e00
  clear e27 e00
  go_wp2_with fail
  refine (letters_of _ (27 :: 91 :: (optC true (60 + (p3 : Int)) ++ (bI s ++ (optC true (32 + (p15 : Int)) ++ [64 + (fr : Int) % 63])))) ?_ (s.size + 5) ?_ _ ?_).mono ?_
  · simp [bI_app, HMS.out, HMO.out, HFS.out, E27.out, optC]
  · simp [optC, HLS.out]
  · omega
  rintro e w3 ⟨A3, c3, rfl, hr3, hb⟩
  have HB3 := Lib.hid (HB2f.out.trans (hb.mono HB2f.out.size)); have HRV3 := Lib.hid (HR2f.out.next hb); have HR3 := Lib.hid hr3
  clear hb hr3
  go_wp2_with fail
  refine (feed_st (27 :: 91 :: (optC true (60 + (p3 : Int)) ++ (bI s ++ (optC true (32 + (p15 : Int)) ++ [64 + (fr : Int) % 63])))) _ _ (s.size + 5) 1 HLAW.out (by simp [optC, HLS.out]) rfl A3 c3 _ HR3.out (by omega)).mono ?_
  rintro e w4 ⟨a5, inter5, ov5, l5, o5, text5, k5, ib5, tb5, A5, c5, Ac, cA, vs, hs5, rfl, htx, hpz, hown, hb⟩
  simp only [st0, St.mk.injEq] at hs5
  obtain ⟨rfl, rfl, rfl, rfl, rfl, rfl, rfl⟩ := hs5
  obtain ⟨g, ⟨x, ibx, tbx, Ax, cx⟩, rfl, hge, hgl, hx, hvx, htxx, hpx, y0, y1, y2, y3, y4, y5⟩ := own_ax hown 0 (by simp)
  simp only [List.getElem_cons_zero] at hx
  subst hx
  simp only [Nat.zero_mul, Nat.zero_add] at y0 y1 y2 y3 y4 y5
  have hib := htxx.ib
  simp only at hib
  have ei : ibx = ms ++ mo := bI_inj (by rw [hib]; simp [bI_app, HMS.out, HMO.out, optC])
  subst ei
  have hrl := hpx.ok.rd (v := sv0) (RdLL.nil _ _ _)
  simp only at hrl
  have hb4 := HB3.out.trans (hb.mono HB3.out.size)
  have bx : Below w4.heap.size w4 (w4.alloc (.cells #[.int .i64 0, .string ib5, .bool false, .slice A5 0 c5, .bool false, .string tb5, .int .u8 0] 82)) := (Below.refl _ _).alloc (Nat.le_refl _) _
  have HX := Lib.hid (hrl.next bx); have HV := Lib.hid ((HRV3.out.next hb).next bx); have HB4 := Lib.hid (hb4.trans (bx.mono hb4.size))
  have HD : Hid (decide (q.l = q.l) = true) := Lib.hid (by simp)
  clear hib htxx hvx hpx hrl hb4 bx hb hown htx hpz y1 y5
  go_wp2_with fail
  refine (same5_any q.l q.l _ _ _ HX.out HV.out L2.out L1.out).mono ?_
  rintro e _ ⟨rfl, m1, rfl⟩
  simp only [HD.out]
  go_wp2_with fail
  go_ret
  exact ⟨rfl, HB4.out.trans ⟨rfl, rfl, rfl, Nat.le_refl _, fun _ _ => rfl⟩⟩
set_option maxRecDepth 100000 in
set_option maxHeartbeats 6400000 in
theorem pk_tf (x0 : Int) (s : ByteArray) (x2 x3 : Int) (w : World) (hs : s.size ≤ maxLen) (hT : TabI w) (h : s.size ≤ 200) (q : P5) (hp : parseGo ⟨[], false⟩ (bI s) = some q) (p7 p3 p1 p15 fr : Nat) (h7 : bits .and .i64 x0 7 = (p7 : Int)) (h3 : bits .and .i64 x0 3 = (p3 : Int)) (h1 : bits .and .i64 x2 1 = (p1 : Int)) (_h15 : bits .and .i64 (x2 / 2) 15 = (p15 : Int)) (hfr : bits .and .i64 x3 255 = (fr : Int))
    (l3 : p3 < 4) (l15 : p15 < 16) (c7 : p7 < 4) (c1 : p1 = 0) : Calls Tryd.prog 19 #[.int .i64 x0, .string s, .int .i64 x2, .int .i64 x3] w fun e w' => e = .returned (.bool true) ∧ Below w.heap.size w w' := by
  have HT := Lib.hid hT; have HP := Lib.hid hp
  have hsn := parse_sane (bI s) empty_sane hp
  have hq3 := (saneP_iff q).1 hsn
  have hl1 : q.l.length ≤ 1000000 := by have := hq3.1; omega
  have hl2 : ∀ x ∈ q.l, x.length ≤ 1000000 := fun x hx => by have := ((okRow_iff x).1 (hq3.2.2 x hx)).1; omega
  have hlaw := csi_law (bI s) q hp true false (60 + (p3 : Int)) (32 + (p15 : Int)) (64 + (fr : Int) % 63) (by omega) (by omega) (by omega)
  have HLAW := Lib.hid hlaw; have L1 := Lib.hid hl1; have L2 := Lib.hid hl2
  subst c1
  have d7 : decide ((p7 : Int) < 4) = true := by simp; omega
  have HLS : Hid ((bI s).length = s.size) := Lib.hid (bI_len s)
  clear hT hp hsn hq3 hl1 hl2 hlaw
  go_enter Tryd.func19, Tryd.ntmps19
  go_wp2_with fail
  refine (awake6_any _ HT.out).mono ?_
  rintro e w1 ⟨rfl, hb⟩
  have HB := Lib.hid hb
  clear hb
  go_wp2_with fail
  refine (parse_any s _ hs).mono ?_
  rintro e w2 ⟨hb2, hpp⟩
  rw [HP.out] at hpp
  obtain ⟨v2, rfl, hr2⟩ := hpp
  obtain ⟨A2, c2, rfl, hc2⟩ := rdLL_form hr2
  have HB2 := Lib.hid (HB.out.trans (hb2.mono HB.out.size))
  have HR2 := Lib.hid hr2
  clear hb2 hr2
  obtain ⟨ms, hms, hms1, hcm⟩ := one_str w2 (60 + (p3 : Int)) (by omega) (by omega) (w2.heap.size) rfl
  obtain ⟨fs, hfs, hfs1, hcf⟩ := one_str (w2.alloc (.cells #[.int .u8 (60 + (p3 : Int))] 5)) (64 + (fr : Int) % 63) (by omega) (by omega) (w2.heap.size + 1) (by simp)
  have HMS := Lib.hid hms; have HFS := Lib.hid hfs
  clear hms hfs
  have hbf : Below w2.heap.size w2 ((w2.alloc (.cells #[.int .u8 (60 + (p3 : Int))] 5)).alloc (.cells #[.int .u8 (64 + (fr : Int) % 63)] 5)) := ((Below.refl _ _).alloc (Nat.le_refl _) _).alloc (by simp) _
  have HB2f := Lib.hid (HB2.out.trans (hbf.mono HB2.out.size)); have HR2f := Lib.hid (HR2.out.next hbf)
  clear hbf
  have e27 : bI (ByteArray.mk #[27, 91]) = [27, 91] := rfl
  have e00 : bI (ByteArray.mk #[]) = [] := rfl
  have E27 := Lib.hid e27; have E00 := Lib.hid e00
  clear e27 e00
  go_wp2_with fail
  refine (letters_of _ (27 :: 91 :: (optC true (60 + (p3 : Int)) ++ (bI s ++ (optC false (32 + (p15 : Int)) ++ [64 + (fr : Int) % 63])))) ?_ (s.size + 4) ?_ _ ?_).mono ?_
  · simp [bI_app, HMS.out, HFS.out, E27.out, E00.out, optC]
  · simp [optC, HLS.out]
  · omega
  rintro e w3 ⟨A3, c3, rfl, hr3, hb⟩
  have HB3 := Lib.hid (HB2f.out.trans (hb.mono HB2f.out.size)); have HRV3 := Lib.hid (HR2f.out.next hb); have HR3 := Lib.hid hr3
  clear hb hr3
  go_wp2_with fail
  refine (feed_st (27 :: 91 :: (optC true (60 + (p3 : Int)) ++ (bI s ++ (optC false (32 + (p15 : Int)) ++ [64 + (fr : Int) % 63])))) _ _ (s.size + 4) 1 HLAW.out (by simp [optC, HLS.out]) rfl A3 c3 _ HR3.out (by omega)).mono ?_
  rintro e w4 ⟨a5, inter5, ov5, l5, o5, text5, k5, ib5, tb5, A5, c5, Ac, cA, vs, hs5, rfl, htx, hpz, hown, hb⟩
  simp only [st0, St.mk.injEq] at hs5
  obtain ⟨rfl, rfl, rfl, rfl, rfl, rfl, rfl⟩ := hs5
  obtain ⟨g, ⟨x, ibx, tbx, Ax, cx⟩, rfl, hge, hgl, hx, hvx, htxx, hpx, y0, y1, y2, y3, y4, y5⟩ := own_ax hown 0 (by simp)
  simp only [List.getElem_cons_zero] at hx
  subst hx
  simp only [Nat.zero_mul, Nat.zero_add] at y0 y1 y2 y3 y4 y5
  have hib := htxx.ib
  simp only at hib
  have ei : ibx = ms ++ ByteArray.mk #[] := bI_inj (by rw [hib]; simp [bI_app, HMS.out, E00.out, optC])
  subst ei
  have hrl := hpx.ok.rd (v := sv0) (RdLL.nil _ _ _)
  simp only at hrl
  have hb4 := HB3.out.trans (hb.mono HB3.out.size)
  have bx : Below w4.heap.size w4 (w4.alloc (.cells #[.int .i64 0, .string ib5, .bool false, .slice A5 0 c5, .bool false, .string tb5, .int .u8 0] 82)) := (Below.refl _ _).alloc (Nat.le_refl _) _
  have HX := Lib.hid (hrl.next bx); have HV := Lib.hid ((HRV3.out.next hb).next bx); have HB4 := Lib.hid (hb4.trans (bx.mono hb4.size))
  have HD : Hid (decide (q.l = q.l) = true) := Lib.hid (by simp)
  clear hib htxx hvx hpx hrl hb4 bx hb hown htx hpz y1 y5
  go_wp2_with fail
  refine (same5_any q.l q.l _ _ _ HX.out HV.out L2.out L1.out).mono ?_
  rintro e _ ⟨rfl, m1, rfl⟩
  simp only [HD.out]
  go_wp2_with fail
  go_ret
  exact ⟨rfl, HB4.out.trans ⟨rfl, rfl, rfl, Nat.le_refl _, fun _ _ => rfl⟩⟩
set_option maxRecDepth 100000 in
set_option maxHeartbeats 6400000 in
theorem pk_ft (x0 : Int) (s : ByteArray) (x2 x3 : Int) (w : World) (hs : s.size ≤ maxLen) (hT : TabI w) (h : s.size ≤ 200) (q : P5) (hp : parseGo ⟨[], false⟩ (bI s) = some q) (p7 p3 p1 p15 fr : Nat) (h7 : bits .and .i64 x0 7 = (p7 : Int)) (_h3 : bits .and .i64 x0 3 = (p3 : Int)) (h1 : bits .and .i64 x2 1 = (p1 : Int)) (h15 : bits .and .i64 (x2 / 2) 15 = (p15 : Int)) (hfr : bits .and .i64 x3 255 = (fr : Int))
    (l3 : p3 < 4) (l15 : p15 < 16) (c7 : 4 ≤ p7) (c1 : p1 = 1) : Calls Tryd.prog 19 #[.int .i64 x0, .string s, .int .i64 x2, .int .i64 x3] w fun e w' => e = .returned (.bool true) ∧ Below w.heap.size w w' := by
  have HT := Lib.hid hT; have HP := Lib.hid hp
  have hsn := parse_sane (bI s) empty_sane hp
  have hq3 := (saneP_iff q).1 hsn
  have hl1 : q.l.length ≤ 1000000 := by have := hq3.1; omega
  have hl2 : ∀ x ∈ q.l, x.length ≤ 1000000 := fun x hx => by have := ((okRow_iff x).1 (hq3.2.2 x hx)).1; omega
  have hlaw := csi_law (bI s) q hp false true (60 + (p3 : Int)) (32 + (p15 : Int)) (64 + (fr : Int) % 63) (by omega) (by omega) (by omega)
  have HLAW := Lib.hid hlaw; have L1 := Lib.hid hl1; have L2 := Lib.hid hl2
  subst c1
  have d7 : decide ((p7 : Int) < 4) = false := by simp; omega
  have HLS : Hid ((bI s).length = s.size) := Lib.hid (bI_len s)
  clear hT hp hsn hq3 hl1 hl2 hlaw
  go_enter Tryd.func19, Tryd.ntmps19
  go_wp2_with fail
  refine (awake6_any _ HT.out).mono ?_
  rintro e w1 ⟨rfl, hb⟩
  have HB := Lib.hid hb
  clear hb
  go_wp2_with fail
  refine (parse_any s _ hs).mono ?_
  rintro e w2 ⟨hb2, hpp⟩
  rw [HP.out] at hpp
  obtain ⟨v2, rfl, hr2⟩ := hpp
  obtain ⟨A2, c2, rfl, hc2⟩ := rdLL_form hr2
  have HB2 := Lib.hid (HB.out.trans (hb2.mono HB.out.size))
  have HR2 := Lib.hid hr2
  clear hb2 hr2
  obtain ⟨mo, hmo, hmo1, hco⟩ := one_str w2 (32 + (p15 : Int)) (by omega) (by omega) (w2.heap.size) rfl
  obtain ⟨fs, hfs, hfs1, hcf⟩ := one_str (w2.alloc (.cells #[.int .u8 (32 + (p15 : Int))] 5)) (64 + (fr : Int) % 63) (by omega) (by omega) (w2.heap.size + 1) (by simp)
  have HMO := Lib.hid hmo; have HFS := Lib.hid hfs
  clear hmo hfs
  have hbf : Below w2.heap.size w2 ((w2.alloc (.cells #[.int .u8 (32 + (p15 : Int))] 5)).alloc (.cells #[.int .u8 (64 + (fr : Int) % 63)] 5)) := ((Below.refl _ _).alloc (Nat.le_refl _) _).alloc (by simp) _
  have HB2f := Lib.hid (HB2.out.trans (hbf.mono HB2.out.size)); have HR2f := Lib.hid (HR2.out.next hbf)
  clear hbf
  have e27 : bI (ByteArray.mk #[27, 91]) = [27, 91] := rfl
  have e00 : bI (ByteArray.mk #[]) = [] := rfl
  have E27 := Lib.hid e27; have E00 := Lib.hid e00
  clear e27 e00
  go_wp2_with fail
  refine (letters_of _ (27 :: 91 :: (optC false (60 + (p3 : Int)) ++ (bI s ++ (optC true (32 + (p15 : Int)) ++ [64 + (fr : Int) % 63])))) ?_ (s.size + 4) ?_ _ ?_).mono ?_
  · simp [bI_app, HMO.out, HFS.out, E27.out, E00.out, optC]
  · simp [optC, HLS.out]
  · omega
  rintro e w3 ⟨A3, c3, rfl, hr3, hb⟩
  have HB3 := Lib.hid (HB2f.out.trans (hb.mono HB2f.out.size)); have HRV3 := Lib.hid (HR2f.out.next hb); have HR3 := Lib.hid hr3
  clear hb hr3
  go_wp2_with fail
  refine (feed_st (27 :: 91 :: (optC false (60 + (p3 : Int)) ++ (bI s ++ (optC true (32 + (p15 : Int)) ++ [64 + (fr : Int) % 63])))) _ _ (s.size + 4) 1 HLAW.out (by simp [optC, HLS.out]) rfl A3 c3 _ HR3.out (by omega)).mono ?_
  rintro e w4 ⟨a5, inter5, ov5, l5, o5, text5, k5, ib5, tb5, A5, c5, Ac, cA, vs, hs5, rfl, htx, hpz, hown, hb⟩
  simp only [st0, St.mk.injEq] at hs5
  obtain ⟨rfl, rfl, rfl, rfl, rfl, rfl, rfl⟩ := hs5
  obtain ⟨g, ⟨x, ibx, tbx, Ax, cx⟩, rfl, hge, hgl, hx, hvx, htxx, hpx, y0, y1, y2, y3, y4, y5⟩ := own_ax hown 0 (by simp)
  simp only [List.getElem_cons_zero] at hx
  subst hx
  simp only [Nat.zero_mul, Nat.zero_add] at y0 y1 y2 y3 y4 y5
  have hib := htxx.ib
  simp only at hib
  have ei : ibx = ByteArray.mk #[] ++ mo := bI_inj (by rw [hib]; simp [bI_app, HMO.out, E00.out, optC])
  subst ei
  have hrl := hpx.ok.rd (v := sv0) (RdLL.nil _ _ _)
  simp only at hrl
  have hb4 := HB3.out.trans (hb.mono HB3.out.size)
  have bx : Below w4.heap.size w4 (w4.alloc (.cells #[.int .i64 0, .string ib5, .bool false, .slice A5 0 c5, .bool false, .string tb5, .int .u8 0] 82)) := (Below.refl _ _).alloc (Nat.le_refl _) _
  have HX := Lib.hid (hrl.next bx); have HV := Lib.hid ((HRV3.out.next hb).next bx); have HB4 := Lib.hid (hb4.trans (bx.mono hb4.size))
  have HD : Hid (decide (q.l = q.l) = true) := Lib.hid (by simp)
  clear hib htxx hvx hpx hrl hb4 bx hb hown htx hpz y1 y5
  go_wp2_with fail
  refine (same5_any q.l q.l _ _ _ HX.out HV.out L2.out L1.out).mono ?_
  rintro e _ ⟨rfl, m1, rfl⟩
  simp only [HD.out]
  go_wp2_with fail
  go_ret
  exact ⟨rfl, HB4.out.trans ⟨rfl, rfl, rfl, Nat.le_refl _, fun _ _ => rfl⟩⟩
set_option maxRecDepth 100000 in
set_option maxHeartbeats 6400000 in
theorem pk_ff (x0 : Int) (s : ByteArray) (x2 x3 : Int) (w : World) (hs : s.size ≤ maxLen) (hT : TabI w) (h : s.size ≤ 200) (q : P5) (hp : parseGo ⟨[], false⟩ (bI s) = some q) (p7 p3 p1 p15 fr : Nat) (h7 : bits .and .i64 x0 7 = (p7 : Int)) (_h3 : bits .and .i64 x0 3 = (p3 : Int)) (h1 : bits .and .i64 x2 1 = (p1 : Int)) (_h15 : bits .and .i64 (x2 / 2) 15 = (p15 : Int)) (hfr : bits .and .i64 x3 255 = (fr : Int))
    (l3 : p3 < 4) (l15 : p15 < 16) (c7 : 4 ≤ p7) (c1 : p1 = 0) : Calls Tryd.prog 19 #[.int .i64 x0, .string s, .int .i64 x2, .int .i64 x3] w fun e w' => e = .returned (.bool true) ∧ Below w.heap.size w w' := by
  have HT := Lib.hid hT; have HP := Lib.hid hp
  have hsn := parse_sane (bI s) empty_sane hp
  have hq3 := (saneP_iff q).1 hsn
  have hl1 : q.l.length ≤ 1000000 := by have := hq3.1; omega
  have hl2 : ∀ x ∈ q.l, x.length ≤ 1000000 := fun x hx => by have := ((okRow_iff x).1 (hq3.2.2 x hx)).1; omega
  have hlaw := csi_law (bI s) q hp false false (60 + (p3 : Int)) (32 + (p15 : Int)) (64 + (fr : Int) % 63) (by omega) (by omega) (by omega)
  have HLAW := Lib.hid hlaw; have L1 := Lib.hid hl1; have L2 := Lib.hid hl2
  subst c1
  have d7 : decide ((p7 : Int) < 4) = false := by simp; omega
  have HLS : Hid ((bI s).length = s.size) := Lib.hid (bI_len s)
  clear hT hp hsn hq3 hl1 hl2 hlaw
  go_enter Tryd.func19, Tryd.ntmps19
  go_wp2_with fail
  refine (awake6_any _ HT.out).mono ?_
  rintro e w1 ⟨rfl, hb⟩
  have HB := Lib.hid hb
  clear hb
  go_wp2_with fail
  refine (parse_any s _ hs).mono ?_
  rintro e w2 ⟨hb2, hpp⟩
  rw [HP.out] at hpp
  obtain ⟨v2, rfl, hr2⟩ := hpp
  obtain ⟨A2, c2, rfl, hc2⟩ := rdLL_form hr2
  have HB2 := Lib.hid (HB.out.trans (hb2.mono HB.out.size))
  have HR2 := Lib.hid hr2
  clear hb2 hr2
  obtain ⟨fs, hfs, hfs1, hcf⟩ := one_str w2 (64 + (fr : Int) % 63) (by omega) (by omega) (w2.heap.size) rfl
  have HFS := Lib.hid hfs
  clear hfs
  have hbf : Below w2.heap.size w2 (w2.alloc (.cells #[.int .u8 (64 + (fr : Int) % 63)] 5)) := (Below.refl _ _).alloc (Nat.le_refl _) _
  have HB2f := Lib.hid (HB2.out.trans (hbf.mono HB2.out.size)); have HR2f := Lib.hid (HR2.out.next hbf)
  clear hbf
  have e27 : bI (ByteArray.mk #[27, 91]) = [27, 91] := rfl
  have e00 : bI (ByteArray.mk #[]) = [] := rfl
  have E27 := Lib.hid e27; have E00 := Lib.hid e00
  clear e27 e00
  go_wp2_with fail
  refine (letters_of _ (27 :: 91 :: (optC false (60 + (p3 : Int)) ++ (bI s ++ (optC false (32 + (p15 : Int)) ++ [64 + (fr : Int) % 63])))) ?_ (s.size + 3) ?_ _ ?_).mono ?_
  · simp [bI_app, HFS.out, E27.out, E00.out, optC]
  · simp [optC, HLS.out]
  · omega
  rintro e w3 ⟨A3, c3, rfl, hr3, hb⟩
  have HB3 := Lib.hid (HB2f.out.trans (hb.mono HB2f.out.size)); have HRV3 := Lib.hid (HR2f.out.next hb); have HR3 := Lib.hid hr3
  clear hb hr3
  go_wp2_with fail
  refine (feed_st (27 :: 91 :: (optC false (60 + (p3 : Int)) ++ (bI s ++ (optC false (32 + (p15 : Int)) ++ [64 + (fr : Int) % 63])))) _ _ (s.size + 3) 1 HLAW.out (by simp [optC, HLS.out]) rfl A3 c3 _ HR3.out (by omega)).mono ?_
  rintro e w4 ⟨a5, inter5, ov5, l5, o5, text5, k5, ib5, tb5, A5, c5, Ac, cA, vs, hs5, rfl, htx, hpz, hown, hb⟩
  simp only [st0, St.mk.injEq] at hs5
  obtain ⟨rfl, rfl, rfl, rfl, rfl, rfl, rfl⟩ := hs5
  obtain ⟨g, ⟨x, ibx, tbx, Ax, cx⟩, rfl, hge, hgl, hx, hvx, htxx, hpx, y0, y1, y2, y3, y4, y5⟩ := own_ax hown 0 (by simp)
  simp only [List.getElem_cons_zero] at hx
  subst hx
  simp only [Nat.zero_mul, Nat.zero_add] at y0 y1 y2 y3 y4 y5
  have hib := htxx.ib
  simp only at hib
  have ei : ibx = ByteArray.mk #[] ++ ByteArray.mk #[] := bI_inj (by rw [hib]; simp [bI_app, E00.out, optC])
  subst ei
  have hrl := hpx.ok.rd (v := sv0) (RdLL.nil _ _ _)
  simp only at hrl
  have hb4 := HB3.out.trans (hb.mono HB3.out.size)
  have bx : Below w4.heap.size w4 (w4.alloc (.cells #[.int .i64 0, .string ib5, .bool false, .slice A5 0 c5, .bool false, .string tb5, .int .u8 0] 82)) := (Below.refl _ _).alloc (Nat.le_refl _) _
  have HX := Lib.hid (hrl.next bx); have HV := Lib.hid ((HRV3.out.next hb).next bx); have HB4 := Lib.hid (hb4.trans (bx.mono hb4.size))
  have HD : Hid (decide (q.l = q.l) = true) := Lib.hid (by simp)
  clear hib htxx hvx hpx hrl hb4 bx hb hown htx hpz y1 y5
  go_wp2_with fail
  refine (same5_any q.l q.l _ _ _ HX.out HV.out L2.out L1.out).mono ?_
  rintro e _ ⟨rfl, m1, rfl⟩
  simp only [HD.out]
  go_wp2_with fail
  go_ret
  exact ⟨rfl, HB4.out.trans ⟨rfl, rfl, rfl, Nat.le_refl _, fun _ _ => rfl⟩⟩
theorem pcsi_walk (x0 : Int) (s : ByteArray) (x2 x3 : Int) (w : World) (hs : s.size ≤ maxLen) (hT : TabI w) : Calls Tryd.prog 19 #[.int .i64 x0, .string s, .int .i64 x2, .int .i64 x3] w fun e w' => e = .returned (.bool true) ∧ Below w.heap.size w w' := by
  by_cases h : 200 < s.size
  · exact pk_big x0 s x2 x3 w hs hT h
  cases hp : parseGo ⟨[], false⟩ (bI s) with
  | none => exact pk_none x0 s x2 x3 w hs hT (by omega) hp
  | some q =>
    obtain ⟨p7, h7, _⟩ := and_of x0 3 (by omega) 7 (by decide)
    obtain ⟨p3, h3, l3⟩ := and_of x0 2 (by omega) 3 (by decide)
    obtain ⟨p1, h1, l1⟩ := and_of x2 1 (by omega) 1 (by decide)
    obtain ⟨p15, h15, l15⟩ := and_of (x2 / 2) 4 (by omega) 15 (by decide)
    obtain ⟨fr, hfr, _⟩ := and_of x3 8 (by omega) 255 (by decide)
    have l1' : p1 = 0 ∨ p1 = 1 := by simp at l1; omega
    by_cases c7 : p7 < 4
    · rcases l1' with c1 | c1
      · exact pk_tf x0 s x2 x3 w hs hT (by omega) q hp p7 p3 p1 p15 fr h7 h3 h1 h15 hfr l3 l15 c7 c1
      · exact pk_tt x0 s x2 x3 w hs hT (by omega) q hp p7 p3 p1 p15 fr h7 h3 h1 h15 hfr l3 l15 c7 c1
    · rcases l1' with c1 | c1
      · exact pk_ff x0 s x2 x3 w hs hT (by omega) q hp p7 p3 p1 p15 fr h7 h3 h1 h15 hfr l3 l15 (by omega) c1
      · exact pk_ft x0 s x2 x3 w hs hT (by omega) q hp p7 p3 p1 p15 fr h7 h3 h1 h15 hfr l3 l15 (by omega) c1
end Go.Proofs.YtcempbgbdlmjfaaDoor
