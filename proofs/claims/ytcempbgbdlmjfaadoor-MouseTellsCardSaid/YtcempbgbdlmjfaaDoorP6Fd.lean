/-
  parse: the walk of Feed.
-/
import Derived.Test.YtcempbgbdlmjfaaDoorP6Sp3
namespace Go.Proofs.YtcempbgbdlmjfaaDoor
open Go.RowKit

theorem feedGo_take (s : St) (l : List Int) (k : Nat) (h : k < l.length) : feedGo s (l.take (k + 1)) = ((stepS (feedGo s (l.take k)).1 l[k]).1, (feedGo s (l.take k)).2 ++ (stepS (feedGo s (l.take k)).1 l[k]).2) := by
  rw [List.take_succ_eq_append_getElem h, feedGo_app]
  simp [feedGo]
theorem feedGo_len (l : List Int) : ∀ s : St, saneS s = true → (feedGo s l).2.length ≤ 2 * l.length := by
  induction l with
  | nil => intro s _; simp [feedGo]
  | cons r rs ih =>
    intro s hs
    have h1 := (step_few s r hs).1.len
    have h2 := ih (stepS s r).1 (stepS_sane s r)
    simp only [feedGo, List.length_append, List.length_cons]
    omega
/-- what Feed hands back -/
def FdRet (v : Sv) (w : World) (s' : St) (L : List Ax) (e : Ending) (w' : World) : Prop := ∃ (v' : Sv) (A : Option Addr) (c : Nat) (vs : List Av), v'.s = s' ∧ e = .returned (.tuple #[v'.val, .slice A L.length c]) ∧ v'.Tx ∧
  ParZ v w.heap.size w' (.slice A L.length c) v'.A v'.c v'.s.l ∧ Owned v w.heap.size w' A c L vs ∧ Below w.heap.size w w'
theorem FdRet.open {v : Sv} {w : World} {s' : St} {L : List Ax} {e : Ending} {w' : World} (h : FdRet v w s' L e w') : ∃ (a1 : Int) (inter1 : List Int) (ov1 : Bool) (l1 : List (List Int)) (o1 : Bool) (text1 : List Int) (k1 : Int) (ib1 tb1 : ByteArray) (A1 : Option Addr) (c1 : Nat) (Ac : Option Addr) (cA : Nat) (vs : List Av), ⟨a1, inter1, ov1, l1, o1, text1, k1⟩ = s' ∧ e = .returned (.tuple #[.agg #[.int .i64 a1, .string ib1, .bool ov1, .slice A1 l1.length c1, .bool o1, .string tb1, .int .u8 k1], .slice Ac L.length cA]) ∧ Sv.Tx ⟨⟨a1, inter1, ov1, l1, o1, text1, k1⟩, ib1, tb1, A1, c1⟩ ∧
    ParZ v w.heap.size w' (.slice Ac L.length cA) A1 c1 l1 ∧ Owned v w.heap.size w' Ac cA L vs ∧ Below w.heap.size w w' := by
  obtain ⟨⟨⟨a1, inter1, ov1, l1, o1, text1, k1⟩, ib1, tb1, A1, c1⟩, Ac, cA, vs, h1, h2, h3, h4, h5, h6⟩ := h
  exact ⟨a1, inter1, ov1, l1, o1, text1, k1, ib1, tb1, A1, c1, Ac, cA, vs, h1, h2, h3, h4, h5, h6⟩
/-- what stands behind k letters -/
structure FdIn (v : Sv) (w wr : World) (vr : Sv) (A : Option Addr) (c : Nat) (L : List Ax) (vs : List Av) : Prop where
  sat : SAt wr w.heap.size vr
  res : SAt wr (w.heap.size + 1) sv0
  tx : vr.Tx
  par : ParZ v (w.heap.size + 2) wr (.slice A L.length c) vr.A vr.c vr.s.l
  own : Owned v (w.heap.size + 2) wr A c L vs
  below : Below w.heap.size w wr
/-- .. and one letter more: the state is stored, the actions are appended -/
theorem FdIn.next {v : Sv} {w wr w2 w3 : World} {vr v2 : Sv} {A A2 A3 : Option Addr} {c c3 n : Nat} {L L2 : List Ax} {vs vs2 : List Av} (h : FdIn v w wr vr A c L vs)
    (htx : v2.Tx) (hpar : ParOk vr wr.heap.size w2 v2.A v2.c v2.s.l) (hacts : Acts vr wr.heap.size w2 A2 L2 vs2) (hb : Below wr.heap.size wr w2) (hn : n = L.length + L2.length)
    (hown : w3.ownsRow (w.heap.size + 2) 96 6 (.slice A3 n c3) n (avC vs ++ avC vs2)) (hg : (World.put7 w2 w.heap.size v2).grownBy w3 (Value.slice A L.length c).ownBlock)
    (hl : ∀ g, (Value.slice A3 n c3).ownBlock = some g → (Value.slice A L.length c).ownBlock = some g ∨ (World.put7 w2 w.heap.size v2).heap.size ≤ g) : FdIn v w w3 v2 A3 c3 (L ++ L2) (vs ++ vs2) := by
  have hz : w.heap.size + 1 < wr.heap.size := bk_lt h.res
  have hrow : ∀ g, (Value.slice A L.length c).ownBlock = some g → w.heap.size + 2 ≤ g ∧ g < wr.heap.size := fun g hg => ⟨own_ge h.own.own g hg, own_lt h.own.own g hg⟩
  have hz2 : (World.put7 w2 w.heap.size v2).heap.size = w2.heap.size := put7_size _ _ _
  have o2 := h.own.next hb
  have o7 := o2.put7 w.heap.size (by omega) v2
  have e : (L ++ L2).length = L.length + L2.length := List.length_append
  have hpz : ParZ v (w.heap.size + 2) (World.put7 w2 w.heap.size v2) (.slice A L.length c) v2.A v2.c v2.s.l := (ParZ.new hpar h.par hb (by omega) fun g hg => (hrow g hg).2).put7 w.heap.size (by omega) v2
  refine ⟨?_, ?_, htx, ?_, ?_, ?_⟩
  · exact bk_grown ((h.sat.past hb).put v2) hg fun e => by have := (hrow _ e).1; omega
  · exact bk_grown (sat_put7_far (h.res.past hb) (by omega) v2) hg fun e => by have := (hrow _ e).1; omega
  · rw [e, ← hn]; exact hpz.grow hg hl
  · exact o7.cat hacts.map (fun x hx => ⟨(hacts.ok x hx).1, (ParZ.new (hacts.ok x hx).2 h.par hb (by omega) fun g hg => (hrow g hg).2).put7 w.heap.size (by omega) v2⟩) hn hown hg hl
  · exact (below_put7 (h.below.trans (hb.mono (by omega))) (Nat.le_refl _) v2).trans (below_of_grown hg (by rw [hz2]; have := hb.size; omega) fun g hg => by have := (hrow g hg).1; omega)
set_option maxRecDepth 100000 in
set_option maxHeartbeats 3200000 in
theorem feed_any (v : Sv) (ls : List Int) (Al : Option Addr) (cl : Nat) (w : World) (hv : v.Ok w) (hr : Rd w w.heap.size Al (nC ls)) (hlen : ls.length ≤ 100000) (hs : saneS v.s = true) : Calls Tryd.prog 52 #[v.val, .slice Al ls.length cl] w (FdRet v w (feedGo v.s ls).1 (feedGo v.s ls).2) := by
  obtain ⟨n1, n2⟩ := s_two w v sv0
  have hl := (saneS_iff v.s).1 hs
  have hi := hl.2.1
  have ht := hl.2.2.1
  clear hl
  obtain ⟨⟨a0, inter, over, l, o, text, kind⟩, ib, tb, A, cc⟩ := v
  simp only at hi ht
  have N1 := Lib.hid n1; have N2 := Lib.hid n2; have HV := Lib.hid hv; have HR := Lib.hid hr
  have HOK : Hid (Sv.Ok ⟨⟨a0, inter, over, l, o, text, kind⟩, ib, tb, A, cc⟩ ((w.alloc (.cells #[.int .i64 a0, .string ib, .bool over, .slice A l.length cc, .bool o, .string tb, .int .u8 kind] 82)).alloc (.cells #[.int .i64 0, .string ⟨#[]⟩, .bool false, .slice none 0 0, .bool false, .string ⟨#[]⟩, .int .u8 0] 82))) := Lib.hid (hv.next (((Below.refl _ _).alloc (Nat.le_refl _) _).alloc (by simp) _))
  have HSN := Lib.hid hs
  clear n1 n2 hv hs hr
  show Calls Tryd.prog 52 #[.agg #[.int .i64 a0, .string ib, .bool over, .slice A l.length cc, .bool o, .string tb, .int .u8 kind], .slice Al ls.length cl] w _
  go_enter Tryd.func52, Tryd.ntmps52
  go_wp2_with fail
  refine (sane6_any ⟨⟨a0, inter, over, l, o, text, kind⟩, ib, tb, A, cc⟩ _ HOK.out (by simp only; omega) (by simp only; omega)).mono ?_
  rintro e w1 ⟨rfl, hb⟩
  simp only [HSN.out]
  have hb' : Below w.heap.size w w1 := (((Below.refl _ _).alloc (Nat.le_refl _) _).alloc (by simp) _).trans (hb.mono (by simp; omega))
  have HB1 := Lib.hid hb'
  have HIN : Hid (FdIn ⟨⟨a0, inter, over, l, o, text, kind⟩, ib, tb, A, cc⟩ w w1 ⟨⟨a0, inter, over, l, o, text, kind⟩, ib, tb, A, cc⟩ none 0 [] []) := Lib.hid ⟨N1.out.past hb, N2.out.past hb, HV.out.tx, ParZ.same ⟨⟨a0, inter, over, l, o, text, kind⟩, ib, tb, A, cc⟩ _ _ _, Owned.nil _ _ _, hb'⟩
  clear hb hb' N1 N2 HOK
  go_wp2_with fail
  go_loopw [6, 16] (fun all i wr => ∃ (k : Nat) (vr : Sv) (Ac : Option Addr) (cA : Nat) (vs : List Av) (n : Nat), k ≤ ls.length ∧ i = .int .i64 k ∧ n = (feedGo ⟨a0, inter, over, l, o, text, kind⟩ (ls.take k)).2.length ∧ all = .slice Ac n cA ∧ vr.s = (feedGo ⟨a0, inter, over, l, o, text, kind⟩ (ls.take k)).1 ∧ FdIn ⟨⟨a0, inter, over, l, o, text, kind⟩, ib, tb, A, cc⟩ w wr vr Ac cA (feedGo ⟨a0, inter, over, l, o, text, kind⟩ (ls.take k)).2 vs) (fun _ i _ => ls.length - (intOf i).toNat)
  case atStart => exact ⟨0, ⟨⟨a0, inter, over, l, o, text, kind⟩, ib, tb, A, cc⟩, none, 0, [], 0, Nat.zero_le _, rfl, rfl, rfl, rfl, HIN.out⟩
  case round =>
    obtain ⟨k, vr, Ac, cA, vs, n, hk, rfl, hn, rfl, hvr, hin⟩ := hrel
    have hsr : saneS vr.s = true := by rw [hvr]; exact feedGo_sane _ _ HSN.out
    have hlr := feedGo_len (ls.take k) ⟨a0, inter, over, l, o, text, kind⟩ HSN.out
    rw [List.length_take, ← hn] at hlr
    obtain ⟨⟨a1, inter1, ov1, l1, o1, text1, k1⟩, ib1, tb1, A1, c1⟩ := vr
    have hok : Sv.Ok ⟨⟨a1, inter1, ov1, l1, o1, text1, k1⟩, ib1, tb1, A1, c1⟩ wr := ⟨hin.tx, hin.par.ok.rd (v := ⟨⟨a0, inter, over, l, o, text, kind⟩, ib, tb, A, cc⟩) (HV.out.rd.next hin.below)⟩
    have IN := Lib.hid hin; have HN := Lib.hid hn; have HVR := Lib.hid hvr; have OK := Lib.hid hok; have SR := Lib.hid hsr
    obtain ⟨e0, e1, e2, e3, e4, e5, e6, g0, g1, g2, g3, g4, g5, g6⟩ := hin.sat.cells
    simp only at e0 e1 e2 e3 e4 e5 e6
    have hz : w.heap.size + 1 < wr.heap.size := bk_lt hin.res
    have hbw := hin.below
    by_cases hlt : k < ls.length
    · obtain ⟨b, off, hA, hbB, hc⟩ := HR.out (by rw [nC_len]; omega)
      subst hA
      have hcx := past_B hbw (p := ⟨b, off + k, none⟩) hbB (hc k (by rw [nC_len]; omega))
      obtain ⟨x, hx⟩ : ∃ x, ls[k] = x := ⟨_, rfl⟩
      have hxx : (nC ls)[k]'(by rw [nC_len]; omega) = .int .i64 x := by rw [← hx]; simp [nC]
      rw [hxx] at hcx
      have i0 : (0 : Int) ≤ (k : Int) := by omega
      have i1 : (k : Int) < (ls.length : Int) := by omega
      have HX := Lib.hid hx
      clear hin hn hvr hok hsr hc hx hxx hbw
      go_wp2_with fail
      refine (step_any ⟨⟨a1, inter1, ov1, l1, o1, text1, k1⟩, ib1, tb1, A1, c1⟩ x _ OK.out (by have := ((saneS_iff _).1 SR.out).2.1; simp only at this ⊢; omega) (by have := ((saneS_iff _).1 SR.out).2.2.1; simp only at this ⊢; omega)).mono ?_
      intro e w2 hret
      have hl2 := (step_few _ x SR.out).1.len
      obtain ⟨m, hm⟩ : ∃ m, (stepS ⟨a1, inter1, ov1, l1, o1, text1, k1⟩ x).2.length = m := ⟨_, rfl⟩
      obtain ⟨a2, inter2, ov2, l2, o2, text2, k2, ib2, tb2, A2, c2, A', c', vs2, he2, rfl, htx2, hpar2, hacts2, hca2, hb2⟩ := hret.open
      clear hret
      rw [hm] at hl2 hca2
      simp only [hm]
      have HM := Lib.hid hm
      have hsp := (IN.out.sat.past hb2)
      have P2 := Lib.hid hpar2; have AC2 := Lib.hid hacts2; have B2 := Lib.hid hb2; have TX2 := Lib.hid htx2; have HE2 := Lib.hid he2
      clear e0 e1 e2 e3 e4 e5 e6 g0 g1 g2 g3 g4 g5 g6 hm
      obtain ⟨q0, q1, q2, q3, q4, q5, q6, g0, g1, g2, g3, g4, g5, g6⟩ := hsp.cells
      simp only at q0 q1 q2 q3 q4 q5 q6
      clear hsp hpar2 hacts2 hb2 htx2 he2
      have ho2 : Hid (World.ownsRow (((((((w2.setCell ⟨w.heap.size, 0, none⟩ (.int .i64 a2)).setCell ⟨w.heap.size, 1, none⟩ (.string ib2)).setCell ⟨w.heap.size, 2, none⟩ (.bool ov2)).setCell ⟨w.heap.size, 3, none⟩ (.slice A2 l2.length c2)).setCell ⟨w.heap.size, 4, none⟩ (.bool o2)).setCell ⟨w.heap.size, 5, none⟩ (.string tb2)).setCell ⟨w.heap.size, 6, none⟩ (.int .u8 k2)) (w.heap.size + 2) 96 6 (.slice Ac n cA) n (avC vs)) := Lib.hid (by
        have := ((IN.out.own.next B2.out).put7 w.heap.size (by omega) ⟨⟨a2, inter2, ov2, l2, o2, text2, k2⟩, ib2, tb2, A2, c2⟩).own
        rw [← HN.out] at this
        exact this)
      have hrd2 : Hid (Rd (((((((w2.setCell ⟨w.heap.size, 0, none⟩ (.int .i64 a2)).setCell ⟨w.heap.size, 1, none⟩ (.string ib2)).setCell ⟨w.heap.size, 2, none⟩ (.bool ov2)).setCell ⟨w.heap.size, 3, none⟩ (.slice A2 l2.length c2)).setCell ⟨w.heap.size, 4, none⟩ (.bool o2)).setCell ⟨w.heap.size, 5, none⟩ (.string tb2)).setCell ⟨w.heap.size, 6, none⟩ (.int .u8 k2)) (((((((w2.setCell ⟨w.heap.size, 0, none⟩ (.int .i64 a2)).setCell ⟨w.heap.size, 1, none⟩ (.string ib2)).setCell ⟨w.heap.size, 2, none⟩ (.bool ov2)).setCell ⟨w.heap.size, 3, none⟩ (.slice A2 l2.length c2)).setCell ⟨w.heap.size, 4, none⟩ (.bool o2)).setCell ⟨w.heap.size, 5, none⟩ (.string tb2)).setCell ⟨w.heap.size, 6, none⟩ (.int .u8 k2)).heap.size A' (avC vs2)) := Lib.hid ((AC2.out.put7 w.heap.size (by omega) ⟨⟨a2, inter2, ov2, l2, o2, text2, k2⟩, ib2, tb2, A2, c2⟩).rd)
      have hvl : vs2.length = m := by rw [AC2.out.len, HM.out]
      have hsz : w.heap.size + 2 ≤ (((((((w2.setCell ⟨w.heap.size, 0, none⟩ (.int .i64 a2)).setCell ⟨w.heap.size, 1, none⟩ (.string ib2)).setCell ⟨w.heap.size, 2, none⟩ (.bool ov2)).setCell ⟨w.heap.size, 3, none⟩ (.slice A2 l2.length c2)).setCell ⟨w.heap.size, 4, none⟩ (.bool o2)).setCell ⟨w.heap.size, 5, none⟩ (.string tb2)).setCell ⟨w.heap.size, 6, none⟩ (.int .u8 k2)).heap.size := by simp [World.setCell]; have := B2.out.size; omega
      go_wp2_with (at_builtin; go_loud (refine wpList_cat (by rfl) (.tmp 26) (.tmp 27) 83 el_act (by rfl) (w.heap.size + 2) _ n (avC vs) (by rfl) ho2.out (((((((w2.setCell ⟨w.heap.size, 0, none⟩ (.int .i64 a2)).setCell ⟨w.heap.size, 1, none⟩ (.string ib2)).setCell ⟨w.heap.size, 2, none⟩ (.bool ov2)).setCell ⟨w.heap.size, 3, none⟩ (.slice A2 l2.length c2)).setCell ⟨w.heap.size, 4, none⟩ (.bool o2)).setCell ⟨w.heap.size, 5, none⟩ (.string tb2)).setCell ⟨w.heap.size, 6, none⟩ (.int .u8 k2)).heap.size A' m c' (avC vs2) (by rfl) hrd2.out (by rw [avC_len, hvl]) (avC_one _) (by unfold maxLen; omega) (by omega) hsz ?_); intro A3 c3 w3 ho3 hg3 hl3; refine Hid.out ?_)
      have hnx := IN.out.next (v2 := ⟨⟨a2, inter2, ov2, l2, o2, text2, k2⟩, ib2, tb2, A2, c2⟩) (L2 := (stepS ⟨a1, inter1, ov1, l1, o1, text1, k1⟩ x).2) TX2.out P2.out AC2.out B2.out (n := n + m) (by rw [← HN.out, HM.out]) ho3 (by rw [← HN.out]; exact hg3) (by rw [← HN.out]; exact hl3)
      have hft := feedGo_take ⟨a0, inter, over, l, o, text, kind⟩ ls k hlt
      rw [HX.out, ← HVR.out] at hft
      have hn3 : n + m = (feedGo ⟨a0, inter, over, l, o, text, kind⟩ (ls.take (k + 1))).2.length := by rw [hft, List.length_append, HM.out, ← HN.out]
      refine Lib.hid ?_
      clear ho3 hg3 hl3 hvl hsz
      go_wp2_with fail
      go_roundw
      case rel =>
        refine ⟨k + 1, ⟨⟨a2, inter2, ov2, l2, o2, text2, k2⟩, ib2, tb2, A2, c2⟩, A3, c3, vs ++ vs2, n + m, by omega, by go_num, hn3, rfl, ?_, ?_⟩
        · rw [hft]; exact HE2.out
        · rw [hft]; exact hnx
      case measure => simp [intOf]; omega
    · obtain rfl : k = ls.length := by omega
      obtain ⟨q0, q1, q2, q3, q4, q5, q6, j0, j1, j2, j3, j4, j5, j6⟩ := hin.res.cells
      simp only [sv0, st0] at q0 q1 q2 q3 q4 q5 q6
      rw [List.take_length] at hn hvr hin
      have IN2 := Lib.hid hin; have HN2 := Lib.hid hn; have HVR2 := Lib.hid hvr
      clear hin hn hvr hok hsr hbw IN HN HVR
      go_wp2_with fail
      have hp7 := IN2.out.res.put ⟨⟨a1, inter1, ov1, l1, o1, text1, k1⟩, ib1, tb1, A1, c1⟩
      have hb7 := below_put7 IN2.out.below (show w.heap.size ≤ w.heap.size + 1 by omega) ⟨⟨a1, inter1, ov1, l1, o1, text1, k1⟩, ib1, tb1, A1, c1⟩
      have ho7 := (IN2.out.own.put7 (w.heap.size + 1) (by omega) ⟨⟨a1, inter1, ov1, l1, o1, text1, k1⟩, ib1, tb1, A1, c1⟩).less (show w.heap.size ≤ _ by omega)
      have hz7 := (IN2.out.par.put7 (w.heap.size + 1) (by omega) ⟨⟨a1, inter1, ov1, l1, o1, text1, k1⟩, ib1, tb1, A1, c1⟩).less (show w.heap.size ≤ _ by omega)
      simp only [World.put7] at hp7 hb7 ho7 hz7
      generalize (((((((wr.setCell ⟨w.heap.size + 1, 0, none⟩ (.int .i64 a1)).setCell ⟨w.heap.size + 1, 1, none⟩ (.string ib1)).setCell ⟨w.heap.size + 1, 2, none⟩ (.bool ov1)).setCell ⟨w.heap.size + 1, 3, none⟩ (.slice A1 l1.length c1)).setCell ⟨w.heap.size + 1, 4, none⟩ (.bool o1)).setCell ⟨w.heap.size + 1, 5, none⟩ (.string tb1)).setCell ⟨w.heap.size + 1, 6, none⟩ (.int .u8 k1)) = W7 at hp7 hb7 ho7 hz7 ⊢
      obtain ⟨d0, d1, d2, d3, d4, d5, d6, _⟩ := hp7.cells
      simp only at d0 d1 d2 d3 d4 d5 d6
      refine bodyPost_ret (v := .tuple #[.agg #[.int .i64 a1, .string ib1, .bool ov1, .slice A1 l1.length c1, .bool o1, .string tb1, .int .u8 k1], .slice Ac n cA]) (by simp [results, Tryd.results52, go_sem, d0, d1, d2, d3, d4, d5, d6]) rfl ?_
      refine ⟨⟨⟨a1, inter1, ov1, l1, o1, text1, k1⟩, ib1, tb1, A1, c1⟩, Ac, cA, vs, HVR2.out, ?_, IN2.out.tx, hz7, ho7, hb7⟩
      rw [HN2.out]
      rfl
end Go.Proofs.YtcempbgbdlmjfaaDoor
