/-
  parse: the laws' awake; words for what Feed hands back.
-/
import Derived.Test.YtcempbgbdlmjfaaDoorP6Sm
namespace Go.Proofs.YtcempbgbdlmjfaaDoor
open Go.RowKit

theorem letters_of (s : ByteArray) (l : List Int) (h : bI s = l) (n : Nat) (hn : l.length = n) (w : World) (hs : n ≤ 100000) : Calls Tryd.prog 59 #[.string s] w fun e w' => ∃ A c, e = .returned (.slice A n c) ∧ Rd w' w'.heap.size A (nC l) ∧ Below w.heap.size w w' := by
  subst h; subst hn
  refine (letters_any s w (by rw [← bI_len]; exact hs)).mono fun e w' hh => ?_
  obtain ⟨A, c, h1, h2, h3⟩ := hh
  exact ⟨A, c, h1, own_nC h2, h3⟩
/-- Feed, from the beginning: by its answer -/
theorem feed_st (ls : List Int) (s' : St) (L : List Ax) (n m : Nat) (h : feedS st0 ls = (s', L)) (hn : ls.length = n) (hm : L.length = m) (Al : Option Addr) (cl : Nat) (w : World) (hr : Rd w w.heap.size Al (nC ls)) (hlen : n ≤ 100000) :
    Calls Tryd.prog 52 #[.agg #[.int .i64 0, .string ⟨#[]⟩, .bool false, .slice none 0 0, .bool false, .string ⟨#[]⟩, .int .u8 0], .slice Al n cl] w fun e w' => ∃ (a1 : Int) (inter1 : List Int) (ov1 : Bool) (l1 : List (List Int)) (o1 : Bool) (text1 : List Int) (k1 : Int) (ib1 tb1 : ByteArray) (A1 : Option Addr) (c1 : Nat) (Ac : Option Addr) (cA : Nat) (vs : List Av), ⟨a1, inter1, ov1, l1, o1, text1, k1⟩ = s' ∧ e = .returned (.tuple #[.agg #[.int .i64 a1, .string ib1, .bool ov1, .slice A1 l1.length c1, .bool o1, .string tb1, .int .u8 k1], .slice Ac m cA]) ∧ Sv.Tx ⟨⟨a1, inter1, ov1, l1, o1, text1, k1⟩, ib1, tb1, A1, c1⟩ ∧
      ParZ sv0 w.heap.size w' (.slice Ac m cA) A1 c1 l1 ∧ Owned sv0 w.heap.size w' Ac cA L vs ∧ Below w.heap.size w w' := by
  subst hn; subst hm
  rw [feedS_sane st0_sane] at h
  refine (feed_any sv0 ls Al cl w (sv0_ok w) hr hlen st0_sane).mono fun e w' hh => ?_
  obtain ⟨a1, inter1, ov1, l1, o1, text1, k1, ib1, tb1, A1, c1, Ac, cA, vs, h1, h2, h3, h4, h5, h6⟩ := hh.open
  have e1 : feedGo sv0.s ls = (s', L) := h
  rw [e1] at h1 h2 h4 h5
  exact ⟨a1, inter1, ov1, l1, o1, text1, k1, ib1, tb1, A1, c1, Ac, cA, vs, h1, h2, h3, h4, h5, h6⟩
/-- the cells of an action of a row, by its number -/
theorem own_ax {v : Sv} {hi : Nat} {w : World} {A : Option Addr} {c : Nat} {L : List Ax} {vs : List Av} (h : Owned v hi w A c L vs) (k : Nat) (hk : k < L.length) : ∃ (g : Nat) (x : Av), A = some ⟨g, 0, none⟩ ∧ hi ≤ g ∧ g < w.heap.size ∧ x.x = L[k] ∧ vs[k]? = some x ∧ x.Tx ∧ ParZ v hi w (.slice A L.length c) x.A x.c x.x.par ∧
    w.cell? ⟨g, k * 6, none⟩ = some (.int .i64 x.x.what) ∧ w.cell? ⟨g, k * 6 + 1, none⟩ = some (.int .i64 x.x.r) ∧ w.cell? ⟨g, k * 6 + 2, none⟩ = some (.int .u8 x.x.fin) ∧
    w.cell? ⟨g, k * 6 + 3, none⟩ = some (.string x.ib) ∧ w.cell? ⟨g, k * 6 + 4, none⟩ = some (.slice x.A x.x.par.length x.c) ∧ w.cell? ⟨g, k * 6 + 5, none⟩ = some (.string x.tb) := by
  have hl : vs.length = L.length := by rw [← h.map, List.length_map]
  have hkv : k < vs.length := by omega
  obtain ⟨b, off, hA, hb, x0, x1, x2, x3, x4, x5⟩ := av_at (Rd.of_own h.own) k hkv
  have hg : ∃ g, A = some ⟨g, 0, none⟩ ∧ hi ≤ g := by
    rcases h.own.2 with ⟨hv, h0⟩ | ⟨g, cap, cur, hv, hbg, _⟩
    · omega
    · injection hv with q1 q2 q3
      exact ⟨g, q1, hbg⟩
  obtain ⟨g, hA', hge⟩ := hg
  subst hA'
  injection hA with hA
  injection hA with q1 q2
  subst q1; subst q2
  have ex : vs[k].x = L[k] := by
    have := congrArg (fun l => l[k]?) h.map
    simp only [List.getElem?_map, List.getElem?_eq_getElem hkv, List.getElem?_eq_getElem hk, Option.map_some, Option.some.injEq] at this
    exact this
  obtain ⟨tx, px⟩ := h.ok vs[k] (List.getElem_mem hkv)
  simp only [Nat.zero_add] at x0 x1 x2 x3 x4 x5
  exact ⟨g, vs[k], rfl, hge, hb, ex, List.getElem?_eq_getElem hkv, tx, px, x0, x1, x2, x3, x4, x5⟩
theorem feed_aw : feedS st0 [27, 91, 49, 59, 51, 49, 109] = (st0, [⟨4, 0, 109, [], [[1], [31]], []⟩]) := by rfl
theorem print_aw : (⟨(printS [[1], [31]]).toArray⟩ : ByteArray) = ⟨#[49, 59, 51, 49]⟩ := by kernel_rfl
set_option maxRecDepth 100000 in
set_option maxHeartbeats 3200000 in
theorem awake6_any (w : World) (hT : TabI w) : Calls Tryd.prog 51 #[] w fun e w' => e = .returned (.bool true) ∧ Below w.heap.size w w' := by
  have HT := Lib.hid hT
  clear hT
  go_enter Tryd.func51, Tryd.ntmps51
  go_wp2_with fail
  refine (letters_of _ [27, 91, 49, 59, 51, 49, 109] rfl 7 rfl _ (by omega)).mono ?_
  rintro e w1 ⟨A1, c1, rfl, hr1, hb1⟩
  have HB1 := Lib.hid hb1; have HR1 := Lib.hid hr1; have HT1 := Lib.hid (HT.out.below hb1)
  clear hb1 hr1
  go_wp2_with fail
  refine (feed_st [27, 91, 49, 59, 51, 49, 109] _ _ 7 1 feed_aw rfl rfl A1 c1 _ HR1.out (by omega)).mono ?_
  rintro e w2 ⟨a2, inter2, ov2, l2, o2, text2, k2, ib2, tb2, A2, c2, Ac, cA, vs, hs2, rfl, htx, hpz, hown, hb2⟩
  simp only [st0, St.mk.injEq] at hs2
  obtain ⟨rfl, rfl, rfl, rfl, rfl, rfl, rfl⟩ := hs2
  obtain ⟨g, ⟨x, ibx, tbx, Ax, cx⟩, rfl, hge, hgl, hx, hvx, htxx, hpx, y0, y1, y2, y3, y4, y5⟩ := own_ax hown 0 (by simp)
  simp only [List.getElem_cons_zero] at hx
  subst hx
  simp only [Nat.zero_mul, Nat.zero_add] at y0 y1 y2 y3 y4 y5
  have hrl := hpx.ok.rd (v := sv0) (RdLL.nil _ _ _)
  simp only [List.length_cons, List.length_nil, Nat.zero_add] at y4 hrl
  have hrl2 := hrl.nextA (.cells #[.int .i64 0, .string ib2, .bool false, .slice A2 0 c2, .bool false, .string tb2, .int .u8 0] 82)
  have HB2 := Lib.hid (HB1.out.trans (hb2.mono HB1.out.size))
  have HRL := Lib.hid hrl2
  have HT2 := Lib.hid ((HT1.out.below hb2).alloc (.cells #[.int .i64 0, .string ib2, .bool false, .slice A2 0 c2, .bool false, .string tb2, .int .u8 0] 82))
  have hz := hb2.size
  have HP : Hid ((⟨(printS [[1], [31]]).toArray⟩ : ByteArray) = ⟨#[49, 59, 51, 49]⟩) := Lib.hid print_aw
  clear hb2 hown hvx htxx hpx hrl hrl2 htx hpz
  go_wp2_with fail
  refine (print5_any [[1], [31]] _ _ HRL.out HT2.out (by decide)).mono ?_
  rintro e w3 ⟨rfl, hb3⟩
  simp only [HP.out]
  have HB3 := Lib.hid ((HB2.out.alloc HB2.out.size (.cells #[.int .i64 0, .string ib2, .bool false, .slice A2 0 c2, .bool false, .string tb2, .int .u8 0] 82)).trans (hb3.mono (by simp; have := HB2.out.size; omega)))
  clear hb3
  go_wp2_with fail
  go_ret
  exact ⟨rfl, HB3.out⟩
end Go.Proofs.YtcempbgbdlmjfaaDoor
