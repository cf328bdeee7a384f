/-
  lapwinglaw06.ParseGround: the walk: for any state and any letters it answers true. No condition.
-/
import Derived.Test.YtcempbgbdlmjfaaDoorP6Aw
import Derived.Test.YtcempbgbdlmjfaaDoorPaFew
namespace Go.Proofs.YtcempbgbdlmjfaaDoor
open Go.RowKit

/-- a state of the document's type in a block of its own -/
def SAtR (w : World) (b : Nat) (v : Sv) : Prop := w.heap[b]? = some (.cells v.cells.toArray 88 (0, 0))
theorem SAtR.cells {w : World} {b : Nat} {v : Sv} (h : SAtR w b v) : w.cell? ⟨b, 0, none⟩ = some (.int .i64 v.s.a) ∧ w.cell? ⟨b, 1, none⟩ = some (.string v.ib) ∧ w.cell? ⟨b, 2, none⟩ = some (.bool v.s.over) ∧ w.cell? ⟨b, 3, none⟩ = some (.slice v.A v.s.l.length v.c) ∧ w.cell? ⟨b, 4, none⟩ = some (.bool v.s.o) ∧ w.cell? ⟨b, 5, none⟩ = some (.string v.tb) ∧ w.cell? ⟨b, 6, none⟩ = some (.int .u8 v.s.kind) ∧ True :=
  ⟨bk_cell h 0 _ rfl, bk_cell h 1 _ rfl, bk_cell h 2 _ rfl, bk_cell h 3 _ rfl, bk_cell h 4 _ rfl, bk_cell h 5 _ rfl, bk_cell h 6 _ rfl, trivial⟩
theorem SAtR.past {w w' : World} {b : Nat} {v : Sv} (h : SAtR w b v) (hb : Below w.heap.size w w') : SAtR w' b v := bk_past h hb (Nat.le_refl _)
/-- Feed, by its answer -/
theorem feed_n (v : Sv) (ls : List Int) (s' : St) (L : List Ax) (n m : Nat) (h : feedGo v.s ls = (s', L)) (hn : ls.length = n) (hm : L.length = m) (Al : Option Addr) (cl : Nat) (w : World) (hv : v.Ok w) (hs : saneS v.s = true) (hr : Rd w w.heap.size Al (nC ls)) (hlen : n ≤ 100000) :
    Calls Tryd.prog 52 #[v.val, .slice Al n cl] w fun e w' => ∃ (a1 : Int) (inter1 : List Int) (ov1 : Bool) (l1 : List (List Int)) (o1 : Bool) (text1 : List Int) (k1 : Int) (ib1 tb1 : ByteArray) (A1 : Option Addr) (c1 : Nat) (Ac : Option Addr) (cA : Nat) (vs : List Av), ⟨a1, inter1, ov1, l1, o1, text1, k1⟩ = s' ∧ e = .returned (.tuple #[.agg #[.int .i64 a1, .string ib1, .bool ov1, .slice A1 l1.length c1, .bool o1, .string tb1, .int .u8 k1], .slice Ac m cA]) ∧ Sv.Tx ⟨⟨a1, inter1, ov1, l1, o1, text1, k1⟩, ib1, tb1, A1, c1⟩ ∧
      ParZ v w.heap.size w' (.slice Ac m cA) A1 c1 l1 ∧ Owned v w.heap.size w' Ac cA L vs ∧ Below w.heap.size w w' := by
  subst hn; subst hm
  refine (feed_any v ls Al cl w hv hr hlen hs).mono fun e w' hh => ?_
  obtain ⟨a1, inter1, ov1, l1, o1, text1, k1, ib1, tb1, A1, c1, Ac, cA, vs, h1, h2, h3, h4, h5, h6⟩ := hh.open
  rw [h] at h1 h2 h4 h5
  exact ⟨a1, inter1, ov1, l1, o1, text1, k1, ib1, tb1, A1, c1, Ac, cA, vs, h1, h2, h3, h4, h5, h6⟩
theorem sane_parB {s : St} (h : saneS s = true) : ParB s.l := by
  have h3 := (saneP_iff _).1 ((saneS_iff s).1 h).2.2.2.1
  exact ⟨by have := h3.1; simp only at this; omega, fun q hq => by have := ((okRow_iff q).1 (h3.2.2 q hq)).1; omega⟩
theorem parB_nil : ParB [] := ⟨by simp, fun _ h => absurd h (by simp)⟩
theorem step_parB (s : St) (r : Int) : ∀ x ∈ (stepS s r).2, ParB x.par := by
  cases hs : saneS s with
  | false => intro x hx; unfold stepS at hx; rw [if_pos hs] at hx; exact absurd hx (by simp)
  | true =>
    have hl := sane_parB hs
    have he : ∀ x ∈ endA s, ParB x.par := by
      intro x hx
      unfold endA at hx
      repeat' split at hx
      all_goals first | (rw [List.mem_singleton.1 hx]; exact parB_nil) | exact absurd hx List.not_mem_nil
    have hu : ∀ x ∈ (upperF r).2, ParB x.par := by
      intro x hx
      unfold upperF at hx
      repeat' split at hx
      all_goals first | (rw [List.mem_singleton.1 hx]; exact parB_nil) | exact absurd hx List.not_mem_nil
    have hg : ∀ x ∈ (graphicF s r).2, ParB x.par := by
      intro x hx
      unfold graphicF escapeF numbersF seqF at hx
      repeat' split at hx
      all_goals first | (rw [List.mem_singleton.1 hx]; exact parB_nil) | (rw [List.mem_singleton.1 hx]; exact hl) | exact absurd hx List.not_mem_nil
    intro x hx
    unfold stepS at hx
    rw [if_neg (by simp [hs])] at hx
    repeat' split at hx
    all_goals first | exact he x hx | exact hg x hx | (rw [List.mem_singleton.1 hx]; exact parB_nil) | exact absurd hx List.not_mem_nil | skip
    rcases List.mem_append.1 hx with hx | hx
    · exact he x hx
    · exact hu x hx
theorem feed_parB (l : List Int) : ∀ (s : St), ∀ x ∈ (feedGo s l).2, ParB x.par := by
  induction l with
  | nil => intro s x hx; simp [feedGo] at hx
  | cons r rs ih =>
    intro s x hx
    simp only [feedGo] at hx
    rcases List.mem_append.1 hx with hx | hx
    · exact step_parB s r x hx
    · exact ih _ x hx
set_option maxRecDepth 100000 in
set_option maxHeartbeats 6400000 in
theorem pg_1 (v : Sv) (zs : List Int) (Al : Option Addr) (cl : Nat) (w : World) (hv : v.Ok w) (hr : Rd w w.heap.size Al (nC zs)) (hm : v.s.inter.length < 9223372036854775808) (hm2 : v.s.text.length < 9223372036854775808) (_hz : zs.length < 9223372036854775808) (hT : TabI w) (h1 : 10 < v.s.inter.length) : Calls Tryd.prog 16 #[v.val, .slice Al zs.length cl] w fun e w' => e = .returned (.bool true) ∧ Below w.heap.size w w' := by
  obtain ⟨⟨a0, inter, over, l, o, text, kind⟩, ib, tb, A, cc⟩ := v
  have hib : ib.size = inter.length := by have h := hv.tx.ib; simp only at h; rw [ba_size2, h]
  have htb : tb.size = text.length := by have h := hv.tx.tb; simp only at h; rw [ba_size2, h]
  simp only at *
  have nb : SAtR (w.alloc (.cells #[.int .i64 a0, .string ib, .bool over, .slice A l.length cc, .bool o, .string tb, .int .u8 kind] 88)) w.heap.size ⟨⟨a0, inter, over, l, o, text, kind⟩, ib, tb, A, cc⟩ := heap_alloc_new w _
  have N := Lib.hid nb
  have bb : Below w.heap.size w (w.alloc (.cells #[.int .i64 a0, .string ib, .bool over, .slice A l.length cc, .bool o, .string tb, .int .u8 kind] 88)) := (Below.refl _ _).alloc (Nat.le_refl _) _
  have HT := Lib.hid (hT.below bb); have HV := Lib.hid (hv.next bb); have HR := Lib.hid (hr.next bb); have HB := Lib.hid bb
  clear hT hv hr nb bb
  show Calls Tryd.prog 16 #[.agg #[.int .i64 a0, .string ib, .bool over, .slice A l.length cc, .bool o, .string tb, .int .u8 kind], .slice Al zs.length cl] w _
  go_enter Tryd.func16, Tryd.ntmps16
  go_wp2_with fail
  refine (awake6_any _ HT.out).mono ?_
  rintro e w1 ⟨rfl, hb⟩
  have hs := N.out.past hb
  have N1 := Lib.hid hs; have HT1 := Lib.hid (HT.out.below hb); have HV1 := Lib.hid (HV.out.next hb); have HR1 := Lib.hid (HR.out.next hb); have HB1 := Lib.hid (HB.out.trans (hb.mono HB.out.size))
  obtain ⟨p0, p1, p2, p3, p4, p5, p6, _⟩ := hs.cells
  simp only at p0 p1 p2 p3 p4 p5 p6
  clear hs hb N HT HV HR HB
  go_wp2_with fail
  go_ret
  exact ⟨rfl, HB1.out⟩
set_option maxRecDepth 100000 in
set_option maxHeartbeats 6400000 in
theorem pg_2 (v : Sv) (zs : List Int) (Al : Option Addr) (cl : Nat) (w : World) (hv : v.Ok w) (hr : Rd w w.heap.size Al (nC zs)) (hm : v.s.inter.length < 9223372036854775808) (hm2 : v.s.text.length < 9223372036854775808) (_hz : zs.length < 9223372036854775808) (hT : TabI w) (h1 : v.s.inter.length ≤ 10) (h2 : 1100 < v.s.text.length) : Calls Tryd.prog 16 #[v.val, .slice Al zs.length cl] w fun e w' => e = .returned (.bool true) ∧ Below w.heap.size w w' := by
  obtain ⟨⟨a0, inter, over, l, o, text, kind⟩, ib, tb, A, cc⟩ := v
  have hib : ib.size = inter.length := by have h := hv.tx.ib; simp only at h; rw [ba_size2, h]
  have htb : tb.size = text.length := by have h := hv.tx.tb; simp only at h; rw [ba_size2, h]
  simp only at *
  have nb : SAtR (w.alloc (.cells #[.int .i64 a0, .string ib, .bool over, .slice A l.length cc, .bool o, .string tb, .int .u8 kind] 88)) w.heap.size ⟨⟨a0, inter, over, l, o, text, kind⟩, ib, tb, A, cc⟩ := heap_alloc_new w _
  have N := Lib.hid nb
  have bb : Below w.heap.size w (w.alloc (.cells #[.int .i64 a0, .string ib, .bool over, .slice A l.length cc, .bool o, .string tb, .int .u8 kind] 88)) := (Below.refl _ _).alloc (Nat.le_refl _) _
  have HT := Lib.hid (hT.below bb); have HV := Lib.hid (hv.next bb); have HR := Lib.hid (hr.next bb); have HB := Lib.hid bb
  clear hT hv hr nb bb
  show Calls Tryd.prog 16 #[.agg #[.int .i64 a0, .string ib, .bool over, .slice A l.length cc, .bool o, .string tb, .int .u8 kind], .slice Al zs.length cl] w _
  go_enter Tryd.func16, Tryd.ntmps16
  go_wp2_with fail
  refine (awake6_any _ HT.out).mono ?_
  rintro e w1 ⟨rfl, hb⟩
  have hs := N.out.past hb
  have N1 := Lib.hid hs; have HT1 := Lib.hid (HT.out.below hb); have HV1 := Lib.hid (HV.out.next hb); have HR1 := Lib.hid (HR.out.next hb); have HB1 := Lib.hid (HB.out.trans (hb.mono HB.out.size))
  obtain ⟨p0, p1, p2, p3, p4, p5, p6, _⟩ := hs.cells
  simp only at p0 p1 p2 p3 p4 p5 p6
  clear hs hb N HT HV HR HB
  go_wp2_with fail
  go_ret
  exact ⟨rfl, HB1.out⟩
set_option maxRecDepth 100000 in
set_option maxHeartbeats 6400000 in
theorem pg_3 (v : Sv) (zs : List Int) (Al : Option Addr) (cl : Nat) (w : World) (hv : v.Ok w) (hr : Rd w w.heap.size Al (nC zs)) (hm : v.s.inter.length < 9223372036854775808) (hm2 : v.s.text.length < 9223372036854775808) (_hz : zs.length < 9223372036854775808) (hT : TabI w) (h1 : v.s.inter.length ≤ 10) (h2 : v.s.text.length ≤ 1100) (fw : fewF v.s.l = false) : Calls Tryd.prog 16 #[v.val, .slice Al zs.length cl] w fun e w' => e = .returned (.bool true) ∧ Below w.heap.size w w' := by
  obtain ⟨⟨a0, inter, over, l, o, text, kind⟩, ib, tb, A, cc⟩ := v
  have hib : ib.size = inter.length := by have h := hv.tx.ib; simp only at h; rw [ba_size2, h]
  have htb : tb.size = text.length := by have h := hv.tx.tb; simp only at h; rw [ba_size2, h]
  simp only at *
  have nb : SAtR (w.alloc (.cells #[.int .i64 a0, .string ib, .bool over, .slice A l.length cc, .bool o, .string tb, .int .u8 kind] 88)) w.heap.size ⟨⟨a0, inter, over, l, o, text, kind⟩, ib, tb, A, cc⟩ := heap_alloc_new w _
  have N := Lib.hid nb
  have bb : Below w.heap.size w (w.alloc (.cells #[.int .i64 a0, .string ib, .bool over, .slice A l.length cc, .bool o, .string tb, .int .u8 kind] 88)) := (Below.refl _ _).alloc (Nat.le_refl _) _
  have HT := Lib.hid (hT.below bb); have HV := Lib.hid (hv.next bb); have HR := Lib.hid (hr.next bb); have HB := Lib.hid bb
  clear hT hv hr nb bb
  have FW := Lib.hid fw; clear fw
  show Calls Tryd.prog 16 #[.agg #[.int .i64 a0, .string ib, .bool over, .slice A l.length cc, .bool o, .string tb, .int .u8 kind], .slice Al zs.length cl] w _
  go_enter Tryd.func16, Tryd.ntmps16
  go_wp2_with fail
  refine (awake6_any _ HT.out).mono ?_
  rintro e w1 ⟨rfl, hb⟩
  have hs := N.out.past hb
  have N1 := Lib.hid hs; have HT1 := Lib.hid (HT.out.below hb); have HV1 := Lib.hid (HV.out.next hb); have HR1 := Lib.hid (HR.out.next hb); have HB1 := Lib.hid (HB.out.trans (hb.mono HB.out.size))
  obtain ⟨p0, p1, p2, p3, p4, p5, p6, _⟩ := hs.cells
  simp only at p0 p1 p2 p3 p4 p5 p6
  clear hs hb N HT HV HR HB
  go_wp2_with fail
  refine (few_any l _ _ HV1.out.rd).mono ?_
  rintro e _ ⟨rfl, rfl⟩
  simp only [FW.out]
  go_wp2_with fail
  go_ret
  exact ⟨rfl, HB1.out⟩
set_option maxRecDepth 100000 in
set_option maxHeartbeats 6400000 in
theorem pg_4 (v : Sv) (zs : List Int) (Al : Option Addr) (cl : Nat) (w : World) (hv : v.Ok w) (hr : Rd w w.heap.size Al (nC zs)) (hm : v.s.inter.length < 9223372036854775808) (hm2 : v.s.text.length < 9223372036854775808) (_hz : zs.length < 9223372036854775808) (hT : TabI w) (h1 : v.s.inter.length ≤ 10) (h2 : v.s.text.length ≤ 1100) (fw : fewF v.s.l = true) (h4 : 1200 < zs.length) : Calls Tryd.prog 16 #[v.val, .slice Al zs.length cl] w fun e w' => e = .returned (.bool true) ∧ Below w.heap.size w w' := by
  obtain ⟨⟨a0, inter, over, l, o, text, kind⟩, ib, tb, A, cc⟩ := v
  have hib : ib.size = inter.length := by have h := hv.tx.ib; simp only at h; rw [ba_size2, h]
  have htb : tb.size = text.length := by have h := hv.tx.tb; simp only at h; rw [ba_size2, h]
  simp only at *
  have nb : SAtR (w.alloc (.cells #[.int .i64 a0, .string ib, .bool over, .slice A l.length cc, .bool o, .string tb, .int .u8 kind] 88)) w.heap.size ⟨⟨a0, inter, over, l, o, text, kind⟩, ib, tb, A, cc⟩ := heap_alloc_new w _
  have N := Lib.hid nb
  have bb : Below w.heap.size w (w.alloc (.cells #[.int .i64 a0, .string ib, .bool over, .slice A l.length cc, .bool o, .string tb, .int .u8 kind] 88)) := (Below.refl _ _).alloc (Nat.le_refl _) _
  have HT := Lib.hid (hT.below bb); have HV := Lib.hid (hv.next bb); have HR := Lib.hid (hr.next bb); have HB := Lib.hid bb
  clear hT hv hr nb bb
  have FW := Lib.hid fw; clear fw
  show Calls Tryd.prog 16 #[.agg #[.int .i64 a0, .string ib, .bool over, .slice A l.length cc, .bool o, .string tb, .int .u8 kind], .slice Al zs.length cl] w _
  go_enter Tryd.func16, Tryd.ntmps16
  go_wp2_with fail
  refine (awake6_any _ HT.out).mono ?_
  rintro e w1 ⟨rfl, hb⟩
  have hs := N.out.past hb
  have N1 := Lib.hid hs; have HT1 := Lib.hid (HT.out.below hb); have HV1 := Lib.hid (HV.out.next hb); have HR1 := Lib.hid (HR.out.next hb); have HB1 := Lib.hid (HB.out.trans (hb.mono HB.out.size))
  obtain ⟨p0, p1, p2, p3, p4, p5, p6, _⟩ := hs.cells
  simp only at p0 p1 p2 p3 p4 p5 p6
  clear hs hb N HT HV HR HB
  go_wp2_with fail
  refine (few_any l _ _ HV1.out.rd).mono ?_
  rintro e _ ⟨rfl, rfl⟩
  simp only [FW.out]
  go_wp2_with fail
  go_ret
  exact ⟨rfl, HB1.out⟩
set_option maxRecDepth 100000 in
set_option maxHeartbeats 6400000 in
theorem pg_5 (v : Sv) (zs : List Int) (Al : Option Addr) (cl : Nat) (w : World) (hv : v.Ok w) (hr : Rd w w.heap.size Al (nC zs)) (hm : v.s.inter.length < 9223372036854775808) (hm2 : v.s.text.length < 9223372036854775808) (_hz : zs.length < 9223372036854775808) (hT : TabI w) (h1 : v.s.inter.length ≤ 10) (h2 : v.s.text.length ≤ 1100) (fw : fewF v.s.l = true) (h4 : zs.length ≤ 1200) (sn : saneS v.s = false) : Calls Tryd.prog 16 #[v.val, .slice Al zs.length cl] w fun e w' => e = .returned (.bool true) ∧ Below w.heap.size w w' := by
  obtain ⟨⟨a0, inter, over, l, o, text, kind⟩, ib, tb, A, cc⟩ := v
  have hib : ib.size = inter.length := by have h := hv.tx.ib; simp only at h; rw [ba_size2, h]
  have htb : tb.size = text.length := by have h := hv.tx.tb; simp only at h; rw [ba_size2, h]
  simp only at *
  have nb : SAtR (w.alloc (.cells #[.int .i64 a0, .string ib, .bool over, .slice A l.length cc, .bool o, .string tb, .int .u8 kind] 88)) w.heap.size ⟨⟨a0, inter, over, l, o, text, kind⟩, ib, tb, A, cc⟩ := heap_alloc_new w _
  have N := Lib.hid nb
  have bb : Below w.heap.size w (w.alloc (.cells #[.int .i64 a0, .string ib, .bool over, .slice A l.length cc, .bool o, .string tb, .int .u8 kind] 88)) := (Below.refl _ _).alloc (Nat.le_refl _) _
  have HT := Lib.hid (hT.below bb); have HV := Lib.hid (hv.next bb); have HR := Lib.hid (hr.next bb); have HB := Lib.hid bb
  clear hT hv hr nb bb
  have FW := Lib.hid fw; clear fw
  have SN := Lib.hid sn; clear sn
  show Calls Tryd.prog 16 #[.agg #[.int .i64 a0, .string ib, .bool over, .slice A l.length cc, .bool o, .string tb, .int .u8 kind], .slice Al zs.length cl] w _
  go_enter Tryd.func16, Tryd.ntmps16
  go_wp2_with fail
  refine (awake6_any _ HT.out).mono ?_
  rintro e w1 ⟨rfl, hb⟩
  have hs := N.out.past hb
  have N1 := Lib.hid hs; have HT1 := Lib.hid (HT.out.below hb); have HV1 := Lib.hid (HV.out.next hb); have HR1 := Lib.hid (HR.out.next hb); have HB1 := Lib.hid (HB.out.trans (hb.mono HB.out.size))
  obtain ⟨p0, p1, p2, p3, p4, p5, p6, _⟩ := hs.cells
  simp only at p0 p1 p2 p3 p4 p5 p6
  clear hs hb N HT HV HR HB
  go_wp2_with fail
  refine (few_any l _ _ HV1.out.rd).mono ?_
  rintro e _ ⟨rfl, rfl⟩
  simp only [FW.out]
  go_wp2_with fail
  refine (ours6_any ⟨⟨a0, inter, over, l, o, text, kind⟩, ib, tb, A, cc⟩ _).mono ?_
  rintro e w2 ⟨rfl, hb⟩
  have hs := N1.out.past hb
  have N2 := Lib.hid hs; have HT2 := Lib.hid (HT1.out.below hb); have HV2 := Lib.hid (HV1.out.next hb); have HR2 := Lib.hid (HR1.out.next hb); have HB2 := Lib.hid (HB1.out.trans (hb.mono HB1.out.size))
  clear p0 p1 p2 p3 p4 p5 p6 hs hb N1 HT1 HV1 HR1 HB1
  go_wp2_with fail
  refine (sane6_any ⟨⟨a0, inter, over, l, o, text, kind⟩, ib, tb, A, cc⟩ _ HV2.out hm hm2).mono ?_
  rintro e w3 ⟨rfl, hb⟩
  simp only [SN.out]
  have hs := N2.out.past hb
  have N3 := Lib.hid hs; have HT3 := Lib.hid (HT2.out.below hb); have HV3 := Lib.hid (HV2.out.next hb); have HR3 := Lib.hid (HR2.out.next hb); have HB3 := Lib.hid (HB2.out.trans (hb.mono HB2.out.size))
  obtain ⟨p0, p1, p2, p3, p4, p5, p6, _⟩ := hs.cells
  simp only at p0 p1 p2 p3 p4 p5 p6
  clear hs hb N2 HT2 HV2 HR2 HB2
  go_wp2_with fail
  go_ret
  exact ⟨rfl, HB3.out⟩
set_option maxRecDepth 100000 in
set_option maxHeartbeats 6400000 in
theorem pg_6 (v : Sv) (zs : List Int) (Al : Option Addr) (cl : Nat) (w : World) (hv : v.Ok w) (hr : Rd w w.heap.size Al (nC zs)) (hm : v.s.inter.length < 9223372036854775808) (hm2 : v.s.text.length < 9223372036854775808) (_hz : zs.length < 9223372036854775808) (hT : TabI w) (h1 : v.s.inter.length ≤ 10) (h2 : v.s.text.length ≤ 1100) (fw : fewF v.s.l = true) (h4 : zs.length ≤ 1200) (sn : saneS v.s = true) : Calls Tryd.prog 16 #[v.val, .slice Al zs.length cl] w fun e w' => e = .returned (.bool true) ∧ Below w.heap.size w w' := by
  obtain ⟨⟨a0, inter, over, l, o, text, kind⟩, ib, tb, A, cc⟩ := v
  have hib : ib.size = inter.length := by have h := hv.tx.ib; simp only at h; rw [ba_size2, h]
  have htb : tb.size = text.length := by have h := hv.tx.tb; simp only at h; rw [ba_size2, h]
  simp only at *
  have nb : SAtR (w.alloc (.cells #[.int .i64 a0, .string ib, .bool over, .slice A l.length cc, .bool o, .string tb, .int .u8 kind] 88)) w.heap.size ⟨⟨a0, inter, over, l, o, text, kind⟩, ib, tb, A, cc⟩ := heap_alloc_new w _
  have N := Lib.hid nb
  have bb : Below w.heap.size w (w.alloc (.cells #[.int .i64 a0, .string ib, .bool over, .slice A l.length cc, .bool o, .string tb, .int .u8 kind] 88)) := (Below.refl _ _).alloc (Nat.le_refl _) _
  have HT := Lib.hid (hT.below bb); have HV := Lib.hid (hv.next bb); have HR := Lib.hid (hr.next bb); have HB := Lib.hid bb
  clear hT hv hr nb bb
  have h24 := step_cancel sn
  obtain ⟨⟨s', L⟩, hf⟩ : ∃ p, feedGo st0 zs = p := ⟨_, rfl⟩
  have hsn' : saneS s' = true := by have := feedGo_sane zs st0 st0_sane; rw [hf] at this; exact this
  have hpb : ∀ x ∈ L, ParB x.par := by have := feed_parB zs st0; rw [hf] at this; exact this
  have hLm : L.length ≤ 1000000 := by have := feedGo_len zs st0 st0_sane; rw [hf] at this; simp only at this; omega
  obtain ⟨m, hm0⟩ : ∃ m, L.length = m := ⟨_, rfl⟩
  have FW := Lib.hid fw; have SN := Lib.hid sn; have H24 := Lib.hid h24; have HF := Lib.hid hf; have HSN' := Lib.hid hsn'; have HPB := Lib.hid hpb; have HM := Lib.hid hm0; have HLM := Lib.hid hLm
  clear fw sn h24 hf hsn' hpb hm0 hLm
  show Calls Tryd.prog 16 #[.agg #[.int .i64 a0, .string ib, .bool over, .slice A l.length cc, .bool o, .string tb, .int .u8 kind], .slice Al zs.length cl] w _
  go_enter Tryd.func16, Tryd.ntmps16
  go_wp2_with fail
  refine (awake6_any _ HT.out).mono ?_
  rintro e w1 ⟨rfl, hb⟩
  have hs := N.out.past hb
  have N1 := Lib.hid hs; have HT1 := Lib.hid (HT.out.below hb); have HV1 := Lib.hid (HV.out.next hb); have HR1 := Lib.hid (HR.out.next hb); have HB1 := Lib.hid (HB.out.trans (hb.mono HB.out.size))
  obtain ⟨p0, p1, p2, p3, p4, p5, p6, _⟩ := hs.cells
  simp only at p0 p1 p2 p3 p4 p5 p6
  clear hs hb N HT HV HR HB
  go_wp2_with fail
  refine (few_any l _ _ HV1.out.rd).mono ?_
  rintro e _ ⟨rfl, rfl⟩
  simp only [FW.out]
  go_wp2_with fail
  refine (ours6_any ⟨⟨a0, inter, over, l, o, text, kind⟩, ib, tb, A, cc⟩ _).mono ?_
  rintro e w2 ⟨rfl, hb⟩
  have hs := N1.out.past hb
  have N2 := Lib.hid hs; have HT2 := Lib.hid (HT1.out.below hb); have HV2 := Lib.hid (HV1.out.next hb); have HR2 := Lib.hid (HR1.out.next hb); have HB2 := Lib.hid (HB1.out.trans (hb.mono HB1.out.size))
  clear p0 p1 p2 p3 p4 p5 p6 hs hb N1 HT1 HV1 HR1 HB1
  go_wp2_with fail
  refine (sane6_any ⟨⟨a0, inter, over, l, o, text, kind⟩, ib, tb, A, cc⟩ _ HV2.out hm hm2).mono ?_
  rintro e w3 ⟨rfl, hb⟩
  simp only [SN.out]
  have hs := N2.out.past hb
  have N3 := Lib.hid hs; have HT3 := Lib.hid (HT2.out.below hb); have HV3 := Lib.hid (HV2.out.next hb); have HR3 := Lib.hid (HR2.out.next hb); have HB3 := Lib.hid (HB2.out.trans (hb.mono HB2.out.size))
  obtain ⟨p0, p1, p2, p3, p4, p5, p6, _⟩ := hs.cells
  simp only at p0 p1 p2 p3 p4 p5 p6
  clear hs hb N2 HT2 HV2 HR2 HB2
  go_wp2_with fail
  refine (ours6_any ⟨⟨a0, inter, over, l, o, text, kind⟩, ib, tb, A, cc⟩ _).mono ?_
  rintro e w4 ⟨rfl, hb⟩
  have HT4 := Lib.hid (HT3.out.below hb); have HV4 := Lib.hid (HV3.out.next hb); have HR4 := Lib.hid (HR3.out.next hb); have HB4 := Lib.hid (HB3.out.trans (hb.mono HB3.out.size))
  clear p0 p1 p2 p3 p4 p5 p6 hb N3 HT3 HV3 HR3 HB3
  go_wp2_with fail
  refine (step_any ⟨⟨a0, inter, over, l, o, text, kind⟩, ib, tb, A, cc⟩ 24 _ HV4.out hm hm2).mono ?_
  intro e w5 hret
  rw [H24.out] at hret
  obtain ⟨a1, inter1, ov1, l1, o1, text1, k1, ib1, tb1, A1, c1, Ax, cx, vx, he1, rfl, htx, hpar, hacts, hca, hb⟩ := hret.open
  clear hret
  simp only [st0, St.mk.injEq] at he1
  obtain ⟨rfl, rfl, rfl, rfl, rfl, rfl, rfl⟩ := he1
  have e1 := ba_nil htx.ib
  have e2 := ba_nil htx.tb
  simp only at e1 e2
  subst e1; subst e2
  have hrp := hpar.rd (HV4.out.rd.next hb)
  have hr5 := HR4.out.next hb
  have hb5 := HB4.out.trans (hb.mono HB4.out.size)
  have ht5 := HT4.out.below hb
  have hvv := HV4.out.rd.next hb
  simp only [List.length_nil] at hrp
  have bx : Below w5.heap.size w5 (w5.alloc (.cells #[.int .i64 0, .string ⟨#[]⟩, .bool false, .slice A1 0 c1, .bool false, .string ⟨#[]⟩, .int .u8 0] 82)) := (Below.refl _ _).alloc (Nat.le_refl _) _
  have s6 : SAt (w5.alloc (.cells #[.int .i64 0, .string ⟨#[]⟩, .bool false, .slice A1 0 c1, .bool false, .string ⟨#[]⟩, .int .u8 0] 82)) w5.heap.size ⟨st0, ⟨#[]⟩, ⟨#[]⟩, A1, c1⟩ := heap_alloc_new w5 _
  have S6 := Lib.hid s6; have HP6 := Lib.hid (hrp.next bx); have HR6 := Lib.hid (hr5.next bx); have HB6 := Lib.hid (hb5.trans (bx.mono hb5.size)); have HVV6 := Lib.hid (hvv.next bx)
  have HA6 := Lib.hid ((hacts.less (Nat.zero_le _)).next bx)
  have HZ1 : Hid (saneS (Sv.s ⟨st0, ⟨#[]⟩, ⟨#[]⟩, A1, c1⟩) = true) := Lib.hid st0_sane
  have HTX6 : Hid (Sv.Tx ⟨st0, ⟨#[]⟩, ⟨#[]⟩, A1, c1⟩) := Lib.hid ⟨rfl, rfl, by simp [st0]⟩
  obtain ⟨q0, q1, q2, q3, q4, q5, q6, _⟩ := s6.cells
  simp only [st0, List.length_nil] at q0 q1 q2 q3 q4 q5 q6
  clear hb htx hpar hacts hca hrp hr5 hb5 ht5 hvv bx s6 HT4 HV4 HR4 HB4
  go_wp2_with fail
  refine (feed_n ⟨st0, ⟨#[]⟩, ⟨#[]⟩, A1, c1⟩ zs s' L zs.length m HF.out rfl HM.out Al cl _ ⟨HTX6.out, HP6.out⟩ HZ1.out HR6.out (by omega)).mono ?_
  rintro e w6 ⟨a2, inter2, ov2, l2, o2, text2, k2, ib2, tb2, A2, c2, Ay, cy, vy, he2, rfl, htx2, hpz2, hown2, hb⟩
  have bx : Below w6.heap.size w6 (w6.alloc (.cells #[.int .i64 a2, .string ib2, .bool ov2, .slice A2 l2.length c2, .bool o2, .string tb2, .int .u8 k2] 82)) := (Below.refl _ _).alloc (Nat.le_refl _) _
  have s7 : SAt (w6.alloc (.cells #[.int .i64 a2, .string ib2, .bool ov2, .slice A2 l2.length c2, .bool o2, .string tb2, .int .u8 k2] 82)) w6.heap.size ⟨⟨a2, inter2, ov2, l2, o2, text2, k2⟩, ib2, tb2, A2, c2⟩ := heap_alloc_new w6 _
  have hr2 := hpz2.ok.rd (HP6.out.next hb)
  have S7 := Lib.hid s7; have S6b := Lib.hid ((S6.out.past hb).past bx); have HP7 := Lib.hid ((HP6.out.next hb).next bx); have HR7 := Lib.hid ((HR6.out.next hb).next bx); have HVV7 := Lib.hid ((HVV6.out.next hb).next bx)
  have HA7 := Lib.hid ((HA6.out.next hb).next bx); have HY7 := Lib.hid ((hown2.acts.less (Nat.zero_le _)).next bx); have HL7 := Lib.hid (hr2.next bx); have HE2 := Lib.hid he2; have HTX2 := Lib.hid htx2
  have hb7 := HB6.out.trans (hb.mono HB6.out.size)
  have HB7 := Lib.hid (hb7.trans (bx.mono hb7.size))
  clear q0 q1 q2 q3 q4 q5 q6 bx s7 hr2 hb7 hb htx2 hpz2 hown2 he2 S6 HP6 HR6 HVV6 HA6 HB6
  go_wp2_with fail
  refine (feed_n sv0 zs s' L zs.length m HF.out rfl HM.out Al cl _ (sv0_ok _) st0_sane HR7.out (by omega)).mono ?_
  rintro e w7 ⟨a3, inter3, ov3, l3, o3, text3, k3, ib3, tb3, A3, c3, Az, cz, vz, he3, rfl, htx3, hpz3, hown3, hb⟩
  have bx : Below w7.heap.size w7 (w7.alloc (.cells #[.int .i64 a3, .string ib3, .bool ov3, .slice A3 l3.length c3, .bool o3, .string tb3, .int .u8 k3] 82)) := (Below.refl _ _).alloc (Nat.le_refl _) _
  have s8 : SAt (w7.alloc (.cells #[.int .i64 a3, .string ib3, .bool ov3, .slice A3 l3.length c3, .bool o3, .string tb3, .int .u8 k3] 82)) w7.heap.size ⟨⟨a3, inter3, ov3, l3, o3, text3, k3⟩, ib3, tb3, A3, c3⟩ := heap_alloc_new w7 _
  have hr3 := hpz3.ok.rd (v := sv0) (RdLL.nil _ _ _)
  have s6 := (S6b.out.past hb).past bx
  have s7 := (S7.out.past hb).past bx
  have p1 := (HP7.out.next hb).next bx
  have p2 := (HL7.out.next hb).next bx
  have p3 := hr3.next bx
  have ax := (HA7.out.next hb).next bx
  have ay := (HY7.out.next hb).next bx
  have az := (hown3.acts.less (Nat.zero_le _)).next bx
  have hb8 := HB7.out.trans (hb.mono HB7.out.size)
  have hbW := hb8.trans (bx.mono hb8.size)
  have htx3' := Lib.hid htx3; have he3' := Lib.hid he3
  clear bx hr3 hb8 hb htx3 hpz3 hown3 he3 S6b S7 HP7 HR7 HVV7 HA7 HY7 HL7 HB7
  go_wp2_with fail
  generalize (w7.alloc (.cells #[.int .i64 a3, .string ib3, .bool ov3, .slice A3 l3.length c3, .bool o3, .string tb3, .int .u8 k3] 82)) = W at s6 s7 s8 p1 p2 p3 ax ay az hbW ⊢
  obtain ⟨bb, off, hA, hbb, y0, y1, y2, y3, y4, y5⟩ := av_at ax.rd 0 (by rw [ax.len]; simp)
  subst hA
  have ex0 : (vx[0]'(by rw [ax.len]; simp)).x = axExec 24 := by
    have h := ax.map
    have hl : vx.length = 1 := by rw [ax.len]; rfl
    obtain ⟨x, hx⟩ := List.length_eq_one_iff.1 hl
    subst hx
    simpa using h
  rw [ex0] at y0 y2
  simp only [Nat.zero_mul, Nat.add_zero, axExec, byteOf] at y0 y2
  have T1 : Hid (∀ U : World, Calls Tryd.prog 54 #[.agg #[.int .i64 0, .string ⟨#[]⟩, .bool false, .slice A1 0 c1, .bool false, .string ⟨#[]⟩, .int .u8 0]] U fun e w' => e = .returned (.agg #[.int .i64 0, .string ⟨#[]⟩, .bool false, .slice A1 0 c1, .bool false, .string ⟨#[]⟩, .int .u8 0]) ∧ Below U.heap.size U w') := Lib.hid (fun U => theirs6_any ⟨st0, ⟨#[]⟩, ⟨#[]⟩, A1, c1⟩ U)
  have T2 : Hid (∀ U : World, Calls Tryd.prog 54 #[.agg #[.int .i64 a2, .string ib2, .bool ov2, .slice A2 l2.length c2, .bool o2, .string tb2, .int .u8 k2]] U fun e w' => e = .returned (.agg #[.int .i64 a2, .string ib2, .bool ov2, .slice A2 l2.length c2, .bool o2, .string tb2, .int .u8 k2]) ∧ Below U.heap.size U w') := Lib.hid (fun U => theirs6_any ⟨⟨a2, inter2, ov2, l2, o2, text2, k2⟩, ib2, tb2, A2, c2⟩ U)
  have T3 : Hid (∀ U : World, Calls Tryd.prog 54 #[.agg #[.int .i64 a3, .string ib3, .bool ov3, .slice A3 l3.length c3, .bool o3, .string tb3, .int .u8 k3]] U fun e w' => e = .returned (.agg #[.int .i64 a3, .string ib3, .bool ov3, .slice A3 l3.length c3, .bool o3, .string tb3, .int .u8 k3]) ∧ Below U.heap.size U w') := Lib.hid (fun U => theirs6_any ⟨⟨a3, inter3, ov3, l3, o3, text3, k3⟩, ib3, tb3, A3, c3⟩ U)
  have Q1 : Hid (∀ u : After W, Calls Tryd.prog 53 #[.agg #[.int .i64 0, .string ⟨#[]⟩, .bool false, .slice A1 0 c1, .bool false, .string ⟨#[]⟩, .int .u8 0], .agg #[.int .i64 0, .string ⟨#[]⟩, .bool false, .slice none 0 0, .bool false, .string ⟨#[]⟩, .int .u8 0]] u.get fun e w' => e = .returned (.bool true) ∧ Below u.get.heap.size u.get w') := Lib.hid (fun u => same6_any (lo := 0) (lo' := 0) ⟨st0, ⟨#[]⟩, ⟨#[]⟩, A1, c1⟩ sv0 _ rfl HTX6.out sv0_tx (p1.next u.below) (RdLL.nil _ _ _) (by intro q hq; simp [st0] at hq) (by simp [st0]))
  have hpbs := sane_parB HSN'.out
  rw [← he3'.out] at hpbs
  have Q2 : Hid (∀ u : After W, Calls Tryd.prog 53 #[.agg #[.int .i64 a2, .string ib2, .bool ov2, .slice A2 l2.length c2, .bool o2, .string tb2, .int .u8 k2], .agg #[.int .i64 a3, .string ib3, .bool ov3, .slice A3 l3.length c3, .bool o3, .string tb3, .int .u8 k3]] u.get fun e w' => e = .returned (.bool true) ∧ Below u.get.heap.size u.get w') := Lib.hid (fun u => same6_any (lo := 0) (lo' := 0) ⟨⟨a2, inter2, ov2, l2, o2, text2, k2⟩, ib2, tb2, A2, c2⟩ ⟨⟨a3, inter3, ov3, l3, o3, text3, k3⟩, ib3, tb3, A3, c3⟩ _ (HE2.out.trans he3'.out.symm) HTX2.out htx3'.out (p2.next u.below) (p3.next u.below) (by have h := sane_parB HSN'.out; rw [← HE2.out] at h; exact h.2) (by have h := sane_parB HSN'.out; rw [← HE2.out] at h; exact h.1))
  have Q3 : Hid (∀ u : After W, Calls Tryd.prog 55 #[.slice Ay m cy, .slice Az m cz] u.get fun e w' => e = .returned (.bool true) ∧ Below u.get.heap.size u.get w') := Lib.hid (fun u => by
    have h := actions_any (v := ⟨st0, ⟨#[]⟩, ⟨#[]⟩, A1, c1⟩) (u := sv0) L vy vz Ay Az cy cz u.get (ay.next u.below) (az.next u.below) (p1.next u.below) (RdLL.nil _ _ _) HPB.out HLM.out
    rw [HM.out] at h
    exact h)
  have HBW := Lib.hid hbW
  obtain ⟨i0, i1, i2, i3, i4, i5, i6, _⟩ := s6.cells
  obtain ⟨j0, j1, j2, j3, j4, j5, j6, _⟩ := s7.cells
  obtain ⟨k0, k1', k2', k3', k4, k5, k6, _⟩ := s8.cells
  simp only [st0, List.length_nil] at i0 i1 i2 i3 i4 i5 i6
  simp only at j0 j1 j2 j3 j4 j5 j6 k0 k1' k2' k3' k4 k5 k6
  have ri0 := fun u : After W => u.cell i0
  have ri1 := fun u : After W => u.cell i1
  have ri2 := fun u : After W => u.cell i2
  have ri3 := fun u : After W => u.cell i3
  have ri4 := fun u : After W => u.cell i4
  have ri5 := fun u : After W => u.cell i5
  have ri6 := fun u : After W => u.cell i6
  have rj0 := fun u : After W => u.cell j0
  have rj1 := fun u : After W => u.cell j1
  have rj2 := fun u : After W => u.cell j2
  have rj3 := fun u : After W => u.cell j3
  have rj4 := fun u : After W => u.cell j4
  have rj5 := fun u : After W => u.cell j5
  have rj6 := fun u : After W => u.cell j6
  have rk0 := fun u : After W => u.cell k0
  have rk1 := fun u : After W => u.cell k1'
  have rk2 := fun u : After W => u.cell k2'
  have rk3 := fun u : After W => u.cell k3'
  have rk4 := fun u : After W => u.cell k4
  have rk5 := fun u : After W => u.cell k5
  have rk6 := fun u : After W => u.cell k6
  have ry0 := fun u : After W => u.cell y0
  have ry2 := fun u : After W => u.cell y2
  clear i0 i1 i2 i3 i4 i5 i6 j0 j1 j2 j3 j4 j5 j6 k0 k1' k2' k3' k4 k5 k6 y0 y1 y2 y3 y4 y5 s6 s7 s8 p1 p2 p3 ax ay az hbW hpbs ex0 HE2 HTX2 htx3' he3' HPB HSN' HM HLM HF
  refine wp_region_after (by kernel_rfl) (by kernel_rfl) ?_
  repeat (go_big_quiet_step (first
    | (go_at_call_of 54 (Value.slice A1 0 c1); exact Calls.after_of (T1.out _))
    | (go_at_call_of 54 (Value.string ib2); exact Calls.after_of (T2.out _))
    | (go_at_call_of 54 (Value.string ib3); exact Calls.after_of (T3.out _))
    | (go_at_call_of 53 (Value.slice A1 0 c1); exact Calls.after_of (Q1.out _))
    | (go_at_call_of 53 (Value.string ib2); exact Calls.after_of (Q2.out _))
    | (go_at_call 55; exact Calls.after_of (Q3.out _))))
  refine wpQuiet_nil ?_
  rintro _ ⟨u, rfl⟩
  go_wp2_with fail
  go_ret
  exact ⟨rfl, HBW.out.trans (u.below.mono HBW.out.size)⟩
theorem pground_walk (v : Sv) (zs : List Int) (Al : Option Addr) (cl : Nat) (w : World) (hv : v.Ok w) (hr : Rd w w.heap.size Al (nC zs)) (hm : v.s.inter.length < 9223372036854775808) (hm2 : v.s.text.length < 9223372036854775808) (_hz : zs.length < 9223372036854775808) (hT : TabI w) : Calls Tryd.prog 16 #[v.val, .slice Al zs.length cl] w fun e w' => e = .returned (.bool true) ∧ Below w.heap.size w w' := by
  by_cases h1 : 10 < v.s.inter.length
  · exact pg_1 v zs Al cl w hv hr hm hm2 _hz hT h1
  by_cases h2 : 1100 < v.s.text.length
  · exact pg_2 v zs Al cl w hv hr hm hm2 _hz hT (by omega) h2
  cases fw : fewF v.s.l with
  | false => exact pg_3 v zs Al cl w hv hr hm hm2 _hz hT (by omega) (by omega) fw
  | true =>
    by_cases h4 : 1200 < zs.length
    · exact pg_4 v zs Al cl w hv hr hm hm2 _hz hT (by omega) (by omega) fw h4
    cases sn : saneS v.s with
    | false => exact pg_5 v zs Al cl w hv hr hm hm2 _hz hT (by omega) (by omega) fw (by omega) sn
    | true => exact pg_6 v zs Al cl w hv hr hm hm2 _hz hT (by omega) (by omega) fw (by omega) sn
end Go.Proofs.YtcempbgbdlmjfaaDoor
