/-
  parse: the laws' small functions: ours, theirs, Same, Actions, letters.
-/
import Derived.Test.YtcempbgbdlmjfaaDoorP6Fd
import Derived.Test.YtcempbgbdlmjfaaDoorPaG
namespace Go.Proofs.YtcempbgbdlmjfaaDoor
open Go.RowKit

/-! ### what a row of actions reads as -/
theorem avC_get (vs : List Av) : ∀ (k j : Nat) (hk : k < vs.length), j < 6 → (avC vs)[k * 6 + j]? = (vs[k]'hk).cells[j]? := by
  induction vs with
  | nil => intro k j hk; simp at hk
  | cons v vs ih =>
    intro k j hk hj
    have e : avC (v :: vs) = v.cells ++ avC vs := rfl
    have hl : v.cells.length = 6 := rfl
    rw [e]
    cases k with
    | zero => rw [List.getElem?_append_left (by omega)]; simp
    | succ k =>
      rw [List.getElem?_append_right (by omega), show (k + 1) * 6 + j - v.cells.length = k * 6 + j by omega]
      exact ih k j (by simpa using hk) hj
theorem av_at {w : World} {B : Nat} {A : Option Addr} {vs : List Av} (h : Rd w B A (avC vs)) (k : Nat) (hk : k < vs.length) : ∃ b off, A = some ⟨b, off, none⟩ ∧ b < B ∧
    w.cell? ⟨b, off + k * 6, none⟩ = some (.int .i64 (vs[k]'hk).x.what) ∧ w.cell? ⟨b, off + k * 6 + 1, none⟩ = some (.int .i64 (vs[k]'hk).x.r) ∧ w.cell? ⟨b, off + k * 6 + 2, none⟩ = some (.int .u8 (vs[k]'hk).x.fin) ∧
    w.cell? ⟨b, off + k * 6 + 3, none⟩ = some (.string (vs[k]'hk).ib) ∧ w.cell? ⟨b, off + k * 6 + 4, none⟩ = some (.slice (vs[k]'hk).A (vs[k]'hk).x.par.length (vs[k]'hk).c) ∧ w.cell? ⟨b, off + k * 6 + 5, none⟩ = some (.string (vs[k]'hk).tb) := by
  obtain ⟨b, off, e, hb, hc⟩ := h (by rw [avC_len]; omega)
  have at_ : ∀ j u, j < 6 → (vs[k]'hk).cells[j]? = some u → w.cell? ⟨b, off + k * 6 + j, none⟩ = some u := fun j u hj hu => by
    have hl : k * 6 + j < (avC vs).length := by rw [avC_len]; omega
    have hg := avC_get vs k j hk hj
    rw [hu, List.getElem?_eq_getElem hl] at hg
    have := hc (k * 6 + j) hl
    rw [Nat.add_assoc, this]
    exact hg
  exact ⟨b, off, e, hb, at_ 0 _ (by omega) rfl, at_ 1 _ (by omega) rfl, at_ 2 _ (by omega) rfl, at_ 3 _ (by omega) rfl, at_ 4 _ (by omega) rfl, at_ 5 _ (by omega) rfl⟩
theorem bI_inj {a b : ByteArray} (h : bI a = bI b) : a = b := by
  obtain ⟨⟨x⟩⟩ := a
  obtain ⟨⟨y⟩⟩ := b
  congr 2
  unfold bI at h
  simp only at h
  exact List.map_inj_right (fun p q e => UInt8.toNat_inj.1 (by omega)) |>.1 h
set_option maxRecDepth 100000 in
set_option maxHeartbeats 1600000 in
theorem ours6_any (v : Sv) (w : World) : Calls Tryd.prog 57 #[v.val] w fun e w' => e = .returned v.val ∧ Below w.heap.size w w' := by
  obtain ⟨⟨a0, inter, over, l, o, text, kind⟩, ib, tb, A, cc⟩ := v
  show Calls Tryd.prog 57 #[.agg #[.int .i64 a0, .string ib, .bool over, .slice A l.length cc, .bool o, .string tb, .int .u8 kind]] w fun e w' => e = .returned (.agg #[.int .i64 a0, .string ib, .bool over, .slice A l.length cc, .bool o, .string tb, .int .u8 kind]) ∧ Below w.heap.size w w'
  go_enter Tryd.func57, Tryd.ntmps57
  go_wp2
  exact bodyPost_ret (v := .agg #[.int .i64 a0, .string ib, .bool over, .slice A l.length cc, .bool o, .string tb, .int .u8 kind]) (by simp [results, Tryd.results57, go_sem]) rfl ⟨rfl, ((Below.refl _ _).alloc (Nat.le_refl _) _).alloc (by simp) _⟩
set_option maxRecDepth 100000 in
set_option maxHeartbeats 1600000 in
theorem theirs6_any (v : Sv) (w : World) : Calls Tryd.prog 54 #[v.val] w fun e w' => e = .returned v.val ∧ Below w.heap.size w w' := by
  obtain ⟨⟨a0, inter, over, l, o, text, kind⟩, ib, tb, A, cc⟩ := v
  show Calls Tryd.prog 54 #[.agg #[.int .i64 a0, .string ib, .bool over, .slice A l.length cc, .bool o, .string tb, .int .u8 kind]] w fun e w' => e = .returned (.agg #[.int .i64 a0, .string ib, .bool over, .slice A l.length cc, .bool o, .string tb, .int .u8 kind]) ∧ Below w.heap.size w w'
  go_enter Tryd.func54, Tryd.ntmps54
  go_wp2
  exact bodyPost_ret (v := .agg #[.int .i64 a0, .string ib, .bool over, .slice A l.length cc, .bool o, .string tb, .int .u8 kind]) (by simp [results, Tryd.results54, go_sem]) rfl ⟨rfl, ((Below.refl _ _).alloc (Nat.le_refl _) _).alloc (by simp) _⟩
set_option maxRecDepth 100000 in
set_option maxHeartbeats 3200000 in
theorem same6_any {lo lo' : Nat} (v u : Sv) (w : World) (hvu : v.s = u.s) (hv : v.Tx) (hu : u.Tx) (hr : RdLL w lo w.heap.size (.slice v.A v.s.l.length v.c) v.s.l) (hr' : RdLL w lo' w.heap.size (.slice u.A u.s.l.length u.c) u.s.l)
    (hm : ∀ q ∈ v.s.l, q.length ≤ 1000000) (hl : v.s.l.length ≤ 1000000) : Calls Tryd.prog 53 #[v.val, u.val] w fun e w' => e = .returned (.bool true) ∧ Below w.heap.size w w' := by
  obtain ⟨⟨a0, inter, over, l, o, text, kind⟩, ib, tb, A, cc⟩ := v
  obtain ⟨s2, ib2, tb2, A2, c2⟩ := u
  simp only at hvu
  subst hvu
  have e1 := bI_inj (hv.ib.trans hu.ib.symm)
  have e2 := bI_inj (hv.tb.trans hu.tb.symm)
  simp only at e1 e2
  subst e1; subst e2
  simp only at hr hr' hm hl
  have hb2 : Below w.heap.size w ((w.alloc (.cells #[.int .i64 a0, .string ib, .bool over, .slice A l.length cc, .bool o, .string tb, .int .u8 kind] 88)).alloc (.cells #[.int .i64 a0, .string ib, .bool over, .slice A2 l.length c2, .bool o, .string tb, .int .u8 kind] 88)) := ((Below.refl _ _).alloc (Nat.le_refl _) _).alloc (by simp) _
  have HB2 := Lib.hid hb2
  have HR := Lib.hid (hr.next hb2); have HR' := Lib.hid (hr'.next hb2); have HM := Lib.hid hm
  have HD : Hid (decide (l = l) = true) := Lib.hid (by simp)
  clear hv hu hr hr' hm hb2
  show Calls Tryd.prog 53 #[.agg #[.int .i64 a0, .string ib, .bool over, .slice A l.length cc, .bool o, .string tb, .int .u8 kind], .agg #[.int .i64 a0, .string ib, .bool over, .slice A2 l.length c2, .bool o, .string tb, .int .u8 kind]] w _
  go_enter Tryd.func53, Tryd.ntmps53
  go_wp2_with fail
  refine (same5_any l l _ _ _ HR.out HR'.out HM.out hl).mono ?_
  rintro e _ ⟨rfl, m1, rfl⟩
  simp only [HD.out]
  go_wp2_with fail
  go_ret
  exact ⟨rfl, HB2.out.trans ⟨rfl, rfl, rfl, Nat.le_refl _, fun _ _ => rfl⟩⟩
/-- parameters that are few enough to be held against each other -/
def ParB (l : List (List Int)) : Prop := l.length ≤ 1000000 ∧ ∀ q ∈ l, q.length ≤ 1000000
set_option maxRecDepth 100000 in
set_option maxHeartbeats 3200000 in
theorem actions_any {v u : Sv} {hi hi' : Nat} (L : List Ax) (vs us : List Av) (A B : Option Addr) (c d : Nat) (w : World) (ha : Acts v hi w A L vs) (hb : Acts u hi' w B L us)
    (hv : RdLL w 0 w.heap.size (.slice v.A v.s.l.length v.c) v.s.l) (hu : RdLL w 0 w.heap.size (.slice u.A u.s.l.length u.c) u.s.l) (hp : ∀ x ∈ L, ParB x.par) (hL : L.length ≤ 1000000) :
    Calls Tryd.prog 55 #[.slice A L.length c, .slice B L.length d] w fun e w' => e = .returned (.bool true) ∧ Below w.heap.size w w' := by
  have hlv := ha.len
  have hlu := hb.len
  have HA := Lib.hid ha; have HB := Lib.hid hb; have HV := Lib.hid hv; have HU := Lib.hid hu; have HP := Lib.hid hp
  obtain ⟨n, hn⟩ : ∃ n, L.length = n := ⟨_, rfl⟩
  have HN := Lib.hid hn
  rw [hn] at hlv hlu hL
  rw [hn]
  clear hn ha hb hv hu hp
  go_enter Tryd.func55, Tryd.ntmps55
  go_wp2_with fail
  go_loopw [5] (fun i wr => ∃ k : Nat, k ≤ n ∧ i = .int .i64 k ∧ Below w.heap.size w wr) (fun i _ => n - (intOf i).toNat)
  case atStart => exact ⟨0, Nat.zero_le _, rfl, Below.refl _ _⟩
  case round =>
    obtain ⟨k, hk, rfl, hbr⟩ := hrel
    have BR := Lib.hid hbr
    have hsz := hbr.size
    by_cases hlt : k < n
    · have hkv : k < vs.length := by omega
      have hku : k < us.length := by omega
      obtain ⟨b, off, hA, hbB, x0, x1, x2, x3, x4, x5⟩ := av_at (HA.out.next hbr).rd k hkv
      obtain ⟨b', off', hA', hbB', y0, y1, y2, y3, y4, y5⟩ := av_at (HB.out.next hbr).rd k hku
      subst hA; subst hA'
      have ev : vs[k].x = L[k]'(by rw [HN.out]; omega) := by
        have := congrArg (fun l => l[k]?) HA.out.map
        simp only [List.getElem?_map, List.getElem?_eq_getElem hkv, List.getElem?_eq_getElem (show k < L.length by rw [HN.out]; omega), Option.map_some, Option.some.injEq] at this
        exact this
      have eu : us[k].x = L[k]'(by rw [HN.out]; omega) := by
        have := congrArg (fun l => l[k]?) HB.out.map
        simp only [List.getElem?_map, List.getElem?_eq_getElem hku, List.getElem?_eq_getElem (show k < L.length by rw [HN.out]; omega), Option.map_some, Option.some.injEq] at this
        exact this
      have hpb : ParB vs[k].x.par := by rw [ev]; exact HP.out _ (List.getElem_mem _)
      obtain ⟨tx, px⟩ := (HA.out.next hbr).ok vs[k] (List.getElem_mem hkv)
      obtain ⟨ty, py⟩ := (HB.out.next hbr).ok us[k] (List.getElem_mem hku)
      have rx := px.rd (HV.out.next hbr)
      have ry := py.rd (HU.out.next hbr)
      have exy : vs[k].x = us[k].x := ev.trans eu.symm
      obtain ⟨⟨⟨wh, rr, fn, inter, par, text⟩, ib, tb, A1, c1⟩, hvk⟩ : ∃ x, vs[k] = x := ⟨_, rfl⟩
      obtain ⟨⟨s2, ib2, tb2, A2, c2⟩, huk⟩ : ∃ x, us[k] = x := ⟨_, rfl⟩
      rw [hvk] at x0 x1 x2 x3 x4 x5 tx rx exy hpb
      rw [huk] at y0 y1 y2 y3 y4 y5 ty ry exy
      simp only at exy
      subst exy
      have e1 := bI_inj (tx.ib.trans ty.ib.symm)
      have e2 := bI_inj (tx.tb.trans ty.tb.symm)
      simp only at e1 e2
      subst e1; subst e2
      simp only at x0 x1 x2 x3 x4 x5 y0 y1 y2 y3 y4 y5 rx ry
      have hb2 : Below wr.heap.size wr ((wr.alloc (.cells #[.int .i64 wh, .int .i64 rr, .int .u8 fn, .string ib, .slice A1 par.length c1, .string tb] 96)).alloc (.cells #[.int .i64 wh, .int .i64 rr, .int .u8 fn, .string ib, .slice A2 par.length c2, .string tb] 96)) := ((Below.refl _ _).alloc (Nat.le_refl _) _).alloc (by simp) _
      have z0 := past_alloc (o := .cells #[.int .i64 wh, .int .i64 rr, .int .u8 fn, .string ib, .slice A1 par.length c1, .string tb] 96) (Below.refl _ _) y0; have z1 := past_alloc (o := .cells #[.int .i64 wh, .int .i64 rr, .int .u8 fn, .string ib, .slice A1 par.length c1, .string tb] 96) (Below.refl _ _) y1; have z2 := past_alloc (o := .cells #[.int .i64 wh, .int .i64 rr, .int .u8 fn, .string ib, .slice A1 par.length c1, .string tb] 96) (Below.refl _ _) y2
      have z3 := past_alloc (o := .cells #[.int .i64 wh, .int .i64 rr, .int .u8 fn, .string ib, .slice A1 par.length c1, .string tb] 96) (Below.refl _ _) y3; have z4 := past_alloc (o := .cells #[.int .i64 wh, .int .i64 rr, .int .u8 fn, .string ib, .slice A1 par.length c1, .string tb] 96) (Below.refl _ _) y4; have z5 := past_alloc (o := .cells #[.int .i64 wh, .int .i64 rr, .int .u8 fn, .string ib, .slice A1 par.length c1, .string tb] 96) (Below.refl _ _) y5
      have HB2 := Lib.hid hb2
      have HR := Lib.hid (rx.next hb2); have HR' := Lib.hid (ry.next hb2); have HPB := Lib.hid hpb
      have HD : Hid (decide (par = par) = true) := Lib.hid (by simp)
      have i0 : (0 : Int) ≤ (k : Int) := by omega
      have i1 : (k : Int) < (n : Int) := by omega
      clear hbr ev eu hpb tx ty px py rx ry hvk huk hb2
      go_wp2_with fail
      refine (same5_any par par _ _ _ HR.out HR'.out HPB.out.2 HPB.out.1).mono ?_
      rintro e _ ⟨rfl, m1, rfl⟩
      simp only [HD.out]
      go_wp2_with fail
      go_roundw
      case rel => exact ⟨k + 1, by omega, by go_num, (BR.out.trans (HB2.out.mono hsz)).trans ⟨rfl, rfl, rfl, Nat.le_refl _, fun _ _ => rfl⟩⟩
      case measure => simp [intOf]; omega
    · obtain rfl : k = n := by omega
      clear hbr
      go_wp2_with fail
      go_ret
      exact ⟨rfl, BR.out⟩
/-- a text's letters, each a byte -/
def byteOf8 (c : UInt8) : Int := (c.toNat : Int)
set_option maxRecDepth 100000 in
set_option maxHeartbeats 1600000 in
theorem letters_any (s : ByteArray) (w : World) (hs : s.size ≤ 100000) : Calls Tryd.prog 59 #[.string s] w fun e w' => ∃ A c, e = .returned (.slice A (bI s).length c) ∧ w'.ownsRow w.heap.size 3 1 (.slice A (bI s).length c) (bI s).length (nC (bI s)) ∧ Below w.heap.size w w' := by
  have hls : (bI s).length = s.size := bI_len s
  go_enter Tryd.func59, Tryd.ntmps59
  go_wp2_with fail
  go_loopw [3, 4] (fun all i wr => ∃ (k : Nat) (A : Option Addr) (c : Nat), k ≤ s.size ∧ i = .int .i64 k ∧ all = .slice A k c ∧ wr.ownsRow w.heap.size 3 1 (.slice A k c) k (nC ((bI s).take k)) ∧ Below w.heap.size w wr) (fun _ i _ => s.size - (intOf i).toNat)
  case atStart => exact ⟨0, none, 0, Nat.zero_le _, rfl, rfl, World.ownsRow_nil _ _ _ _, Below.refl _ _⟩
  case round =>
    obtain ⟨k, A, c, hk, rfl, rfl, hown, hbr⟩ := hrel
    have HO := Lib.hid hown; have BR := Lib.hid hbr
    have hsz := hbr.size
    by_cases hlt : k < s.size
    · have hix := index_str Tryd.underlying9 s (bI s) rfl k (by omega) wr
      obtain ⟨x, hx⟩ : ∃ x, (bI s)[k]'(by omega) = x := ⟨_, rfl⟩
      rw [hx] at hix
      have HX := Lib.hid hx
      have hxr : 0 ≤ x ∧ x < 256 := by
        have hm : x ∈ bI s := by rw [← hx]; exact List.getElem_mem _
        unfold bI at hm
        obtain ⟨y, _, rfl⟩ := List.mem_map.1 hm
        have := y.toNat_lt
        omega
      obtain ⟨hx0, hx1⟩ := hxr
      have HO2 : Hid (World.ownsRow (wr.alloc (.cells #[.int .i64 x] 3)) w.heap.size 3 1 (.slice A k c) k (nC ((bI s).take k))) := Lib.hid (own_past hown ((Below.refl _ _).alloc (Nat.le_refl _) _))
      clear hown hbr hx
      go_wp2_with (at_builtin; go_loud (refine wpList_push (by rfl) (.tmp 11) (.tmp 16) 47 el_num (by rfl) w.heap.size _ k (nC ((bI s).take k)) (by rfl) HO2.out wr.heap.size 1 [.int .i64 x] (by rfl) (heap_alloc_new wr _) rfl (by simp [Value.oneCell']) (by unfold maxLen; omega) (by omega) (by simp; omega) (wr.heap.size + 1) (by simp) ?_); intro g cap w3 ho3 hg3 hl3; refine Hid.out ?_)
      have hb3 : Below w.heap.size w w3 := (BR.out.alloc hsz (.cells #[.int .i64 x] 3)).trans (below_of_grown hg3 (by simp; omega) fun g' hg' => own_ge HO.out g' hg')
      have ho4 : w3.ownsRow w.heap.size 3 1 (.slice (some ⟨g, 0, none⟩) (k + 1) cap) (k + 1) (nC ((bI s).take (k + 1))) := by
        rw [List.take_succ_eq_append_getElem (by omega), HX.out, nC_append]
        exact ho3
      refine Lib.hid ?_
      clear ho3 hg3 hl3
      go_wp2_with fail
      go_roundw
      case rel => exact ⟨k + 1, _, _, by omega, by go_num, rfl, ho4, hb3⟩
      case measure => simp [intOf]; omega
    · obtain rfl : k = s.size := by omega
      clear hown hbr
      go_wp2_with fail
      go_ret
      refine ⟨A, c, by rw [hls]; rfl, ?_, BR.out⟩
      have := HO.out
      rw [List.take_of_length_le (by omega)] at this
      rw [hls]
      exact this
/-- .. as Feed reads them -/
theorem own_nC {w : World} {base n c : Nat} {A : Option Addr} {l : List Int} (h : w.ownsRow base 3 1 (.slice A n c) n (nC l)) : Rd w w.heap.size A (nC l) := Rd.of_own h
end Go.Proofs.YtcempbgbdlmjfaaDoor
