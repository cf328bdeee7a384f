/-
  params: the walk of begun.
-/
import Derived.Test.YtcempbgbdlmjfaaDoorPaA
import Derived.Laws.OwnMore
namespace Go.Proofs.YtcempbgbdlmjfaaDoor
open Go.RowKit

theorem el_num : El Tryd.prog 47 3 1 8 := El.mk' Tryd.underlying47 (z := .int .i64 0) (by kernel_rfl) rfl (by omega)
theorem el_row : El Tryd.prog 42 47 1 24 := El.mk' Tryd.underlying42 (z := .slice none 0 0) (by kernel_rfl) rfl (by omega)
theorem info_rows : (Tryd.prog.info? 47).map (fun i => (i.zero, i.size, i.bytes)) = some (some (.slice none 0 0), 1, 24) := by kernel_rfl
theorem made_nil (n : Nat) : (madeCells #[.slice none 0 0] n).toList = List.replicate n (.slice none 0 0) := by
  apply List.ext_getElem
  · simp [madeCells]
  · intro j h1 h2
    simp [madeCells, Nat.mod_one]
theorem cells_nil : Value.cells (.slice none 0 0) = #[.slice none 0 0] := rfl
/-- a new outer row, all of it empty -/
theorem own_made {w : World} {base : Nat} {e1 e0 : TypeId} {n : Nat} {v : Value} (h : w.ownsRow base e1 1 v n (List.replicate n (.slice none 0 0))) : OwnLL w base e1 e0 v (List.replicate n []) (List.replicate n (.slice none 0 0)) :=
  ⟨by rw [List.length_replicate]; exact h, fun i hi => ⟨.slice none 0 0, by rw [List.length_replicate] at hi; rw [List.getElem?_replicate, if_pos hi], by
      rw [List.getElem_replicate]; exact World.ownsRow_nil w base e0 1, apart_nil _ _ _⟩,
    fun i j u u' _ h1 _ => by
      have := List.mem_of_getElem? h1
      rw [List.mem_replicate] at this
      rw [this.2]
      exact (apart_nil _ _ _).symm⟩
theorem take_fill (L : List (List Int)) (k : Nat) (h : k < L.length) : (L.take k ++ List.replicate (L.length - k) []).set k L[k] = L.take (k + 1) ++ List.replicate (L.length - (k + 1)) [] := by
  obtain ⟨m, hm⟩ : ∃ m, L.length - k = m + 1 := ⟨L.length - k - 1, by omega⟩
  have hm' : L.length - (k + 1) = m := by omega
  rw [hm, hm', List.replicate_succ, List.set_append_right _ _ (by simp; omega), List.take_succ_eq_append_getElem h]
  have : k - (L.take k).length = 0 := by simp; omega
  rw [this, List.append_assoc]
  rfl

/-- a list of one row that lies in two new blocks -/
theorem own_one (w : World) (base : Nat) (hb : base ≤ w.heap.size) (e1 e0 : TypeId) (x : Int) :
    OwnLL ((w.alloc (.cells #[.int .i64 x] e0)).alloc (.cells #[.slice (some ⟨w.heap.size, 0, none⟩) 1 1] e1)) base e1 e0 (.slice (some ⟨w.heap.size + 1, 0, none⟩) 1 1) [[x]] [.slice (some ⟨w.heap.size, 0, none⟩) 1 1] := by
  have h1 : (w.alloc (.cells #[.int .i64 x] e0)).ownsRow base e0 1 (.slice (some ⟨w.heap.size, 0, none⟩) 1 1) 1 [.int .i64 x] := World.ownsRow_lit w #[.int .i64 x] 1 hb (by unfold maxLen; omega) rfl
  have h2 := World.ownsRow_lit (base := base) (e := e1) (size := 1) (w.alloc (.cells #[.int .i64 x] e0)) #[.slice (some ⟨w.heap.size, 0, none⟩) 1 1] 1 (by simp; omega) (by unfold maxLen; omega) rfl
  have hs : (w.alloc (.cells #[.int .i64 x] e0)).heap.size = w.heap.size + 1 := by simp
  rw [hs] at h2
  refine ⟨h2, fun i hi => ?_, fun i j u u' hij _ h => ?_⟩
  · have : i = 0 := by simp at hi; omega
    subst this
    exact ⟨_, rfl, h1.alloc _, fun g hg => by simp [Value.ownBlock] at hg ⊢; omega⟩
  · have : j < 1 := (List.getElem?_eq_some_iff.1 h).1
    omega

theorem rd_one (w : World) (n base : Nat) (hn : w.heap.size = n) (hb : base ≤ n) (e1 e0 : TypeId) (x : Int) :
    RdLL ((w.alloc (.cells #[.int .i64 x] e0)).alloc (.cells #[.slice (some ⟨n, 0, none⟩) 1 1] e1)) base ((w.alloc (.cells #[.int .i64 x] e0)).alloc (.cells #[.slice (some ⟨n, 0, none⟩) 1 1] e1)).heap.size (.slice (some ⟨n + 1, 0, none⟩) 1 1) [[x]] := by
  subst hn
  exact (own_one w base hb e1 e0 x).rd

set_option maxRecDepth 100000 in
set_option maxHeartbeats 1600000 in
theorem begun_any {lo : Nat} (L : List (List Int)) (o : Bool) (v : Value) (w : World) (hr : RdLL w lo w.heap.size v L) (hs : saneP ⟨L, o⟩ = true) :
    Calls Tryd.prog 70 #[.agg #[v, .bool o]] w fun e w' => ∃ A' c' vs', e = .returned (.agg #[.slice A' (begunP ⟨L, o⟩).l.length c', .bool (begunP ⟨L, o⟩).o]) ∧
      OwnLL w' w.heap.size 47 3 (.slice A' (begunP ⟨L, o⟩).l.length c') (begunP ⟨L, o⟩).l vs' ∧ Below w.heap.size w w' := by
  obtain ⟨A, c, rfl, hcap⟩ := rdLL_form hr
  by_cases h0 : L = []
  · subst h0
    have hb : begunP ⟨[], o⟩ = ⟨[[-1]], true⟩ := rfl
    rw [hb]
    clear hs hr hb
    have h3 := own_one ((w.alloc (.cells #[.slice A 0 c, .bool o] 59)).alloc (.cells #[.slice (some ⟨w.heap.size + 1 + 1 + 1, 0, none⟩) 1 1, .bool true] 59)) w.heap.size (by simp; omega) 47 3 (-1)
    rw [show ((w.alloc (.cells #[.slice A 0 c, .bool o] 59)).alloc (.cells #[.slice (some ⟨w.heap.size + 1 + 1 + 1, 0, none⟩) 1 1, .bool true] 59)).heap.size = w.heap.size + 1 + 1 by simp] at h3
    have H3 := Lib.hid h3; clear h3
    go_enter Tryd.func70, Tryd.ntmps70
    go_wp2
    exact bodyPost_ret (v := .agg #[.slice (some ⟨w.heap.size + 1 + 1 + 1, 0, none⟩) 1 1, .bool true]) (by simp [results, Tryd.results70, go_sem]) rfl ⟨_, _, _, rfl, H3.out,
      ((((Below.refl w.heap.size w).alloc (Nat.le_refl _) _).alloc (by simp) _).alloc (by simp; omega) _).alloc (by simp; omega) _⟩
  · have hS := (saneP_iff _).1 hs
    have h16 : L.length ≤ 16 := hS.1
    have hq : ∀ (k : Nat) (hk : k < L.length), L[k].length ≤ 6 := fun k hk => ((okRow_iff _).1 (hS.2.2 _ (List.getElem_mem hk))).1.2
    have hb : begunP ⟨L, o⟩ = ⟨L, o⟩ := by unfold begunP; rw [if_neg h0]
    rw [hb]
    have hpos : 0 < L.length := List.length_pos_iff.2 h0
    have hz : ((L.length : Int) == 0) = false := beq_eq_false_iff_ne.2 (by omega)
    have HQ := Lib.hid hq; have HR := Lib.hid hr
    clear hs hS hb h0 hq hr
    obtain ⟨ib, hib, hib0, hib1, hib2⟩ := info_parts info_rows
    have HIB := Lib.hid hib
    clear hib
    go_enter Tryd.func70, Tryd.ntmps70
    have tn := two_new w (.cells #[.slice A L.length c, .bool o] 59) (.cells #[.slice none 0 0, .bool false] 59)
    have TN := Lib.hid tn; clear tn
    go_wp2_with (at_make; go_loud (refine wpList_make_full _ rfl _ _ 42 rfl (w.heap.size + 2) 47 ib (.slice none 0 0) 1 Tryd.underlying42 HIB.out hib0 hib1 _ _ _ _ L.length rfl rfl rfl rfl (by rw [hib2]; omega) (by unfold maxLen; omega) (by simp) ?_); intro w2 hown2 hgrow2; have n0 := bk_grown TN.out.1 hgrow2 (by simp); have n1 := bk_grown TN.out.2 hgrow2 (by simp); have N0 := Lib.hid n0; have N1 := Lib.hid n1; have z0 := bk_cell n0 0 _ rfl; have z1 := bk_cell n0 1 _ rfl; clear n0 n1)
    rw [cells_nil, Nat.mul_one, made_nil] at hown2
    rw [show ((w.alloc (.cells #[.slice A L.length c, .bool o] 59)).alloc (.cells #[.slice none 0 0, .bool false] 59)).heap.size = w.heap.size + 1 + 1 by simp] at hown2
    have b2 : Below w.heap.size w w2 := (((Below.refl w.heap.size w).alloc (Nat.le_refl _) _).alloc (by simp) _).trans (below_none hgrow2 (by simp; omega))
    have OW2 := Lib.hid (own_made (e0 := 3) hown2)
    clear hown2 hgrow2 TN z0 z1
    go_loopw [20] (fun i wr => ∃ (k : Nat) (vs : List Value), k ≤ L.length ∧ i = .int .i64 k ∧ OwnLL wr (w.heap.size + 2) 47 3 (.slice (some ⟨w.heap.size + 1 + 1, 0, none⟩) L.length L.length) (L.take k ++ List.replicate (L.length - k) []) vs ∧
      wr.heap[w.heap.size]? = some (.cells #[.slice A L.length c, .bool o] 59 (0, 0)) ∧ wr.heap[w.heap.size + 1]? = some (.cells #[.slice none 0 0, .bool false] 59 (0, 0)) ∧ Below w.heap.size w wr) (fun i _ => L.length - (intOf i).toNat)
    case atStart => exact ⟨0, _, Nat.zero_le _, rfl, OW2.out, N0.out, N1.out, b2⟩
    case round =>
      obtain ⟨k, vs, hk, rfl, ho, m0, m1, hb⟩ := hrel
      have HO := Lib.hid ho; have M0 := Lib.hid m0; have M1 := Lib.hid m1
      clear ho m0 m1 OW2 N0 N1 b2
      by_cases hlt : k < L.length
      · obtain ⟨b, off, Ai, ci, rfl, hbB, hc, hci, hri⟩ := (HR.out.below hb (Nat.le_refl _)).at k hlt
        have h6 := HQ.out k hlt
        have hk0 : (0 : Int) ≤ (k : Int) := by omega
        have hk1 : (k : Int) < (L.length : Int) := by omega
        have hw1 : w.heap.size + 1 < wr.heap.size := bk_lt M1.out
        have hlv : vs.length = L.length := by have := HO.out.len; simp at this; omega
        obtain ⟨u0, hu0⟩ : ∃ u0, vs[k]? = some u0 := ⟨_, List.getElem?_eq_getElem (by omega)⟩
        have HU := Lib.hid hu0; clear hu0
        have OU := Lib.hid HO.out.outer
        have hap : ∀ w7 : World, wr.grownBy w7 none → w7.frozen? ⟨w.heap.size + 1 + 1, k, none⟩ = false ∧ w7.cell? ⟨w.heap.size + 1 + 1, k, none⟩ = some u0 := fun w7 hg => by
          have o7 := OU.out.kept hg (.inr (by simp [Value.ownBlock]))
          have hl' : (L.take k ++ List.replicate (L.length - k) []).length = L.length := by simp; omega
          rw [hl'] at o7
          exact ⟨own_free o7 k, own_at o7 k u0 HU.out⟩
        have HAP := Lib.hid hap; clear hap
        have hput : ∀ (w7 : World) (u7 : Value), wr.grownBy w7 none → w7.ownsRow (w.heap.size + 2) 3 1 u7 L[k].length (nC L[k]) → (∀ g, u7.ownBlock = some g → wr.heap.size ≤ g) →
            OwnLL (w7.setCell ⟨w.heap.size + 1 + 1, k, none⟩ u7) (w.heap.size + 2) 47 3 (.slice (some ⟨w.heap.size + 1 + 1, 0, none⟩) L.length L.length) (L.take (k + 1) ++ List.replicate (L.length - (k + 1)) []) (vs.set k u7) ∧
            (w7.setCell ⟨w.heap.size + 1 + 1, k, none⟩ u7).heap[w.heap.size]? = some (.cells #[.slice (some ⟨b, off, none⟩) L.length c, .bool o] 59 (0, 0)) ∧
            (w7.setCell ⟨w.heap.size + 1 + 1, k, none⟩ u7).heap[w.heap.size + 1]? = some (.cells #[.slice none 0 0, .bool false] 59 (0, 0)) ∧
            Below w.heap.size w (w7.setCell ⟨w.heap.size + 1 + 1, k, none⟩ u7) := fun w7 u7 hg ho7 hl => by
          refine ⟨?_, bk_far (bk_grown M0.out hg (by simp)) (by simp; omega) _, bk_far (bk_grown M1.out hg (by simp)) (by simp) _, (hb.trans (below_none hg hb.size)).setCell (by simp; omega) _⟩
          rw [← take_fill L k hlt]
          exact HO.out.grow_put k (by simp; omega) u0 u7 HU.out (grown_none hg _) L[k] ho7 (fun g h => .inr (hl g h))
        have HPUT := Lib.hid hput; clear hput
        go_wp2_with (at_builtin; go_loud (refine wpList_cat (by rfl) (.const (.slice none 0 0)) (.tmp 27) 47 el_num (by rfl) (w.heap.size + 2) _ 0 [] (by rfl) (World.ownsRow_nil _ _ _ _) w.heap.size Ai L[k].length ci (nC L[k]) (by rfl) hri (by rw [nC_len]; omega) (nC_one _) (by unfold maxLen; omega) (by omega) (by omega) ?_); intro A7 c7 w7 hown7 hgrow7 hlies7; simp only [Nat.zero_add, List.nil_append] at hown7; have G7 := Lib.hid hgrow7; have L7 := Lib.hid hlies7; have O7 := Lib.hid hown7; clear hgrow7 hlies7 hown7; obtain ⟨f7, e7⟩ := HAP.out w7 G7.out)
        obtain ⟨r1, r2, r3, r4⟩ := HPUT.out w7 _ G7.out O7.out (fun g h => by
          rcases L7.out g (by rw [Nat.zero_add]; exact h) with h | h
          · simp [Value.ownBlock] at h
          · exact h)
        go_roundw
        case rel => exact ⟨k + 1, _, by omega, by go_num, r1, r2, r3, r4⟩
        case measure => simp [intOf]; omega
      · obtain rfl : k = L.length := by omega
        have y0 := bk_cell M0.out 0 _ rfl
        have y1 := bk_cell M0.out 1 _ rfl
        have x0 := bk_cell M1.out 0 _ rfl
        have x1 := bk_cell M1.out 1 _ rfl
        have f0 := bk_free M1.out 0
        have f1 := bk_free M1.out 1
        go_wp2
        have ho := HO.out
        rw [List.take_length, Nat.sub_self, List.replicate_zero, List.append_nil] at ho
        have hres := bk_set (bk_set M1.out 0 (.slice (some ⟨w.heap.size + 1 + 1, 0, none⟩) L.length L.length)) 1 (.bool o)
        have p0 := bk_cell hres 0 _ rfl
        have p1 := bk_cell hres 1 _ rfl
        refine bodyPost_ret (v := .agg #[.slice (some ⟨w.heap.size + 1 + 1, 0, none⟩) L.length L.length, .bool o]) (by simp [results, Tryd.results70, go_sem, p0, p1]) rfl ⟨_, _, vs, rfl, ?_, ?_⟩
        · exact ((ho.far (by simp) _).far (by simp) _).base (by omega)
        · exact (hb.setCell (by simp) _).setCell (by simp) _
end Go.Proofs.YtcempbgbdlmjfaaDoor
