/-
  pen: the walks of inner and follow.
-/
import Derived.Test.YtcempbgbdlmjfaaDoorPeC
namespace Go.Proofs.YtcempbgbdlmjfaaDoor
open Go.RowKit

/-- a list of numbers that is handed back -/
def NumsRet (w : World) (r : List Int) (e : Ending) (w' : World) : Prop := ∃ A' c', e = .returned (.slice A' r.length c') ∧ Rd w' w'.heap.size A' (nC r) ∧ Below w.heap.size w w'
set_option maxRecDepth 100000 in
set_option maxHeartbeats 1600000 in
theorem inner_any (l : List Int) (A : Option Addr) (c : Nat) (w : World) (hr : Rd w w.heap.size A (nC l)) (hne : 0 < l.length) :
    Calls Tryd.prog 66 #[.slice A l.length c] w (NumsRet w (innerF l)) := by
  obtain ⟨b, off, rfl, hbB, hcl⟩ := nums_cells hr hne
  have c0 := hcl 0 hne
  rw [Nat.add_zero] at c0
  have g0 : l.getD 0 0 = l[0] := by simp [List.getD, hne]
  obtain ⟨x, hx⟩ : ∃ x, l[0] = x := ⟨_, rfl⟩
  rw [hx] at c0 g0
  clear hx
  have HR := Lib.hid hr
  clear hr
  by_cases h2 : x ≠ 2
  · have d1 : (x != 2) = true := bne_iff_ne.2 h2
    have hi : innerF l = l := by unfold innerF; rw [g0, if_pos (.inl h2)]
    have HI := Lib.hid hi
    clear hi h2 hcl g0
    go_enter Tryd.func66, Tryd.ntmps66
    go_wp2
    go_ret
    exact ⟨_, _, by rw [HI.out]; rfl, by rw [HI.out]; exact HR.out, Below.refl _ _⟩
  have hx2 : x = 2 := Decidable.byContradiction h2
  have d1 : (x != 2) = false := by rw [hx2]; rfl
  by_cases h5 : l.length < 5
  · have d2 : decide ((l.length : Int) < 5) = true := by simp; omega
    have hi : innerF l = l := by unfold innerF; rw [if_pos (.inr h5)]
    have HI := Lib.hid hi
    clear hi h2 hcl g0 h5 hx2
    go_enter Tryd.func66, Tryd.ntmps66
    go_wp2
    go_ret
    exact ⟨_, _, by rw [HI.out]; rfl, by rw [HI.out]; exact HR.out, Below.refl _ _⟩
  · have d2 : decide ((l.length : Int) < 5) = false := by simp; omega
    have c2 := hcl 2 (by omega)
    have c3 := hcl 3 (by omega)
    have c4 := hcl 4 (by omega)
    have g2 : l.getD 2 0 = l[2] := by simp [List.getD, show 2 < l.length by omega]
    have g3 : l.getD 3 0 = l[3] := by simp [List.getD, show 3 < l.length by omega]
    have g4 : l.getD 4 0 = l[4] := by simp [List.getD, show 4 < l.length by omega]
    have hi : innerF l = [(2 : Int), l[2], l[3], l[4]] := by unfold innerF; rw [g0, g2, g3, g4, if_neg (by omega)]
    obtain ⟨y, hy⟩ : ∃ y, l[2] = y := ⟨_, rfl⟩
    obtain ⟨z, hz⟩ : ∃ z, l[3] = z := ⟨_, rfl⟩
    obtain ⟨u, hu⟩ : ∃ u, l[4] = u := ⟨_, rfl⟩
    rw [hy] at c2 hi
    rw [hz] at c3 hi
    rw [hu] at c4 hi
    have i2 : (2 : Int) < l.length := by omega
    have i3 : (3 : Int) < l.length := by omega
    have i4 : (4 : Int) < l.length := by omega
    have j2 : 2 < l.length := by omega
    have j3 : 3 < l.length := by omega
    have j4 : 4 < l.length := by omega
    have HI := Lib.hid hi
    clear hi h2 hcl g0 g2 g3 g4 h5 hx2 hy hz hu
    go_enter Tryd.func66, Tryd.ntmps66
    go_wp2
    go_region_held3 (fun w' => w'.cell? ⟨b, off + 2, none⟩ = some (.int .i64 y) ∧ w'.cell? ⟨b, off + 3, none⟩ = some (.int .i64 z) ∧ w'.cell? ⟨b, off + 4, none⟩ = some (.int .i64 u)) (go_keep) (fail)
    go_wp2
    go_ret
    exact ⟨_, _, by rw [HI.out]; rfl, by rw [HI.out]; exact rd_of_block (cs := nC [2, y, z, u]) (heap_alloc_new w.drew _) (by simp), ((Below.refl _ _).drew.alloc (Nat.le_refl _) _)⟩

theorem follow_step (l : List (List Int)) (k : Nat) (h : k < (l.take 4).length) : ((l.take 4).take (k + 1)).map (fun q => q.headD (-1)) = ((l.take 4).take k).map (fun q => q.headD (-1)) ++ [((l.take 4)[k]).headD (-1)] := by
  rw [List.take_succ_eq_append_getElem h, List.map_append]; rfl
set_option maxRecDepth 100000 in
set_option maxHeartbeats 1600000 in
theorem follow_any {lo : Nat} (l : List (List Int)) (A : Option Addr) (c : Nat) (w : World) (hr : RdLL w lo w.heap.size (.slice A l.length c) l) :
    Calls Tryd.prog 67 #[.slice A l.length c] w (NumsRet w (followF l)) := by
  have hcap : l.length ≤ c := by
    obtain ⟨_, _, e, h⟩ := rdLL_form hr
    injection e with _ _ e
    omega
  obtain ⟨m, hm⟩ : ∃ m, (l.take 4).length = m := ⟨_, rfl⟩
  have hm2 : m = min 4 l.length := by rw [← hm]; simp
  have HR := Lib.hid hr; have HM := Lib.hid hm
  clear hr hm
  have i0 : (l.length : Int) ≤ c := by omega
  have hmin : m ≤ 4 := by omega
  have hml : m ≤ l.length := by omega
  by_cases h4 : (l.length : Int) ≤ 4
  · have e : m = l.length := by omega
    subst e
    have hT : (l.take 4).length = l.length := by rw [HM.out]
    have HT := Lib.hid hT
    clear hm2 hT
    go_enter Tryd.func67, Tryd.ntmps67
    go_wp2
    go_loopw [3, 13] (fun s i wr => ∃ (k : Nat) (A1 : Option Addr) (c1 : Nat), k ≤ l.length ∧ i = .int .i64 k ∧ s = .slice A1 k c1 ∧ wr.ownsRow w.heap.size 3 1 (.slice A1 k c1) k (nC (((l.take 4).take k).map fun q => q.headD (-1))) ∧ Below w.heap.size w wr) (fun _ i _ => l.length - (intOf i).toNat)
    case atStart => exact ⟨0, none, 0, Nat.zero_le _, rfl, rfl, World.ownsRow_nil _ _ _ _, Below.refl _ _⟩
    case round =>
      obtain ⟨k, A1, c1, hk, rfl, rfl, hown, hb⟩ := hrel
      have HO := Lib.hid hown
      clear hown
      by_cases hlt : k < l.length
      · obtain ⟨b, off, Ai, ci, rfl, hbB, hc, hci, hri⟩ := (HR.out.below hb (Nat.le_refl _)).at k (by omega)
        have hst := follow_step l k (by rw [HT.out]; exact hlt)
        rw [List.getElem_take] at hst
        obtain ⟨q, hq⟩ : ∃ q, l[k] = q := ⟨_, rfl⟩
        rw [hq] at hc hci hri hst
        have HST := Lib.hid hst
        clear hst hq
        have hk4 : k < 4 := by omega
        cases q with
        | nil =>
          have d1 : decide ((0 : Int) < (([] : List Int).length : Int)) = false := by simp
          go_wp2_with (at_builtin; go_loud (refine wpList_push (by rfl) (.tmp 23) (.tmp 25) 47 el_num (by rfl) w.heap.size _ k (nC (((l.take 4).take k).map fun q => q.headD (-1))) (by rfl) (HO.out.alloc _) wr.heap.size 1 [.int .i64 (-1)] (by rfl) (heap_alloc_new wr _) rfl (by simp [Value.oneCell']) (by unfold maxLen; omega) (by omega) (by have := hb.size; simp; omega) (wr.heap.size + 1) (by simp) ?_); intro g5 cap5 w5 ho5 hg5 hl5; have HO5 := Lib.hid ho5; have HG5 := Lib.hid hg5; clear ho5 hg5 hl5)
          go_roundw
          case rel =>
            refine ⟨k + 1, some ⟨g5, 0, none⟩, cap5, by omega, by go_num, rfl, ?_, (hb.alloc hb.size _).trans (below_of_grown HG5.out (by have := hb.size; simp; omega) (own_ge HO.out))⟩
            rw [HST.out, nC_append]
            exact HO5.out
          case measure => simp [intOf]; omega
        | cons x q' =>
          obtain ⟨b2, off2, rfl, hb2, hc2⟩ := hri (by simp [nC])
          have hc3 := hc2 0 (by simp [nC])
          have e3 : (nC (x :: q'))[0]'(by simp [nC]) = .int .i64 x := rfl
          rw [e3, Nat.add_zero] at hc3
          clear e3 hc2 hri
          have z1 : (0 : Int) < (q'.length : Int) + 1 := by omega
          go_wp2_with (at_builtin; go_loud (refine wpList_push (by rfl) (.tmp 23) (.tmp 25) 47 el_num (by rfl) w.heap.size _ k (nC (((l.take 4).take k).map fun q => q.headD (-1))) (by rfl) (HO.out.alloc _) wr.heap.size 1 [.int .i64 x] (by rfl) (heap_alloc_new wr _) rfl (by simp [Value.oneCell']) (by unfold maxLen; omega) (by omega) (by have := hb.size; simp; omega) (wr.heap.size + 1) (by simp) ?_); intro g5 cap5 w5 ho5 hg5 hl5; have HO5 := Lib.hid ho5; have HG5 := Lib.hid hg5; clear ho5 hg5 hl5)
          go_roundw
          case rel =>
            refine ⟨k + 1, some ⟨g5, 0, none⟩, cap5, by omega, by go_num, rfl, ?_, (hb.alloc hb.size _).trans (below_of_grown HG5.out (by have := hb.size; simp; omega) (own_ge HO.out))⟩
            rw [HST.out, nC_append]
            exact HO5.out
          case measure => simp [intOf]; omega
      · obtain rfl : k = l.length := by omega
        go_wp2
        go_ret
        have hf : ((l.take 4).take l.length).map (fun q => q.headD (-1)) = followF l := by rw [List.take_of_length_le (by rw [HT.out]; exact Nat.le_refl _)]; rfl
        have hfl : (followF l).length = (l.take 4).length := by simp [followF]
        have ho := HO.out
        rw [hf] at ho
        exact ⟨A1, c1, by rw [hfl, HT.out]; rfl, Rd.of_own ho, hb⟩
  · have e : m = 4 := by omega
    subst e
    have hT : (l.take 4).length = 4 := by rw [HM.out]
    have HT := Lib.hid hT
    clear hm2 hT
    go_enter Tryd.func67, Tryd.ntmps67
    go_wp2
    go_loopw [3, 13] (fun s i wr => ∃ (k : Nat) (A1 : Option Addr) (c1 : Nat), k ≤ 4 ∧ i = .int .i64 k ∧ s = .slice A1 k c1 ∧ wr.ownsRow w.heap.size 3 1 (.slice A1 k c1) k (nC (((l.take 4).take k).map fun q => q.headD (-1))) ∧ Below w.heap.size w wr) (fun _ i _ => 4 - (intOf i).toNat)
    case atStart => exact ⟨0, none, 0, Nat.zero_le _, rfl, rfl, World.ownsRow_nil _ _ _ _, Below.refl _ _⟩
    case round =>
      obtain ⟨k, A1, c1, hk, rfl, rfl, hown, hb⟩ := hrel
      have HO := Lib.hid hown
      clear hown
      by_cases hlt : k < 4
      · obtain ⟨b, off, Ai, ci, rfl, hbB, hc, hci, hri⟩ := (HR.out.below hb (Nat.le_refl _)).at k (by omega)
        have hst := follow_step l k (by rw [HT.out]; exact hlt)
        rw [List.getElem_take] at hst
        obtain ⟨q, hq⟩ : ∃ q, l[k] = q := ⟨_, rfl⟩
        rw [hq] at hc hci hri hst
        have HST := Lib.hid hst
        clear hst hq
        have hk4 : k < 4 := by omega
        cases q with
        | nil =>
          have d1 : decide ((0 : Int) < (([] : List Int).length : Int)) = false := by simp
          go_wp2_with (at_builtin; go_loud (refine wpList_push (by rfl) (.tmp 23) (.tmp 25) 47 el_num (by rfl) w.heap.size _ k (nC (((l.take 4).take k).map fun q => q.headD (-1))) (by rfl) (HO.out.alloc _) wr.heap.size 1 [.int .i64 (-1)] (by rfl) (heap_alloc_new wr _) rfl (by simp [Value.oneCell']) (by unfold maxLen; omega) (by omega) (by have := hb.size; simp; omega) (wr.heap.size + 1) (by simp) ?_); intro g5 cap5 w5 ho5 hg5 hl5; have HO5 := Lib.hid ho5; have HG5 := Lib.hid hg5; clear ho5 hg5 hl5)
          go_roundw
          case rel =>
            refine ⟨k + 1, some ⟨g5, 0, none⟩, cap5, by omega, by go_num, rfl, ?_, (hb.alloc hb.size _).trans (below_of_grown HG5.out (by have := hb.size; simp; omega) (own_ge HO.out))⟩
            rw [HST.out, nC_append]
            exact HO5.out
          case measure => simp [intOf]; omega
        | cons x q' =>
          obtain ⟨b2, off2, rfl, hb2, hc2⟩ := hri (by simp [nC])
          have hc3 := hc2 0 (by simp [nC])
          have e3 : (nC (x :: q'))[0]'(by simp [nC]) = .int .i64 x := rfl
          rw [e3, Nat.add_zero] at hc3
          clear e3 hc2 hri
          have z1 : (0 : Int) < (q'.length : Int) + 1 := by omega
          go_wp2_with (at_builtin; go_loud (refine wpList_push (by rfl) (.tmp 23) (.tmp 25) 47 el_num (by rfl) w.heap.size _ k (nC (((l.take 4).take k).map fun q => q.headD (-1))) (by rfl) (HO.out.alloc _) wr.heap.size 1 [.int .i64 x] (by rfl) (heap_alloc_new wr _) rfl (by simp [Value.oneCell']) (by unfold maxLen; omega) (by omega) (by have := hb.size; simp; omega) (wr.heap.size + 1) (by simp) ?_); intro g5 cap5 w5 ho5 hg5 hl5; have HO5 := Lib.hid ho5; have HG5 := Lib.hid hg5; clear ho5 hg5 hl5)
          go_roundw
          case rel =>
            refine ⟨k + 1, some ⟨g5, 0, none⟩, cap5, by omega, by go_num, rfl, ?_, (hb.alloc hb.size _).trans (below_of_grown HG5.out (by have := hb.size; simp; omega) (own_ge HO.out))⟩
            rw [HST.out, nC_append]
            exact HO5.out
          case measure => simp [intOf]; omega
      · obtain rfl : k = 4 := by omega
        go_wp2
        go_ret
        have hf : ((l.take 4).take 4).map (fun q => q.headD (-1)) = followF l := by rw [List.take_of_length_le (by rw [HT.out]; exact Nat.le_refl _)]; rfl
        have hfl : (followF l).length = (l.take 4).length := by simp [followF]
        have ho := HO.out
        rw [hf] at ho
        exact ⟨A1, c1, by rw [hfl, HT.out]; rfl, Rd.of_own ho, hb⟩
end Go.Proofs.YtcempbgbdlmjfaaDoor
