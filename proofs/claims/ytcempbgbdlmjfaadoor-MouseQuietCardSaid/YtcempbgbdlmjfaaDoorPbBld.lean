/-
  strings.Builder: the walks of copyCheck, WriteByte and WriteString, at a builder that the call itself has made.
-/
import Derived.Test.YtcempbgbdlmjfaaDoorShelf
import Derived.Test.YtcempbgbdlmjfaaDoorPaMem
import Derived.Test.YtcempbgbdlmjfaaDoorPaB
import Derived.Lib.AppendStr
import Derived.Lib.Builder
namespace Go.Proofs.YtcempbgbdlmjfaaDoor
open Go.RowKit

theorem sizeBld : (Tryd.prog.info? 119).map (·.size) = some 2 := by kernel_rfl
theorem liesBld : liesAt Tryd.prog Tryd.prog.depth 119 (2 / Tryd.prog.cellsOf 119) 0 119 1 = true := by kernel_rfl
theorem el_u8 : El Tryd.prog 72 5 1 1 := El.mk' Tryd.underlying72 (z := .int .u8 0) (by kernel_rfl) rfl (by omega)

set_option maxRecDepth 100000 in
set_option maxHeartbeats 1000000 in
theorem copyCheck_used (b : Nat) (w : World) (h0 : w.cell? ⟨b, 0, none⟩ = some (.pointer (some ⟨b, 0, none⟩))) :
    Calls Tryd.prog 93 #[.pointer (some ⟨b, 0, none⟩)] w fun e w' => e = .returned (.tuple #[]) ∧ w' = w := by
  obtain ⟨j, hj, _⟩ := Option.map_eq_some_iff.1 sizeBld
  go_enter Tryd.func93, Tryd.ntmps93
  go_wp2
  rw [Lib.run_neq_ptr_same w _ Tryd.underlying117 hj]
  go_wp2
  go_end0
  exact ⟨rfl, rfl⟩
set_option maxRecDepth 100000 in
set_option maxHeartbeats 1000000 in
theorem copyCheck_fresh (b : Nat) (w : World) (h0 : w.cell? ⟨b, 0, none⟩ = some (.pointer none)) (hsh : w.shape? b = some (119, 2)) (hfz : w.frozen? ⟨b, 0, none⟩ = false) :
    Calls Tryd.prog 93 #[.pointer (some ⟨b, 0, none⟩)] w fun e w' => e = .returned (.tuple #[]) ∧ w' = w.setCell ⟨b, 0, none⟩ (.pointer (some ⟨b, 0, none⟩)) := by
  obtain ⟨j, hj, hjs⟩ := Option.map_eq_some_iff.1 sizeBld
  go_enter Tryd.func93, Tryd.ntmps93
  go_wp2
  rw [Lib.run_to_unsafe w ⟨b, 0, none⟩ Tryd.underlying117 Tryd.underlying147 hj (by rw [hjs]; decide) hsh (Nat.zero_lt_succ 1)]
  simp only [Result.andThen]
  rw [Oper.upon_value]
  go_wp2
  rw [run_callFunc_extern Tryd.func101 (by kernel_rfl) (by kernel_rfl) (by kernel_rfl) (e := Extern.AbiNoEscape.same) (by kernel_rfl)]
  rw [Lib.run_noEscape]
  simp only [Result.andThen]
  rw [Oper.upon_value]
  go_wp2
  rw [Lib.run_from_unsafe w ⟨b, 0, none⟩ Tryd.underlying147 Tryd.underlying117 hj hsh liesBld]
  simp only [Result.andThen]
  rw [Oper.upon_value]
  go_wp2
  go_end0
  exact ⟨rfl, rfl⟩
theorem copyCheck_any (B b : Nat) (bs : List Value) (w : World) (h : Lib.IsBuilder 119 5 B b bs w) :
    Calls Tryd.prog 93 #[.pointer (some ⟨b, 0, none⟩)] w fun e w' => e = .returned (.tuple #[]) ∧ (Lib.BuilderAt 119 5 B b (.pointer (some ⟨b, 0, none⟩)) bs w' ∧ Below B w w') := by
  rcases h with h | h
  · refine (copyCheck_fresh b w h.cell0 h.shape h.frozen0).mono ?_
    rintro e w' ⟨rfl, rfl⟩
    exact ⟨rfl, h.used _, (Below.refl B w).setCell (p := ⟨b, 0, none⟩) h.1 _⟩
  · refine (copyCheck_used b w h.cell0).mono ?_
    rintro e w' ⟨rfl, rfl⟩
    exact ⟨rfl, h, Below.refl B _⟩

set_option maxRecDepth 100000 in
set_option maxHeartbeats 2000000 in
theorem writeByte_any (B b : Nat) (bs : List Value) (c : Int) (w : World) (h : Lib.IsBuilder 119 5 B b bs w) (hlen : bs.length + 1 ≤ 140737488355328) (hBw : B ≤ w.heap.size) :
    Calls Tryd.prog 74 #[.pointer (some ⟨b, 0, none⟩), .int .u8 c] w fun e w' => e = .returned .nilIface ∧ (Lib.IsBuilder 119 5 B b (bs ++ [.int .u8 c]) w' ∧ Below B w w') := by
  go_enter Tryd.func74, Tryd.ntmps74
  go_wp2_with (go_at_call 93; refine (copyCheck_any B b bs _ h).mono ?_; rintro e w1 ⟨rfl, h1, hb1⟩; refine Hid.out ?_)
  refine Lib.hid ?_
  obtain ⟨hB, v, hbk, hown, hne⟩ := h1
  have c0 : w1.cell? ⟨b, 0, none⟩ = some (.pointer (some ⟨b, 0, none⟩)) := by rw [Lib.cell_of_heap hbk]; rfl
  have c1 : w1.cell? ⟨b, 1, none⟩ = some v := by rw [Lib.cell_of_heap hbk]; rfl
  have hlt : b < w1.heap.size := bk_lt hbk
  have hz1 := hb1.size
  have HBK := Lib.hid hbk; have HO := Lib.hid hown; have HN := Lib.hid hne; have HB1 := Lib.hid hb1
  clear hbk hown hne hb1 h
  go_wp2_with (at_builtin; go_loud (refine wpList_push (by rfl) (.tmp 11) (.tmp 13) 72 el_u8 (by rfl) B v bs.length bs (by rfl) (HO.out.alloc _) w1.heap.size 1 [.int .u8 c] (by rfl) (heap_alloc_new w1 _) rfl (by simp [Value.oneCell']) (by unfold maxLen; omega) (by omega) (by simp; omega) (w1.heap.size + 1) (by simp) ?_); intro g5 cap5 w5 ho5 hg5 hl5; refine Hid.out ?_)
  refine Lib.hid ?_
  have hb2 : w5.heap[b]? = some (.cells #[.pointer (some ⟨b, 0, none⟩), v] 119 (0, 0)) := bk_grown (bk_alloc HBK.out _) hg5 HN.out
  have d0 : w5.cell? ⟨b, 0, none⟩ = some (.pointer (some ⟨b, 0, none⟩)) := by rw [Lib.cell_of_heap hb2]; rfl
  have d1 : w5.cell? ⟨b, 1, none⟩ = some v := by rw [Lib.cell_of_heap hb2]; rfl
  have f1 : w5.frozen? ⟨b, 1, none⟩ = false := Lib.frozen_of_heap hb2 1
  have HB2 := Lib.hid hb2; have HO5 := Lib.hid ho5; have HG5 := Lib.hid hg5
  clear hb2 ho5 hg5 hl5 c0 c1
  go_wp2
  go_ret
  refine ⟨rfl, .inr (Lib.BuilderAt.put (T := 119) (e := 5) hB HB2.out (bs' := bs ++ [.int .u8 c]) (by simpa using HO5.out) (by decide)), ?_⟩
  exact ((HB1.out.alloc (by omega) _).trans (below_of_grown HG5.out (by simp; omega) (fun k hk => own_ge HO.out k hk))).setCell hB _

set_option maxRecDepth 100000 in
set_option maxHeartbeats 2000000 in
theorem writeString_any (B b : Nat) (bs : List Value) (s : ByteArray) (w : World) (h : Lib.IsBuilder 119 5 B b bs w) (hlen : bs.length + s.size ≤ 140737488355328) (hBw : B ≤ w.heap.size) :
    Calls Tryd.prog 75 #[.pointer (some ⟨b, 0, none⟩), .string s] w fun e w' => e = .returned (.tuple #[.int .i64 s.size, .nilIface]) ∧ (Lib.IsBuilder 119 5 B b (bs ++ Lib.strCells s) w' ∧ Below B w w') := by
  obtain ⟨i0, z, _, hi, hz0, hz1, hz2, _⟩ := el_u8.out
  have hz : z = .int .u8 0 := by
    have h1 : (Tryd.prog.info? 5).map (·.zero) = some (some (.int .u8 0)) := by kernel_rfl
    rw [hi] at h1
    simp only [Option.map_some, Option.some.injEq] at h1
    rw [hz0] at h1
    exact Option.some.inj h1
  subst hz
  have HI := Lib.hid hi; have H0 := Lib.hid hz0; have H1 := Lib.hid hz1; have H2 := Lib.hid hz2
  clear hi hz0 hz1 hz2
  go_enter Tryd.func75, Tryd.ntmps75
  go_wp2_with (go_at_call 93; refine (copyCheck_any B b bs _ h).mono ?_; rintro e w1 ⟨rfl, h1, hb1⟩; refine Hid.out ?_)
  refine Lib.hid ?_
  obtain ⟨hB, v, hbk, hown, hne⟩ := h1
  have c0 : w1.cell? ⟨b, 0, none⟩ = some (.pointer (some ⟨b, 0, none⟩)) := by rw [Lib.cell_of_heap hbk]; rfl
  have c1 : w1.cell? ⟨b, 1, none⟩ = some v := by rw [Lib.cell_of_heap hbk]; rfl
  have hlt : b < w1.heap.size := bk_lt hbk
  have hz1 := hb1.size
  have HBK := Lib.hid hbk; have HO := Lib.hid hown; have HN := Lib.hid hne; have HB1 := Lib.hid hb1
  clear hbk hown hne hb1 h
  go_wp2_with (at_builtin; go_loud (refine Lib.wpList_append_own_string _ rfl (.tmp 12) (.tmp 13) 72 9 rfl B 5 i0 Tryd.underlying72 Tryd.underlying9 HI.out H0.out H1.out H2.out _ _ _ rfl HO.out s rfl (by unfold maxLen; omega) (by omega) (by omega) ?_); intro v' w2 ho5 hg5 _h; refine Hid.out ?_)
  refine Lib.hid ?_
  have hb2 : w2.heap[b]? = some (.cells #[.pointer (some ⟨b, 0, none⟩), v] 119 (0, 0)) := bk_grown HBK.out hg5 HN.out
  have d0 : w2.cell? ⟨b, 0, none⟩ = some (.pointer (some ⟨b, 0, none⟩)) := by rw [Lib.cell_of_heap hb2]; rfl
  have d1 : w2.cell? ⟨b, 1, none⟩ = some v := by rw [Lib.cell_of_heap hb2]; rfl
  have f1 : w2.frozen? ⟨b, 1, none⟩ = false := Lib.frozen_of_heap hb2 1
  obtain ⟨ao, cp, rfl, _⟩ := own_slice ho5
  have HB2 := Lib.hid hb2; have HO5 := Lib.hid ho5; have HG5 := Lib.hid hg5
  clear hb2 ho5 hg5 _h c0 c1
  go_wp2
  go_ret2
  refine ⟨rfl, .inr (Lib.BuilderAt.put (T := 119) (e := 5) hB HB2.out (bs' := bs ++ Lib.strCells s) (by simpa [Lib.strCells_length] using HO5.out) (by decide)), ?_⟩
  exact (HB1.out.trans (below_of_grown HG5.out (by omega) (fun k hk => own_ge HO.out k hk))).setCell hB _
end Go.Proofs.YtcempbgbdlmjfaaDoor
