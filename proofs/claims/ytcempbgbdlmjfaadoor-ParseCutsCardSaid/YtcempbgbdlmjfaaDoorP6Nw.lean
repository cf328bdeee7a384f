/-
  parse: what a call laid into a new variable, in a region that draws its order.
-/
import Derived.Test.YtcempbgbdlmjfaaDoorP6Aw
import Derived.Deep.DeepCutAuto
import Derived.Deep.RegionWith
namespace Go.Proofs.YtcempbgbdlmjfaaDoor
open Go.RowKit

/-- what a step laid into a new variable -/
def StNew (vr : Sv) (wr wx : World) (s7 s8 : Value) (s' : St) (L : List Ax) (m : Nat) : Prop := ∃ (t : Sv) (g c : Nat) (A : Option Addr) (vs : List Av), s7 = .pointer (some ⟨g, 0, none⟩) ∧ s8 = .slice A m c ∧ SAt wx g t ∧ t.s = s' ∧ t.Tx ∧
  ParOk vr wr.heap.size wx t.A t.c t.s.l ∧ Acts vr wr.heap.size wx A L vs ∧ wr.heap.size ≤ g ∧ Below wr.heap.size wr wx
theorem stn_1 {vr t : Sv} {wr w4 : World} {s' : St} {L : List Ax} {m c : Nat} {A : Option Addr} {vs : List Av} (hb : Below wr.drew.heap.size wr.drew w4) (hs : t.s = s') (ht : t.Tx) (hp : ParOk vr wr.drew.heap.size w4 t.A t.c t.s.l) (ha : Acts vr wr.drew.heap.size w4 A L vs) :
    StNew vr wr (w4.alloc (.cells t.cells.toArray 82)) (.pointer (some ⟨w4.heap.size, 0, none⟩)) (.slice A m c) s' L m := by
  have hb0 : Below wr.heap.size wr w4 := (Below.refl _ _).drew.trans hb
  have bx : Below w4.heap.size w4 (w4.alloc (.cells t.cells.toArray 82)) := (Below.refl _ _).alloc (Nat.le_refl _) _
  exact ⟨t, w4.heap.size, c, A, vs, rfl, rfl, heap_alloc_new w4 _, hs, ht, hp.next bx, ha.next bx, hb0.size, hb0.alloc hb0.size _⟩
theorem stn_2 {vr t : Sv} {wr w4 : World} {s' : St} {L : List Ax} {m c : Nat} {A : Option Addr} {vs : List Av} (hb : Below (wr.alloc (.cells #[.int .i64 0, .string ⟨#[]⟩, .bool false, .slice none 0 0, .bool false, .string ⟨#[]⟩, .int .u8 0] 82)).drew.heap.size (wr.alloc (.cells #[.int .i64 0, .string ⟨#[]⟩, .bool false, .slice none 0 0, .bool false, .string ⟨#[]⟩, .int .u8 0] 82)).drew w4) (hs : t.s = s') (ht : t.Tx)
    (hp : ParOk vr (wr.alloc (.cells #[.int .i64 0, .string ⟨#[]⟩, .bool false, .slice none 0 0, .bool false, .string ⟨#[]⟩, .int .u8 0] 82)).drew.heap.size w4 t.A t.c t.s.l) (ha : Acts vr (wr.alloc (.cells #[.int .i64 0, .string ⟨#[]⟩, .bool false, .slice none 0 0, .bool false, .string ⟨#[]⟩, .int .u8 0] 82)).drew.heap.size w4 A L vs) :
    StNew vr wr (World.put7 w4 wr.heap.size t) (.pointer (some ⟨wr.heap.size, 0, none⟩)) (.slice A m c) s' L m := by
  have e : (wr.alloc (.cells #[.int .i64 0, .string ⟨#[]⟩, .bool false, .slice none 0 0, .bool false, .string ⟨#[]⟩, .int .u8 0] 82)).drew.heap.size = wr.heap.size + 1 := by show (wr.alloc (.cells #[.int .i64 0, .string ⟨#[]⟩, .bool false, .slice none 0 0, .bool false, .string ⟨#[]⟩, .int .u8 0] 82)).heap.size = _; simp
  rw [e] at hb hp ha
  have hs4 : SAt w4 wr.heap.size sv0 := bk_past (w := (wr.alloc (.cells #[.int .i64 0, .string ⟨#[]⟩, .bool false, .slice none 0 0, .bool false, .string ⟨#[]⟩, .int .u8 0] 82)).drew) (heap_alloc_new wr _) hb (by rw [e]; exact Nat.le_refl _)
  have hb0 : Below wr.heap.size wr w4 := ((Below.refl _ _).alloc (Nat.le_refl _) _ : Below wr.heap.size wr (wr.alloc (.cells #[.int .i64 0, .string ⟨#[]⟩, .bool false, .slice none 0 0, .bool false, .string ⟨#[]⟩, .int .u8 0] 82))).drew.trans (hb.mono (by omega))
  exact ⟨t, wr.heap.size, c, A, vs, rfl, rfl, hs4.put t, hs, ht, (hp.put7 wr.heap.size (by omega) t).less (by omega), (ha.put7 wr.heap.size (by omega) t).less (by omega), Nat.le_refl _, below_put7 hb0 (Nat.le_refl _) t⟩
theorem RdLL.put7 {w : World} {lo B : Nat} {v : Value} {L : List (List Int)} (h : RdLL w lo B v L) (b : Nat) (hb : b < lo) (v' : Sv) : RdLL (World.put7 w b v') lo B v L :=
  ((((((h.far (p := ⟨b, 0, none⟩) hb _).far (p := ⟨b, 1, none⟩) hb _).far (p := ⟨b, 2, none⟩) hb _).far (p := ⟨b, 3, none⟩) hb _).far (p := ⟨b, 4, none⟩) hb _).far (p := ⟨b, 5, none⟩) hb _).far (p := ⟨b, 6, none⟩) hb _
theorem few_next {vr t : Sv} {W1 wr wc : World} {b B : Nat} (hsat : SAt wc b vr) (rd : RdLL wr (b + 1) wr.heap.size (.slice vr.A vr.s.l.length vr.c) vr.s.l) (hb2 : Below wr.heap.size wr wc) (hbr : Below B W1 wr) (hB : B ≤ b)
    (hp : ParOk vr wr.heap.size wc t.A t.c t.s.l) (hbz : b < wr.heap.size) : SAt (World.put7 wc b t) b t ∧ RdLL (World.put7 wc b t) (b + 1) (World.put7 wc b t).heap.size (.slice t.A t.s.l.length t.c) t.s.l ∧ Below B W1 (World.put7 wc b t) := by
  refine ⟨hsat.put t, ?_, below_put7 (hbr.trans (hb2.mono (by omega))) hB t⟩
  rw [put7_size]
  rcases hp with ⟨h1, h2, h3⟩ | h
  · rw [h1, h2, h3]
    exact (rd.next hb2).put7 b (by omega) t
  · exact (h.less (by omega)).put7 b (by omega) t
end Go.Proofs.YtcempbgbdlmjfaaDoor
