/-
  pen: the walk of one, where it switches.
-/
import Derived.Test.YtcempbgbdlmjfaaDoorPeF
import Derived.Deep.RegionLaw
namespace Go.Proofs.YtcempbgbdlmjfaaDoor
open Go.RowKit

set_option maxRecDepth 100000 in
set_option maxHeartbeats 1600000 in
theorem one_u22 (fg bg fl : Int) (q : List Int) (A : Option Addr) (c : Nat) (w : World) (hr : Rd w w.heap.size A (nC (22 :: q))) (hT : TabP w)  :
    Calls Tryd.prog 64 #[.agg #[.int .i64 fg, .int .i64 bg, .int .i64 fl], .slice A (q.length + 1) c] w (PenRet w (oneF ⟨fg, bg, fl⟩ (22 :: q))) := by
  have he : oneF ⟨fg, bg, fl⟩ (22 :: q) = ⟨fg, bg, bits .andNot .i64 fl 3⟩ := by
    unfold oneF
    rw [if_neg (by simp; try omega), if_neg (by simp; try omega), if_neg (by simp; try omega), if_neg (by simp; try omega), if_neg (by simp; try omega), if_pos (by simp; try omega)]
    try rfl
  have HE := Lib.hid he
  clear he
  obtain ⟨b, off, rfl, hbB, hcl⟩ := nums_cells hr (by simp)
  have c0 := hcl 0 (by simp)
  simp only [List.getElem_cons_zero, Nat.add_zero] at c0
  have hT2 := (hT.alloc (.cells #[.int .i64 fg, .int .i64 bg, .int .i64 fl] 40)).alloc (.cells #[.int .i64 0, .int .i64 0, .int .i64 0] 40)
  have tc := hT2.unc 0 3 rfl
  have wk : IntKind.i64.wrap 0 = 0 := by decide
  clear hcl hr hT hT2
  go_enter Tryd.func64, Tryd.ntmps64
  go_upto_region 13 with (fail)
  go_region_law (fail)
  all_goals go_wp2
  all_goals
    exact bodyPost_ret (v := .agg #[.int .i64 (fg), .int .i64 (bg), .int .i64 (bits .andNot .i64 fl 3)]) (by simp [results, Tryd.results64, go_sem]) rfl ⟨by rw [HE.out], (((Below.refl _ _).alloc (Nat.le_refl _) _).alloc (by simp) _).drew⟩

set_option maxRecDepth 100000 in
set_option maxHeartbeats 1600000 in
theorem one_u23 (fg bg fl : Int) (q : List Int) (A : Option Addr) (c : Nat) (w : World) (hr : Rd w w.heap.size A (nC (23 :: q))) (hT : TabP w)  :
    Calls Tryd.prog 64 #[.agg #[.int .i64 fg, .int .i64 bg, .int .i64 fl], .slice A (q.length + 1) c] w (PenRet w (oneF ⟨fg, bg, fl⟩ (23 :: q))) := by
  have he : oneF ⟨fg, bg, fl⟩ (23 :: q) = ⟨fg, bg, bits .andNot .i64 fl 4⟩ := by
    unfold oneF
    rw [if_neg (by simp; try omega), if_neg (by simp; try omega), if_neg (by simp; try omega), if_neg (by simp; try omega), if_neg (by simp; try omega), if_pos (by simp; try omega)]
    try rfl
  have HE := Lib.hid he
  clear he
  obtain ⟨b, off, rfl, hbB, hcl⟩ := nums_cells hr (by simp)
  have c0 := hcl 0 (by simp)
  simp only [List.getElem_cons_zero, Nat.add_zero] at c0
  have hT2 := (hT.alloc (.cells #[.int .i64 fg, .int .i64 bg, .int .i64 fl] 40)).alloc (.cells #[.int .i64 0, .int .i64 0, .int .i64 0] 40)
  have tc := hT2.unc 1 4 rfl
  have wk : IntKind.i64.wrap 1 = 1 := by decide
  clear hcl hr hT hT2
  go_enter Tryd.func64, Tryd.ntmps64
  go_upto_region 13 with (fail)
  go_region_law (fail)
  all_goals go_wp2
  all_goals
    exact bodyPost_ret (v := .agg #[.int .i64 (fg), .int .i64 (bg), .int .i64 (bits .andNot .i64 fl 4)]) (by simp [results, Tryd.results64, go_sem]) rfl ⟨by rw [HE.out], (((Below.refl _ _).alloc (Nat.le_refl _) _).alloc (by simp) _).drew⟩

set_option maxRecDepth 100000 in
set_option maxHeartbeats 1600000 in
theorem one_u24 (fg bg fl : Int) (q : List Int) (A : Option Addr) (c : Nat) (w : World) (hr : Rd w w.heap.size A (nC (24 :: q))) (hT : TabP w)  :
    Calls Tryd.prog 64 #[.agg #[.int .i64 fg, .int .i64 bg, .int .i64 fl], .slice A (q.length + 1) c] w (PenRet w (oneF ⟨fg, bg, fl⟩ (24 :: q))) := by
  have he : oneF ⟨fg, bg, fl⟩ (24 :: q) = ⟨fg, bg, bits .andNot .i64 fl 264⟩ := by
    unfold oneF
    rw [if_neg (by simp; try omega), if_neg (by simp; try omega), if_neg (by simp; try omega), if_neg (by simp; try omega), if_neg (by simp; try omega), if_pos (by simp; try omega)]
    try rfl
  have HE := Lib.hid he
  clear he
  obtain ⟨b, off, rfl, hbB, hcl⟩ := nums_cells hr (by simp)
  have c0 := hcl 0 (by simp)
  simp only [List.getElem_cons_zero, Nat.add_zero] at c0
  have hT2 := (hT.alloc (.cells #[.int .i64 fg, .int .i64 bg, .int .i64 fl] 40)).alloc (.cells #[.int .i64 0, .int .i64 0, .int .i64 0] 40)
  have tc := hT2.unc 2 264 rfl
  have wk : IntKind.i64.wrap 2 = 2 := by decide
  clear hcl hr hT hT2
  go_enter Tryd.func64, Tryd.ntmps64
  go_upto_region 13 with (fail)
  go_region_law (fail)
  all_goals go_wp2
  all_goals
    exact bodyPost_ret (v := .agg #[.int .i64 (fg), .int .i64 (bg), .int .i64 (bits .andNot .i64 fl 264)]) (by simp [results, Tryd.results64, go_sem]) rfl ⟨by rw [HE.out], (((Below.refl _ _).alloc (Nat.le_refl _) _).alloc (by simp) _).drew⟩

set_option maxRecDepth 100000 in
set_option maxHeartbeats 1600000 in
theorem one_u25 (fg bg fl : Int) (q : List Int) (A : Option Addr) (c : Nat) (w : World) (hr : Rd w w.heap.size A (nC (25 :: q))) (hT : TabP w)  :
    Calls Tryd.prog 64 #[.agg #[.int .i64 fg, .int .i64 bg, .int .i64 fl], .slice A (q.length + 1) c] w (PenRet w (oneF ⟨fg, bg, fl⟩ (25 :: q))) := by
  have he : oneF ⟨fg, bg, fl⟩ (25 :: q) = ⟨fg, bg, bits .andNot .i64 fl 16⟩ := by
    unfold oneF
    rw [if_neg (by simp; try omega), if_neg (by simp; try omega), if_neg (by simp; try omega), if_neg (by simp; try omega), if_neg (by simp; try omega), if_pos (by simp; try omega)]
    try rfl
  have HE := Lib.hid he
  clear he
  obtain ⟨b, off, rfl, hbB, hcl⟩ := nums_cells hr (by simp)
  have c0 := hcl 0 (by simp)
  simp only [List.getElem_cons_zero, Nat.add_zero] at c0
  have hT2 := (hT.alloc (.cells #[.int .i64 fg, .int .i64 bg, .int .i64 fl] 40)).alloc (.cells #[.int .i64 0, .int .i64 0, .int .i64 0] 40)
  have tc := hT2.unc 3 16 rfl
  have wk : IntKind.i64.wrap 3 = 3 := by decide
  clear hcl hr hT hT2
  go_enter Tryd.func64, Tryd.ntmps64
  go_upto_region 13 with (fail)
  go_region_law (fail)
  all_goals go_wp2
  all_goals
    exact bodyPost_ret (v := .agg #[.int .i64 (fg), .int .i64 (bg), .int .i64 (bits .andNot .i64 fl 16)]) (by simp [results, Tryd.results64, go_sem]) rfl ⟨by rw [HE.out], (((Below.refl _ _).alloc (Nat.le_refl _) _).alloc (by simp) _).drew⟩

set_option maxRecDepth 100000 in
set_option maxHeartbeats 1600000 in
theorem one_u26 (fg bg fl : Int) (q : List Int) (A : Option Addr) (c : Nat) (w : World) (hr : Rd w w.heap.size A (nC (26 :: q))) (hT : TabP w)  :
    Calls Tryd.prog 64 #[.agg #[.int .i64 fg, .int .i64 bg, .int .i64 fl], .slice A (q.length + 1) c] w (PenRet w (oneF ⟨fg, bg, fl⟩ (26 :: q))) := by
  have he : oneF ⟨fg, bg, fl⟩ (26 :: q) = ⟨fg, bg, bits .andNot .i64 fl 0⟩ := by
    unfold oneF
    rw [if_neg (by simp; try omega), if_neg (by simp; try omega), if_neg (by simp; try omega), if_neg (by simp; try omega), if_neg (by simp; try omega), if_pos (by simp; try omega)]
    try rfl
  have HE := Lib.hid he
  clear he
  obtain ⟨b, off, rfl, hbB, hcl⟩ := nums_cells hr (by simp)
  have c0 := hcl 0 (by simp)
  simp only [List.getElem_cons_zero, Nat.add_zero] at c0
  have hT2 := (hT.alloc (.cells #[.int .i64 fg, .int .i64 bg, .int .i64 fl] 40)).alloc (.cells #[.int .i64 0, .int .i64 0, .int .i64 0] 40)
  have tc := hT2.unc 4 0 rfl
  have wk : IntKind.i64.wrap 4 = 4 := by decide
  clear hcl hr hT hT2
  go_enter Tryd.func64, Tryd.ntmps64
  go_upto_region 13 with (fail)
  go_region_law (fail)
  all_goals go_wp2
  all_goals
    exact bodyPost_ret (v := .agg #[.int .i64 (fg), .int .i64 (bg), .int .i64 (bits .andNot .i64 fl 0)]) (by simp [results, Tryd.results64, go_sem]) rfl ⟨by rw [HE.out], (((Below.refl _ _).alloc (Nat.le_refl _) _).alloc (by simp) _).drew⟩

set_option maxRecDepth 100000 in
set_option maxHeartbeats 1600000 in
theorem one_u27 (fg bg fl : Int) (q : List Int) (A : Option Addr) (c : Nat) (w : World) (hr : Rd w w.heap.size A (nC (27 :: q))) (hT : TabP w)  :
    Calls Tryd.prog 64 #[.agg #[.int .i64 fg, .int .i64 bg, .int .i64 fl], .slice A (q.length + 1) c] w (PenRet w (oneF ⟨fg, bg, fl⟩ (27 :: q))) := by
  have he : oneF ⟨fg, bg, fl⟩ (27 :: q) = ⟨fg, bg, bits .andNot .i64 fl 32⟩ := by
    unfold oneF
    rw [if_neg (by simp; try omega), if_neg (by simp; try omega), if_neg (by simp; try omega), if_neg (by simp; try omega), if_neg (by simp; try omega), if_pos (by simp; try omega)]
    try rfl
  have HE := Lib.hid he
  clear he
  obtain ⟨b, off, rfl, hbB, hcl⟩ := nums_cells hr (by simp)
  have c0 := hcl 0 (by simp)
  simp only [List.getElem_cons_zero, Nat.add_zero] at c0
  have hT2 := (hT.alloc (.cells #[.int .i64 fg, .int .i64 bg, .int .i64 fl] 40)).alloc (.cells #[.int .i64 0, .int .i64 0, .int .i64 0] 40)
  have tc := hT2.unc 5 32 rfl
  have wk : IntKind.i64.wrap 5 = 5 := by decide
  clear hcl hr hT hT2
  go_enter Tryd.func64, Tryd.ntmps64
  go_upto_region 13 with (fail)
  go_region_law (fail)
  all_goals go_wp2
  all_goals
    exact bodyPost_ret (v := .agg #[.int .i64 (fg), .int .i64 (bg), .int .i64 (bits .andNot .i64 fl 32)]) (by simp [results, Tryd.results64, go_sem]) rfl ⟨by rw [HE.out], (((Below.refl _ _).alloc (Nat.le_refl _) _).alloc (by simp) _).drew⟩

set_option maxRecDepth 100000 in
set_option maxHeartbeats 1600000 in
theorem one_u28 (fg bg fl : Int) (q : List Int) (A : Option Addr) (c : Nat) (w : World) (hr : Rd w w.heap.size A (nC (28 :: q))) (hT : TabP w)  :
    Calls Tryd.prog 64 #[.agg #[.int .i64 fg, .int .i64 bg, .int .i64 fl], .slice A (q.length + 1) c] w (PenRet w (oneF ⟨fg, bg, fl⟩ (28 :: q))) := by
  have he : oneF ⟨fg, bg, fl⟩ (28 :: q) = ⟨fg, bg, bits .andNot .i64 fl 64⟩ := by
    unfold oneF
    rw [if_neg (by simp; try omega), if_neg (by simp; try omega), if_neg (by simp; try omega), if_neg (by simp; try omega), if_neg (by simp; try omega), if_pos (by simp; try omega)]
    try rfl
  have HE := Lib.hid he
  clear he
  obtain ⟨b, off, rfl, hbB, hcl⟩ := nums_cells hr (by simp)
  have c0 := hcl 0 (by simp)
  simp only [List.getElem_cons_zero, Nat.add_zero] at c0
  have hT2 := (hT.alloc (.cells #[.int .i64 fg, .int .i64 bg, .int .i64 fl] 40)).alloc (.cells #[.int .i64 0, .int .i64 0, .int .i64 0] 40)
  have tc := hT2.unc 6 64 rfl
  have wk : IntKind.i64.wrap 6 = 6 := by decide
  clear hcl hr hT hT2
  go_enter Tryd.func64, Tryd.ntmps64
  go_upto_region 13 with (fail)
  go_region_law (fail)
  all_goals go_wp2
  all_goals
    exact bodyPost_ret (v := .agg #[.int .i64 (fg), .int .i64 (bg), .int .i64 (bits .andNot .i64 fl 64)]) (by simp [results, Tryd.results64, go_sem]) rfl ⟨by rw [HE.out], (((Below.refl _ _).alloc (Nat.le_refl _) _).alloc (by simp) _).drew⟩

set_option maxRecDepth 100000 in
set_option maxHeartbeats 1600000 in
theorem one_u29 (fg bg fl : Int) (q : List Int) (A : Option Addr) (c : Nat) (w : World) (hr : Rd w w.heap.size A (nC (29 :: q))) (hT : TabP w)  :
    Calls Tryd.prog 64 #[.agg #[.int .i64 fg, .int .i64 bg, .int .i64 fl], .slice A (q.length + 1) c] w (PenRet w (oneF ⟨fg, bg, fl⟩ (29 :: q))) := by
  have he : oneF ⟨fg, bg, fl⟩ (29 :: q) = ⟨fg, bg, bits .andNot .i64 fl 128⟩ := by
    unfold oneF
    rw [if_neg (by simp; try omega), if_neg (by simp; try omega), if_neg (by simp; try omega), if_neg (by simp; try omega), if_neg (by simp; try omega), if_pos (by simp; try omega)]
    try rfl
  have HE := Lib.hid he
  clear he
  obtain ⟨b, off, rfl, hbB, hcl⟩ := nums_cells hr (by simp)
  have c0 := hcl 0 (by simp)
  simp only [List.getElem_cons_zero, Nat.add_zero] at c0
  have hT2 := (hT.alloc (.cells #[.int .i64 fg, .int .i64 bg, .int .i64 fl] 40)).alloc (.cells #[.int .i64 0, .int .i64 0, .int .i64 0] 40)
  have tc := hT2.unc 7 128 rfl
  have wk : IntKind.i64.wrap 7 = 7 := by decide
  clear hcl hr hT hT2
  go_enter Tryd.func64, Tryd.ntmps64
  go_upto_region 13 with (fail)
  go_region_law (fail)
  all_goals go_wp2
  all_goals
    exact bodyPost_ret (v := .agg #[.int .i64 (fg), .int .i64 (bg), .int .i64 (bits .andNot .i64 fl 128)]) (by simp [results, Tryd.results64, go_sem]) rfl ⟨by rw [HE.out], (((Below.refl _ _).alloc (Nat.le_refl _) _).alloc (by simp) _).drew⟩

set_option maxRecDepth 100000 in
set_option maxHeartbeats 1600000 in
theorem one_f4 (fg bg fl : Int) (A : Option Addr) (c : Nat) (w : World) (hr : Rd w w.heap.size A (nC (4 :: [])))  :
    Calls Tryd.prog 64 #[.agg #[.int .i64 fg, .int .i64 bg, .int .i64 fl], .slice A (0 + 1) c] w (PenRet w (oneF ⟨fg, bg, fl⟩ (4 :: []))) := by
  have he : oneF ⟨fg, bg, fl⟩ (4 :: []) = ⟨fg, bg, bits .or .i64 (bits .andNot .i64 fl 256) 8⟩ := by
    unfold oneF
    rw [if_neg (by simp; try omega), if_neg (by simp; try omega), if_neg (by simp; try omega), if_pos (by simp; try omega)]
    try rfl
  have HE := Lib.hid he
  clear he
  obtain ⟨b, off, rfl, hbB, hcl⟩ := nums_cells hr (by simp)
  have c0 := hcl 0 (by simp)
  simp only [List.getElem_cons_zero, Nat.add_zero] at c0
  clear hcl hr
  go_enter Tryd.func64, Tryd.ntmps64
  go_wp2
  all_goals
    exact bodyPost_ret (v := .agg #[.int .i64 (fg), .int .i64 (bg), .int .i64 (bits .or .i64 (bits .andNot .i64 fl 256) 8)]) (by simp [results, Tryd.results64, go_sem]) rfl ⟨by rw [HE.out], ((Below.refl _ _).alloc (Nat.le_refl _) _).alloc (by simp) _⟩

set_option maxRecDepth 100000 in
set_option maxHeartbeats 1600000 in
theorem one_f40 (fg bg fl : Int) (q : List Int) (A : Option Addr) (c : Nat) (w : World) (hr : Rd w w.heap.size A (nC (4 :: 0 :: q)))  :
    Calls Tryd.prog 64 #[.agg #[.int .i64 fg, .int .i64 bg, .int .i64 fl], .slice A (q.length + 1 + 1) c] w (PenRet w (oneF ⟨fg, bg, fl⟩ (4 :: 0 :: q))) := by
  have he : oneF ⟨fg, bg, fl⟩ (4 :: (0 :: q)) = ⟨fg, bg, bits .andNot .i64 fl 264⟩ := by
    unfold oneF
    rw [if_neg (by simp; try omega), if_pos (by simp; try omega)]
    try rfl
  have HE := Lib.hid he
  clear he
  obtain ⟨b, off, rfl, hbB, hcl⟩ := nums_cells hr (by simp)
  have c0 := hcl 0 (by simp)
  simp only [List.getElem_cons_zero, Nat.add_zero] at c0
  have c1 := hcl 1 (by simp)
  simp only [List.getElem_cons_succ, List.getElem_cons_zero] at c1
  clear hcl hr
  go_enter Tryd.func64, Tryd.ntmps64
  go_wp2
  all_goals
    exact bodyPost_ret (v := .agg #[.int .i64 (fg), .int .i64 (bg), .int .i64 (bits .andNot .i64 fl 264)]) (by simp [results, Tryd.results64, go_sem]) rfl ⟨by rw [HE.out], ((Below.refl _ _).alloc (Nat.le_refl _) _).alloc (by simp) _⟩

set_option maxRecDepth 100000 in
set_option maxHeartbeats 1600000 in
theorem one_f42 (fg bg fl : Int) (q : List Int) (A : Option Addr) (c : Nat) (w : World) (hr : Rd w w.heap.size A (nC (4 :: 2 :: q)))  :
    Calls Tryd.prog 64 #[.agg #[.int .i64 fg, .int .i64 bg, .int .i64 fl], .slice A (q.length + 1 + 1) c] w (PenRet w (oneF ⟨fg, bg, fl⟩ (4 :: 2 :: q))) := by
  have he : oneF ⟨fg, bg, fl⟩ (4 :: (2 :: q)) = ⟨fg, bg, bits .or .i64 (bits .andNot .i64 fl 8) 256⟩ := by
    unfold oneF
    rw [if_neg (by simp; try omega), if_neg (by simp; try omega), if_pos (by simp; try omega)]
    try rfl
  have HE := Lib.hid he
  clear he
  obtain ⟨b, off, rfl, hbB, hcl⟩ := nums_cells hr (by simp)
  have c0 := hcl 0 (by simp)
  simp only [List.getElem_cons_zero, Nat.add_zero] at c0
  have c1 := hcl 1 (by simp)
  simp only [List.getElem_cons_succ, List.getElem_cons_zero] at c1
  clear hcl hr
  go_enter Tryd.func64, Tryd.ntmps64
  go_wp2
  all_goals
    exact bodyPost_ret (v := .agg #[.int .i64 (fg), .int .i64 (bg), .int .i64 (bits .or .i64 (bits .andNot .i64 fl 8) 256)]) (by simp [results, Tryd.results64, go_sem]) rfl ⟨by rw [HE.out], ((Below.refl _ _).alloc (Nat.le_refl _) _).alloc (by simp) _⟩

set_option maxRecDepth 100000 in
set_option maxHeartbeats 1600000 in
theorem one_f4x (fg bg fl y : Int) (q : List Int) (A : Option Addr) (c : Nat) (w : World) (hr : Rd w w.heap.size A (nC (4 :: y :: q))) (y0 : y ≠ 0) (y2 : y ≠ 2) :
    Calls Tryd.prog 64 #[.agg #[.int .i64 fg, .int .i64 bg, .int .i64 fl], .slice A (q.length + 1 + 1) c] w (PenRet w (oneF ⟨fg, bg, fl⟩ (4 :: y :: q))) := by
  have he : oneF ⟨fg, bg, fl⟩ (4 :: (y :: q)) = ⟨fg, bg, bits .or .i64 (bits .andNot .i64 fl 256) 8⟩ := by
    unfold oneF
    rw [if_neg (by simp; try omega), if_neg (by simp; try omega), if_neg (by simp; try omega), if_pos (by simp; try omega)]
    try rfl
  have HE := Lib.hid he
  clear he
  obtain ⟨b, off, rfl, hbB, hcl⟩ := nums_cells hr (by simp)
  have c0 := hcl 0 (by simp)
  simp only [List.getElem_cons_zero, Nat.add_zero] at c0
  have c1 := hcl 1 (by simp)
  simp only [List.getElem_cons_succ, List.getElem_cons_zero] at c1
  have e0 : (y == 0) = false := beq_eq_false_iff_ne.2 y0
  have e2 : (y == 2) = false := beq_eq_false_iff_ne.2 y2
  clear y0 y2
  clear hcl hr
  go_enter Tryd.func64, Tryd.ntmps64
  go_wp2
  all_goals
    exact bodyPost_ret (v := .agg #[.int .i64 (fg), .int .i64 (bg), .int .i64 (bits .or .i64 (bits .andNot .i64 fl 256) 8)]) (by simp [results, Tryd.results64, go_sem]) rfl ⟨by rw [HE.out], ((Below.refl _ _).alloc (Nat.le_refl _) _).alloc (by simp) _⟩
end Go.Proofs.YtcempbgbdlmjfaaDoor
