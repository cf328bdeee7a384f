/-
  pen: the walk of one, where it switches.
-/
import Derived.Test.YtcempbgbdlmjfaaDoorPeE
import Derived.Deep.RegionLaw
namespace Go.Proofs.YtcempbgbdlmjfaaDoor
open Go.RowKit

set_option maxRecDepth 100000 in
set_option maxHeartbeats 1600000 in
theorem one_n21 (fg bg fl : Int) (q : List Int) (A : Option Addr) (c : Nat) (w : World) (hr : Rd w w.heap.size A (nC (21 :: q)))  :
    Calls Tryd.prog 64 #[.agg #[.int .i64 fg, .int .i64 bg, .int .i64 fl], .slice A (q.length + 1) c] w (PenRet w (oneF ⟨fg, bg, fl⟩ (21 :: q))) := by
  have he : oneF ⟨fg, bg, fl⟩ (21 :: q) = ⟨fg, bg, bits .or .i64 (bits .andNot .i64 fl 8) 256⟩ := by
    unfold oneF
    rw [if_neg (by simp; try omega), if_neg (by simp; try omega), if_pos (by simp; try omega)]
    try rfl
  have HE := Lib.hid he
  clear he
  obtain ⟨b, off, rfl, hbB, hcl⟩ := nums_cells hr (by simp)
  have c0 := hcl 0 (by simp)
  simp only [List.getElem_cons_zero, Nat.add_zero] at c0
  clear hcl hr
  go_enter Tryd.func64, Tryd.ntmps64
  go_wp2
  all_goals
    exact bodyPost_ret (v := .agg #[.int .i64 (fg), .int .i64 (bg), .int .i64 (bits .or .i64 (bits .andNot .i64 fl 8) 256)]) (by simp [results, Tryd.results64, go_sem]) rfl ⟨by rw [HE.out], ((Below.refl _ _).alloc (Nat.le_refl _) _).alloc (by simp) _⟩

set_option maxRecDepth 100000 in
set_option maxHeartbeats 1600000 in
theorem one_s1 (fg bg fl : Int) (q : List Int) (A : Option Addr) (c : Nat) (w : World) (hr : Rd w w.heap.size A (nC (1 :: q))) (hT : TabP w)  :
    Calls Tryd.prog 64 #[.agg #[.int .i64 fg, .int .i64 bg, .int .i64 fl], .slice A (q.length + 1) c] w (PenRet w (oneF ⟨fg, bg, fl⟩ (1 :: q))) := by
  have he : oneF ⟨fg, bg, fl⟩ (1 :: q) = ⟨fg, bg, bits .or .i64 fl 1⟩ := by
    unfold oneF
    rw [if_neg (by simp; try omega), if_neg (by simp; try omega), if_neg (by simp; try omega), if_neg (by simp; try omega), if_pos (by simp; try omega)]
    try rfl
  have HE := Lib.hid he
  clear he
  obtain ⟨b, off, rfl, hbB, hcl⟩ := nums_cells hr (by simp)
  have c0 := hcl 0 (by simp)
  simp only [List.getElem_cons_zero, Nat.add_zero] at c0
  have hT2 := (hT.alloc (.cells #[.int .i64 fg, .int .i64 bg, .int .i64 fl] 40)).alloc (.cells #[.int .i64 0, .int .i64 0, .int .i64 0] 40)
  have tc := hT2.swc 1 1 rfl
  clear hcl hr hT hT2
  go_enter Tryd.func64, Tryd.ntmps64
  go_upto_region 11 with (fail)
  go_region_law (fail)
  all_goals go_wp2
  all_goals
    exact bodyPost_ret (v := .agg #[.int .i64 (fg), .int .i64 (bg), .int .i64 (bits .or .i64 fl 1)]) (by simp [results, Tryd.results64, go_sem]) rfl ⟨by rw [HE.out], (((Below.refl _ _).alloc (Nat.le_refl _) _).alloc (by simp) _).drew⟩

set_option maxRecDepth 100000 in
set_option maxHeartbeats 1600000 in
theorem one_s2 (fg bg fl : Int) (q : List Int) (A : Option Addr) (c : Nat) (w : World) (hr : Rd w w.heap.size A (nC (2 :: q))) (hT : TabP w)  :
    Calls Tryd.prog 64 #[.agg #[.int .i64 fg, .int .i64 bg, .int .i64 fl], .slice A (q.length + 1) c] w (PenRet w (oneF ⟨fg, bg, fl⟩ (2 :: q))) := by
  have he : oneF ⟨fg, bg, fl⟩ (2 :: q) = ⟨fg, bg, bits .or .i64 fl 2⟩ := by
    unfold oneF
    rw [if_neg (by simp; try omega), if_neg (by simp; try omega), if_neg (by simp; try omega), if_neg (by simp; try omega), if_pos (by simp; try omega)]
    try rfl
  have HE := Lib.hid he
  clear he
  obtain ⟨b, off, rfl, hbB, hcl⟩ := nums_cells hr (by simp)
  have c0 := hcl 0 (by simp)
  simp only [List.getElem_cons_zero, Nat.add_zero] at c0
  have hT2 := (hT.alloc (.cells #[.int .i64 fg, .int .i64 bg, .int .i64 fl] 40)).alloc (.cells #[.int .i64 0, .int .i64 0, .int .i64 0] 40)
  have tc := hT2.swc 2 2 rfl
  clear hcl hr hT hT2
  go_enter Tryd.func64, Tryd.ntmps64
  go_upto_region 11 with (fail)
  go_region_law (fail)
  all_goals go_wp2
  all_goals
    exact bodyPost_ret (v := .agg #[.int .i64 (fg), .int .i64 (bg), .int .i64 (bits .or .i64 fl 2)]) (by simp [results, Tryd.results64, go_sem]) rfl ⟨by rw [HE.out], (((Below.refl _ _).alloc (Nat.le_refl _) _).alloc (by simp) _).drew⟩

set_option maxRecDepth 100000 in
set_option maxHeartbeats 1600000 in
theorem one_s3 (fg bg fl : Int) (q : List Int) (A : Option Addr) (c : Nat) (w : World) (hr : Rd w w.heap.size A (nC (3 :: q))) (hT : TabP w)  :
    Calls Tryd.prog 64 #[.agg #[.int .i64 fg, .int .i64 bg, .int .i64 fl], .slice A (q.length + 1) c] w (PenRet w (oneF ⟨fg, bg, fl⟩ (3 :: q))) := by
  have he : oneF ⟨fg, bg, fl⟩ (3 :: q) = ⟨fg, bg, bits .or .i64 fl 4⟩ := by
    unfold oneF
    rw [if_neg (by simp; try omega), if_neg (by simp; try omega), if_neg (by simp; try omega), if_neg (by simp; try omega), if_pos (by simp; try omega)]
    try rfl
  have HE := Lib.hid he
  clear he
  obtain ⟨b, off, rfl, hbB, hcl⟩ := nums_cells hr (by simp)
  have c0 := hcl 0 (by simp)
  simp only [List.getElem_cons_zero, Nat.add_zero] at c0
  have hT2 := (hT.alloc (.cells #[.int .i64 fg, .int .i64 bg, .int .i64 fl] 40)).alloc (.cells #[.int .i64 0, .int .i64 0, .int .i64 0] 40)
  have tc := hT2.swc 3 4 rfl
  clear hcl hr hT hT2
  go_enter Tryd.func64, Tryd.ntmps64
  go_upto_region 11 with (fail)
  go_region_law (fail)
  all_goals go_wp2
  all_goals
    exact bodyPost_ret (v := .agg #[.int .i64 (fg), .int .i64 (bg), .int .i64 (bits .or .i64 fl 4)]) (by simp [results, Tryd.results64, go_sem]) rfl ⟨by rw [HE.out], (((Below.refl _ _).alloc (Nat.le_refl _) _).alloc (by simp) _).drew⟩

set_option maxRecDepth 100000 in
set_option maxHeartbeats 1600000 in
theorem one_s5 (fg bg fl : Int) (q : List Int) (A : Option Addr) (c : Nat) (w : World) (hr : Rd w w.heap.size A (nC (5 :: q))) (hT : TabP w)  :
    Calls Tryd.prog 64 #[.agg #[.int .i64 fg, .int .i64 bg, .int .i64 fl], .slice A (q.length + 1) c] w (PenRet w (oneF ⟨fg, bg, fl⟩ (5 :: q))) := by
  have he : oneF ⟨fg, bg, fl⟩ (5 :: q) = ⟨fg, bg, bits .or .i64 fl 16⟩ := by
    unfold oneF
    rw [if_neg (by simp; try omega), if_neg (by simp; try omega), if_neg (by simp; try omega), if_neg (by simp; try omega), if_pos (by simp; try omega)]
    try rfl
  have HE := Lib.hid he
  clear he
  obtain ⟨b, off, rfl, hbB, hcl⟩ := nums_cells hr (by simp)
  have c0 := hcl 0 (by simp)
  simp only [List.getElem_cons_zero, Nat.add_zero] at c0
  have hT2 := (hT.alloc (.cells #[.int .i64 fg, .int .i64 bg, .int .i64 fl] 40)).alloc (.cells #[.int .i64 0, .int .i64 0, .int .i64 0] 40)
  have tc := hT2.swc 5 16 rfl
  clear hcl hr hT hT2
  go_enter Tryd.func64, Tryd.ntmps64
  go_upto_region 11 with (fail)
  go_region_law (fail)
  all_goals go_wp2
  all_goals
    exact bodyPost_ret (v := .agg #[.int .i64 (fg), .int .i64 (bg), .int .i64 (bits .or .i64 fl 16)]) (by simp [results, Tryd.results64, go_sem]) rfl ⟨by rw [HE.out], (((Below.refl _ _).alloc (Nat.le_refl _) _).alloc (by simp) _).drew⟩

set_option maxRecDepth 100000 in
set_option maxHeartbeats 1600000 in
theorem one_s6 (fg bg fl : Int) (q : List Int) (A : Option Addr) (c : Nat) (w : World) (hr : Rd w w.heap.size A (nC (6 :: q))) (hT : TabP w)  :
    Calls Tryd.prog 64 #[.agg #[.int .i64 fg, .int .i64 bg, .int .i64 fl], .slice A (q.length + 1) c] w (PenRet w (oneF ⟨fg, bg, fl⟩ (6 :: q))) := by
  have he : oneF ⟨fg, bg, fl⟩ (6 :: q) = ⟨fg, bg, bits .or .i64 fl 0⟩ := by
    unfold oneF
    rw [if_neg (by simp; try omega), if_neg (by simp; try omega), if_neg (by simp; try omega), if_neg (by simp; try omega), if_pos (by simp; try omega)]
    try rfl
  have HE := Lib.hid he
  clear he
  obtain ⟨b, off, rfl, hbB, hcl⟩ := nums_cells hr (by simp)
  have c0 := hcl 0 (by simp)
  simp only [List.getElem_cons_zero, Nat.add_zero] at c0
  have hT2 := (hT.alloc (.cells #[.int .i64 fg, .int .i64 bg, .int .i64 fl] 40)).alloc (.cells #[.int .i64 0, .int .i64 0, .int .i64 0] 40)
  have tc := hT2.swc 6 0 rfl
  clear hcl hr hT hT2
  go_enter Tryd.func64, Tryd.ntmps64
  go_upto_region 11 with (fail)
  go_region_law (fail)
  all_goals go_wp2
  all_goals
    exact bodyPost_ret (v := .agg #[.int .i64 (fg), .int .i64 (bg), .int .i64 (bits .or .i64 fl 0)]) (by simp [results, Tryd.results64, go_sem]) rfl ⟨by rw [HE.out], (((Below.refl _ _).alloc (Nat.le_refl _) _).alloc (by simp) _).drew⟩

set_option maxRecDepth 100000 in
set_option maxHeartbeats 1600000 in
theorem one_s7 (fg bg fl : Int) (q : List Int) (A : Option Addr) (c : Nat) (w : World) (hr : Rd w w.heap.size A (nC (7 :: q))) (hT : TabP w)  :
    Calls Tryd.prog 64 #[.agg #[.int .i64 fg, .int .i64 bg, .int .i64 fl], .slice A (q.length + 1) c] w (PenRet w (oneF ⟨fg, bg, fl⟩ (7 :: q))) := by
  have he : oneF ⟨fg, bg, fl⟩ (7 :: q) = ⟨fg, bg, bits .or .i64 fl 32⟩ := by
    unfold oneF
    rw [if_neg (by simp; try omega), if_neg (by simp; try omega), if_neg (by simp; try omega), if_neg (by simp; try omega), if_pos (by simp; try omega)]
    try rfl
  have HE := Lib.hid he
  clear he
  obtain ⟨b, off, rfl, hbB, hcl⟩ := nums_cells hr (by simp)
  have c0 := hcl 0 (by simp)
  simp only [List.getElem_cons_zero, Nat.add_zero] at c0
  have hT2 := (hT.alloc (.cells #[.int .i64 fg, .int .i64 bg, .int .i64 fl] 40)).alloc (.cells #[.int .i64 0, .int .i64 0, .int .i64 0] 40)
  have tc := hT2.swc 7 32 rfl
  clear hcl hr hT hT2
  go_enter Tryd.func64, Tryd.ntmps64
  go_upto_region 11 with (fail)
  go_region_law (fail)
  all_goals go_wp2
  all_goals
    exact bodyPost_ret (v := .agg #[.int .i64 (fg), .int .i64 (bg), .int .i64 (bits .or .i64 fl 32)]) (by simp [results, Tryd.results64, go_sem]) rfl ⟨by rw [HE.out], (((Below.refl _ _).alloc (Nat.le_refl _) _).alloc (by simp) _).drew⟩

set_option maxRecDepth 100000 in
set_option maxHeartbeats 1600000 in
theorem one_s8 (fg bg fl : Int) (q : List Int) (A : Option Addr) (c : Nat) (w : World) (hr : Rd w w.heap.size A (nC (8 :: q))) (hT : TabP w)  :
    Calls Tryd.prog 64 #[.agg #[.int .i64 fg, .int .i64 bg, .int .i64 fl], .slice A (q.length + 1) c] w (PenRet w (oneF ⟨fg, bg, fl⟩ (8 :: q))) := by
  have he : oneF ⟨fg, bg, fl⟩ (8 :: q) = ⟨fg, bg, bits .or .i64 fl 64⟩ := by
    unfold oneF
    rw [if_neg (by simp; try omega), if_neg (by simp; try omega), if_neg (by simp; try omega), if_neg (by simp; try omega), if_pos (by simp; try omega)]
    try rfl
  have HE := Lib.hid he
  clear he
  obtain ⟨b, off, rfl, hbB, hcl⟩ := nums_cells hr (by simp)
  have c0 := hcl 0 (by simp)
  simp only [List.getElem_cons_zero, Nat.add_zero] at c0
  have hT2 := (hT.alloc (.cells #[.int .i64 fg, .int .i64 bg, .int .i64 fl] 40)).alloc (.cells #[.int .i64 0, .int .i64 0, .int .i64 0] 40)
  have tc := hT2.swc 8 64 rfl
  clear hcl hr hT hT2
  go_enter Tryd.func64, Tryd.ntmps64
  go_upto_region 11 with (fail)
  go_region_law (fail)
  all_goals go_wp2
  all_goals
    exact bodyPost_ret (v := .agg #[.int .i64 (fg), .int .i64 (bg), .int .i64 (bits .or .i64 fl 64)]) (by simp [results, Tryd.results64, go_sem]) rfl ⟨by rw [HE.out], (((Below.refl _ _).alloc (Nat.le_refl _) _).alloc (by simp) _).drew⟩

set_option maxRecDepth 100000 in
set_option maxHeartbeats 1600000 in
theorem one_s9 (fg bg fl : Int) (q : List Int) (A : Option Addr) (c : Nat) (w : World) (hr : Rd w w.heap.size A (nC (9 :: q))) (hT : TabP w)  :
    Calls Tryd.prog 64 #[.agg #[.int .i64 fg, .int .i64 bg, .int .i64 fl], .slice A (q.length + 1) c] w (PenRet w (oneF ⟨fg, bg, fl⟩ (9 :: q))) := by
  have he : oneF ⟨fg, bg, fl⟩ (9 :: q) = ⟨fg, bg, bits .or .i64 fl 128⟩ := by
    unfold oneF
    rw [if_neg (by simp; try omega), if_neg (by simp; try omega), if_neg (by simp; try omega), if_neg (by simp; try omega), if_pos (by simp; try omega)]
    try rfl
  have HE := Lib.hid he
  clear he
  obtain ⟨b, off, rfl, hbB, hcl⟩ := nums_cells hr (by simp)
  have c0 := hcl 0 (by simp)
  simp only [List.getElem_cons_zero, Nat.add_zero] at c0
  have hT2 := (hT.alloc (.cells #[.int .i64 fg, .int .i64 bg, .int .i64 fl] 40)).alloc (.cells #[.int .i64 0, .int .i64 0, .int .i64 0] 40)
  have tc := hT2.swc 9 128 rfl
  clear hcl hr hT hT2
  go_enter Tryd.func64, Tryd.ntmps64
  go_upto_region 11 with (fail)
  go_region_law (fail)
  all_goals go_wp2
  all_goals
    exact bodyPost_ret (v := .agg #[.int .i64 (fg), .int .i64 (bg), .int .i64 (bits .or .i64 fl 128)]) (by simp [results, Tryd.results64, go_sem]) rfl ⟨by rw [HE.out], (((Below.refl _ _).alloc (Nat.le_refl _) _).alloc (by simp) _).drew⟩
end Go.Proofs.YtcempbgbdlmjfaaDoor
