/-
  pen, plain: a colour however it is written.
-/
import Derived.Test.YtcempbgbdlmjfaaDoorPeLaw
namespace Go.Proofs.YtcempbgbdlmjfaaDoor
open Go.RowKit

theorem col_rgb (x y z : Int) (hx : 0 ≤ x ∧ x ≤ 255) (hy : 0 ≤ y ∧ y ≤ 255) (hz : 0 ≤ z ∧ z ≤ 255) : colF [2, x, y, z] = (rgbF x y z, 4) := by
  unfold colF
  rw [if_neg (by simp), if_pos ⟨by simp, by simp, by simp [byte_ok x hx], by simp [byte_ok y hy], by simp [byte_ok z hz]⟩]
  simp
theorem col_pal (x : Int) (hx : 0 ≤ x ∧ x ≤ 255) : colF [5, x] = (x + 1, 2) := by
  unfold colF
  rw [if_pos ⟨by simp, by simp, by simp [byte_ok x hx]⟩]
  simp
theorem col_a (p : Pn) (hs : sanePn p = true) (n x y z : Int) (hn : n = 38 ∨ n = 48) (hx : 0 ≤ x ∧ x ≤ 255) (hy : 0 ≤ y ∧ y ≤ 255) (hz : 0 ≤ z ∧ z ≤ 255) : applyF p [[n], [2], [x], [y], [z]] = setCol p n (rgbF x y z) := by
  rw [ap_sane hs (by simp), go_two n x y z hn hx hy hz]; rfl
theorem col_c (p : Pn) (hs : sanePn p = true) (n x y z : Int) (hn : n = 38 ∨ n = 48) (hx : 0 ≤ x ∧ x ≤ 255) (hy : 0 ≤ y ∧ y ≤ 255) (hz : 0 ≤ z ∧ z ≤ 255) : applyF p [[n, 2, x, y, z]] = setCol p n (rgbF x y z) := by
  have h : innerF [2, x, y, z] = [2, x, y, z] := by unfold innerF; rw [if_pos (.inr (by simp))]
  rw [ap_sane hs (by simp), go_own n [2, x, y, z] _ hn (by simp) (by rw [h, col_rgb x y z hx hy hz])]
theorem col_d (p : Pn) (hs : sanePn p = true) (n x y z : Int) (hn : n = 38 ∨ n = 48) (hx : 0 ≤ x ∧ x ≤ 255) (hy : 0 ≤ y ∧ y ≤ 255) (hz : 0 ≤ z ∧ z ≤ 255) : applyF p [[n, 2, -1, x, y, z]] = setCol p n (rgbF x y z) := by
  have h : innerF [2, -1, x, y, z] = [2, x, y, z] := by unfold innerF; rw [if_neg (by simp)]; simp
  rw [ap_sane hs (by simp), go_own n [2, -1, x, y, z] _ hn (by simp) (by rw [h, col_rgb x y z hx hy hz])]
theorem col_e (p : Pn) (hs : sanePn p = true) (n x : Int) (hn : n = 38 ∨ n = 48) (hx : 0 ≤ x ∧ x ≤ 255) : applyF p [[n], [5], [x]] = setCol p n (x + 1) := by
  rw [ap_sane hs (by simp), go_five n x hn hx]; rfl
theorem col_f (p : Pn) (hs : sanePn p = true) (n x : Int) (hn : n = 38 ∨ n = 48) (hx : 0 ≤ x ∧ x ≤ 255) : applyF p [[n, 5, x]] = setCol p n (x + 1) := by
  have h : innerF [5, x] = [5, x] := by unfold innerF; rw [if_pos (.inl (by simp))]
  rw [ap_sane hs (by simp), go_own n [5, x] _ hn (by simp) (by rw [h, col_pal x hx])]
theorem parts_rgb (x y z : Int) (hx : 0 ≤ x ∧ x ≤ 255) (hy : 0 ≤ y ∧ y ≤ 255) (hz : 0 ≤ z ∧ z ≤ 255) : partsF (rgbF x y z) = (2, x, y, z) := by
  have hr : rgbF x y z = 16777216 + x * 65536 + y * 256 + z := by unfold rgbF bndF; omega
  rw [parts_2 _ (by rw [hr]; omega), hr]
  simp only [Prod.mk.injEq, true_and]
  omega
theorem set_38 (p : Pn) (c : Int) (h : c ≠ 0) : setCol p 38 c = ⟨c, p.bg, p.fl⟩ := by unfold setCol; rw [if_neg h, if_pos rfl]
theorem set_48 (p : Pn) (c : Int) (h : c ≠ 0) : setCol p 48 c = ⟨p.fg, c, p.fl⟩ := by unfold setCol; rw [if_neg h, if_neg (by omega)]
theorem rgb_ne (x y z : Int) : rgbF x y z ≠ 0 := by unfold rgbF bndF; omega

/-! ### a flag goes on and off by itself -/
def onT : List Int := [1, 2, 3, 5, 7, 8, 9]
def offT : List Int := [22, 22, 23, 25, 27, 28, 29]
def bitT : List Int := [1, 2, 4, 16, 32, 64, 128]
def mskT : List Int := [3, 3, 4, 16, 32, 64, 128]
theorem sub_all : ∀ k : Fin 512, mskT.all (fun m => decide (0 ≤ (k.val : Int) - bits .and .i64 (k.val : Int) m ∧ (k.val : Int) - bits .and .i64 (k.val : Int) m ≤ 511)) = true := by decide +kernel
theorem sub_bd (f : Int) (h0 : 0 ≤ f) (h1 : f ≤ 511) (m : Int) (hm : m ∈ mskT) : 0 ≤ f - bits .and .i64 f m ∧ f - bits .and .i64 f m ≤ 511 := by
  obtain ⟨k, rfl⟩ := fl_nat f h0 h1
  have := List.all_eq_true.1 (sub_all k) m hm
  simpa using this
theorem msk_mem (i : Nat) (hi : i < 7) : mskT.getD i 0 ∈ mskT ∧ (i < 2 → mskT.getD i 0 = 3) ∧ (2 ≤ i → mskT.getD i 0 = bitT.getD i 0) := by
  rcases (show i = 0 ∨ i = 1 ∨ i = 2 ∨ i = 3 ∨ i = 4 ∨ i = 5 ∨ i = 6 by omega) with rfl | rfl | rfl | rfl | rfl | rfl | rfl <;> decide
def flagOk (f : Int) (i : Nat) : Bool := flOff (flOn f (bitT.getD i 0)) (mskT.getD i 0) == f - bits .and .i64 f (mskT.getD i 0)
theorem flag_all : ∀ k : Fin 512, (List.range 7).all (flagOk (k.val : Int)) = true := by decide +kernel
theorem ap_one (p : Pn) (hs : sanePn p = true) (n : Int) (hn : n ≠ 38 ∧ n ≠ 48) : applyF p [[n]] = oneF p [n] := by
  rw [ap_sane hs (by simp), go_one n hn]; rfl
theorem on_one (p : Pn) (i : Nat) (hi : i < 7) : oneF p [onT.getD i 0] = ⟨p.fg, p.bg, flOn p.fl (bitT.getD i 0)⟩ := by
  rcases (show i = 0 ∨ i = 1 ∨ i = 2 ∨ i = 3 ∨ i = 4 ∨ i = 5 ∨ i = 6 by omega) with rfl | rfl | rfl | rfl | rfl | rfl | rfl <;> rfl
theorem off_one (p : Pn) (i : Nat) (hi : i < 7) : oneF p [offT.getD i 0] = ⟨p.fg, p.bg, flOff p.fl (mskT.getD i 0)⟩ := by
  rcases (show i = 0 ∨ i = 1 ∨ i = 2 ∨ i = 3 ∨ i = 4 ∨ i = 5 ∨ i = 6 by omega) with rfl | rfl | rfl | rfl | rfl | rfl | rfl <;> rfl
theorem flags_law (p : Pn) (hs : sanePn p = true) (i : Nat) (hi : i < 7) :
    applyF p [[onT.getD i 0]] = ⟨p.fg, p.bg, bits .or .i64 p.fl (bitT.getD i 0)⟩ ∧ applyF ⟨p.fg, p.bg, bits .or .i64 p.fl (bitT.getD i 0)⟩ [[offT.getD i 0]] = ⟨p.fg, p.bg, p.fl - bits .and .i64 p.fl (mskT.getD i 0)⟩ ∧
    sanePn ⟨p.fg, p.bg, bits .or .i64 p.fl (bitT.getD i 0)⟩ = true := by
  have h := (sane_iff p).1 hs
  have hon : onT.getD i 0 ≠ 38 ∧ onT.getD i 0 ≠ 48 := by
    rcases (show i = 0 ∨ i = 1 ∨ i = 2 ∨ i = 3 ∨ i = 4 ∨ i = 5 ∨ i = 6 by omega) with rfl | rfl | rfl | rfl | rfl | rfl | rfl <;> decide
  have hoff : offT.getD i 0 ≠ 38 ∧ offT.getD i 0 ≠ 48 := by
    rcases (show i = 0 ∨ i = 1 ∨ i = 2 ∨ i = 3 ∨ i = 4 ∨ i = 5 ∨ i = 6 by omega) with rfl | rfl | rfl | rfl | rfl | rfl | rfl <;> decide
  have hmem : bitT.getD i 0 ∈ ons := by
    rcases (show i = 0 ∨ i = 1 ∨ i = 2 ∨ i = 3 ∨ i = 4 ∨ i = 5 ∨ i = 6 by omega) with rfl | rfl | rfl | rfl | rfl | rfl | rfl <;> decide
  have hb := on_ok p.fl _ h.2.2.1 h.2.2.2 hmem
  have hs2 : sanePn ⟨p.fg, p.bg, bits .or .i64 p.fl (bitT.getD i 0)⟩ = true := (sane_iff _).2 ⟨h.1, h.2.1, hb.1, hb.2.1⟩
  refine ⟨by rw [ap_one p hs _ hon, on_one p i hi]; rfl, ?_, hs2⟩
  rw [ap_one _ hs2 _ hoff, off_one _ i hi]
  obtain ⟨k, hk⟩ := fl_nat p.fl h.2.2.1 h.2.2.2
  have := List.all_eq_true.1 (flag_all k) i (List.mem_range.2 hi)
  rw [← hk] at this
  simp only [flagOk, beq_iff_eq] at this
  simp only [Pn.mk.injEq, true_and]
  exact this
end Go.Proofs.YtcempbgbdlmjfaaDoor
