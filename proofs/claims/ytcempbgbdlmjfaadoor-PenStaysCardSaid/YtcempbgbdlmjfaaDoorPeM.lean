/-
  pen: Apply and Print, whatever comes; the walk of the laws' awake.
-/
import Derived.Test.YtcempbgbdlmjfaaDoorPeJ
import Derived.Test.YtcempbgbdlmjfaaDoorPeL
namespace Go.Proofs.YtcempbgbdlmjfaaDoor
open Go.RowKit

theorem apply_any {lo : Nat} (p : Pn) (L : List (List Int)) (A : Option Addr) (n c : Nat) (hn : L.length = n) (w : World) (hr : RdLL w lo w.heap.size (.slice A n c) L) (hT : TabP w) (hml : n ≤ maxLen) :
    Calls Tryd.prog 32 #[.agg #[.int .i64 p.fg, .int .i64 p.bg, .int .i64 p.fl], .slice A n c] w (PenRet w (applyF p L)) := by
  subst hn
  by_cases h : sanePn p = false ∨ L = []
  · exact apply_bad p L A c w h
  · exact apply_ok p L A c w hr hT (by cases hs : sanePn p; exact absurd (.inl hs) h; rfl) (fun e => h (.inr e)) hml
theorem print_any (p : Pn) (w : World) (hT : TabP w) :
    Calls Tryd.prog 31 #[.agg #[.int .i64 p.fg, .int .i64 p.bg, .int .i64 p.fl]] w (LLRet w (printF p)) := by
  cases hs : sanePn p with
  | false => exact print_bad p w hs
  | true => exact print_ok p w hs hT
theorem print_len2 (p : Pn) : (printF p).length ≤ 20 := by
  unfold printF
  split
  · simp
  · have h := flagsU_len p.fl 9
    rw [flagsU_end] at h
    have h1 := shown_len p.fg 30
    have h2 := shown_len p.bg 40
    simp at h h1 h2 ⊢
    omega
theorem fl_eight_all : ∀ k : Fin 512, (bits .and .i64 (k.val : Int) 264 != 264 || decide (8 ≤ (k.val : Int))) = true := by decide +kernel
theorem fl_eight (f : Int) (h0 : 0 ≤ f) (h1 : f ≤ 511) (h : bits .and .i64 f 264 = 264) : 8 ≤ f := by
  obtain ⟨k, rfl⟩ := fl_nat f h0 h1
  have := fl_eight_all k
  rw [h] at this
  simpa using this
theorem parse7_ex : parseGo ⟨[], false⟩ (bI ⟨#[49, 59, 51, 49]⟩) = some ⟨[[1], [31]], true⟩ := by kernel_rfl
theorem apply7_ex : applyF ⟨0, 0, 0⟩ [[1], [31]] = ⟨2, 0, 1⟩ := by kernel_rfl
theorem sane7_ex : sanePn ⟨2, 0, 1⟩ = true := by kernel_rfl
theorem print7_ex : (printF ⟨2, 0, 1⟩).length = 3 := by kernel_rfl
set_option maxRecDepth 100000 in
set_option maxHeartbeats 1600000 in
theorem awake7_any (w : World) (hT : TabP w) : Calls Tryd.prog 29 #[] w fun e w' => e = .returned (.bool true) ∧ Below w.heap.size w w' := by
  have HT := Lib.hid hT; clear hT
  go_enter Tryd.func29, Tryd.ntmps29
  go_wp2_with fail
  refine (parse_any _ _ (by decide)).mono ?_
  rintro e w1 ⟨hb1, hp⟩
  rw [parse7_ex] at hp
  obtain ⟨v, rfl, hr⟩ := hp
  obtain ⟨A, c, rfl, hcap⟩ := rdLL_form hr
  have HR := Lib.hid hr; have HB := Lib.hid hb1; have HT1 := Lib.hid (HT.out.below hb1)
  clear hr hb1
  simp only [List.length_cons, List.length_nil, Nat.zero_add, Nat.reduceAdd] at hcap ⊢
  go_wp2_with fail
  refine (apply_any ⟨0, 0, 0⟩ [[1], [31]] A _ c rfl _ HR.out HT1.out (by decide)).mono ?_
  rintro e w2 ⟨rfl, hb2⟩
  simp only [apply7_ex]
  have HB2 := Lib.hid hb2
  have HT2 := Lib.hid ((HT1.out.below hb2).alloc (.cells #[.int .i64 2, .int .i64 0, .int .i64 1] 40))
  clear hb2
  go_wp2_with fail
  refine (sane7_any ⟨2, 0, 1⟩ _).mono ?_
  rintro e w3 ⟨rfl, hb3⟩
  have hn3 := (show PenAt (w2.alloc (.cells #[.int .i64 2, .int .i64 0, .int .i64 1] 40)) w2.heap.size ⟨2, 0, 1⟩ from heap_alloc_new w2 _).past hb3
  obtain ⟨c0, c1, c2, _⟩ := hn3.cells
  simp only [sane7_ex]
  have HB3 := Lib.hid hb3
  have HT3 := Lib.hid (HT2.out.below hb3)
  clear hn3 hb3
  go_wp2_with fail
  refine (print_any ⟨2, 0, 1⟩ _ HT3.out).mono ?_
  rintro e w4 ⟨A4, c4, rfl, hr4, hb4⟩
  simp only [print7_ex]
  go_wp2
  go_ret
  have h1 := HB2.out.size
  exact ⟨rfl, (((HB.out.trans (HB2.out.mono HB.out.size)).alloc (by have := HB.out.size; omega) _).trans (HB3.out.mono (by have := HB.out.size; simp; omega))).trans (hb4.mono (by have := HB.out.size; have := HB3.out.size; simp at this; omega))⟩
end Go.Proofs.YtcempbgbdlmjfaaDoor
