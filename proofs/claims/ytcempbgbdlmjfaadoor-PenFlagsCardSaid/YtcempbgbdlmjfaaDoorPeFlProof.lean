/-
  lapwinglaw07.PenFlags, THE STATEMENT: for any pen and any number it answers true. No condition.
-/
import Derived.Test.YtcempbgbdlmjfaaDoorPeRow
import Derived.Test.YtcempbgbdlmjfaaDoorPeFl
import Derived.Test.YtcempbgbdlmjfaaDoorPeOpen
import Derived.Test.YtcempbgbdlmjfaaDoorCards
import Derived.Test.YtcempbgbdlmjfaaDoorTie
import Derived.SevenTiedAt
namespace Go.Proofs.YtcempbgbdlmjfaaDoor
open Go.ChangeShapes Go.WideShapes Go.ChangeAt Go.RowKit Go.Deep

set_option maxRecDepth 100000 in
theorem penFlags_lifted (os : Os) (started : os.Started) (H : Type) (enc : TypeId × Value → H) :
    ReturnsInHanded {} Tryd.checked os 8 .any (fun w args => (Rows.penFlagsSpec.pre enc Tryd.prog Tryd.f8 [] false w args ∧ laidMetH Tryd.prog [("lapwing/pen.switched", Rows.laid_lapwing_pen_switched), ("lapwing/pen.unswitched", Rows.laid_lapwing_pen_unswitched), ("lapwing/pen.codes", Rows.laid_lapwing_pen_codes)] w) ∧ sizedMet enc Tryd.prog Tryd.f8 (OpenSpec.ofChange Rows.penFlagsSpec) false w args)
      (Rows.penFlagsSpec.post enc Tryd.prog Tryd.f8 false true false false) := by
  refine returnsInHanded_of_change_and (C := Tryd.checked) (X := fun w _ => laidMetH Tryd.prog [("lapwing/pen.switched", Rows.laid_lapwing_pen_switched), ("lapwing/pen.unswitched", Rows.laid_lapwing_pen_unswitched), ("lapwing/pen.codes", Rows.laid_lapwing_pen_codes)] w) (fun _ _ _ hh h => h.of_heap hh) Tryd.own started (by kernel_rfl) Tryd.func8
    (ChangeSpec.witness_shaped (enc := enc) (C := Tryd.checked) (os := os) (X := fun w _ => laidMetH Tryd.prog [("lapwing/pen.switched", Rows.laid_lapwing_pen_switched), ("lapwing/pen.unswitched", Rows.laid_lapwing_pen_unswitched), ("lapwing/pen.codes", Rows.laid_lapwing_pen_codes)] w) false (World.doorLaid Tryd.prog 68 os) #[.agg #[.int .i64 0, .int .i64 0, .int .i64 0], .int .i64 0] 8 rfl (World.shaped_of_RefB (by kernel_rfl) (by kernel_rfl)) (by kernel_rfl) (by kernel_rfl) (by kernel_rfl) (door_pen os _)) ?_
  intro W base args ds gs before hval0 hW _ _ hL _
  have hval : ∀ (j : Nat) t v, Tryd.f8.params[j]? = some t → args[j]? = some v → Value.okWide Tryd.prog W .any base t v := hval0
  obtain ⟨al⟩ := args
  have hW' := hW
  obtain ⟨p, q, hA0, hV, rfl, hfz, hnd⟩ := hW
  have hA : DataW.TrodAll enc Tryd.prog W 0 (fun _ => true) true Tryd.f8.params.toList al ds p := hA0
  rw [Tryd.params8] at hA hval
  obtain ⟨v0, vs0, d0, ds0, p0, q0, rfl, rfl, rfl, h0, hA0⟩ := trodAll_cons hA
  obtain ⟨v1, vs1, d1, ds1, p1, q1, rfl, rfl, rfl, h1, hA1⟩ := trodAll_cons hA0
  obtain ⟨rfl, rfl, rfl⟩ := trodAll_nil hA1
  obtain ⟨rfl, rfl⟩ := trodVars_none hV
  have hT := tab_pen hL
  obtain ⟨x0, rfl⟩ := open_pen Tryd.underlying40 (by kernel_rfl) (by kernel_rfl) rfl rfl rfl Tryd.underlying3 (hval 0 40 v0 rfl rfl) h0
  obtain ⟨x1, rfl, rfl, rfl, wf1⟩ := open_int Tryd.underlying3 (hval 1 3 v1 rfl rfl) h1
  clear hA0 hval0
  refine (penfl_walk x0 x1 W hT).mono fun e W' ⟨he, hb⟩ => ?_
  subst he
  exact ⟨_, rfl, law_post Tryd.laidOut (by rw [Tryd.params8]; intro t ht; simp only [List.mem_cons, List.not_mem_nil, or_false] at ht; rcases ht with rfl | rfl <;> exact ⟨by kernel_rfl, of_decide_eq_true (by kernel_rfl)⟩) rfl Tryd.underlying4 rfl rfl hW' hb⟩

theorem penFlags_row : Rows.PenFlagsSaid :=
  OpenClaim.holds_of_wide 8 Tryd.f8 rfl rfl rfl rfl rfl rfl rfl ⟨rfl, rfl, rfl, rfl, rfl⟩ rfl rfl rfl rfl rfl (by kernel_rfl) Tryd.func8 (by kernel_rfl)
    (of_decide_eq_true (by kernel_rfl)) (by unfold Func.isWrapper; first | (rw [if_pos (by decide +kernel)]; kernel_rfl) | (rw [if_neg (by decide +kernel)]; exact ⟨rfl, rfl⟩))
    (fun os started H enc _ => penFlags_lifted os started H enc)

theorem penFlags_holds : Rows.PenFlagsCardSaid :=
  Claim7.holds_tied_plain_at .later [] [.data, .data, .data] true (true, "b23fcfa9bb557be616e7756880d5bd46b98744fc3efab0cf58e63c77eaad7527") false
    penFlags_row (fun _ h => by cases h) (by kernel_rfl) (fun _ h => by cases h) penFlags_row_tie rfl ⟨rfl, rfl⟩ (by kernel_rfl) rfl
    (fun f fn hf hfn => by
      obtain rfl : f = 8 := Option.some.inj ((show Tryd.prog.funcNamed "lapwing/lapwinglaw07.PenFlags" = some 8 by kernel_rfl).symm.trans hf) |>.symm
      obtain rfl : fn = Tryd.f8 := (Option.some.inj (Tryd.func8.symm.trans hfn)).symm
      exact ⟨by kernel_rfl, fun j t ht => by
        rw [Tryd.params8] at ht
        have hall : ∀ t' ∈ ([40, 3] : List TypeId), Tryd.prog.wantsStandIn t' = false := by
          intro t' h'
          simp only [List.mem_cons, List.not_mem_nil, or_false] at h'
          rcases h' with rfl | rfl <;> kernel_rfl
        exact hall t (by
          have := List.mem_of_getElem? (show ([40, 3] : List TypeId)[j]? = some t by simpa using ht)
          exact this)⟩)
    (by kernel_rfl)
end Go.Proofs.YtcempbgbdlmjfaaDoor
