/-
  lapwinglaw01.RangesThree, THE STATEMENT: for any three lists of rows it answers true, and all read behind the call as they read before. No condition.
-/
import Derived.Test.YtcempbgbdlmjfaaRow
import Derived.Test.YtcempbgbdlmjfaaRgThree
namespace Go.Proofs.Ytcempbgbdlmjfaa
open Go.ChangeShapes Go.WideShapes Go.ChangeAt Go.RowKit Go.Deep

set_option maxRecDepth 100000 in
theorem rangesThree_lifted (os : Os) (started : os.Started) (H : Type) (enc : TypeId × Value → H) :
    ReturnsInHanded {} Try.checked os 5 .any (Rows.rangesThreeSpec.pre6 enc Try.prog Try.f5 Rows.rangesThreeRow.domain false) (Rows.rangesThreeSpec.post enc Try.prog Try.f5 false true false false) := by
  refine returnsInHanded_of_change (C := Try.checked) Try.own started (by kernel_rfl) Try.func5
    (ChangeSpec.witness6 (enc := enc) (C := Try.checked) false ⟨#[], #[.slice none 0 0, .slice none 0 0, .slice none 0 0], []⟩ 8 (by kernel_rfl) (by kernel_rfl) (by kernel_rfl) (by kernel_rfl)) ?_
  intro W base args ds gs before hval0 hW hcnd _
  have hval : ∀ (j : Nat) t v, Try.f5.params[j]? = some t → args[j]? = some v → Value.okWide Try.prog W .any base t v := hval0
  have hW' := hW
  obtain ⟨p, q, hA0, hV, rfl, hfz, hnd⟩ := hW
  have hA : DataW.TrodAll enc Try.prog W 0 (fun _ => true) true Try.f5.params.toList args.toList ds p := hA0
  rw [Try.params5] at hA hval
  obtain ⟨v0, v1, v2, d0, d1, d2, p0, p1, p2, rfl, rfl, rfl, h0, h1, h2⟩ := trodAll_three hA
  obtain ⟨rfl, rfl⟩ := trodVars_none hV
  obtain ⟨A0, x0, c0, rfl, r0, l0⟩ := open_rowSlice Try.underlying22 Try.underlying30 (by kernel_rfl) (by kernel_rfl) rfl rfl rfl Try.underlying3 (hval 0 22 v0 rfl rfl) h0
  obtain ⟨A1, x1, c1, rfl, r1, l1⟩ := open_rowSlice Try.underlying22 Try.underlying30 (by kernel_rfl) (by kernel_rfl) rfl rfl rfl Try.underlying3 (hval 1 22 v1 rfl rfl) h1
  obtain ⟨A2, x2, c2, rfl, r2, l2⟩ := open_rowSlice Try.underlying22 Try.underlying30 (by kernel_rfl) (by kernel_rfl) rfl rfl rfl Try.underlying3 (hval 2 22 v2 rfl rfl) h2
  clear hA0 hval0
  refine (three_walk x0 x1 x2 A0 A1 A2 c0 c1 c2 W r0 r1 r2 l0 l1 l2).mono fun e W' ⟨he, hb⟩ => ?_
  subst he
  exact ⟨_, rfl, law_post Try.laidOut (by rw [Try.params5]; intro t ht; simp only [List.mem_cons, List.not_mem_nil, or_false] at ht; rcases ht with rfl | rfl | rfl <;> exact ⟨by kernel_rfl, of_decide_eq_true (by kernel_rfl)⟩) rfl Try.underlying4 rfl rfl hW' hb⟩

theorem rangesThree_holds : Rows.RangesThreeSaid :=
  OpenClaim.holds_of_wide 5 Try.f5 rfl rfl rfl rfl rfl rfl rfl ⟨rfl, rfl, rfl, rfl, rfl⟩ rfl rfl rfl rfl rfl (by kernel_rfl) Try.func5 (by kernel_rfl)
    (of_decide_eq_true (by kernel_rfl)) (by unfold Func.isWrapper; first | (rw [if_pos (by decide +kernel)]; kernel_rfl) | (rw [if_neg (by decide +kernel)]; exact ⟨rfl, rfl⟩))
    (fun os started H enc _ => rangesThree_lifted os started H enc)
end Go.Proofs.Ytcempbgbdlmjfaa
