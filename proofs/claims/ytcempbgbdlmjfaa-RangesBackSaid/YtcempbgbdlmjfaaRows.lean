/-
  No cell of these rows narrows 'for every input' (looked for: loops, veiled, ifaces, maps, wideKeys, modest, calm, conditions, laid).
  DERIVED. THE GIVEN ROWS OF THIS SEAT. 12 by the template 'for every input the law returns true; each argument reads behind the call as it read before'; 0 by the template 'total and deterministic' (their statements: YtcempbgbdlmjfaaTotals.lean).
  GIVEN WITH THE SEED: the statements are not yours to turn. If you find one false, say at which input.
  Laid BY PROGRAM, IN A SANDBOX (cutbox-rows.mjs): the forced cells as the released guide's own fill.sh prints them over the translation 52523462efe5f002… (all of the seat's roots in one cut). By AI agents, Wed Nov 11 2026. No macro, syntax, notation, axiom, sorry.
-/
import Derived.Test.YtcempbgbdlmjfaaChecked
import GoSem.Claim
import GoSem.ClaimJoined
import GoSem.ClaimMapViews
import Derived.JoinedTies
import Derived.KernelRfl
namespace Go.Proofs.Ytcempbgbdlmjfaa
/- THE CELL 'sum', in the pinned program and in every row, IS THE sha256 OF THE DUMP (.gsa) THAT YtcempbgbdlmjfaaProg.lean LOADS. Nothing in Lean hashes anything: it is a label: what it is worth is what the hold of that sum in a sandbox is worth. -/
noncomputable def Try.pinned : Pinned := { name := "ytcempbgbdlmjfaa", sum := "52523462efe5f0029dc3f9395bbb5aa0af9d4322f042794345e50ea560b1c0e6", checked := Try.checked }
namespace Rows
def none {H : Type} : Left H := { results := [], args := [] }

/-- 'lapwinglaw01.RangesEdges': WHATEVER THE INPUT: true; the input reads as it did. -/
def rangesEdgesSpec : ChangeSpec := { name := "rangesEdges", fn := fun _ => fun
  | [d1, d2] => { results := [.lit (.bool true)], args := [d1, d2] }
  | _ => none }
def rangesEdgesRow : OpenClaim := { program := "ytcempbgbdlmjfaa", sum := "52523462efe5f0029dc3f9395bbb5aa0af9d4322f042794345e50ea560b1c0e6", func := "lapwing/lapwinglaw01.RangesEdges", spec := "rangesEdges", apart := false }
def RangesEdgesSaid : Prop := rangesEdgesRow.holds Try.pinned (OpenSpec.ofChange rangesEdgesSpec)

/-- ITS FALSE NEIGHBOUR: 'it returns false'. Refute it at one input. -/
def rangesEdgesWrong : ChangeSpec := { name := "rangesEdges", fn := fun _ => fun
  | [d1, d2] => { results := [.lit (.bool false)], args := [d1, d2] }
  | _ => none }
def RangesEdgesWrongFalsely : Prop := rangesEdgesRow.holds Try.pinned (OpenSpec.ofChange rangesEdgesWrong)

/-- 'lapwinglaw01.RangesMake': WHATEVER THE INPUT: true; the input reads as it did. -/
def rangesMakeSpec : ChangeSpec := { name := "rangesMake", fn := fun _ => fun
  | [d1, d2] => { results := [.lit (.bool true)], args := [d1, d2] }
  | _ => none }
def rangesMakeRow : OpenClaim := { program := "ytcempbgbdlmjfaa", sum := "52523462efe5f0029dc3f9395bbb5aa0af9d4322f042794345e50ea560b1c0e6", func := "lapwing/lapwinglaw01.RangesMake", spec := "rangesMake", apart := false }
def RangesMakeSaid : Prop := rangesMakeRow.holds Try.pinned (OpenSpec.ofChange rangesMakeSpec)

/-- ITS FALSE NEIGHBOUR: 'it returns false'. Refute it at one input. -/
def rangesMakeWrong : ChangeSpec := { name := "rangesMake", fn := fun _ => fun
  | [d1, d2] => { results := [.lit (.bool false)], args := [d1, d2] }
  | _ => none }
def RangesMakeWrongFalsely : Prop := rangesMakeRow.holds Try.pinned (OpenSpec.ofChange rangesMakeWrong)

/-- 'lapwinglaw01.RangesThree': WHATEVER THE INPUT: true; the input reads as it did. -/
def rangesThreeSpec : ChangeSpec := { name := "rangesThree", fn := fun _ => fun
  | [d1, d2, d3] => { results := [.lit (.bool true)], args := [d1, d2, d3] }
  | _ => none }
def rangesThreeRow : OpenClaim := { program := "ytcempbgbdlmjfaa", sum := "52523462efe5f0029dc3f9395bbb5aa0af9d4322f042794345e50ea560b1c0e6", func := "lapwing/lapwinglaw01.RangesThree", spec := "rangesThree", apart := false }
def RangesThreeSaid : Prop := rangesThreeRow.holds Try.pinned (OpenSpec.ofChange rangesThreeSpec)

/-- ITS FALSE NEIGHBOUR: 'it returns false'. Refute it at one input. -/
def rangesThreeWrong : ChangeSpec := { name := "rangesThree", fn := fun _ => fun
  | [d1, d2, d3] => { results := [.lit (.bool false)], args := [d1, d2, d3] }
  | _ => none }
def RangesThreeWrongFalsely : Prop := rangesThreeRow.holds Try.pinned (OpenSpec.ofChange rangesThreeWrong)

/-- 'lapwinglaw03.UtfCuts': WHATEVER THE INPUT: true; the input reads as it did. -/
def utfCutsSpec : ChangeSpec := { name := "utfCuts", fn := fun _ => fun
  | [d1, d2] => { results := [.lit (.bool true)], args := [d1, d2] }
  | _ => none }
def utfCutsRow : OpenClaim := { program := "ytcempbgbdlmjfaa", sum := "52523462efe5f0029dc3f9395bbb5aa0af9d4322f042794345e50ea560b1c0e6", func := "lapwing/lapwinglaw03.UtfCuts", spec := "utfCuts", apart := false }
def UtfCutsSaid : Prop := utfCutsRow.holds Try.pinned (OpenSpec.ofChange utfCutsSpec)

/-- ITS FALSE NEIGHBOUR: 'it returns false'. Refute it at one input. -/
def utfCutsWrong : ChangeSpec := { name := "utfCuts", fn := fun _ => fun
  | [d1, d2] => { results := [.lit (.bool false)], args := [d1, d2] }
  | _ => none }
def UtfCutsWrongFalsely : Prop := utfCutsRow.holds Try.pinned (OpenSpec.ofChange utfCutsWrong)

/-- 'lapwinglaw01.RangesCount': WHATEVER THE INPUT: true; the input reads as it did. -/
def rangesCountSpec : ChangeSpec := { name := "rangesCount", fn := fun _ => fun
  | [d1, d2] => { results := [.lit (.bool true)], args := [d1, d2] }
  | _ => none }
def rangesCountRow : OpenClaim := { program := "ytcempbgbdlmjfaa", sum := "52523462efe5f0029dc3f9395bbb5aa0af9d4322f042794345e50ea560b1c0e6", func := "lapwing/lapwinglaw01.RangesCount", spec := "rangesCount", apart := false }
def RangesCountSaid : Prop := rangesCountRow.holds Try.pinned (OpenSpec.ofChange rangesCountSpec)

/-- ITS FALSE NEIGHBOUR: 'it returns false'. Refute it at one input. -/
def rangesCountWrong : ChangeSpec := { name := "rangesCount", fn := fun _ => fun
  | [d1, d2] => { results := [.lit (.bool false)], args := [d1, d2] }
  | _ => none }
def RangesCountWrongFalsely : Prop := rangesCountRow.holds Try.pinned (OpenSpec.ofChange rangesCountWrong)

/-- 'lapwinglaw03.UtfPlain': WHATEVER THE INPUT: true; the input reads as it did. -/
def utfPlainSpec : ChangeSpec := { name := "utfPlain", fn := fun _ => fun
  | [d] => { results := [.lit (.bool true)], args := [d] }
  | _ => none }
def utfPlainRow : OpenClaim := { program := "ytcempbgbdlmjfaa", sum := "52523462efe5f0029dc3f9395bbb5aa0af9d4322f042794345e50ea560b1c0e6", func := "lapwing/lapwinglaw03.UtfPlain", spec := "utfPlain", apart := false }
def UtfPlainSaid : Prop := utfPlainRow.holds Try.pinned (OpenSpec.ofChange utfPlainSpec)

/-- ITS FALSE NEIGHBOUR: 'it returns false'. Refute it at one input. -/
def utfPlainWrong : ChangeSpec := { name := "utfPlain", fn := fun _ => fun
  | [d] => { results := [.lit (.bool false)], args := [d] }
  | _ => none }
def UtfPlainWrongFalsely : Prop := utfPlainRow.holds Try.pinned (OpenSpec.ofChange utfPlainWrong)

/-- 'lapwinglaw05.ParamsSteps': WHATEVER THE INPUT: true; the input reads as it did. -/
def paramsStepsSpec : ChangeSpec := { name := "paramsSteps", fn := fun _ => fun
  | [d] => { results := [.lit (.bool true)], args := [d] }
  | _ => none }
def paramsStepsRow : OpenClaim := { program := "ytcempbgbdlmjfaa", sum := "52523462efe5f0029dc3f9395bbb5aa0af9d4322f042794345e50ea560b1c0e6", func := "lapwing/lapwinglaw05.ParamsSteps", spec := "paramsSteps", unfollowed := true, recurses := true, apart := false }
def ParamsStepsSaid : Prop := paramsStepsRow.holds Try.pinned (OpenSpec.ofChange paramsStepsSpec)

/-- ITS FALSE NEIGHBOUR: 'it returns false'. Refute it at one input. -/
def paramsStepsWrong : ChangeSpec := { name := "paramsSteps", fn := fun _ => fun
  | [d] => { results := [.lit (.bool false)], args := [d] }
  | _ => none }
def ParamsStepsWrongFalsely : Prop := paramsStepsRow.holds Try.pinned (OpenSpec.ofChange paramsStepsWrong)

/-- 'lapwinglaw05.ParamsCounts': WHATEVER THE INPUT: true; the input reads as it did. -/
def paramsCountsSpec : ChangeSpec := { name := "paramsCounts", fn := fun _ => fun
  | [d1, d2, d3, d4] => { results := [.lit (.bool true)], args := [d1, d2, d3, d4] }
  | _ => none }
def paramsCountsRow : OpenClaim := { program := "ytcempbgbdlmjfaa", sum := "52523462efe5f0029dc3f9395bbb5aa0af9d4322f042794345e50ea560b1c0e6", func := "lapwing/lapwinglaw05.ParamsCounts", spec := "paramsCounts", unfollowed := true, recurses := true, apart := false }
def ParamsCountsSaid : Prop := paramsCountsRow.holds Try.pinned (OpenSpec.ofChange paramsCountsSpec)

/-- ITS FALSE NEIGHBOUR: 'it returns false'. Refute it at one input. -/
def paramsCountsWrong : ChangeSpec := { name := "paramsCounts", fn := fun _ => fun
  | [d1, d2, d3, d4] => { results := [.lit (.bool false)], args := [d1, d2, d3, d4] }
  | _ => none }
def ParamsCountsWrongFalsely : Prop := paramsCountsRow.holds Try.pinned (OpenSpec.ofChange paramsCountsWrong)

/-- 'lapwinglaw01.RangesBack': WHATEVER THE INPUT: true; the input reads as it did. -/
def rangesBackSpec : ChangeSpec := { name := "rangesBack", fn := fun _ => fun
  | [d1, d2] => { results := [.lit (.bool true)], args := [d1, d2] }
  | _ => none }
def rangesBackRow : OpenClaim := { program := "ytcempbgbdlmjfaa", sum := "52523462efe5f0029dc3f9395bbb5aa0af9d4322f042794345e50ea560b1c0e6", func := "lapwing/lapwinglaw01.RangesBack", spec := "rangesBack", apart := false }
def RangesBackSaid : Prop := rangesBackRow.holds Try.pinned (OpenSpec.ofChange rangesBackSpec)

/-- ITS FALSE NEIGHBOUR: 'it returns false'. Refute it at one input. -/
def rangesBackWrong : ChangeSpec := { name := "rangesBack", fn := fun _ => fun
  | [d1, d2] => { results := [.lit (.bool false)], args := [d1, d2] }
  | _ => none }
def RangesBackWrongFalsely : Prop := rangesBackRow.holds Try.pinned (OpenSpec.ofChange rangesBackWrong)

/-- 'lapwinglaw03.UtfBack': WHATEVER THE INPUT: true; the input reads as it did. -/
def utfBackSpec : ChangeSpec := { name := "utfBack", fn := fun _ => fun
  | [d] => { results := [.lit (.bool true)], args := [d] }
  | _ => none }
def utfBackRow : OpenClaim := { program := "ytcempbgbdlmjfaa", sum := "52523462efe5f0029dc3f9395bbb5aa0af9d4322f042794345e50ea560b1c0e6", func := "lapwing/lapwinglaw03.UtfBack", spec := "utfBack", apart := false }
def UtfBackSaid : Prop := utfBackRow.holds Try.pinned (OpenSpec.ofChange utfBackSpec)

/-- ITS FALSE NEIGHBOUR: 'it returns false'. Refute it at one input. -/
def utfBackWrong : ChangeSpec := { name := "utfBack", fn := fun _ => fun
  | [d] => { results := [.lit (.bool false)], args := [d] }
  | _ => none }
def UtfBackWrongFalsely : Prop := utfBackRow.holds Try.pinned (OpenSpec.ofChange utfBackWrong)

/-- 'lapwinglaw03.UtfShort': WHATEVER THE INPUT: true; the input reads as it did. -/
def utfShortSpec : ChangeSpec := { name := "utfShort", fn := fun _ => fun
  | [d1, d2] => { results := [.lit (.bool true)], args := [d1, d2] }
  | _ => none }
def utfShortRow : OpenClaim := { program := "ytcempbgbdlmjfaa", sum := "52523462efe5f0029dc3f9395bbb5aa0af9d4322f042794345e50ea560b1c0e6", func := "lapwing/lapwinglaw03.UtfShort", spec := "utfShort", apart := false }
def UtfShortSaid : Prop := utfShortRow.holds Try.pinned (OpenSpec.ofChange utfShortSpec)

/-- ITS FALSE NEIGHBOUR: 'it returns false'. Refute it at one input. -/
def utfShortWrong : ChangeSpec := { name := "utfShort", fn := fun _ => fun
  | [d1, d2] => { results := [.lit (.bool false)], args := [d1, d2] }
  | _ => none }
def UtfShortWrongFalsely : Prop := utfShortRow.holds Try.pinned (OpenSpec.ofChange utfShortWrong)

/-- 'lapwinglaw03.UtfBad': WHATEVER THE INPUT: true; the input reads as it did. -/
def utfBadSpec : ChangeSpec := { name := "utfBad", fn := fun _ => fun
  | [d1, d2] => { results := [.lit (.bool true)], args := [d1, d2] }
  | _ => none }
def utfBadRow : OpenClaim := { program := "ytcempbgbdlmjfaa", sum := "52523462efe5f0029dc3f9395bbb5aa0af9d4322f042794345e50ea560b1c0e6", func := "lapwing/lapwinglaw03.UtfBad", spec := "utfBad", apart := false }
def UtfBadSaid : Prop := utfBadRow.holds Try.pinned (OpenSpec.ofChange utfBadSpec)

/-- ITS FALSE NEIGHBOUR: 'it returns false'. Refute it at one input. -/
def utfBadWrong : ChangeSpec := { name := "utfBad", fn := fun _ => fun
  | [d1, d2] => { results := [.lit (.bool false)], args := [d1, d2] }
  | _ => none }
def UtfBadWrongFalsely : Prop := utfBadRow.holds Try.pinned (OpenSpec.ofChange utfBadWrong)

/- THE SECOND FORM. 'bulk': how many values and letters a reading holds, each counted each time it is reached (what is shared counts as often as it is met; a slice's spare places count too). A statement '..UptoSaid' is the law's where the arguments, and the package variables that the reading takes, are together of bulk at most 1048576: NARROWER than '..Said'. Prove '..Said' where nothing that the law and all that it calls make is longer than what came in: it says more and counts as full. Else prove '..UptoSaid'. A law counts once. -/
mutual
def uptoBulk {H : Type} : DataW H → Nat
  | .lit (.string bytes) => bytes.length + 1
  | .lit _ => 1
  | .nil => 1
  | .ptr d => uptoBulk d + 1
  | .slice elems spare => uptoBulkAll elems + uptoBulkAll spare + 1
  | .agg parts => uptoBulkAll parts + 1
  | .iface _ d => uptoBulk d + 1
  | .map entries => uptoBulkEntries entries + 1
  | .held _ => 1
def uptoBulkAll {H : Type} : List (DataW H) → Nat
  | [] => 0
  | d :: r => uptoBulk d + uptoBulkAll r
def uptoBulkEntries {H : Type} : List (Lit × DataW H) → Nat
  | [] => 0
  | x :: r => uptoBulkEntry x + uptoBulkEntries r
def uptoBulkEntry {H : Type} : Lit × DataW H → Nat
  | (.string bytes, d) => bytes.length + uptoBulk d + 1
  | (_, d) => uptoBulk d + 1
 end
def uptoSmall : (H : Type) → List (DataW H) → Bool := fun _ ds => decide (uptoBulkAll ds ≤ 1048576)
def OpenSpec.upto (s : _root_.Go.ChangeSpec) : _root_.Go.OpenSpec := { _root_.Go.OpenSpec.ofChange s with cond := some uptoSmall }

/-- 'lapwinglaw01.RangesEdges', WHERE WHAT IT READS IS OF BULK AT MOST 1048576: true; the input reads as it did. -/
def rangesEdgesUptoRow : OpenClaim := { program := "ytcempbgbdlmjfaa", sum := "52523462efe5f0029dc3f9395bbb5aa0af9d4322f042794345e50ea560b1c0e6", func := "lapwing/lapwinglaw01.RangesEdges", spec := "rangesEdges", apart := false, narrowed := true }
def RangesEdgesUptoSaid : Prop := rangesEdgesUptoRow.holds Try.pinned (OpenSpec.upto rangesEdgesSpec)

/-- 'lapwinglaw01.RangesMake', WHERE WHAT IT READS IS OF BULK AT MOST 1048576: true; the input reads as it did. -/
def rangesMakeUptoRow : OpenClaim := { program := "ytcempbgbdlmjfaa", sum := "52523462efe5f0029dc3f9395bbb5aa0af9d4322f042794345e50ea560b1c0e6", func := "lapwing/lapwinglaw01.RangesMake", spec := "rangesMake", apart := false, narrowed := true }
def RangesMakeUptoSaid : Prop := rangesMakeUptoRow.holds Try.pinned (OpenSpec.upto rangesMakeSpec)

/-- 'lapwinglaw01.RangesThree', WHERE WHAT IT READS IS OF BULK AT MOST 1048576: true; the input reads as it did. -/
def rangesThreeUptoRow : OpenClaim := { program := "ytcempbgbdlmjfaa", sum := "52523462efe5f0029dc3f9395bbb5aa0af9d4322f042794345e50ea560b1c0e6", func := "lapwing/lapwinglaw01.RangesThree", spec := "rangesThree", apart := false, narrowed := true }
def RangesThreeUptoSaid : Prop := rangesThreeUptoRow.holds Try.pinned (OpenSpec.upto rangesThreeSpec)

/-- 'lapwinglaw03.UtfCuts', WHERE WHAT IT READS IS OF BULK AT MOST 1048576: true; the input reads as it did. -/
def utfCutsUptoRow : OpenClaim := { program := "ytcempbgbdlmjfaa", sum := "52523462efe5f0029dc3f9395bbb5aa0af9d4322f042794345e50ea560b1c0e6", func := "lapwing/lapwinglaw03.UtfCuts", spec := "utfCuts", apart := false, narrowed := true }
def UtfCutsUptoSaid : Prop := utfCutsUptoRow.holds Try.pinned (OpenSpec.upto utfCutsSpec)

/-- 'lapwinglaw01.RangesCount', WHERE WHAT IT READS IS OF BULK AT MOST 1048576: true; the input reads as it did. -/
def rangesCountUptoRow : OpenClaim := { program := "ytcempbgbdlmjfaa", sum := "52523462efe5f0029dc3f9395bbb5aa0af9d4322f042794345e50ea560b1c0e6", func := "lapwing/lapwinglaw01.RangesCount", spec := "rangesCount", apart := false, narrowed := true }
def RangesCountUptoSaid : Prop := rangesCountUptoRow.holds Try.pinned (OpenSpec.upto rangesCountSpec)

/-- 'lapwinglaw03.UtfPlain', WHERE WHAT IT READS IS OF BULK AT MOST 1048576: true; the input reads as it did. -/
def utfPlainUptoRow : OpenClaim := { program := "ytcempbgbdlmjfaa", sum := "52523462efe5f0029dc3f9395bbb5aa0af9d4322f042794345e50ea560b1c0e6", func := "lapwing/lapwinglaw03.UtfPlain", spec := "utfPlain", apart := false, narrowed := true }
def UtfPlainUptoSaid : Prop := utfPlainUptoRow.holds Try.pinned (OpenSpec.upto utfPlainSpec)

/-- 'lapwinglaw05.ParamsSteps', WHERE WHAT IT READS IS OF BULK AT MOST 1048576: true; the input reads as it did. -/
def paramsStepsUptoRow : OpenClaim := { program := "ytcempbgbdlmjfaa", sum := "52523462efe5f0029dc3f9395bbb5aa0af9d4322f042794345e50ea560b1c0e6", func := "lapwing/lapwinglaw05.ParamsSteps", spec := "paramsSteps", unfollowed := true, recurses := true, apart := false, narrowed := true }
def ParamsStepsUptoSaid : Prop := paramsStepsUptoRow.holds Try.pinned (OpenSpec.upto paramsStepsSpec)

/-- 'lapwinglaw05.ParamsCounts', WHERE WHAT IT READS IS OF BULK AT MOST 1048576: true; the input reads as it did. -/
def paramsCountsUptoRow : OpenClaim := { program := "ytcempbgbdlmjfaa", sum := "52523462efe5f0029dc3f9395bbb5aa0af9d4322f042794345e50ea560b1c0e6", func := "lapwing/lapwinglaw05.ParamsCounts", spec := "paramsCounts", unfollowed := true, recurses := true, apart := false, narrowed := true }
def ParamsCountsUptoSaid : Prop := paramsCountsUptoRow.holds Try.pinned (OpenSpec.upto paramsCountsSpec)

/-- 'lapwinglaw01.RangesBack', WHERE WHAT IT READS IS OF BULK AT MOST 1048576: true; the input reads as it did. -/
def rangesBackUptoRow : OpenClaim := { program := "ytcempbgbdlmjfaa", sum := "52523462efe5f0029dc3f9395bbb5aa0af9d4322f042794345e50ea560b1c0e6", func := "lapwing/lapwinglaw01.RangesBack", spec := "rangesBack", apart := false, narrowed := true }
def RangesBackUptoSaid : Prop := rangesBackUptoRow.holds Try.pinned (OpenSpec.upto rangesBackSpec)

/-- 'lapwinglaw03.UtfBack', WHERE WHAT IT READS IS OF BULK AT MOST 1048576: true; the input reads as it did. -/
def utfBackUptoRow : OpenClaim := { program := "ytcempbgbdlmjfaa", sum := "52523462efe5f0029dc3f9395bbb5aa0af9d4322f042794345e50ea560b1c0e6", func := "lapwing/lapwinglaw03.UtfBack", spec := "utfBack", apart := false, narrowed := true }
def UtfBackUptoSaid : Prop := utfBackUptoRow.holds Try.pinned (OpenSpec.upto utfBackSpec)

/-- 'lapwinglaw03.UtfShort', WHERE WHAT IT READS IS OF BULK AT MOST 1048576: true; the input reads as it did. -/
def utfShortUptoRow : OpenClaim := { program := "ytcempbgbdlmjfaa", sum := "52523462efe5f0029dc3f9395bbb5aa0af9d4322f042794345e50ea560b1c0e6", func := "lapwing/lapwinglaw03.UtfShort", spec := "utfShort", apart := false, narrowed := true }
def UtfShortUptoSaid : Prop := utfShortUptoRow.holds Try.pinned (OpenSpec.upto utfShortSpec)

/-- 'lapwinglaw03.UtfBad', WHERE WHAT IT READS IS OF BULK AT MOST 1048576: true; the input reads as it did. -/
def utfBadUptoRow : OpenClaim := { program := "ytcempbgbdlmjfaa", sum := "52523462efe5f0029dc3f9395bbb5aa0af9d4322f042794345e50ea560b1c0e6", func := "lapwing/lapwinglaw03.UtfBad", spec := "utfBad", apart := false, narrowed := true }
def UtfBadUptoSaid : Prop := utfBadUptoRow.holds Try.pinned (OpenSpec.upto utfBadSpec)

end Rows
end Go.Proofs.Ytcempbgbdlmjfaa
