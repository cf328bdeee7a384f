/-
  utf: a letter's bytes as the shelf writes them are those of the plain part.
-/
import Derived.Lib.RuneBytes
import Derived.Test.YtcempbgbdlmjfaaUtE
namespace Go.Proofs.Ytcempbgbdlmjfaa
open Go.RowKit

theorem runeCells_enc (r : Int) (h : Letter r) : Lib.runeCells r = byteCells (encF r) := by
  unfold Letter at h
  unfold Lib.runeCells byteCells
  congr 1
  unfold encF
  split
  · exact Lib.encodeRuneZ_one (by omega) (by omega)
  split
  · exact Lib.encodeRuneZ_two (by omega) (by omega)
  split
  · exact Lib.encodeRuneZ_three (by omega)
  · exact Lib.encodeRuneZ_four (by omega) (by omega)
end Go.Proofs.Ytcempbgbdlmjfaa
