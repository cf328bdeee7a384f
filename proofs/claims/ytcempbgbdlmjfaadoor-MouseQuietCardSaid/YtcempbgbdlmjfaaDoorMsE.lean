/-
  lapwinglaw22.MouseQuiet: the walk: for any event and any numbers it answers true. No condition.
-/
import Derived.Test.YtcempbgbdlmjfaaDoorMsE0
import Derived.Test.YtcempbgbdlmjfaaDoorMsE1
import Derived.Test.YtcempbgbdlmjfaaDoorMsE2
import Derived.Test.YtcempbgbdlmjfaaDoorMsE3
namespace Go.Proofs.YtcempbgbdlmjfaaDoor
open Go.RowKit

theorem mq_any (k b m x y n h v : Int) (w : World) (hM : TabM w) (hT : TabI w) (hx : Wf x) (hy : Wf y) (hh : Wf h) (hv : Wf v) (hm : Wf m) : Calls Tryd.prog 13 #[.agg #[.int .i64 k, .int .i64 b, .int .i64 m, .int .i64 x, .int .i64 y], .int .i64 n, .int .i64 h, .int .i64 v] w fun e w' => e = .returned (.bool true) ∧ Below w.heap.size w w' := by
  obtain ⟨q, hq, _⟩ := and_16 n
  have h4 : (q : Int) % 4 = 0 ∨ (q : Int) % 4 = 1 ∨ (q : Int) % 4 = 2 ∨ (q : Int) % 4 = 3 := by omega
  rcases h4 with h4 | h4 | h4 | h4
  · exact mq_0 k b m x y n h v w hM hT hx hy hh hv hm q hq h4
  · exact mq_1 k b m x y n h v w hM hT hx hy hh hv hm q hq h4
  · exact mq_2 k b m x y n h v w hM hT hx hy hh hv hm q hq h4
  · exact mq_3 k b m x y n h v w hM hT hx hy hh hv hm q hq h4
end Go.Proofs.YtcempbgbdlmjfaaDoor
