/- Closed facts of the row of WholeRing; no condition. -/
import Derived.Test.YthnmjkjllhlcjaaDoorCardB
namespace Go.Proofs.YthnmjkjllhlcjaaDoor.wholeRing
open Go Go.RowKit
set_option maxRecDepth 100000 in
set_option maxHeartbeats 0 in
theorem closed : joinedFacts Tryd.prog 3 Tryd.f3 Rows.wholeRingSpec Rows.wholeRingRow = true := by
  unfold joinedFacts
  repeat' (with_reducible refine and_tt ?_ ?_)
  all_goals (as_aux_lemma => kernel_rfl)
end Go.Proofs.YthnmjkjllhlcjaaDoor.wholeRing
