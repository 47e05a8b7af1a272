/- Closed facts of the row of WholeNames; no condition. -/
import Derived.Test.YthnmjkjllhlcjaaDoorCardB
namespace Go.Proofs.YthnmjkjllhlcjaaDoor.wholeNames
open Go Go.RowKit
set_option maxRecDepth 100000 in
set_option maxHeartbeats 0 in
theorem closed : joinedFacts Tryd.prog 5 Tryd.f5 Rows.wholeNamesSpec Rows.wholeNamesRow = true := by
  unfold joinedFacts
  repeat' (with_reducible refine and_tt ?_ ?_)
  all_goals (as_aux_lemma => kernel_rfl)
end Go.Proofs.YthnmjkjllhlcjaaDoor.wholeNames
