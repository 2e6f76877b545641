/- The law of DropUnused. -/
import Derived.Test.YtimpganophnehaaGr
import Derived.Test.YtimpganophnehaaGv
set_option linter.unusedVariables false
set_option linter.unusedSimpArgs false
set_option maxRecDepth 10000
set_option maxHeartbeats 1000000
namespace Go.Proofs.Ytimpganophnehaa
open Go.Eng

theorem ctL_apps {α : Type} (ct : α → Int) (a b : List α) : ctL ct (a ++ b) = ctL ct a + ctL ct b := by
  unfold ctL; rw [List.map_append, List.sum_append]
end Go.Proofs.Ytimpganophnehaa
