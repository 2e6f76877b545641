/- Walks of ReachFrom and UnusedIn, and their laws. -/
import Derived.Test.YtimpganophnehaaGh
import Derived.Test.YtimpganophnehaaFt
set_option linter.unusedVariables false
set_option linter.unusedSimpArgs false
set_option maxRecDepth 10000
set_option maxHeartbeats 1000000
namespace Go.Proofs.Ytimpganophnehaa
open Go.Eng

end Go.Proofs.Ytimpganophnehaa
