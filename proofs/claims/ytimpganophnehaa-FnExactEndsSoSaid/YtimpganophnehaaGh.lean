/- Walks of what is told of calls: rounds, statements that are met, how deep, how much fuel. -/
import Derived.Test.YtimpganophnehaaGf
import Derived.Test.YtimpganophnehaaGhc
set_option linter.unusedVariables false
set_option linter.unusedSimpArgs false
set_option maxRecDepth 10000
set_option maxHeartbeats 1000000
namespace Go.Proofs.Ytimpganophnehaa
open Go.Eng

end Go.Proofs.Ytimpganophnehaa
