/- Walks of what is told of calls: rounds, statements that are met, how deep, how much fuel. -/
import Derived.Test.YtafjkelehnpfcaaDoorGf
import Derived.Test.YtafjkelehnpfcaaDoorGhc
set_option linter.unusedVariables false
set_option linter.unusedSimpArgs false
set_option maxRecDepth 10000
set_option maxHeartbeats 1000000
namespace Go.Proofs.YtafjkelehnpfcaaDoor
open Go.Eng

end Go.Proofs.YtafjkelehnpfcaaDoor
