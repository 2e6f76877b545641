/- Walks of whether blocks hold each statement once. -/
import Derived.Test.YtafjkelehnpfcaaDoorFh
set_option linter.unusedVariables false
set_option linter.unusedSimpArgs false
set_option maxRecDepth 10000
set_option maxHeartbeats 1000000
namespace Go.Proofs.YtafjkelehnpfcaaDoor
open Go.Eng

end Go.Proofs.YtafjkelehnpfcaaDoor
