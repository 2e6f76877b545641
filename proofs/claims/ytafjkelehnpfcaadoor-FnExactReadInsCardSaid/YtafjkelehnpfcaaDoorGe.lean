/- Walks of what a function calls, and of what is reached. -/
import Derived.Test.YtafjkelehnpfcaaDoorGea
import Derived.Test.YtafjkelehnpfcaaDoorPc
import Derived.Test.YtafjkelehnpfcaaDoorMc
set_option linter.unusedVariables false
set_option linter.unusedSimpArgs false
set_option maxRecDepth 10000
set_option maxHeartbeats 1000000
namespace Go.Proofs.YtafjkelehnpfcaaDoor
open Go.Eng

end Go.Proofs.YtafjkelehnpfcaaDoor
