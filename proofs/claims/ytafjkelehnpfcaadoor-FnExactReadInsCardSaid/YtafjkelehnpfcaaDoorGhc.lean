/- Whether a list has a number, by its place. -/
import Derived.Test.YtafjkelehnpfcaaDoorGea
set_option linter.unusedVariables false
set_option linter.unusedSimpArgs false
set_option maxRecDepth 10000
set_option maxHeartbeats 1000000
namespace Go.Proofs.YtafjkelehnpfcaaDoor
open Go.Eng


end Go.Proofs.YtafjkelehnpfcaaDoor
