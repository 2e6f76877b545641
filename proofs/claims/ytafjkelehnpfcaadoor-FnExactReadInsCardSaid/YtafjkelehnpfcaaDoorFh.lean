/- Walks of what the shape of a good function is. -/
import Derived.Test.YtafjkelehnpfcaaDoorPg
set_option linter.unusedVariables false
set_option linter.unusedSimpArgs false
set_option maxRecDepth 10000
set_option maxHeartbeats 1000000
namespace Go.Proofs.YtafjkelehnpfcaaDoor
open Go.Eng

/-- The order of a function's block. -/
def ordF (f : Func) (b : List Int) : List Int := ord f.stmts.length (kids f.stmts) b
end Go.Proofs.YtafjkelehnpfcaaDoor
