/- What statements name; whether a list has a number. -/
import Derived.Test.YtafjkelehnpfcaaDoorGd
set_option linter.unusedVariables false
set_option linter.unusedSimpArgs false
set_option maxRecDepth 10000
set_option maxHeartbeats 1000000
namespace Go.Proofs.YtafjkelehnpfcaaDoor
open Go.Eng

/-- The functions that a statement names, in order. -/
def d3 (s : Stmt) : List Int := if s.kind = 3 then [s.n] else []
end Go.Proofs.YtafjkelehnpfcaaDoor
