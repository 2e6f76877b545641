/- Walks of what the functions of programs are made of: sites, orders, blocks. -/
import Derived.Test.YtafjkelehnpfcaaDoorFe
import Derived.Test.YtafjkelehnpfcaaDoorMc
import Derived.Test.YtafjkelehnpfcaaDoorPo
set_option linter.unusedVariables false
set_option linter.unusedSimpArgs false
set_option maxRecDepth 10000
set_option maxHeartbeats 1000000
namespace Go.Proofs.YtafjkelehnpfcaaDoor
open Go.Eng

/-- The statements that put a call off, by their numbers. -/
def sitesF : List Stmt → Int → List Int
  | [], _ => []
  | s :: l, k => if s.kind = 3 then k :: sitesF l (k + 1) else sitesF l (k + 1)
end Go.Proofs.YtafjkelehnpfcaaDoor
