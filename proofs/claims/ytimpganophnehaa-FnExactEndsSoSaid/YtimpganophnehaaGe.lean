/- Walks of what a function calls, and of what is reached. -/
import Derived.Test.YtimpganophnehaaGea
import Derived.Test.YtimpganophnehaaPc
import Derived.Test.YtimpganophnehaaMc
set_option linter.unusedVariables false
set_option linter.unusedSimpArgs false
set_option maxRecDepth 10000
set_option maxHeartbeats 1000000
namespace Go.Proofs.Ytimpganophnehaa
open Go.Eng

def marks (N : Nat) (l : List Int) : List T := (upto N).map fun n => T.bool (decide (n ∈ l))
end Go.Proofs.Ytimpganophnehaa
