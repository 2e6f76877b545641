/- Walks of the functions that mark lists of numbers, and that look whether marks are held. -/
import Derived.Test.YtimpganophnehaaFs
import Derived.Test.YtimpganophnehaaMb
set_option linter.unusedVariables false
set_option linter.unusedSimpArgs false
set_option maxRecDepth 10000
namespace Go.Proofs.Ytimpganophnehaa
open Go.Eng

end Go.Proofs.Ytimpganophnehaa
