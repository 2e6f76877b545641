/- Walks of DropUnused. -/
import Derived.Test.YtimpganophnehaaGq
import Derived.Test.YtimpganophnehaaGk
import Derived.Test.YtimpganophnehaaMd
set_option linter.unusedVariables false
set_option linter.unusedSimpArgs false
set_option maxRecDepth 10000
set_option maxHeartbeats 1000000
namespace Go.Proofs.Ytimpganophnehaa
open Go.Eng

theorem funcs_at (p : Prog) : p.funcs = (List.range p.funcs.length).map fun k : Nat => funcAt p k := by
  refine List.ext_getElem (by simp) fun i h1 h2 => ?_
  rw [List.getElem_map, List.getElem_range]
  exact funcAt_at (n := (i : Int)) (by omega)
end Go.Proofs.Ytimpganophnehaa
