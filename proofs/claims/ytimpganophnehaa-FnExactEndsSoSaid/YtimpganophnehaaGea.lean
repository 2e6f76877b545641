/- What statements name; whether a list has a number. -/
import Derived.Test.YtimpganophnehaaGd
set_option linter.unusedVariables false
set_option linter.unusedSimpArgs false
set_option maxRecDepth 10000
set_option maxHeartbeats 1000000
namespace Go.Proofs.Ytimpganophnehaa
open Go.Eng

/-- The functions that a statement names, in order. -/
def d3 (s : Stmt) : List Int := if s.kind = 3 then [s.n] else []
theorem take_app {α : Type} (x y : List α) : List.take (x.length + y.length) (x ++ y) = x ++ y := by
  rw [← List.length_append, List.take_length]
end Go.Proofs.Ytimpganophnehaa
