/- Walks of what is told of calls: rounds, statements that are met, how deep, how much fuel. -/
import Derived.Test.YtiigmjlmhmgebaaGf
import Derived.Test.YtiigmjlmhmgebaaGhc
set_option linter.unusedVariables false
set_option linter.unusedSimpArgs false
set_option maxRecDepth 10000
set_option maxHeartbeats 1000000
namespace Go.Proofs.Ytiigmjlmhmgebaa
open Go.Eng

theorem reachP_len {p : Prog} (hg : goodP p = true) (n : Int) : (reachP p n).length ≤ 5 := by
  have := reachL_len (N := p.funcs.length) (calls := callsP p) (a := n)
  have := goodP_len hg
  unfold reachP; omega
theorem reachP_in {p : Prog} {n x : Int} (h : x ∈ reachP p n) : 0 ≤ x ∧ x < p.funcs.length := (mem_pickN.1 h).1



end Go.Proofs.Ytiigmjlmhmgebaa
