/- Walks of what a good program is. -/
import Derived.Test.YtafjkelehnpfcaaDoorGa
set_option linter.unusedVariables false
set_option linter.unusedSimpArgs false
set_option maxRecDepth 10000
set_option maxHeartbeats 1000000
namespace Go.Proofs.YtafjkelehnpfcaaDoor
open Go.Eng

def lens (s : Stmt) : Int := (s.thn.length : Int) + s.els.length
def stmtW (vars : Int) (ps : List Int) (s : Stmt) : Bool :=
  if s.kind = 1 then goodE vars ps s.ex && (decide (0 ≤ s.n ∧ s.n ≤ vars - 1) && decide (lens s = 0))
  else if s.kind = 2 ∨ s.kind = 4 ∨ s.kind = 5 ∨ s.kind = 9 then goodE vars ps s.ex && (decide (s.n = 0) && decide (lens s = 0))
  else if s.kind = 3 then decide ((s.ex.length : Int) = 0) && (decide (0 ≤ s.n ∧ s.n ≤ (ps.length : Int) - 1) && decide (lens s = 0))
  else if s.kind = 6 then decide ((s.ex.length : Int) = 0) && (decide (s.n = 0) && decide (lens s = 0))
  else if s.kind = 7 then goodE vars ps s.ex && decide (s.n = 0)
  else if s.kind = 8 then goodE vars ps s.ex && (decide (s.n = 0) && decide ((s.els.length : Int) = 0))
  else false
def stmtG (vars : Int) (ps : List Int) (s : Stmt) : Bool := stmtW vars ps s && (if s.kind = 3 then decide (atI ps s.n = 0) else true)





def paramsL (p : Prog) : List Int := p.funcs.map (·.params)
def goodF (ps : List Int) (f : Func) : Bool := shapeF f && f.stmts.all (stmtG f.vars ps)
def goodP (p : Prog) : Bool := decide ((1 : Int) ≤ p.funcs.length ∧ (p.funcs.length : Int) ≤ 5) && (paramsB (paramsL p) && (decide (atI (paramsL p) 0 = 0) && p.funcs.all (goodF (paramsL p))))
end Go.Proofs.YtafjkelehnpfcaaDoor
