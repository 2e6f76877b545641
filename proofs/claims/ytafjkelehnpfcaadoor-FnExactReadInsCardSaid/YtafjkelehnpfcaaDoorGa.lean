/- Walks of what a shaped function is. -/
import Derived.Test.YtafjkelehnpfcaaDoorFi
set_option linter.unusedVariables false
set_option linter.unusedSimpArgs false
set_option maxRecDepth 10000
set_option maxHeartbeats 1000000
namespace Go.Proofs.YtafjkelehnpfcaaDoor
open Go.Eng

def okNum (f : Func) : Bool := decide (0 ≤ f.params ∧ f.params ≤ 2) && (decide (f.params ≤ f.vars ∧ f.vars ≤ 6) && decide ((f.stmts.length : Int) ≤ 16))
def siteB (f : Func) : Bool := decide (((sitesF f.stmts 0).length : Int) ≤ 4)
def kindAt (f : Func) (n : Int) : Int := match f.stmts[n.toNat]? with
  | some s => s.kind
  | none => 0
def noDef (f : Func) (b : List Int) : Bool := (ordF f b).all fun n => decide (¬ kindAt f n = 3)
def whileOk (f : Func) (s : Stmt) : Bool := if s.kind = 8 then noDef f s.thn else true
def whileB (f : Func) : Bool := f.stmts.all (whileOk f)
def shapeF (f : Func) : Bool := okNum f && (siteB f && (shapeB f.stmts f.body && whileB f))



end Go.Proofs.YtafjkelehnpfcaaDoor
