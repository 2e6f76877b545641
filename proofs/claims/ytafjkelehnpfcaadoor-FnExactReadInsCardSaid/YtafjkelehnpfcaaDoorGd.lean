/- What is known of good programs; walks of ManyStmts and IsGuarded. -/
import Derived.Test.YtafjkelehnpfcaaDoorGc
set_option linter.unusedVariables false
set_option linter.unusedSimpArgs false
set_option maxRecDepth 10000
set_option maxHeartbeats 1000000
namespace Go.Proofs.YtafjkelehnpfcaaDoor
open Go.Eng

def stmtAt (f : Func) (n : Int) : Stmt := (f.stmts[n.toNat]?).getD ⟨0, 0, [], [], []⟩
def funcAt (p : Prog) (n : Int) : Func := (p.funcs[n.toNat]?).getD ⟨0, 0, [], []⟩
def op0 (l : List Tok) : Int := (l[(0 : Int).toNat]?.map (·.op)).getD 0
def guard1 (f : Func) : Bool := decide ((f.stmts.length : Int) = 2) && (decide ((stmtAt f 0).kind = 3) && (decide ((stmtAt f 1).kind = 9) && (decide (((stmtAt f 1).ex.length : Int) = 1) && decide (op0 (stmtAt f 1).ex = 11))))
def guard2 (f : Func) : Bool := decide ((f.stmts.length : Int) = 1) && (decide ((stmtAt f 0).kind = 2) && (decide (((stmtAt f 0).ex.length : Int) = 1) && decide (op0 (stmtAt f 0).ex = 10)))
def guarded (p : Prog) : Bool := goodP p && (guard1 (funcAt p 0) && guard2 (funcAt p (stmtAt (funcAt p 0) 0).n))


end Go.Proofs.YtafjkelehnpfcaaDoor
