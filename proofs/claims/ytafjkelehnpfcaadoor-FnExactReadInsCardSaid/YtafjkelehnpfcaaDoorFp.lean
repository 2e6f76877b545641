/- The types of programs: their mirrors, and the functions that size, lay anew and compare them. -/
import Derived.Test.YtafjkelehnpfcaaDoorFs
set_option linter.unusedVariables false
set_option linter.unusedSimpArgs false
set_option maxRecDepth 10000
namespace Go.Proofs.YtafjkelehnpfcaaDoor
open Go.Eng

structure Tok where
  op : Int
  n : Int

def Tok.tt (x : Tok) : T := .agg [T.int x.op, T.int x.n]

abbrev T.Toks (l : List Tok) : T := .list 2 (l.map Tok.tt)




structure Stmt where
  kind : Int
  n : Int
  ex : List (Tok)
  thn : List Int
  els : List Int

def Stmt.tt (x : Stmt) : T := .agg [T.int x.kind, T.int x.n, T.Toks x.ex, T.ints x.thn, T.ints x.els]

def Stmt.ok (B : Nat) (x : Stmt) : Prop := okN B x.ex ∧ okN B x.thn ∧ okN B x.els ∧ True

abbrev T.Stmts (l : List (Stmt)) : T := .list 5 (l.map Stmt.tt)
structure Func where
  params : Int
  vars : Int
  body : List Int
  stmts : List (Stmt)

def Func.tt (x : Func) : T := .agg [T.int x.params, T.int x.vars, T.ints x.body, T.Stmts x.stmts]

def Func.ok (B : Nat) (x : Func) : Prop := okN B x.body ∧ okL B (Stmt.ok B) x.stmts ∧ True

abbrev T.Funcs (l : List (Func)) : T := .list 4 (l.map Func.tt)
structure Prog where
  funcs : List (Func)

def Prog.tt (x : Prog) : T := .agg [T.Funcs x.funcs]

def Prog.ok (B : Nat) (x : Prog) : Prop := okL B (Func.ok B) x.funcs ∧ True

end Go.Proofs.YtafjkelehnpfcaaDoor
