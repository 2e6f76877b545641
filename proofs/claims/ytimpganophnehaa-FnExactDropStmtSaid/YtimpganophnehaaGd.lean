/- What is known of good programs; walks of ManyStmts and IsGuarded. -/
import Derived.Test.YtimpganophnehaaGc
set_option linter.unusedVariables false
set_option linter.unusedSimpArgs false
set_option maxRecDepth 10000
set_option maxHeartbeats 1000000
namespace Go.Proofs.Ytimpganophnehaa
open Go.Eng

theorem Prog.small {p : Prog} (h : 0 ≤ szProg p 1048576) : p.ok 1048576 := (szProg_g p 1048576 (by omega) (by omega)).2.2 h
theorem goodP_fn {p : Prog} (h : goodP p = true) {n : Nat} (hn : n < p.funcs.length) : goodF (paramsL p) (p.funcs[n]) = true := by
  unfold goodP at h
  simp only [Bool.and_eq_true, List.all_eq_true] at h
  exact h.2.2.2 _ (List.getElem_mem hn)
theorem goodF_len {ps : List Int} {f : Func} (h : goodF ps f = true) : f.stmts.length ≤ 16 := by
  unfold goodF shapeF okNum at h
  simp only [Bool.and_eq_true, decide_eq_true_eq] at h
  omega
theorem goodF_shape {ps : List Int} {f : Func} (h : goodF ps f = true) : shapeF f = true := by
  unfold goodF at h
  rw [Bool.and_eq_true] at h
  exact h.1
def stmtAt (f : Func) (n : Int) : Stmt := (f.stmts[n.toNat]?).getD ⟨0, 0, [], [], []⟩
def funcAt (p : Prog) (n : Int) : Func := (p.funcs[n.toNat]?).getD ⟨0, 0, [], []⟩
theorem funcAt_at {p : Prog} {n : Int} (h : n.toNat < p.funcs.length) : p.funcs[n.toNat] = funcAt p n := by
  unfold funcAt; rw [List.getElem?_eq_getElem h]; rfl
def op0 (l : List Tok) : Int := (l[(0 : Int).toNat]?.map (·.op)).getD 0
def guard1 (f : Func) : Bool := decide ((f.stmts.length : Int) = 2) && (decide ((stmtAt f 0).kind = 3) && (decide ((stmtAt f 1).kind = 9) && (decide (((stmtAt f 1).ex.length : Int) = 1) && decide (op0 (stmtAt f 1).ex = 11))))
def guard2 (f : Func) : Bool := decide ((f.stmts.length : Int) = 1) && (decide ((stmtAt f 0).kind = 2) && (decide (((stmtAt f 0).ex.length : Int) = 1) && decide (op0 (stmtAt f 0).ex = 10)))
def guarded (p : Prog) : Bool := goodP p && (guard1 (funcAt p 0) && guard2 (funcAt p (stmtAt (funcAt p 0) 0).n))


end Go.Proofs.Ytimpganophnehaa
