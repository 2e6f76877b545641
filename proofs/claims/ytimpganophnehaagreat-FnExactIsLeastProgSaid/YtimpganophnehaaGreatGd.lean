/- What is known of good programs; walks of ManyStmts and IsGuarded. -/
import Derived.Test.YtimpganophnehaaGreatGc
set_option linter.unusedVariables false
set_option linter.unusedSimpArgs false
set_option maxRecDepth 10000
set_option maxHeartbeats 1000000
namespace Go.Proofs.YtimpganophnehaaGreat
open Go.Eng

theorem Prog.small {p : Prog} (h : 0 ≤ szProg p 1048576) : p.ok 1048576 := (szProg_g p 1048576 (by omega) (by omega)).2.2 h
theorem retBB {a a' b b' : Bool} (h : a = a') (h' : b = b') : [D.t (T.v (Value.bool a)), D.t (T.v (Value.bool b))] = [D.t (T.bool a'), D.t (T.bool b')] := by rw [h, h']

theorem goodP_len {p : Prog} (h : goodP p = true) : 1 ≤ p.funcs.length ∧ p.funcs.length ≤ 5 := by
 unfold goodP at h
 simp only [Bool.and_eq_true, decide_eq_true_eq] at h
 omega
theorem goodP_fn {p : Prog} (h : goodP p = true) {n : Nat} (hn : n < p.funcs.length) : goodF (paramsL p) (p.funcs[n]) = true := by
 unfold goodP at h
 simp only [Bool.and_eq_true, List.all_eq_true] at h
 exact h.2.2.2 _ (List.getElem_mem hn)
theorem goodP_ps {p : Prog} (h : goodP p = true) : PsOk (paramsL p) := by
 unfold goodP at h
 simp only [Bool.and_eq_true] at h
 exact paramsB_ok h.2.1
theorem goodF_len {ps : List Int} {f : Func} (h : goodF ps f = true) : f.stmts.length ≤ 16 := by
 unfold goodF shapeF okNum at h
 simp only [Bool.and_eq_true, decide_eq_true_eq] at h
 omega
theorem goodF_shape {ps : List Int} {f : Func} (h : goodF ps f = true) : shapeF f = true := by
 unfold goodF at h
 rw [Bool.and_eq_true] at h
 exact h.1
theorem goodF_at {ps : List Int} {f : Func} (h : goodF ps f = true) {n : Nat} (hn : n < f.stmts.length) : stmtG f.vars ps (f.stmts[n]) = true := by
 unfold goodF at h
 rw [Bool.and_eq_true, List.all_eq_true] at h
 exact h.2 _ (List.getElem_mem hn)
theorem stmtG_def {vars : Int} {ps : List Int} {s : Stmt} (h : stmtG vars ps s = true) (hk : s.kind = 3) : 0 ≤ s.n ∧ s.n < ps.length ∧ s.ex = [] := by
 unfold stmtG at h
 rw [Bool.and_eq_true] at h
 have h1 := h.1
 unfold stmtW at h1
 simp [hk] at h1
 exact ⟨by omega, by omega, h1.1⟩
theorem goodE_len {vars : Int} {ps : List Int} {l : List Tok} (h : goodE vars ps l = true) : l.length ≤ 12 := by
 unfold goodE at h
 split at h
 ·rw [Bool.and_eq_true] at h; have := h.2; simp at this; omega
 ·cases h
theorem stmtG_ex {vars : Int} {ps : List Int} {s : Stmt} (h : stmtG vars ps s = true) : s.ex = [] ∨ goodE vars ps s.ex = true := by
 unfold stmtG at h
 rw [Bool.and_eq_true] at h
 have h1 := h.1
 unfold stmtW at h1
 by_cases he : goodE vars ps s.ex = true
 ·exact .inr he
 ·left
  have he' : goodE vars ps s.ex = false := by simpa using he
  rw [he'] at h1
  simp at h1
  grind
theorem stmtG_len {vars : Int} {ps : List Int} {s : Stmt} (h : stmtG vars ps s = true) : s.ex.length ≤ 12 := by
 rcases stmtG_ex h with h | h
 ·rw [h]; simp
 ·exact goodE_len h

def stmtAt (f : Func) (n : Int) : Stmt := (f.stmts[n.toNat]?).getD ⟨0, 0, [], [], []⟩
theorem stmtAt_at {f : Func} {n : Int} (h : n.toNat < f.stmts.length) : f.stmts[n.toNat] = stmtAt f n := by
 unfold stmtAt; rw [List.getElem?_eq_getElem h]; rfl
def funcAt (p : Prog) (n : Int) : Func := (p.funcs[n.toNat]?).getD ⟨0, 0, [], []⟩
theorem funcAt_at {p : Prog} {n : Int} (h : n.toNat < p.funcs.length) : p.funcs[n.toNat] = funcAt p n := by
 unfold funcAt; rw [List.getElem?_eq_getElem h]; rfl
def op0 (l : List Tok) : Int := (l[(0 : Int).toNat]?.map (·.op)).getD 0
def guard1 (f : Func) : Bool := decide ((f.stmts.length : Int) = 2) && (decide ((stmtAt f 0).kind = 3) && (decide ((stmtAt f 1).kind = 9) && (decide (((stmtAt f 1).ex.length : Int) = 1) && decide (op0 (stmtAt f 1).ex = 11))))
def guard2 (f : Func) : Bool := decide ((f.stmts.length : Int) = 1) && (decide ((stmtAt f 0).kind = 2) && (decide (((stmtAt f 0).ex.length : Int) = 1) && decide (op0 (stmtAt f 0).ex = 10)))
def guarded (p : Prog) : Bool := goodP p && (guard1 (funcAt p 0) && guard2 (funcAt p (stmtAt (funcAt p 0) 0).n))

end Go.Proofs.YtimpganophnehaaGreat
