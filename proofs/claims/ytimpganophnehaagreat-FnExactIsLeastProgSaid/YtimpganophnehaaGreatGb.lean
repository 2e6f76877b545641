/- Walks of what a good program is. -/
import Derived.Test.YtimpganophnehaaGreatGa
set_option linter.unusedVariables false
set_option linter.unusedSimpArgs false
set_option maxRecDepth 10000
set_option maxHeartbeats 1000000
namespace Go.Proofs.YtimpganophnehaaGreat
open Go.Eng

def lens (s : Stmt) : Int := (s.thn.length : Int) + s.els.length
def stmtW (vars : Int) (ps : List Int) (s : Stmt) : Bool :=
 if s.kind = 1 then goodE vars ps s.ex && (decide (0 ≤ s.n ∧ s.n ≤ vars - 1) && decide (lens s = 0))
 else if s.kind = 2 ∨ s.kind = 4 ∨ s.kind = 5 ∨ s.kind = 9 then goodE vars ps s.ex && (decide (s.n = 0) && decide (lens s = 0))
 else if s.kind = 3 then decide ((s.ex.length : Int) = 0) && (decide (0 ≤ s.n ∧ s.n ≤ (ps.length : Int) - 1) && decide (lens s = 0))
 else if s.kind = 6 then decide ((s.ex.length : Int) = 0) && (decide (s.n = 0) && decide (lens s = 0))
 else if s.kind = 7 then goodE vars ps s.ex && decide (s.n = 0)
 else if s.kind = 8 then goodE vars ps s.ex && (decide (s.n = 0) && decide ((s.els.length : Int) = 0))
 else false
def stmtG (vars : Int) (ps : List Int) (s : Stmt) : Bool := stmtW vars ps s && (if s.kind = 3 then decide (atI ps s.n = 0) else true)

theorem l3Stmt_fun (f : Func) (s : Stmt) (ps : List Int) (hs : s.ok 1048576) (hv : 0 ≤ f.vars ∧ f.vars ≤ 6) (hp : PsOk ps) (hpb : paramsB ps = true) : Fun Tryz.prog 202 [.t f.tt, .t s.tt, .t (T.ints ps)] (tupD [.t (.bool (stmtW f.vars ps s))]) := by
 have hp1 := hp.1
 have hs1 : s.ex.length ≤ 1048576 := hs.1
 have hs2 : s.thn.length ≤ 1048576 := hs.2.1
 have hs3 : s.els.length ≤ 1048576 := hs.2.2.1
 refine Fun.begin tys Tryz.func202 rfl rfl (N := 115) [(0, .t f.tt), (1, .t s.tt), (2, .t (T.ints ps))] rfl rfl (fun w0 G F0 => ?_)
 refine sQ (rG (WO_box rfl rfl (lt_of rfl) rfl rfl (nZ rfl (WO_box rfl rfl (lt_of rfl) rfl rfl (nZ rfl (eZ rfl (oN (tN (sQ (rG (eK 5 rfl (callB ?_))))))))))))
 refine ⟨_, goodExpr_fun _ _ _ hv hp hpb hs1, rfl, ?_⟩
 refine kZ [2,3,4,6,14] rfl (eZ rfl (oN (tN (sQ (rG (eK 4 rfl ?_))))))
 refine WO_guard rfl rfl rfl rfl (lt_of rfl) (fun h1 => ?_) (fun h1 => ?_)
 rotate_left
 ·
  simp only [HS] at h1
  refine gN rfl rfl (gN rfl rfl (gN rfl rfl (gN rfl rfl (kZ [2,3,4,6,7,18,21,23] rfl (gN rfl rfl (gN rfl rfl (gN rfl rfl (eK 2 rfl (oN (tN (sQ (sQ (rG (eK 2 rfl (oN ?_)))))))))))))))
  refine tN (W_block (sQ (kY [2,3,4,6,7,8,29] rfl (rG (eK 2 rfl (oN (tN ?_)))))))
  refine W_cond rfl (fun h2 => ?_) (fun h2 => ?_)
  ·
   simp only [HS] at h2
   refine sQ (rG (eK 2 rfl ?_))
   refine WO_guard rfl rfl rfl rfl (lt_of rfl) (fun h3 => ?_) (fun h3 => ?_)
   rotate_left
   ·
    simp only [HS] at h3
    refine gN rfl rfl (gN rfl rfl (gN rfl rfl (gN rfl rfl (gN rfl rfl (kZ [4,6,33,39] rfl (eK 2 rfl (gN rfl rfl (gN rfl rfl (gN rfl rfl (gN rfl rfl (gN rfl rfl (gN rfl rfl (gN rfl rfl (kZ [6,41,48] rfl (gN rfl rfl ?_)))))))))))))))
    refine eK 2 rfl (oN (tN (rT (bR (tR (eR ?_))))))
    ·exact retB (by grind [stmtW, lens])
   refine eZ rfl (gY rfl (eZ rfl (gY rfl (eZ rfl (gY rfl (eZ rfl (gY rfl (evI ?_))))))))
   refine kZ [4,6,33,35,38] rfl (gY rfl (callB ?_))
   refine ⟨_, l1In_fun _ _ _, rfl, ?_⟩
   refine eK 2 rfl ?_
   refine WO_guard rfl rfl rfl rfl (lt_of rfl) (fun h4 => ?_) (fun h4 => ?_)
   rotate_left
   ·
    simp only [HS] at h4
    refine gN rfl rfl (gN rfl rfl (gN rfl rfl (gN rfl rfl (gN rfl rfl (gN rfl rfl (kZ [6,41,48] rfl (gN rfl rfl (eK 2 rfl (oN (tN (rT (bR (tR (eR ?_))))))))))))))
    ·exact retB (by grind [stmtW, lens])
   simp only [HS] at h4
   refine eZ rfl (gY rfl (eZ rfl (gY rfl (evE ?_))))
   refine gY rfl (eZ rfl (gY rfl (eZ rfl (gY rfl (evE ?_)))))
   refine kZ [6,41,44,47] rfl (gY rfl (evI ?_))
   refine gY rfl (eK 3 rfl (oN (tN (rT (bR (tR (eR ?_)))))))
   ·exact retB (by grind [stmtW, lens])
  simp only [HS] at h2
  refine sQ (sQ (rG (eK 2 rfl (oN (tN ?_)))))
  refine W_cond rfl (fun h3 => ?_) (fun h3 => ?_)
  ·
   simp only [HS] at h3
   refine W_skip (tN ?_)
   refine W_cond rfl (fun h4 => ?_) (fun h4 => ?_)
   ·
    simp only [HS] at h4
    refine sQ (rG (eK 2 rfl ?_))
    refine WO_guard rfl rfl rfl rfl (lt_of rfl) (fun h5 => ?_) (fun h5 => ?_)
    rotate_left
    ·
     simp only [HS] at h5
     refine eK 2 rfl (oN (tN (rT (bR (tR (eR ?_))))))
     ·exact retB (by grind [stmtW, lens])
    refine eK 3 rfl (kZ [6] rfl (oN (tN (rT (bR (tR (eR ?_)))))))
    ·exact retB (by grind [stmtW, lens])
   simp only [HS] at h4
   refine sQ (rG (eK 2 rfl (oN (tN ?_))))
   refine W_cond rfl (fun h5 => ?_) (fun h5 => ?_)
   ·
    simp only [HS] at h5
    refine sQ (rG (eK 2 rfl (evE ?_)))
    refine kZ [2,4,6,64] rfl (eK 2 rfl ?_)
    refine WO_guard rfl rfl rfl rfl (lt_of rfl) (fun h6 => ?_) (fun h6 => ?_)
    rotate_left
    ·
     simp only [HS] at h6
     refine gN rfl rfl (gN rfl rfl (gN rfl rfl (gN rfl rfl (gN rfl rfl (eK 2 rfl (kZ [4,6,74] rfl (gN rfl rfl (gN rfl rfl (gN rfl rfl (gN rfl rfl (gN rfl rfl (gN rfl rfl (gN rfl rfl (gN rfl rfl (eZ rfl ?_)))))))))))))))
     refine kZ [6,83] rfl (eZ rfl (oN (tN (rT (bR (tR (eR ?_)))))))
     ·exact retB (by grind [stmtW, lens])
    simp only [HS] at h6
    refine eZ rfl (gY rfl (eZ rfl (gY rfl (eZ rfl (gY rfl (evE ?_))))))
    refine gY rfl (evI ?_)
    refine gY rfl (callB ?_)
    refine ⟨_, l1In_fun _ _ _, rfl, ?_⟩
    refine eZ rfl (kZ [4,6,73] rfl (eZ rfl ?_))
    refine WO_guard rfl rfl rfl rfl (lt_of rfl) (fun h7 => ?_) (fun h7 => ?_)
    rotate_left
    ·
     simp only [HS] at h7
     refine gN rfl rfl (gN rfl rfl (gN rfl rfl (gN rfl rfl (gN rfl rfl (gN rfl rfl (gN rfl rfl (eZ rfl (kZ [6,83] rfl (eZ rfl (oN (tN (rT (bR (tR (eR ?_)))))))))))))))
     ·exact retB (by grind [stmtW, lens])
    simp only [HS] at h7
    refine eZ rfl (gY rfl (eZ rfl (gY rfl (evE ?_))))
    refine gY rfl (eZ rfl (gY rfl (eZ rfl (gY rfl (evE ?_)))))
    refine gY rfl (evI ?_)
    refine gY rfl (eZ rfl (kZ [6,74,82] rfl (eK 2 rfl (oN (tN (rT (bR (tR (eR ?_)))))))))
    ·exact retB (by grind [stmtW, lens])
   simp only [HS] at h5
   refine sQ (rG (eK 2 rfl (oN (tN ?_))))
   refine W_cond rfl (fun h6 => ?_) (fun h6 => ?_)
   ·
    simp only [HS] at h6
    refine sQ (kY [4,6,8] rfl (rG (eK 2 rfl (evE ?_))))
    refine eK 2 rfl ?_
    refine WO_guard rfl rfl rfl rfl (lt_of rfl) (fun h7 => ?_) (fun h7 => ?_)
    rotate_left
    ·
     simp only [HS] at h7
     refine eK 2 rfl (oN (tN (rT (bR (tR (eR ?_))))))
     ·exact retB (by grind [stmtW, lens])
    simp only [HS] at h7
    refine eK 3 rfl (oN (tN (rT (bR (tR (eR ?_))))))
    ·exact retB (by grind [stmtW, lens])
   simp only [HS] at h6
   refine sQ (kY [4,6,7,29] rfl (rG (eK 2 rfl (oN (tN ?_)))))
   refine W_cond rfl (fun h7 => ?_) (fun h7 => ?_)
   ·
    simp only [HS] at h7
    refine sQ (rG (eK 2 rfl ?_))
    refine WO_guard rfl rfl rfl rfl (lt_of rfl) (fun h8 => ?_) (fun h8 => ?_)
    rotate_left
    ·
     simp only [HS] at h8
     refine gN rfl rfl (gN rfl rfl (eK 2 rfl (oN (tN (rT (bR (tR (eR ?_))))))))
     ·exact retB (by grind [stmtW, lens])
    refine eZ rfl (gY rfl (eZ rfl (gY rfl (eK 3 rfl (kZ [6] rfl (oN (tN (rT (bR (tR (eR ?_)))))))))))
    ·exact retB (by grind [stmtW, lens])
   simp only [HS] at h7
   refine sQ (rG (eK 2 rfl (oN (tN ?_))))
   refine W_cond rfl (fun h8 => ?_) (fun h8 => ?_)
   ·
    simp only [HS] at h8
    refine sQ (rG (eK 2 rfl ?_))
    refine WO_guard rfl rfl rfl rfl (lt_of rfl) (fun h9 => ?_) (fun h9 => ?_)
    rotate_left
    ·
     simp only [HS] at h9
     refine gN rfl rfl (gN rfl rfl (eZ rfl (kZ [4,6,108] rfl (eZ rfl (gN rfl rfl (gN rfl rfl (gN rfl rfl (gN rfl rfl (eK 2 rfl (oN (tN (rT (bR (tR (eR ?_)))))))))))))))
     ·exact retB (by grind [stmtW, lens])
    refine eZ rfl (gY rfl (eZ rfl (gY rfl (eZ rfl (kZ [4,6,104,107] rfl (eK 2 rfl ?_))))))
    refine WO_guard rfl rfl rfl rfl (lt_of rfl) (fun h10 => ?_) (fun h10 => ?_)
    rotate_left
    ·
     simp only [HS] at h10
     refine gN rfl rfl (gN rfl rfl (gN rfl rfl (eK 2 rfl (oN (tN (rT (bR (tR (eR ?_)))))))))
     ·exact retB (by grind [stmtW, lens])
    simp only [HS] at h10
    refine eZ rfl (gY rfl (eZ rfl (gY rfl (evE ?_))))
    refine gY rfl (eK 3 rfl (oN (tN (rT (bR (tR (eR ?_)))))))
    ·exact retB (by grind [stmtW, lens])
   simp only [HS] at h8
   refine W_skip (bN (tN (sQ (rG (eZ rfl (oN (tN (rT (eR ?_)))))))))
   ·exact retB (by grind [stmtW, lens])
  simp only [HS] at h3
  refine sQ (rG (eK 2 rfl (oN (tN ?_))))
  refine W_cond rfl (fun h4 => ?_) (fun h4 => ?_)
  ·
   simp only [HS] at h4
   refine W_skip (tN ?_)
   refine W_cond rfl (fun h5 => ?_) (fun h5 => ?_)
   ·
    simp only [HS] at h5
    refine sQ (rG (eK 2 rfl ?_))
    refine WO_guard rfl rfl rfl rfl (lt_of rfl) (fun h6 => ?_) (fun h6 => ?_)
    rotate_left
    ·
     simp only [HS] at h6
     refine eZ rfl (kZ [6,59] rfl (eZ rfl (oN (tN (rT (bR (tR (eR ?_))))))))
     ·exact retB (by grind [stmtW, lens])
    refine eK 2 rfl (kZ [6,59] rfl (eZ rfl (oN (tN (rT (bR (tR (eR ?_))))))))
    ·exact retB (by grind [stmtW, lens])
   simp only [HS] at h5
   refine sQ (rG (eK 2 rfl (oN (tN ?_))))
   refine W_cond rfl (fun h6 => ?_) (fun h6 => ?_)
   ·
    simp only [HS] at h6
    refine sQ (kY [2,4,6] rfl (rG (eK 2 rfl (evE ?_))))
    refine eK 2 rfl ?_
    refine WO_guard rfl rfl rfl rfl (lt_of rfl) (fun h7 => ?_) (fun h7 => ?_)
    rotate_left
    ·
     simp only [HS] at h7
     refine gN rfl rfl (gN rfl rfl (gN rfl rfl (gN rfl rfl (kZ [4,6,66,68,71] rfl (gN rfl rfl (eK 2 rfl (gN rfl rfl (gN rfl rfl (gN rfl rfl (gN rfl rfl (gN rfl rfl (gN rfl rfl (kZ [6,74,77,80] rfl (gN rfl rfl (gN rfl rfl ?_)))))))))))))))
     refine eK 2 rfl (oN (tN (rT (bR (tR (eR ?_))))))
     ·exact retB (by grind [stmtW, lens])
    simp only [HS] at h7
    refine eZ rfl (gY rfl (eZ rfl (gY rfl (eZ rfl (gY rfl (evE ?_))))))
    refine kZ [4,6,66,68,70] rfl (gY rfl (evI ?_))
    refine gY rfl (callB ?_)
    refine ⟨_, l1In_fun _ _ _, rfl, ?_⟩
    refine eK 2 rfl ?_
    refine WO_guard rfl rfl rfl rfl (lt_of rfl) (fun h8 => ?_) (fun h8 => ?_)
    rotate_left
    ·
     simp only [HS] at h8
     refine gN rfl rfl (gN rfl rfl (gN rfl rfl (gN rfl rfl (gN rfl rfl (kZ [6,74,77,80] rfl (gN rfl rfl (gN rfl rfl (eK 2 rfl (oN (tN (rT (bR (tR (eR ?_))))))))))))))
     ·exact retB (by grind [stmtW, lens])
    simp only [HS] at h8
    refine eZ rfl (gY rfl (eZ rfl (gY rfl (evE ?_))))
    refine gY rfl (eZ rfl (gY rfl (eZ rfl (kZ [6,74,77,79] rfl (gY rfl (evE ?_))))))
    refine gY rfl (evI ?_)
    refine gY rfl (eK 3 rfl (oN (tN (rT (bR (tR (eR ?_)))))))
    ·exact retB (by grind [stmtW, lens])
   simp only [HS] at h6
   refine sQ (kY [4,6,7,8,29] rfl (rG (eK 2 rfl (oN (tN ?_)))))
   refine W_cond rfl (fun h7 => ?_) (fun h7 => ?_)
   ·
    simp only [HS] at h7
    refine sQ (rG (eK 2 rfl (evE ?_)))
    refine eK 2 rfl ?_
    refine WO_guard rfl rfl rfl rfl (lt_of rfl) (fun h8 => ?_) (fun h8 => ?_)
    rotate_left
    ·
     simp only [HS] at h8
     refine eK 2 rfl (kZ [6] rfl (oN (tN (rT (bR (tR (eR ?_)))))))
     ·exact retB (by grind [stmtW, lens])
    simp only [HS] at h8
    refine eK 2 rfl (kZ [6,92] rfl (eZ rfl (oN (tN (rT (bR (tR (eR ?_))))))))
    ·exact retB (by grind [stmtW, lens])
   simp only [HS] at h7
   refine sQ (rG (eK 2 rfl (oN (tN ?_))))
   refine W_cond rfl (fun h8 => ?_) (fun h8 => ?_)
   ·
    simp only [HS] at h8
    refine sQ (rG (eK 2 rfl ?_))
    refine WO_guard rfl rfl rfl rfl (lt_of rfl) (fun h9 => ?_) (fun h9 => ?_)
    rotate_left
    ·
     simp only [HS] at h9
     refine gN rfl rfl (gN rfl rfl (eZ rfl (kZ [6,100] rfl (eZ rfl (oN (tN (rT (bR (tR (eR ?_))))))))))
     ·exact retB (by grind [stmtW, lens])
    refine eZ rfl (gY rfl (eZ rfl (gY rfl (eZ rfl (kZ [6,96,99] rfl (eK 2 rfl (oN (tN (rT (bR (tR (eR ?_))))))))))))
    ·exact retB (by grind [stmtW, lens])
   simp only [HS] at h8
   refine sQ (rG (eK 2 rfl (oN (tN ?_))))
   refine W_cond rfl (fun h9 => ?_) (fun h9 => ?_)
   ·
    simp only [HS] at h9
    refine sQ (rG (eK 2 rfl ?_))
    refine WO_guard rfl rfl rfl rfl (lt_of rfl) (fun h10 => ?_) (fun h10 => ?_)
    rotate_left
    ·
     simp only [HS] at h10
     refine gN rfl rfl (kZ [4,6,104,106] rfl (gN rfl rfl (eK 2 rfl (gN rfl rfl (gN rfl rfl (gN rfl rfl (gN rfl rfl (eK 2 rfl (kZ [6] rfl (oN (tN (rT (bR (tR (eR ?_)))))))))))))))
     ·exact retB (by grind [stmtW, lens])
    refine eZ rfl (gY rfl (eZ rfl (kZ [4,6,104,106] rfl (gY rfl (eK 3 rfl ?_)))))
    refine WO_guard rfl rfl rfl rfl (lt_of rfl) (fun h11 => ?_) (fun h11 => ?_)
    rotate_left
    ·
     simp only [HS] at h11
     refine gN rfl rfl (gN rfl rfl (gN rfl rfl (eK 2 rfl (oN (tN (rT (bR (tR (eR ?_)))))))))
     ·exact retB (by grind [stmtW, lens])
    simp only [HS] at h11
    refine eZ rfl (gY rfl (eZ rfl (gY rfl (evE ?_))))
    refine gY rfl (eK 3 rfl (kZ [6] rfl (oN (tN (rT (bR (tR (eR ?_))))))))
    ·exact retB (by grind [stmtW, lens])
   simp only [HS] at h9
   refine W_skip (bN (tN (sQ (rG (eZ rfl (oN (tN (rT (eR ?_)))))))))
   ·exact retB (by grind [stmtW, lens])
  simp only [HS] at h4
  refine sQ (rG (eK 2 rfl (oN (tN ?_))))
  refine W_cond rfl (fun h5 => ?_) (fun h5 => ?_)
  ·
   simp only [HS] at h5
   refine W_skip (tN ?_)
   refine W_cond rfl (fun h6 => ?_) (fun h6 => ?_)
   ·
    simp only [HS] at h6
    refine sQ (kY [6,7,8] rfl (rG (eK 2 rfl ?_)))
    refine WO_guard rfl rfl rfl rfl (lt_of rfl) (fun h7 => ?_) (fun h7 => ?_)
    rotate_left
    ·
     simp only [HS] at h7
     refine eK 2 rfl (oN (tN (rT (bR (tR (eR ?_))))))
     ·exact retB (by grind [stmtW, lens])
    refine eK 3 rfl (oN (tN (rT (bR (tR (eR ?_))))))
    ·exact retB (by grind [stmtW, lens])
   simp only [HS] at h6
   refine sQ (kY [2,4,6,7,8,29] rfl (rG (eK 2 rfl (oN (tN ?_)))))
   refine W_cond rfl (fun h7 => ?_) (fun h7 => ?_)
   ·
    simp only [HS] at h7
    refine sQ (rG (eK 2 rfl (evE ?_)))
    refine eK 2 rfl ?_
    refine WO_guard rfl rfl rfl rfl (lt_of rfl) (fun h8 => ?_) (fun h8 => ?_)
    rotate_left
    ·
     simp only [HS] at h8
     refine gN rfl rfl (gN rfl rfl (kZ [4,6,66,68,69] rfl (gN rfl rfl (gN rfl rfl (gN rfl rfl (eK 2 rfl (gN rfl rfl (gN rfl rfl (gN rfl rfl (gN rfl rfl (kZ [6,74,77,78] rfl (gN rfl rfl (gN rfl rfl (gN rfl rfl (gN rfl rfl ?_)))))))))))))))
     refine eK 2 rfl (oN (tN (rT (bR (tR (eR ?_))))))
     ·exact retB (by grind [stmtW, lens])
    simp only [HS] at h8
    refine eZ rfl (gY rfl (eZ rfl (kZ [2,4,6,66,68] rfl (gY rfl (eZ rfl (gY rfl (evE ?_)))))))
    refine gY rfl (evI ?_)
    refine gY rfl (callB ?_)
    refine ⟨_, l1In_fun _ _ _, rfl, ?_⟩
    refine eK 2 rfl ?_
    refine WO_guard rfl rfl rfl rfl (lt_of rfl) (fun h9 => ?_) (fun h9 => ?_)
    rotate_left
    ·
     simp only [HS] at h9
     refine gN rfl rfl (gN rfl rfl (gN rfl rfl (kZ [6,74,77,78] rfl (gN rfl rfl (gN rfl rfl (gN rfl rfl (gN rfl rfl (eK 2 rfl (oN (tN (rT (bR (tR (eR ?_))))))))))))))
     ·exact retB (by grind [stmtW, lens])
    simp only [HS] at h9
    refine eZ rfl (gY rfl (eZ rfl (gY rfl (evE ?_))))
    refine kZ [4,6,74,77] rfl (gY rfl (eZ rfl (gY rfl (eZ rfl (gY rfl (evE ?_))))))
    refine gY rfl (evI ?_)
    refine gY rfl (eK 3 rfl (oN (tN (rT (bR (tR (eR ?_)))))))
    ·exact retB (by grind [stmtW, lens])
   simp only [HS] at h7
   refine sQ (rG (eK 2 rfl (oN (tN ?_))))
   refine W_cond rfl (fun h8 => ?_) (fun h8 => ?_)
   ·
    simp only [HS] at h8
    refine sQ (rG (eK 2 rfl (evE ?_)))
    refine eK 2 rfl (kZ [6,8,90] rfl ?_)
    refine WO_guard rfl rfl rfl rfl (lt_of rfl) (fun h9 => ?_) (fun h9 => ?_)
    rotate_left
    ·
     simp only [HS] at h9
     refine eK 2 rfl (oN (tN (rT (bR (tR (eR ?_))))))
     ·exact retB (by grind [stmtW, lens])
    simp only [HS] at h9
    refine eK 3 rfl (oN (tN (rT (bR (tR (eR ?_))))))
    ·exact retB (by grind [stmtW, lens])
   simp only [HS] at h8
   refine sQ (rG (eK 2 rfl (oN (tN ?_))))
   refine W_cond rfl (fun h9 => ?_) (fun h9 => ?_)
   ·
    simp only [HS] at h9
    refine sQ (rG (eK 2 rfl ?_))
    refine WO_guard rfl rfl rfl rfl (lt_of rfl) (fun h10 => ?_) (fun h10 => ?_)
    rotate_left
    ·
     simp only [HS] at h10
     refine gN rfl rfl (kZ [6,96,98] rfl (gN rfl rfl (eK 2 rfl (oN (tN (rT (bR (tR (eR ?_)))))))))
     ·exact retB (by grind [stmtW, lens])
    refine eZ rfl (gY rfl (eZ rfl (kZ [6,96,98] rfl (gY rfl (eK 3 rfl (oN (tN (rT (bR (tR (eR ?_)))))))))))
    ·exact retB (by grind [stmtW, lens])
   simp only [HS] at h9
   refine sQ (rG (eK 2 rfl (oN (tN ?_))))
   refine W_cond rfl (fun h10 => ?_) (fun h10 => ?_)
   ·
    simp only [HS] at h10
    refine sQ (kY [4,6,7] rfl (rG (eK 2 rfl ?_)))
    refine WO_guard rfl rfl rfl rfl (lt_of rfl) (fun h11 => ?_) (fun h11 => ?_)
    rotate_left
    ·
     simp only [HS] at h11
     refine gN rfl rfl (gN rfl rfl (eK 2 rfl (gN rfl rfl (gN rfl rfl (gN rfl rfl (kZ [6,109,112] rfl (gN rfl rfl (eK 2 rfl (oN (tN (rT (bR (tR (eR ?_))))))))))))))
     ·exact retB (by grind [stmtW, lens])
    refine eZ rfl (gY rfl (eZ rfl (gY rfl (eK 3 rfl ?_))))
    refine WO_guard rfl rfl rfl rfl (lt_of rfl) (fun h12 => ?_) (fun h12 => ?_)
    rotate_left
    ·
     simp only [HS] at h12
     refine gN rfl rfl (gN rfl rfl (kZ [6,109,112] rfl (gN rfl rfl (eK 2 rfl (oN (tN (rT (bR (tR (eR ?_))))))))))
     ·exact retB (by grind [stmtW, lens])
    simp only [HS] at h12
    refine eZ rfl (gY rfl (eZ rfl (kZ [6,109,111] rfl (gY rfl (evE ?_)))))
    refine gY rfl (eK 3 rfl (oN (tN (rT (bR (tR (eR ?_)))))))
    ·exact retB (by grind [stmtW, lens])
   simp only [HS] at h10
   refine W_skip (bN (tN (sQ (kY [6] rfl (rG (eZ rfl (oN (tN (rT (eR ?_))))))))))
   ·exact retB (by grind [stmtW, lens])
  simp only [HS] at h5
  refine kY [2,4,6,7,8,29,51] rfl (rG (eK 2 rfl (oN (tN ?_))))
  refine W_cond rfl (fun h6 => ?_) (fun h6 => ?_)
  ·
   simp only [HS] at h6
   refine sQ (rG (eK 2 rfl ?_))
   refine WO_guard rfl rfl rfl rfl (lt_of rfl) (fun h7 => ?_) (fun h7 => ?_)
   rotate_left
   ·
    simp only [HS] at h7
    refine eK 2 rfl (oN (tN (rT (bR (tR (eR ?_))))))
    ·exact retB (by grind [stmtW, lens])
   refine eK 3 rfl (oN (tN (rT (bR (tR (eR ?_))))))
   ·exact retB (by grind [stmtW, lens])
  simp only [HS] at h6
  refine sQ (rG (eK 2 rfl (oN (tN ?_))))
  refine W_cond rfl (fun h7 => ?_) (fun h7 => ?_)
  ·
   simp only [HS] at h7
   refine sQ (rG (eK 2 rfl (evE ?_)))
   refine eK 2 rfl (kZ [2,4,6,66] rfl ?_)
   refine WO_guard rfl rfl rfl rfl (lt_of rfl) (fun h8 => ?_) (fun h8 => ?_)
   rotate_left
   ·
    simp only [HS] at h8
    refine gN rfl rfl (gN rfl rfl (gN rfl rfl (gN rfl rfl (gN rfl rfl (eK 2 rfl (gN rfl rfl (gN rfl rfl (kZ [4,6,74,76] rfl (gN rfl rfl (gN rfl rfl (gN rfl rfl (gN rfl rfl (gN rfl rfl (gN rfl rfl (eK 2 rfl ?_)))))))))))))))
    refine oN (tN (rT (bR (tR (eR ?_)))))
    ·exact retB (by grind [stmtW, lens])
   simp only [HS] at h8
   refine eZ rfl (gY rfl (eZ rfl (gY rfl (eZ rfl (gY rfl (evE ?_))))))
   refine gY rfl (evI ?_)
   refine gY rfl (callB ?_)
   refine ⟨_, l1In_fun _ _ _, rfl, ?_⟩
   refine eK 2 rfl ?_
   refine WO_guard rfl rfl rfl rfl (lt_of rfl) (fun h9 => ?_) (fun h9 => ?_)
   rotate_left
   ·
    simp only [HS] at h9
    refine gN rfl rfl (kZ [4,6,74,76] rfl (gN rfl rfl (gN rfl rfl (gN rfl rfl (gN rfl rfl (gN rfl rfl (gN rfl rfl (eK 2 rfl (oN (tN (rT (bR (tR (eR ?_))))))))))))))
    ·exact retB (by grind [stmtW, lens])
   simp only [HS] at h9
   refine eZ rfl (gY rfl (eZ rfl (kZ [4,6,74,76] rfl (gY rfl (evE ?_)))))
   refine gY rfl (eZ rfl (gY rfl (eZ rfl (gY rfl (evE ?_)))))
   refine gY rfl (evI ?_)
   refine gY rfl (eK 3 rfl (oN (tN (rT (bR (tR (eR ?_)))))))
   ·exact retB (by grind [stmtW, lens])
  simp only [HS] at h7
  refine sQ (rG (eK 2 rfl (oN (tN ?_))))
  refine W_cond rfl (fun h8 => ?_) (fun h8 => ?_)
  ·
   simp only [HS] at h8
   refine sQ (rG (eK 2 rfl (evE ?_)))
   refine kZ [6,8,88] rfl (eK 2 rfl ?_)
   refine WO_guard rfl rfl rfl rfl (lt_of rfl) (fun h9 => ?_) (fun h9 => ?_)
   rotate_left
   ·
    simp only [HS] at h9
    refine eK 2 rfl (oN (tN (rT (bR (tR (eR ?_))))))
    ·exact retB (by grind [stmtW, lens])
   simp only [HS] at h9
   refine eK 3 rfl (oN (tN (rT (bR (tR (eR ?_))))))
   ·exact retB (by grind [stmtW, lens])
  simp only [HS] at h8
  refine sQ (rG (eK 2 rfl (oN (tN ?_))))
  refine W_cond rfl (fun h9 => ?_) (fun h9 => ?_)
  ·
   simp only [HS] at h9
   refine sQ (kY [4,6,7] rfl (rG (eK 2 rfl ?_)))
   refine WO_guard rfl rfl rfl rfl (lt_of rfl) (fun h10 => ?_) (fun h10 => ?_)
   rotate_left
   ·
    simp only [HS] at h10
    refine gN rfl rfl (gN rfl rfl (eK 2 rfl (oN (tN (rT (bR (tR (eR ?_))))))))
    ·exact retB (by grind [stmtW, lens])
   refine eZ rfl (gY rfl (eZ rfl (gY rfl (eK 3 rfl (oN (tN (rT (bR (tR (eR ?_))))))))))
   ·exact retB (by grind [stmtW, lens])
  simp only [HS] at h9
  refine sQ (kY [4,6,7,29] rfl (rG (eK 2 rfl (oN (tN ?_)))))
  refine W_cond rfl (fun h10 => ?_) (fun h10 => ?_)
  ·
   simp only [HS] at h10
   refine sQ (rG (eK 2 rfl ?_))
   refine WO_guard rfl rfl rfl rfl (lt_of rfl) (fun h11 => ?_) (fun h11 => ?_)
   rotate_left
   ·
    simp only [HS] at h11
    refine gN rfl rfl (gN rfl rfl (eK 2 rfl (gN rfl rfl (kZ [6,109,110] rfl (gN rfl rfl (gN rfl rfl (gN rfl rfl (eK 2 rfl (oN (tN (rT (bR (tR (eR ?_))))))))))))))
    ·exact retB (by grind [stmtW, lens])
   refine eZ rfl (gY rfl (eZ rfl (gY rfl (eK 3 rfl (kZ [4,6,109] rfl ?_)))))
   refine WO_guard rfl rfl rfl rfl (lt_of rfl) (fun h12 => ?_) (fun h12 => ?_)
   rotate_left
   ·
    simp only [HS] at h12
    refine gN rfl rfl (gN rfl rfl (gN rfl rfl (eK 2 rfl (oN (tN (rT (bR (tR (eR ?_)))))))))
    ·exact retB (by grind [stmtW, lens])
   simp only [HS] at h12
   refine eZ rfl (gY rfl (eZ rfl (gY rfl (evE ?_))))
   refine gY rfl (eK 3 rfl (oN (tN (rT (bR (tR (eR ?_)))))))
   ·exact retB (by grind [stmtW, lens])
  simp only [HS] at h10
  refine W_skip (bN (tN (sQ (rG (eZ rfl (oN (tN (rT (eR ?_)))))))))
  ·exact retB (by grind [stmtW, lens])
 simp only [HS] at h1
 refine eZ rfl (gY rfl (eZ rfl (gY rfl (evE ?_))))
 refine gY rfl (eZ rfl (kZ [2,3,4,6,7,18,21,22] rfl (gY rfl (eZ rfl (gY rfl (evE ?_))))))
 refine gY rfl (evI ?_)
 refine gY rfl (eK 3 rfl (oN (tN (sQ (sQ (rG (eK 2 rfl (oN (tN (W_block (sQ (kY [2,3,4,6,7,8,29] rfl (rG (eK 2 rfl (oN ?_)))))))))))))))
 refine tN ?_
 refine W_cond rfl (fun h2 => ?_) (fun h2 => ?_)
 ·
  simp only [HS] at h2
  refine sQ (rG (eK 2 rfl ?_))
  refine WO_guard rfl rfl rfl rfl (lt_of rfl) (fun h3 => ?_) (fun h3 => ?_)
  rotate_left
  ·
   simp only [HS] at h3
   refine gN rfl rfl (gN rfl rfl (gN rfl rfl (gN rfl rfl (gN rfl rfl (kZ [4,6,33,39] rfl (eK 2 rfl (gN rfl rfl (gN rfl rfl (gN rfl rfl (gN rfl rfl (gN rfl rfl (gN rfl rfl (gN rfl rfl (kZ [6,41,48] rfl (gN rfl rfl ?_)))))))))))))))
   refine eK 2 rfl (oN (tN (rT (bR (tR (eR ?_))))))
   ·exact retB (by grind [stmtW, lens])
  refine eZ rfl (gY rfl (eZ rfl (gY rfl (eZ rfl (gY rfl (eZ rfl (gY rfl (evI ?_))))))))
  refine kZ [4,6,33,35,38] rfl (gY rfl (callB ?_))
  refine ⟨_, l1In_fun _ _ _, rfl, ?_⟩
  refine eK 2 rfl ?_
  refine WO_guard rfl rfl rfl rfl (lt_of rfl) (fun h4 => ?_) (fun h4 => ?_)
  rotate_left
  ·
   simp only [HS] at h4
   refine gN rfl rfl (gN rfl rfl (gN rfl rfl (gN rfl rfl (gN rfl rfl (gN rfl rfl (kZ [6,41,48] rfl (gN rfl rfl (eK 2 rfl (oN (tN (rT (bR (tR (eR ?_))))))))))))))
   ·exact retB (by grind [stmtW, lens])
  simp only [HS] at h4
  refine eZ rfl (gY rfl (eZ rfl (gY rfl (evE ?_))))
  refine gY rfl (eZ rfl (gY rfl (eZ rfl (gY rfl (evE ?_)))))
  refine kZ [6,41,44,47] rfl (gY rfl (evI ?_))
  refine gY rfl (eK 3 rfl (oN (tN (rT (bR (tR (eR ?_)))))))
  ·exact retB (by grind [stmtW, lens])
 simp only [HS] at h2
 refine sQ (sQ (rG (eK 2 rfl (oN (tN ?_)))))
 refine W_cond rfl (fun h3 => ?_) (fun h3 => ?_)
 ·
  simp only [HS] at h3
  refine W_skip (tN ?_)
  refine W_cond rfl (fun h4 => ?_) (fun h4 => ?_)
  ·
   simp only [HS] at h4
   refine sQ (rG (eK 2 rfl ?_))
   refine WO_guard rfl rfl rfl rfl (lt_of rfl) (fun h5 => ?_) (fun h5 => ?_)
   rotate_left
   ·
    simp only [HS] at h5
    refine eK 2 rfl (oN (tN (rT (bR (tR (eR ?_))))))
    ·exact retB (by grind [stmtW, lens])
   refine eK 3 rfl (kZ [6] rfl (oN (tN (rT (bR (tR (eR ?_)))))))
   ·exact retB (by grind [stmtW, lens])
  simp only [HS] at h4
  refine sQ (rG (eK 2 rfl (oN (tN ?_))))
  refine W_cond rfl (fun h5 => ?_) (fun h5 => ?_)
  ·
   simp only [HS] at h5
   refine sQ (rG (eK 2 rfl (evE ?_)))
   refine kZ [2,4,6,64] rfl (eK 2 rfl ?_)
   refine WO_guard rfl rfl rfl rfl (lt_of rfl) (fun h6 => ?_) (fun h6 => ?_)
   rotate_left
   ·
    simp only [HS] at h6
    refine gN rfl rfl (gN rfl rfl (gN rfl rfl (gN rfl rfl (gN rfl rfl (eK 2 rfl (kZ [4,6,74] rfl (gN rfl rfl (gN rfl rfl (gN rfl rfl (gN rfl rfl (gN rfl rfl (gN rfl rfl (gN rfl rfl (gN rfl rfl (eZ rfl ?_)))))))))))))))
    refine kZ [6,83] rfl (eZ rfl (oN (tN (rT (bR (tR (eR ?_)))))))
    ·exact retB (by grind [stmtW, lens])
   simp only [HS] at h6
   refine eZ rfl (gY rfl (eZ rfl (gY rfl (eZ rfl (gY rfl (evE ?_))))))
   refine gY rfl (evI ?_)
   refine gY rfl (callB ?_)
   refine ⟨_, l1In_fun _ _ _, rfl, ?_⟩
   refine eZ rfl (kZ [4,6,73] rfl (eZ rfl ?_))
   refine WO_guard rfl rfl rfl rfl (lt_of rfl) (fun h7 => ?_) (fun h7 => ?_)
   rotate_left
   ·
    simp only [HS] at h7
    refine gN rfl rfl (gN rfl rfl (gN rfl rfl (gN rfl rfl (gN rfl rfl (gN rfl rfl (gN rfl rfl (eZ rfl (kZ [6,83] rfl (eZ rfl (oN (tN (rT (bR (tR (eR ?_)))))))))))))))
    ·exact retB (by grind [stmtW, lens])
   simp only [HS] at h7
   refine eZ rfl (gY rfl (eZ rfl (gY rfl (evE ?_))))
   refine gY rfl (eZ rfl (gY rfl (eZ rfl (gY rfl (evE ?_)))))
   refine gY rfl (evI ?_)
   refine gY rfl (eZ rfl (kZ [6,74,82] rfl (eK 2 rfl (oN (tN (rT (bR (tR (eR ?_)))))))))
   ·exact retB (by grind [stmtW, lens])
  simp only [HS] at h5
  refine sQ (rG (eK 2 rfl (oN (tN ?_))))
  refine W_cond rfl (fun h6 => ?_) (fun h6 => ?_)
  ·
   simp only [HS] at h6
   refine sQ (kY [4,6,8] rfl (rG (eK 2 rfl (evE ?_))))
   refine eK 2 rfl ?_
   refine WO_guard rfl rfl rfl rfl (lt_of rfl) (fun h7 => ?_) (fun h7 => ?_)
   rotate_left
   ·
    simp only [HS] at h7
    refine eK 2 rfl (oN (tN (rT (bR (tR (eR ?_))))))
    ·exact retB (by grind [stmtW, lens])
   simp only [HS] at h7
   refine eK 3 rfl (oN (tN (rT (bR (tR (eR ?_))))))
   ·exact retB (by grind [stmtW, lens])
  simp only [HS] at h6
  refine sQ (kY [4,6,7,29] rfl (rG (eK 2 rfl (oN (tN ?_)))))
  refine W_cond rfl (fun h7 => ?_) (fun h7 => ?_)
  ·
   simp only [HS] at h7
   refine sQ (rG (eK 2 rfl ?_))
   refine WO_guard rfl rfl rfl rfl (lt_of rfl) (fun h8 => ?_) (fun h8 => ?_)
   rotate_left
   ·
    simp only [HS] at h8
    refine gN rfl rfl (gN rfl rfl (eK 2 rfl (oN (tN (rT (bR (tR (eR ?_))))))))
    ·exact retB (by grind [stmtW, lens])
   refine eZ rfl (gY rfl (eZ rfl (gY rfl (eK 3 rfl (kZ [6] rfl (oN (tN (rT (bR (tR (eR ?_)))))))))))
   ·exact retB (by grind [stmtW, lens])
  simp only [HS] at h7
  refine sQ (rG (eK 2 rfl (oN (tN ?_))))
  refine W_cond rfl (fun h8 => ?_) (fun h8 => ?_)
  ·
   simp only [HS] at h8
   refine sQ (rG (eK 2 rfl ?_))
   refine WO_guard rfl rfl rfl rfl (lt_of rfl) (fun h9 => ?_) (fun h9 => ?_)
   rotate_left
   ·
    simp only [HS] at h9
    refine gN rfl rfl (gN rfl rfl (eZ rfl (kZ [4,6,108] rfl (eZ rfl (gN rfl rfl (gN rfl rfl (gN rfl rfl (gN rfl rfl (eK 2 rfl (oN (tN (rT (bR (tR (eR ?_)))))))))))))))
    ·exact retB (by grind [stmtW, lens])
   refine eZ rfl (gY rfl (eZ rfl (gY rfl (eZ rfl (kZ [4,6,104,107] rfl (eK 2 rfl ?_))))))
   refine WO_guard rfl rfl rfl rfl (lt_of rfl) (fun h10 => ?_) (fun h10 => ?_)
   rotate_left
   ·
    simp only [HS] at h10
    refine gN rfl rfl (gN rfl rfl (gN rfl rfl (eK 2 rfl (oN (tN (rT (bR (tR (eR ?_)))))))))
    ·exact retB (by grind [stmtW, lens])
   simp only [HS] at h10
   refine eZ rfl (gY rfl (eZ rfl (gY rfl (evE ?_))))
   refine gY rfl (eK 3 rfl (oN (tN (rT (bR (tR (eR ?_)))))))
   ·exact retB (by grind [stmtW, lens])
  simp only [HS] at h8
  refine W_skip (bN (tN (sQ (rG (eZ rfl (oN (tN (rT (eR ?_)))))))))
  ·exact retB (by grind [stmtW, lens])
 simp only [HS] at h3
 refine sQ (rG (eK 2 rfl (oN (tN ?_))))
 refine W_cond rfl (fun h4 => ?_) (fun h4 => ?_)
 ·
  simp only [HS] at h4
  refine W_skip (tN ?_)
  refine W_cond rfl (fun h5 => ?_) (fun h5 => ?_)
  ·
   simp only [HS] at h5
   refine sQ (rG (eK 2 rfl ?_))
   refine WO_guard rfl rfl rfl rfl (lt_of rfl) (fun h6 => ?_) (fun h6 => ?_)
   rotate_left
   ·
    simp only [HS] at h6
    refine eZ rfl (kZ [6,59] rfl (eZ rfl (oN (tN (rT (bR (tR (eR ?_))))))))
    ·exact retB (by grind [stmtW, lens])
   refine eK 2 rfl (kZ [6,59] rfl (eZ rfl (oN (tN (rT (bR (tR (eR ?_))))))))
   ·exact retB (by grind [stmtW, lens])
  simp only [HS] at h5
  refine sQ (rG (eK 2 rfl (oN (tN ?_))))
  refine W_cond rfl (fun h6 => ?_) (fun h6 => ?_)
  ·
   simp only [HS] at h6
   refine sQ (kY [2,4,6] rfl (rG (eK 2 rfl (evE ?_))))
   refine eK 2 rfl ?_
   refine WO_guard rfl rfl rfl rfl (lt_of rfl) (fun h7 => ?_) (fun h7 => ?_)
   rotate_left
   ·
    simp only [HS] at h7
    refine gN rfl rfl (gN rfl rfl (gN rfl rfl (gN rfl rfl (kZ [4,6,66,68,71] rfl (gN rfl rfl (eK 2 rfl (gN rfl rfl (gN rfl rfl (gN rfl rfl (gN rfl rfl (gN rfl rfl (gN rfl rfl (kZ [6,74,77,80] rfl (gN rfl rfl (gN rfl rfl ?_)))))))))))))))
    refine eK 2 rfl (oN (tN (rT (bR (tR (eR ?_))))))
    ·exact retB (by grind [stmtW, lens])
   simp only [HS] at h7
   refine eZ rfl (gY rfl (eZ rfl (gY rfl (eZ rfl (gY rfl (evE ?_))))))
   refine kZ [4,6,66,68,70] rfl (gY rfl (evI ?_))
   refine gY rfl (callB ?_)
   refine ⟨_, l1In_fun _ _ _, rfl, ?_⟩
   refine eK 2 rfl ?_
   refine WO_guard rfl rfl rfl rfl (lt_of rfl) (fun h8 => ?_) (fun h8 => ?_)
   rotate_left
   ·
    simp only [HS] at h8
    refine gN rfl rfl (gN rfl rfl (gN rfl rfl (gN rfl rfl (gN rfl rfl (kZ [6,74,77,80] rfl (gN rfl rfl (gN rfl rfl (eK 2 rfl (oN (tN (rT (bR (tR (eR ?_))))))))))))))
    ·exact retB (by grind [stmtW, lens])
   simp only [HS] at h8
   refine eZ rfl (gY rfl (eZ rfl (gY rfl (evE ?_))))
   refine gY rfl (eZ rfl (gY rfl (eZ rfl (kZ [6,74,77,79] rfl (gY rfl (evE ?_))))))
   refine gY rfl (evI ?_)
   refine gY rfl (eK 3 rfl (oN (tN (rT (bR (tR (eR ?_)))))))
   ·exact retB (by grind [stmtW, lens])
  simp only [HS] at h6
  refine sQ (kY [4,6,7,8,29] rfl (rG (eK 2 rfl (oN (tN ?_)))))
  refine W_cond rfl (fun h7 => ?_) (fun h7 => ?_)
  ·
   simp only [HS] at h7
   refine sQ (rG (eK 2 rfl (evE ?_)))
   refine eK 2 rfl ?_
   refine WO_guard rfl rfl rfl rfl (lt_of rfl) (fun h8 => ?_) (fun h8 => ?_)
   rotate_left
   ·
    simp only [HS] at h8
    refine eK 2 rfl (kZ [6] rfl (oN (tN (rT (bR (tR (eR ?_)))))))
    ·exact retB (by grind [stmtW, lens])
   simp only [HS] at h8
   refine eK 2 rfl (kZ [6,92] rfl (eZ rfl (oN (tN (rT (bR (tR (eR ?_))))))))
   ·exact retB (by grind [stmtW, lens])
  simp only [HS] at h7
  refine sQ (rG (eK 2 rfl (oN (tN ?_))))
  refine W_cond rfl (fun h8 => ?_) (fun h8 => ?_)
  ·
   simp only [HS] at h8
   refine sQ (rG (eK 2 rfl ?_))
   refine WO_guard rfl rfl rfl rfl (lt_of rfl) (fun h9 => ?_) (fun h9 => ?_)
   rotate_left
   ·
    simp only [HS] at h9
    refine gN rfl rfl (gN rfl rfl (eZ rfl (kZ [6,100] rfl (eZ rfl (oN (tN (rT (bR (tR (eR ?_))))))))))
    ·exact retB (by grind [stmtW, lens])
   refine eZ rfl (gY rfl (eZ rfl (gY rfl (eZ rfl (kZ [6,96,99] rfl (eK 2 rfl (oN (tN (rT (bR (tR (eR ?_))))))))))))
   ·exact retB (by grind [stmtW, lens])
  simp only [HS] at h8
  refine sQ (rG (eK 2 rfl (oN (tN ?_))))
  refine W_cond rfl (fun h9 => ?_) (fun h9 => ?_)
  ·
   simp only [HS] at h9
   refine sQ (rG (eK 2 rfl ?_))
   refine WO_guard rfl rfl rfl rfl (lt_of rfl) (fun h10 => ?_) (fun h10 => ?_)
   rotate_left
   ·
    simp only [HS] at h10
    refine gN rfl rfl (kZ [4,6,104,106] rfl (gN rfl rfl (eK 2 rfl (gN rfl rfl (gN rfl rfl (gN rfl rfl (gN rfl rfl (eK 2 rfl (kZ [6] rfl (oN (tN (rT (bR (tR (eR ?_)))))))))))))))
    ·exact retB (by grind [stmtW, lens])
   refine eZ rfl (gY rfl (eZ rfl (kZ [4,6,104,106] rfl (gY rfl (eK 3 rfl ?_)))))
   refine WO_guard rfl rfl rfl rfl (lt_of rfl) (fun h11 => ?_) (fun h11 => ?_)
   rotate_left
   ·
    simp only [HS] at h11
    refine gN rfl rfl (gN rfl rfl (gN rfl rfl (eK 2 rfl (oN (tN (rT (bR (tR (eR ?_)))))))))
    ·exact retB (by grind [stmtW, lens])
   simp only [HS] at h11
   refine eZ rfl (gY rfl (eZ rfl (gY rfl (evE ?_))))
   refine gY rfl (eK 3 rfl (kZ [6] rfl (oN (tN (rT (bR (tR (eR ?_))))))))
   ·exact retB (by grind [stmtW, lens])
  simp only [HS] at h9
  refine W_skip (bN (tN (sQ (rG (eZ rfl (oN (tN (rT (eR ?_)))))))))
  ·exact retB (by grind [stmtW, lens])
 simp only [HS] at h4
 refine sQ (rG (eK 2 rfl (oN (tN ?_))))
 refine W_cond rfl (fun h5 => ?_) (fun h5 => ?_)
 ·
  simp only [HS] at h5
  refine W_skip (tN ?_)
  refine W_cond rfl (fun h6 => ?_) (fun h6 => ?_)
  ·
   simp only [HS] at h6
   refine sQ (kY [6,7,8] rfl (rG (eK 2 rfl ?_)))
   refine WO_guard rfl rfl rfl rfl (lt_of rfl) (fun h7 => ?_) (fun h7 => ?_)
   rotate_left
   ·
    simp only [HS] at h7
    refine eK 2 rfl (oN (tN (rT (bR (tR (eR ?_))))))
    ·exact retB (by grind [stmtW, lens])
   refine eK 3 rfl (oN (tN (rT (bR (tR (eR ?_))))))
   ·exact retB (by grind [stmtW, lens])
  simp only [HS] at h6
  refine sQ (kY [2,4,6,7,8,29] rfl (rG (eK 2 rfl (oN (tN ?_)))))
  refine W_cond rfl (fun h7 => ?_) (fun h7 => ?_)
  ·
   simp only [HS] at h7
   refine sQ (rG (eK 2 rfl (evE ?_)))
   refine eK 2 rfl ?_
   refine WO_guard rfl rfl rfl rfl (lt_of rfl) (fun h8 => ?_) (fun h8 => ?_)
   rotate_left
   ·
    simp only [HS] at h8
    refine gN rfl rfl (gN rfl rfl (kZ [4,6,66,68,69] rfl (gN rfl rfl (gN rfl rfl (gN rfl rfl (eK 2 rfl (gN rfl rfl (gN rfl rfl (gN rfl rfl (gN rfl rfl (kZ [6,74,77,78] rfl (gN rfl rfl (gN rfl rfl (gN rfl rfl (gN rfl rfl ?_)))))))))))))))
    refine eK 2 rfl (oN (tN (rT (bR (tR (eR ?_))))))
    ·exact retB (by grind [stmtW, lens])
   simp only [HS] at h8
   refine eZ rfl (gY rfl (eZ rfl (kZ [2,4,6,66,68] rfl (gY rfl (eZ rfl (gY rfl (evE ?_)))))))
   refine gY rfl (evI ?_)
   refine gY rfl (callB ?_)
   refine ⟨_, l1In_fun _ _ _, rfl, ?_⟩
   refine eK 2 rfl ?_
   refine WO_guard rfl rfl rfl rfl (lt_of rfl) (fun h9 => ?_) (fun h9 => ?_)
   rotate_left
   ·
    simp only [HS] at h9
    refine gN rfl rfl (gN rfl rfl (gN rfl rfl (kZ [6,74,77,78] rfl (gN rfl rfl (gN rfl rfl (gN rfl rfl (gN rfl rfl (eK 2 rfl (oN (tN (rT (bR (tR (eR ?_))))))))))))))
    ·exact retB (by grind [stmtW, lens])
   simp only [HS] at h9
   refine eZ rfl (gY rfl (eZ rfl (gY rfl (evE ?_))))
   refine kZ [4,6,74,77] rfl (gY rfl (eZ rfl (gY rfl (eZ rfl (gY rfl (evE ?_))))))
   refine gY rfl (evI ?_)
   refine gY rfl (eK 3 rfl (oN (tN (rT (bR (tR (eR ?_)))))))
   ·exact retB (by grind [stmtW, lens])
  simp only [HS] at h7
  refine sQ (rG (eK 2 rfl (oN (tN ?_))))
  refine W_cond rfl (fun h8 => ?_) (fun h8 => ?_)
  ·
   simp only [HS] at h8
   refine sQ (rG (eK 2 rfl (evE ?_)))
   refine eK 2 rfl (kZ [6,8,90] rfl ?_)
   refine WO_guard rfl rfl rfl rfl (lt_of rfl) (fun h9 => ?_) (fun h9 => ?_)
   rotate_left
   ·
    simp only [HS] at h9
    refine eK 2 rfl (oN (tN (rT (bR (tR (eR ?_))))))
    ·exact retB (by grind [stmtW, lens])
   simp only [HS] at h9
   refine eK 3 rfl (oN (tN (rT (bR (tR (eR ?_))))))
   ·exact retB (by grind [stmtW, lens])
  simp only [HS] at h8
  refine sQ (rG (eK 2 rfl (oN (tN ?_))))
  refine W_cond rfl (fun h9 => ?_) (fun h9 => ?_)
  ·
   simp only [HS] at h9
   refine sQ (rG (eK 2 rfl ?_))
   refine WO_guard rfl rfl rfl rfl (lt_of rfl) (fun h10 => ?_) (fun h10 => ?_)
   rotate_left
   ·
    simp only [HS] at h10
    refine gN rfl rfl (kZ [6,96,98] rfl (gN rfl rfl (eK 2 rfl (oN (tN (rT (bR (tR (eR ?_)))))))))
    ·exact retB (by grind [stmtW, lens])
   refine eZ rfl (gY rfl (eZ rfl (kZ [6,96,98] rfl (gY rfl (eK 3 rfl (oN (tN (rT (bR (tR (eR ?_)))))))))))
   ·exact retB (by grind [stmtW, lens])
  simp only [HS] at h9
  refine sQ (rG (eK 2 rfl (oN (tN ?_))))
  refine W_cond rfl (fun h10 => ?_) (fun h10 => ?_)
  ·
   simp only [HS] at h10
   refine sQ (kY [4,6,7] rfl (rG (eK 2 rfl ?_)))
   refine WO_guard rfl rfl rfl rfl (lt_of rfl) (fun h11 => ?_) (fun h11 => ?_)
   rotate_left
   ·
    simp only [HS] at h11
    refine gN rfl rfl (gN rfl rfl (eK 2 rfl (gN rfl rfl (gN rfl rfl (gN rfl rfl (kZ [6,109,112] rfl (gN rfl rfl (eK 2 rfl (oN (tN (rT (bR (tR (eR ?_))))))))))))))
    ·exact retB (by grind [stmtW, lens])
   refine eZ rfl (gY rfl (eZ rfl (gY rfl (eK 3 rfl ?_))))
   refine WO_guard rfl rfl rfl rfl (lt_of rfl) (fun h12 => ?_) (fun h12 => ?_)
   rotate_left
   ·
    simp only [HS] at h12
    refine gN rfl rfl (gN rfl rfl (kZ [6,109,112] rfl (gN rfl rfl (eK 2 rfl (oN (tN (rT (bR (tR (eR ?_))))))))))
    ·exact retB (by grind [stmtW, lens])
   simp only [HS] at h12
   refine eZ rfl (gY rfl (eZ rfl (kZ [6,109,111] rfl (gY rfl (evE ?_)))))
   refine gY rfl (eK 3 rfl (oN (tN (rT (bR (tR (eR ?_)))))))
   ·exact retB (by grind [stmtW, lens])
  simp only [HS] at h10
  refine W_skip (bN (tN (sQ (kY [6] rfl (rG (eZ rfl (oN (tN (rT (eR ?_))))))))))
  ·exact retB (by grind [stmtW, lens])
 simp only [HS] at h5
 refine kY [2,4,6,7,8,29,51] rfl (rG (eK 2 rfl (oN (tN ?_))))
 refine W_cond rfl (fun h6 => ?_) (fun h6 => ?_)
 ·
  simp only [HS] at h6
  refine sQ (rG (eK 2 rfl ?_))
  refine WO_guard rfl rfl rfl rfl (lt_of rfl) (fun h7 => ?_) (fun h7 => ?_)
  rotate_left
  ·
   simp only [HS] at h7
   refine eK 2 rfl (oN (tN (rT (bR (tR (eR ?_))))))
   ·exact retB (by grind [stmtW, lens])
  refine eK 3 rfl (oN (tN (rT (bR (tR (eR ?_))))))
  ·exact retB (by grind [stmtW, lens])
 simp only [HS] at h6
 refine sQ (rG (eK 2 rfl (oN (tN ?_))))
 refine W_cond rfl (fun h7 => ?_) (fun h7 => ?_)
 ·
  simp only [HS] at h7
  refine sQ (rG (eK 2 rfl (evE ?_)))
  refine eK 2 rfl (kZ [2,4,6,66] rfl ?_)
  refine WO_guard rfl rfl rfl rfl (lt_of rfl) (fun h8 => ?_) (fun h8 => ?_)
  rotate_left
  ·
   simp only [HS] at h8
   refine gN rfl rfl (gN rfl rfl (gN rfl rfl (gN rfl rfl (gN rfl rfl (eK 2 rfl (gN rfl rfl (gN rfl rfl (kZ [4,6,74,76] rfl (gN rfl rfl (gN rfl rfl (gN rfl rfl (gN rfl rfl (gN rfl rfl (gN rfl rfl (eK 2 rfl ?_)))))))))))))))
   refine oN (tN (rT (bR (tR (eR ?_)))))
   ·exact retB (by grind [stmtW, lens])
  simp only [HS] at h8
  refine eZ rfl (gY rfl (eZ rfl (gY rfl (eZ rfl (gY rfl (evE ?_))))))
  refine gY rfl (evI ?_)
  refine gY rfl (callB ?_)
  refine ⟨_, l1In_fun _ _ _, rfl, ?_⟩
  refine eK 2 rfl ?_
  refine WO_guard rfl rfl rfl rfl (lt_of rfl) (fun h9 => ?_) (fun h9 => ?_)
  rotate_left
  ·
   simp only [HS] at h9
   refine gN rfl rfl (kZ [4,6,74,76] rfl (gN rfl rfl (gN rfl rfl (gN rfl rfl (gN rfl rfl (gN rfl rfl (gN rfl rfl (eK 2 rfl (oN (tN (rT (bR (tR (eR ?_))))))))))))))
   ·exact retB (by grind [stmtW, lens])
  simp only [HS] at h9
  refine eZ rfl (gY rfl (eZ rfl (kZ [4,6,74,76] rfl (gY rfl (evE ?_)))))
  refine gY rfl (eZ rfl (gY rfl (eZ rfl (gY rfl (evE ?_)))))
  refine gY rfl (evI ?_)
  refine gY rfl (eK 3 rfl (oN (tN (rT (bR (tR (eR ?_)))))))
  ·exact retB (by grind [stmtW, lens])
 simp only [HS] at h7
 refine sQ (rG (eK 2 rfl (oN (tN ?_))))
 refine W_cond rfl (fun h8 => ?_) (fun h8 => ?_)
 ·
  simp only [HS] at h8
  refine sQ (rG (eK 2 rfl (evE ?_)))
  refine kZ [6,8,88] rfl (eK 2 rfl ?_)
  refine WO_guard rfl rfl rfl rfl (lt_of rfl) (fun h9 => ?_) (fun h9 => ?_)
  rotate_left
  ·
   simp only [HS] at h9
   refine eK 2 rfl (oN (tN (rT (bR (tR (eR ?_))))))
   ·exact retB (by grind [stmtW, lens])
  simp only [HS] at h9
  refine eK 3 rfl (oN (tN (rT (bR (tR (eR ?_))))))
  ·exact retB (by grind [stmtW, lens])
 simp only [HS] at h8
 refine sQ (rG (eK 2 rfl (oN (tN ?_))))
 refine W_cond rfl (fun h9 => ?_) (fun h9 => ?_)
 ·
  simp only [HS] at h9
  refine sQ (kY [4,6,7] rfl (rG (eK 2 rfl ?_)))
  refine WO_guard rfl rfl rfl rfl (lt_of rfl) (fun h10 => ?_) (fun h10 => ?_)
  rotate_left
  ·
   simp only [HS] at h10
   refine gN rfl rfl (gN rfl rfl (eK 2 rfl (oN (tN (rT (bR (tR (eR ?_))))))))
   ·exact retB (by grind [stmtW, lens])
  refine eZ rfl (gY rfl (eZ rfl (gY rfl (eK 3 rfl (oN (tN (rT (bR (tR (eR ?_))))))))))
  ·exact retB (by grind [stmtW, lens])
 simp only [HS] at h9
 refine sQ (kY [4,6,7,29] rfl (rG (eK 2 rfl (oN (tN ?_)))))
 refine W_cond rfl (fun h10 => ?_) (fun h10 => ?_)
 ·
  simp only [HS] at h10
  refine sQ (rG (eK 2 rfl ?_))
  refine WO_guard rfl rfl rfl rfl (lt_of rfl) (fun h11 => ?_) (fun h11 => ?_)
  rotate_left
  ·
   simp only [HS] at h11
   refine gN rfl rfl (gN rfl rfl (eK 2 rfl (gN rfl rfl (kZ [6,109,110] rfl (gN rfl rfl (gN rfl rfl (gN rfl rfl (eK 2 rfl (oN (tN (rT (bR (tR (eR ?_))))))))))))))
   ·exact retB (by grind [stmtW, lens])
  refine eZ rfl (gY rfl (eZ rfl (gY rfl (eK 3 rfl (kZ [4,6,109] rfl ?_)))))
  refine WO_guard rfl rfl rfl rfl (lt_of rfl) (fun h12 => ?_) (fun h12 => ?_)
  rotate_left
  ·
   simp only [HS] at h12
   refine gN rfl rfl (gN rfl rfl (gN rfl rfl (eK 2 rfl (oN (tN (rT (bR (tR (eR ?_)))))))))
   ·exact retB (by grind [stmtW, lens])
  simp only [HS] at h12
  refine eZ rfl (gY rfl (eZ rfl (gY rfl (evE ?_))))
  refine gY rfl (eK 3 rfl (oN (tN (rT (bR (tR (eR ?_)))))))
  ·exact retB (by grind [stmtW, lens])
 simp only [HS] at h10
 refine W_skip (bN (tN (sQ (rG (eZ rfl (oN (tN (rT (eR ?_)))))))))
 ·exact retB (by grind [stmtW, lens])

theorem isStmt_fun (f : Func) (s : Stmt) (ps : List Int) (hs : s.ok 1048576) (hn : 0 ≤ s.n) (hv : 0 ≤ f.vars ∧ f.vars ≤ 6) (hp : PsOk ps) : Fun Tryz.prog 174 [.t f.tt, .t s.tt, .t (T.ints ps)] (tupD [.t (.bool (stmtG f.vars ps s))]) := by
 have hp1 := hp.1
 have hs1 : s.ex.length ≤ 1048576 := hs.1
 have hs2 : s.thn.length ≤ 1048576 := hs.2.1
 have hs3 : s.els.length ≤ 1048576 := hs.2.2.1
 refine Fun.begin tys Tryz.func174 rfl rfl (N := 97) [(0, .t f.tt), (1, .t s.tt), (2, .t (T.ints ps))] rfl rfl (fun w0 G F0 => ?_)
 refine sQ (rG (WO_box rfl rfl (lt_of rfl) rfl rfl (nZ rfl (WO_box rfl rfl (lt_of rfl) rfl rfl (nZ rfl (eZ rfl (oN (tN (sQ (sQ (rG (eK 2 rfl (callB ?_)))))))))))))
 refine ⟨_, within_fun _ _ _, rfl, ?_⟩
 refine eK 2 rfl ?_
 refine WO_guard rfl rfl rfl rfl (lt_of rfl) (fun h1 => ?_) (fun h1 => ?_)
 rotate_left
 ·
  simp only [HS] at h1
  refine gN rfl rfl (kZ [2,3,4,6,11,13] rfl (gN rfl rfl (gN rfl rfl (gN rfl rfl (gN rfl rfl (gN rfl rfl (gN rfl rfl (gN rfl rfl (eK 2 rfl (kZ [2,3,4,6,22] rfl (gN rfl rfl (gN rfl rfl (gN rfl rfl (gN rfl rfl (gN rfl rfl ?_)))))))))))))))
  refine gN rfl rfl (gN rfl rfl (gN rfl rfl (gN rfl rfl (kZ [2,3,4,6,22,31] rfl (gN rfl rfl (gN rfl rfl (gN rfl rfl (gN rfl rfl (gN rfl rfl (eZ rfl (oN (tN (W_condT rfl (sQ (rG ?_)))))))))))))))
  refine eZ rfl (oN (tN (rT (tR (eR ?_)))))
  ·have hh := highI_pos f.vars ps s.ex
   exact retB (by grind [stmtG, stmtW, lens, atI_at])
 simp only [HS] at h1
 refine eZ rfl (gY rfl (eZ rfl (kZ [2,3,4,6,11,13] rfl (gY rfl (eZ rfl (gY rfl (eZ rfl ?_)))))))
 refine WO_guard rfl rfl rfl rfl (lt_of rfl) (fun h2 => ?_) (fun h2 => ?_)
 rotate_left
 ·
  simp only [HS] at h2
  refine gN rfl rfl (gN rfl rfl (gN rfl rfl (gY rfl (eK 3 rfl (gY rfl (eZ rfl (kZ [2,3,4,6,22,23] rfl (gY rfl (eZ rfl (gY rfl (eZ rfl (gY rfl (eZ rfl ?_)))))))))))))
  refine WO_guard rfl rfl rfl rfl (lt_of rfl) (fun h3 => ?_) (fun h3 => ?_)
  rotate_left
  ·
   simp only [HS] at h3
   refine gN rfl rfl (gN rfl rfl (gY rfl (eZ rfl (gY rfl (eZ rfl (gN rfl rfl (gN rfl rfl (kZ [2,3,4,6,22,31,33] rfl (gN rfl rfl (gN rfl rfl (gY rfl (eK 2 rfl (oN (tN (W_condF rfl ?_)))))))))))))))
   refine W_skip (tN (sQ (sQ (rG (eK 2 rfl (oN (tN (W_block (sQ (rG (eK 2 rfl (oN (tN ?_)))))))))))))
   refine W_cond rfl (fun h4 => ?_) (fun h4 => ?_)
   ·
    simp only [HS] at h4
    refine sQ (kY [2,3,4,6] rfl (rG (eK 2 rfl (evE ?_))))
    refine eK 2 rfl ?_
    refine WO_guard rfl rfl rfl rfl (lt_of rfl) (fun h5 => ?_) (fun h5 => ?_)
    rotate_left
    ·
     simp only [HS] at h5
     refine gN rfl rfl (gN rfl rfl (gN rfl rfl (gN rfl rfl (kZ [2,3,4,6,49,53,54] rfl (gN rfl rfl (gN rfl rfl (gN rfl rfl (gN rfl rfl (gN rfl rfl (gN rfl rfl (gN rfl rfl (gN rfl rfl (gN rfl rfl (kZ [2,3,4,6,49,53,60,61,63] rfl (gN rfl rfl ?_)))))))))))))))
     refine gN rfl rfl (gN rfl rfl (gN rfl rfl (gN rfl rfl (eK 2 rfl (oN (tN (rT (bR (tR (eR ?_))))))))))
     ·have hh := highI_pos f.vars ps s.ex
      exact retB (by grind [stmtG, stmtW, lens, atI_at])
    simp only [HS] at h5
    refine eZ rfl (gY rfl (eZ rfl (gY rfl (eZ rfl (gY rfl (eZ rfl (kZ [2,3,4,6,49,53] rfl ?_)))))))
    refine WO_guard rfl rfl rfl rfl (lt_of rfl) (fun h6 => ?_) (fun h6 => ?_)
    rotate_left
    ·
     simp only [HS] at h6
     refine gN rfl rfl (gN rfl rfl (gN rfl rfl (gN rfl rfl (gN rfl rfl (gN rfl rfl (gN rfl rfl (gN rfl rfl (gN rfl rfl (kZ [2,3,4,6,49,53,60,61,63] rfl (gN rfl rfl (gN rfl rfl (gN rfl rfl (gN rfl rfl (gY rfl (eK 3 rfl ?_)))))))))))))))
     refine oN (tN (rT (bR (tR (eR ?_)))))
     ·have hh := highI_pos f.vars ps s.ex
      exact retB (by grind [stmtG, stmtW, lens, atI_at])
    simp only [HS] at h6
    refine eZ rfl (gY rfl (eZ rfl (gY rfl (eZ rfl (gY rfl (evE ?_))))))
    refine gY rfl (evI ?_)
    refine gY rfl (callB ?_)
    refine ⟨_, within_fun _ _ _, rfl, ?_⟩
    refine gY rfl (eZ rfl ?_)
    refine WO_guard rfl rfl rfl rfl (lt_of rfl) (fun h7 => ?_) (fun h7 => ?_)
    rotate_left
    ·
     simp only [HS] at h7
     refine gN rfl rfl (gN rfl rfl (kZ [2,3,4,6,49,53,60,61,63] rfl (gN rfl rfl (gN rfl rfl (gN rfl rfl (gY rfl (eZ rfl (gY rfl (eK 3 rfl (oN (tN (rT (bR (tR (eR ?_)))))))))))))))
     ·have hh := highI_pos f.vars ps s.ex
      exact retB (by grind [stmtG, stmtW, lens, atI_at])
    simp only [HS] at h7
    refine eZ rfl (gY rfl (eZ rfl (kZ [2,3,4,6,49,53,60,61,62] rfl (gY rfl (eZ rfl (gY rfl (WO_idxT tys rfl rfl (lt_of rfl) rfl rfl rfl rfl rfl rfl rfl (by omega) _ (getT _ _ (by omega) (by omega)) (gY rfl (eZ rfl (gY rfl (eZ rfl (gY rfl (eZ rfl (gY rfl (eK 3 rfl ?_)))))))))))))))
    refine oN (tN (rT (bR (tR (eR ?_)))))
    ·have hh := highI_pos f.vars ps s.ex
     exact retB (by grind [stmtG, stmtW, lens, atI_at])
   simp only [HS] at h4
   refine sQ (kY [2,3,4,6,39] rfl (rG (eK 2 rfl (oN (tN ?_)))))
   refine W_cond rfl (fun h5 => ?_) (fun h5 => ?_)
   ·
    simp only [HS] at h5
    refine sQ (rG (eK 2 rfl (evE ?_)))
    refine eK 2 rfl ?_
    refine WO_guard rfl rfl rfl rfl (lt_of rfl) (fun h6 => ?_) (fun h6 => ?_)
    rotate_left
    ·
     simp only [HS] at h6
     refine gN rfl rfl (gN rfl rfl (kZ [2,3,4,6,76,79] rfl (eK 2 rfl (oN (tN (rT (bR (tR (eR ?_)))))))))
     ·have hh := highI_pos f.vars ps s.ex
      exact retB (by grind [stmtG, stmtW, lens, atI_at])
    simp only [HS] at h6
    refine eZ rfl (gY rfl (eZ rfl (kZ [2,3,4,6,76,78] rfl (gY rfl (eK 3 rfl (oN (tN (rT (bR (tR (eR ?_)))))))))))
    ·have hh := highI_pos f.vars ps s.ex
     exact retB (by grind [stmtG, stmtW, lens, atI_at])
   simp only [HS] at h5
   refine sQ (rG (eK 2 rfl (oN (tN ?_))))
   refine W_cond rfl (fun h6 => ?_) (fun h6 => ?_)
   ·
    simp only [HS] at h6
    refine sQ (rG (eK 4 rfl (evI ?_)))
    refine kZ [2,3,4,6,84,87] rfl (callB ?_)
    refine ⟨_, within_fun _ _ _, rfl, ?_⟩
    refine eZ rfl (oN (tN ?_))
    refine W_cond rfl (fun h7 => ?_) (fun h7 => ?_)
    ·
     simp only [HS] at h7
     refine sQ (rG (eZ rfl (oN (tN (rT (bR (tR (eR ?_))))))))
     ·have hh := highI_pos f.vars ps s.ex
      exact retB (by grind [stmtG, stmtW, lens, atI_at])
    simp only [HS] at h7
    refine W_skip (bN (tN (sQ (rG (eK 5 rfl (callB ?_))))))
    refine ⟨_, highOf_fun _ _ _ (by omega) hp hs1, rfl, ?_⟩
    refine eZ rfl (kZ [6,96] rfl (eZ rfl (oN (tN (rT (eR ?_))))))
    ·have hh := highI_pos f.vars ps s.ex
     exact retB (by grind [stmtG, stmtW, lens, atI_at])
   simp only [HS] at h6
   refine sQ (rG (eK 3 rfl (oN (tN ?_))))
   refine W_cond rfl (fun h7 => ?_) (fun h7 => ?_)
   ·
    simp only [HS] at h7
    refine sQ (kY [2,3,4,6] rfl (rG (eZ rfl (oN (tN (rT (bR (tR (eR ?_)))))))))
    ·have hh := highI_pos f.vars ps s.ex
     exact retB (by grind [stmtG, stmtW, lens, atI_at])
   simp only [HS] at h7
   refine W_skip (bN (tN (sQ (kY [2,3,4,6] rfl (rG (eK 5 rfl (callB ?_)))))))
   refine ⟨_, highOf_fun _ _ _ (by omega) hp hs1, rfl, ?_⟩
   refine eK 2 rfl (oN (tN (rT (eR ?_))))
   ·have hh := highI_pos f.vars ps s.ex
    exact retB (by grind [stmtG, stmtW, lens, atI_at])
  simp only [HS] at h3
  refine eZ rfl (gY rfl (eZ rfl (gY rfl (eZ rfl (gY rfl (eZ rfl (gY rfl (eZ rfl ?_))))))))
  refine WO_guard rfl rfl rfl rfl (lt_of rfl) (fun h4 => ?_) (fun h4 => ?_)
  rotate_left
  ·
   simp only [HS] at h4
   refine gN rfl rfl (kZ [2,3,4,6,22,31,33] rfl (gN rfl rfl (gN rfl rfl (gY rfl (eK 2 rfl (oN (tN (W_condF rfl (W_skip (tN (sQ (sQ (rG (eK 2 rfl (oN ?_)))))))))))))))
   refine tN (W_block (sQ (rG (eK 2 rfl (oN (tN ?_))))))
   refine W_cond rfl (fun h5 => ?_) (fun h5 => ?_)
   ·
    simp only [HS] at h5
    refine sQ (kY [2,3,4,6] rfl (rG (eK 2 rfl (evE ?_))))
    refine eK 2 rfl ?_
    refine WO_guard rfl rfl rfl rfl (lt_of rfl) (fun h6 => ?_) (fun h6 => ?_)
    rotate_left
    ·
     simp only [HS] at h6
     refine gN rfl rfl (gN rfl rfl (gN rfl rfl (gN rfl rfl (kZ [2,3,4,6,49,53,54] rfl (gN rfl rfl (gN rfl rfl (gN rfl rfl (gN rfl rfl (gN rfl rfl (gN rfl rfl (gN rfl rfl (gN rfl rfl (gN rfl rfl (kZ [2,3,4,6,49,53,60,61,63] rfl (gN rfl rfl ?_)))))))))))))))
     refine gN rfl rfl (gN rfl rfl (gN rfl rfl (gN rfl rfl (eK 2 rfl (oN (tN (rT (bR (tR (eR ?_))))))))))
     ·have hh := highI_pos f.vars ps s.ex
      exact retB (by grind [stmtG, stmtW, lens, atI_at])
    simp only [HS] at h6
    refine eZ rfl (gY rfl (eZ rfl (gY rfl (eZ rfl (gY rfl (eZ rfl (kZ [2,3,4,6,49,53] rfl ?_)))))))
    refine WO_guard rfl rfl rfl rfl (lt_of rfl) (fun h7 => ?_) (fun h7 => ?_)
    rotate_left
    ·
     simp only [HS] at h7
     refine gN rfl rfl (gN rfl rfl (gN rfl rfl (gN rfl rfl (gN rfl rfl (gN rfl rfl (gN rfl rfl (gN rfl rfl (gN rfl rfl (kZ [2,3,4,6,49,53,60,61,63] rfl (gN rfl rfl (gN rfl rfl (gN rfl rfl (gN rfl rfl (gY rfl (eK 3 rfl ?_)))))))))))))))
     refine oN (tN (rT (bR (tR (eR ?_)))))
     ·have hh := highI_pos f.vars ps s.ex
      exact retB (by grind [stmtG, stmtW, lens, atI_at])
    simp only [HS] at h7
    refine eZ rfl (gY rfl (eZ rfl (gY rfl (eZ rfl (gY rfl (evE ?_))))))
    refine gY rfl (evI ?_)
    refine gY rfl (callB ?_)
    refine ⟨_, within_fun _ _ _, rfl, ?_⟩
    refine gY rfl (eZ rfl ?_)
    refine WO_guard rfl rfl rfl rfl (lt_of rfl) (fun h8 => ?_) (fun h8 => ?_)
    rotate_left
    ·
     simp only [HS] at h8
     refine gN rfl rfl (gN rfl rfl (kZ [2,3,4,6,49,53,60,61,63] rfl (gN rfl rfl (gN rfl rfl (gN rfl rfl (gY rfl (eZ rfl (gY rfl (eK 3 rfl (oN (tN (rT (bR (tR (eR ?_)))))))))))))))
     ·have hh := highI_pos f.vars ps s.ex
      exact retB (by grind [stmtG, stmtW, lens, atI_at])
    simp only [HS] at h8
    refine eZ rfl (gY rfl (eZ rfl (kZ [2,3,4,6,49,53,60,61,62] rfl (gY rfl (eZ rfl (gY rfl (WO_idxT tys rfl rfl (lt_of rfl) rfl rfl rfl rfl rfl rfl rfl (by omega) _ (getT _ _ (by omega) (by omega)) (gY rfl (eZ rfl (gY rfl (eZ rfl (gY rfl (eZ rfl (gY rfl (eK 3 rfl ?_)))))))))))))))
    refine oN (tN (rT (bR (tR (eR ?_)))))
    ·have hh := highI_pos f.vars ps s.ex
     exact retB (by grind [stmtG, stmtW, lens, atI_at])
   simp only [HS] at h5
   refine sQ (kY [2,3,4,6,39] rfl (rG (eK 2 rfl (oN (tN ?_)))))
   refine W_cond rfl (fun h6 => ?_) (fun h6 => ?_)
   ·
    simp only [HS] at h6
    refine sQ (rG (eK 2 rfl (evE ?_)))
    refine eK 2 rfl ?_
    refine WO_guard rfl rfl rfl rfl (lt_of rfl) (fun h7 => ?_) (fun h7 => ?_)
    rotate_left
    ·
     simp only [HS] at h7
     refine gN rfl rfl (gN rfl rfl (kZ [2,3,4,6,76,79] rfl (eK 2 rfl (oN (tN (rT (bR (tR (eR ?_)))))))))
     ·have hh := highI_pos f.vars ps s.ex
      exact retB (by grind [stmtG, stmtW, lens, atI_at])
    simp only [HS] at h7
    refine eZ rfl (gY rfl (eZ rfl (kZ [2,3,4,6,76,78] rfl (gY rfl (eK 3 rfl (oN (tN (rT (bR (tR (eR ?_)))))))))))
    ·have hh := highI_pos f.vars ps s.ex
     exact retB (by grind [stmtG, stmtW, lens, atI_at])
   simp only [HS] at h6
   refine sQ (rG (eK 2 rfl (oN (tN ?_))))
   refine W_cond rfl (fun h7 => ?_) (fun h7 => ?_)
   ·
    simp only [HS] at h7
    refine sQ (rG (eK 4 rfl (evI ?_)))
    refine kZ [2,3,4,6,84,87] rfl (callB ?_)
    refine ⟨_, within_fun _ _ _, rfl, ?_⟩
    refine eZ rfl (oN (tN ?_))
    refine W_cond rfl (fun h8 => ?_) (fun h8 => ?_)
    ·
     simp only [HS] at h8
     refine sQ (rG (eZ rfl (oN (tN (rT (bR (tR (eR ?_))))))))
     ·have hh := highI_pos f.vars ps s.ex
      exact retB (by grind [stmtG, stmtW, lens, atI_at])
    simp only [HS] at h8
    refine W_skip (bN (tN (sQ (rG (eK 5 rfl (callB ?_))))))
    refine ⟨_, highOf_fun _ _ _ (by omega) hp hs1, rfl, ?_⟩
    refine eZ rfl (kZ [6,96] rfl (eZ rfl (oN (tN (rT (eR ?_))))))
    ·have hh := highI_pos f.vars ps s.ex
     exact retB (by grind [stmtG, stmtW, lens, atI_at])
   simp only [HS] at h7
   refine sQ (rG (eK 3 rfl (oN (tN ?_))))
   refine W_cond rfl (fun h8 => ?_) (fun h8 => ?_)
   ·
    simp only [HS] at h8
    refine sQ (kY [2,3,4,6] rfl (rG (eZ rfl (oN (tN (rT (bR (tR (eR ?_)))))))))
    ·have hh := highI_pos f.vars ps s.ex
     exact retB (by grind [stmtG, stmtW, lens, atI_at])
   simp only [HS] at h8
   refine W_skip (bN (tN (sQ (kY [2,3,4,6] rfl (rG (eK 5 rfl (callB ?_)))))))
   refine ⟨_, highOf_fun _ _ _ (by omega) hp hs1, rfl, ?_⟩
   refine eK 2 rfl (oN (tN (rT (eR ?_))))
   ·have hh := highI_pos f.vars ps s.ex
    exact retB (by grind [stmtG, stmtW, lens, atI_at])
  simp only [HS] at h4
  refine eZ rfl (gY rfl (eZ rfl (kZ [2,3,4,6,22,31,33] rfl (gY rfl (evE ?_)))))
  refine gY rfl (eZ rfl (gY rfl (eK 2 rfl (oN (tN ?_)))))
  refine W_cond rfl (fun h5 => ?_) (fun h5 => ?_)
  ·
   simp only [HS] at h5
   refine sQ (rG (eZ rfl (oN (tN (rT (tR (eR ?_)))))))
   ·have hh := highI_pos f.vars ps s.ex
    exact retB (by grind [stmtG, stmtW, lens, atI_at])
  simp only [HS] at h5
  refine W_skip (tN (sQ (sQ (rG (eK 2 rfl (oN (tN (W_block (sQ (rG (eK 2 rfl (oN (tN ?_)))))))))))))
  refine W_cond rfl (fun h6 => ?_) (fun h6 => ?_)
  ·
   simp only [HS] at h6
   refine sQ (kY [2,3,4,6] rfl (rG (eK 2 rfl (evE ?_))))
   refine eK 2 rfl ?_
   refine WO_guard rfl rfl rfl rfl (lt_of rfl) (fun h7 => ?_) (fun h7 => ?_)
   rotate_left
   ·
    simp only [HS] at h7
    refine gN rfl rfl (gN rfl rfl (gN rfl rfl (gN rfl rfl (kZ [2,3,4,6,49,53,54] rfl (gN rfl rfl (gN rfl rfl (gN rfl rfl (gN rfl rfl (gN rfl rfl (gN rfl rfl (gN rfl rfl (gN rfl rfl (gN rfl rfl (kZ [2,3,4,6,49,53,60,61,63] rfl (gN rfl rfl ?_)))))))))))))))
    refine gN rfl rfl (gN rfl rfl (gN rfl rfl (gN rfl rfl (eK 2 rfl (oN (tN (rT (bR (tR (eR ?_))))))))))
    ·have hh := highI_pos f.vars ps s.ex
     exact retB (by grind [stmtG, stmtW, lens, atI_at])
   simp only [HS] at h7
   refine eZ rfl (gY rfl (eZ rfl (gY rfl (eZ rfl (gY rfl (eZ rfl (kZ [2,3,4,6,49,53] rfl ?_)))))))
   refine WO_guard rfl rfl rfl rfl (lt_of rfl) (fun h8 => ?_) (fun h8 => ?_)
   rotate_left
   ·
    simp only [HS] at h8
    refine gN rfl rfl (gN rfl rfl (gN rfl rfl (gN rfl rfl (gN rfl rfl (gN rfl rfl (gN rfl rfl (gN rfl rfl (gN rfl rfl (kZ [2,3,4,6,49,53,60,61,63] rfl (gN rfl rfl (gN rfl rfl (gN rfl rfl (gN rfl rfl (gY rfl (eK 3 rfl ?_)))))))))))))))
    refine oN (tN (rT (bR (tR (eR ?_)))))
    ·have hh := highI_pos f.vars ps s.ex
     exact retB (by grind [stmtG, stmtW, lens, atI_at])
   simp only [HS] at h8
   refine eZ rfl (gY rfl (eZ rfl (gY rfl (eZ rfl (gY rfl (evE ?_))))))
   refine gY rfl (evI ?_)
   refine gY rfl (callB ?_)
   refine ⟨_, within_fun _ _ _, rfl, ?_⟩
   refine gY rfl (eZ rfl ?_)
   refine WO_guard rfl rfl rfl rfl (lt_of rfl) (fun h9 => ?_) (fun h9 => ?_)
   rotate_left
   ·
    simp only [HS] at h9
    refine gN rfl rfl (gN rfl rfl (kZ [2,3,4,6,49,53,60,61,63] rfl (gN rfl rfl (gN rfl rfl (gN rfl rfl (gY rfl (eZ rfl (gY rfl (eK 3 rfl (oN (tN (rT (bR (tR (eR ?_)))))))))))))))
    ·have hh := highI_pos f.vars ps s.ex
     exact retB (by grind [stmtG, stmtW, lens, atI_at])
   simp only [HS] at h9
   refine eZ rfl (gY rfl (eZ rfl (kZ [2,3,4,6,49,53,60,61,62] rfl (gY rfl (eZ rfl (gY rfl (WO_idxT tys rfl rfl (lt_of rfl) rfl rfl rfl rfl rfl rfl rfl (by omega) _ (getT _ _ (by omega) (by omega)) (gY rfl (eZ rfl (gY rfl (eZ rfl (gY rfl (eZ rfl (gY rfl (eK 3 rfl ?_)))))))))))))))
   refine oN (tN (rT (bR (tR (eR ?_)))))
   ·have hh := highI_pos f.vars ps s.ex
    exact retB (by grind [stmtG, stmtW, lens, atI_at])
  simp only [HS] at h6
  refine sQ (kY [2,3,4,6,39] rfl (rG (eK 2 rfl (oN (tN ?_)))))
  refine W_cond rfl (fun h7 => ?_) (fun h7 => ?_)
  ·
   simp only [HS] at h7
   refine sQ (rG (eK 2 rfl (evE ?_)))
   refine eK 2 rfl ?_
   refine WO_guard rfl rfl rfl rfl (lt_of rfl) (fun h8 => ?_) (fun h8 => ?_)
   rotate_left
   ·
    simp only [HS] at h8
    refine gN rfl rfl (gN rfl rfl (kZ [2,3,4,6,76,79] rfl (eK 2 rfl (oN (tN (rT (bR (tR (eR ?_)))))))))
    ·have hh := highI_pos f.vars ps s.ex
     exact retB (by grind [stmtG, stmtW, lens, atI_at])
   simp only [HS] at h8
   refine eZ rfl (gY rfl (eZ rfl (kZ [2,3,4,6,76,78] rfl (gY rfl (eK 3 rfl (oN (tN (rT (bR (tR (eR ?_)))))))))))
   ·have hh := highI_pos f.vars ps s.ex
    exact retB (by grind [stmtG, stmtW, lens, atI_at])
  simp only [HS] at h7
  refine sQ (rG (eK 2 rfl (oN (tN ?_))))
  refine W_cond rfl (fun h8 => ?_) (fun h8 => ?_)
  ·
   simp only [HS] at h8
   refine sQ (rG (eK 4 rfl (evI ?_)))
   refine kZ [2,3,4,6,84,87] rfl (callB ?_)
   refine ⟨_, within_fun _ _ _, rfl, ?_⟩
   refine eZ rfl (oN (tN ?_))
   refine W_cond rfl (fun h9 => ?_) (fun h9 => ?_)
   ·
    simp only [HS] at h9
    refine sQ (rG (eZ rfl (oN (tN (rT (bR (tR (eR ?_))))))))
    ·have hh := highI_pos f.vars ps s.ex
     exact retB (by grind [stmtG, stmtW, lens, atI_at])
   simp only [HS] at h9
   refine W_skip (bN (tN (sQ (rG (eK 5 rfl (callB ?_))))))
   refine ⟨_, highOf_fun _ _ _ (by omega) hp hs1, rfl, ?_⟩
   refine eZ rfl (kZ [6,96] rfl (eZ rfl (oN (tN (rT (eR ?_))))))
   ·have hh := highI_pos f.vars ps s.ex
    exact retB (by grind [stmtG, stmtW, lens, atI_at])
  simp only [HS] at h8
  refine sQ (rG (eK 3 rfl (oN (tN ?_))))
  refine W_cond rfl (fun h9 => ?_) (fun h9 => ?_)
  ·
   simp only [HS] at h9
   refine sQ (kY [2,3,4,6] rfl (rG (eZ rfl (oN (tN (rT (bR (tR (eR ?_)))))))))
   ·have hh := highI_pos f.vars ps s.ex
    exact retB (by grind [stmtG, stmtW, lens, atI_at])
  simp only [HS] at h9
  refine W_skip (bN (tN (sQ (kY [2,3,4,6] rfl (rG (eK 5 rfl (callB ?_)))))))
  refine ⟨_, highOf_fun _ _ _ (by omega) hp hs1, rfl, ?_⟩
  refine eK 2 rfl (oN (tN (rT (eR ?_))))
  ·have hh := highI_pos f.vars ps s.ex
   exact retB (by grind [stmtG, stmtW, lens, atI_at])
 simp only [HS] at h2
 refine eZ rfl (gY rfl (eZ rfl (gY rfl (evE ?_))))
 refine gY rfl (eZ rfl (gY rfl (eK 3 rfl (kZ [2,3,4,6,22] rfl ?_))))
 refine WO_guard rfl rfl rfl rfl (lt_of rfl) (fun h3 => ?_) (fun h3 => ?_)
 rotate_left
 ·
  simp only [HS] at h3
  refine gN rfl rfl (gN rfl rfl (gN rfl rfl (gN rfl rfl (gN rfl rfl (gN rfl rfl (gN rfl rfl (gN rfl rfl (gN rfl rfl (kZ [2,3,4,6,22,31,32] rfl (gN rfl rfl (gN rfl rfl (gN rfl rfl (gN rfl rfl (eZ rfl (oN ?_)))))))))))))))
  refine tN (W_condT rfl (sQ (rG (eZ rfl (oN (tN (rT (tR (eR ?_)))))))))
  ·have hh := highI_pos f.vars ps s.ex
   exact retB (by grind [stmtG, stmtW, lens, atI_at])
 simp only [HS] at h3
 refine eZ rfl (gY rfl (eZ rfl (gY rfl (eZ rfl (gY rfl (eZ rfl ?_))))))
 refine WO_guard rfl rfl rfl rfl (lt_of rfl) (fun h4 => ?_) (fun h4 => ?_)
 rotate_left
 ·
  simp only [HS] at h4
  refine gN rfl rfl (gN rfl rfl (gY rfl (eZ rfl (gY rfl (eZ rfl (gN rfl rfl (kZ [2,3,4,6,22,31,32] rfl (gN rfl rfl (gN rfl rfl (gN rfl rfl (gY rfl (eK 2 rfl (oN (tN (W_condF rfl ?_)))))))))))))))
  refine W_skip (tN (sQ (sQ (rG (eK 2 rfl (oN (tN (W_block (sQ (kY [2,3,4,6,39] rfl (rG (eK 2 rfl (oN (tN ?_))))))))))))))
  refine W_cond rfl (fun h5 => ?_) (fun h5 => ?_)
  ·
   simp only [HS] at h5
   refine sQ (rG (eK 2 rfl (evE ?_)))
   refine eK 2 rfl ?_
   refine WO_guard rfl rfl rfl rfl (lt_of rfl) (fun h6 => ?_) (fun h6 => ?_)
   rotate_left
   ·
    simp only [HS] at h6
    refine gN rfl rfl (gN rfl rfl (kZ [2,3,4,6,49,52] rfl (gN rfl rfl (gN rfl rfl (gN rfl rfl (gN rfl rfl (gN rfl rfl (gN rfl rfl (gN rfl rfl (gN rfl rfl (gN rfl rfl (kZ [2,3,4,6,49,53,60,61] rfl (gN rfl rfl (gN rfl rfl (gN rfl rfl ?_)))))))))))))))
    refine gN rfl rfl (gN rfl rfl (gN rfl rfl (gN rfl rfl (eK 2 rfl (kZ [2,3,4,6] rfl (oN (tN (rT (bR (tR (eR ?_)))))))))))
    ·have hh := highI_pos f.vars ps s.ex
     exact retB (by grind [stmtG, stmtW, lens, atI_at])
   simp only [HS] at h6
   refine eZ rfl (gY rfl (eZ rfl (kZ [2,3,4,6,49,51] rfl (gY rfl (eZ rfl (gY rfl (eZ rfl ?_)))))))
   refine WO_guard rfl rfl rfl rfl (lt_of rfl) (fun h7 => ?_) (fun h7 => ?_)
   rotate_left
   ·
    simp only [HS] at h7
    refine gN rfl rfl (gN rfl rfl (gN rfl rfl (gN rfl rfl (gN rfl rfl (gN rfl rfl (gN rfl rfl (kZ [2,3,4,6,49,53,60,61] rfl (gN rfl rfl (gN rfl rfl (gN rfl rfl (gN rfl rfl (gN rfl rfl (gN rfl rfl (gY rfl (eK 3 rfl ?_)))))))))))))))
    refine kZ [2,3,4,6] rfl (oN (tN (rT (bR (tR (eR ?_))))))
    ·have hh := highI_pos f.vars ps s.ex
     exact retB (by grind [stmtG, stmtW, lens, atI_at])
   simp only [HS] at h7
   refine eZ rfl (gY rfl (eZ rfl (gY rfl (eZ rfl (gY rfl (evE ?_))))))
   refine gY rfl (evI ?_)
   refine gY rfl (callB ?_)
   refine ⟨_, within_fun _ _ _, rfl, ?_⟩
   refine gY rfl (eZ rfl (kZ [2,3,4,6,49,53,60] rfl ?_))
   refine WO_guard rfl rfl rfl rfl (lt_of rfl) (fun h8 => ?_) (fun h8 => ?_)
   rotate_left
   ·
    simp only [HS] at h8
    refine gN rfl rfl (gN rfl rfl (gN rfl rfl (gN rfl rfl (gN rfl rfl (gY rfl (eZ rfl (gY rfl (eK 3 rfl (kZ [2,3,4,6] rfl (oN (tN (rT (bR (tR (eR ?_)))))))))))))))
    ·have hh := highI_pos f.vars ps s.ex
     exact retB (by grind [stmtG, stmtW, lens, atI_at])
   simp only [HS] at h8
   refine eZ rfl (gY rfl (eZ rfl (gY rfl (eZ rfl (gY rfl (WO_idxT tys rfl rfl (lt_of rfl) rfl rfl rfl rfl rfl rfl rfl (by omega) _ (getT _ _ (by omega) (by omega)) (gY rfl (eZ rfl (gY rfl (eZ rfl (gY rfl (eZ rfl (gY rfl (eK 2 rfl (kZ [2,3,4,6,69] rfl ?_)))))))))))))))
   refine eZ rfl (oN (tN (rT (bR (tR (eR ?_))))))
   ·have hh := highI_pos f.vars ps s.ex
    exact retB (by grind [stmtG, stmtW, lens, atI_at])
  simp only [HS] at h5
  refine sQ (rG (eK 2 rfl (oN (tN ?_))))
  refine W_cond rfl (fun h6 => ?_) (fun h6 => ?_)
  ·
   simp only [HS] at h6
   refine sQ (rG (eK 2 rfl (evE ?_)))
   refine eK 2 rfl (kZ [2,3,4,6,76] rfl ?_)
   refine WO_guard rfl rfl rfl rfl (lt_of rfl) (fun h7 => ?_) (fun h7 => ?_)
   rotate_left
   ·
    simp only [HS] at h7
    refine gN rfl rfl (gN rfl rfl (eK 2 rfl (oN (tN (rT (bR (tR (eR ?_))))))))
    ·have hh := highI_pos f.vars ps s.ex
     exact retB (by grind [stmtG, stmtW, lens, atI_at])
   simp only [HS] at h7
   refine eZ rfl (gY rfl (eZ rfl (gY rfl (eK 3 rfl (oN (tN (rT (bR (tR (eR ?_))))))))))
   ·have hh := highI_pos f.vars ps s.ex
    exact retB (by grind [stmtG, stmtW, lens, atI_at])
  simp only [HS] at h6
  refine sQ (rG (eK 2 rfl (oN (tN ?_))))
  refine W_cond rfl (fun h7 => ?_) (fun h7 => ?_)
  ·
   simp only [HS] at h7
   refine sQ (rG (eK 3 rfl (kZ [2,3,4,6,84,85] rfl (eZ rfl (evI ?_)))))
   refine callB ?_
   refine ⟨_, within_fun _ _ _, rfl, ?_⟩
   refine eZ rfl (oN (tN ?_))
   refine W_cond rfl (fun h8 => ?_) (fun h8 => ?_)
   ·
    simp only [HS] at h8
    refine sQ (rG (eZ rfl (oN (tN (rT (bR (tR (eR ?_))))))))
    ·have hh := highI_pos f.vars ps s.ex
     exact retB (by grind [stmtG, stmtW, lens, atI_at])
   simp only [HS] at h8
   refine W_skip (bN (tN (sQ (rG (eK 5 rfl (kZ [6,91,93,94] rfl (callB ?_)))))))
   refine ⟨_, highOf_fun _ _ _ (by omega) hp hs1, rfl, ?_⟩
   refine eK 2 rfl (oN (tN (rT (eR ?_))))
   ·have hh := highI_pos f.vars ps s.ex
    exact retB (by grind [stmtG, stmtW, lens, atI_at])
  simp only [HS] at h7
  refine sQ (rG (eK 3 rfl (kZ [2,3,4,6,42] rfl (oN (tN ?_)))))
  refine W_cond rfl (fun h8 => ?_) (fun h8 => ?_)
  ·
   simp only [HS] at h8
   refine sQ (rG (eZ rfl (oN (tN (rT (bR (tR (eR ?_))))))))
   ·have hh := highI_pos f.vars ps s.ex
    exact retB (by grind [stmtG, stmtW, lens, atI_at])
  simp only [HS] at h8
  refine W_skip (bN (tN (sQ (rG (eK 5 rfl (callB ?_))))))
  refine ⟨_, highOf_fun _ _ _ (by omega) hp hs1, rfl, ?_⟩
  refine eK 2 rfl (oN (tN (rT (eR ?_))))
  ·have hh := highI_pos f.vars ps s.ex
   exact retB (by grind [stmtG, stmtW, lens, atI_at])
 simp only [HS] at h4
 refine eZ rfl (gY rfl (eZ rfl (gY rfl (eZ rfl (gY rfl (eZ rfl (gY rfl (eZ rfl (kZ [2,3,4,6,22,31] rfl ?_)))))))))
 refine WO_guard rfl rfl rfl rfl (lt_of rfl) (fun h5 => ?_) (fun h5 => ?_)
 rotate_left
 ·
  simp only [HS] at h5
  refine gN rfl rfl (gN rfl rfl (gN rfl rfl (gY rfl (eK 2 rfl (oN (tN (W_condF rfl (W_skip (tN (sQ (sQ (rG (eK 2 rfl (oN (tN ?_)))))))))))))))
  refine W_block (sQ (kY [2,3,4,6,39] rfl (rG (eK 2 rfl (oN (tN ?_))))))
  refine W_cond rfl (fun h6 => ?_) (fun h6 => ?_)
  ·
   simp only [HS] at h6
   refine sQ (rG (eK 2 rfl (evE ?_)))
   refine eK 2 rfl ?_
   refine WO_guard rfl rfl rfl rfl (lt_of rfl) (fun h7 => ?_) (fun h7 => ?_)
   rotate_left
   ·
    simp only [HS] at h7
    refine gN rfl rfl (gN rfl rfl (kZ [2,3,4,6,49,52] rfl (gN rfl rfl (gN rfl rfl (gN rfl rfl (gN rfl rfl (gN rfl rfl (gN rfl rfl (gN rfl rfl (gN rfl rfl (gN rfl rfl (kZ [2,3,4,6,49,53,60,61] rfl (gN rfl rfl (gN rfl rfl (gN rfl rfl ?_)))))))))))))))
    refine gN rfl rfl (gN rfl rfl (gN rfl rfl (gN rfl rfl (eK 2 rfl (kZ [2,3,4,6] rfl (oN (tN (rT (bR (tR (eR ?_)))))))))))
    ·have hh := highI_pos f.vars ps s.ex
     exact retB (by grind [stmtG, stmtW, lens, atI_at])
   simp only [HS] at h7
   refine eZ rfl (gY rfl (eZ rfl (kZ [2,3,4,6,49,51] rfl (gY rfl (eZ rfl (gY rfl (eZ rfl ?_)))))))
   refine WO_guard rfl rfl rfl rfl (lt_of rfl) (fun h8 => ?_) (fun h8 => ?_)
   rotate_left
   ·
    simp only [HS] at h8
    refine gN rfl rfl (gN rfl rfl (gN rfl rfl (gN rfl rfl (gN rfl rfl (gN rfl rfl (gN rfl rfl (kZ [2,3,4,6,49,53,60,61] rfl (gN rfl rfl (gN rfl rfl (gN rfl rfl (gN rfl rfl (gN rfl rfl (gN rfl rfl (gY rfl (eK 3 rfl ?_)))))))))))))))
    refine kZ [2,3,4,6] rfl (oN (tN (rT (bR (tR (eR ?_))))))
    ·have hh := highI_pos f.vars ps s.ex
     exact retB (by grind [stmtG, stmtW, lens, atI_at])
   simp only [HS] at h8
   refine eZ rfl (gY rfl (eZ rfl (gY rfl (eZ rfl (gY rfl (evE ?_))))))
   refine gY rfl (evI ?_)
   refine gY rfl (callB ?_)
   refine ⟨_, within_fun _ _ _, rfl, ?_⟩
   refine gY rfl (eZ rfl (kZ [2,3,4,6,49,53,60] rfl ?_))
   refine WO_guard rfl rfl rfl rfl (lt_of rfl) (fun h9 => ?_) (fun h9 => ?_)
   rotate_left
   ·
    simp only [HS] at h9
    refine gN rfl rfl (gN rfl rfl (gN rfl rfl (gN rfl rfl (gN rfl rfl (gY rfl (eZ rfl (gY rfl (eK 3 rfl (kZ [2,3,4,6] rfl (oN (tN (rT (bR (tR (eR ?_)))))))))))))))
    ·have hh := highI_pos f.vars ps s.ex
     exact retB (by grind [stmtG, stmtW, lens, atI_at])
   simp only [HS] at h9
   refine eZ rfl (gY rfl (eZ rfl (gY rfl (eZ rfl (gY rfl (WO_idxT tys rfl rfl (lt_of rfl) rfl rfl rfl rfl rfl rfl rfl (by omega) _ (getT _ _ (by omega) (by omega)) (gY rfl (eZ rfl (gY rfl (eZ rfl (gY rfl (eZ rfl (gY rfl (eK 2 rfl (kZ [2,3,4,6,69] rfl ?_)))))))))))))))
   refine eZ rfl (oN (tN (rT (bR (tR (eR ?_))))))
   ·have hh := highI_pos f.vars ps s.ex
    exact retB (by grind [stmtG, stmtW, lens, atI_at])
  simp only [HS] at h6
  refine sQ (rG (eK 2 rfl (oN (tN ?_))))
  refine W_cond rfl (fun h7 => ?_) (fun h7 => ?_)
  ·
   simp only [HS] at h7
   refine sQ (rG (eK 2 rfl (evE ?_)))
   refine eK 2 rfl (kZ [2,3,4,6,76] rfl ?_)
   refine WO_guard rfl rfl rfl rfl (lt_of rfl) (fun h8 => ?_) (fun h8 => ?_)
   rotate_left
   ·
    simp only [HS] at h8
    refine gN rfl rfl (gN rfl rfl (eK 2 rfl (oN (tN (rT (bR (tR (eR ?_))))))))
    ·have hh := highI_pos f.vars ps s.ex
     exact retB (by grind [stmtG, stmtW, lens, atI_at])
   simp only [HS] at h8
   refine eZ rfl (gY rfl (eZ rfl (gY rfl (eK 3 rfl (oN (tN (rT (bR (tR (eR ?_))))))))))
   ·have hh := highI_pos f.vars ps s.ex
    exact retB (by grind [stmtG, stmtW, lens, atI_at])
  simp only [HS] at h7
  refine sQ (rG (eK 2 rfl (oN (tN ?_))))
  refine W_cond rfl (fun h8 => ?_) (fun h8 => ?_)
  ·
   simp only [HS] at h8
   refine sQ (rG (eK 3 rfl (kZ [2,3,4,6,84,85] rfl (eZ rfl (evI ?_)))))
   refine callB ?_
   refine ⟨_, within_fun _ _ _, rfl, ?_⟩
   refine eZ rfl (oN (tN ?_))
   refine W_cond rfl (fun h9 => ?_) (fun h9 => ?_)
   ·
    simp only [HS] at h9
    refine sQ (rG (eZ rfl (oN (tN (rT (bR (tR (eR ?_))))))))
    ·have hh := highI_pos f.vars ps s.ex
     exact retB (by grind [stmtG, stmtW, lens, atI_at])
   simp only [HS] at h9
   refine W_skip (bN (tN (sQ (rG (eK 5 rfl (kZ [6,91,93,94] rfl (callB ?_)))))))
   refine ⟨_, highOf_fun _ _ _ (by omega) hp hs1, rfl, ?_⟩
   refine eK 2 rfl (oN (tN (rT (eR ?_))))
   ·have hh := highI_pos f.vars ps s.ex
    exact retB (by grind [stmtG, stmtW, lens, atI_at])
  simp only [HS] at h8
  refine sQ (rG (eK 3 rfl (kZ [2,3,4,6,42] rfl (oN (tN ?_)))))
  refine W_cond rfl (fun h9 => ?_) (fun h9 => ?_)
  ·
   simp only [HS] at h9
   refine sQ (rG (eZ rfl (oN (tN (rT (bR (tR (eR ?_))))))))
   ·have hh := highI_pos f.vars ps s.ex
    exact retB (by grind [stmtG, stmtW, lens, atI_at])
  simp only [HS] at h9
  refine W_skip (bN (tN (sQ (rG (eK 5 rfl (callB ?_))))))
  refine ⟨_, highOf_fun _ _ _ (by omega) hp hs1, rfl, ?_⟩
  refine eK 2 rfl (oN (tN (rT (eR ?_))))
  ·have hh := highI_pos f.vars ps s.ex
   exact retB (by grind [stmtG, stmtW, lens, atI_at])
 simp only [HS] at h5
 refine eZ rfl (gY rfl (eZ rfl (gY rfl (evE ?_))))
 refine gY rfl (eZ rfl (gY rfl (eK 2 rfl (oN (tN ?_)))))
 refine W_cond rfl (fun h6 => ?_) (fun h6 => ?_)
 ·
  simp only [HS] at h6
  refine sQ (rG (eZ rfl (oN (tN (rT (tR (eR ?_)))))))
  ·have hh := highI_pos f.vars ps s.ex
   exact retB (by grind [stmtG, stmtW, lens, atI_at])
 simp only [HS] at h6
 refine W_skip (tN (sQ (sQ (rG (eK 2 rfl (oN (tN (W_block (sQ (kY [2,3,4,6,39] rfl (rG (eK 2 rfl (oN (tN ?_))))))))))))))
 refine W_cond rfl (fun h7 => ?_) (fun h7 => ?_)
 ·
  simp only [HS] at h7
  refine sQ (rG (eK 2 rfl (evE ?_)))
  refine eK 2 rfl ?_
  refine WO_guard rfl rfl rfl rfl (lt_of rfl) (fun h8 => ?_) (fun h8 => ?_)
  rotate_left
  ·
   simp only [HS] at h8
   refine gN rfl rfl (gN rfl rfl (kZ [2,3,4,6,49,52] rfl (gN rfl rfl (gN rfl rfl (gN rfl rfl (gN rfl rfl (gN rfl rfl (gN rfl rfl (gN rfl rfl (gN rfl rfl (gN rfl rfl (kZ [2,3,4,6,49,53,60,61] rfl (gN rfl rfl (gN rfl rfl (gN rfl rfl ?_)))))))))))))))
   refine gN rfl rfl (gN rfl rfl (gN rfl rfl (gN rfl rfl (eK 2 rfl (kZ [2,3,4,6] rfl (oN (tN (rT (bR (tR (eR ?_)))))))))))
   ·have hh := highI_pos f.vars ps s.ex
    exact retB (by grind [stmtG, stmtW, lens, atI_at])
  simp only [HS] at h8
  refine eZ rfl (gY rfl (eZ rfl (kZ [2,3,4,6,49,51] rfl (gY rfl (eZ rfl (gY rfl (eZ rfl ?_)))))))
  refine WO_guard rfl rfl rfl rfl (lt_of rfl) (fun h9 => ?_) (fun h9 => ?_)
  rotate_left
  ·
   simp only [HS] at h9
   refine gN rfl rfl (gN rfl rfl (gN rfl rfl (gN rfl rfl (gN rfl rfl (gN rfl rfl (gN rfl rfl (kZ [2,3,4,6,49,53,60,61] rfl (gN rfl rfl (gN rfl rfl (gN rfl rfl (gN rfl rfl (gN rfl rfl (gN rfl rfl (gY rfl (eK 3 rfl ?_)))))))))))))))
   refine kZ [2,3,4,6] rfl (oN (tN (rT (bR (tR (eR ?_))))))
   ·have hh := highI_pos f.vars ps s.ex
    exact retB (by grind [stmtG, stmtW, lens, atI_at])
  simp only [HS] at h9
  refine eZ rfl (gY rfl (eZ rfl (gY rfl (eZ rfl (gY rfl (evE ?_))))))
  refine gY rfl (evI ?_)
  refine gY rfl (callB ?_)
  refine ⟨_, within_fun _ _ _, rfl, ?_⟩
  refine gY rfl (eZ rfl (kZ [2,3,4,6,49,53,60] rfl ?_))
  refine WO_guard rfl rfl rfl rfl (lt_of rfl) (fun h10 => ?_) (fun h10 => ?_)
  rotate_left
  ·
   simp only [HS] at h10
   refine gN rfl rfl (gN rfl rfl (gN rfl rfl (gN rfl rfl (gN rfl rfl (gY rfl (eZ rfl (gY rfl (eK 3 rfl (kZ [2,3,4,6] rfl (oN (tN (rT (bR (tR (eR ?_)))))))))))))))
   ·have hh := highI_pos f.vars ps s.ex
    exact retB (by grind [stmtG, stmtW, lens, atI_at])
  simp only [HS] at h10
  refine eZ rfl (gY rfl (eZ rfl (gY rfl (eZ rfl (gY rfl (WO_idxT tys rfl rfl (lt_of rfl) rfl rfl rfl rfl rfl rfl rfl (by omega) _ (getT _ _ (by omega) (by omega)) (gY rfl (eZ rfl (gY rfl (eZ rfl (gY rfl (eZ rfl (gY rfl (eK 2 rfl (kZ [2,3,4,6,69] rfl ?_)))))))))))))))
  refine eZ rfl (oN (tN (rT (bR (tR (eR ?_))))))
  ·have hh := highI_pos f.vars ps s.ex
   exact retB (by grind [stmtG, stmtW, lens, atI_at])
 simp only [HS] at h7
 refine sQ (rG (eK 2 rfl (oN (tN ?_))))
 refine W_cond rfl (fun h8 => ?_) (fun h8 => ?_)
 ·
  simp only [HS] at h8
  refine sQ (rG (eK 2 rfl (evE ?_)))
  refine eK 2 rfl (kZ [2,3,4,6,76] rfl ?_)
  refine WO_guard rfl rfl rfl rfl (lt_of rfl) (fun h9 => ?_) (fun h9 => ?_)
  rotate_left
  ·
   simp only [HS] at h9
   refine gN rfl rfl (gN rfl rfl (eK 2 rfl (oN (tN (rT (bR (tR (eR ?_))))))))
   ·have hh := highI_pos f.vars ps s.ex
    exact retB (by grind [stmtG, stmtW, lens, atI_at])
  simp only [HS] at h9
  refine eZ rfl (gY rfl (eZ rfl (gY rfl (eK 3 rfl (oN (tN (rT (bR (tR (eR ?_))))))))))
  ·have hh := highI_pos f.vars ps s.ex
   exact retB (by grind [stmtG, stmtW, lens, atI_at])
 simp only [HS] at h8
 refine sQ (rG (eK 2 rfl (oN (tN ?_))))
 refine W_cond rfl (fun h9 => ?_) (fun h9 => ?_)
 ·
  simp only [HS] at h9
  refine sQ (rG (eK 3 rfl (kZ [2,3,4,6,84,85] rfl (eZ rfl (evI ?_)))))
  refine callB ?_
  refine ⟨_, within_fun _ _ _, rfl, ?_⟩
  refine eZ rfl (oN (tN ?_))
  refine W_cond rfl (fun h10 => ?_) (fun h10 => ?_)
  ·
   simp only [HS] at h10
   refine sQ (rG (eZ rfl (oN (tN (rT (bR (tR (eR ?_))))))))
   ·have hh := highI_pos f.vars ps s.ex
    exact retB (by grind [stmtG, stmtW, lens, atI_at])
  simp only [HS] at h10
  refine W_skip (bN (tN (sQ (rG (eK 5 rfl (kZ [6,91,93,94] rfl (callB ?_)))))))
  refine ⟨_, highOf_fun _ _ _ (by omega) hp hs1, rfl, ?_⟩
  refine eK 2 rfl (oN (tN (rT (eR ?_))))
  ·have hh := highI_pos f.vars ps s.ex
   exact retB (by grind [stmtG, stmtW, lens, atI_at])
 simp only [HS] at h9
 refine sQ (rG (eK 3 rfl (kZ [2,3,4,6,42] rfl (oN (tN ?_)))))
 refine W_cond rfl (fun h10 => ?_) (fun h10 => ?_)
 ·
  simp only [HS] at h10
  refine sQ (rG (eZ rfl (oN (tN (rT (bR (tR (eR ?_))))))))
  ·have hh := highI_pos f.vars ps s.ex
   exact retB (by grind [stmtG, stmtW, lens, atI_at])
 simp only [HS] at h10
 refine W_skip (bN (tN (sQ (rG (eK 5 rfl (callB ?_))))))
 refine ⟨_, highOf_fun _ _ _ (by omega) hp hs1, rfl, ?_⟩
 refine eK 2 rfl (oN (tN (rT (eR ?_))))
 ·have hh := highI_pos f.vars ps s.ex
  exact retB (by grind [stmtG, stmtW, lens, atI_at])

theorem idxStmt_fun (l : List Stmt) (p : Stmt → Bool) (f : Nat) (caps : List D) (hcaps : caps.all D.imm = true) (hl : l.length ≤ 9223372036854775807) (hf : ∀ x, x ∈ l → Fun Tryz.prog f (.t x.tt :: caps) (.t (.bool (p x)))) : Fun Tryz.prog 212 [.t (T.Stmts l), .clo f caps] (tupD [.t (.int (idxGo p l 0))]) := by
 refine Fun.begin tys Tryz.func212 rfl rfl (N := 19) [(0, .t (T.Stmts l)), (1, .clo f caps)] rfl rfl (fun w0 G F0 => ?_)
 refine sQ (rG (eZ rfl (oN (tN (sQ (sQ (rG (eZ rfl (evE ?_)))))))))
 refine eZ rfl (oN (tN (W_block ?_)))
 refine lK (α := Int) [0, 1, 7] [] (fun x => [(8, .t (.int x))]) (fun x => []) (fun x => 0 ≤ x ∧ x ≤ l.length ∧ idxGo p l 0 = idxGo p (l.drop x.toNat) x) (fun x => Int.toNat (l.length - x)) 0 ?_ (fun k hx => ?_)
 ·exact ⟨by omega, by omega, rfl⟩
 obtain ⟨hk0, hk1, hk2⟩ := hx
 refine nY rfl (sQ (rG (eZ rfl (oN (tN (sQ ?_))))))
 refine W_cond rfl (fun h1 => ?_) (fun h1 => ?_)
 ·
  simp only [HS] at h1
  refine W_skip (tN (sQ (W_block (sQ (rG (eK 2 rfl (oN (tN (sQ (rG (WO_moveClo tys rfl rfl (lt_of rfl) rfl rfl (by assumption) ?_)))))))))))
  refine eK 2 rfl (WO_idxT tys rfl rfl (lt_of rfl) rfl rfl rfl rfl rfl rfl rfl (by omega) _ (getT _ _ (by omega) (by omega)) (eZ rfl ?_))
  try refine WO_le (Le.freeze (u := 15) rfl) ?_
  refine nZ rfl ?_
  refine WO_call rfl rfl (lt_of rfl) rfl rfl (by repeat (first | exact ResL.done | exact ResL.imms (by first | rfl | assumption) | refine ResL.t ?_ | refine ResL.own ?_ | refine ResL.slA rfl (by first | rfl | (simp; done) | (simp; omega)) ?_ | refine ResL.sl rfl (by first | omega | (simp; done) | (simp; omega)) ?_ | refine ResL.rp ?_ | refine ResL.clo ?_ ?_ | refine ResL.aggT ?_ ?_ | refine ResL.ref rfl ?_ ?_ | refine ResL.nil' ?_ | refine ResL.nil 1 ?_)) (hf _ (List.getElem_mem _)) rfl ?_
  refine kZ [0,1,5,7,8,9,10,11,12,13,14,15,16] rfl (oN (tN ?_))
  refine W_cond rfl (fun h2 => ?_) (fun h2 => ?_)
  ·
   refine sQ (rG (eK 2 rfl (oN (tN (rT (bR (tR (loopQ_r (bR (tR (eR ?_)))))))))))
   ·rw [hk2, idx_at hk0 h1]
    simp [h2]
    done
  refine W_skip (bN (tN (rG (evI ?_))))
  refine eZ rfl (oN ?_)
  refine lQ _ ?_ ?_
  ·skip
   refine ⟨by omega, by omega, ?_⟩; rw [hk2, idx_at hk0 h1]; simp [h2]
  ·(show Int.toNat _ < Int.toNat _); omega
 simp only [HS] at h1
 refine W_exit (tE (loopQ_e (inBlk_y (tN (sQ (rG (eZ rfl (oN (tN (rT (eR ?_)))))))))))
 ·rw [hk2, drop_end h1]
  rfl

theorem hasStmt_fun (l : List Stmt) (p : Stmt → Bool) (f : Nat) (caps : List D) (hcaps : caps.all D.imm = true) (hl : l.length ≤ 9223372036854775807) (hf : ∀ x, x ∈ l → Fun Tryz.prog f (.t x.tt :: caps) (.t (.bool (p x)))) : Fun Tryz.prog 172 [.t (T.Stmts l), .clo f caps] (tupD [.t (.bool (l.any p))]) := by
 refine Fun.begin tys Tryz.func172 rfl rfl (N := 9) [(0, .t (T.Stmts l)), (1, .clo f caps)] rfl rfl (fun w0 G F0 => ?_)
 refine sQ (rG (eZ rfl (oN (tN (sQ (rG (eZ rfl (WO_moveClo tys rfl rfl (lt_of rfl) rfl rfl (by assumption) ?_))))))))
 refine WO_call rfl rfl (lt_of rfl) rfl rfl (by repeat (first | exact ResL.done | exact ResL.imms (by first | rfl | assumption) | refine ResL.t ?_ | refine ResL.own ?_ | refine ResL.slA rfl (by first | rfl | (simp; done) | (simp; omega)) ?_ | refine ResL.sl rfl (by first | omega | (simp; done) | (simp; omega)) ?_ | refine ResL.rp ?_ | refine ResL.clo ?_ ?_ | refine ResL.aggT ?_ ?_ | refine ResL.ref rfl ?_ ?_ | refine ResL.nil' ?_ | refine ResL.nil 1 ?_)) (idxStmt_fun l p f caps hcaps hl hf) rfl ?_
 refine eK 2 rfl (oN (tN (rT (eR ?_))))
 ·rw [← idxGo_any (Int.le_refl 0)]

theorem stmtG_neg {vars : Int} {ps : List Int} {s : Stmt} (h : s.n < 0) : stmtG vars ps s = false := by grind [stmtG, stmtW]

theorem isProg1_fun (s : Stmt) (f : Func) (ps : List Int) (hs : s.ok 1048576) (hv : 0 ≤ f.vars ∧ f.vars ≤ 6) (hp : PsOk ps) : Fun Tryz.prog 173 [.t s.tt, .rp f.tt 0, .rp (.agg [T.ints ps]) 0] (tupD [.t (.bool (!stmtG f.vars ps s))]) := by
 refine Fun.begin tys Tryz.func173 rfl rfl (N := 15) [(0, .t s.tt), (1, .rp f.tt 0), (2, .rp (.agg [T.ints ps]) 0)] rfl rfl (fun w0 G F0 => ?_)
 refine sQ (rG (WO_box rfl rfl (lt_of rfl) rfl rfl (nZ rfl (eZ rfl (oN (tN (sQ (rG (eK 4 rfl ?_)))))))))
 refine WO_guard rfl rfl rfl rfl (lt_of rfl) (fun h1 => ?_) (fun h1 => ?_)
 rotate_left
 ·
  simp only [HS] at h1
  refine gN rfl rfl (gN rfl rfl (gN rfl rfl (kZ [4,8,12] rfl (gN rfl rfl (eK 2 rfl (oN (tN (rT (eR ?_)))))))))
  ·exact retB (by rw [stmtG_neg (by assumption)]; rfl)
 simp only [HS] at h1
 refine eZ rfl ?_
 try refine WO_le (Le.freeze (u := 9) rfl) ?_
 refine nZ rfl (gY rfl (eZ rfl ?_))
 try refine WO_le (Le.freeze (u := 10) rfl) ?_
 refine nZ rfl (gY rfl (eZ rfl (kZ [4,8,9,10,11] rfl (gY rfl (callB ?_)))))
 refine ⟨_, isStmt_fun f s ps hs (by omega) hv hp, rfl, ?_⟩
 refine gY rfl (eK 3 rfl (oN (tN (rT (eR ?_)))))
 ·rfl

theorem areParams1_fun (n : Int) : Fun Tryz.prog 208 [.t (.int n)] (tupD [.t (.bool (!decide (0 ≤ n ∧ n ≤ 2)))]) := by
 refine Fun.begin tys Tryz.func208 rfl rfl (N := 6) [(0, .t (.int n))] rfl rfl (fun w0 G F0 => ?_)
 refine sQ (rG (eZ rfl (oN (tN (sQ (rG (eZ rfl (callB ?_))))))))
 refine ⟨_, within_fun _ _ _, rfl, ?_⟩
 refine eK 2 rfl (oN (tN (rT (eR ?_))))
 ·rfl

theorem areParams_fun (ps : List Int) (hp : ps.length ≤ 1048576) : Fun Tryz.prog 170 [.t (T.ints ps)] (tupD [.t (.bool (paramsB ps))]) := by
 refine Fun.begin tys Tryz.func170 rfl rfl (N := 11) [(0, .t (T.ints ps))] rfl rfl (fun w0 G F0 => ?_)
 refine sQ (rG (eZ rfl (oN (tN (sQ (rG (eZ rfl (evE ?_))))))))
 refine eK 2 rfl ?_
 refine WO_guard rfl rfl rfl rfl (lt_of rfl) (fun h1 => ?_) (fun h1 => ?_)
 rotate_left
 ·
  simp only [HS] at h1
  refine gN rfl rfl (gN rfl rfl (eK 2 rfl (kZ [2] rfl (oN (tN (rT (eR ?_)))))))
  ·have e : (ps.any fun n => !decide (0 ≤ n ∧ n ≤ 2)) = !allIn ps 0 2 := (by rw [allIn, List.not_all_eq_any_not])
   exact retB (by grind [paramsB])
 simp only [HS] at h1
 refine eZ rfl (gY rfl (callB ?_))
 refine ⟨_, hasS_fun ps (fun n => !decide (0 ≤ n ∧ n ≤ 2)) _ [] rfl (by omega) (fun x _ => areParams1_fun x), rfl, ?_⟩
 refine gY rfl (eK 2 rfl (kZ [2,10] rfl (eZ rfl (oN (tN (rT (eR ?_)))))))
 ·have e : (ps.any fun n => !decide (0 ≤ n ∧ n ≤ 2)) = !allIn ps 0 2 := (by rw [allIn, List.not_all_eq_any_not])
  exact retB (by grind [paramsB])

def paramsL (p : Prog) : List Int := p.funcs.map (·.params)
def goodF (ps : List Int) (f : Func) : Bool := shapeF f && f.stmts.all (stmtG f.vars ps)
def goodW (ps : List Int) (f : Func) : Bool := shapeF f && f.stmts.all (stmtW f.vars ps)
def goodP (p : Prog) : Bool := decide ((1 : Int) ≤ p.funcs.length ∧ (p.funcs.length : Int) ≤ 5) && (paramsB (paramsL p) && (decide (atI (paramsL p) 0 = 0) && p.funcs.all (goodF (paramsL p))))
theorem shapeF_vars {f : Func} (h : shapeF f = true) : 0 ≤ f.vars ∧ f.vars ≤ 6 := by
 unfold shapeF okNum at h
 simp only [Bool.and_eq_true, decide_eq_true_eq] at h
 omega
theorem func_ok {p : Prog} (hp : p.ok 1048576) {n : Nat} (h : n < p.funcs.length) : (p.funcs[n]).ok 1048576 := hp.1.2 _ (List.getElem_mem h)
theorem paramsL_len (p : Prog) : (paramsL p).length = p.funcs.length := List.length_map ..
theorem paramsL_at {p : Prog} {n : Int} (h0 : 0 ≤ n) (h1 : n < p.funcs.length) : atI (paramsL p) n = (p.funcs[n.toNat]'(by omega)).params := by
 rw [atI_at h0 (by rw [paramsL_len]; omega)]; simp [paramsL]
theorem any_stmtG {vars : Int} {ps : List Int} {l : List Stmt} : (l.any fun s => !stmtG vars ps s) = !l.all (stmtG vars ps) := by rw [List.not_all_eq_any_not]

theorem getT2 {α β : Type} (f : β → T) (g : α → β) (l : List α) {i : Int} (h0 : 0 ≤ i) (h1 : i < l.length) : ((l.map g).map f)[i.toNat]? = some (f (g (l[i.toNat]'(by omega)))) := by
 rw [List.getElem?_map, List.getElem?_map, List.getElem?_eq_getElem (by omega)]; rfl
theorem goodF_no {p : Prog} {k : Int} (h0 : 0 ≤ k) (h1 : k < p.funcs.length) (h : goodF (paramsL p) (p.funcs[k.toNat]'(by omega)) = false) : p.funcs.all (goodF (paramsL p)) = false := all_no h0 h1 h

theorem isProg_fun (p : Prog) (hp : p.ok 1048576) : Fun Tryz.prog 125 [.t p.tt] (tupD [.t (.bool (goodP p))]) := by
 have hl : p.funcs.length ≤ 1048576 := hp.1.1
 refine Fun.begin tys Tryz.func125 rfl rfl (N := 41) [(0, .t p.tt)] rfl rfl (fun w0 G F0 => ?_)
 refine sQ (rG (WO_box rfl rfl (lt_of rfl) rfl rfl (nZ rfl (eZ rfl (oN (tN (sQ (rG (eZ rfl ?_)))))))))
 try refine WO_le (Le.freeze (u := 6) rfl) ?_
 refine nZ rfl (callB ?_)
 refine ⟨_, paramsOf_fun p hp, rfl, ?_⟩
 refine WO_le (Le.freeze (u := 7) rfl) (nZ rfl (WO_alloc tys rfl rfl (lt_of rfl) rfl rfl rfl (nZ rfl (sT rfl (nZ rfl (oN (tN (sQ (sQ (rG (eK 2 rfl (evE ?_))))))))))))
 refine kZ [1,2,3,10] rfl (callB ?_)
 refine ⟨_, within_fun _ _ _, rfl, ?_⟩
 refine eK 2 rfl ?_
 refine WO_guard rfl rfl rfl rfl (lt_of rfl) (fun h1 => ?_) (fun h1 => ?_)
 rotate_left
 ·
  simp only [HS] at h1
  refine gN rfl rfl (gN rfl rfl (eK 2 rfl (gN rfl rfl (gN rfl rfl (kZ [1,2,3,18,20] rfl (gN rfl rfl (gN rfl rfl (eZ rfl (oN (tN (W_condT rfl (sQ (rG (eZ rfl (oN ?_)))))))))))))))
  refine tN (rT (tR (eR ?_)))
  ·first
   | (refine retB ?_; rw [goodP]; simp only [h1, decide_false, Bool.false_and]; done)
 simp only [HS] at h1
 refine eZ rfl (gY rfl (callB ?_))
 refine ⟨_, areParams_fun _ (by simp; omega), rfl, ?_⟩
 refine gY rfl (eK 3 rfl ?_)
 refine WO_guard rfl rfl rfl rfl (lt_of rfl) (fun h2 => ?_) (fun h2 => ?_)
 rotate_left
 ·
  simp only [HS] at h2
  refine gN rfl rfl (kZ [1,2,3,18,20] rfl (gN rfl rfl (gN rfl rfl (eZ rfl (oN (tN (W_condT rfl (sQ (rG (eZ rfl (oN (tN (rT (tR (eR ?_)))))))))))))))
  ·first
   | (refine retB ?_; rw [goodP, show paramsB (paramsL p) = false from h2]; simp; done)
 simp only [HS] at h2
 refine eZ rfl (gY rfl (WO_idxT tys rfl rfl (lt_of rfl) rfl rfl rfl rfl rfl rfl rfl (by omega) _ (getT2 _ _ _ (by omega) (by omega)) (kZ [1,2,3,18,20] rfl (gY rfl (eZ rfl (gY rfl (eK 2 rfl (oN (tN ?_)))))))))
 refine W_cond rfl (fun h3 => ?_) (fun h3 => ?_)
 ·
  simp only [HS] at h3
  refine sQ (rG (eZ rfl (oN (tN (rT (tR (eR ?_)))))))
  ·first
   | (refine retB ?_; have h3' : ¬ (p.funcs[(0 : Int).toNat]'(by simp; omega)).params = 0 := h3; rw [goodP, paramsL_at (by omega) (by omega)]; simp only [h3', decide_false, Bool.false_and, Bool.and_false]; done)
 simp only [HS] at h3
 refine W_skip (tN (sQ (sQ (rG (eK 2 rfl (evE ?_))))))
 refine eZ rfl (oN (tN (W_block ?_)))
 refine lK (α := Int) [1, 3, 25, 26] [1, 3] (fun x => [(27, .t (.int x))]) (fun x => []) (fun x => 0 ≤ x ∧ x ≤ p.funcs.length ∧ (p.funcs.take x.toNat).all (goodF (paramsL p)) = true ∧ PsOk (paramsL p) ∧ goodP p = p.funcs.all (goodF (paramsL p))) (fun x => Int.toNat (p.funcs.length - x)) 0 ?_ (fun k hx => ?_)
 ·have hp2 : paramsB (paramsL p) = true := by assumption
  have h0' : (p.funcs[(0 : Int).toNat]'(by simp; omega)).params = 0 := by assumption
  refine ⟨by omega, by omega, by simp, paramsB_ok hp2, ?_⟩
  rw [goodP, hp2, paramsL_at (by omega) (by omega), h0']
  simp; intros; omega
 obtain ⟨hk0, hk1, hall, hps, hgp⟩ := hx
 refine nY rfl (sQ (rG (eZ rfl (oN (tN (sQ ?_))))))
 refine W_cond rfl (fun h4 => ?_) (fun h4 => ?_)
 ·
  simp only [HS] at h4
  refine W_skip (tN (sQ (W_block (sQ (rG (WO_idxT tys rfl rfl (lt_of rfl) rfl rfl rfl rfl rfl rfl rfl (by omega) _ (getT _ _ (by omega) (by omega)) (eZ rfl ?_)))))))
  try refine WO_le (Le.freeze (u := 30) rfl) ?_
  refine nZ rfl (WO_alloc tys rfl rfl (lt_of rfl) rfl rfl rfl (nZ rfl (sT rfl (nZ rfl (oN (tN (sQ (rG (eZ rfl ?_)))))))))
  try refine WO_le (Le.freeze (u := 31) rfl) ?_
  refine nZ rfl (callB ?_)
  refine ⟨_, isShaped_fun _ (func_ok hp _), rfl, ?_⟩
  refine eK 2 rfl (kZ [1,3,5,25,26,27,28,29,30,31,32,33,34] rfl ?_)
  refine WO_guard rfl rfl rfl rfl (lt_of rfl) (fun h5 => ?_) (fun h5 => ?_)
  rotate_left
  ·
   simp only [HS] at h5
   refine gN rfl rfl (gN rfl rfl (gN rfl rfl (eZ rfl (oN (tN (W_condT rfl (sQ (rG (eZ rfl (oN (tN (rT (bR (tR (loopQ_r ?_)))))))))))))))
   refine bR (tR (eR ?_))
   ·first
    | (refine retB ?_; rw [hgp, goodF_no hk0 h4 (by unfold goodF; rw [h5]; rfl)]; done)
  simp only [HS] at h5
  refine eZ rfl (gY rfl (eZ rfl (gY rfl (eZ rfl (gY rfl (callB ?_))))))
  refine ⟨_, hasStmt_fun _ (fun s => !stmtG (p.funcs[k.toNat]'(by omega)).vars (paramsL p) s) _ [.rp (p.funcs[k.toNat]'(by omega)).tt 0, .rp (.agg [T.ints (paramsL p)]) 0] rfl (by have := (func_ok hp (n := k.toNat) (by omega)).2.1.1; omega) (fun s hs => isProg1_fun s _ _ ((func_ok hp (n := k.toNat) (by omega)).2.1.2 s hs) (shapeF_vars (by assumption)) hps), rfl, ?_⟩
  refine eZ rfl (oN (tN ?_))
  refine W_cond rfl (fun h6 => ?_) (fun h6 => ?_)
  ·
   refine sQ (rG (eZ rfl (oN (tN (rT (bR (tR (loopQ_r (bR (tR (eR ?_)))))))))))
   ·first
    | (refine retB ?_; rw [hgp, goodF_no hk0 h4 (by rw [any_stmtG] at h6; unfold goodF; rw [h5]; simpa using h6)]; done)
  refine W_skip (bN (tN (rG (evI ?_))))
  refine eZ rfl (oN ?_)
  refine lQ _ ?_ ?_
  ·skip
   refine ⟨by omega, by omega, all_tk hk0 (by omega) hall ?_, hps, hgp⟩
   unfold goodF
   rw [any_stmtG] at *
   simp_all
  ·(show Int.toNat _ < Int.toNat _); omega
 simp only [HS] at h4
 refine W_exit (tE (loopQ_e (inBlk_y (tN (sQ (rG (eZ rfl (oN (tN (rT (eR ?_)))))))))))
 ·first
  | (refine retB ?_; rw [hgp, all_fl (by omega) hall]; done)

theorem sitesF_mem : ∀ {l : List Stmt} {k x : Int}, x ∈ sitesF l k ↔ ∃ j : Nat, ∃ h : j < l.length, x = k + j ∧ (l[j]).kind = 3
 | [], k, x => by simp [sitesF]
 | s :: l, k, x => by
  have ih := sitesF_mem (l := l) (k := k + 1) (x := x)
  have e : (∃ j : Nat, ∃ h : j < (s :: l).length, x = k + j ∧ ((s :: l)[j]).kind = 3) ↔ (x = k ∧ s.kind = 3) ∨ ∃ j : Nat, ∃ h : j < l.length, x = k + 1 + j ∧ (l[j]).kind = 3 := by
   constructor
   ·rintro ⟨j, hj, h1, h2⟩
    cases j with
    | zero => exact .inl ⟨by simpa using h1, by simpa using h2⟩
    | succ j => exact .inr ⟨j, by simpa using hj, by rw [h1]; omega, by simpa using h2⟩
   ·rintro (⟨h1, h2⟩ | ⟨j, hj, h1, h2⟩)
    ·exact ⟨0, by simp, by simpa using h1, by simpa using h2⟩
    ·exact ⟨j + 1, by simpa using hj, by rw [h1]; omega, by simpa using h2⟩
  rw [e, sitesF]
  split
  ·rename_i h; rw [List.mem_cons, ih]; simp [h]
  ·rename_i h; rw [ih]; simp [h]
theorem sitesF_len : ∀ (l : List Stmt) (k : Int), (sitesF l k).length ≤ l.length
 | [], k => by simp [sitesF]
 | s :: l, k => by
  have := sitesF_len l (k + 1)
  rw [sitesF]
  split <;> simp only [List.length_cons] <;> omega

theorem shape_no {f : Func} (h : blocksB f.stmts f.body = false) : shapeB f.stmts f.body = false := by
 rw [Bool.eq_false_iff]; intro hs
 rw [(shape_blocks.1 hs).1] at h; cases h
theorem stmtW_no {f : Func} {ps : List Int} {m : Int} (h0 : 0 ≤ m) (h1 : m < f.stmts.length) (h : stmtW f.vars ps (f.stmts[m.toNat]'(by omega)) = false) : f.stmts.all (stmtW f.vars ps) = false := all_no h0 h1 h

theorem l3Func_fun (f : Func) (ps : List Int) (hf : f.ok 1048576) (hp : PsOk ps) (hpb : paramsB ps = true) : Fun Tryz.prog 153 [.t f.tt, .t (T.ints ps)] (tupD [.t (.bool (goodW ps f))]) := by
  have hl : f.stmts.length ≤ 1048576 := hf.2.1.1
  have hbl : f.body.length ≤ 1048576 := hf.1
  refine Fun.begin tys Tryz.func153 rfl rfl (N := 87) [(0, .t f.tt), (1, .t (T.ints ps))] rfl rfl (fun w0 G F0 => ?_)
  refine sQ (rG (WO_box rfl rfl (lt_of rfl) rfl rfl (nZ rfl (eZ rfl (oN (tN (sQ (sQ (rG (eK 2 rfl (callB ?_)))))))))))
  refine ⟨_, l1In_fun _ _ _, rfl, ?_⟩
  refine eK 2 rfl ?_
  refine WO_guard rfl rfl rfl rfl (lt_of rfl) (fun h1 => ?_) (fun h1 => ?_)
  rotate_left
  ·
    simp only [HS] at h1
    refine gN rfl rfl (gN rfl rfl (kZ [1,2,4,15,17,18] rfl (gN rfl rfl (gN rfl rfl (gN rfl rfl (eK 2 rfl (gN rfl rfl (gN rfl rfl (gN rfl rfl (gN rfl rfl (kZ [1,2,4,23,27] rfl (eK 2 rfl (gN rfl rfl (gN rfl rfl (gN rfl rfl ?_)))))))))))))))
    refine eK 2 rfl (gN rfl rfl (gN rfl rfl (kZ [1,2,4,34,36] rfl (gN rfl rfl (gN rfl rfl (eZ rfl (oN (tN (W_condT rfl (sQ (rG (eZ rfl (oN (tN (rT ?_)))))))))))))))
    refine tR (eR ?_)
    · first
      | (refine retB ?_; rw [goodW, shapeF, okNum]; simp only [h1, decide_false, Bool.false_and]; done)
  simp only [HS] at h1
  refine eZ rfl (gY rfl (eZ rfl (kZ [1,2,4,15,17] rfl (gY rfl (eZ rfl (gY rfl (eZ rfl (gY rfl (callB ?_)))))))))
  refine ⟨_, l1In_fun _ _ _, rfl, ?_⟩
  refine gY rfl (eK 3 rfl ?_)
  refine WO_guard rfl rfl rfl rfl (lt_of rfl) (fun h2 => ?_) (fun h2 => ?_)
  rotate_left
  ·
    simp only [HS] at h2
    refine gN rfl rfl (gN rfl rfl (gN rfl rfl (kZ [1,2,4,23,27] rfl (eK 2 rfl (gN rfl rfl (gN rfl rfl (gN rfl rfl (eK 2 rfl (gN rfl rfl (gN rfl rfl (kZ [1,2,4,34,36] rfl (gN rfl rfl (gN rfl rfl (eZ rfl (oN ?_)))))))))))))))
    refine tN (W_condT rfl (sQ (rG (eZ rfl (oN (tN (rT (tR (eR ?_)))))))))
    · first
      | (refine retB ?_; rw [goodW, shapeF, okNum]; simp only [h2, decide_false, Bool.false_and, Bool.and_false]; done)
  simp only [HS] at h2
  refine eZ rfl (gY rfl (eZ rfl (gY rfl (evE ?_))))
  refine kZ [1,2,4,23,26] rfl (gY rfl (eK 3 rfl ?_))
  refine WO_guard rfl rfl rfl rfl (lt_of rfl) (fun h3 => ?_) (fun h3 => ?_)
  rotate_left
  ·
    simp only [HS] at h3
    refine gN rfl rfl (gN rfl rfl (eK 2 rfl (gN rfl rfl (gN rfl rfl (kZ [1,2,4,34,36] rfl (gN rfl rfl (gN rfl rfl (eZ rfl (oN (tN (W_condT rfl (sQ (rG (eZ rfl (oN ?_)))))))))))))))
    refine tN (rT (tR (eR ?_)))
    · first
      | (refine retB ?_; rw [goodW, shapeF, okNum]; simp only [Int.not_le.2 h3, decide_false, Bool.false_and, Bool.and_false]; done)
  simp only [HS] at h3
  refine eZ rfl ?_
  try refine WO_le (Le.freeze (u := 30) rfl) ?_
  refine nZ rfl (gY rfl (callB ?_))
  refine ⟨_, l3Blocks_fun f hf (by omega), rfl, ?_⟩
  refine gY rfl (eK 3 rfl ?_)
  refine WO_guard rfl rfl rfl rfl (lt_of rfl) (fun h4 => ?_) (fun h4 => ?_)
  rotate_left
  ·
    simp only [HS] at h4
    refine gN rfl rfl (kZ [1,2,4,34,36] rfl (gN rfl rfl (gN rfl rfl (eZ rfl (oN (tN (W_condT rfl (sQ (rG (eZ rfl (oN (tN (rT (tR (eR ?_)))))))))))))))
    · first
      | (refine retB ?_; rw [goodW, shapeF, shape_no h4]; simp; done)
  simp only [HS] at h4
  refine eZ rfl ?_
  try refine WO_le (Le.freeze (u := 35) rfl) ?_
  refine nZ rfl (gY rfl (callB ?_))
  refine ⟨_, l3Sites_fun f hf, rfl, ?_⟩
  refine WO_le (Le.adoptE (u := 36) 36 rfl (by first | exact lenN | exact rfl)) ?_
  refine nZ rfl (kZ [1,2,4,34,36] rfl (gY rfl (evE ?_)))
  refine gY rfl (eK 2 rfl (oN (tN ?_)))
  refine W_cond rfl (fun h5 => ?_) (fun h5 => ?_)
  ·
    simp only [HS] at h5
    refine sQ (rG (eZ rfl (oN (tN (rT (tR (eR ?_)))))))
    · first
      | (refine retB ?_; rw [goodW, shapeF, siteB]; simp only [Int.not_le.2 h5, decide_false, Bool.false_and, Bool.and_false]; done)
  simp only [HS] at h5
  refine W_skip (tN (sQ (sQ (rG ?_))))
  have hbk := blocksB_iff.1 h4
  have hd := hbk.2.2.1
  have hb := hbk.1
  have hol : (ordF f f.body).length = f.stmts.length := blocks_len h4
  refine eZ rfl ?_
  try refine WO_le (Le.freeze (u := 40) rfl) ?_
  refine nZ rfl (eK 2 rfl (callB ?_))
  refine ⟨_, l3Order_fun' f hf hd hb hbl (by omega), rfl, ?_⟩
  refine WO_le (Le.adoptE (u := 43) 43 rfl (by first | exact lenN | exact rfl)) ?_
  refine nZ rfl (evE ?_)
  refine eZ rfl (kZ [1,2,4,43,44,45] rfl (oN (tN (W_block ?_))))
  refine lK (α := Int) [1, 2, 43, 44] [2, 43] (fun x => [(45, .t (.int x))]) (fun x => []) (fun x => 0 ≤ x ∧ x ≤ (ordF f f.body).length ∧ ∀ (q : Nat) (h : q < (ordF f f.body).length), q < x → (ordF f f.body)[q] = (q : Int)) (fun x => Int.toNat ((ordF f f.body).length - x)) 0 ?_ (fun j hx => ?_)
  · exact ⟨by omega, by omega, fun q h h' => by omega⟩
  obtain ⟨hj0, hj1, hj⟩ := hx
  refine nY rfl (sQ (rG (eZ rfl (oN (tN (sQ ?_))))))
  refine W_cond rfl (fun h6 => ?_) (fun h6 => ?_)
  ·
    simp only [HS] at h6
    refine W_skip (tN (sQ (W_block (sQ (rG (eZ rfl (WO_idxS tys rfl rfl (lt_of rfl) rfl rfl rfl rfl rfl rfl rfl rfl (by omega) (by omega) (WO_loadL tys rfl rfl (lt_of rfl) rfl rfl rfl rfl (getT0 _ _ (by omega) (by omega)) rfl (eK 2 rfl (oN (tN (sQ (rG (eK 3 rfl (kZ [1,2,5,6,43,44,45,46,47,48,49,50,51,52] rfl ?_)))))))))))))))
    refine oN (tN ?_)
    refine W_cond rfl (fun h7 => ?_) (fun h7 => ?_)
    ·
      simp only [HS] at h7
      refine sQ (rG (eZ rfl (oN (tN (rT (bR (tR (loopQ_r (bR (tR (eR ?_)))))))))))
      · first
        | (refine retB ?_; rw [goodW, shapeF, ord_no hj0 h6 (fun e => h7 e.symm)]; simp; done)
    simp only [HS] at h7
    refine W_skip (bN (tN (rG (evI ?_))))
    refine eZ rfl (oN ?_)
    refine lQ _ ?_ ?_
    · skip
      refine ⟨by omega, by omega, fun q h h' => ?_⟩
      by_cases hq : (q : Int) < j
      · exact hj q h hq
      · obtain rfl : q = j.toNat := by omega
        omega
    · (show Int.toNat _ < Int.toNat _); omega
  simp only [HS] at h6
  refine W_exit (tE (loopQ_e (inBlk_y (tN (sQ (sQ (rG (eK 2 rfl (evE ?_)))))))))
  refine eZ rfl (oN (tN (W_block ?_)))
  refine lK (α := Int) [1, 2, 55, 56] [2] (fun x => [(57, .t (.int x))]) (fun x => []) (fun x => 0 ≤ x ∧ x ≤ f.stmts.length ∧ shapeB f.stmts f.body = true ∧ (f.stmts.take x.toNat).all (whileOk f) = true ∧ (f.stmts.take x.toNat).all (stmtW f.vars ps) = true) (fun x => Int.toNat (f.stmts.length - x)) 0 ?_ (fun m hx => ?_)
  · exact ⟨by omega, by omega, shape_blocks.2 ⟨h4, fun q h => hj q h (by unfold ordF at h6; omega)⟩, by simp, by simp⟩
  obtain ⟨hm0, hm1, hsh, hmw, hms⟩ := hx
  refine nY rfl (sQ (rG (eZ rfl (oN (tN (sQ ?_))))))
  refine W_cond rfl (fun h7 => ?_) (fun h7 => ?_)
  ·
    simp only [HS] at h7
    refine W_skip (tN (sQ (W_block (sQ (rG (WO_idxT tys rfl rfl (lt_of rfl) rfl rfl rfl rfl rfl rfl rfl (by omega) _ (getT _ _ (by omega) (by omega)) (eZ rfl ?_)))))))
    try refine WO_le (Le.freeze (u := 60) rfl) ?_
    refine nZ rfl (WO_alloc tys rfl rfl (lt_of rfl) rfl rfl rfl (nZ rfl (sT rfl (nZ rfl (oN (tN (sQ (sQ (rG (eZ rfl ?_))))))))))
    try refine WO_le (Le.freeze (u := 61) rfl) ?_
    refine nZ rfl (eZ rfl ?_)
    try refine WO_le (Le.freeze (u := 62) rfl) ?_
    refine nZ rfl (eZ rfl (callB ?_))
    refine ⟨_, l3Stmt_fun f _ ps (hf.2.1.2 _ (List.getElem_mem _)) (by omega) hp hpb, rfl, ?_⟩
    refine kZ [1,2,8,55,56,57,58,59,60,61,62,63,64] rfl (eZ rfl (oN (tN ?_)))
    refine W_cond rfl (fun h8 => ?_) (fun h8 => ?_)
    ·
      simp only [HS] at h8
      refine sQ (rG (eZ rfl (oN (tN (rT (tR (bR (tR (loopQ_r (bR (tR (eR ?_))))))))))))
      · first
        | (refine retB ?_; rw [goodW, stmtW_no hm0 h7 h8]; simp; done)
    simp only [HS] at h8
    refine W_skip (tN (sQ (sQ (rG (eK 3 rfl (oN (tN ?_)))))))
    refine W_cond rfl (fun h9 => ?_) (fun h9 => ?_)
    ·
      simp only [HS] at h9
      refine W_exit (tE (inBlk_y (tN (rG (evI ?_)))))
      refine eZ rfl (oN ?_)
      refine lQ _ ?_ ?_
      · skip
        refine ⟨by omega, by omega, hsh, all_tk hm0 (by omega) hmw ?_, all_tk hm0 (by omega) hms (by assumption)⟩
        first
        | (unfold whileOk; rw [if_neg (by omega)]; done)
      · (show Int.toNat _ < Int.toNat _); omega
    simp only [HS] at h9
    refine W_skip (tN (sQ (rG ?_)))
    have hmt : m.toNat < f.stmts.length := by omega
    have hbt : inB f.stmts.length 0 (f.stmts[m.toNat]'hmt).thn := by
      have := (hd m (by omega) (by omega)).1
      rw [kids_at hmt] at this
      exact inB_lower this (by omega)
    have hut := usesF_drop f.stmts hmt
    have hul := usesF_le f.stmts m.toNat
    have hsu := shape_uses hsh
    have hot : (ordF f (f.stmts[m.toNat]'hmt).thn).length ≤ 1048576 := ord_bound' hd hbt (by omega) (by omega)
    refine eZ rfl ?_
    try refine WO_le (Le.freeze (u := 69) rfl) ?_
    refine nZ rfl (eK 2 rfl (callB ?_))
    refine ⟨_, l3Order_fun' f hf hd hbt (stmt_ok hf hmt).1 hot, rfl, ?_⟩
    refine WO_le (Le.adoptE (u := 72) 72 rfl (by first | exact lenN | exact rfl)) ?_
    refine nZ rfl (evE ?_)
    refine kZ [1,2,8,55,56,57,58,59,60,61,62,63,64,65,66,67,68,69,70,71,72,73] rfl (eZ rfl (oN (tN (W_block ?_))))
    refine lK (α := Int) [1, 2, 55, 56, 57, 72, 73] [2, 72] (fun x => [(74, .t (.int x))]) (fun x => []) (fun x => 0 ≤ x ∧ x ≤ (ordF f (f.stmts[m.toNat]'(by omega)).thn).length ∧ ((ordF f (f.stmts[m.toNat]'(by omega)).thn).take x.toNat).all (fun n => decide (¬ kindAt f n = 3)) = true) (fun x => Int.toNat ((ordF f (f.stmts[m.toNat]'(by omega)).thn).length - x)) 0 ?_ (fun r hx => ?_)
    · exact ⟨by omega, by omega, by simp⟩
    obtain ⟨hr0, hr1, hrw⟩ := hx
    refine nY rfl (sQ (rG (eZ rfl (oN (tN (sQ ?_))))))
    refine W_cond rfl (fun h10 => ?_) (fun h10 => ?_)
    ·
      simp only [HS] at h10
      refine W_skip (tN (sQ (W_block (sQ (rG (WO_idxS tys rfl rfl (lt_of rfl) rfl rfl rfl rfl rfl rfl rfl rfl (by omega) (by omega) (WO_loadL tys rfl rfl (lt_of rfl) rfl rfl rfl rfl (getT0 _ _ (by omega) (by omega)) rfl ?_)))))))
      have hn := ord_range hd hbt _ (List.getElem_mem (l := ordF f (f.stmts[m.toNat]'(by omega)).thn) (n := r.toNat) (by omega))
      refine eZ rfl (oN (tN (sQ (rG (eK 3 rfl (WO_idxT tys rfl rfl (lt_of rfl) rfl rfl rfl rfl rfl rfl rfl (by omega) _ (getT _ _ (by omega) (by omega)) (eZ rfl (kZ [1,2,10,55,56,57,72,73,74,75,76,77,78,79,80,81,82] rfl (eK 2 rfl (oN (tN ?_)))))))))))
      refine W_cond rfl (fun h11 => ?_) (fun h11 => ?_)
      ·
        simp only [HS] at h11
        refine sQ (rG (eZ rfl (oN (tN (rT (bR (tR (loopQ_r (bR (bR (tR (loopQ_r (bR (tR (eR ?_)))))))))))))))
        · first
          | (have e : noDef f (f.stmts[m.toNat]'(by omega)).thn = false := (by unfold noDef; exact all_no hr0 (by omega) (by rw [kindAt_at (by omega)]; simp; omega))
             refine retB ?_; rw [goodW, shapeF, while_no hm0 (by omega) (by omega) e]; simp; done)
      simp only [HS] at h11
      refine W_skip (bN (tN (rG (evI ?_))))
      refine eZ rfl (oN ?_)
      refine lQ _ ?_ ?_
      · skip
        exact ⟨by omega, by omega, all_tk hr0 (by omega) hrw (by rw [kindAt_at (by omega)]; simp; assumption)⟩
      · (show Int.toNat _ < Int.toNat _); omega
    simp only [HS] at h10
    refine W_exit (tE (loopQ_e (inBlk_y (bN (tN (rG (evI ?_)))))))
    refine eZ rfl (oN ?_)
    refine lQ _ ?_ ?_
    · skip
      refine ⟨by omega, by omega, hsh, all_tk hm0 (by omega) hmw ?_, all_tk hm0 (by omega) hms (by assumption)⟩
      first
      | (unfold whileOk; rw [if_pos (by omega)]; exact all_fl (by omega) hrw)
    · (show Int.toNat _ < Int.toNat _); omega
  simp only [HS] at h7
  refine W_exit (tE (loopQ_e (inBlk_y (tN (sQ (rG (eZ rfl (oN (tN (rT (eR ?_)))))))))))
  · first
    | (refine retB ?_
       rw [goodW, shapeF, hsh, whileB, all_fl (by omega) hmw, all_fl (by omega) hms, okNum, siteB]
       simp only [h1, h2, h3, h5, and_self, decide_true, Bool.and_self]
       done)

end Go.Proofs.YtimpganophnehaaGreat
