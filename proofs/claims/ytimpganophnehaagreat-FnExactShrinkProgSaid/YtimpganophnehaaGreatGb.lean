/- Walks and laws of the claim. -/
import Derived.Test.YtimpganophnehaaGreatPg
import Derived.Test.YtimpganophnehaaGreatFa
import Derived.Test.YtimpganophnehaaGreatMc
import Derived.Test.YtimpganophnehaaGreatMb
set_option linter.unusedVariables false
set_option linter.unusedSimpArgs false
set_option maxRecDepth 10000
set_option maxHeartbeats 1000000
namespace Go.Proofs.YtimpganophnehaaGreat
open Go.Eng
open Go.Eng
def lens (s : Stmt) : Int := (s.thn.length : Int) + s.els.length
def stmtW (vars : Int) (ps : List Int) (s : Stmt) : Bool :=
 if s.kind = 1 then goodE vars ps s.ex && (decide (0 ≤ s.n ∧ s.n ≤ vars - 1) && decide (lens s = 0))
 else if s.kind = 2 ∨ s.kind = 4 ∨ s.kind = 5 ∨ s.kind = 9 then goodE vars ps s.ex && (decide (s.n = 0) && decide (lens s = 0))
 else if s.kind = 3 then decide ((s.ex.length : Int) = 0) && (decide (0 ≤ s.n ∧ s.n ≤ (ps.length : Int) - 1) && decide (lens s = 0))
 else if s.kind = 6 then decide ((s.ex.length : Int) = 0) && (decide (s.n = 0) && decide (lens s = 0))
 else if s.kind = 7 then goodE vars ps s.ex && decide (s.n = 0)
 else if s.kind = 8 then goodE vars ps s.ex && (decide (s.n = 0) && decide ((s.els.length : Int) = 0))
 else false
def stmtG (vars : Int) (ps : List Int) (s : Stmt) : Bool := stmtW vars ps s && (if s.kind = 3 then decide (atI ps s.n = 0) else true)
theorem l3Stmt_fun (f : Func) (s : Stmt) (ps : List Int) (hs : s.ok 1048576) (hv : 0 ≤ f.vars ∧ f.vars ≤ 6) (hp : PsOk ps) (hpb : paramsB ps = true) : Fun Tryz.prog 202 [.t f.tt, .t s.tt, .t (T.ints ps)] (tupD [.t (.bool (stmtW f.vars ps s))]) := by
 have hp1 := hp.1
 have hs1 : s.ex.length ≤ 1048576 := hs.1
 have hs2 : s.thn.length ≤ 1048576 := hs.2.1
 have hs3 : s.els.length ≤ 1048576 := hs.2.2.1
 refine Fun.begin tys Tryz.func202 Z Z (N := 115) [(0, .t f.tt), (1, .t s.tt), (2, .t (T.ints ps))] Z Z (fun w0 G F0 => ?_)
 refine sQ (rG (WO_box Z Z (lt_of Z) Z Z (nZ Z (WO_box Z Z (lt_of Z) Z Z (nZ Z (eZ Z (oN (tN (sQ (rG (eK 5 Z (callB ?_))))))))))))
 refine ⟨_, goodExpr_fun _ _ _ hv hp hpb hs1, rfl, ?_⟩
 refine kZ [2,3,4,6,14] Z (eZ Z (oN (tN (sQ (rG (eK 4 Z ?_))))))
 refine WO_guard Z Z Z Z (lt_of Z) (fun h1 => ?_) (fun h1 => ?_)
 rotate_left
 ·
  simp only [HS] at h1
  refine gM Z (gM Z (gM Z (gM Z (kZ [2,3,4,6,7,18,21,23] Z (gM Z (gM Z (gM Z (eK 2 Z (oN (tN (sQ (sQ (rG (eK 2 Z (oN ?_)))))))))))))))
  refine tN (W_block (sQ (kY [2,3,4,6,7,8,29] Z (rG (eK 2 Z (oN (tN ?_)))))))
  refine W_cond Z (fun h2 => ?_) (fun h2 => ?_)
  ·
   simp only [HS] at h2
   refine sQ (rG (eK 2 Z ?_))
   refine WO_guard Z Z Z Z (lt_of Z) (fun h3 => ?_) (fun h3 => ?_)
   rotate_left
   ·
    simp only [HS] at h3
    refine gM Z (gM Z (gM Z (gM Z (gM Z (kZ [4,6,33,39] Z (eK 2 Z (gM Z (gM Z (gM Z (gM Z (gM Z (gM Z (gM Z (kZ [6,41,48] Z (gM Z ?_)))))))))))))))
    refine eK 2 Z (oN (tN (rT (bR (tR (eR ?_))))))
    ·exact retB (by grind [stmtW, lens])
   refine eZ Z (gY Z (eZ Z (gY Z (eZ Z (gY Z (eZ Z (gY Z (evI ?_))))))))
   refine kZ [4,6,33,35,38] Z (gY Z (callB ?_))
   refine ⟨_, l1In_fun _ _ _, rfl, ?_⟩
   refine eK 2 Z ?_
   refine WO_guard Z Z Z Z (lt_of Z) (fun h4 => ?_) (fun h4 => ?_)
   rotate_left
   ·
    simp only [HS] at h4
    refine gM Z (gM Z (gM Z (gM Z (gM Z (gM Z (kZ [6,41,48] Z (gM Z (eK 2 Z (oN (tN (rT (bR (tR (eR ?_))))))))))))))
    ·exact retB (by grind [stmtW, lens])
   simp only [HS] at h4
   refine eZ Z (gY Z (eZ Z (gY Z (evE ?_))))
   refine gY Z (eZ Z (gY Z (eZ Z (gY Z (evE ?_)))))
   refine kZ [6,41,44,47] Z (gY Z (evI ?_))
   refine gY Z (eK 3 Z (oN (tN (rT (bR (tR (eR ?_)))))))
   ·exact retB (by grind [stmtW, lens])
  simp only [HS] at h2
  refine sQ (sQ (rG (eK 2 Z (oN (tN ?_)))))
  refine W_joinN (α := Bool) [2, 4, 6, 7, 8, 29] [3, 4] (fun x => [(51, .t (.bool x))]) (fun x => []) (fun x => x = decide (s.kind = 2 ∨ s.kind = 4 ∨ s.kind = 5 ∨ s.kind = 9)) ?_ (fun b hx => ?_)
  ·
   refine W_cond Z (fun h3 => ?_) (fun h3 => ?_)
   ·
    simp only [HS] at h3
    refine W_skip ?_
    refine joinQ_n _ (by (try dsimp only); repeat (first | exact Sub.nil' | refine Sub.cons' rfl ?_)) (by (try dsimp only); repeat (first | exact SubM.nil' | refine SubM.cons' rfl ?_)) ?_
    grind
   simp only [HS] at h3
   refine sQ (rG (eK 2 Z (oN (tN ?_))))
   refine W_cond Z (fun h4 => ?_) (fun h4 => ?_)
   ·
    simp only [HS] at h4
    refine W_skip ?_
    refine joinQ_n _ (by (try dsimp only); repeat (first | exact Sub.nil' | refine Sub.cons' rfl ?_)) (by (try dsimp only); repeat (first | exact SubM.nil' | refine SubM.cons' rfl ?_)) ?_
    grind
   simp only [HS] at h4
   refine sQ (rG (eK 2 Z (oN (tN ?_))))
   refine W_cond Z (fun h5 => ?_) (fun h5 => ?_)
   ·
    simp only [HS] at h5
    refine W_skip ?_
    refine joinQ_n _ (by (try dsimp only); repeat (first | exact Sub.nil' | refine Sub.cons' rfl ?_)) (by (try dsimp only); repeat (first | exact SubM.nil' | refine SubM.cons' rfl ?_)) ?_
    grind
   simp only [HS] at h5
   refine kY [2,4,6,7,8,29,51] Z (rG (eK 2 Z (oN ?_)))
   refine joinQ_n _ (by (try dsimp only); repeat (first | exact Sub.nil' | refine Sub.cons' rfl ?_)) (by (try dsimp only); repeat (first | exact SubM.nil' | refine SubM.cons' rfl ?_)) ?_
   grind
  have hb := hx
  refine tN ?_
  refine W_cond Z (fun h3 => ?_) (fun h3 => ?_)
  ·
   refine sQ (kY [6,7,8] Z (rG (eK 2 Z ?_)))
   refine WO_guard Z Z Z Z (lt_of Z) (fun h4 => ?_) (fun h4 => ?_)
   rotate_left
   ·
    simp only [HS] at h4
    refine eK 2 Z (oN (tN (rT (bR (tR (eR ?_))))))
    ·exact retB (by grind [stmtW, lens])
   refine eK 3 Z (oN (tN (rT (bR (tR (eR ?_))))))
   ·exact retB (by grind [stmtW, lens])
  refine sQ (kY [2,4,6,7,8,29] Z (rG (eK 2 Z (oN (tN ?_)))))
  refine W_cond Z (fun h4 => ?_) (fun h4 => ?_)
  ·
   simp only [HS] at h4
   refine sQ (rG (eK 2 Z (evE ?_)))
   refine eK 2 Z ?_
   refine WO_guard Z Z Z Z (lt_of Z) (fun h5 => ?_) (fun h5 => ?_)
   rotate_left
   ·
    simp only [HS] at h5
    refine gM Z (gM Z (kZ [4,6,66,68,69] Z (gM Z (gM Z (gM Z (eK 2 Z (gM Z (gM Z (gM Z (gM Z (kZ [6,74,77,78] Z (gM Z (gM Z (gM Z (gM Z ?_)))))))))))))))
    refine eK 2 Z (oN (tN (rT (bR (tR (eR ?_))))))
    ·exact retB (by grind [stmtW, lens])
   simp only [HS] at h5
   refine eZ Z (gY Z (eZ Z (kZ [2,4,6,66,68] Z (gY Z (eZ Z (gY Z (evE ?_)))))))
   refine gY Z (evI ?_)
   refine gY Z (callB ?_)
   refine ⟨_, l1In_fun _ _ _, rfl, ?_⟩
   refine eK 2 Z ?_
   refine WO_guard Z Z Z Z (lt_of Z) (fun h6 => ?_) (fun h6 => ?_)
   rotate_left
   ·
    simp only [HS] at h6
    refine gM Z (gM Z (gM Z (kZ [6,74,77,78] Z (gM Z (gM Z (gM Z (gM Z (eK 2 Z (oN (tN (rT (bR (tR (eR ?_))))))))))))))
    ·exact retB (by grind [stmtW, lens])
   simp only [HS] at h6
   refine eZ Z (gY Z (eZ Z (gY Z (evE ?_))))
   refine kZ [4,6,74,77] Z (gY Z (eZ Z (gY Z (eZ Z (gY Z (evE ?_))))))
   refine gY Z (evI ?_)
   refine gY Z (eK 3 Z (oN (tN (rT (bR (tR (eR ?_)))))))
   ·exact retB (by grind [stmtW, lens])
  simp only [HS] at h4
  refine sQ (rG (eK 2 Z (oN (tN ?_))))
  refine W_cond Z (fun h5 => ?_) (fun h5 => ?_)
  ·
   simp only [HS] at h5
   refine sQ (rG (eK 2 Z (evE ?_)))
   refine eK 2 Z (kZ [6,8,90] Z ?_)
   refine WO_guard Z Z Z Z (lt_of Z) (fun h6 => ?_) (fun h6 => ?_)
   rotate_left
   ·
    simp only [HS] at h6
    refine eK 2 Z (oN (tN (rT (bR (tR (eR ?_))))))
    ·exact retB (by grind [stmtW, lens])
   simp only [HS] at h6
   refine eK 3 Z (oN (tN (rT (bR (tR (eR ?_))))))
   ·exact retB (by grind [stmtW, lens])
  simp only [HS] at h5
  refine sQ (rG (eK 2 Z (oN (tN ?_))))
  refine W_cond Z (fun h6 => ?_) (fun h6 => ?_)
  ·
   simp only [HS] at h6
   refine sQ (rG (eK 2 Z ?_))
   refine WO_guard Z Z Z Z (lt_of Z) (fun h7 => ?_) (fun h7 => ?_)
   rotate_left
   ·
    simp only [HS] at h7
    refine gM Z (kZ [6,96,98] Z (gM Z (eK 2 Z (oN (tN (rT (bR (tR (eR ?_)))))))))
    ·exact retB (by grind [stmtW, lens])
   refine eZ Z (gY Z (eZ Z (kZ [6,96,98] Z (gY Z (eK 3 Z (oN (tN (rT (bR (tR (eR ?_)))))))))))
   ·exact retB (by grind [stmtW, lens])
  simp only [HS] at h6
  refine sQ (rG (eK 2 Z (oN (tN ?_))))
  refine W_cond Z (fun h7 => ?_) (fun h7 => ?_)
  ·
   simp only [HS] at h7
   refine sQ (kY [4,6,7] Z (rG (eK 2 Z ?_)))
   refine WO_guard Z Z Z Z (lt_of Z) (fun h8 => ?_) (fun h8 => ?_)
   rotate_left
   ·
    simp only [HS] at h8
    refine gM Z (gM Z (eK 2 Z (gM Z (gM Z (gM Z (kZ [6,109,112] Z (gM Z (eK 2 Z (oN (tN (rT (bR (tR (eR ?_))))))))))))))
    ·exact retB (by grind [stmtW, lens])
   refine eZ Z (gY Z (eZ Z (gY Z (eK 3 Z ?_))))
   refine WO_guard Z Z Z Z (lt_of Z) (fun h9 => ?_) (fun h9 => ?_)
   rotate_left
   ·
    simp only [HS] at h9
    refine gM Z (gM Z (kZ [6,109,112] Z (gM Z (eK 2 Z (oN (tN (rT (bR (tR (eR ?_))))))))))
    ·exact retB (by grind [stmtW, lens])
   simp only [HS] at h9
   refine eZ Z (gY Z (eZ Z (kZ [6,109,111] Z (gY Z (evE ?_)))))
   refine gY Z (eK 3 Z (oN (tN (rT (bR (tR (eR ?_)))))))
   ·exact retB (by grind [stmtW, lens])
  simp only [HS] at h7
  refine W_skip (bN (tN (sQ (kY [6] Z (rG (eZ Z (oN (tN (rT (eR ?_))))))))))
  ·exact retB (by grind [stmtW, lens])
 simp only [HS] at h1
 refine eZ Z (gY Z (eZ Z (gY Z (evE ?_))))
 refine gY Z (eZ Z (kZ [2,3,4,6,7,18,21,22] Z (gY Z (eZ Z (gY Z (evE ?_))))))
 refine gY Z (evI ?_)
 refine gY Z (eK 3 Z (oN (tN (sQ (sQ (rG (eK 2 Z (oN (tN (W_block (sQ (kY [2,3,4,6,7,8,29] Z (rG (eK 2 Z (oN ?_)))))))))))))))
 refine tN ?_
 refine W_cond Z (fun h2 => ?_) (fun h2 => ?_)
 ·
  simp only [HS] at h2
  refine sQ (rG (eK 2 Z ?_))
  refine WO_guard Z Z Z Z (lt_of Z) (fun h3 => ?_) (fun h3 => ?_)
  rotate_left
  ·
   simp only [HS] at h3
   refine gM Z (gM Z (gM Z (gM Z (gM Z (kZ [4,6,33,39] Z (eK 2 Z (gM Z (gM Z (gM Z (gM Z (gM Z (gM Z (gM Z (kZ [6,41,48] Z (gM Z ?_)))))))))))))))
   refine eK 2 Z (oN (tN (rT (bR (tR (eR ?_))))))
   ·exact retB (by grind [stmtW, lens])
  refine eZ Z (gY Z (eZ Z (gY Z (eZ Z (gY Z (eZ Z (gY Z (evI ?_))))))))
  refine kZ [4,6,33,35,38] Z (gY Z (callB ?_))
  refine ⟨_, l1In_fun _ _ _, rfl, ?_⟩
  refine eK 2 Z ?_
  refine WO_guard Z Z Z Z (lt_of Z) (fun h4 => ?_) (fun h4 => ?_)
  rotate_left
  ·
   simp only [HS] at h4
   refine gM Z (gM Z (gM Z (gM Z (gM Z (gM Z (kZ [6,41,48] Z (gM Z (eK 2 Z (oN (tN (rT (bR (tR (eR ?_))))))))))))))
   ·exact retB (by grind [stmtW, lens])
  simp only [HS] at h4
  refine eZ Z (gY Z (eZ Z (gY Z (evE ?_))))
  refine gY Z (eZ Z (gY Z (eZ Z (gY Z (evE ?_)))))
  refine kZ [6,41,44,47] Z (gY Z (evI ?_))
  refine gY Z (eK 3 Z (oN (tN (rT (bR (tR (eR ?_)))))))
  ·exact retB (by grind [stmtW, lens])
 simp only [HS] at h2
 refine sQ (sQ (rG (eK 2 Z (oN (tN ?_)))))
 refine W_joinN (α := Bool) [2, 4, 6, 7, 8, 29] [3, 4] (fun x => [(51, .t (.bool x))]) (fun x => []) (fun x => x = decide (s.kind = 2 ∨ s.kind = 4 ∨ s.kind = 5 ∨ s.kind = 9)) ?_ (fun b hx => ?_)
 ·
  refine W_cond Z (fun h3 => ?_) (fun h3 => ?_)
  ·
   simp only [HS] at h3
   refine W_skip ?_
   refine joinQ_n _ (by (try dsimp only); repeat (first | exact Sub.nil' | refine Sub.cons' rfl ?_)) (by (try dsimp only); repeat (first | exact SubM.nil' | refine SubM.cons' rfl ?_)) ?_
   grind
  simp only [HS] at h3
  refine sQ (rG (eK 2 Z (oN (tN ?_))))
  refine W_cond Z (fun h4 => ?_) (fun h4 => ?_)
  ·
   simp only [HS] at h4
   refine W_skip ?_
   refine joinQ_n _ (by (try dsimp only); repeat (first | exact Sub.nil' | refine Sub.cons' rfl ?_)) (by (try dsimp only); repeat (first | exact SubM.nil' | refine SubM.cons' rfl ?_)) ?_
   grind
  simp only [HS] at h4
  refine sQ (rG (eK 2 Z (oN (tN ?_))))
  refine W_cond Z (fun h5 => ?_) (fun h5 => ?_)
  ·
   simp only [HS] at h5
   refine W_skip ?_
   refine joinQ_n _ (by (try dsimp only); repeat (first | exact Sub.nil' | refine Sub.cons' rfl ?_)) (by (try dsimp only); repeat (first | exact SubM.nil' | refine SubM.cons' rfl ?_)) ?_
   grind
  simp only [HS] at h5
  refine kY [2,4,6,7,8,29,51] Z (rG (eK 2 Z (oN ?_)))
  refine joinQ_n _ (by (try dsimp only); repeat (first | exact Sub.nil' | refine Sub.cons' rfl ?_)) (by (try dsimp only); repeat (first | exact SubM.nil' | refine SubM.cons' rfl ?_)) ?_
  grind
 have hb := hx
 refine tN ?_
 refine W_cond Z (fun h3 => ?_) (fun h3 => ?_)
 ·
  refine sQ (kY [6,7,8] Z (rG (eK 2 Z ?_)))
  refine WO_guard Z Z Z Z (lt_of Z) (fun h4 => ?_) (fun h4 => ?_)
  rotate_left
  ·
   simp only [HS] at h4
   refine eK 2 Z (oN (tN (rT (bR (tR (eR ?_))))))
   ·exact retB (by grind [stmtW, lens])
  refine eK 3 Z (oN (tN (rT (bR (tR (eR ?_))))))
  ·exact retB (by grind [stmtW, lens])
 refine sQ (kY [2,4,6,7,8,29] Z (rG (eK 2 Z (oN (tN ?_)))))
 refine W_cond Z (fun h4 => ?_) (fun h4 => ?_)
 ·
  simp only [HS] at h4
  refine sQ (rG (eK 2 Z (evE ?_)))
  refine eK 2 Z ?_
  refine WO_guard Z Z Z Z (lt_of Z) (fun h5 => ?_) (fun h5 => ?_)
  rotate_left
  ·
   simp only [HS] at h5
   refine gM Z (gM Z (kZ [4,6,66,68,69] Z (gM Z (gM Z (gM Z (eK 2 Z (gM Z (gM Z (gM Z (gM Z (kZ [6,74,77,78] Z (gM Z (gM Z (gM Z (gM Z ?_)))))))))))))))
   refine eK 2 Z (oN (tN (rT (bR (tR (eR ?_))))))
   ·exact retB (by grind [stmtW, lens])
  simp only [HS] at h5
  refine eZ Z (gY Z (eZ Z (kZ [2,4,6,66,68] Z (gY Z (eZ Z (gY Z (evE ?_)))))))
  refine gY Z (evI ?_)
  refine gY Z (callB ?_)
  refine ⟨_, l1In_fun _ _ _, rfl, ?_⟩
  refine eK 2 Z ?_
  refine WO_guard Z Z Z Z (lt_of Z) (fun h6 => ?_) (fun h6 => ?_)
  rotate_left
  ·
   simp only [HS] at h6
   refine gM Z (gM Z (gM Z (kZ [6,74,77,78] Z (gM Z (gM Z (gM Z (gM Z (eK 2 Z (oN (tN (rT (bR (tR (eR ?_))))))))))))))
   ·exact retB (by grind [stmtW, lens])
  simp only [HS] at h6
  refine eZ Z (gY Z (eZ Z (gY Z (evE ?_))))
  refine kZ [4,6,74,77] Z (gY Z (eZ Z (gY Z (eZ Z (gY Z (evE ?_))))))
  refine gY Z (evI ?_)
  refine gY Z (eK 3 Z (oN (tN (rT (bR (tR (eR ?_)))))))
  ·exact retB (by grind [stmtW, lens])
 simp only [HS] at h4
 refine sQ (rG (eK 2 Z (oN (tN ?_))))
 refine W_cond Z (fun h5 => ?_) (fun h5 => ?_)
 ·
  simp only [HS] at h5
  refine sQ (rG (eK 2 Z (evE ?_)))
  refine eK 2 Z (kZ [6,8,90] Z ?_)
  refine WO_guard Z Z Z Z (lt_of Z) (fun h6 => ?_) (fun h6 => ?_)
  rotate_left
  ·
   simp only [HS] at h6
   refine eK 2 Z (oN (tN (rT (bR (tR (eR ?_))))))
   ·exact retB (by grind [stmtW, lens])
  simp only [HS] at h6
  refine eK 3 Z (oN (tN (rT (bR (tR (eR ?_))))))
  ·exact retB (by grind [stmtW, lens])
 simp only [HS] at h5
 refine sQ (rG (eK 2 Z (oN (tN ?_))))
 refine W_cond Z (fun h6 => ?_) (fun h6 => ?_)
 ·
  simp only [HS] at h6
  refine sQ (rG (eK 2 Z ?_))
  refine WO_guard Z Z Z Z (lt_of Z) (fun h7 => ?_) (fun h7 => ?_)
  rotate_left
  ·
   simp only [HS] at h7
   refine gM Z (kZ [6,96,98] Z (gM Z (eK 2 Z (oN (tN (rT (bR (tR (eR ?_)))))))))
   ·exact retB (by grind [stmtW, lens])
  refine eZ Z (gY Z (eZ Z (kZ [6,96,98] Z (gY Z (eK 3 Z (oN (tN (rT (bR (tR (eR ?_)))))))))))
  ·exact retB (by grind [stmtW, lens])
 simp only [HS] at h6
 refine sQ (rG (eK 2 Z (oN (tN ?_))))
 refine W_cond Z (fun h7 => ?_) (fun h7 => ?_)
 ·
  simp only [HS] at h7
  refine sQ (kY [4,6,7] Z (rG (eK 2 Z ?_)))
  refine WO_guard Z Z Z Z (lt_of Z) (fun h8 => ?_) (fun h8 => ?_)
  rotate_left
  ·
   simp only [HS] at h8
   refine gM Z (gM Z (eK 2 Z (gM Z (gM Z (gM Z (kZ [6,109,112] Z (gM Z (eK 2 Z (oN (tN (rT (bR (tR (eR ?_))))))))))))))
   ·exact retB (by grind [stmtW, lens])
  refine eZ Z (gY Z (eZ Z (gY Z (eK 3 Z ?_))))
  refine WO_guard Z Z Z Z (lt_of Z) (fun h9 => ?_) (fun h9 => ?_)
  rotate_left
  ·
   simp only [HS] at h9
   refine gM Z (gM Z (kZ [6,109,112] Z (gM Z (eK 2 Z (oN (tN (rT (bR (tR (eR ?_))))))))))
   ·exact retB (by grind [stmtW, lens])
  simp only [HS] at h9
  refine eZ Z (gY Z (eZ Z (kZ [6,109,111] Z (gY Z (evE ?_)))))
  refine gY Z (eK 3 Z (oN (tN (rT (bR (tR (eR ?_)))))))
  ·exact retB (by grind [stmtW, lens])
 simp only [HS] at h7
 refine W_skip (bN (tN (sQ (kY [6] Z (rG (eZ Z (oN (tN (rT (eR ?_))))))))))
 ·exact retB (by grind [stmtW, lens])
theorem isStmt_fun (f : Func) (s : Stmt) (ps : List Int) (hs : s.ok 1048576) (hn : 0 ≤ s.n) (hv : 0 ≤ f.vars ∧ f.vars ≤ 6) (hp : PsOk ps) : Fun Tryz.prog 174 [.t f.tt, .t s.tt, .t (T.ints ps)] (tupD [.t (.bool (stmtG f.vars ps s))]) := by
 have hp1 := hp.1
 have hs1 : s.ex.length ≤ 1048576 := hs.1
 have hs2 : s.thn.length ≤ 1048576 := hs.2.1
 have hs3 : s.els.length ≤ 1048576 := hs.2.2.1
 refine Fun.begin tys Tryz.func174 Z Z (N := 97) [(0, .t f.tt), (1, .t s.tt), (2, .t (T.ints ps))] Z Z (fun w0 G F0 => ?_)
 refine sQ (rG (WO_box Z Z (lt_of Z) Z Z (nZ Z (WO_box Z Z (lt_of Z) Z Z (nZ Z (eZ Z (oN (tN (sQ (sQ (rG (eK 2 Z (callB ?_)))))))))))))
 refine ⟨_, within_fun _ _ _, rfl, ?_⟩
 refine eK 2 Z ?_
 refine WO_guard Z Z Z Z (lt_of Z) (fun h1 => ?_) (fun h1 => ?_)
 rotate_left
 ·
  simp only [HS] at h1
  refine gM Z (kZ [2,3,4,6,11,13] Z (gM Z (gM Z (gM Z (gM Z (gM Z (gM Z (gM Z (eK 2 Z (kZ [2,3,4,6,22] Z (gM Z (gM Z (gM Z (gM Z (gM Z ?_)))))))))))))))
  refine gM Z (gM Z (gM Z (gM Z (kZ [2,3,4,6,22,31] Z (gM Z (gM Z (gM Z (gM Z (gM Z (eZ Z (oN (tN (W_condT Z (sQ (rG ?_)))))))))))))))
  refine eZ Z (oN (tN (rT (tR (eR ?_)))))
  ·have hh := highI_pos f.vars ps s.ex
   exact retB (by grind [stmtG, stmtW, lens, atI_at])
 simp only [HS] at h1
 refine eZ Z (gY Z (eZ Z (kZ [2,3,4,6,11,13] Z (gY Z (eZ Z (gY Z (eZ Z ?_)))))))
 refine WO_guard Z Z Z Z (lt_of Z) (fun h2 => ?_) (fun h2 => ?_)
 rotate_left
 ·
  simp only [HS] at h2
  refine gM Z (gM Z (gM Z (gY Z (eK 3 Z (gY Z (eZ Z (kZ [2,3,4,6,22,23] Z (gY Z (eZ Z (gY Z (eZ Z (gY Z (eZ Z ?_)))))))))))))
  refine WO_guard Z Z Z Z (lt_of Z) (fun h3 => ?_) (fun h3 => ?_)
  rotate_left
  ·
   simp only [HS] at h3
   refine gM Z (gM Z (gY Z (eZ Z (gY Z (eZ Z (gM Z (gM Z (kZ [2,3,4,6,22,31,33] Z (gM Z (gM Z (gY Z (eK 2 Z (oN (tN (W_condF Z ?_)))))))))))))))
   refine W_skip (tN (sQ (sQ (rG (eK 2 Z (oN (tN (W_block (sQ (rG (eK 2 Z (oN (tN ?_)))))))))))))
   refine W_cond Z (fun h4 => ?_) (fun h4 => ?_)
   ·
    simp only [HS] at h4
    refine sQ (kY [2,3,4,6] Z (rG (eK 2 Z (evE ?_))))
    refine eK 2 Z ?_
    refine WO_guard Z Z Z Z (lt_of Z) (fun h5 => ?_) (fun h5 => ?_)
    rotate_left
    ·
     simp only [HS] at h5
     refine gM Z (gM Z (gM Z (gM Z (kZ [2,3,4,6,49,53,54] Z (gM Z (gM Z (gM Z (gM Z (gM Z (gM Z (gM Z (gM Z (gM Z (kZ [2,3,4,6,49,53,60,61,63] Z (gM Z ?_)))))))))))))))
     refine gM Z (gM Z (gM Z (gM Z (eK 2 Z (oN (tN (rT (bR (tR (eR ?_))))))))))
     ·have hh := highI_pos f.vars ps s.ex
      exact retB (by grind [stmtG, stmtW, lens, atI_at])
    simp only [HS] at h5
    refine eZ Z (gY Z (eZ Z (gY Z (eZ Z (gY Z (eZ Z (kZ [2,3,4,6,49,53] Z ?_)))))))
    refine WO_guard Z Z Z Z (lt_of Z) (fun h6 => ?_) (fun h6 => ?_)
    rotate_left
    ·
     simp only [HS] at h6
     refine gM Z (gM Z (gM Z (gM Z (gM Z (gM Z (gM Z (gM Z (gM Z (kZ [2,3,4,6,49,53,60,61,63] Z (gM Z (gM Z (gM Z (gM Z (gY Z (eK 3 Z ?_)))))))))))))))
     refine oN (tN (rT (bR (tR (eR ?_)))))
     ·have hh := highI_pos f.vars ps s.ex
      exact retB (by grind [stmtG, stmtW, lens, atI_at])
    simp only [HS] at h6
    refine eZ Z (gY Z (eZ Z (gY Z (eZ Z (gY Z (evE ?_))))))
    refine gY Z (evI ?_)
    refine gY Z (callB ?_)
    refine ⟨_, within_fun _ _ _, rfl, ?_⟩
    refine gY Z (eZ Z ?_)
    refine WO_guard Z Z Z Z (lt_of Z) (fun h7 => ?_) (fun h7 => ?_)
    rotate_left
    ·
     simp only [HS] at h7
     refine gM Z (gM Z (kZ [2,3,4,6,49,53,60,61,63] Z (gM Z (gM Z (gM Z (gY Z (eZ Z (gY Z (eK 3 Z (oN (tN (rT (bR (tR (eR ?_)))))))))))))))
     ·have hh := highI_pos f.vars ps s.ex
      exact retB (by grind [stmtG, stmtW, lens, atI_at])
    simp only [HS] at h7
    refine eZ Z (gY Z (eZ Z (kZ [2,3,4,6,49,53,60,61,62] Z (gY Z (eZ Z (gY Z (WO_idxT tys Z Z (lt_of Z) Z Z Z Z Z Z Z (by omega) _ (getT _ _ (by omega) (by omega)) (gY Z (eZ Z (gY Z (eZ Z (gY Z (eZ Z (gY Z (eK 3 Z ?_)))))))))))))))
    refine oN (tN (rT (bR (tR (eR ?_)))))
    ·have hh := highI_pos f.vars ps s.ex
     exact retB (by grind [stmtG, stmtW, lens, atI_at])
   simp only [HS] at h4
   refine sQ (kY [2,3,4,6,39] Z (rG (eK 2 Z (oN (tN ?_)))))
   refine W_cond Z (fun h5 => ?_) (fun h5 => ?_)
   ·
    simp only [HS] at h5
    refine sQ (rG (eK 2 Z (evE ?_)))
    refine eK 2 Z ?_
    refine WO_guard Z Z Z Z (lt_of Z) (fun h6 => ?_) (fun h6 => ?_)
    rotate_left
    ·
     simp only [HS] at h6
     refine gM Z (gM Z (kZ [2,3,4,6,76,79] Z (eK 2 Z (oN (tN (rT (bR (tR (eR ?_)))))))))
     ·have hh := highI_pos f.vars ps s.ex
      exact retB (by grind [stmtG, stmtW, lens, atI_at])
    simp only [HS] at h6
    refine eZ Z (gY Z (eZ Z (kZ [2,3,4,6,76,78] Z (gY Z (eK 3 Z (oN (tN (rT (bR (tR (eR ?_)))))))))))
    ·have hh := highI_pos f.vars ps s.ex
     exact retB (by grind [stmtG, stmtW, lens, atI_at])
   simp only [HS] at h5
   refine sQ (rG (eK 2 Z (oN (tN ?_))))
   refine W_cond Z (fun h6 => ?_) (fun h6 => ?_)
   ·
    simp only [HS] at h6
    refine sQ (rG (eK 4 Z (evI ?_)))
    refine kZ [2,3,4,6,84,87] Z (callB ?_)
    refine ⟨_, within_fun _ _ _, rfl, ?_⟩
    refine eZ Z (oN (tN ?_))
    refine W_cond Z (fun h7 => ?_) (fun h7 => ?_)
    ·
     simp only [HS] at h7
     refine sQ (rG (eZ Z (oN (tN (rT (bR (tR (eR ?_))))))))
     ·have hh := highI_pos f.vars ps s.ex
      exact retB (by grind [stmtG, stmtW, lens, atI_at])
    simp only [HS] at h7
    refine W_skip (bN (tN (sQ (rG (eK 5 Z (callB ?_))))))
    refine ⟨_, highOf_fun _ _ _ (by omega) hp hs1, rfl, ?_⟩
    refine eZ Z (kZ [6,96] Z (eZ Z (oN (tN (rT (eR ?_))))))
    ·have hh := highI_pos f.vars ps s.ex
     exact retB (by grind [stmtG, stmtW, lens, atI_at])
   simp only [HS] at h6
   refine sQ (rG (eK 3 Z (oN (tN ?_))))
   refine W_cond Z (fun h7 => ?_) (fun h7 => ?_)
   ·
    simp only [HS] at h7
    refine sQ (kY [2,3,4,6] Z (rG (eZ Z (oN (tN (rT (bR (tR (eR ?_)))))))))
    ·have hh := highI_pos f.vars ps s.ex
     exact retB (by grind [stmtG, stmtW, lens, atI_at])
   simp only [HS] at h7
   refine W_skip (bN (tN (sQ (kY [2,3,4,6] Z (rG (eK 5 Z (callB ?_)))))))
   refine ⟨_, highOf_fun _ _ _ (by omega) hp hs1, rfl, ?_⟩
   refine eK 2 Z (oN (tN (rT (eR ?_))))
   ·have hh := highI_pos f.vars ps s.ex
    exact retB (by grind [stmtG, stmtW, lens, atI_at])
  simp only [HS] at h3
  refine eZ Z (gY Z (eZ Z (gY Z (eZ Z (gY Z (eZ Z (gY Z (eZ Z ?_))))))))
  refine WO_guard Z Z Z Z (lt_of Z) (fun h4 => ?_) (fun h4 => ?_)
  rotate_left
  ·
   simp only [HS] at h4
   refine gM Z (kZ [2,3,4,6,22,31,33] Z (gM Z (gM Z (gY Z (eK 2 Z (oN (tN (W_condF Z (W_skip (tN (sQ (sQ (rG (eK 2 Z (oN ?_)))))))))))))))
   refine tN (W_block (sQ (rG (eK 2 Z (oN (tN ?_))))))
   refine W_cond Z (fun h5 => ?_) (fun h5 => ?_)
   ·
    simp only [HS] at h5
    refine sQ (kY [2,3,4,6] Z (rG (eK 2 Z (evE ?_))))
    refine eK 2 Z ?_
    refine WO_guard Z Z Z Z (lt_of Z) (fun h6 => ?_) (fun h6 => ?_)
    rotate_left
    ·
     simp only [HS] at h6
     refine gM Z (gM Z (gM Z (gM Z (kZ [2,3,4,6,49,53,54] Z (gM Z (gM Z (gM Z (gM Z (gM Z (gM Z (gM Z (gM Z (gM Z (kZ [2,3,4,6,49,53,60,61,63] Z (gM Z ?_)))))))))))))))
     refine gM Z (gM Z (gM Z (gM Z (eK 2 Z (oN (tN (rT (bR (tR (eR ?_))))))))))
     ·have hh := highI_pos f.vars ps s.ex
      exact retB (by grind [stmtG, stmtW, lens, atI_at])
    simp only [HS] at h6
    refine eZ Z (gY Z (eZ Z (gY Z (eZ Z (gY Z (eZ Z (kZ [2,3,4,6,49,53] Z ?_)))))))
    refine WO_guard Z Z Z Z (lt_of Z) (fun h7 => ?_) (fun h7 => ?_)
    rotate_left
    ·
     simp only [HS] at h7
     refine gM Z (gM Z (gM Z (gM Z (gM Z (gM Z (gM Z (gM Z (gM Z (kZ [2,3,4,6,49,53,60,61,63] Z (gM Z (gM Z (gM Z (gM Z (gY Z (eK 3 Z ?_)))))))))))))))
     refine oN (tN (rT (bR (tR (eR ?_)))))
     ·have hh := highI_pos f.vars ps s.ex
      exact retB (by grind [stmtG, stmtW, lens, atI_at])
    simp only [HS] at h7
    refine eZ Z (gY Z (eZ Z (gY Z (eZ Z (gY Z (evE ?_))))))
    refine gY Z (evI ?_)
    refine gY Z (callB ?_)
    refine ⟨_, within_fun _ _ _, rfl, ?_⟩
    refine gY Z (eZ Z ?_)
    refine WO_guard Z Z Z Z (lt_of Z) (fun h8 => ?_) (fun h8 => ?_)
    rotate_left
    ·
     simp only [HS] at h8
     refine gM Z (gM Z (kZ [2,3,4,6,49,53,60,61,63] Z (gM Z (gM Z (gM Z (gY Z (eZ Z (gY Z (eK 3 Z (oN (tN (rT (bR (tR (eR ?_)))))))))))))))
     ·have hh := highI_pos f.vars ps s.ex
      exact retB (by grind [stmtG, stmtW, lens, atI_at])
    simp only [HS] at h8
    refine eZ Z (gY Z (eZ Z (kZ [2,3,4,6,49,53,60,61,62] Z (gY Z (eZ Z (gY Z (WO_idxT tys Z Z (lt_of Z) Z Z Z Z Z Z Z (by omega) _ (getT _ _ (by omega) (by omega)) (gY Z (eZ Z (gY Z (eZ Z (gY Z (eZ Z (gY Z (eK 3 Z ?_)))))))))))))))
    refine oN (tN (rT (bR (tR (eR ?_)))))
    ·have hh := highI_pos f.vars ps s.ex
     exact retB (by grind [stmtG, stmtW, lens, atI_at])
   simp only [HS] at h5
   refine sQ (kY [2,3,4,6,39] Z (rG (eK 2 Z (oN (tN ?_)))))
   refine W_cond Z (fun h6 => ?_) (fun h6 => ?_)
   ·
    simp only [HS] at h6
    refine sQ (rG (eK 2 Z (evE ?_)))
    refine eK 2 Z ?_
    refine WO_guard Z Z Z Z (lt_of Z) (fun h7 => ?_) (fun h7 => ?_)
    rotate_left
    ·
     simp only [HS] at h7
     refine gM Z (gM Z (kZ [2,3,4,6,76,79] Z (eK 2 Z (oN (tN (rT (bR (tR (eR ?_)))))))))
     ·have hh := highI_pos f.vars ps s.ex
      exact retB (by grind [stmtG, stmtW, lens, atI_at])
    simp only [HS] at h7
    refine eZ Z (gY Z (eZ Z (kZ [2,3,4,6,76,78] Z (gY Z (eK 3 Z (oN (tN (rT (bR (tR (eR ?_)))))))))))
    ·have hh := highI_pos f.vars ps s.ex
     exact retB (by grind [stmtG, stmtW, lens, atI_at])
   simp only [HS] at h6
   refine sQ (rG (eK 2 Z (oN (tN ?_))))
   refine W_cond Z (fun h7 => ?_) (fun h7 => ?_)
   ·
    simp only [HS] at h7
    refine sQ (rG (eK 4 Z (evI ?_)))
    refine kZ [2,3,4,6,84,87] Z (callB ?_)
    refine ⟨_, within_fun _ _ _, rfl, ?_⟩
    refine eZ Z (oN (tN ?_))
    refine W_cond Z (fun h8 => ?_) (fun h8 => ?_)
    ·
     simp only [HS] at h8
     refine sQ (rG (eZ Z (oN (tN (rT (bR (tR (eR ?_))))))))
     ·have hh := highI_pos f.vars ps s.ex
      exact retB (by grind [stmtG, stmtW, lens, atI_at])
    simp only [HS] at h8
    refine W_skip (bN (tN (sQ (rG (eK 5 Z (callB ?_))))))
    refine ⟨_, highOf_fun _ _ _ (by omega) hp hs1, rfl, ?_⟩
    refine eZ Z (kZ [6,96] Z (eZ Z (oN (tN (rT (eR ?_))))))
    ·have hh := highI_pos f.vars ps s.ex
     exact retB (by grind [stmtG, stmtW, lens, atI_at])
   simp only [HS] at h7
   refine sQ (rG (eK 3 Z (oN (tN ?_))))
   refine W_cond Z (fun h8 => ?_) (fun h8 => ?_)
   ·
    simp only [HS] at h8
    refine sQ (kY [2,3,4,6] Z (rG (eZ Z (oN (tN (rT (bR (tR (eR ?_)))))))))
    ·have hh := highI_pos f.vars ps s.ex
     exact retB (by grind [stmtG, stmtW, lens, atI_at])
   simp only [HS] at h8
   refine W_skip (bN (tN (sQ (kY [2,3,4,6] Z (rG (eK 5 Z (callB ?_)))))))
   refine ⟨_, highOf_fun _ _ _ (by omega) hp hs1, rfl, ?_⟩
   refine eK 2 Z (oN (tN (rT (eR ?_))))
   ·have hh := highI_pos f.vars ps s.ex
    exact retB (by grind [stmtG, stmtW, lens, atI_at])
  simp only [HS] at h4
  refine eZ Z (gY Z (eZ Z (kZ [2,3,4,6,22,31,33] Z (gY Z (evE ?_)))))
  refine gY Z (eZ Z (gY Z (eK 2 Z (oN (tN ?_)))))
  refine W_cond Z (fun h5 => ?_) (fun h5 => ?_)
  ·
   simp only [HS] at h5
   refine sQ (rG (eZ Z (oN (tN (rT (tR (eR ?_)))))))
   ·have hh := highI_pos f.vars ps s.ex
    exact retB (by grind [stmtG, stmtW, lens, atI_at])
  simp only [HS] at h5
  refine W_skip (tN (sQ (sQ (rG (eK 2 Z (oN (tN (W_block (sQ (rG (eK 2 Z (oN (tN ?_)))))))))))))
  refine W_cond Z (fun h6 => ?_) (fun h6 => ?_)
  ·
   simp only [HS] at h6
   refine sQ (kY [2,3,4,6] Z (rG (eK 2 Z (evE ?_))))
   refine eK 2 Z ?_
   refine WO_guard Z Z Z Z (lt_of Z) (fun h7 => ?_) (fun h7 => ?_)
   rotate_left
   ·
    simp only [HS] at h7
    refine gM Z (gM Z (gM Z (gM Z (kZ [2,3,4,6,49,53,54] Z (gM Z (gM Z (gM Z (gM Z (gM Z (gM Z (gM Z (gM Z (gM Z (kZ [2,3,4,6,49,53,60,61,63] Z (gM Z ?_)))))))))))))))
    refine gM Z (gM Z (gM Z (gM Z (eK 2 Z (oN (tN (rT (bR (tR (eR ?_))))))))))
    ·have hh := highI_pos f.vars ps s.ex
     exact retB (by grind [stmtG, stmtW, lens, atI_at])
   simp only [HS] at h7
   refine eZ Z (gY Z (eZ Z (gY Z (eZ Z (gY Z (eZ Z (kZ [2,3,4,6,49,53] Z ?_)))))))
   refine WO_guard Z Z Z Z (lt_of Z) (fun h8 => ?_) (fun h8 => ?_)
   rotate_left
   ·
    simp only [HS] at h8
    refine gM Z (gM Z (gM Z (gM Z (gM Z (gM Z (gM Z (gM Z (gM Z (kZ [2,3,4,6,49,53,60,61,63] Z (gM Z (gM Z (gM Z (gM Z (gY Z (eK 3 Z ?_)))))))))))))))
    refine oN (tN (rT (bR (tR (eR ?_)))))
    ·have hh := highI_pos f.vars ps s.ex
     exact retB (by grind [stmtG, stmtW, lens, atI_at])
   simp only [HS] at h8
   refine eZ Z (gY Z (eZ Z (gY Z (eZ Z (gY Z (evE ?_))))))
   refine gY Z (evI ?_)
   refine gY Z (callB ?_)
   refine ⟨_, within_fun _ _ _, rfl, ?_⟩
   refine gY Z (eZ Z ?_)
   refine WO_guard Z Z Z Z (lt_of Z) (fun h9 => ?_) (fun h9 => ?_)
   rotate_left
   ·
    simp only [HS] at h9
    refine gM Z (gM Z (kZ [2,3,4,6,49,53,60,61,63] Z (gM Z (gM Z (gM Z (gY Z (eZ Z (gY Z (eK 3 Z (oN (tN (rT (bR (tR (eR ?_)))))))))))))))
    ·have hh := highI_pos f.vars ps s.ex
     exact retB (by grind [stmtG, stmtW, lens, atI_at])
   simp only [HS] at h9
   refine eZ Z (gY Z (eZ Z (kZ [2,3,4,6,49,53,60,61,62] Z (gY Z (eZ Z (gY Z (WO_idxT tys Z Z (lt_of Z) Z Z Z Z Z Z Z (by omega) _ (getT _ _ (by omega) (by omega)) (gY Z (eZ Z (gY Z (eZ Z (gY Z (eZ Z (gY Z (eK 3 Z ?_)))))))))))))))
   refine oN (tN (rT (bR (tR (eR ?_)))))
   ·have hh := highI_pos f.vars ps s.ex
    exact retB (by grind [stmtG, stmtW, lens, atI_at])
  simp only [HS] at h6
  refine sQ (kY [2,3,4,6,39] Z (rG (eK 2 Z (oN (tN ?_)))))
  refine W_cond Z (fun h7 => ?_) (fun h7 => ?_)
  ·
   simp only [HS] at h7
   refine sQ (rG (eK 2 Z (evE ?_)))
   refine eK 2 Z ?_
   refine WO_guard Z Z Z Z (lt_of Z) (fun h8 => ?_) (fun h8 => ?_)
   rotate_left
   ·
    simp only [HS] at h8
    refine gM Z (gM Z (kZ [2,3,4,6,76,79] Z (eK 2 Z (oN (tN (rT (bR (tR (eR ?_)))))))))
    ·have hh := highI_pos f.vars ps s.ex
     exact retB (by grind [stmtG, stmtW, lens, atI_at])
   simp only [HS] at h8
   refine eZ Z (gY Z (eZ Z (kZ [2,3,4,6,76,78] Z (gY Z (eK 3 Z (oN (tN (rT (bR (tR (eR ?_)))))))))))
   ·have hh := highI_pos f.vars ps s.ex
    exact retB (by grind [stmtG, stmtW, lens, atI_at])
  simp only [HS] at h7
  refine sQ (rG (eK 2 Z (oN (tN ?_))))
  refine W_cond Z (fun h8 => ?_) (fun h8 => ?_)
  ·
   simp only [HS] at h8
   refine sQ (rG (eK 4 Z (evI ?_)))
   refine kZ [2,3,4,6,84,87] Z (callB ?_)
   refine ⟨_, within_fun _ _ _, rfl, ?_⟩
   refine eZ Z (oN (tN ?_))
   refine W_cond Z (fun h9 => ?_) (fun h9 => ?_)
   ·
    simp only [HS] at h9
    refine sQ (rG (eZ Z (oN (tN (rT (bR (tR (eR ?_))))))))
    ·have hh := highI_pos f.vars ps s.ex
     exact retB (by grind [stmtG, stmtW, lens, atI_at])
   simp only [HS] at h9
   refine W_skip (bN (tN (sQ (rG (eK 5 Z (callB ?_))))))
   refine ⟨_, highOf_fun _ _ _ (by omega) hp hs1, rfl, ?_⟩
   refine eZ Z (kZ [6,96] Z (eZ Z (oN (tN (rT (eR ?_))))))
   ·have hh := highI_pos f.vars ps s.ex
    exact retB (by grind [stmtG, stmtW, lens, atI_at])
  simp only [HS] at h8
  refine sQ (rG (eK 3 Z (oN (tN ?_))))
  refine W_cond Z (fun h9 => ?_) (fun h9 => ?_)
  ·
   simp only [HS] at h9
   refine sQ (kY [2,3,4,6] Z (rG (eZ Z (oN (tN (rT (bR (tR (eR ?_)))))))))
   ·have hh := highI_pos f.vars ps s.ex
    exact retB (by grind [stmtG, stmtW, lens, atI_at])
  simp only [HS] at h9
  refine W_skip (bN (tN (sQ (kY [2,3,4,6] Z (rG (eK 5 Z (callB ?_)))))))
  refine ⟨_, highOf_fun _ _ _ (by omega) hp hs1, rfl, ?_⟩
  refine eK 2 Z (oN (tN (rT (eR ?_))))
  ·have hh := highI_pos f.vars ps s.ex
   exact retB (by grind [stmtG, stmtW, lens, atI_at])
 simp only [HS] at h2
 refine eZ Z (gY Z (eZ Z (gY Z (evE ?_))))
 refine gY Z (eZ Z (gY Z (eK 3 Z (kZ [2,3,4,6,22] Z ?_))))
 refine WO_guard Z Z Z Z (lt_of Z) (fun h3 => ?_) (fun h3 => ?_)
 rotate_left
 ·
  simp only [HS] at h3
  refine gM Z (gM Z (gM Z (gM Z (gM Z (gM Z (gM Z (gM Z (gM Z (kZ [2,3,4,6,22,31,32] Z (gM Z (gM Z (gM Z (gM Z (eZ Z (oN ?_)))))))))))))))
  refine tN (W_condT Z (sQ (rG (eZ Z (oN (tN (rT (tR (eR ?_)))))))))
  ·have hh := highI_pos f.vars ps s.ex
   exact retB (by grind [stmtG, stmtW, lens, atI_at])
 simp only [HS] at h3
 refine eZ Z (gY Z (eZ Z (gY Z (eZ Z (gY Z (eZ Z ?_))))))
 refine WO_guard Z Z Z Z (lt_of Z) (fun h4 => ?_) (fun h4 => ?_)
 rotate_left
 ·
  simp only [HS] at h4
  refine gM Z (gM Z (gY Z (eZ Z (gY Z (eZ Z (gM Z (kZ [2,3,4,6,22,31,32] Z (gM Z (gM Z (gM Z (gY Z (eK 2 Z (oN (tN (W_condF Z ?_)))))))))))))))
  refine W_skip (tN (sQ (sQ (rG (eK 2 Z (oN (tN (W_block (sQ (kY [2,3,4,6,39] Z (rG (eK 2 Z (oN (tN ?_))))))))))))))
  refine W_cond Z (fun h5 => ?_) (fun h5 => ?_)
  ·
   simp only [HS] at h5
   refine sQ (rG (eK 2 Z (evE ?_)))
   refine eK 2 Z ?_
   refine WO_guard Z Z Z Z (lt_of Z) (fun h6 => ?_) (fun h6 => ?_)
   rotate_left
   ·
    simp only [HS] at h6
    refine gM Z (gM Z (kZ [2,3,4,6,49,52] Z (gM Z (gM Z (gM Z (gM Z (gM Z (gM Z (gM Z (gM Z (gM Z (kZ [2,3,4,6,49,53,60,61] Z (gM Z (gM Z (gM Z ?_)))))))))))))))
    refine gM Z (gM Z (gM Z (gM Z (eK 2 Z (kZ [2,3,4,6] Z (oN (tN (rT (bR (tR (eR ?_)))))))))))
    ·have hh := highI_pos f.vars ps s.ex
     exact retB (by grind [stmtG, stmtW, lens, atI_at])
   simp only [HS] at h6
   refine eZ Z (gY Z (eZ Z (kZ [2,3,4,6,49,51] Z (gY Z (eZ Z (gY Z (eZ Z ?_)))))))
   refine WO_guard Z Z Z Z (lt_of Z) (fun h7 => ?_) (fun h7 => ?_)
   rotate_left
   ·
    simp only [HS] at h7
    refine gM Z (gM Z (gM Z (gM Z (gM Z (gM Z (gM Z (kZ [2,3,4,6,49,53,60,61] Z (gM Z (gM Z (gM Z (gM Z (gM Z (gM Z (gY Z (eK 3 Z ?_)))))))))))))))
    refine kZ [2,3,4,6] Z (oN (tN (rT (bR (tR (eR ?_))))))
    ·have hh := highI_pos f.vars ps s.ex
     exact retB (by grind [stmtG, stmtW, lens, atI_at])
   simp only [HS] at h7
   refine eZ Z (gY Z (eZ Z (gY Z (eZ Z (gY Z (evE ?_))))))
   refine gY Z (evI ?_)
   refine gY Z (callB ?_)
   refine ⟨_, within_fun _ _ _, rfl, ?_⟩
   refine gY Z (eZ Z (kZ [2,3,4,6,49,53,60] Z ?_))
   refine WO_guard Z Z Z Z (lt_of Z) (fun h8 => ?_) (fun h8 => ?_)
   rotate_left
   ·
    simp only [HS] at h8
    refine gM Z (gM Z (gM Z (gM Z (gM Z (gY Z (eZ Z (gY Z (eK 3 Z (kZ [2,3,4,6] Z (oN (tN (rT (bR (tR (eR ?_)))))))))))))))
    ·have hh := highI_pos f.vars ps s.ex
     exact retB (by grind [stmtG, stmtW, lens, atI_at])
   simp only [HS] at h8
   refine eZ Z (gY Z (eZ Z (gY Z (eZ Z (gY Z (WO_idxT tys Z Z (lt_of Z) Z Z Z Z Z Z Z (by omega) _ (getT _ _ (by omega) (by omega)) (gY Z (eZ Z (gY Z (eZ Z (gY Z (eZ Z (gY Z (eK 2 Z (kZ [2,3,4,6,69] Z ?_)))))))))))))))
   refine eZ Z (oN (tN (rT (bR (tR (eR ?_))))))
   ·have hh := highI_pos f.vars ps s.ex
    exact retB (by grind [stmtG, stmtW, lens, atI_at])
  simp only [HS] at h5
  refine sQ (rG (eK 2 Z (oN (tN ?_))))
  refine W_cond Z (fun h6 => ?_) (fun h6 => ?_)
  ·
   simp only [HS] at h6
   refine sQ (rG (eK 2 Z (evE ?_)))
   refine eK 2 Z (kZ [2,3,4,6,76] Z ?_)
   refine WO_guard Z Z Z Z (lt_of Z) (fun h7 => ?_) (fun h7 => ?_)
   rotate_left
   ·
    simp only [HS] at h7
    refine gM Z (gM Z (eK 2 Z (oN (tN (rT (bR (tR (eR ?_))))))))
    ·have hh := highI_pos f.vars ps s.ex
     exact retB (by grind [stmtG, stmtW, lens, atI_at])
   simp only [HS] at h7
   refine eZ Z (gY Z (eZ Z (gY Z (eK 3 Z (oN (tN (rT (bR (tR (eR ?_))))))))))
   ·have hh := highI_pos f.vars ps s.ex
    exact retB (by grind [stmtG, stmtW, lens, atI_at])
  simp only [HS] at h6
  refine sQ (rG (eK 2 Z (oN (tN ?_))))
  refine W_cond Z (fun h7 => ?_) (fun h7 => ?_)
  ·
   simp only [HS] at h7
   refine sQ (rG (eK 3 Z (kZ [2,3,4,6,84,85] Z (eZ Z (evI ?_)))))
   refine callB ?_
   refine ⟨_, within_fun _ _ _, rfl, ?_⟩
   refine eZ Z (oN (tN ?_))
   refine W_cond Z (fun h8 => ?_) (fun h8 => ?_)
   ·
    simp only [HS] at h8
    refine sQ (rG (eZ Z (oN (tN (rT (bR (tR (eR ?_))))))))
    ·have hh := highI_pos f.vars ps s.ex
     exact retB (by grind [stmtG, stmtW, lens, atI_at])
   simp only [HS] at h8
   refine W_skip (bN (tN (sQ (rG (eK 5 Z (kZ [6,91,93,94] Z (callB ?_)))))))
   refine ⟨_, highOf_fun _ _ _ (by omega) hp hs1, rfl, ?_⟩
   refine eK 2 Z (oN (tN (rT (eR ?_))))
   ·have hh := highI_pos f.vars ps s.ex
    exact retB (by grind [stmtG, stmtW, lens, atI_at])
  simp only [HS] at h7
  refine sQ (rG (eK 3 Z (kZ [2,3,4,6,42] Z (oN (tN ?_)))))
  refine W_cond Z (fun h8 => ?_) (fun h8 => ?_)
  ·
   simp only [HS] at h8
   refine sQ (rG (eZ Z (oN (tN (rT (bR (tR (eR ?_))))))))
   ·have hh := highI_pos f.vars ps s.ex
    exact retB (by grind [stmtG, stmtW, lens, atI_at])
  simp only [HS] at h8
  refine W_skip (bN (tN (sQ (rG (eK 5 Z (callB ?_))))))
  refine ⟨_, highOf_fun _ _ _ (by omega) hp hs1, rfl, ?_⟩
  refine eK 2 Z (oN (tN (rT (eR ?_))))
  ·have hh := highI_pos f.vars ps s.ex
   exact retB (by grind [stmtG, stmtW, lens, atI_at])
 simp only [HS] at h4
 refine eZ Z (gY Z (eZ Z (gY Z (eZ Z (gY Z (eZ Z (gY Z (eZ Z (kZ [2,3,4,6,22,31] Z ?_)))))))))
 refine WO_guard Z Z Z Z (lt_of Z) (fun h5 => ?_) (fun h5 => ?_)
 rotate_left
 ·
  simp only [HS] at h5
  refine gM Z (gM Z (gM Z (gY Z (eK 2 Z (oN (tN (W_condF Z (W_skip (tN (sQ (sQ (rG (eK 2 Z (oN (tN ?_)))))))))))))))
  refine W_block (sQ (kY [2,3,4,6,39] Z (rG (eK 2 Z (oN (tN ?_))))))
  refine W_cond Z (fun h6 => ?_) (fun h6 => ?_)
  ·
   simp only [HS] at h6
   refine sQ (rG (eK 2 Z (evE ?_)))
   refine eK 2 Z ?_
   refine WO_guard Z Z Z Z (lt_of Z) (fun h7 => ?_) (fun h7 => ?_)
   rotate_left
   ·
    simp only [HS] at h7
    refine gM Z (gM Z (kZ [2,3,4,6,49,52] Z (gM Z (gM Z (gM Z (gM Z (gM Z (gM Z (gM Z (gM Z (gM Z (kZ [2,3,4,6,49,53,60,61] Z (gM Z (gM Z (gM Z ?_)))))))))))))))
    refine gM Z (gM Z (gM Z (gM Z (eK 2 Z (kZ [2,3,4,6] Z (oN (tN (rT (bR (tR (eR ?_)))))))))))
    ·have hh := highI_pos f.vars ps s.ex
     exact retB (by grind [stmtG, stmtW, lens, atI_at])
   simp only [HS] at h7
   refine eZ Z (gY Z (eZ Z (kZ [2,3,4,6,49,51] Z (gY Z (eZ Z (gY Z (eZ Z ?_)))))))
   refine WO_guard Z Z Z Z (lt_of Z) (fun h8 => ?_) (fun h8 => ?_)
   rotate_left
   ·
    simp only [HS] at h8
    refine gM Z (gM Z (gM Z (gM Z (gM Z (gM Z (gM Z (kZ [2,3,4,6,49,53,60,61] Z (gM Z (gM Z (gM Z (gM Z (gM Z (gM Z (gY Z (eK 3 Z ?_)))))))))))))))
    refine kZ [2,3,4,6] Z (oN (tN (rT (bR (tR (eR ?_))))))
    ·have hh := highI_pos f.vars ps s.ex
     exact retB (by grind [stmtG, stmtW, lens, atI_at])
   simp only [HS] at h8
   refine eZ Z (gY Z (eZ Z (gY Z (eZ Z (gY Z (evE ?_))))))
   refine gY Z (evI ?_)
   refine gY Z (callB ?_)
   refine ⟨_, within_fun _ _ _, rfl, ?_⟩
   refine gY Z (eZ Z (kZ [2,3,4,6,49,53,60] Z ?_))
   refine WO_guard Z Z Z Z (lt_of Z) (fun h9 => ?_) (fun h9 => ?_)
   rotate_left
   ·
    simp only [HS] at h9
    refine gM Z (gM Z (gM Z (gM Z (gM Z (gY Z (eZ Z (gY Z (eK 3 Z (kZ [2,3,4,6] Z (oN (tN (rT (bR (tR (eR ?_)))))))))))))))
    ·have hh := highI_pos f.vars ps s.ex
     exact retB (by grind [stmtG, stmtW, lens, atI_at])
   simp only [HS] at h9
   refine eZ Z (gY Z (eZ Z (gY Z (eZ Z (gY Z (WO_idxT tys Z Z (lt_of Z) Z Z Z Z Z Z Z (by omega) _ (getT _ _ (by omega) (by omega)) (gY Z (eZ Z (gY Z (eZ Z (gY Z (eZ Z (gY Z (eK 2 Z (kZ [2,3,4,6,69] Z ?_)))))))))))))))
   refine eZ Z (oN (tN (rT (bR (tR (eR ?_))))))
   ·have hh := highI_pos f.vars ps s.ex
    exact retB (by grind [stmtG, stmtW, lens, atI_at])
  simp only [HS] at h6
  refine sQ (rG (eK 2 Z (oN (tN ?_))))
  refine W_cond Z (fun h7 => ?_) (fun h7 => ?_)
  ·
   simp only [HS] at h7
   refine sQ (rG (eK 2 Z (evE ?_)))
   refine eK 2 Z (kZ [2,3,4,6,76] Z ?_)
   refine WO_guard Z Z Z Z (lt_of Z) (fun h8 => ?_) (fun h8 => ?_)
   rotate_left
   ·
    simp only [HS] at h8
    refine gM Z (gM Z (eK 2 Z (oN (tN (rT (bR (tR (eR ?_))))))))
    ·have hh := highI_pos f.vars ps s.ex
     exact retB (by grind [stmtG, stmtW, lens, atI_at])
   simp only [HS] at h8
   refine eZ Z (gY Z (eZ Z (gY Z (eK 3 Z (oN (tN (rT (bR (tR (eR ?_))))))))))
   ·have hh := highI_pos f.vars ps s.ex
    exact retB (by grind [stmtG, stmtW, lens, atI_at])
  simp only [HS] at h7
  refine sQ (rG (eK 2 Z (oN (tN ?_))))
  refine W_cond Z (fun h8 => ?_) (fun h8 => ?_)
  ·
   simp only [HS] at h8
   refine sQ (rG (eK 3 Z (kZ [2,3,4,6,84,85] Z (eZ Z (evI ?_)))))
   refine callB ?_
   refine ⟨_, within_fun _ _ _, rfl, ?_⟩
   refine eZ Z (oN (tN ?_))
   refine W_cond Z (fun h9 => ?_) (fun h9 => ?_)
   ·
    simp only [HS] at h9
    refine sQ (rG (eZ Z (oN (tN (rT (bR (tR (eR ?_))))))))
    ·have hh := highI_pos f.vars ps s.ex
     exact retB (by grind [stmtG, stmtW, lens, atI_at])
   simp only [HS] at h9
   refine W_skip (bN (tN (sQ (rG (eK 5 Z (kZ [6,91,93,94] Z (callB ?_)))))))
   refine ⟨_, highOf_fun _ _ _ (by omega) hp hs1, rfl, ?_⟩
   refine eK 2 Z (oN (tN (rT (eR ?_))))
   ·have hh := highI_pos f.vars ps s.ex
    exact retB (by grind [stmtG, stmtW, lens, atI_at])
  simp only [HS] at h8
  refine sQ (rG (eK 3 Z (kZ [2,3,4,6,42] Z (oN (tN ?_)))))
  refine W_cond Z (fun h9 => ?_) (fun h9 => ?_)
  ·
   simp only [HS] at h9
   refine sQ (rG (eZ Z (oN (tN (rT (bR (tR (eR ?_))))))))
   ·have hh := highI_pos f.vars ps s.ex
    exact retB (by grind [stmtG, stmtW, lens, atI_at])
  simp only [HS] at h9
  refine W_skip (bN (tN (sQ (rG (eK 5 Z (callB ?_))))))
  refine ⟨_, highOf_fun _ _ _ (by omega) hp hs1, rfl, ?_⟩
  refine eK 2 Z (oN (tN (rT (eR ?_))))
  ·have hh := highI_pos f.vars ps s.ex
   exact retB (by grind [stmtG, stmtW, lens, atI_at])
 simp only [HS] at h5
 refine eZ Z (gY Z (eZ Z (gY Z (evE ?_))))
 refine gY Z (eZ Z (gY Z (eK 2 Z (oN (tN ?_)))))
 refine W_cond Z (fun h6 => ?_) (fun h6 => ?_)
 ·
  simp only [HS] at h6
  refine sQ (rG (eZ Z (oN (tN (rT (tR (eR ?_)))))))
  ·have hh := highI_pos f.vars ps s.ex
   exact retB (by grind [stmtG, stmtW, lens, atI_at])
 simp only [HS] at h6
 refine W_skip (tN (sQ (sQ (rG (eK 2 Z (oN (tN (W_block (sQ (kY [2,3,4,6,39] Z (rG (eK 2 Z (oN (tN ?_))))))))))))))
 refine W_cond Z (fun h7 => ?_) (fun h7 => ?_)
 ·
  simp only [HS] at h7
  refine sQ (rG (eK 2 Z (evE ?_)))
  refine eK 2 Z ?_
  refine WO_guard Z Z Z Z (lt_of Z) (fun h8 => ?_) (fun h8 => ?_)
  rotate_left
  ·
   simp only [HS] at h8
   refine gM Z (gM Z (kZ [2,3,4,6,49,52] Z (gM Z (gM Z (gM Z (gM Z (gM Z (gM Z (gM Z (gM Z (gM Z (kZ [2,3,4,6,49,53,60,61] Z (gM Z (gM Z (gM Z ?_)))))))))))))))
   refine gM Z (gM Z (gM Z (gM Z (eK 2 Z (kZ [2,3,4,6] Z (oN (tN (rT (bR (tR (eR ?_)))))))))))
   ·have hh := highI_pos f.vars ps s.ex
    exact retB (by grind [stmtG, stmtW, lens, atI_at])
  simp only [HS] at h8
  refine eZ Z (gY Z (eZ Z (kZ [2,3,4,6,49,51] Z (gY Z (eZ Z (gY Z (eZ Z ?_)))))))
  refine WO_guard Z Z Z Z (lt_of Z) (fun h9 => ?_) (fun h9 => ?_)
  rotate_left
  ·
   simp only [HS] at h9
   refine gM Z (gM Z (gM Z (gM Z (gM Z (gM Z (gM Z (kZ [2,3,4,6,49,53,60,61] Z (gM Z (gM Z (gM Z (gM Z (gM Z (gM Z (gY Z (eK 3 Z ?_)))))))))))))))
   refine kZ [2,3,4,6] Z (oN (tN (rT (bR (tR (eR ?_))))))
   ·have hh := highI_pos f.vars ps s.ex
    exact retB (by grind [stmtG, stmtW, lens, atI_at])
  simp only [HS] at h9
  refine eZ Z (gY Z (eZ Z (gY Z (eZ Z (gY Z (evE ?_))))))
  refine gY Z (evI ?_)
  refine gY Z (callB ?_)
  refine ⟨_, within_fun _ _ _, rfl, ?_⟩
  refine gY Z (eZ Z (kZ [2,3,4,6,49,53,60] Z ?_))
  refine WO_guard Z Z Z Z (lt_of Z) (fun h10 => ?_) (fun h10 => ?_)
  rotate_left
  ·
   simp only [HS] at h10
   refine gM Z (gM Z (gM Z (gM Z (gM Z (gY Z (eZ Z (gY Z (eK 3 Z (kZ [2,3,4,6] Z (oN (tN (rT (bR (tR (eR ?_)))))))))))))))
   ·have hh := highI_pos f.vars ps s.ex
    exact retB (by grind [stmtG, stmtW, lens, atI_at])
  simp only [HS] at h10
  refine eZ Z (gY Z (eZ Z (gY Z (eZ Z (gY Z (WO_idxT tys Z Z (lt_of Z) Z Z Z Z Z Z Z (by omega) _ (getT _ _ (by omega) (by omega)) (gY Z (eZ Z (gY Z (eZ Z (gY Z (eZ Z (gY Z (eK 2 Z (kZ [2,3,4,6,69] Z ?_)))))))))))))))
  refine eZ Z (oN (tN (rT (bR (tR (eR ?_))))))
  ·have hh := highI_pos f.vars ps s.ex
   exact retB (by grind [stmtG, stmtW, lens, atI_at])
 simp only [HS] at h7
 refine sQ (rG (eK 2 Z (oN (tN ?_))))
 refine W_cond Z (fun h8 => ?_) (fun h8 => ?_)
 ·
  simp only [HS] at h8
  refine sQ (rG (eK 2 Z (evE ?_)))
  refine eK 2 Z (kZ [2,3,4,6,76] Z ?_)
  refine WO_guard Z Z Z Z (lt_of Z) (fun h9 => ?_) (fun h9 => ?_)
  rotate_left
  ·
   simp only [HS] at h9
   refine gM Z (gM Z (eK 2 Z (oN (tN (rT (bR (tR (eR ?_))))))))
   ·have hh := highI_pos f.vars ps s.ex
    exact retB (by grind [stmtG, stmtW, lens, atI_at])
  simp only [HS] at h9
  refine eZ Z (gY Z (eZ Z (gY Z (eK 3 Z (oN (tN (rT (bR (tR (eR ?_))))))))))
  ·have hh := highI_pos f.vars ps s.ex
   exact retB (by grind [stmtG, stmtW, lens, atI_at])
 simp only [HS] at h8
 refine sQ (rG (eK 2 Z (oN (tN ?_))))
 refine W_cond Z (fun h9 => ?_) (fun h9 => ?_)
 ·
  simp only [HS] at h9
  refine sQ (rG (eK 3 Z (kZ [2,3,4,6,84,85] Z (eZ Z (evI ?_)))))
  refine callB ?_
  refine ⟨_, within_fun _ _ _, rfl, ?_⟩
  refine eZ Z (oN (tN ?_))
  refine W_cond Z (fun h10 => ?_) (fun h10 => ?_)
  ·
   simp only [HS] at h10
   refine sQ (rG (eZ Z (oN (tN (rT (bR (tR (eR ?_))))))))
   ·have hh := highI_pos f.vars ps s.ex
    exact retB (by grind [stmtG, stmtW, lens, atI_at])
  simp only [HS] at h10
  refine W_skip (bN (tN (sQ (rG (eK 5 Z (kZ [6,91,93,94] Z (callB ?_)))))))
  refine ⟨_, highOf_fun _ _ _ (by omega) hp hs1, rfl, ?_⟩
  refine eK 2 Z (oN (tN (rT (eR ?_))))
  ·have hh := highI_pos f.vars ps s.ex
   exact retB (by grind [stmtG, stmtW, lens, atI_at])
 simp only [HS] at h9
 refine sQ (rG (eK 3 Z (kZ [2,3,4,6,42] Z (oN (tN ?_)))))
 refine W_cond Z (fun h10 => ?_) (fun h10 => ?_)
 ·
  simp only [HS] at h10
  refine sQ (rG (eZ Z (oN (tN (rT (bR (tR (eR ?_))))))))
  ·have hh := highI_pos f.vars ps s.ex
   exact retB (by grind [stmtG, stmtW, lens, atI_at])
 simp only [HS] at h10
 refine W_skip (bN (tN (sQ (rG (eK 5 Z (callB ?_))))))
 refine ⟨_, highOf_fun _ _ _ (by omega) hp hs1, rfl, ?_⟩
 refine eK 2 Z (oN (tN (rT (eR ?_))))
 ·have hh := highI_pos f.vars ps s.ex
  exact retB (by grind [stmtG, stmtW, lens, atI_at])
theorem idxStmt_fun (l : List Stmt) (p : Stmt → Bool) (f : Nat) (caps : List D) (hcaps : caps.all D.imm = true) (hl : l.length ≤ 9223372036854775807) (hf : ∀ x, x ∈ l → Fun Tryz.prog f (.t x.tt :: caps) (.t (.bool (p x)))) : Fun Tryz.prog 212 [.t (T.Stmts l), .clo f caps] (tupD [.t (.int (idxGo p l 0))]) := by
 refine Fun.begin tys Tryz.func212 Z Z (N := 19) [(0, .t (T.Stmts l)), (1, .clo f caps)] Z Z (fun w0 G F0 => ?_)
 refine sQ (rG (eZ Z (oN (tN (sQ (sQ (rG (eZ Z (evE ?_)))))))))
 refine eZ Z (oN (tN (W_block ?_)))
 refine lK (α := Int) [0, 1, 7] [] (fun x => [(8, .t (.int x))]) (fun x => []) (fun x => 0 ≤ x ∧ x ≤ l.length ∧ idxGo p l 0 = idxGo p (l.drop x.toNat) x) (fun x => Int.toNat (l.length - x)) 0 ?_ (fun k hx => ?_)
 ·exact ⟨by omega, by omega, rfl⟩
 obtain ⟨hk0, hk1, hk2⟩ := hx
 refine nY Z (sQ (rG (eZ Z (oN (tN (sQ ?_))))))
 refine W_cond Z (fun h1 => ?_) (fun h1 => ?_)
 ·
  simp only [HS] at h1
  refine W_skip (tN (sQ (W_block (sQ (rG (eK 2 Z (oN (tN (sQ (rG (WO_moveClo tys Z Z (lt_of Z) Z Z (by assumption) ?_)))))))))))
  refine eK 2 Z (WO_idxT tys Z Z (lt_of Z) Z Z Z Z Z Z Z (by omega) _ (getT _ _ (by omega) (by omega)) (eZ Z ?_))
  try refine WO_le (Le.freeze (u := 15) rfl) ?_
  refine nZ Z ?_
  refine WO_call Z Z (lt_of Z) Z Z (by repeat (first | exact ResL.done | exact ResL.imms (by first | rfl | assumption) | refine ResL.t ?_ | refine ResL.own ?_ | refine ResL.slA Z (by first | rfl | (simp; done) | (simp; omega)) ?_ | refine ResL.sl Z (by first | omega | (simp; done) | (simp; omega)) ?_ | refine ResL.rp ?_ | refine ResL.clo ?_ ?_ | refine ResL.aggT ?_ ?_ | refine ResL.ref Z ?_ ?_ | refine ResL.nil' ?_ | refine ResL.nil 1 ?_)) (hf _ (List.getElem_mem _)) Z ?_
  refine kZ [0,1,5,7,8,9,10,11,12,13,14,15,16] Z (oN (tN ?_))
  refine W_cond Z (fun h2 => ?_) (fun h2 => ?_)
  ·
   refine sQ (rG (eK 2 Z (oN (tN (rT (bR (tR (loopQ_r (bR (tR (eR ?_)))))))))))
   ·rw [hk2, idx_at hk0 h1]
    simp [h2]
    done
  refine W_skip (bN (tN (rG (evI ?_))))
  refine eZ Z (oN ?_)
  refine lQ _ ?_ ?_
  ·skip
   refine ⟨by omega, by omega, ?_⟩; rw [hk2, idx_at hk0 h1]; simp [h2]
  ·(show Int.toNat _ < Int.toNat _); omega
 simp only [HS] at h1
 refine W_exit (tE (loopQ_e (inBlk_y (tN (sQ (rG (eZ Z (oN (tN (rT (eR ?_)))))))))))
 ·rw [hk2, drop_end h1]
  rfl
theorem hasStmt_fun (l : List Stmt) (p : Stmt → Bool) (f : Nat) (caps : List D) (hcaps : caps.all D.imm = true) (hl : l.length ≤ 9223372036854775807) (hf : ∀ x, x ∈ l → Fun Tryz.prog f (.t x.tt :: caps) (.t (.bool (p x)))) : Fun Tryz.prog 172 [.t (T.Stmts l), .clo f caps] (tupD [.t (.bool (l.any p))]) := by
 refine Fun.begin tys Tryz.func172 Z Z (N := 9) [(0, .t (T.Stmts l)), (1, .clo f caps)] Z Z (fun w0 G F0 => ?_)
 refine sQ (rG (eZ Z (oN (tN (sQ (rG (eZ Z (WO_moveClo tys Z Z (lt_of Z) Z Z (by assumption) ?_))))))))
 refine WO_call Z Z (lt_of Z) Z Z (by repeat (first | exact ResL.done | exact ResL.imms (by first | rfl | assumption) | refine ResL.t ?_ | refine ResL.own ?_ | refine ResL.slA Z (by first | rfl | (simp; done) | (simp; omega)) ?_ | refine ResL.sl Z (by first | omega | (simp; done) | (simp; omega)) ?_ | refine ResL.rp ?_ | refine ResL.clo ?_ ?_ | refine ResL.aggT ?_ ?_ | refine ResL.ref Z ?_ ?_ | refine ResL.nil' ?_ | refine ResL.nil 1 ?_)) (idxStmt_fun l p f caps hcaps hl hf) Z ?_
 refine eK 2 Z (oN (tN (rT (eR ?_))))
 ·rw [← idxGo_any (Int.le_refl 0)]
theorem stmtG_neg {vars : Int} {ps : List Int} {s : Stmt} (h : s.n < 0) : stmtG vars ps s = false := by grind [stmtG, stmtW]
theorem isProg1_fun (s : Stmt) (f : Func) (ps : List Int) (hs : s.ok 1048576) (hv : 0 ≤ f.vars ∧ f.vars ≤ 6) (hp : PsOk ps) : Fun Tryz.prog 173 [.t s.tt, .rp f.tt 0, .rp (.agg [T.ints ps]) 0] (tupD [.t (.bool (!stmtG f.vars ps s))]) := by
 refine Fun.begin tys Tryz.func173 Z Z (N := 15) [(0, .t s.tt), (1, .rp f.tt 0), (2, .rp (.agg [T.ints ps]) 0)] Z Z (fun w0 G F0 => ?_)
 refine sQ (rG (WO_box Z Z (lt_of Z) Z Z (nZ Z (eZ Z (oN (tN (sQ (rG (eK 4 Z ?_)))))))))
 refine WO_guard Z Z Z Z (lt_of Z) (fun h1 => ?_) (fun h1 => ?_)
 rotate_left
 ·
  simp only [HS] at h1
  refine gM Z (gM Z (gM Z (kZ [4,8,12] Z (gM Z (eK 2 Z (oN (tN (rT (eR ?_)))))))))
  ·exact retB (by rw [stmtG_neg (by assumption)]; rfl)
 simp only [HS] at h1
 refine eZ Z ?_
 try refine WO_le (Le.freeze (u := 9) rfl) ?_
 refine nZ Z (gY Z (eZ Z ?_))
 try refine WO_le (Le.freeze (u := 10) rfl) ?_
 refine nZ Z (gY Z (eZ Z (kZ [4,8,9,10,11] Z (gY Z (callB ?_)))))
 refine ⟨_, isStmt_fun f s ps hs (by omega) hv hp, rfl, ?_⟩
 refine gY Z (eK 3 Z (oN (tN (rT (eR ?_)))))
 ·rfl
theorem areParams1_fun (n : Int) : Fun Tryz.prog 208 [.t (.int n)] (tupD [.t (.bool (!decide (0 ≤ n ∧ n ≤ 2)))]) := by
 refine Fun.begin tys Tryz.func208 Z Z (N := 6) [(0, .t (.int n))] Z Z (fun w0 G F0 => ?_)
 refine sQ (rG (eZ Z (oN (tN (sQ (rG (eZ Z (callB ?_))))))))
 refine ⟨_, within_fun _ _ _, rfl, ?_⟩
 refine eK 2 Z (oN (tN (rT (eR ?_))))
 ·rfl
theorem areParams_fun (ps : List Int) (hp : ps.length ≤ 1048576) : Fun Tryz.prog 170 [.t (T.ints ps)] (tupD [.t (.bool (paramsB ps))]) := by
 refine Fun.begin tys Tryz.func170 Z Z (N := 11) [(0, .t (T.ints ps))] Z Z (fun w0 G F0 => ?_)
 refine sQ (rG (eZ Z (oN (tN (sQ (rG (eZ Z (evE ?_))))))))
 refine eK 2 Z ?_
 refine WO_guard Z Z Z Z (lt_of Z) (fun h1 => ?_) (fun h1 => ?_)
 rotate_left
 ·
  simp only [HS] at h1
  refine gM Z (gM Z (eK 2 Z (kZ [2] Z (oN (tN (rT (eR ?_)))))))
  ·have e : (ps.any fun n => !decide (0 ≤ n ∧ n ≤ 2)) = !allIn ps 0 2 := (by rw [allIn, List.not_all_eq_any_not])
   exact retB (by grind [paramsB])
 simp only [HS] at h1
 refine eZ Z (gY Z (callB ?_))
 refine ⟨_, hasS_fun ps (fun n => !decide (0 ≤ n ∧ n ≤ 2)) _ [] Z (by omega) (fun x _ => areParams1_fun x), rfl, ?_⟩
 refine gY Z (eK 2 Z (kZ [2,10] Z (eZ Z (oN (tN (rT (eR ?_)))))))
 ·have e : (ps.any fun n => !decide (0 ≤ n ∧ n ≤ 2)) = !allIn ps 0 2 := (by rw [allIn, List.not_all_eq_any_not])
  exact retB (by grind [paramsB])
def paramsL (p : Prog) : List Int := p.funcs.map (·.params)
def goodF (ps : List Int) (f : Func) : Bool := shapeF f && f.stmts.all (stmtG f.vars ps)
def goodW (ps : List Int) (f : Func) : Bool := shapeF f && f.stmts.all (stmtW f.vars ps)
def goodP (p : Prog) : Bool := decide ((1 : Int) ≤ p.funcs.length ∧ (p.funcs.length : Int) ≤ 5) && (paramsB (paramsL p) && (decide (atI (paramsL p) 0 = 0) && p.funcs.all (goodF (paramsL p))))
theorem shapeF_vars {f : Func} (h : shapeF f = true) : 0 ≤ f.vars ∧ f.vars ≤ 6 := by
 unfold shapeF okNum at h
 simp only [Bool.and_eq_true, decide_eq_true_eq] at h
 omega
theorem func_ok {p : Prog} (hp : p.ok 1048576) {n : Nat} (h : n < p.funcs.length) : (p.funcs[n]).ok 1048576 := hp.1.2 _ (List.getElem_mem h)
theorem paramsL_len (p : Prog) : (paramsL p).length = p.funcs.length := List.length_map ..
theorem paramsL_at {p : Prog} {n : Int} (h0 : 0 ≤ n) (h1 : n < p.funcs.length) : atI (paramsL p) n = (p.funcs[n.toNat]'(by omega)).params := by
 rw [atI_at h0 (by rw [paramsL_len]; omega)]; simp [paramsL]
theorem any_stmtG {vars : Int} {ps : List Int} {l : List Stmt} : (l.any fun s => !stmtG vars ps s) = !l.all (stmtG vars ps) := by rw [List.not_all_eq_any_not]
theorem getT2 {α β : Type} (f : β → T) (g : α → β) (l : List α) {i : Int} (h0 : 0 ≤ i) (h1 : i < l.length) : ((l.map g).map f)[i.toNat]? = some (f (g (l[i.toNat]'(by omega)))) := by
 rw [List.getElem?_map, List.getElem?_map, List.getElem?_eq_getElem (by omega)]; rfl
theorem goodF_no {p : Prog} {k : Int} (h0 : 0 ≤ k) (h1 : k < p.funcs.length) (h : goodF (paramsL p) (p.funcs[k.toNat]'(by omega)) = false) : p.funcs.all (goodF (paramsL p)) = false := all_no h0 h1 h
theorem isProg_fun (p : Prog) (hp : p.ok 1048576) : Fun Tryz.prog 125 [.t p.tt] (tupD [.t (.bool (goodP p))]) := by
 have hl : p.funcs.length ≤ 1048576 := hp.1.1
 refine Fun.begin tys Tryz.func125 Z Z (N := 41) [(0, .t p.tt)] Z Z (fun w0 G F0 => ?_)
 refine sQ (rG (WO_box Z Z (lt_of Z) Z Z (nZ Z (eZ Z (oN (tN (sQ (rG (eZ Z ?_)))))))))
 try refine WO_le (Le.freeze (u := 6) rfl) ?_
 refine nZ Z (callB ?_)
 refine ⟨_, paramsOf_fun p hp, rfl, ?_⟩
 refine WO_le (Le.freeze (u := 7) Z) (nZ Z (WO_alloc tys Z Z (lt_of Z) Z Z Z (nZ Z (sT Z (nZ Z (oN (tN (sQ (sQ (rG (eK 2 Z (evE ?_))))))))))))
 refine kZ [1,2,3,10] Z (callB ?_)
 refine ⟨_, within_fun _ _ _, rfl, ?_⟩
 refine eK 2 Z ?_
 refine WO_guard Z Z Z Z (lt_of Z) (fun h1 => ?_) (fun h1 => ?_)
 rotate_left
 ·
  simp only [HS] at h1
  refine gM Z (gM Z (eK 2 Z (gM Z (gM Z (kZ [1,2,3,18,20] Z (gM Z (gM Z (eZ Z (oN (tN (W_condT Z (sQ (rG (eZ Z (oN ?_)))))))))))))))
  refine tN (rT (tR (eR ?_)))
  ·first
   | (refine retB ?_; rw [goodP]; simp only [h1, decide_false, Bool.false_and]; done)
 simp only [HS] at h1
 refine eZ Z (gY Z (callB ?_))
 refine ⟨_, areParams_fun _ (by simp; omega), rfl, ?_⟩
 refine gY Z (eK 3 Z ?_)
 refine WO_guard Z Z Z Z (lt_of Z) (fun h2 => ?_) (fun h2 => ?_)
 rotate_left
 ·
  simp only [HS] at h2
  refine gM Z (kZ [1,2,3,18,20] Z (gM Z (gM Z (eZ Z (oN (tN (W_condT Z (sQ (rG (eZ Z (oN (tN (rT (tR (eR ?_)))))))))))))))
  ·first
   | (refine retB ?_; rw [goodP, show paramsB (paramsL p) = false from h2]; simp; done)
 simp only [HS] at h2
 refine eZ Z (gY Z (WO_idxT tys Z Z (lt_of Z) Z Z Z Z Z Z Z (by omega) _ (getT2 _ _ _ (by omega) (by omega)) (kZ [1,2,3,18,20] Z (gY Z (eZ Z (gY Z (eK 2 Z (oN (tN ?_)))))))))
 refine W_cond Z (fun h3 => ?_) (fun h3 => ?_)
 ·
  simp only [HS] at h3
  refine sQ (rG (eZ Z (oN (tN (rT (tR (eR ?_)))))))
  ·first
   | (refine retB ?_; have h3' : ¬ (p.funcs[(0 : Int).toNat]'(by simp; omega)).params = 0 := h3; rw [goodP, paramsL_at (by omega) (by omega)]; simp only [h3', decide_false, Bool.false_and, Bool.and_false]; done)
 simp only [HS] at h3
 refine W_skip (tN (sQ (sQ (rG (eK 2 Z (evE ?_))))))
 refine eZ Z (oN (tN (W_block ?_)))
 refine lK (α := Int) [1, 3, 25, 26] [1, 3] (fun x => [(27, .t (.int x))]) (fun x => []) (fun x => 0 ≤ x ∧ x ≤ p.funcs.length ∧ (p.funcs.take x.toNat).all (goodF (paramsL p)) = true ∧ PsOk (paramsL p) ∧ goodP p = p.funcs.all (goodF (paramsL p))) (fun x => Int.toNat (p.funcs.length - x)) 0 ?_ (fun k hx => ?_)
 ·have hp2 : paramsB (paramsL p) = true := by assumption
  have h0' : (p.funcs[(0 : Int).toNat]'(by simp; omega)).params = 0 := by assumption
  refine ⟨by omega, by omega, by simp, paramsB_ok hp2, ?_⟩
  rw [goodP, hp2, paramsL_at (by omega) (by omega), h0']
  simp; intros; omega
 obtain ⟨hk0, hk1, hall, hps, hgp⟩ := hx
 refine nY Z (sQ (rG (eZ Z (oN (tN (sQ ?_))))))
 refine W_cond Z (fun h4 => ?_) (fun h4 => ?_)
 ·
  simp only [HS] at h4
  refine W_skip (tN (sQ (W_block (sQ (rG (WO_idxT tys Z Z (lt_of Z) Z Z Z Z Z Z Z (by omega) _ (getT _ _ (by omega) (by omega)) (eZ Z ?_)))))))
  try refine WO_le (Le.freeze (u := 30) rfl) ?_
  refine nZ Z (WO_alloc tys Z Z (lt_of Z) Z Z Z (nZ Z (sT Z (nZ Z (oN (tN (sQ (rG (eZ Z ?_)))))))))
  try refine WO_le (Le.freeze (u := 31) rfl) ?_
  refine nZ Z (callB ?_)
  refine ⟨_, isShaped_fun _ (func_ok hp _), rfl, ?_⟩
  refine eK 2 Z (kZ [1,3,5,25,26,27,28,29,30,31,32,33,34] Z ?_)
  refine WO_guard Z Z Z Z (lt_of Z) (fun h5 => ?_) (fun h5 => ?_)
  rotate_left
  ·
   simp only [HS] at h5
   refine gM Z (gM Z (gM Z (eZ Z (oN (tN (W_condT Z (sQ (rG (eZ Z (oN (tN (rT (bR (tR (loopQ_r ?_)))))))))))))))
   refine bR (tR (eR ?_))
   ·first
    | (refine retB ?_; rw [hgp, goodF_no hk0 h4 (by unfold goodF; rw [h5]; rfl)]; done)
  simp only [HS] at h5
  refine eZ Z (gY Z (eZ Z (gY Z (eZ Z (gY Z (callB ?_))))))
  refine ⟨_, hasStmt_fun _ (fun s => !stmtG (p.funcs[k.toNat]'(by omega)).vars (paramsL p) s) _ [.rp (p.funcs[k.toNat]'(by omega)).tt 0, .rp (.agg [T.ints (paramsL p)]) 0] Z (by have := (func_ok hp (n := k.toNat) (by omega)).2.1.1; omega) (fun s hs => isProg1_fun s _ _ ((func_ok hp (n := k.toNat) (by omega)).2.1.2 s hs) (shapeF_vars (by assumption)) hps), rfl, ?_⟩
  refine eZ Z (oN (tN ?_))
  refine W_cond Z (fun h6 => ?_) (fun h6 => ?_)
  ·
   refine sQ (rG (eZ Z (oN (tN (rT (bR (tR (loopQ_r (bR (tR (eR ?_)))))))))))
   ·first
    | (refine retB ?_; rw [hgp, goodF_no hk0 h4 (by rw [any_stmtG] at h6; unfold goodF; rw [h5]; simpa using h6)]; done)
  refine W_skip (bN (tN (rG (evI ?_))))
  refine eZ Z (oN ?_)
  refine lQ _ ?_ ?_
  ·skip
   refine ⟨by omega, by omega, all_tk hk0 (by omega) hall ?_, hps, hgp⟩
   unfold goodF
   rw [any_stmtG] at *
   simp_all
  ·(show Int.toNat _ < Int.toNat _); omega
 simp only [HS] at h4
 refine W_exit (tE (loopQ_e (inBlk_y (tN (sQ (rG (eZ Z (oN (tN (rT (eR ?_)))))))))))
 ·first
  | (refine retB ?_; rw [hgp, all_fl (by omega) hall]; done)
theorem sitesF_mem : ∀ {l : List Stmt} {k x : Int}, x ∈ sitesF l k ↔ ∃ j : Nat, ∃ h : j < l.length, x = k + j ∧ (l[j]).kind = 3
 | [], k, x => by simp [sitesF]
 | s :: l, k, x => by
  have ih := sitesF_mem (l := l) (k := k + 1) (x := x)
  have e : (∃ j : Nat, ∃ h : j < (s :: l).length, x = k + j ∧ ((s :: l)[j]).kind = 3) ↔ (x = k ∧ s.kind = 3) ∨ ∃ j : Nat, ∃ h : j < l.length, x = k + 1 + j ∧ (l[j]).kind = 3 := by
   constructor
   ·rintro ⟨j, hj, h1, h2⟩
    cases j with
    | zero => exact .inl ⟨by simpa using h1, by simpa using h2⟩
    | succ j => exact .inr ⟨j, by simpa using hj, by rw [h1]; omega, by simpa using h2⟩
   ·rintro (⟨h1, h2⟩ | ⟨j, hj, h1, h2⟩)
    ·exact ⟨0, by simp, by simpa using h1, by simpa using h2⟩
    ·exact ⟨j + 1, by simpa using hj, by rw [h1]; omega, by simpa using h2⟩
  rw [e, sitesF]
  split
  ·rename_i h; rw [List.mem_cons, ih]; simp [h]
  ·rename_i h; rw [ih]; simp [h]
theorem sitesF_len : ∀ (l : List Stmt) (k : Int), (sitesF l k).length ≤ l.length
 | [], k => by simp [sitesF]
 | s :: l, k => by
  have := sitesF_len l (k + 1)
  rw [sitesF]
  split <;> simp only [List.length_cons] <;> omega
theorem shape_no {f : Func} (h : blocksB f.stmts f.body = false) : shapeB f.stmts f.body = false := by
 rw [Bool.eq_false_iff]; intro hs
 rw [(shape_blocks.1 hs).1] at h; cases h
theorem stmtW_no {f : Func} {ps : List Int} {m : Int} (h0 : 0 ≤ m) (h1 : m < f.stmts.length) (h : stmtW f.vars ps (f.stmts[m.toNat]'(by omega)) = false) : f.stmts.all (stmtW f.vars ps) = false := all_no h0 h1 h
theorem l3Func_fun (f : Func) (ps : List Int) (hf : f.ok 1048576) (hp : PsOk ps) (hpb : paramsB ps = true) : Fun Tryz.prog 153 [.t f.tt, .t (T.ints ps)] (tupD [.t (.bool (goodW ps f))]) := by
  have hl : f.stmts.length ≤ 1048576 := hf.2.1.1
  have hbl : f.body.length ≤ 1048576 := hf.1
  refine Fun.begin tys Tryz.func153 Z Z (N := 87) [(0, .t f.tt), (1, .t (T.ints ps))] Z Z (fun w0 G F0 => ?_)
  refine sQ (rG (WO_box Z Z (lt_of Z) Z Z (nZ Z (eZ Z (oN (tN (sQ (sQ (rG (eK 2 Z (callB ?_)))))))))))
  refine ⟨_, l1In_fun _ _ _, rfl, ?_⟩
  refine eK 2 Z ?_
  refine WO_guard Z Z Z Z (lt_of Z) (fun h1 => ?_) (fun h1 => ?_)
  rotate_left
  ·
    simp only [HS] at h1
    refine gM Z (gM Z (kZ [1,2,4,15,17,18] Z (gM Z (gM Z (gM Z (eK 2 Z (gM Z (gM Z (gM Z (gM Z (kZ [1,2,4,23,27] Z (eK 2 Z (gM Z (gM Z (gM Z ?_)))))))))))))))
    refine eK 2 Z (gM Z (gM Z (kZ [1,2,4,34,36] Z (gM Z (gM Z (eZ Z (oN (tN (W_condT Z (sQ (rG (eZ Z (oN (tN (rT ?_)))))))))))))))
    refine tR (eR ?_)
    · first
      | (refine retB ?_; rw [goodW, shapeF, okNum]; simp only [h1, decide_false, Bool.false_and]; done)
  simp only [HS] at h1
  refine eZ Z (gY Z (eZ Z (kZ [1,2,4,15,17] Z (gY Z (eZ Z (gY Z (eZ Z (gY Z (callB ?_)))))))))
  refine ⟨_, l1In_fun _ _ _, rfl, ?_⟩
  refine gY Z (eK 3 Z ?_)
  refine WO_guard Z Z Z Z (lt_of Z) (fun h2 => ?_) (fun h2 => ?_)
  rotate_left
  ·
    simp only [HS] at h2
    refine gM Z (gM Z (gM Z (kZ [1,2,4,23,27] Z (eK 2 Z (gM Z (gM Z (gM Z (eK 2 Z (gM Z (gM Z (kZ [1,2,4,34,36] Z (gM Z (gM Z (eZ Z (oN ?_)))))))))))))))
    refine tN (W_condT Z (sQ (rG (eZ Z (oN (tN (rT (tR (eR ?_)))))))))
    · first
      | (refine retB ?_; rw [goodW, shapeF, okNum]; simp only [h2, decide_false, Bool.false_and, Bool.and_false]; done)
  simp only [HS] at h2
  refine eZ Z (gY Z (eZ Z (gY Z (evE ?_))))
  refine kZ [1,2,4,23,26] Z (gY Z (eK 3 Z ?_))
  refine WO_guard Z Z Z Z (lt_of Z) (fun h3 => ?_) (fun h3 => ?_)
  rotate_left
  ·
    simp only [HS] at h3
    refine gM Z (gM Z (eK 2 Z (gM Z (gM Z (kZ [1,2,4,34,36] Z (gM Z (gM Z (eZ Z (oN (tN (W_condT Z (sQ (rG (eZ Z (oN ?_)))))))))))))))
    refine tN (rT (tR (eR ?_)))
    · first
      | (refine retB ?_; rw [goodW, shapeF, okNum]; simp only [Int.not_le.2 h3, decide_false, Bool.false_and, Bool.and_false]; done)
  simp only [HS] at h3
  refine eZ Z ?_
  try refine WO_le (Le.freeze (u := 30) rfl) ?_
  refine nZ Z (gY Z (callB ?_))
  refine ⟨_, l3Blocks_fun f hf (by omega), rfl, ?_⟩
  refine gY Z (eK 3 Z ?_)
  refine WO_guard Z Z Z Z (lt_of Z) (fun h4 => ?_) (fun h4 => ?_)
  rotate_left
  ·
    simp only [HS] at h4
    refine gM Z (kZ [1,2,4,34,36] Z (gM Z (gM Z (eZ Z (oN (tN (W_condT Z (sQ (rG (eZ Z (oN (tN (rT (tR (eR ?_)))))))))))))))
    · first
      | (refine retB ?_; rw [goodW, shapeF, shape_no h4]; simp; done)
  simp only [HS] at h4
  refine eZ Z ?_
  try refine WO_le (Le.freeze (u := 35) rfl) ?_
  refine nZ Z (gY Z (callB ?_))
  refine ⟨_, l3Sites_fun f hf, rfl, ?_⟩
  refine WO_le (Le.adoptE (u := 36) 36 Z (by first | exact lenN | exact Z)) ?_
  refine nZ Z (kZ [1,2,4,34,36] Z (gY Z (evE ?_)))
  refine gY Z (eK 2 Z (oN (tN ?_)))
  refine W_cond Z (fun h5 => ?_) (fun h5 => ?_)
  ·
    simp only [HS] at h5
    refine sQ (rG (eZ Z (oN (tN (rT (tR (eR ?_)))))))
    · first
      | (refine retB ?_; rw [goodW, shapeF, siteB]; simp only [Int.not_le.2 h5, decide_false, Bool.false_and, Bool.and_false]; done)
  simp only [HS] at h5
  refine W_skip (tN (sQ (sQ (rG ?_))))
  have hbk := blocksB_iff.1 h4
  have hd := hbk.2.2.1
  have hb := hbk.1
  have hol : (ordF f f.body).length = f.stmts.length := blocks_len h4
  refine eZ Z ?_
  try refine WO_le (Le.freeze (u := 40) rfl) ?_
  refine nZ Z (eK 2 Z (callB ?_))
  refine ⟨_, l3Order_fun' f hf hd hb hbl (by omega), rfl, ?_⟩
  refine WO_le (Le.adoptE (u := 43) 43 Z (by first | exact lenN | exact Z)) ?_
  refine nZ Z (evE ?_)
  refine eZ Z (kZ [1,2,4,43,44,45] Z (oN (tN (W_block ?_))))
  refine lK (α := Int) [1, 2, 43, 44] [2, 43] (fun x => [(45, .t (.int x))]) (fun x => []) (fun x => 0 ≤ x ∧ x ≤ (ordF f f.body).length ∧ ∀ (q : Nat) (h : q < (ordF f f.body).length), q < x → (ordF f f.body)[q] = (q : Int)) (fun x => Int.toNat ((ordF f f.body).length - x)) 0 ?_ (fun j hx => ?_)
  · exact ⟨by omega, by omega, fun q h h' => by omega⟩
  obtain ⟨hj0, hj1, hj⟩ := hx
  refine nY Z (sQ (rG (eZ Z (oN (tN (sQ ?_))))))
  refine W_cond Z (fun h6 => ?_) (fun h6 => ?_)
  ·
    simp only [HS] at h6
    refine W_skip (tN (sQ (W_block (sQ (rG (eZ Z (WO_idxS tys Z Z (lt_of Z) Z Z Z Z Z Z Z Z (by omega) (by omega) (WO_loadL tys Z Z (lt_of Z) Z Z Z Z (getT0 _ _ (by omega) (by omega)) Z (eK 2 Z (oN (tN (sQ (rG (eK 3 Z (kZ [1,2,5,6,43,44,45,46,47,48,49,50,51,52] Z ?_)))))))))))))))
    refine oN (tN ?_)
    refine W_cond Z (fun h7 => ?_) (fun h7 => ?_)
    ·
      simp only [HS] at h7
      refine sQ (rG (eZ Z (oN (tN (rT (bR (tR (loopQ_r (bR (tR (eR ?_)))))))))))
      · first
        | (refine retB ?_; rw [goodW, shapeF, ord_no hj0 h6 (fun e => h7 e.symm)]; simp; done)
    simp only [HS] at h7
    refine W_skip (bN (tN (rG (evI ?_))))
    refine eZ Z (oN ?_)
    refine lQ _ ?_ ?_
    · skip
      refine ⟨by omega, by omega, fun q h h' => ?_⟩
      by_cases hq : (q : Int) < j
      · exact hj q h hq
      · obtain rfl : q = j.toNat := by omega
        omega
    · (show Int.toNat _ < Int.toNat _); omega
  simp only [HS] at h6
  refine W_exit (tE (loopQ_e (inBlk_y (tN (sQ (sQ (rG (eK 2 Z (evE ?_)))))))))
  refine eZ Z (oN (tN (W_block ?_)))
  refine lK (α := Int) [1, 2, 55, 56] [2] (fun x => [(57, .t (.int x))]) (fun x => []) (fun x => 0 ≤ x ∧ x ≤ f.stmts.length ∧ shapeB f.stmts f.body = true ∧ (f.stmts.take x.toNat).all (whileOk f) = true ∧ (f.stmts.take x.toNat).all (stmtW f.vars ps) = true) (fun x => Int.toNat (f.stmts.length - x)) 0 ?_ (fun m hx => ?_)
  · exact ⟨by omega, by omega, shape_blocks.2 ⟨h4, fun q h => hj q h (by unfold ordF at h6; omega)⟩, by simp, by simp⟩
  obtain ⟨hm0, hm1, hsh, hmw, hms⟩ := hx
  refine nY Z (sQ (rG (eZ Z (oN (tN (sQ ?_))))))
  refine W_cond Z (fun h7 => ?_) (fun h7 => ?_)
  ·
    simp only [HS] at h7
    refine W_skip (tN (sQ (W_block (sQ (rG (WO_idxT tys Z Z (lt_of Z) Z Z Z Z Z Z Z (by omega) _ (getT _ _ (by omega) (by omega)) (eZ Z ?_)))))))
    try refine WO_le (Le.freeze (u := 60) rfl) ?_
    refine nZ Z (WO_alloc tys Z Z (lt_of Z) Z Z Z (nZ Z (sT Z (nZ Z (oN (tN (sQ (sQ (rG (eZ Z ?_))))))))))
    try refine WO_le (Le.freeze (u := 61) rfl) ?_
    refine nZ Z (eZ Z ?_)
    try refine WO_le (Le.freeze (u := 62) rfl) ?_
    refine nZ Z (eZ Z (callB ?_))
    refine ⟨_, l3Stmt_fun f _ ps (hf.2.1.2 _ (List.getElem_mem _)) (by omega) hp hpb, rfl, ?_⟩
    refine kZ [1,2,8,55,56,57,58,59,60,61,62,63,64] Z (eZ Z (oN (tN ?_)))
    refine W_cond Z (fun h8 => ?_) (fun h8 => ?_)
    ·
      simp only [HS] at h8
      refine sQ (rG (eZ Z (oN (tN (rT (tR (bR (tR (loopQ_r (bR (tR (eR ?_))))))))))))
      · first
        | (refine retB ?_; rw [goodW, stmtW_no hm0 h7 h8]; simp; done)
    simp only [HS] at h8
    refine W_skip (tN (sQ (sQ (rG (eK 3 Z (oN (tN ?_)))))))
    refine W_cond Z (fun h9 => ?_) (fun h9 => ?_)
    ·
      simp only [HS] at h9
      refine W_exit (tE (inBlk_y (tN (rG (evI ?_)))))
      refine eZ Z (oN ?_)
      refine lQ _ ?_ ?_
      · skip
        refine ⟨by omega, by omega, hsh, all_tk hm0 (by omega) hmw ?_, all_tk hm0 (by omega) hms (by assumption)⟩
        first
        | (unfold whileOk; rw [if_neg (by omega)]; done)
      · (show Int.toNat _ < Int.toNat _); omega
    simp only [HS] at h9
    refine W_skip (tN (sQ (rG ?_)))
    have hmt : m.toNat < f.stmts.length := by omega
    have hbt : inB f.stmts.length 0 (f.stmts[m.toNat]'hmt).thn := by
      have := (hd m (by omega) (by omega)).1
      rw [kids_at hmt] at this
      exact inB_lower this (by omega)
    have hut := usesF_drop f.stmts hmt
    have hul := usesF_le f.stmts m.toNat
    have hsu := shape_uses hsh
    have hot : (ordF f (f.stmts[m.toNat]'hmt).thn).length ≤ 1048576 := ord_bound' hd hbt (by omega) (by omega)
    refine eZ Z ?_
    try refine WO_le (Le.freeze (u := 69) rfl) ?_
    refine nZ Z (eK 2 Z (callB ?_))
    refine ⟨_, l3Order_fun' f hf hd hbt (stmt_ok hf hmt).1 hot, rfl, ?_⟩
    refine WO_le (Le.adoptE (u := 72) 72 Z (by first | exact lenN | exact Z)) ?_
    refine nZ Z (evE ?_)
    refine kZ [1,2,8,55,56,57,58,59,60,61,62,63,64,65,66,67,68,69,70,71,72,73] Z (eZ Z (oN (tN (W_block ?_))))
    refine lK (α := Int) [1, 2, 55, 56, 57, 72, 73] [2, 72] (fun x => [(74, .t (.int x))]) (fun x => []) (fun x => 0 ≤ x ∧ x ≤ (ordF f (f.stmts[m.toNat]'(by omega)).thn).length ∧ ((ordF f (f.stmts[m.toNat]'(by omega)).thn).take x.toNat).all (fun n => decide (¬ kindAt f n = 3)) = true) (fun x => Int.toNat ((ordF f (f.stmts[m.toNat]'(by omega)).thn).length - x)) 0 ?_ (fun r hx => ?_)
    · exact ⟨by omega, by omega, by simp⟩
    obtain ⟨hr0, hr1, hrw⟩ := hx
    refine nY Z (sQ (rG (eZ Z (oN (tN (sQ ?_))))))
    refine W_cond Z (fun h10 => ?_) (fun h10 => ?_)
    ·
      simp only [HS] at h10
      refine W_skip (tN (sQ (W_block (sQ (rG (WO_idxS tys Z Z (lt_of Z) Z Z Z Z Z Z Z Z (by omega) (by omega) (WO_loadL tys Z Z (lt_of Z) Z Z Z Z (getT0 _ _ (by omega) (by omega)) Z ?_)))))))
      have hn := ord_range hd hbt _ (List.getElem_mem (l := ordF f (f.stmts[m.toNat]'(by omega)).thn) (n := r.toNat) (by omega))
      refine eZ Z (oN (tN (sQ (rG (eK 3 Z (WO_idxT tys Z Z (lt_of Z) Z Z Z Z Z Z Z (by omega) _ (getT _ _ (by omega) (by omega)) (eZ Z (kZ [1,2,10,55,56,57,72,73,74,75,76,77,78,79,80,81,82] Z (eK 2 Z (oN (tN ?_)))))))))))
      refine W_cond Z (fun h11 => ?_) (fun h11 => ?_)
      ·
        simp only [HS] at h11
        refine sQ (rG (eZ Z (oN (tN (rT (bR (tR (loopQ_r (bR (bR (tR (loopQ_r (bR (tR (eR ?_)))))))))))))))
        · first
          | (have e : noDef f (f.stmts[m.toNat]'(by omega)).thn = false := (by unfold noDef; exact all_no hr0 (by omega) (by rw [kindAt_at (by omega)]; simp; omega))
             refine retB ?_; rw [goodW, shapeF, while_no hm0 (by omega) (by omega) e]; simp; done)
      simp only [HS] at h11
      refine W_skip (bN (tN (rG (evI ?_))))
      refine eZ Z (oN ?_)
      refine lQ _ ?_ ?_
      · skip
        exact ⟨by omega, by omega, all_tk hr0 (by omega) hrw (by rw [kindAt_at (by omega)]; simp; assumption)⟩
      · (show Int.toNat _ < Int.toNat _); omega
    simp only [HS] at h10
    refine W_exit (tE (loopQ_e (inBlk_y (bN (tN (rG (evI ?_)))))))
    refine eZ Z (oN ?_)
    refine lQ _ ?_ ?_
    · skip
      refine ⟨by omega, by omega, hsh, all_tk hm0 (by omega) hmw ?_, all_tk hm0 (by omega) hms (by assumption)⟩
      first
      | (unfold whileOk; rw [if_pos (by omega)]; exact all_fl (by omega) hrw)
    · (show Int.toNat _ < Int.toNat _); omega
  simp only [HS] at h7
  refine W_exit (tE (loopQ_e (inBlk_y (tN (sQ (rG (eZ Z (oN (tN (rT (eR ?_)))))))))))
  · first
    | (refine retB ?_
       rw [goodW, shapeF, hsh, whileB, all_fl (by omega) hmw, all_fl (by omega) hms, okNum, siteB]
       simp only [h1, h2, h3, h5, and_self, decide_true, Bool.and_self]
       done)
open Go.Eng
theorem stmtW_def {vars : Int} {ps : List Int} {s : Stmt} (h : stmtW vars ps s = true) (hk : s.kind = 3) : 0 ≤ s.n ∧ s.n < ps.length := by
 unfold stmtW at h
 simp [hk] at h
 omega
theorem goodW_of {ps : List Int} {f : Func} (h : goodW ps f = true) : shapeF f = true ∧ ∀ (m : Nat) (hm : m < f.stmts.length), stmtW f.vars ps (f.stmts[m]) = true := by
 unfold goodW at h
 rw [Bool.and_eq_true, List.all_eq_true] at h
 exact ⟨h.1, fun m hm => h.2 _ (List.getElem_mem hm)⟩
theorem goodF_W {ps : List Int} {f : Func} (h : goodF ps f = true) : goodW ps f = true := by
 unfold goodF goodW at *
 rw [Bool.and_eq_true, List.all_eq_true] at *
 exact ⟨h.1, fun s hs => by have := h.2 s hs; unfold stmtG at this; rw [Bool.and_eq_true] at this; exact this.1⟩
theorem site_at {f : Func} {ps : List Int} {q : Int} (hw : goodW ps f = true) (h0 : 0 ≤ q) (h1 : q < (sitesF f.stmts 0).length) :
  0 ≤ (sitesF f.stmts 0)[q.toNat]'(by omega) ∧ ∃ h : ((sitesF f.stmts 0)[q.toNat]'(by omega)).toNat < f.stmts.length, (f.stmts[((sitesF f.stmts 0)[q.toNat]'(by omega)).toNat]'h).kind = 3 ∧ 0 ≤ (f.stmts[((sitesF f.stmts 0)[q.toNat]'(by omega)).toNat]'h).n ∧ (f.stmts[((sitesF f.stmts 0)[q.toNat]'(by omega)).toNat]'h).n < ps.length := by
 obtain ⟨j, hj, he, hk⟩ := sitesF_mem.1 (List.getElem_mem (l := sitesF f.stmts 0) (n := q.toNat) (by omega))
 have hx : (((sitesF f.stmts 0)[q.toNat]'(by omega))).toNat = j := by omega
 refine ⟨by omega, by omega, ?_⟩
 have h2 := (goodW_of hw).2 _ hj
 have h3 := stmtW_def h2 hk
 simp only [hx]
 exact ⟨hk, h3⟩
theorem goodF_of {ps : List Int} {f : Func} (hw : goodW ps f = true) (h : ∀ (q : Nat) (hq : q < (sitesF f.stmts 0).length) (hm : ((sitesF f.stmts 0)[q]).toNat < f.stmts.length), atI ps (f.stmts[((sitesF f.stmts 0)[q]).toNat]).n = 0) : goodF ps f = true := by
 have hw' := goodW_of hw
 unfold goodF
 rw [Bool.and_eq_true, List.all_eq_true]
 refine ⟨hw'.1, fun s hs => ?_⟩
 obtain ⟨m, hm, rfl⟩ := List.getElem_of_mem hs
 unfold stmtG
 rw [Bool.and_eq_true]
 refine ⟨hw'.2 m hm, ?_⟩
 split
 ·rename_i hk
  obtain ⟨q, hq, he⟩ := List.getElem_of_mem (sitesF_mem.2 ⟨m, hm, rfl, hk⟩ : (0 : Int) + m ∈ sitesF f.stmts 0)
  have := h q hq (by rw [he]; omega)
  simp only [he, show ((0 : Int) + m).toNat = m from by omega] at this
  rw [this]; rfl
 ·rfl
theorem goodF_not {ps : List Int} {f : Func} {n : Nat} (hn : n < f.stmts.length) (hk : (f.stmts[n]).kind = 3) (h : ¬ atI ps (f.stmts[n]).n = 0) : goodF ps f = false := by
 rw [Bool.eq_false_iff]
 intro hg
 unfold goodF at hg
 rw [Bool.and_eq_true, List.all_eq_true] at hg
 have := hg.2 _ (List.getElem_mem hn)
 unfold stmtG at this
 rw [if_pos hk, Bool.and_eq_true] at this
 exact h (by simpa using this.2)
theorem goodProg_fun (p : Prog) (hp : p.ok 1048576) : Fun Tryz.prog 90 [.t p.tt] (tupD [.t (.bool (goodP p))]) := by
 have hl : p.funcs.length ≤ 1048576 := hp.1.1
 refine Fun.begin tys Tryz.func90 Z Z (N := 59) [(0, .t p.tt)] Z Z (fun w0 G F0 => ?_)
 refine sQ (rG (WO_box Z Z (lt_of Z) Z Z (nZ Z (eZ Z (oN (tN (sQ (sQ (rG (eK 2 Z (evE ?_)))))))))))
 refine callB ?_
 refine ⟨_, l1In_fun _ _ _, rfl, ?_⟩
 refine eK 2 Z ?_
 refine WO_guard Z Z Z Z (lt_of Z) (fun h1 => ?_) (fun h1 => ?_)
 rotate_left
 ·
  simp only [HS] at h1
  refine gM Z (kZ [1,2,12,14] Z (gM Z (gM Z (eK 2 Z (gM Z (gM Z (gM Z (gM Z (gM Z (kZ [1,2,18,23] Z (gM Z (eZ Z (oN (tN (W_condT Z ?_)))))))))))))))
  refine sQ (rG (eZ Z (oN (tN (rT (tR (eR ?_)))))))
  ·first
   | (refine retB ?_; rw [goodP]; simp only [h1, decide_false, Bool.false_and]; done)
 simp only [HS] at h1
 refine eZ Z ?_
 try refine WO_le (Le.freeze (u := 13) rfl) ?_
 refine nZ Z (gY Z (callB ?_))
 refine ⟨_, l3Params_fun p hp, rfl, ?_⟩
 refine WO_le (Le.adoptE (u := 14) 14 Z (by first | exact lenN | exact Z)) ?_
 refine nZ Z (kZ [1,2,12,14] Z (gY Z (callB ?_)))
 refine ⟨_, l2Params_fun _ (by simp; omega), rfl, ?_⟩
 refine gY Z (eK 3 Z ?_)
 refine WO_guard Z Z Z Z (lt_of Z) (fun h2 => ?_) (fun h2 => ?_)
 rotate_left
 ·
  simp only [HS] at h2
  refine gM Z (gM Z (gM Z (gM Z (gM Z (kZ [1,2,18,24] Z (eZ Z (oN (tN (W_condT Z (sQ (rG (eZ Z (oN (tN (rT ?_)))))))))))))))
  refine tR (eR ?_)
  ·first
   | (refine retB ?_; rw [goodP, show paramsB (paramsL p) = false from h2]; simp; done)
 simp only [HS] at h2
 refine eZ Z (gY Z (eZ Z (gY Z (WO_idxT tys Z Z (lt_of Z) Z Z Z Z Z Z Z (by omega) _ (getT _ _ (by omega) (by omega)) (gY Z (eZ Z (gY Z (eZ Z (kZ [1,2,18,23] Z (gY Z (eK 2 Z (oN (tN ?_)))))))))))))
 refine W_cond Z (fun h3 => ?_) (fun h3 => ?_)
 ·
  simp only [HS] at h3
  refine sQ (rG (eZ Z (oN (tN (rT (tR (eR ?_)))))))
  ·first
   | (refine retB ?_; have h3' : ¬ (p.funcs[(0 : Int).toNat]'(by simp; omega)).params = 0 := h3; rw [goodP, paramsL_at (by omega) (by omega)]; simp only [h3', decide_false, Bool.false_and, Bool.and_false]; done)
 simp only [HS] at h3
 refine W_skip (tN (sQ (sQ (rG (eK 2 Z (evE ?_))))))
 refine eZ Z (oN (tN (W_block ?_)))
 refine lK (α := Int) [1, 27, 28] [1] (fun x => [(29, .t (.int x))]) (fun x => []) (fun x => 0 ≤ x ∧ x ≤ p.funcs.length ∧ (p.funcs.take x.toNat).all (goodF (paramsL p)) = true ∧ PsOk (paramsL p) ∧ paramsB (paramsL p) = true ∧ goodP p = p.funcs.all (goodF (paramsL p))) (fun x => Int.toNat (p.funcs.length - x)) 0 ?_ (fun k hx => ?_)
 ·have hp2 : paramsB (paramsL p) = true := by assumption
  have h0' : (p.funcs[(0 : Int).toNat]'(by simp; omega)).params = 0 := by assumption
  refine ⟨by omega, by omega, by simp, paramsB_ok hp2, hp2, ?_⟩
  rw [goodP, hp2, paramsL_at (by omega) (by omega), h0']
  simp; intros; omega
 obtain ⟨hk0, hk1, hall, hps, hpb, hgp⟩ := hx
 refine nY Z (sQ (rG (eZ Z (oN (tN (sQ ?_))))))
 refine W_cond Z (fun h4 => ?_) (fun h4 => ?_)
 ·
  simp only [HS] at h4
  refine W_skip (tN (sQ (W_block (sQ (rG (WO_idxT tys Z Z (lt_of Z) Z Z Z Z Z Z Z (by omega) _ (getT _ _ (by omega) (by omega)) (eZ Z ?_)))))))
  try refine WO_le (Le.freeze (u := 32) rfl) ?_
  refine nZ Z (WO_alloc tys Z Z (lt_of Z) Z Z Z (nZ Z (sT Z (nZ Z (oN (tN (sQ (sQ (W_regionD mixed (by kernel_rfl) (evQ ?_))))))))))
  refine QL_norm Z (evQ ?_)
  refine callBQ ?_
  refine ⟨_, l3Params_fun p hp, rfl, ?_⟩
  refine callBQ ?_
  refine ⟨_, l3Func_fun _ _ (func_ok hp _) hps hpb, rfl, ?_⟩
  refine evQ ?_
  refine QL_nil (tN ?_)
  refine W_cond Z (fun h5 => ?_) (fun h5 => ?_)
  ·
   simp only [HS] at h5
   refine sQ (rG (eZ Z (oN (tN (rT (tR (bR (tR (loopQ_r (bR (tR (eR ?_))))))))))))
   ·first
    | (refine retB ?_; rw [hgp, goodF_no hk0 h4 (Bool.eq_false_iff.2 fun h => Bool.eq_false_iff.1 h5 (goodF_W h))]; done)
  simp only [HS] at h5
  refine W_skip (tN (sQ (rG (eZ Z ?_))))
  try refine WO_le (Le.freeze (u := 38) rfl) ?_
  refine nZ Z (callB ?_)
  refine ⟨_, l3Sites_fun _ (func_ok hp _), rfl, ?_⟩
  refine WO_le (Le.adoptE (u := 39) 39 Z (by first | exact lenN | exact Z)) ?_
  refine nZ Z (evE ?_)
  refine eZ Z (oN (tN (W_block ?_)))
  refine lK (α := Int) [1, 4, 27, 28, 29, 39, 40] [1, 4, 39] (fun x => [(41, .t (.int x))]) (fun x => []) (fun x => 0 ≤ x ∧ x ≤ (sitesF (p.funcs[k.toNat]'(by omega)).stmts 0).length ∧ ∀ (i : Nat) (hi : i < (sitesF (p.funcs[k.toNat]'(by omega)).stmts 0).length), (i : Int) < x → ∀ (hm : ((sitesF (p.funcs[k.toNat]'(by omega)).stmts 0)[i]).toNat < (p.funcs[k.toNat]'(by omega)).stmts.length), atI (paramsL p) ((p.funcs[k.toNat]'(by omega)).stmts[((sitesF (p.funcs[k.toNat]'(by omega)).stmts 0)[i]).toNat]).n = 0) (fun x => Int.toNat ((sitesF (p.funcs[k.toNat]'(by omega)).stmts 0).length - x)) 0 ?_ (fun q hx => ?_)
  ·exact ⟨by omega, by omega, fun i hi h => by omega⟩
  obtain ⟨hq0, hq1, hqz⟩ := hx
  refine nY Z (sQ (rG (eZ Z (oN (tN (sQ ?_))))))
  refine W_cond Z (fun h6 => ?_) (fun h6 => ?_)
  ·
   simp only [HS] at h6
   refine W_skip (tN (sQ (W_block (sQ (rG (WO_idxS tys Z Z (lt_of Z) Z Z Z Z Z Z Z Z (by omega) (by omega) (WO_loadL tys Z Z (lt_of Z) Z Z Z Z (getT0 _ _ (by omega) (by omega)) Z ?_)))))))
   obtain ⟨hs0, hs1, hsk, hsn0, hsn1⟩ := site_at (ps := paramsL p) h5 hq0 h6
   rw [paramsL_len] at hsn1
   have hsl := sitesF_len (p.funcs[k.toNat]'(by omega)).stmts 0
   have hfl := (func_ok hp (n := k.toNat) (by omega)).2.1.1
   refine eZ Z (oN (tN (sQ (W_regionD mixed (by kernel_rfl) (evQ ?_)))))
   refine evQ ?_
   refine QL_norm Z (evQ ?_)
   refine evQ ?_
   refine evQ ?_
   refine QL_idxT tys Z Z (lt_of Z) Z Z Z Z Z Z Z (by omega) _ (getT _ _ (by omega) (by omega)) (evQ ?_)
   refine evQ ?_
   refine QL_norm Z (QL_idxT tys Z Z (lt_of Z) Z Z Z Z Z Z Z (by omega) _ (getT _ _ (by omega) (by omega)) (evQ ?_))
   refine evQ ?_
   refine evQ ?_
   refine QL_nil (tN ?_)
   refine W_cond Z (fun h7 => ?_) (fun h7 => ?_)
   ·
    simp only [HS] at h7
    refine sQ (rG (eZ Z (oN (tN (rT (bR (tR (loopQ_r (bR (bR (tR (loopQ_r (bR (tR (eR ?_)))))))))))))))
    ·first
     | (refine retB ?_; rw [hgp, goodF_no hk0 h4 (goodF_not hs1 hsk (by rw [paramsL_at hsn0 hsn1]; assumption))]; done)
   simp only [HS] at h7
   refine W_skip (bN (tN (rG (evI ?_))))
   refine eZ Z (oN ?_)
   refine lQ _ ?_ ?_
   ·skip
    refine ⟨by omega, by omega, fun i hi h hm => ?_⟩
    by_cases hiq : (i : Int) < q
    ·exact hqz i hi hiq hm
    ·obtain rfl : i = q.toNat := by omega
     rw [paramsL_at hsn0 hsn1]; assumption
   ·(show Int.toNat _ < Int.toNat _); omega
  simp only [HS] at h6
  refine W_exit (tE (loopQ_e (inBlk_y (bN (tN (rG (evI ?_)))))))
  refine eZ Z (oN ?_)
  refine lQ _ ?_ ?_
  ·skip
   exact ⟨by omega, by omega, all_tk hk0 (by omega) hall (goodF_of h5 fun q hq hm => hqz q hq (by omega) hm), hps, hpb, hgp⟩
  ·(show Int.toNat _ < Int.toNat _); omega
 simp only [HS] at h4
 refine W_exit (tE (loopQ_e (inBlk_y (tN (sQ (rG (eZ Z (oN (tN (rT (eR ?_)))))))))))
 ·first
  | (refine retB ?_; rw [hgp, all_fl (by omega) hall]; done)
open Go.Eng
theorem Prog.small {p : Prog} (h : 0 ≤ szProg p 1048576) : p.ok 1048576 := (szProg_g p 1048576 (by omega) (by omega)).2.2 h
theorem retBB {a a' b b' : Bool} (h : a = a') (h' : b = b') : [D.t (T.v (Value.bool a)), D.t (T.v (Value.bool b))] = [D.t (T.bool a'), D.t (T.bool b')] := by rw [h, h']
theorem goodP_len {p : Prog} (h : goodP p = true) : 1 ≤ p.funcs.length ∧ p.funcs.length ≤ 5 := by
 unfold goodP at h
 simp only [Bool.and_eq_true, decide_eq_true_eq] at h
 omega
theorem goodP_fn {p : Prog} (h : goodP p = true) {n : Nat} (hn : n < p.funcs.length) : goodF (paramsL p) (p.funcs[n]) = true := by
 unfold goodP at h
 simp only [Bool.and_eq_true, List.all_eq_true] at h
 exact h.2.2.2 _ (List.getElem_mem hn)
theorem goodP_ps {p : Prog} (h : goodP p = true) : PsOk (paramsL p) := by
 unfold goodP at h
 simp only [Bool.and_eq_true] at h
 exact paramsB_ok h.2.1
theorem goodF_len {ps : List Int} {f : Func} (h : goodF ps f = true) : f.stmts.length ≤ 16 := by
 unfold goodF shapeF okNum at h
 simp only [Bool.and_eq_true, decide_eq_true_eq] at h
 omega
theorem goodF_shape {ps : List Int} {f : Func} (h : goodF ps f = true) : shapeF f = true := by
 unfold goodF at h
 rw [Bool.and_eq_true] at h
 exact h.1
theorem goodF_at {ps : List Int} {f : Func} (h : goodF ps f = true) {n : Nat} (hn : n < f.stmts.length) : stmtG f.vars ps (f.stmts[n]) = true := by
 unfold goodF at h
 rw [Bool.and_eq_true, List.all_eq_true] at h
 exact h.2 _ (List.getElem_mem hn)
theorem stmtG_def {vars : Int} {ps : List Int} {s : Stmt} (h : stmtG vars ps s = true) (hk : s.kind = 3) : 0 ≤ s.n ∧ s.n < ps.length ∧ s.ex = [] := by
 unfold stmtG at h
 rw [Bool.and_eq_true] at h
 have h1 := h.1
 unfold stmtW at h1
 simp [hk] at h1
 exact ⟨by omega, by omega, h1.1⟩
theorem goodE_len {vars : Int} {ps : List Int} {l : List Tok} (h : goodE vars ps l = true) : l.length ≤ 12 := by
 unfold goodE at h
 split at h
 ·rw [Bool.and_eq_true] at h; have := h.2; simp at this; omega
 ·cases h
theorem stmtG_ex {vars : Int} {ps : List Int} {s : Stmt} (h : stmtG vars ps s = true) : s.ex = [] ∨ goodE vars ps s.ex = true := by
 unfold stmtG at h
 rw [Bool.and_eq_true] at h
 have h1 := h.1
 unfold stmtW at h1
 by_cases he : goodE vars ps s.ex = true
 ·exact .inr he
 ·left
  have he' : goodE vars ps s.ex = false := by simpa using he
  rw [he'] at h1
  simp at h1
  grind
theorem stmtG_len {vars : Int} {ps : List Int} {s : Stmt} (h : stmtG vars ps s = true) : s.ex.length ≤ 12 := by
 rcases stmtG_ex h with h | h
 ·rw [h]; simp
 ·exact goodE_len h
def stmtAt (f : Func) (n : Int) : Stmt := (f.stmts[n.toNat]?).getD ⟨0, 0, [], [], []⟩
theorem stmtAt_at {f : Func} {n : Int} (h : n.toNat < f.stmts.length) : f.stmts[n.toNat] = stmtAt f n := by
 unfold stmtAt; rw [List.getElem?_eq_getElem h]; rfl
def funcAt (p : Prog) (n : Int) : Func := (p.funcs[n.toNat]?).getD ⟨0, 0, [], []⟩
theorem funcAt_at {p : Prog} {n : Int} (h : n.toNat < p.funcs.length) : p.funcs[n.toNat] = funcAt p n := by
 unfold funcAt; rw [List.getElem?_eq_getElem h]; rfl
def op0 (l : List Tok) : Int := (l[(0 : Int).toNat]?.map (·.op)).getD 0
def guard1 (f : Func) : Bool := decide ((f.stmts.length : Int) = 2) && (decide ((stmtAt f 0).kind = 3) && (decide ((stmtAt f 1).kind = 9) && (decide (((stmtAt f 1).ex.length : Int) = 1) && decide (op0 (stmtAt f 1).ex = 11))))
def guard2 (f : Func) : Bool := decide ((f.stmts.length : Int) = 1) && (decide ((stmtAt f 0).kind = 2) && (decide (((stmtAt f 0).ex.length : Int) = 1) && decide (op0 (stmtAt f 0).ex = 10)))
def guarded (p : Prog) : Bool := goodP p && (guard1 (funcAt p 0) && guard2 (funcAt p (stmtAt (funcAt p 0) 0).n))
open Go.Eng
def d3 (s : Stmt) : List Int := if s.kind = 3 then [s.n] else []
theorem l1Has_fun (l : List Int) (n : Int) (hl : l.length ≤ 1073741824) : Fun Tryz.prog 123 [.t (T.ints l), .t (.int n)] (tupD [.t (.bool (decide (n ∈ l)))]) := by
 refine Fun.begin tys Tryz.func123 Z Z (N := 17) [(0, .t (T.ints l)), (1, .t (.int n))] Z Z (fun w0 G F0 => ?_)
 refine sQ (rG (eZ Z (oN (tN (sQ (sQ (rG (eZ Z (evE ?_)))))))))
 refine eZ Z (oN (tN (W_block ?_)))
 refine lK (α := Int) [1, 7, 8] [] (fun x => [(9, .t (.int x))]) (fun x => []) (fun x => 0 ≤ x ∧ x ≤ l.length ∧ n ∉ l.take x.toNat) (fun x => Int.toNat (l.length - x)) 0 ?_ (fun k hx => ?_)
 ·exact ⟨by omega, by omega, by simp⟩
 obtain ⟨hk0, hk1, hk2⟩ := hx
 refine nY Z (sQ (rG (eZ Z (oN (tN (sQ ?_))))))
 refine W_cond Z (fun h1 => ?_) (fun h1 => ?_)
 ·
  simp only [HS] at h1
  refine W_skip (tN (sQ (W_block (sQ (rG (WO_idxT tys Z Z (lt_of Z) Z Z Z Z Z Z Z (by omega) _ (getT _ _ (by omega) (by omega)) (eK 2 Z (oN (tN (sQ (rG (eK 3 Z (oN (tN ?_))))))))))))))
  refine W_cond Z (fun h2 => ?_) (fun h2 => ?_)
  ·
   simp only [HS] at h2
   refine sQ (kY [1,6,7,8,9,10,11,12,13,14,15] Z (rG (eZ Z (oN (tN (rT (bR (tR (loopQ_r (bR (tR (eR ?_))))))))))))
   ·exact retB (decide_eq_true (h2 ▸ List.getElem_mem _)).symm
  simp only [HS] at h2
  refine W_skip (bN (tN (kY [1,6,7,8,9,10,11,12,13,14,15] Z (rG (evI ?_)))))
  refine eZ Z (oN ?_)
  refine lQ _ ?_ ?_
  ·skip
   refine ⟨by omega, by omega, ?_⟩; rw [take_at hk0 (by omega), List.mem_append, List.mem_singleton]; exact fun h => h.elim hk2 fun e => h2 e.symm
  ·(show Int.toNat _ < Int.toNat _); omega
 simp only [HS] at h1
 refine W_exit (tE (loopQ_e (inBlk_y (tN (sQ (rG (eZ Z (oN (tN (rT (eR ?_)))))))))))
 ·(rw [take_end (by omega)] at hk2; exact retB (decide_eq_false hk2).symm)
theorem readTD (l : List Int) (i j : Nat) : ∀ x, x ∈ ((l.map T.int).drop i).take j → (T.cells x).length = 1 ∧ ∀ y, y ∈ T.cells x → ∃ v, y = .v v :=
 fun x hx => readI l x (List.mem_of_mem_drop (List.mem_of_mem_take hx))
theorem take_app {α : Type} (x y : List α) : List.take (x.length + y.length) (x ++ y) = x ++ y := by
 rw [← List.length_append, List.take_length]
theorem retTI {xs : List T} {b : List Int} (h : xs = b.map T.int) : [D.t (.list 1 xs)] = [D.t (T.ints b)] := by subst h; rfl
inductive Lead (calls : Int → List Int) (a : Int) : Int → Prop
 | refl : Lead calls a a
 | step {b c : Int} : Lead calls a b → c ∈ calls b → Lead calls a c
section
variable {N : Nat} {calls : Int → List Int} {a : Int}
end
def put (l : List Int) (n : Int) : List Int := if n ∈ l then l else l.takeWhile (fun x => decide (x < n)) ++ n :: l.dropWhile (fun x => decide (x < n))
theorem put_at {l : List Int} {n : Int} {k : Int} (h0 : 0 ≤ k) (h1 : k ≤ l.length) (hl : l.Pairwise (· < ·)) (hlt : ∀ (i : Nat) (hi : i < l.length), (i : Int) < k → l[i] < n) (hge : ∀ (h : k < l.length), n ≤ l[k.toNat]'(by omega)) :
  put l n = if h : k < l.length ∧ l[k.toNat]? = some n then l else l.take k.toNat ++ n :: l.drop k.toNat := by
 have hafter : ∀ x, x ∈ l.drop k.toNat → n ≤ x := by
  intro x hx
  by_cases hk : k < l.length
  ·rw [List.drop_eq_getElem_cons (by omega)] at hx
   have := hge hk
   rcases List.mem_cons.1 hx with rfl | hx
   ·exact this
   ·have h2 : (l.drop k.toNat).Pairwise (· < ·) := hl.drop
    rw [List.drop_eq_getElem_cons (by omega), List.pairwise_cons] at h2
    have := h2.1 x hx; omega
  ·rw [List.drop_eq_nil_of_le (by omega)] at hx; cases hx
 have hbefore : ∀ x, x ∈ l.take k.toNat → x < n := by
  intro x hx
  obtain ⟨i, hi, rfl⟩ := List.getElem_of_mem hx
  rw [List.getElem_take]
  rw [List.length_take] at hi
  exact hlt i (by omega) (by omega)
 have hsplit := List.take_append_drop k.toNat l
 split
 ·rename_i h
  rw [put, if_pos]
  exact List.mem_of_getElem? h.2
 ·rename_i h
  have hn : n ∉ l := by
   intro hn
   rw [← hsplit, List.mem_append] at hn
   rcases hn with hn | hn
   ·have := hbefore n hn; omega
   ·apply h
    have hk : k < l.length := by
     refine Classical.byContradiction fun hk => ?_
     rw [List.drop_eq_nil_of_le (by omega)] at hn; cases hn
    refine ⟨hk, ?_⟩
    rw [List.getElem?_eq_getElem (by omega)]
    have h2 : (l.drop k.toNat).Pairwise (· < ·) := hl.drop
    rw [List.drop_eq_getElem_cons (by omega)] at hn h2
    rw [List.pairwise_cons] at h2
    rcases List.mem_cons.1 hn with hn | hn
    ·rw [← hn]
    ·have := h2.1 n hn; have := hge hk; omega
  rw [put, if_neg hn]
  have e1 : l.takeWhile (fun x => decide (x < n)) = l.take k.toNat := by
   conv => lhs; rw [← hsplit]
   rw [List.takeWhile_append_of_pos (by intro x hx; simpa using hbefore x hx)]
   have : (l.drop k.toNat).takeWhile (fun x => decide (x < n)) = [] := by
    cases e : l.drop k.toNat with
    | nil => rfl
    | cons y r => rw [List.takeWhile_cons_of_neg]; have := hafter y (by rw [e]; exact List.mem_cons_self ..); simp; omega
   rw [this, List.append_nil]
  have e2 : l.dropWhile (fun x => decide (x < n)) = l.drop k.toNat := by
   conv => lhs; rw [← hsplit]
   rw [List.dropWhile_append_of_pos (by intro x hx; simpa using hbefore x hx)]
   cases e : l.drop k.toNat with
   | nil => rfl
   | cons y r => rw [List.dropWhile_cons_of_neg]; have := hafter y (by rw [e]; exact List.mem_cons_self ..); simp; omega
  rw [e1, e2]
open Go.Eng
def marks (N : Nat) (l : List Int) : List T := (upto N).map fun n => T.bool (decide (n ∈ l))
theorem retOwnI {a b : List Int} (h : a = b) : [D.own (.list 1 (a.map T.int))] = [D.own (T.ints b)] := by subst h; rfl
theorem put_same {l : List Int} {n k : Int} (h0 : 0 ≤ k) (h1 : k < l.length) (h : l[k.toNat]'(by omega) = n) : put l n = l := by
 rw [put, if_pos (h ▸ List.getElem_mem _)]
theorem put_new {l : List Int} {n k : Int} (hl : l.Pairwise (· < ·)) (h0 : 0 ≤ k) (h1 : k ≤ l.length) (hlt : ∀ (i : Nat) (hi : i < l.length), (i : Int) < k → l[i] < n) (hge : ∀ (h : k < l.length), n < l[k.toNat]'(by omega)) : put l n = l.take k.toNat ++ n :: l.drop k.toNat := by
 rw [put_at h0 h1 hl hlt fun h => Int.le_of_lt (hge h), dif_neg]
 rintro ⟨h, he⟩
 rw [List.getElem?_eq_getElem (by omega)] at he
 have := hge h
 have : l[k.toNat] = n := Option.some.inj he
 omega
theorem put_shape {l : List Int} {n k : Int} (e : put l n = l.take k.toNat ++ n :: l.drop k.toNat) : ((l.map T.int).drop (0 : Int).toNat).take (k.toNat - (0 : Int).toNat) ++ [T.int n] ++ ((l.map T.int).drop k.toNat).take ((((l.map T.int).length : Nat) : Int).toNat - k.toNat) = (put l n).map T.int := by
 rw [e, List.take_of_length_le (l := (l.map T.int).drop k.toNat) (by simp)]
 simp
theorem l1Put_fun (l : List Int) (n : Int) (hl : l.length ≤ 1048576) (hr : l.Pairwise (· < ·)) : Fun Tryz.prog 136 [.t (T.ints l), .t (.int n)] (tupD [.t (T.ints (put l n))]) := by
  refine Fun.begin tys Tryz.func136 Z Z (N := 48) [(0, .t (T.ints l)), (1, .t (.int n))] Z Z (fun w0 G F0 => ?_)
  refine sQ (rG (eZ Z (oN (tN (sQ (rG (eZ Z (oN (tN (sQ (W_block ?_)))))))))))
  refine lK (α := Int) [0, 1] [] (fun x => [(5, .t (.int x))]) (fun x => []) (fun x => 0 ≤ x ∧ x ≤ l.length ∧ ∀ (i : Nat) (hi : i < l.length), (i : Int) < x → l[i] < n) (fun x => Int.toNat (l.length - x)) 0 ?_ (fun k hx => ?_)
  · exact ⟨by omega, by omega, fun i hi h => by omega⟩
  obtain ⟨hk0, hk1, hk2⟩ := hx
  refine nY Z (sQ (sQ (rG (eK 2 Z (evE ?_)))))
  refine eK 2 Z ?_
  refine WO_guard Z Z Z Z (lt_of Z) (fun h1 => ?_) (fun h1 => ?_)
  rotate_left
  ·
    simp only [HS] at h1
    refine gM Z (gM Z (gM Z (gM Z (kZ [0,1,5,7,8,9,10,11,12,13,14,15,16] Z (gM Z (eZ Z (oN (tN (W_condF Z (W_exit (tE (loopQ_e (inBlk_y (tN (sQ ?_)))))))))))))))
    refine sQ (rG (eK 2 Z (evE ?_)))
    refine eK 2 Z ?_
    refine WO_guard Z Z Z Z (lt_of Z) (fun h2 => ?_) (fun h2 => ?_)
    rotate_left
    ·
      simp only [HS] at h2
      refine gM Z (gM Z (kZ [0,1,5,25,28] Z (gM Z (gM Z (gM Z (eZ Z (oN (tN (W_condF Z (W_skip (tN (sQ (rG ?_)))))))))))))
      refine WO_buildSlice tys [] Z Z (lt_of Z) Z Z Z Z Z (by decide) (by repeat (first | exact PartsOk.nil' | refine PartsOk.cons' rfl (by repeat (first | exact AbsL.nil' | refine AbsL.v' ?_ | refine AbsL.own' ?_ | refine AbsL.none' ?_)) Z ?_)) (by first | exact List.nodup_nil | exact nodup1 _ | decide | exact nodupB_sound Z) Z (by decide) ?_
      refine nZ Z (eK 2 Z (WO_sliceT tys Z Z (lt_of Z) Z Z Z Z Z Z Z Z (by first | omega | (simp only [List.length_map]; omega)) (by first | omega | (simp only [List.length_map]; omega)) (by first | omega | (simp only [List.length_map]; omega)) ?_))
      refine WO_append tys Z Z (lt_of Z) Z Z Z Z Z (.own Z (by first | omega | (simp only [List.length_append]; omega))) Z (.read (readTD _ _ _)) (by decide) (by simp; omega) (by decide) Z ?_
      refine nZ Z (kZ [0,1,5,38] Z (eZ Z (oN (tN (sQ (rG (eK 2 Z ?_)))))))
      refine WO_buildSlice tys [T.int n] Z Z (lt_of Z) Z Z Z Z Z (lt_of Z) (by repeat (first | exact PartsOk.nil' | refine PartsOk.cons' rfl (by repeat (first | exact AbsL.nil' | refine AbsL.v' ?_ | refine AbsL.own' ?_ | refine AbsL.none' ?_)) Z ?_)) (by first | exact List.nodup_nil | exact nodup1 _ | decide | exact nodupB_sound Z) Z (by decide) ?_
      refine nZ Z (WO_append tys Z Z (lt_of Z) Z Z Z Z Z (.own Z (by first | omega | (simp only [List.length_append]; omega))) Z (.own Z (by first | decide | omega)) (by decide) (by simp; omega) (by decide) Z ?_)
      refine nZ Z (eZ Z (oN (tN (sQ (rG (eK 3 Z (kZ [43,44,45] Z (WO_sliceT tys Z Z (lt_of Z) Z Z Z Z Z Z Z Z (by first | omega | (simp only [List.length_map]; omega)) (by first | omega | (simp only [List.length_map]; omega)) (by first | omega | (simp only [List.length_map]; omega)) ?_))))))))
      refine WO_append tys Z Z (lt_of Z) Z Z Z Z Z (.own Z (by first | omega | (simp only [List.length_append]; omega))) Z (.read (readTD _ _ _)) (by decide) (by simp; omega) (by decide) Z ?_
      refine nZ Z (eZ Z (oN (tN ?_)))
      try (refine W_le (Le.gather (u := 4) (id := 34) rfl rfl (by first | (simp; done) | (simp; omega) | omega)) ?_; refine W_norm rfl ?_; refine W_le (Le.freeze (u := 4) rfl) ?_; refine W_norm rfl ?_)
      refine rT (eR ?_)
      · first
        | (have e := put_new hr hk0 hk1 hk2 (fun h => by omega)
           refine retTI ?_
           rw [← put_shape e]
           simp only [take_app, List.take_length, List.nil_append, List.length_nil, Nat.zero_add, List.take_nil]
           done)
    simp only [HS] at h2
    refine eZ Z (gY Z (eZ Z (kZ [0,1,5,25,26,27] Z (gY Z (WO_idxT tys Z Z (lt_of Z) Z Z Z Z Z Z Z (by omega) _ (getT _ _ (by omega) (by omega)) (gY Z (eZ Z (gY Z (eZ Z (gY Z (eK 2 Z (oN (tN ?_)))))))))))))
    refine W_cond Z (fun h3 => ?_) (fun h3 => ?_)
    ·
      simp only [HS] at h3
      refine sQ (rG (eK 2 Z (oN (tN ?_))))
      try (refine W_le (Le.gather (u := 4) (id := 34) rfl rfl (by first | (simp; done) | (simp; omega) | omega)) ?_; refine W_norm rfl ?_; refine W_le (Le.freeze (u := 4) rfl) ?_; refine W_norm rfl ?_)
      refine rT (tR (eR ?_))
      · first
        | (exfalso; omega)
    simp only [HS] at h3
    refine W_skip (tN (sQ (rG ?_)))
    refine WO_buildSlice tys [] Z Z (lt_of Z) Z Z Z Z Z (by decide) (by repeat (first | exact PartsOk.nil' | refine PartsOk.cons' rfl (by repeat (first | exact AbsL.nil' | refine AbsL.v' ?_ | refine AbsL.own' ?_ | refine AbsL.none' ?_)) Z ?_)) (by first | exact List.nodup_nil | exact nodup1 _ | decide | exact nodupB_sound Z) Z (by decide) ?_
    refine nZ Z (eK 2 Z (WO_sliceT tys Z Z (lt_of Z) Z Z Z Z Z Z Z Z (by first | omega | (simp only [List.length_map]; omega)) (by first | omega | (simp only [List.length_map]; omega)) (by first | omega | (simp only [List.length_map]; omega)) ?_))
    refine kZ [0,1,5,34,37] Z (WO_append tys Z Z (lt_of Z) Z Z Z Z Z (.own Z (by first | omega | (simp only [List.length_append]; omega))) Z (.read (readTD _ _ _)) (by decide) (by simp; omega) (by decide) Z ?_)
    refine nZ Z (eZ Z (oN (tN (sQ (rG (eK 2 Z ?_))))))
    refine WO_buildSlice tys [T.int n] Z Z (lt_of Z) Z Z Z Z Z (lt_of Z) (by repeat (first | exact PartsOk.nil' | refine PartsOk.cons' rfl (by repeat (first | exact AbsL.nil' | refine AbsL.v' ?_ | refine AbsL.own' ?_ | refine AbsL.none' ?_)) Z ?_)) (by first | exact List.nodup_nil | exact nodup1 _ | decide | exact nodupB_sound Z) Z (by decide) ?_
    refine nZ Z (WO_append tys Z Z (lt_of Z) Z Z Z Z Z (.own Z (by first | omega | (simp only [List.length_append]; omega))) Z (.own Z (by first | decide | omega)) (by decide) (by simp; omega) (by decide) Z ?_)
    refine nZ Z (eZ Z (oN (tN (sQ (kY [0,5,6] Z (rG (eK 3 Z (WO_sliceT tys Z Z (lt_of Z) Z Z Z Z Z Z Z Z (by first | omega | (simp only [List.length_map]; omega)) (by first | omega | (simp only [List.length_map]; omega)) (by first | omega | (simp only [List.length_map]; omega)) ?_))))))))
    refine WO_append tys Z Z (lt_of Z) Z Z Z Z Z (.own Z (by first | omega | (simp only [List.length_append]; omega))) Z (.read (readTD _ _ _)) (by decide) (by simp; omega) (by decide) Z ?_
    refine nZ Z (eZ Z (oN (tN ?_)))
    try (refine W_le (Le.gather (u := 4) (id := 34) rfl rfl (by first | (simp; done) | (simp; omega) | omega)) ?_; refine W_norm rfl ?_; refine W_le (Le.freeze (u := 4) rfl) ?_; refine W_norm rfl ?_)
    refine rT (eR ?_)
    · first
      | (exfalso; omega)
  simp only [HS] at h1
  refine eZ Z (gY Z (eZ Z (gY Z (WO_idxT tys Z Z (lt_of Z) Z Z Z Z Z Z Z (by omega) _ (getT _ _ (by omega) (by omega)) (gY Z (eZ Z (kZ [0,1,5,7,8,9,10,11,12,13,14,15] Z (gY Z (eZ Z (gY Z (eK 2 Z (oN (tN ?_)))))))))))))
  refine W_cond Z (fun h2 => ?_) (fun h2 => ?_)
  ·
    simp only [HS] at h2
    refine W_skip (tN (W_block (rG (eZ Z (evI ?_)))))
    refine eZ Z (oN (bN ?_))
    refine lQ _ ?_ ?_
    · skip
      refine ⟨by omega, by omega, fun i hi h => ?_⟩
      by_cases hq : (i : Int) < k
      · exact hk2 i hi hq
      · obtain rfl : i = k.toNat := by omega
        exact h2
    · (show Int.toNat _ < Int.toNat _); omega
  simp only [HS] at h2
  refine W_exit (tE (loopQ_e (inBlk_y (tN (sQ (sQ (rG (eK 2 Z (evE ?_)))))))))
  refine eK 2 Z ?_
  refine WO_guard Z Z Z Z (lt_of Z) (fun h3 => ?_) (fun h3 => ?_)
  rotate_left
  ·
    simp only [HS] at h3
    refine gM Z (kZ [0,1,5,25,26,27] Z (gM Z (gM Z (gM Z (gM Z (eZ Z (oN (tN (W_condF Z (W_skip (tN (sQ (rG ?_)))))))))))))
    refine WO_buildSlice tys [] Z Z (lt_of Z) Z Z Z Z Z (by decide) (by repeat (first | exact PartsOk.nil' | refine PartsOk.cons' rfl (by repeat (first | exact AbsL.nil' | refine AbsL.v' ?_ | refine AbsL.own' ?_ | refine AbsL.none' ?_)) Z ?_)) (by first | exact List.nodup_nil | exact nodup1 _ | decide | exact nodupB_sound Z) Z (by decide) ?_
    refine nZ Z (eK 2 Z (WO_sliceT tys Z Z (lt_of Z) Z Z Z Z Z Z Z Z (by first | omega | (simp only [List.length_map]; omega)) (by first | omega | (simp only [List.length_map]; omega)) (by first | omega | (simp only [List.length_map]; omega)) ?_))
    refine kZ [0,1,5,34,37] Z (WO_append tys Z Z (lt_of Z) Z Z Z Z Z (.own Z (by first | omega | (simp only [List.length_append]; omega))) Z (.read (readTD _ _ _)) (by decide) (by simp; omega) (by decide) Z ?_)
    refine nZ Z (eZ Z (oN (tN (sQ (rG (eK 2 Z ?_))))))
    refine WO_buildSlice tys [T.int n] Z Z (lt_of Z) Z Z Z Z Z (lt_of Z) (by repeat (first | exact PartsOk.nil' | refine PartsOk.cons' rfl (by repeat (first | exact AbsL.nil' | refine AbsL.v' ?_ | refine AbsL.own' ?_ | refine AbsL.none' ?_)) Z ?_)) (by first | exact List.nodup_nil | exact nodup1 _ | decide | exact nodupB_sound Z) Z (by decide) ?_
    refine nZ Z (WO_append tys Z Z (lt_of Z) Z Z Z Z Z (.own Z (by first | omega | (simp only [List.length_append]; omega))) Z (.own Z (by first | decide | omega)) (by decide) (by simp; omega) (by decide) Z ?_)
    refine nZ Z (eZ Z (oN (tN (sQ (kY [0,5,6] Z (rG (eK 3 Z (WO_sliceT tys Z Z (lt_of Z) Z Z Z Z Z Z Z Z (by first | omega | (simp only [List.length_map]; omega)) (by first | omega | (simp only [List.length_map]; omega)) (by first | omega | (simp only [List.length_map]; omega)) ?_))))))))
    refine WO_append tys Z Z (lt_of Z) Z Z Z Z Z (.own Z (by first | omega | (simp only [List.length_append]; omega))) Z (.read (readTD _ _ _)) (by decide) (by simp; omega) (by decide) Z ?_
    refine nZ Z (eZ Z (oN (tN ?_)))
    try (refine W_le (Le.gather (u := 4) (id := 34) rfl rfl (by first | (simp; done) | (simp; omega) | omega)) ?_; refine W_norm rfl ?_; refine W_le (Le.freeze (u := 4) rfl) ?_; refine W_norm rfl ?_)
    refine rT (eR ?_)
    · first
      | (exfalso; omega)
  simp only [HS] at h3
  refine eZ Z (gY Z (eZ Z (kZ [0,1,5,25,26,27] Z (gY Z (WO_idxT tys Z Z (lt_of Z) Z Z Z Z Z Z Z (by omega) _ (getT _ _ (by omega) (by omega)) (gY Z (eZ Z (gY Z (eZ Z (gY Z (eK 2 Z (oN (tN ?_)))))))))))))
  refine W_cond Z (fun h4 => ?_) (fun h4 => ?_)
  ·
    simp only [HS] at h4
    refine sQ (rG (eK 2 Z (oN (tN ?_))))
    try (refine W_le (Le.gather (u := 4) (id := 34) rfl rfl (by first | (simp; done) | (simp; omega) | omega)) ?_; refine W_norm rfl ?_; refine W_le (Le.freeze (u := 4) rfl) ?_; refine W_norm rfl ?_)
    refine rT (tR (eR ?_))
    · first
      | (refine retTI ?_; rw [put_same hk0 (by omega) (by assumption)]; done)
  simp only [HS] at h4
  refine W_skip (tN (sQ (rG ?_)))
  refine WO_buildSlice tys [] Z Z (lt_of Z) Z Z Z Z Z (by decide) (by repeat (first | exact PartsOk.nil' | refine PartsOk.cons' rfl (by repeat (first | exact AbsL.nil' | refine AbsL.v' ?_ | refine AbsL.own' ?_ | refine AbsL.none' ?_)) Z ?_)) (by first | exact List.nodup_nil | exact nodup1 _ | decide | exact nodupB_sound Z) Z (by decide) ?_
  refine nZ Z (eK 2 Z (WO_sliceT tys Z Z (lt_of Z) Z Z Z Z Z Z Z Z (by first | omega | (simp only [List.length_map]; omega)) (by first | omega | (simp only [List.length_map]; omega)) (by first | omega | (simp only [List.length_map]; omega)) ?_))
  refine kZ [0,1,5,34,37] Z (WO_append tys Z Z (lt_of Z) Z Z Z Z Z (.own Z (by first | omega | (simp only [List.length_append]; omega))) Z (.read (readTD _ _ _)) (by decide) (by simp; omega) (by decide) Z ?_)
  refine nZ Z (eZ Z (oN (tN (sQ (rG (eK 2 Z ?_))))))
  refine WO_buildSlice tys [T.int n] Z Z (lt_of Z) Z Z Z Z Z (lt_of Z) (by repeat (first | exact PartsOk.nil' | refine PartsOk.cons' rfl (by repeat (first | exact AbsL.nil' | refine AbsL.v' ?_ | refine AbsL.own' ?_ | refine AbsL.none' ?_)) Z ?_)) (by first | exact List.nodup_nil | exact nodup1 _ | decide | exact nodupB_sound Z) Z (by decide) ?_
  refine nZ Z (WO_append tys Z Z (lt_of Z) Z Z Z Z Z (.own Z (by first | omega | (simp only [List.length_append]; omega))) Z (.own Z (by first | decide | omega)) (by decide) (by simp; omega) (by decide) Z ?_)
  refine nZ Z (eZ Z (oN (tN (sQ (kY [0,5,6] Z (rG (eK 3 Z (WO_sliceT tys Z Z (lt_of Z) Z Z Z Z Z Z Z Z (by first | omega | (simp only [List.length_map]; omega)) (by first | omega | (simp only [List.length_map]; omega)) (by first | omega | (simp only [List.length_map]; omega)) ?_))))))))
  refine WO_append tys Z Z (lt_of Z) Z Z Z Z Z (.own Z (by first | omega | (simp only [List.length_append]; omega))) Z (.read (readTD _ _ _)) (by decide) (by simp; omega) (by decide) Z ?_
  refine nZ Z (eZ Z (oN (tN ?_)))
  try (refine W_le (Le.gather (u := 4) (id := 34) rfl rfl (by first | (simp; done) | (simp; omega) | omega)) ?_; refine W_norm rfl ?_; refine W_le (Le.freeze (u := 4) rfl) ?_; refine W_norm rfl ?_)
  refine rT (eR ?_)
  · first
    | (have e := put_new hr hk0 hk1 hk2 (fun h => by omega)
       refine retTI ?_
       rw [← put_shape e]
       simp only [take_app, List.take_length, List.nil_append, List.length_nil, Nat.zero_add, List.take_nil]
       done)
open Go.Eng
structure Met (N : Nat) (calls : Int → List Int) (fn : Int) (met : List Int) (k : Nat) : Prop where
 nodup : met.Nodup
 lead : ∀ x, x ∈ met → Lead calls fn x
 first : fn ∈ met
 closed : ∀ (i : Nat) (h : i < met.length), i < k → ∀ c, c ∈ calls met[i] → c ∈ met
section
variable {N : Nat} {calls : Int → List Int} {fn : Int} {met : List Int} {k : Nat}
end
structure Dfs (calls : Int → List Int) (fn : Int) (S ol : List Int) : Prop where
 leadS : ∀ x, x ∈ S → Lead calls fn x
 leadO : ∀ x, x ∈ ol → Lead calls fn x
 first : fn ∈ S ∨ fn ∈ ol
 closed : ∀ x, x ∈ S → ∀ c, c ∈ calls x → c ∈ S ∨ c ∈ ol
section
variable {N : Nat} {calls : Int → List Int} {fn x : Int} {S ol : List Int}
end
open Go.Eng
def mkI {α : Type} : List α → Int → List Int
 | [], _ => []
 | _ :: l, k => k :: mkI l (k + 1)
theorem mkI_len {α : Type} : ∀ (l : List α) (k : Int), (mkI l k).length = l.length
 | [], _ => rfl
 | _ :: l, k => by rw [mkI, List.length_cons, mkI_len l, List.length_cons]
theorem flat_one {α : Type} {g : α → T} (h : ∀ a, (g a).cells = [g a]) : ∀ l : List α, (l.map g).flatMap T.cells = l.map g
 | [] => rfl
 | a :: l => by rw [List.map_cons, List.flatMap_cons, h, flat_one h l]; rfl
theorem cell1 {α : Type} {g : α → T} {done l : List α} {i : Int} (hd : done.length = i.toNat) (h0 : 0 ≤ i) (h1 : i < l.length) : ((done ++ l.drop i.toNat).map g)[i.toNat * 1]? = some (g (l[i.toNat]'(by omega))) := by
 rw [drop_at h0 h1, Nat.mul_one, List.getElem?_map, get_done hd]; rfl
theorem set1 {α : Type} {g : α → T} {done l : List α} {i : Int} (hd : done.length = i.toNat) (h0 : 0 ≤ i) (h1 : i < l.length) (y : α) : ((done ++ l.drop i.toNat).map g).set (i.toNat * 1) (g y) = ((done ++ [y]) ++ l.drop (i + 1).toNat).map g := by
 rw [drop_at h0 h1, Nat.mul_one, ← List.map_set, set_done hd]
theorem markIntS_nil (k : Int) : Fun Tryz.prog 24 [.t (.list 1 []), .t (.int k)] (tupD [.t (.int k)]) := by
 refine Fun.begin tys Tryz.func24 Z Z (N := 19) [(0, .t (.list 1 [])), (1, .t (.int k))] Z Z (fun w0 G F0 => ?_)
 refine sQ (rG (eZ Z (oN (tN (sQ (sQ (rG (eZ Z (oN (tN (W_block ?_)))))))))))
 refine lK (α := Int) [0, 1] [] (fun x => [(5, .t (.int x))]) (fun x => []) (fun x => 0 ≤ x) (fun x => Int.toNat (0)) 0 ?_ (fun z hx => ?_)
 ·exact Int.le_refl 0
 have hz := hx
 refine nY Z (sQ (sQ (rG (eK 2 Z (evE ?_)))))
 refine eZ Z (oN (tN ?_))
 refine W_cond Z (fun h1 => ?_) (fun h1 => ?_)
 ·
  simp only [HS] at h1
  exfalso; simp at h1; omega
 simp only [HS] at h1
 refine W_exit (tE (loopQ_e (inBlk_y (tN (sQ (rG (eK 2 Z (oN (tN (rT (eR ?_)))))))))))
 ·rfl
theorem markIntS_m (l : List Int) (k : Int) (hk : 0 ≤ k) (hb : k + l.length ≤ 1073741824) : MarkF Tryz.prog 24 (.list 1 (l.map T.int)) (k) (k + l.length) (.list 1 ((mkI l k).map T.int)) := by
 refine MarkF.slice Tryz.func24 rfl rfl (N := 19) rfl (fun y hy => (by obtain ⟨a, _, rfl⟩ := List.mem_map.1 hy; rfl) ) ( by simp [mkI_len]) (fun h => by cases l with | nil => (rw [show k + (([] : List Int).length : Int) = k from by simp]; exact markIntS_nil k) | cons _ _ => simp at h) (fun b cap vs w0 G F0 => ?_)
 refine sQ (rG (eZ Z (oN (tN (sQ (sQ (rG (eZ Z (oN (tN (W_block ?_)))))))))))
 refine lK (α := Int × Int × List Value × List T) [0] [] (fun x => [(5, .t (.int (x.1))), (1, .t (.int (x.2.1)))]) (fun x => [(19, .raw b (cap * 1) (x.2.2.1) (x.2.2.2))]) (fun x => 0 ≤ (x.1) ∧ (x.1) ≤ l.length ∧ (x.2.1) = k + (x.1) ∧ ∃ done : List Int, done.length = (x.1).toNat ∧ (x.2.2.2) = (done ++ l.drop (x.1).toNat).map T.int ∧ mkI l k = done ++ mkI (l.drop (x.1).toNat) (x.2.1)) (fun x => Int.toNat (l.length - (x.1))) (0, k, vs, (l.map T.int).flatMap T.cells) ?_ (fun x hx => ?_)
 ·exact ⟨by omega, by omega, by show k = k + 0; omega, [], rfl, by rw [flat_one fun _ => rfl]; rfl, rfl⟩
 obtain ⟨i, k', vs', ts⟩ := x
 obtain ⟨hi0, hi1, hk', done, hd, hts, he⟩ := hx
 dsimp only at hi0 hi1 hk' hd hts he ⊢
 refine nY Z (sQ (sQ (rG (eK 2 Z (WO_lenV Z Z (lt_of Z) Z ⟨3, by kernel_rfl⟩ rfl (eZ Z (oN (tN ?_))))))))
 refine W_cond Z (fun h1 => ?_) (fun h1 => ?_)
 ·
  simp only [HS] at h1
  refine W_skip (tN (sQ (W_block (sQ (rG (eK 3 Z (WO_idxV tys Z Z (lt_of Z) Z Z Z Z Z Z (by omega) (by first | omega | (simp only [List.length_map]; omega)) ?_)))))))
  refine WO_storeV tys (id := 19) Z Z Z Z Z Z Z (by rw [hts]; exact cell1 hd hi0 (by omega)) Z Z Z ?_
  refine nZ Z (kZ [0,1,5,6,7,8,9,12,13,14,15] Z (oN (tN (rG (eZ Z (evI ?_))))))
  refine eZ Z (oN (bN (tN (rG (eZ Z (evI ?_))))))
  refine eZ Z (oN ?_)
  refine lQ (_, _, _, _) ?_ ?_
  ·dsimp only
   exact ⟨by omega, by omega, by omega, done ++ [k'], by simp [hd]; omega, by rw [hts]; exact set1 hd hi0 h1 k', by rw [he, drop_at hi0 h1, mkI]; simp⟩
  ·(show Int.toNat _ < Int.toNat _); omega
 simp only [HS] at h1
 refine W_exit (tE (loopQ_e (inBlk_y (tN (sQ (rG (eK 2 Z (oN (tN (rT ?_))))))))))
 refine EndsM_slice (.inr Z) Z Z Z ?_ ?_
 ·omega
 ·rw [hts, drop_end h1, he, drop_end h1, flat_one fun _ => rfl]; rfl
def heldI : List Int → Int → Int
 | [], k => k
 | x :: l, k => if x = k then heldI l (k + 1) else -1
theorem heldI_mk {α : Type} : ∀ (l : List α) (k : Int), heldI (mkI l k) k = k + l.length
 | [], k => by simp [mkI, heldI]
 | _ :: l, k => by rw [mkI, heldI, if_pos rfl, heldI_mk l, List.length_cons]; omega
theorem heldI_at {l : List Int} {i k : Int} (h0 : 0 ≤ i) (h1 : i < l.length) : heldI (l.drop i.toNat) k = if l[i.toNat]'(by omega) = k then heldI (l.drop (i + 1).toNat) (k + 1) else -1 := by
 rw [drop_at h0 h1, heldI]
theorem heldIntS_fun (l : List Int) (k : Int) (hk : 0 ≤ k) (hb : k + l.length ≤ 1073741824) : Fun Tryz.prog 25 [.t (T.ints l), .t (.int k)] (tupD [.t (.int (heldI l k))]) := by
 refine Fun.begin tys Tryz.func25 Z Z (N := 21) [(0, .t (T.ints l)), (1, .t (.int k))] Z Z (fun w0 G F0 => ?_)
 refine sQ (rG (eZ Z (oN (tN (sQ (sQ (rG (eZ Z (oN (tN (W_block ?_)))))))))))
 refine lK (α := Int × Int) [0] [] (fun x => [(5, .t (.int (x.1))), (1, .t (.int (x.2)))]) (fun x => []) (fun x => 0 ≤ (x.1) ∧ (x.1) ≤ l.length ∧ (x.2) = k + (x.1) ∧ heldI l k = heldI (l.drop (x.1).toNat) (x.2)) (fun x => Int.toNat (l.length - (x.1))) (0, k) ?_ (fun x hx => ?_)
 ·exact ⟨by omega, by omega, by show k = k + 0; omega, rfl⟩
 obtain ⟨i, k'⟩ := x
 obtain ⟨hi0, hi1, hk', he⟩ := hx
 dsimp only at hi0 hi1 hk' he ⊢
 refine nY Z (sQ (sQ (rG (eK 2 Z (evE ?_)))))
 refine eZ Z (oN (tN ?_))
 refine W_cond Z (fun h1 => ?_) (fun h1 => ?_)
 ·
  simp only [HS] at h1
  refine W_skip (tN (sQ (W_block (sQ (sQ (rG (eK 2 Z (WO_idxT tys Z Z (lt_of Z) Z Z Z Z Z Z Z (by omega) _ (getT _ _ (by omega) (by omega)) (eK 2 Z (kZ [0,1,5,6,7,8,9,12,13,14,15,16] Z (eZ Z (oN (tN ?_)))))))))))))
  refine W_cond Z (fun h2 => ?_) (fun h2 => ?_)
  ·
   simp only [HS] at h2
   refine sQ (rG (eZ Z (oN (tN (rT (tR (bR (tR (loopQ_r (bR (tR (eR ?_))))))))))))
   ·rw [he, heldI_at hi0 h1, if_neg h2]
    done
  simp only [HS] at h2
  refine W_skip (tN (rG (eZ Z (evI ?_))))
  refine eZ Z (oN (bN (tN (rG (eZ Z (evI ?_))))))
  refine eZ Z (oN ?_)
  refine lQ (_, _) ?_ ?_
  ·dsimp only
   exact ⟨by omega, by omega, by omega, by rw [he, heldI_at hi0 h1, if_pos (by assumption)]⟩
  ·(show Int.toNat _ < Int.toNat _); omega
 simp only [HS] at h1
 refine W_exit (tE (loopQ_e (inBlk_y (tN (sQ (rG (eK 2 Z (oN (tN (rT (eR ?_)))))))))))
 ·rw [he, drop_end h1]
  rfl
end Go.Proofs.YtimpganophnehaaGreat
