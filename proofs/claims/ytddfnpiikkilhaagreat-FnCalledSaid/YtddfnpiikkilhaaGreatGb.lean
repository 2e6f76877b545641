/- Walks and laws of the claim. -/
import Derived.Test.YtddfnpiikkilhaaGreatFe
import Derived.Test.YtddfnpiikkilhaaGreatMc
set_option linter.unusedVariables false
set_option linter.unusedSimpArgs false
set_option maxRecDepth 10000
set_option maxHeartbeats 1000000
namespace Go.Proofs.YtddfnpiikkilhaaGreat
open Go.Eng
open Go.Eng
def CX (s : Stmt) : Int := (s.thn.length : Int) + s.els.length
def Ak (vars : Int) (ps : List Int) (s : Stmt) : Bool :=
 if s.kind = 1 then DN vars ps s.ex && (decide (0 ≤ s.n ∧ s.n ≤ vars - 1) && decide (CX s = 0))
 else if s.kind = 2 ∨ s.kind = 4 ∨ s.kind = 5 ∨ s.kind = 9 then DN vars ps s.ex && (decide (s.n = 0) && decide (CX s = 0))
 else if s.kind = 3 then decide ((s.ex.length : Int) = 0) && (decide (0 ≤ s.n ∧ s.n ≤ (ps.length : Int) - 1) && decide (CX s = 0))
 else if s.kind = 6 then decide ((s.ex.length : Int) = 0) && (decide (s.n = 0) && decide (CX s = 0))
 else if s.kind = 7 then DN vars ps s.ex && decide (s.n = 0)
 else if s.kind = 8 then DN vars ps s.ex && (decide (s.n = 0) && decide ((s.els.length : Int) = 0))
 else false
def BD (vars : Int) (ps : List Int) (s : Stmt) : Bool := Ak vars ps s && (if s.kind = 3 then decide (atI ps s.n = 0) else true)
theorem ML (f : Func) (s : Stmt) (ps : List Int) (hs : s.ok 1048576) (hv : 0 ≤ f.vars ∧ f.vars ≤ 6) (hp : Mu ps) (hpb : BF ps = true) : Fun Tryz.prog 121 [.t f.tt, .t s.tt, .t (T.ints ps)] (Av [.t (.bool (Ak f.vars ps s))]) := by
 have hp1 := hp.1
 have hs1 : s.ex.length ≤ 1048576 := hs.1
 have hs2 : s.thn.length ≤ 1048576 := hs.2.1
 have hs3 : s.els.length ≤ 1048576 := hs.2.2.1
 refine Fun.begin tys Tryz.func121 Z Z (N := 115) [(0, .t f.tt), (1, .t s.tt), (2, .t (T.ints ps))] Z Z (fun w0 G F0 => ?_);refine sG (AR Z Z (AA Z) Z Z (nZ Z (AR Z Z (AA Z) Z Z (nZ Z (eZ Z (nA (eK 5 Z (AJ ?_))))))));refine ⟨_, Jq _ _ _ hv hp hpb hs1, rfl, ?_⟩;refine kZ [2,3,4,6,14] Z (eZ Z (nA (eK 4 Z ?_)));refine gB (fun h1 => ?_) (fun h1 => ?_)
 ·
  simp only [HS] at h1;refine xK 4 Z (kZ [2,3,4,6,7,18,21,23] Z (xK 5 Z (nB (sQ (sG (eK 2 Z (nB (AD (sQ (kY [2,3,4,6,7,8,29] Z (rG (eK 2 Z (nB ?_)))))))))))));refine AB Z (fun h2 => ?_) (fun h2 => ?_)
  ·
   simp only [HS] at h2;refine sG (eK 2 Z ?_);refine gB (fun h3 => ?_) (fun h3 => ?_)
   ·
    simp only [HS] at h3;refine xK 5 Z (kZ [4,6,33,39] Z (xK 9 Z (kZ [6,41,48] Z (xK 3 Z (nB (rT (bR (tR (eR ?_)))))))))
    ·exact retB (by grind [Ak, CX])
   refine xK 4 Z (gY Z (evI ?_));refine kZ [4,6,33,35,38] Z (gY Z (AJ ?_));refine ⟨_, Az _ _ _, rfl, ?_⟩;refine eK 2 Z ?_;refine gB (fun h4 => ?_) (fun h4 => ?_)
   ·
    simp only [HS] at h4;refine xK 6 Z (kZ [6,41,48] Z (xK 3 Z (nB (rT (bR (tR (eR ?_)))))))
    ·exact retB (by grind [Ak, CX])
   simp only [HS] at h4;refine xK 2 Z (gY Z (evE ?_));refine xK 2 Z (gY Z (evE ?_));refine kZ [6,41,44,47] Z (gY Z (evI ?_));refine xK 3 Z (nB (rT (bR (tR (eR ?_)))))
   ·exact retB (by grind [Ak, CX])
  simp only [HS] at h2;refine sQ (sG (eK 2 Z (nB ?_)));refine As (α := Bool) [2, 4, 6, 7, 8, 29] [3, 4] (fun x => [(51, .t (.bool x))]) (fun x => []) (fun x => x = decide (s.kind = 2 ∨ s.kind = 4 ∨ s.kind = 5 ∨ s.kind = 9)) ?_ (fun b hx => ?_)
  ·
   refine AB Z (fun h3 => ?_) (fun h3 => ?_)
   ·
    simp only [HS] at h3;refine AC (jQ _ ?_)
    grind
   simp only [HS] at h3;refine sG (eK 2 Z (nB ?_));refine AB Z (fun h4 => ?_) (fun h4 => ?_)
   ·
    simp only [HS] at h4;refine AC (jQ _ ?_)
    grind
   simp only [HS] at h4;refine sG (eK 2 Z (nB ?_));refine AB Z (fun h5 => ?_) (fun h5 => ?_)
   ·
    simp only [HS] at h5;refine AC (jQ _ ?_)
    grind
   simp only [HS] at h5;refine kY [2,4,6,7,8,29,51] Z (rG (eK 2 Z (oN (jQ _ ?_))))
   grind
  have hb := hx
  refine tN ?_;refine AB Z (fun h3 => ?_) (fun h3 => ?_)
  ·
   refine sQ (kY [6,7,8] Z (rG (eK 2 Z ?_)));refine gB (fun h4 => ?_) (fun h4 => ?_)
   ·
    simp only [HS] at h4;refine eK 2 Z (nB (rT (bR (tR (eR ?_)))))
    ·exact retB (by grind [Ak, CX])
   refine eK 3 Z (nB (rT (bR (tR (eR ?_)))))
   ·exact retB (by grind [Ak, CX])
  refine sQ (kY [2,4,6,7,8,29] Z (rG (eK 2 Z (nB ?_))));refine AB Z (fun h4 => ?_) (fun h4 => ?_)
  ·
   simp only [HS] at h4;refine sG (eK 2 Z (evE ?_));refine eK 2 Z ?_;refine gB (fun h5 => ?_) (fun h5 => ?_)
   ·
    simp only [HS] at h5;refine xK 2 Z (kZ [4,6,66,68,69] Z (xK 9 Z (kZ [6,74,77,78] Z (xK 6 Z (nB (rT (bR (tR (eR ?_)))))))))
    ·exact retB (by grind [Ak, CX])
   simp only [HS] at h5;refine xK 2 Z (kZ [2,4,6,66,68] Z (xZ Z (gY Z (evE ?_))));refine gY Z (evI ?_);refine gY Z (AJ ?_);refine ⟨_, Az _ _ _, rfl, ?_⟩;refine eK 2 Z ?_;refine gB (fun h6 => ?_) (fun h6 => ?_)
   ·
    simp only [HS] at h6;refine xK 3 Z (kZ [6,74,77,78] Z (xK 6 Z (nB (rT (bR (tR (eR ?_)))))))
    ·exact retB (by grind [Ak, CX])
   simp only [HS] at h6;refine xK 2 Z (gY Z (evE ?_));refine kZ [4,6,74,77] Z (xK 2 Z (gY Z (evE ?_)));refine gY Z (evI ?_);refine xK 3 Z (nB (rT (bR (tR (eR ?_)))))
   ·exact retB (by grind [Ak, CX])
  simp only [HS] at h4;refine sG (eK 2 Z (nB ?_));refine AB Z (fun h5 => ?_) (fun h5 => ?_)
  ·
   simp only [HS] at h5;refine sG (eK 2 Z (evE ?_));refine eK 2 Z (kZ [6,8,90] Z ?_);refine gB (fun h6 => ?_) (fun h6 => ?_)
   ·
    simp only [HS] at h6;refine eK 2 Z (nB (rT (bR (tR (eR ?_)))))
    ·exact retB (by grind [Ak, CX])
   simp only [HS] at h6;refine eK 3 Z (nB (rT (bR (tR (eR ?_)))))
   ·exact retB (by grind [Ak, CX])
  simp only [HS] at h5;refine sG (eK 2 Z (nB ?_));refine AB Z (fun h6 => ?_) (fun h6 => ?_)
  ·
   simp only [HS] at h6;refine sG (eK 2 Z ?_);refine gB (fun h7 => ?_) (fun h7 => ?_)
   ·
    simp only [HS] at h7;refine xZ Z (kZ [6,96,98] Z (xK 3 Z (nB (rT (bR (tR (eR ?_)))))))
    ·exact retB (by grind [Ak, CX])
   refine xK 2 Z (kZ [6,96,98] Z (xK 3 Z (nB (rT (bR (tR (eR ?_)))))))
   ·exact retB (by grind [Ak, CX])
  simp only [HS] at h6;refine sG (eK 2 Z (nB ?_));refine AB Z (fun h7 => ?_) (fun h7 => ?_)
  ·
   simp only [HS] at h7;refine sQ (kY [4,6,7] Z (rG (eK 2 Z ?_)));refine gB (fun h8 => ?_) (fun h8 => ?_)
   ·
    simp only [HS] at h8;refine xK 7 Z (kZ [6,109,112] Z (xK 3 Z (nB (rT (bR (tR (eR ?_)))))))
    ·exact retB (by grind [Ak, CX])
   refine xK 5 Z ?_;refine gB (fun h9 => ?_) (fun h9 => ?_)
   ·
    simp only [HS] at h9;refine xK 2 Z (kZ [6,109,112] Z (xK 3 Z (nB (rT (bR (tR (eR ?_)))))))
    ·exact retB (by grind [Ak, CX])
   simp only [HS] at h9;refine xK 2 Z (kZ [6,109,111] Z (gY Z (evE ?_)));refine xK 3 Z (nB (rT (bR (tR (eR ?_)))))
   ·exact retB (by grind [Ak, CX])
  simp only [HS] at h7;refine AC (bN (tN (sQ (kY [6] Z (rG (eZ Z (nB (rT (eR ?_)))))))))
  ·exact retB (by grind [Ak, CX])
 simp only [HS] at h1;refine xK 2 Z (gY Z (evE ?_));refine xZ Z (kZ [2,3,4,6,7,18,21,22] Z (xZ Z (gY Z (evE ?_))));refine gY Z (evI ?_);refine xK 3 Z (nB (sQ (sG (eK 2 Z (nB (AD (sQ (kY [2,3,4,6,7,8,29] Z (rG (eK 2 Z (nB ?_)))))))))));refine AB Z (fun h2 => ?_) (fun h2 => ?_)
 ·
  simp only [HS] at h2;refine sG (eK 2 Z ?_);refine gB (fun h3 => ?_) (fun h3 => ?_)
  ·
   simp only [HS] at h3;refine xK 5 Z (kZ [4,6,33,39] Z (xK 9 Z (kZ [6,41,48] Z (xK 3 Z (nB (rT (bR (tR (eR ?_)))))))))
   ·exact retB (by grind [Ak, CX])
  refine xK 4 Z (gY Z (evI ?_));refine kZ [4,6,33,35,38] Z (gY Z (AJ ?_));refine ⟨_, Az _ _ _, rfl, ?_⟩;refine eK 2 Z ?_;refine gB (fun h4 => ?_) (fun h4 => ?_)
  ·
   simp only [HS] at h4;refine xK 6 Z (kZ [6,41,48] Z (xK 3 Z (nB (rT (bR (tR (eR ?_)))))))
   ·exact retB (by grind [Ak, CX])
  simp only [HS] at h4;refine xK 2 Z (gY Z (evE ?_));refine xK 2 Z (gY Z (evE ?_));refine kZ [6,41,44,47] Z (gY Z (evI ?_));refine xK 3 Z (nB (rT (bR (tR (eR ?_)))))
  ·exact retB (by grind [Ak, CX])
 simp only [HS] at h2;refine sQ (sG (eK 2 Z (nB ?_)));refine As (α := Bool) [2, 4, 6, 7, 8, 29] [3, 4] (fun x => [(51, .t (.bool x))]) (fun x => []) (fun x => x = decide (s.kind = 2 ∨ s.kind = 4 ∨ s.kind = 5 ∨ s.kind = 9)) ?_ (fun b hx => ?_)
 ·
  refine AB Z (fun h3 => ?_) (fun h3 => ?_)
  ·
   simp only [HS] at h3;refine AC (jQ _ ?_)
   grind
  simp only [HS] at h3;refine sG (eK 2 Z (nB ?_));refine AB Z (fun h4 => ?_) (fun h4 => ?_)
  ·
   simp only [HS] at h4;refine AC (jQ _ ?_)
   grind
  simp only [HS] at h4;refine sG (eK 2 Z (nB ?_));refine AB Z (fun h5 => ?_) (fun h5 => ?_)
  ·
   simp only [HS] at h5;refine AC (jQ _ ?_)
   grind
  simp only [HS] at h5;refine kY [2,4,6,7,8,29,51] Z (rG (eK 2 Z (oN (jQ _ ?_))))
  grind
 have hb := hx
 refine tN ?_;refine AB Z (fun h3 => ?_) (fun h3 => ?_)
 ·
  refine sQ (kY [6,7,8] Z (rG (eK 2 Z ?_)));refine gB (fun h4 => ?_) (fun h4 => ?_)
  ·
   simp only [HS] at h4;refine eK 2 Z (nB (rT (bR (tR (eR ?_)))))
   ·exact retB (by grind [Ak, CX])
  refine eK 3 Z (nB (rT (bR (tR (eR ?_)))))
  ·exact retB (by grind [Ak, CX])
 refine sQ (kY [2,4,6,7,8,29] Z (rG (eK 2 Z (nB ?_))));refine AB Z (fun h4 => ?_) (fun h4 => ?_)
 ·
  simp only [HS] at h4;refine sG (eK 2 Z (evE ?_));refine eK 2 Z ?_;refine gB (fun h5 => ?_) (fun h5 => ?_)
  ·
   simp only [HS] at h5;refine xK 2 Z (kZ [4,6,66,68,69] Z (xK 9 Z (kZ [6,74,77,78] Z (xK 6 Z (nB (rT (bR (tR (eR ?_)))))))))
   ·exact retB (by grind [Ak, CX])
  simp only [HS] at h5;refine xK 2 Z (kZ [2,4,6,66,68] Z (xZ Z (gY Z (evE ?_))));refine gY Z (evI ?_);refine gY Z (AJ ?_);refine ⟨_, Az _ _ _, rfl, ?_⟩;refine eK 2 Z ?_;refine gB (fun h6 => ?_) (fun h6 => ?_)
  ·
   simp only [HS] at h6;refine xK 3 Z (kZ [6,74,77,78] Z (xK 6 Z (nB (rT (bR (tR (eR ?_)))))))
   ·exact retB (by grind [Ak, CX])
  simp only [HS] at h6;refine xK 2 Z (gY Z (evE ?_));refine kZ [4,6,74,77] Z (xK 2 Z (gY Z (evE ?_)));refine gY Z (evI ?_);refine xK 3 Z (nB (rT (bR (tR (eR ?_)))))
  ·exact retB (by grind [Ak, CX])
 simp only [HS] at h4;refine sG (eK 2 Z (nB ?_));refine AB Z (fun h5 => ?_) (fun h5 => ?_)
 ·
  simp only [HS] at h5;refine sG (eK 2 Z (evE ?_));refine eK 2 Z (kZ [6,8,90] Z ?_);refine gB (fun h6 => ?_) (fun h6 => ?_)
  ·
   simp only [HS] at h6;refine eK 2 Z (nB (rT (bR (tR (eR ?_)))))
   ·exact retB (by grind [Ak, CX])
  simp only [HS] at h6;refine eK 3 Z (nB (rT (bR (tR (eR ?_)))))
  ·exact retB (by grind [Ak, CX])
 simp only [HS] at h5;refine sG (eK 2 Z (nB ?_));refine AB Z (fun h6 => ?_) (fun h6 => ?_)
 ·
  simp only [HS] at h6;refine sG (eK 2 Z ?_);refine gB (fun h7 => ?_) (fun h7 => ?_)
  ·
   simp only [HS] at h7;refine xZ Z (kZ [6,96,98] Z (xK 3 Z (nB (rT (bR (tR (eR ?_)))))))
   ·exact retB (by grind [Ak, CX])
  refine xK 2 Z (kZ [6,96,98] Z (xK 3 Z (nB (rT (bR (tR (eR ?_)))))))
  ·exact retB (by grind [Ak, CX])
 simp only [HS] at h6;refine sG (eK 2 Z (nB ?_));refine AB Z (fun h7 => ?_) (fun h7 => ?_)
 ·
  simp only [HS] at h7;refine sQ (kY [4,6,7] Z (rG (eK 2 Z ?_)));refine gB (fun h8 => ?_) (fun h8 => ?_)
  ·
   simp only [HS] at h8;refine xK 7 Z (kZ [6,109,112] Z (xK 3 Z (nB (rT (bR (tR (eR ?_)))))))
   ·exact retB (by grind [Ak, CX])
  refine xK 5 Z ?_;refine gB (fun h9 => ?_) (fun h9 => ?_)
  ·
   simp only [HS] at h9;refine xK 2 Z (kZ [6,109,112] Z (xK 3 Z (nB (rT (bR (tR (eR ?_)))))))
   ·exact retB (by grind [Ak, CX])
  simp only [HS] at h9;refine xK 2 Z (kZ [6,109,111] Z (gY Z (evE ?_)));refine xK 3 Z (nB (rT (bR (tR (eR ?_)))))
  ·exact retB (by grind [Ak, CX])
 simp only [HS] at h7;refine AC (bN (tN (sQ (kY [6] Z (rG (eZ Z (nB (rT (eR ?_)))))))))
 ·exact retB (by grind [Ak, CX])
theorem MP (f : Func) (s : Stmt) (ps : List Int) (hs : s.ok 1048576) (hn : 0 ≤ s.n) (hv : 0 ≤ f.vars ∧ f.vars ≤ 6) (hp : Mu ps) : Fun Tryz.prog 78 [.t f.tt, .t s.tt, .t (T.ints ps)] (Av [.t (.bool (BD f.vars ps s))]) := by
 have hp1 := hp.1
 have hs1 : s.ex.length ≤ 1048576 := hs.1
 have hs2 : s.thn.length ≤ 1048576 := hs.2.1
 have hs3 : s.els.length ≤ 1048576 := hs.2.2.1
 refine Fun.begin tys Tryz.func78 Z Z (N := 97) [(0, .t f.tt), (1, .t s.tt), (2, .t (T.ints ps))] Z Z (fun w0 G F0 => ?_);refine sG (AR Z Z (AA Z) Z Z (nZ Z (AR Z Z (AA Z) Z Z (nZ Z (eZ Z (nB (sQ (sQ ?_))))))));refine As (α := Bool) [2, 3, 4, 6] [3, 4] (fun x => [(37, .t (.bool x))]) (fun x => []) (fun x => x = (!decide (1 ≤ s.kind ∧ s.kind ≤ 9) || ((decide (¬ s.kind = 7) && decide (0 < s.els.length)) || (decide (¬ s.kind = 7) && (decide (¬ s.kind = 8) && decide (0 < s.thn.length)))))) ?_ (fun bb hx => ?_)
 ·
  refine rG (eK 2 Z (AJ ?_));refine ⟨_, Ad _ _ _, rfl, ?_⟩;refine eK 2 Z ?_;refine gB (fun h1 => ?_) (fun h1 => ?_)
  ·
   simp only [HS] at h1;refine xZ Z (kZ [2,3,4,6,11,13] Z (xK 9 Z (kZ [2,3,4,6,22] Z (xK 9 Z (kZ [2,3,4,6,22,31] Z (xK 6 Z (oN (jQ _ ?_))))))))
   simp_all
   omega
  simp only [HS] at h1;refine xK 2 Z (kZ [2,3,4,6,11,13] Z (xK 2 Z ?_));refine gB (fun h2 => ?_) (fun h2 => ?_)
  ·
   simp only [HS] at h2;refine xK 7 Z (kZ [2,3,4,6,22,23] Z (xK 3 Z ?_));refine gB (fun h3 => ?_) (fun h3 => ?_)
   ·
    simp only [HS] at h3;refine xK 6 Z (kZ [2,3,4,6,22,31,33] Z (xK 4 Z (oN (jQ _ ?_))))
    simp_all
    done
   simp only [HS] at h3;refine xK 5 Z ?_;refine gB (fun h4 => ?_) (fun h4 => ?_)
   ·
    simp only [HS] at h4;refine xZ Z (kZ [2,3,4,6,22,31,33] Z (xK 4 Z (oN (jQ _ ?_))))
    simp_all
    done
   simp only [HS] at h4;refine xK 2 Z (kZ [2,3,4,6,22,31,33] Z (gY Z (evE ?_)));refine xK 3 Z (oN (jQ _ ?_))
   simp_all
   done
  simp only [HS] at h2;refine xK 2 Z (gY Z (evE ?_));refine xK 4 Z (kZ [2,3,4,6,22] Z ?_);refine gB (fun h3 => ?_) (fun h3 => ?_)
  ·
   simp only [HS] at h3;refine xK 9 Z (kZ [2,3,4,6,22,31,32] Z (xK 5 Z (oN (jQ _ ?_))))
   simp_all
   done
  simp only [HS] at h3;refine xK 4 Z ?_;refine gB (fun h4 => ?_) (fun h4 => ?_)
  ·
   simp only [HS] at h4;refine xK 5 Z (kZ [2,3,4,6,22,31,32] Z (xK 5 Z (oN (jQ _ ?_))))
   simp_all
   done
  simp only [HS] at h4;refine xK 5 Z (kZ [2,3,4,6,22,31] Z ?_);refine gB (fun h5 => ?_) (fun h5 => ?_)
  ·
   simp only [HS] at h5;refine xK 5 Z (oN (jQ _ ?_))
   simp_all
   done
  simp only [HS] at h5;refine xK 2 Z (gY Z (evE ?_));refine xK 3 Z (oN (jQ _ ?_))
  simp_all
  done
 have hbb := hx
 refine tN ?_;refine AB Z (fun h1 => ?_) (fun h1 => ?_)
 ·
  refine sQ (kY [2,3,4,6] Z (rG (eZ Z (nB (rT (tR (eR ?_)))))))
  ·have hh := BH f.vars ps s.ex
   refine retB ?_
   (have hq := hbb.symm.trans (by assumption : bb = true); clear hbb; simp only [TE, SC, Sp, decide_eq_true_eq, decide_eq_false_iff_not] at hq; rcases hq with hq | hq | hq <;> (first | grind [BD, Ak, CX, Bg]))
 refine AC (tN (sQ (sQ (kY [2,3,4,6] Z (rG (eK 2 Z (nB (AD (sG (eK 2 Z (nB ?_)))))))))));refine AB Z (fun h2 => ?_) (fun h2 => ?_)
 ·
  simp only [HS] at h2;refine sG (eK 2 Z (evE ?_));refine eK 2 Z (kZ [2,3,4,6,49] Z ?_);refine gB (fun h3 => ?_) (fun h3 => ?_)
  ·
   simp only [HS] at h3;refine xK 9 Z (kZ [2,3,4,6,49,53,59] Z (xK 9 Z (kZ [2,3,4,6,49,68] Z (eK 2 Z (nB (rT (bR (tR (eR ?_)))))))))
   ·have hh := BH f.vars ps s.ex
    refine retB ?_
    (have hq := hbb.symm.trans (by assumption : bb = false); clear hbb; simp only [Sa, TF, Bool.not_eq_false', decide_eq_true_eq, decide_eq_false_iff_not, Classical.not_not] at hq; obtain ⟨q1, q2, q3⟩ := hq; grind [BD, Ak, CX, Bg])
  simp only [HS] at h3;refine xK 4 Z ?_;refine gB (fun h4 => ?_) (fun h4 => ?_)
  ·
   simp only [HS] at h4;refine xK 5 Z (kZ [2,3,4,6,49,53,59] Z (xK 9 Z (kZ [2,3,4,6,49,68] Z (eK 2 Z (nB (rT (bR (tR (eR ?_)))))))))
   ·have hh := BH f.vars ps s.ex
    refine retB ?_
    (have hq := hbb.symm.trans (by assumption : bb = false); clear hbb; simp only [Sa, TF, Bool.not_eq_false', decide_eq_true_eq, decide_eq_false_iff_not, Classical.not_not] at hq; obtain ⟨q1, q2, q3⟩ := hq; grind [BD, Ak, CX, Bg])
  simp only [HS] at h4;refine xK 3 Z (gY Z (evE ?_));refine gY Z (evI ?_);refine kZ [2,3,4,6,49,53,55,58] Z (gY Z (AJ ?_));refine ⟨_, Ad _ _ _, rfl, ?_⟩;refine xZ Z ?_;refine gB (fun h5 => ?_) (fun h5 => ?_)
  ·
   simp only [HS] at h5;refine xK 7 Z (kZ [2,3,4,6,49,68] Z (eK 2 Z (nB (rT (bR (tR (eR ?_)))))))
   ·have hh := BH f.vars ps s.ex
    refine retB ?_
    (have hq := hbb.symm.trans (by assumption : bb = false); clear hbb; simp only [Sa, TF, Bool.not_eq_false', decide_eq_true_eq, decide_eq_false_iff_not, Classical.not_not] at hq; obtain ⟨q1, q2, q3⟩ := hq; grind [BD, Ak, CX, Bg])
  simp only [HS] at h5;refine xK 3 Z (gY Z ?_);refine iY (k := ?_);refine xK 3 Z (kZ [2,3,4,6,49,53,67] Z (xK 3 Z (nB (rT (bR (tR (eR ?_)))))))
  ·have hh := BH f.vars ps s.ex
   refine retB ?_
   (have hq := hbb.symm.trans (by assumption : bb = false); clear hbb; simp only [Sa, TF, Bool.not_eq_false', decide_eq_true_eq, decide_eq_false_iff_not, Classical.not_not] at hq; obtain ⟨q1, q2, q3⟩ := hq; grind [BD, Ak, CX, Bg])
 simp only [HS] at h2;refine sG (eK 2 Z (nB ?_));refine AB Z (fun h3 => ?_) (fun h3 => ?_)
 ·
  simp only [HS] at h3;refine sG (eK 2 Z (evE ?_));refine kZ [2,3,4,6,74] Z (eK 2 Z ?_);refine gB (fun h4 => ?_) (fun h4 => ?_)
  ·
   simp only [HS] at h4;refine xK 4 Z (nB (rT (bR (tR (eR ?_)))))
   ·have hh := BH f.vars ps s.ex
    refine retB ?_
    (have hq := hbb.symm.trans (by assumption : bb = false); clear hbb; simp only [Sa, TF, Bool.not_eq_false', decide_eq_true_eq, decide_eq_false_iff_not, Classical.not_not] at hq; obtain ⟨q1, q2, q3⟩ := hq; grind [BD, Ak, CX, Bg])
  simp only [HS] at h4;refine xK 5 Z (nB (rT (bR (tR (eR ?_)))))
  ·have hh := BH f.vars ps s.ex
   refine retB ?_
   (have hq := hbb.symm.trans (by assumption : bb = false); clear hbb; simp only [Sa, TF, Bool.not_eq_false', decide_eq_true_eq, decide_eq_false_iff_not, Classical.not_not] at hq; obtain ⟨q1, q2, q3⟩ := hq; grind [BD, Ak, CX, Bg])
 simp only [HS] at h3;refine sG (eK 2 Z (nB ?_));refine AB Z (fun h4 => ?_) (fun h4 => ?_)
 ·
  simp only [HS] at h4;refine sQ (kY [2,3,4,6] Z (rG (eK 4 Z (evI ?_))));refine AJ ?_;refine ⟨_, Ad _ _ _, rfl, ?_⟩;refine eZ Z (nB ?_);refine AB Z (fun h5 => ?_) (fun h5 => ?_)
  ·
   simp only [HS] at h5;refine sQ (kY [2,3,4,6] Z (rG (eZ Z (nB (rT (bR (tR (eR ?_))))))))
   ·have hh := BH f.vars ps s.ex
    refine retB ?_
    (have hq := hbb.symm.trans (by assumption : bb = false); clear hbb; simp only [Sa, TF, Bool.not_eq_false', decide_eq_true_eq, decide_eq_false_iff_not, Classical.not_not] at hq; obtain ⟨q1, q2, q3⟩ := hq; grind [BD, Ak, CX, Bg])
  simp only [HS] at h5;refine AC (bN (tN (sQ (kY [2,3,4,6] Z (rG (eK 5 Z (AJ ?_)))))));refine ⟨_, Hc _ _ _ (by omega) hp hs1, rfl, ?_⟩;refine eK 2 Z (nB (rT (eR ?_)))
  ·have hh := BH f.vars ps s.ex
   refine retB ?_
   (have hq := hbb.symm.trans (by assumption : bb = false); clear hbb; simp only [Sa, TF, Bool.not_eq_false', decide_eq_true_eq, decide_eq_false_iff_not, Classical.not_not] at hq; obtain ⟨q1, q2, q3⟩ := hq; grind [BD, Ak, CX, Bg])
 simp only [HS] at h4;refine sQ (kY [2,3,4,6] Z (rG (eK 3 Z (nB ?_))));refine AB Z (fun h5 => ?_) (fun h5 => ?_)
 ·
  simp only [HS] at h5;refine sG (eZ Z (nB (rT (bR (tR (eR ?_))))))
  ·have hh := BH f.vars ps s.ex
   refine retB ?_
   (have hq := hbb.symm.trans (by assumption : bb = false); clear hbb; simp only [Sa, TF, Bool.not_eq_false', decide_eq_true_eq, decide_eq_false_iff_not, Classical.not_not] at hq; obtain ⟨q1, q2, q3⟩ := hq; grind [BD, Ak, CX, Bg])
 simp only [HS] at h5;refine AC (bN (tN (sG (eK 5 Z (AJ ?_)))));refine ⟨_, Hc _ _ _ (by omega) hp hs1, rfl, ?_⟩;refine kZ [6,95] Z (eK 2 Z (nB (rT (eR ?_))))
 ·have hh := BH f.vars ps s.ex
  refine retB ?_
  (have hq := hbb.symm.trans (by assumption : bb = false); clear hbb; simp only [Sa, TF, Bool.not_eq_false', decide_eq_true_eq, decide_eq_false_iff_not, Classical.not_not] at hq; obtain ⟨q1, q2, q3⟩ := hq; grind [BD, Ak, CX, Bg])
theorem Km (l : List Stmt) (p : Stmt → Bool) (f : Nat) (caps : List D) (hcaps : caps.all D.imm = true) (hl : l.length ≤ 9223372036854775807) (hf : ∀ x, x ∈ l → Fun Tryz.prog f (.t x.tt :: caps) (.t (.bool (p x)))) : Fun Tryz.prog 115 [.t (T.Stmts l), .clo f caps] (Av [.t (.int (EL p l 0))]) := by
 refine Fun.begin tys Tryz.func115 Z Z (N := 19) [(0, .t (T.Stmts l)), (1, .clo f caps)] Z Z (fun w0 G F0 => ?_);refine sG (eZ Z (nB (sQ (sG (eZ Z (evE ?_))))));refine eZ Z (nB (AD ?_));refine lK (α := Int) [0, 1, 7] [] (fun x => [(8, .t (.int x))]) (fun x => []) (fun x => 0 ≤ x ∧ x ≤ l.length ∧ EL p l 0 = EL p (l.drop x.toNat) x) (fun x => Int.toNat (l.length - x)) 0 ?_ (fun k hx => ?_)
 ·exact ⟨by omega, by omega, rfl⟩
 obtain ⟨hk0, hk1, hk2⟩ := hx
 refine nY Z (sG (eZ Z (nB (sQ ?_))));refine AB Z (fun h1 => ?_) (fun h1 => ?_)
 ·
  simp only [HS] at h1;refine AC (tN (sQ (AD (sG (eK 2 Z (nA (D6 tys Z Z (AA Z) Z Z (by assumption) ?_)))))));refine eK 2 Z ?_;refine iY (k := ?_);refine eZ Z ?_
  try refine WO_le (Le.freeze (u := 15) rfl) ?_
  refine nZ Z ?_;refine DT Z Z (AA Z) Z Z (by repeat (first | exact ResL.done | exact ResL.imms (by first | rfl | assumption) | refine ResL.t ?_ | refine ResL.own ?_ | refine ResL.slA Z (by first | rfl | (simp; done) | (simp; omega)) ?_ | refine ResL.sl Z (by first | omega | (simp; done) | (simp; omega)) ?_ | refine ResL.rp ?_ | refine ResL.clo ?_ ?_ | refine ResL.aggT ?_ ?_ | refine ResL.ref Z ?_ ?_ | refine ResL.nil' ?_ | refine ResL.nil 1 ?_)) (hf _ (SJ _)) Z ?_;refine kZ [0,1,5,7,8,9,10,11,12,13,14,15,16] Z (nB ?_);refine AB Z (fun h2 => ?_) (fun h2 => ?_)
  ·
   refine sG (eK 2 Z (nB (rT (bR (tR (AO (bR (tR (eR ?_)))))))))
   ·rw [hk2, Hb hk0 h1]
    simp [h2]
    done
  refine AC (bN (tN (rG (evI ?_))));refine eZ Z (oN ?_);refine lQ _ ?_ ?_
  ·skip
   refine ⟨by omega, by omega, ?_⟩; rw [hk2, Hb hk0 h1]; simp [h2]
  ·(show Int.toNat _ < Int.toNat _); omega
 simp only [HS] at h1;refine AP (tE (AK (AI (tN (sG (eZ Z (nB (rT (eR ?_)))))))))
 ·rw [hk2, A1 h1]
  rfl
theorem Gc (l : List Stmt) (p : Stmt → Bool) (f : Nat) (caps : List D) (hcaps : caps.all D.imm = true) (hl : l.length ≤ 9223372036854775807) (hf : ∀ x, x ∈ l → Fun Tryz.prog f (.t x.tt :: caps) (.t (.bool (p x)))) : Fun Tryz.prog 76 [.t (T.Stmts l), .clo f caps] (Av [.t (.bool (l.any p))]) := by
 refine Fun.begin tys Tryz.func76 Z Z (N := 9) [(0, .t (T.Stmts l)), (1, .clo f caps)] Z Z (fun w0 G F0 => ?_);refine sG (eZ Z (nA (eZ Z (D6 tys Z Z (AA Z) Z Z (by assumption) ?_))));refine DT Z Z (AA Z) Z Z (by repeat (first | exact ResL.done | exact ResL.imms (by first | rfl | assumption) | refine ResL.t ?_ | refine ResL.own ?_ | refine ResL.slA Z (by first | rfl | (simp; done) | (simp; omega)) ?_ | refine ResL.sl Z (by first | omega | (simp; done) | (simp; omega)) ?_ | refine ResL.rp ?_ | refine ResL.clo ?_ ?_ | refine ResL.aggT ?_ ?_ | refine ResL.ref Z ?_ ?_ | refine ResL.nil' ?_ | refine ResL.nil 1 ?_)) (Km l p f caps hcaps hl hf) Z ?_;refine eK 2 Z (nB (rT (eR ?_)))
 ·rw [← Ep (TC 0)]
theorem NC {vars : Int} {ps : List Int} {s : Stmt} (h : s.n < 0) : BD vars ps s = false := by grind [BD, Ak]
theorem Kl (s : Stmt) (f : Func) (ps : List Int) (hs : s.ok 1048576) (hv : 0 ≤ f.vars ∧ f.vars ≤ 6) (hp : Mu ps) : Fun Tryz.prog 77 [.t s.tt, .rp f.tt 0, .rp (.agg [T.ints ps]) 0] (Av [.t (.bool (!BD f.vars ps s))]) := by
 refine Fun.begin tys Tryz.func77 Z Z (N := 15) [(0, .t s.tt), (1, .rp f.tt 0), (2, .rp (.agg [T.ints ps]) 0)] Z Z (fun w0 G F0 => ?_);refine sG (AR Z Z (AA Z) Z Z (nZ Z (eZ Z (nA (eK 4 Z ?_)))));refine gB (fun h1 => ?_) (fun h1 => ?_)
 ·
  simp only [HS] at h1;refine xK 3 Z (kZ [4,8,12] Z (xK 3 Z (nB (rT (eR ?_)))))
  ·exact retB (by rw [NC (by assumption)]; rfl)
 simp only [HS] at h1;refine eZ Z ?_
 try refine WO_le (Le.freeze (u := 9) rfl) ?_
 refine nZ Z (xZ Z ?_)
 try refine WO_le (Le.freeze (u := 10) rfl) ?_
 refine nZ Z (xZ Z (kZ [4,8,9,10,11] Z (gY Z (AJ ?_))));refine ⟨_, MP f s ps hs (by omega) hv hp, rfl, ?_⟩;refine xK 3 Z (nB (rT (eR ?_)))
 ·rfl
theorem HI (n : Int) : Fun Tryz.prog 111 [.t (.int n)] (Av [.t (.bool (!decide (0 ≤ n ∧ n ≤ 2)))]) := by
 refine Fun.begin tys Tryz.func111 Z Z (N := 6) [(0, .t (.int n))] Z Z (fun w0 G F0 => ?_);refine sG (eZ Z (nA (eZ Z (AJ ?_))));refine ⟨_, Ad _ _ _, rfl, ?_⟩;refine eK 2 Z (nB (rT (eR ?_)))
 ·rfl
theorem IL (ps : List Int) (hp : ps.length ≤ 1048576) : Fun Tryz.prog 74 [.t (T.ints ps)] (Av [.t (.bool (BF ps))]) := by
 refine Fun.begin tys Tryz.func74 Z Z (N := 11) [(0, .t (T.ints ps))] Z Z (fun w0 G F0 => ?_);refine sG (eZ Z (nA (eZ Z (evE ?_))));refine eK 2 Z ?_;refine gB (fun h1 => ?_) (fun h1 => ?_)
 ·
  simp only [HS] at h1;refine xK 4 Z (kZ [2] Z (nB (rT (eR ?_))))
  ·have e : (ps.any fun n => !decide (0 ≤ n ∧ n ≤ 2)) = !Cd ps 0 2 := (by rw [Cd, List.not_all_eq_any_not])
   exact retB (by grind [BF])
 simp only [HS] at h1;refine eZ Z (gY Z (AJ ?_));refine ⟨_, DM ps (fun n => !decide (0 ≤ n ∧ n ≤ 2)) _ [] Z (by omega) (fun x _ => HI x), rfl, ?_⟩;refine xK 2 Z (kZ [2,10] Z (eZ Z (nB (rT (eR ?_)))))
 ·have e : (ps.any fun n => !decide (0 ≤ n ∧ n ≤ 2)) = !Cd ps 0 2 := (by rw [Cd, List.not_all_eq_any_not])
  exact retB (by grind [BF])
def paramsL (p : Prog) : List Int := p.funcs.map (·.params)
def CI (ps : List Int) (f : Func) : Bool := Ap f && f.stmts.all (BD f.vars ps)
def D8 (ps : List Int) (f : Func) : Bool := Ap f && f.stmts.all (Ak f.vars ps)
def goodP (p : Prog) : Bool := decide ((1 : Int) ≤ p.funcs.length ∧ (p.funcs.length : Int) ≤ 5) && (BF (paramsL p) && (decide (atI (paramsL p) 0 = 0) && p.funcs.all (CI (paramsL p))))
theorem KW {f : Func} (h : Ap f = true) : 0 ≤ f.vars ∧ f.vars ≤ 6 := by
 unfold Ap FJ at h;simp only [SC, decide_eq_true_eq] at h;omega
theorem Be {p : Prog} (hp : p.ok 1048576) {n : Nat} (h : n < p.funcs.length) : (p.funcs[n]).ok 1048576 := hp.1.2 _ (SJ h)
theorem BV (p : Prog) : (paramsL p).length = p.funcs.length := SE ..
theorem BX {p : Prog} {n : Int} (h0 : 0 ≤ n) (h1 : n < p.funcs.length) : atI (paramsL p) n = (p.funcs[n.toNat]'(by omega)).params := by
 rw [Bg h0 (by rw [BV]; omega)]; simp [paramsL]
theorem J7 {vars : Int} {ps : List Int} {l : List Stmt} : (l.any fun s => !BD vars ps s) = !l.all (BD vars ps) := by rw [List.not_all_eq_any_not]
theorem getT2 {α β : Type} (f : β → T) (g : α → β) (l : List α) {i : Int} (h0 : 0 ≤ i) (h1 : i < l.length) : ((l.map g).map f)[i.toNat]? = some (f (g (l[i.toNat]'(by omega)))) := by
 rw [List.getElem?_map, List.getElem?_map, List.getElem?_eq_getElem (by omega)]; rfl
theorem Fu {p : Prog} {k : Int} (h0 : 0 ≤ k) (h1 : k < p.funcs.length) (h : CI (paramsL p) (p.funcs[k.toNat]'(by omega)) = false) : p.funcs.all (CI (paramsL p)) = false := Fd h0 h1 h
theorem CP (p : Prog) (hp : p.ok 1048576) : Fun Tryz.prog 37 [.t p.tt] (Av [.t (.bool (goodP p))]) := by
 have hl : p.funcs.length ≤ 1048576 := hp.1.1
 refine Fun.begin tys Tryz.func37 Z Z (N := 41) [(0, .t p.tt)] Z Z (fun w0 G F0 => ?_);refine sG (AR Z Z (AA Z) Z Z (nZ Z (eZ Z (nA (eZ Z ?_)))))
 try refine WO_le (Le.freeze (u := 6) rfl) ?_
 refine nZ Z (AJ ?_);refine ⟨_, JN p hp, rfl, ?_⟩;refine WO_le (Le.freeze (u := 7) Z) (nZ Z (AL tys Z Z (AA Z) Z Z Z (nZ Z (sT Z (nZ Z (nB (sQ (sG (eK 2 Z (evE ?_))))))))));refine kZ [1,2,3,10] Z (AJ ?_);refine ⟨_, Ad _ _ _, rfl, ?_⟩;refine eK 2 Z ?_;refine gB (fun h1 => ?_) (fun h1 => ?_)
 ·
  simp only [HS] at h1;refine xK 6 Z (kZ [1,2,3,18,20] Z (xK 3 Z (nB (Ab Z (sG (eZ Z (nB (rT (tR (eR ?_))))))))))
  ·first
   | (refine retB ?_; rw [goodP]; simp only [h1, decide_false, Bool.false_and]; done)
 simp only [HS] at h1;refine eZ Z (gY Z (AJ ?_));refine ⟨_, IL _ (by simp; omega), rfl, ?_⟩;refine xK 3 Z ?_;refine gB (fun h2 => ?_) (fun h2 => ?_)
 ·
  simp only [HS] at h2;refine xZ Z (kZ [1,2,3,18,20] Z (xK 3 Z (nB (Ab Z (sG (eZ Z (nB (rT (tR (eR ?_))))))))))
  ·first
   | (refine retB ?_; rw [goodP, show BF (paramsL p) = false from h2]; simp; done)
 simp only [HS] at h2;refine eZ Z (gY Z (Gv tys Z Z (AA Z) Z Z Z Z Z Z Z (by omega) _ (getT2 _ _ _ (by omega) (by omega)) (kZ [1,2,3,18,20] Z (xK 3 Z (nB ?_)))));refine AB Z (fun h3 => ?_) (fun h3 => ?_)
 ·
  simp only [HS] at h3;refine sG (eZ Z (nB (rT (tR (eR ?_)))))
  ·first
   | (refine retB ?_; have h3' : ¬ (p.funcs[(0 : Int).toNat]'(by simp; omega)).params = 0 := h3; rw [goodP, BX (by omega) (by omega)]; simp only [h3', decide_false, Bool.false_and, Bool.and_false]; done)
 simp only [HS] at h3;refine AC (tN (sQ (sG (eK 2 Z (evE ?_)))));refine eZ Z (nB (AD ?_));refine lK (α := Int) [1, 3, 25, 26] [1, 3] (fun x => [(27, .t (.int x))]) (fun x => []) (fun x => 0 ≤ x ∧ x ≤ p.funcs.length ∧ (p.funcs.take x.toNat).all (CI (paramsL p)) = true ∧ Mu (paramsL p) ∧ goodP p = p.funcs.all (CI (paramsL p))) (fun x => Int.toNat (p.funcs.length - x)) 0 ?_ (fun k hx => ?_)
 ·have hp2 : BF (paramsL p) = true := by assumption
  have h0' : (p.funcs[(0 : Int).toNat]'(by simp; omega)).params = 0 := by assumption
  refine ⟨by omega, by omega, by simp, FH hp2, ?_⟩;rw [goodP, hp2, BX (by omega) (by omega), h0']
  simp; intros; omega
 obtain ⟨hk0, hk1, hall, hps, hgp⟩ := hx
 refine nY Z (sG (eZ Z (nB (sQ ?_))));refine AB Z (fun h4 => ?_) (fun h4 => ?_)
 ·
  simp only [HS] at h4;refine AC (tN (sQ (AD (sG ?_))));refine iY (k := ?_);refine eZ Z ?_
  try refine WO_le (Le.freeze (u := 30) rfl) ?_
  refine nZ Z (AL tys Z Z (AA Z) Z Z Z (nZ Z (sT Z (nZ Z (nA (eZ Z ?_))))))
  try refine WO_le (Le.freeze (u := 31) rfl) ?_
  refine nZ Z (AJ ?_);refine ⟨_, Jj _ (Be hp _), rfl, ?_⟩;refine eK 2 Z (kZ [1,3,5,25,26,27,28,29,30,31,32,33,34] Z ?_);refine gB (fun h5 => ?_) (fun h5 => ?_)
  ·
   simp only [HS] at h5;refine xK 4 Z (nB (Ab Z (sG (eZ Z (nB (rT (bR (tR (AO (bR (tR (eR ?_))))))))))))
   ·first
    | (refine retB ?_; rw [hgp, Fu hk0 h4 (by unfold CI; rw [h5]; rfl)]; done)
  simp only [HS] at h5;refine xK 3 Z (gY Z (AJ ?_));refine ⟨_, Gc _ (fun s => !BD (p.funcs[k.toNat]'(by omega)).vars (paramsL p) s) _ [.rp (p.funcs[k.toNat]'(by omega)).tt 0, .rp (.agg [T.ints (paramsL p)]) 0] Z (by have := (Be hp (n := k.toNat) (by omega)).2.1.1; omega) (fun s hs => Kl s _ _ ((Be hp (n := k.toNat) (by omega)).2.1.2 s hs) (KW (by assumption)) hps), rfl, ?_⟩;refine eZ Z (nB ?_);refine AB Z (fun h6 => ?_) (fun h6 => ?_)
  ·
   refine sG (eZ Z (nB (rT (bR (tR (AO (bR (tR (eR ?_)))))))))
   ·first
    | (refine retB ?_; rw [hgp, Fu hk0 h4 (by rw [J7] at h6; unfold CI; rw [h5]; simpa using h6)]; done)
  refine AC (bN (tN (rG (evI ?_))));refine eZ Z (oN ?_);refine lQ _ ?_ ?_
  ·skip
   refine ⟨by omega, by omega, DA hk0 (by omega) hall ?_, hps, hgp⟩;unfold CI;rw [J7] at *
   simp_all
  ·(show Int.toNat _ < Int.toNat _); omega
 simp only [HS] at h4;refine AP (tE (AK (AI (tN (sG (eZ Z (nB (rT (eR ?_)))))))))
 ·first
  | (refine retB ?_; rw [hgp, E0 (by omega) hall]; done)
theorem sitesF_mem : ∀ {l : List Stmt} {k x : Int}, x ∈ Ai l k ↔ ∃ j : Nat, ∃ h : j < l.length, x = k + j ∧ (l[j]).kind = 3
 | [], k, x => by simp [Ai]
 | s :: l, k, x => by
  have ih := sitesF_mem (l := l) (k := k + 1) (x := x)
  have e : (∃ j : Nat, ∃ h : j < (s :: l).length, x = k + j ∧ ((s :: l)[j]).kind = 3) ↔ (x = k ∧ s.kind = 3) ∨ ∃ j : Nat, ∃ h : j < l.length, x = k + 1 + j ∧ (l[j]).kind = 3 := by
   constructor
   ·rintro ⟨j, hj, h1, h2⟩
    cases j with
    | zero => exact .inl ⟨by simpa using h1, by simpa using h2⟩
    | succ j => exact .inr ⟨j, by simpa using hj, by rw [h1]; omega, by simpa using h2⟩
   ·rintro (⟨h1, h2⟩ | ⟨j, hj, h1, h2⟩)
    ·exact ⟨0, by simp, by simpa using h1, by simpa using h2⟩
    ·exact ⟨j + 1, by simpa using hj, by rw [h1]; omega, by simpa using h2⟩
  rw [e, Ai];split
  ·rename_i h; rw [SL, ih]; simp [h]
  ·rename_i h; rw [ih]; simp [h]
theorem HP : ∀ (l : List Stmt) (k : Int), (Ai l k).length ≤ l.length
 | [], k => by simp [Ai]
 | s :: l, k => by
  have := HP l (k + 1)
  rw [Ai]
  split <;> simp only [SG] <;> omega
theorem PM {f : Func} (h : DR f.stmts f.body = false) : CR f.stmts f.body = false := by
 rw [Bool.eq_false_iff]; intro hs;rw [(shape_blocks.1 hs).1] at h; cases h
theorem PH {f : Func} {ps : List Int} {m : Int} (h0 : 0 ≤ m) (h1 : m < f.stmts.length) (h : Ak f.vars ps (f.stmts[m.toNat]'(by omega)) = false) : f.stmts.all (Ak f.vars ps) = false := Fd h0 h1 h
theorem MM (f : Func) (ps : List Int) (hf : f.ok 1048576) (hp : Mu ps) (hpb : BF ps = true) : Fun Tryz.prog 86 [.t f.tt, .t (T.ints ps)] (Av [.t (.bool (D8 ps f))]) := by
  have hl : f.stmts.length ≤ 1048576 := hf.2.1.1
  have hbl : f.body.length ≤ 1048576 := hf.1
  refine Fun.begin tys Tryz.func86 Z Z (N := 87) [(0, .t f.tt), (1, .t (T.ints ps))] Z Z (fun w0 G F0 => ?_);refine sG (AR Z Z (AA Z) Z Z (nZ Z (eZ Z (nB (sQ (sG (eK 2 Z (AJ ?_))))))));refine ⟨_, Az _ _ _, rfl, ?_⟩;refine eK 2 Z ?_;refine gB (fun h1 => ?_) (fun h1 => ?_)
  ·
    simp only [HS] at h1;refine xK 2 Z (kZ [1,2,4,15,17,18] Z (xK 9 Z (kZ [1,2,4,23,27] Z (xK 9 Z (kZ [1,2,4,34,36] Z (xK 3 Z (nB (Ab Z (sG (eZ Z (nB (rT (tR (eR ?_))))))))))))))
    · first
      | (refine retB ?_; rw [D8, Ap, FJ]; simp only [h1, decide_false, Bool.false_and]; done)
  simp only [HS] at h1;refine xK 2 Z (kZ [1,2,4,15,17] Z (xK 2 Z (gY Z (AJ ?_))));refine ⟨_, Az _ _ _, rfl, ?_⟩;refine xK 3 Z ?_;refine gB (fun h2 => ?_) (fun h2 => ?_)
  ·
    simp only [HS] at h2;refine xK 3 Z (kZ [1,2,4,23,27] Z (xK 9 Z (kZ [1,2,4,34,36] Z (xK 3 Z (nB (Ab Z (sG (eZ Z (nB (rT (tR (eR ?_))))))))))))
    · first
      | (refine retB ?_; rw [D8, Ap, FJ]; simp only [h2, decide_false, Bool.false_and, Bool.and_false]; done)
  simp only [HS] at h2;refine xK 2 Z (gY Z (evE ?_));refine kZ [1,2,4,23,26] Z (xK 3 Z ?_);refine gB (fun h3 => ?_) (fun h3 => ?_)
  ·
    simp only [HS] at h3;refine xK 6 Z (kZ [1,2,4,34,36] Z (xK 3 Z (nB (Ab Z (sG (eZ Z (nB (rT (tR (eR ?_))))))))))
    · first
      | (refine retB ?_; rw [D8, Ap, FJ]; simp only [Int.not_le.2 h3, decide_false, Bool.false_and, Bool.and_false]; done)
  simp only [HS] at h3;refine eZ Z ?_
  try refine WO_le (Le.freeze (u := 30) rfl) ?_
  refine nZ Z (gY Z (AJ ?_));refine ⟨_, Jc f hf (by omega), rfl, ?_⟩;refine xK 3 Z ?_;refine gB (fun h4 => ?_) (fun h4 => ?_)
  ·
    simp only [HS] at h4;refine xZ Z (kZ [1,2,4,34,36] Z (xK 3 Z (nB (Ab Z (sG (eZ Z (nB (rT (tR (eR ?_))))))))))
    · first
      | (refine retB ?_; rw [D8, Ap, PM h4]; simp; done)
  simp only [HS] at h4;refine eZ Z ?_
  try refine WO_le (Le.freeze (u := 35) rfl) ?_
  refine nZ Z (gY Z (AJ ?_));refine ⟨_, GW f hf, rfl, ?_⟩;refine WO_le (Le.adoptE (u := 36) 36 Z (by first | exact Ia | exact Z)) ?_;refine nZ Z (kZ [1,2,4,34,36] Z (gY Z (evE ?_)));refine xK 2 Z (nB ?_);refine AB Z (fun h5 => ?_) (fun h5 => ?_)
  ·
    simp only [HS] at h5;refine sG (eZ Z (nB (rT (tR (eR ?_)))))
    · first
      | (refine retB ?_; rw [D8, Ap, L5]; simp only [Int.not_le.2 h5, decide_false, Bool.false_and, Bool.and_false]; done)
  simp only [HS] at h5;refine AC (tN (sQ (sG ?_)))
  have hbk := blocksB_iff.1 h4
  have hd := hbk.2.2.1
  have hb := hbk.1
  have hol : (BC f f.body).length = f.stmts.length := Mc h4
  refine eZ Z ?_
  try refine WO_le (Le.freeze (u := 40) rfl) ?_
  refine nZ Z (eK 2 Z (AJ ?_));refine ⟨_, FZ f hf hd hb hbl (by omega), rfl, ?_⟩;refine WO_le (Le.adoptE (u := 43) 43 Z (by first | exact Ia | exact Z)) ?_;refine nZ Z (evE ?_);refine eZ Z (kZ [1,2,4,43,44,45] Z (nB (AD ?_)));refine lK (α := Int) [1, 2, 43, 44] [2, 43] (fun x => [(45, .t (.int x))]) (fun x => []) (fun x => 0 ≤ x ∧ x ≤ (BC f f.body).length ∧ ∀ (q : Nat) (h : q < (BC f f.body).length), q < x → (BC f f.body)[q] = (q : Int)) (fun x => Int.toNat ((BC f f.body).length - x)) 0 ?_ (fun j hx => ?_)
  · exact ⟨by omega, by omega, fun q h h' => by omega⟩
  obtain ⟨hj0, hj1, hj⟩ := hx
  refine nY Z (sG (eZ Z (nB (sQ ?_))));refine AB Z (fun h6 => ?_) (fun h6 => ?_)
  ·
    simp only [HS] at h6;refine AC (tN (sQ (AD (sG (eZ Z (Ac tys Z Z (AA Z) Z Z Z Z Z Z Z Z (by omega) (by omega) (AS tys Z Z (AA Z) Z Z Z Z (Dk _ _ (by omega) (by omega)) Z (eK 2 Z (nA (eK 3 Z (kZ [1,2,5,6,43,44,45,46,47,48,49,50,51,52] Z (nB ?_))))))))))));refine AB Z (fun h7 => ?_) (fun h7 => ?_)
    ·
      simp only [HS] at h7;refine sG (eZ Z (nB (rT (bR (tR (AO (bR (tR (eR ?_)))))))))
      · first
        | (refine retB ?_; rw [D8, Ap, Qd hj0 h6 (fun e => h7 e.symm)]; simp; done)
    simp only [HS] at h7;refine AC (bN (tN (rG (evI ?_))));refine eZ Z (oN ?_);refine lQ _ ?_ ?_
    · skip
      refine ⟨by omega, by omega, fun q h h' => ?_⟩
      by_cases hq : (q : Int) < j
      · exact hj q h hq
      · obtain rfl : q = j.toNat := by omega
        omega
    · (show Int.toNat _ < Int.toNat _); omega
  simp only [HS] at h6;refine AP (tE (AK (AI (tN (sQ (sG (eK 2 Z (evE ?_))))))));refine eZ Z (nB (AD ?_));refine lK (α := Int) [1, 2, 55, 56] [2] (fun x => [(57, .t (.int x))]) (fun x => []) (fun x => 0 ≤ x ∧ x ≤ f.stmts.length ∧ CR f.stmts f.body = true ∧ (f.stmts.take x.toNat).all (DG f) = true ∧ (f.stmts.take x.toNat).all (Ak f.vars ps) = true) (fun x => Int.toNat (f.stmts.length - x)) 0 ?_ (fun m hx => ?_)
  · exact ⟨by omega, by omega, shape_blocks.2 ⟨h4, fun q h => hj q h (by unfold BC at h6; omega)⟩, by simp, by simp⟩
  obtain ⟨hm0, hm1, hsh, hmw, hms⟩ := hx
  refine nY Z (sG (eZ Z (nB (sQ ?_))));refine AB Z (fun h7 => ?_) (fun h7 => ?_)
  ·
    simp only [HS] at h7;refine AC (tN (sQ (AD (sG ?_))));refine iY (k := ?_);refine eZ Z ?_
    try refine WO_le (Le.freeze (u := 60) rfl) ?_
    refine nZ Z (AL tys Z Z (AA Z) Z Z Z (nZ Z (sT Z (nZ Z (nB (sQ (sG (eZ Z ?_))))))))
    try refine WO_le (Le.freeze (u := 61) rfl) ?_
    refine nZ Z (eZ Z ?_)
    try refine WO_le (Le.freeze (u := 62) rfl) ?_
    refine nZ Z (eZ Z (AJ ?_));refine ⟨_, ML f _ ps (hf.2.1.2 _ (SJ _)) (by omega) hp hpb, rfl, ?_⟩;refine kZ [1,2,8,55,56,57,58,59,60,61,62,63,64] Z (eZ Z (nB ?_));refine AB Z (fun h8 => ?_) (fun h8 => ?_)
    ·
      simp only [HS] at h8;refine sG (eZ Z (nB (rT (tR (bR (tR (AO (bR (tR (eR ?_))))))))))
      · first
        | (refine retB ?_; rw [D8, PH hm0 h7 h8]; simp; done)
    simp only [HS] at h8;refine AC (tN (sQ (sG (eK 3 Z (nB ?_)))));refine AB Z (fun h9 => ?_) (fun h9 => ?_)
    ·
      simp only [HS] at h9;refine AP (tE (AI (tN (rG (evI ?_)))));refine eZ Z (oN ?_);refine lQ _ ?_ ?_
      · skip
        refine ⟨by omega, by omega, hsh, DA hm0 (by omega) hmw ?_, DA hm0 (by omega) hms (by assumption)⟩
        first
        | (unfold DG; rw [if_neg (by omega)]; done)
      · (show Int.toNat _ < Int.toNat _); omega
    simp only [HS] at h9;refine AC (tN (sG ?_))
    have hmt : m.toNat < f.stmts.length := by omega
    have hbt : inB f.stmts.length 0 (f.stmts[m.toNat]'hmt).thn := by
      have := (hd m (by omega) (by omega)).1
      rw [kids_at hmt] at this;exact BO this (by omega)
    have hut := Du f.stmts hmt
    have hul := K4 f.stmts m.toNat
    have hsu := HQ hsh
    have hot : (BC f (f.stmts[m.toNat]'hmt).thn).length ≤ 1048576 := FI hd hbt (by omega) (by omega)
    refine eZ Z ?_
    try refine WO_le (Le.freeze (u := 69) rfl) ?_
    refine nZ Z (eK 2 Z (AJ ?_));refine ⟨_, FZ f hf hd hbt (CQ hf hmt).1 hot, rfl, ?_⟩;refine WO_le (Le.adoptE (u := 72) 72 Z (by first | exact Ia | exact Z)) ?_;refine nZ Z (evE ?_);refine kZ [1,2,8,55,56,57,58,59,60,61,62,63,64,65,66,67,68,69,70,71,72,73] Z (eZ Z (nB (AD ?_)));refine lK (α := Int) [1, 2, 55, 56, 57, 72, 73] [2, 72] (fun x => [(74, .t (.int x))]) (fun x => []) (fun x => 0 ≤ x ∧ x ≤ (BC f (f.stmts[m.toNat]'(by omega)).thn).length ∧ ((BC f (f.stmts[m.toNat]'(by omega)).thn).take x.toNat).all (fun n => decide (¬ Ji f n = 3)) = true) (fun x => Int.toNat ((BC f (f.stmts[m.toNat]'(by omega)).thn).length - x)) 0 ?_ (fun r hx => ?_)
    · exact ⟨by omega, by omega, by simp⟩
    obtain ⟨hr0, hr1, hrw⟩ := hx
    refine nY Z (sG (eZ Z (nB (sQ ?_))));refine AB Z (fun h10 => ?_) (fun h10 => ?_)
    ·
      simp only [HS] at h10;refine AC (tN (sQ (AD (sG (Ac tys Z Z (AA Z) Z Z Z Z Z Z Z Z (by omega) (by omega) (AS tys Z Z (AA Z) Z Z Z Z (Dk _ _ (by omega) (by omega)) Z ?_))))))
      have hn := Ef hd hbt _ (SJ (l := BC f (f.stmts[m.toNat]'(by omega)).thn) (n := r.toNat) (by omega))
      refine eZ Z (nA (eK 3 Z ?_));refine iY (k := ?_);refine eZ Z (kZ [1,2,10,55,56,57,72,73,74,75,76,77,78,79,80,81,82] Z (eK 2 Z (nB ?_)));refine AB Z (fun h11 => ?_) (fun h11 => ?_)
      ·
        simp only [HS] at h11;refine sG (eZ Z (nB (rT (bR (tR (AO (bR (bR (tR (AO (bR (tR (eR ?_)))))))))))))
        · first
          | (have e : MF f (f.stmts[m.toNat]'(by omega)).thn = false := (by unfold MF; exact Fd hr0 (by omega) (by rw [Eo (by omega)]; simp; omega))
             refine retB ?_; rw [D8, Ap, K3 hm0 (by omega) (by omega) e]; simp; done)
      simp only [HS] at h11;refine AC (bN (tN (rG (evI ?_))));refine eZ Z (oN ?_);refine lQ _ ?_ ?_
      · skip
        exact ⟨by omega, by omega, DA hr0 (by omega) hrw (by rw [Eo (by omega)]; simp; assumption)⟩
      · (show Int.toNat _ < Int.toNat _); omega
    simp only [HS] at h10;refine AP (tE (AK (AI (bN (tN (rG (evI ?_)))))));refine eZ Z (oN ?_);refine lQ _ ?_ ?_
    · skip
      refine ⟨by omega, by omega, hsh, DA hm0 (by omega) hmw ?_, DA hm0 (by omega) hms (by assumption)⟩
      first
      | (unfold DG; rw [if_pos (by omega)]; exact E0 (by omega) hrw)
    · (show Int.toNat _ < Int.toNat _); omega
  simp only [HS] at h7;refine AP (tE (AK (AI (tN (sG (eZ Z (nB (rT (eR ?_)))))))))
  · first
    | (refine retB ?_
       rw [D8, Ap, hsh, Ih, E0 (by omega) hmw, E0 (by omega) hms, FJ, L5];simp only [h1, h2, h3, h5, and_self, decide_true, Bool.and_self]
       done)
open Go.Eng
theorem M9 {vars : Int} {ps : List Int} {s : Stmt} (h : Ak vars ps s = true) (hk : s.kind = 3) : 0 ≤ s.n ∧ s.n < ps.length := by
 unfold Ak at h
 simp [hk] at h
 omega
theorem Lm {ps : List Int} {f : Func} (h : D8 ps f = true) : Ap f = true ∧ ∀ (m : Nat) (hm : m < f.stmts.length), Ak f.vars ps (f.stmts[m]) = true := by
 unfold D8 at h;rw [SC, SP] at h;exact ⟨h.1, fun m hm => h.2 _ (SJ hm)⟩
theorem Ra {ps : List Int} {f : Func} (h : CI ps f = true) : D8 ps f = true := by
 unfold CI D8 at *;rw [SC, SP] at *;exact ⟨h.1, fun s hs => by have := h.2 s hs; unfold BD at this; rw [SC] at this; exact this.1⟩
theorem Q9 {f : Func} {ps : List Int} {q : Int} (hw : D8 ps f = true) (h0 : 0 ≤ q) (h1 : q < (Ai f.stmts 0).length) :
  0 ≤ (Ai f.stmts 0)[q.toNat]'(by omega) ∧ ∃ h : ((Ai f.stmts 0)[q.toNat]'(by omega)).toNat < f.stmts.length, (f.stmts[((Ai f.stmts 0)[q.toNat]'(by omega)).toNat]'h).kind = 3 ∧ 0 ≤ (f.stmts[((Ai f.stmts 0)[q.toNat]'(by omega)).toNat]'h).n ∧ (f.stmts[((Ai f.stmts 0)[q.toNat]'(by omega)).toNat]'h).n < ps.length := by
 obtain ⟨j, hj, he, hk⟩ := sitesF_mem.1 (SJ (l := Ai f.stmts 0) (n := q.toNat) (by omega))
 have hx : (((Ai f.stmts 0)[q.toNat]'(by omega))).toNat = j := by omega
 refine ⟨by omega, by omega, ?_⟩
 have h2 := (Lm hw).2 _ hj
 have h3 := M9 h2 hk
 simp only [hx];exact ⟨hk, h3⟩
theorem P2 {ps : List Int} {f : Func} (hw : D8 ps f = true) (h : ∀ (q : Nat) (hq : q < (Ai f.stmts 0).length) (hm : ((Ai f.stmts 0)[q]).toNat < f.stmts.length), atI ps (f.stmts[((Ai f.stmts 0)[q]).toNat]).n = 0) : CI ps f = true := by
 have hw' := Lm hw
 unfold CI;rw [SC, SP];refine ⟨hw'.1, fun s hs => ?_⟩
 obtain ⟨m, hm, rfl⟩ := Se hs
 unfold BD;rw [SC];refine ⟨hw'.2 m hm, ?_⟩;split
 ·rename_i hk
  obtain ⟨q, hq, he⟩ := Se (sitesF_mem.2 ⟨m, hm, rfl, hk⟩ : (0 : Int) + m ∈ Ai f.stmts 0)
  have := h q hq (by rw [he]; omega)
  simp only [he, show ((0 : Int) + m).toNat = m from by omega] at this;rw [this]; rfl
 ·rfl
theorem OB {ps : List Int} {f : Func} {n : Nat} (hn : n < f.stmts.length) (hk : (f.stmts[n]).kind = 3) (h : ¬ atI ps (f.stmts[n]).n = 0) : CI ps f = false := by
 rw [Bool.eq_false_iff];intro hg;unfold CI at hg;rw [SC, SP] at hg
 have := hg.2 _ (SJ hn)
 unfold BD at this;rw [if_pos hk, SC] at this;exact h (by simpa using this.2)
theorem BZ (p : Prog) (hp : p.ok 1048576) : Fun Tryz.prog 40 [.t p.tt] (Av [.t (.bool (goodP p))]) := by
 have hl : p.funcs.length ≤ 1048576 := hp.1.1
 refine Fun.begin tys Tryz.func40 Z Z (N := 59) [(0, .t p.tt)] Z Z (fun w0 G F0 => ?_);refine sG (AR Z Z (AA Z) Z Z (nZ Z (eZ Z (nB (sQ (sG (eK 2 Z (evE ?_))))))));refine AJ ?_;refine ⟨_, Az _ _ _, rfl, ?_⟩;refine eK 2 Z ?_;refine gB (fun h1 => ?_) (fun h1 => ?_)
 ·
  simp only [HS] at h1;refine xZ Z (kZ [1,2,12,14] Z (xK 9 Z (kZ [1,2,18,23] Z (xK 2 Z (nB (Ab Z (sG (eZ Z (nB (rT (tR (eR ?_))))))))))))
  ·first
   | (refine retB ?_; rw [goodP]; simp only [h1, decide_false, Bool.false_and]; done)
 simp only [HS] at h1;refine eZ Z ?_
 try refine WO_le (Le.freeze (u := 13) rfl) ?_
 refine nZ Z (gY Z (AJ ?_));refine ⟨_, FY p hp, rfl, ?_⟩;refine WO_le (Le.adoptE (u := 14) 14 Z (by first | exact Ia | exact Z)) ?_;refine nZ Z (kZ [1,2,12,14] Z (gY Z (AJ ?_)));refine ⟨_, Fa _ (by simp; omega), rfl, ?_⟩;refine xK 3 Z ?_;refine gB (fun h2 => ?_) (fun h2 => ?_)
 ·
  simp only [HS] at h2;refine xK 5 Z (kZ [1,2,18,24] Z (eZ Z (nB (Ab Z (sG (eZ Z (nB (rT (tR (eR ?_))))))))))
  ·first
   | (refine retB ?_; rw [goodP, show BF (paramsL p) = false from h2]; simp; done)
 simp only [HS] at h2;refine xK 2 Z (gY Z ?_);refine iY (k := ?_);refine xK 2 Z (kZ [1,2,18,23] Z (xK 2 Z (nB ?_)));refine AB Z (fun h3 => ?_) (fun h3 => ?_)
 ·
  simp only [HS] at h3;refine sG (eZ Z (nB (rT (tR (eR ?_)))))
  ·first
   | (refine retB ?_; have h3' : ¬ (p.funcs[(0 : Int).toNat]'(by simp; omega)).params = 0 := h3; rw [goodP, BX (by omega) (by omega)]; simp only [h3', decide_false, Bool.false_and, Bool.and_false]; done)
 simp only [HS] at h3;refine AC (tN (sQ (sG (eK 2 Z (evE ?_)))));refine eZ Z (nB (AD ?_));refine lK (α := Int) [1, 27, 28] [1] (fun x => [(29, .t (.int x))]) (fun x => []) (fun x => 0 ≤ x ∧ x ≤ p.funcs.length ∧ (p.funcs.take x.toNat).all (CI (paramsL p)) = true ∧ Mu (paramsL p) ∧ BF (paramsL p) = true ∧ goodP p = p.funcs.all (CI (paramsL p))) (fun x => Int.toNat (p.funcs.length - x)) 0 ?_ (fun k hx => ?_)
 ·have hp2 : BF (paramsL p) = true := by assumption
  have h0' : (p.funcs[(0 : Int).toNat]'(by simp; omega)).params = 0 := by assumption
  refine ⟨by omega, by omega, by simp, FH hp2, hp2, ?_⟩;rw [goodP, hp2, BX (by omega) (by omega), h0']
  simp; intros; omega
 obtain ⟨hk0, hk1, hall, hps, hpb, hgp⟩ := hx
 refine nY Z (sG (eZ Z (nB (sQ ?_))));refine AB Z (fun h4 => ?_) (fun h4 => ?_)
 ·
  simp only [HS] at h4;refine AC (tN (sQ (AD (sG ?_))));refine iY (k := ?_);refine eZ Z ?_
  try refine WO_le (Le.freeze (u := 32) rfl) ?_
  refine nZ Z (AL tys Z Z (AA Z) Z Z Z (nZ Z (sT Z (nZ Z (nB (sQ (sQ (Am BJ (by kernel_rfl) (evQ ?_)))))))));refine AU Z (evQ ?_);refine Fc ?_;refine ⟨_, FY p hp, rfl, ?_⟩;refine Fc ?_;refine ⟨_, MM _ _ (Be hp _) hps hpb, rfl, ?_⟩;refine evQ ?_;refine BE (tN ?_);refine AB Z (fun h5 => ?_) (fun h5 => ?_)
  ·
   simp only [HS] at h5;refine sG (eZ Z (nB (rT (tR (bR (tR (AO (bR (tR (eR ?_))))))))))
   ·first
    | (refine retB ?_; rw [hgp, Fu hk0 h4 (Bool.eq_false_iff.2 fun h => Bool.eq_false_iff.1 h5 (Ra h))]; done)
  simp only [HS] at h5;refine AC (tN (sG (eZ Z ?_)))
  try refine WO_le (Le.freeze (u := 38) rfl) ?_
  refine nZ Z (AJ ?_);refine ⟨_, GW _ (Be hp _), rfl, ?_⟩;refine WO_le (Le.adoptE (u := 39) 39 Z (by first | exact Ia | exact Z)) ?_;refine nZ Z (evE ?_);refine eZ Z (nB (AD ?_));refine lK (α := Int) [1, 4, 27, 28, 29, 39, 40] [1, 4, 39] (fun x => [(41, .t (.int x))]) (fun x => []) (fun x => 0 ≤ x ∧ x ≤ (Ai (p.funcs[k.toNat]'(by omega)).stmts 0).length ∧ ∀ (i : Nat) (hi : i < (Ai (p.funcs[k.toNat]'(by omega)).stmts 0).length), (i : Int) < x → ∀ (hm : ((Ai (p.funcs[k.toNat]'(by omega)).stmts 0)[i]).toNat < (p.funcs[k.toNat]'(by omega)).stmts.length), atI (paramsL p) ((p.funcs[k.toNat]'(by omega)).stmts[((Ai (p.funcs[k.toNat]'(by omega)).stmts 0)[i]).toNat]).n = 0) (fun x => Int.toNat ((Ai (p.funcs[k.toNat]'(by omega)).stmts 0).length - x)) 0 ?_ (fun q hx => ?_)
  ·exact ⟨by omega, by omega, fun i hi h => by omega⟩
  obtain ⟨hq0, hq1, hqz⟩ := hx
  refine nY Z (sG (eZ Z (nB (sQ ?_))));refine AB Z (fun h6 => ?_) (fun h6 => ?_)
  ·
   simp only [HS] at h6;refine AC (tN (sQ (AD (sG (Ac tys Z Z (AA Z) Z Z Z Z Z Z Z Z (by omega) (by omega) (AS tys Z Z (AA Z) Z Z Z Z (Dk _ _ (by omega) (by omega)) Z ?_))))))
   obtain ⟨hs0, hs1, hsk, hsn0, hsn1⟩ := Q9 (ps := paramsL p) h5 hq0 h6
   rw [BV] at hsn1
   have hsl := HP (p.funcs[k.toNat]'(by omega)).stmts 0
   have hfl := (Be hp (n := k.toNat) (by omega)).2.1.1
   refine eZ Z (nB (sQ (Am BJ (by kernel_rfl) (evQ ?_))));refine evQ ?_;refine AU Z (evQ ?_);refine evQ ?_;refine evQ ?_;refine Bq tys Z Z (AA Z) Z Z Z Z Z Z Z (by omega) _ (HE _ _ (by omega) (by omega)) (evQ ?_);refine evQ ?_;refine AU Z (Bq tys Z Z (AA Z) Z Z Z Z Z Z Z (by omega) _ (HE _ _ (by omega) (by omega)) (evQ ?_));refine evQ ?_;refine evQ ?_;refine BE (tN ?_);refine AB Z (fun h7 => ?_) (fun h7 => ?_)
   ·
    simp only [HS] at h7;refine sG (eZ Z (nB (rT (bR (tR (AO (bR (bR (tR (AO (bR (tR (eR ?_)))))))))))))
    ·first
     | (refine retB ?_; rw [hgp, Fu hk0 h4 (OB hs1 hsk (by rw [BX hsn0 hsn1]; assumption))]; done)
   simp only [HS] at h7;refine AC (bN (tN (rG (evI ?_))));refine eZ Z (oN ?_);refine lQ _ ?_ ?_
   ·skip
    refine ⟨by omega, by omega, fun i hi h hm => ?_⟩
    by_cases hiq : (i : Int) < q
    ·exact hqz i hi hiq hm
    ·obtain rfl : i = q.toNat := by omega
     rw [BX hsn0 hsn1]; assumption
   ·(show Int.toNat _ < Int.toNat _); omega
  simp only [HS] at h6;refine AP (tE (AK (AI (bN (tN (rG (evI ?_)))))));refine eZ Z (oN ?_);refine lQ _ ?_ ?_
  ·skip
   exact ⟨by omega, by omega, DA hk0 (by omega) hall (P2 h5 fun q hq hm => hqz q hq (by omega) hm), hps, hpb, hgp⟩
  ·(show Int.toNat _ < Int.toNat _); omega
 simp only [HS] at h4;refine AP (tE (AK (AI (tN (sG (eZ Z (nB (rT (eR ?_)))))))))
 ·first
  | (refine retB ?_; rw [hgp, E0 (by omega) hall]; done)
open Go.Eng
theorem MB {a a' : Int} {b b' : Bool} (h : a = a') (h' : b = b') : [D.t (T.v (Value.int .i64 a)), D.t (T.v (Value.bool b))] = [D.t (T.int a'), D.t (T.bool b')] := by rw [h, h']
theorem I7 {a a' b b' : Bool} (h : a = a') (h' : b = b') : [D.t (T.v (Value.bool a)), D.t (T.v (Value.bool b))] = [D.t (T.bool a'), D.t (T.bool b')] := by rw [h, h']
theorem AV {p : Prog} (h : goodP p = true) : 1 ≤ p.funcs.length ∧ p.funcs.length ≤ 5 := by
 unfold goodP at h;simp only [SC, decide_eq_true_eq] at h;omega
theorem CH {p : Prog} (h : goodP p = true) {n : Nat} (hn : n < p.funcs.length) : CI (paramsL p) (p.funcs[n]) = true := by
 unfold goodP at h;simp only [SC, SP] at h;exact h.2.2.2 _ (SJ hn)
theorem H7 {p : Prog} (h : goodP p = true) : Mu (paramsL p) := by
 unfold goodP at h;simp only [SC] at h;exact FH h.2.1
theorem Ge {ps : List Int} {f : Func} (h : CI ps f = true) : f.stmts.length ≤ 16 := by
 unfold CI Ap FJ at h;simp only [SC, decide_eq_true_eq] at h;omega
theorem Gd {ps : List Int} {f : Func} (h : CI ps f = true) : Ap f = true := by
 unfold CI at h;rw [SC] at h;exact h.1
theorem Cn {ps : List Int} {f : Func} (h : CI ps f = true) {n : Nat} (hn : n < f.stmts.length) : BD f.vars ps (f.stmts[n]) = true := by
 unfold CI at h;rw [SC, SP] at h;exact h.2 _ (SJ hn)
theorem Ip {vars : Int} {ps : List Int} {s : Stmt} (h : BD vars ps s = true) (hk : s.kind = 3) : 0 ≤ s.n ∧ s.n < ps.length ∧ s.ex = [] := by
 unfold BD at h;rw [SC] at h
 have h1 := h.1
 unfold Ak at h1
 simp [hk] at h1
 exact ⟨by omega, by omega, h1.1⟩
theorem runE_known {vars : Int} {ps : List Int} : ∀ {l : List Tok} {h m : Int} {r : Int × Int}, C2 vars ps l h m = some r → ∀ t, t ∈ l → knownT vars ps.length t = true
 | [], _, _, _, _, t, ht => by cases ht
 | x :: l, h, m, r, e, t, ht => by
  rw [C2] at e;split at e
  ·rename_i hc
   rw [SC] at hc
   rcases SL.1 ht with rfl | ht
   ·exact hc.1
   ·exact runE_known e t ht
  ·cases e
theorem Gf {vars : Int} {ps : List Int} {l : List Tok} (h : DN vars ps l = true) {t : Tok} (ht : t ∈ l) : knownT vars ps.length t = true := by
 unfold DN at h;split at h
 ·rename_i e; exact runE_known e t ht
 ·cases h
theorem OC {vars : Int} {ps : List Int} {l : List Tok} (h : DN vars ps l = true) : l.length ≤ 12 := by
 unfold DN at h;split at h
 ·rw [SC] at h; have := h.2; simp at this; omega
 ·cases h
theorem stmtG_ex {vars : Int} {ps : List Int} {s : Stmt} (h : BD vars ps s = true) : s.ex = [] ∨ DN vars ps s.ex = true := by
 unfold BD at h;rw [SC] at h
 have h1 := h.1
 unfold Ak at h1
 by_cases he : DN vars ps s.ex = true
 ·exact .inr he
 ·left
  have he' : DN vars ps s.ex = false := by simpa using he
  rw [he'] at h1
  simp at h1
  grind
theorem NB {vars : Int} {ps : List Int} {s : Stmt} (h : BD vars ps s = true) {t : Tok} (ht : t ∈ s.ex) (ho : t.op = 11) : 0 ≤ t.n ∧ t.n < ps.length := by
 rcases stmtG_ex h with h | h
 ·rw [h] at ht; cases ht
 ·exact CG (Gf h ht) ho
theorem GC {vars : Int} {ps : List Int} {s : Stmt} (h : BD vars ps s = true) : s.ex.length ≤ 12 := by
 rcases stmtG_ex h with h | h
 ·rw [h]; simp
 ·exact OC h
def stmtAt (f : Func) (n : Int) : Stmt := (f.stmts[n.toNat]?).getD ⟨0, 0, [], [], []⟩
theorem Bv {f : Func} {n : Int} (h : n.toNat < f.stmts.length) : f.stmts[n.toNat] = stmtAt f n := by
 unfold stmtAt; rw [List.getElem?_eq_getElem h]; rfl
def funcAt (p : Prog) (n : Int) : Func := (p.funcs[n.toNat]?).getD ⟨0, 0, [], []⟩
theorem Ay {p : Prog} {n : Int} (h : n.toNat < p.funcs.length) : p.funcs[n.toNat] = funcAt p n := by
 unfold funcAt; rw [List.getElem?_eq_getElem h]; rfl
def op0 (l : List Tok) : Int := (l[(0 : Int).toNat]?.map (·.op)).getD 0
def guard1 (f : Func) : Bool := decide ((f.stmts.length : Int) = 2) && (decide ((stmtAt f 0).kind = 3) && (decide ((stmtAt f 1).kind = 9) && (decide (((stmtAt f 1).ex.length : Int) = 1) && decide (op0 (stmtAt f 1).ex = 11))))
def guard2 (f : Func) : Bool := decide ((f.stmts.length : Int) = 1) && (decide ((stmtAt f 0).kind = 2) && (decide (((stmtAt f 0).ex.length : Int) = 1) && decide (op0 (stmtAt f 0).ex = 10)))
def guarded (p : Prog) : Bool := goodP p && (guard1 (funcAt p 0) && guard2 (funcAt p (stmtAt (funcAt p 0) 0).n))
open Go.Eng
def d3 (s : Stmt) : List Int := if s.kind = 3 then [s.n] else []
def G3 (l : List Tok) : List Int := (l.filter fun t => decide (t.op = 11)).map (·.n)
def seqS (s : Stmt) : List Int := d3 s ++ G3 s.ex
def EP (l : List Stmt) : List Int := l.flatMap seqS
theorem Dc {l : List Tok} {k : Int} (h0 : 0 ≤ k) (h1 : k < l.length) : G3 (l.take (k + 1).toNat) = G3 (l.take k.toNat) ++ (if (l[k.toNat]'(by omega)).op = 11 then [(l[k.toNat]'(by omega)).n] else []) := by
 unfold G3;rw [BU h0 h1, List.filter_append, Sf]
 congr 1
 split <;> simp [*]
theorem GF {l : List Stmt} {k : Int} (h0 : 0 ≤ k) (h1 : k < l.length) : EP (l.take (k + 1).toNat) = EP (l.take k.toNat) ++ (d3 (l[k.toNat]'(by omega)) ++ G3 (l[k.toNat]'(by omega)).ex) := by
 unfold EP;rw [BU h0 h1, TA]
 simp [seqS]
theorem NK {N : Int} {l : List Stmt} (h : ∀ x, x ∈ EP l → 0 ≤ x ∧ x < N) {n : Nat} (hn : n < l.length) (hk : (l[n]).kind = 3) : 0 ≤ (l[n]).n ∧ (l[n]).n < N :=
 h _ (Sc.2 ⟨_, SJ hn, Sj _ (by rw [d3, if_pos hk]; exact SN.2 rfl)⟩)
theorem NJ {N : Int} {l : List Stmt} (h : ∀ x, x ∈ EP l → 0 ≤ x ∧ x < N) {n : Nat} (hn : n < l.length) {j : Nat} (hj : j < (l[n]).ex.length) (hk : ((l[n]).ex[j]).op = 11) : 0 ≤ ((l[n]).ex[j]).n ∧ ((l[n]).ex[j]).n < N :=
 h _ (Sc.2 ⟨_, SJ hn, Sk _ (Sq.2 ⟨_, List.mem_filter.2 ⟨SJ hj, by simpa using hk⟩, rfl⟩)⟩)
theorem Je (l : List Int) (n : Int) (hl : l.length ≤ 1073741824) : Fun Tryz.prog 89 [.t (T.ints l), .t (.int n)] (Av [.t (.bool (decide (n ∈ l)))]) := by
 refine Fun.begin tys Tryz.func89 Z Z (N := 17) [(0, .t (T.ints l)), (1, .t (.int n))] Z Z (fun w0 G F0 => ?_);refine sG (eZ Z (nB (sQ (sG (eZ Z (evE ?_))))));refine eZ Z (nB (AD ?_));refine lK (α := Int) [1, 7, 8] [] (fun x => [(9, .t (.int x))]) (fun x => []) (fun x => 0 ≤ x ∧ x ≤ l.length ∧ n ∉ l.take x.toNat) (fun x => Int.toNat (l.length - x)) 0 ?_ (fun k hx => ?_)
 ·exact ⟨by omega, by omega, by simp⟩
 obtain ⟨hk0, hk1, hk2⟩ := hx
 refine nY Z (sG (eZ Z (nB (sQ ?_))));refine AB Z (fun h1 => ?_) (fun h1 => ?_)
 ·
  simp only [HS] at h1;refine AC (tN (sQ (AD (sG ?_))));refine iY (k := ?_);refine eK 2 Z (nA (eK 3 Z (nB ?_)));refine AB Z (fun h2 => ?_) (fun h2 => ?_)
  ·
   simp only [HS] at h2;refine sQ (kY [1,6,7,8,9,10,11,12,13,14,15] Z (rG (eZ Z (nB (rT (bR (tR (AO (bR (tR (eR ?_)))))))))))
   ·exact retB (decide_eq_true (h2 ▸ SJ _)).symm
  simp only [HS] at h2;refine AC (bN (tN (kY [1,6,7,8,9,10,11,12,13,14,15] Z (rG (evI ?_)))));refine eZ Z (oN ?_);refine lQ _ ?_ ?_
  ·skip
   refine ⟨by omega, by omega, ?_⟩; rw [BU hk0 (by omega), SF, SN]; exact fun h => h.elim hk2 fun e => h2 e.symm
  ·(show Int.toNat _ < Int.toNat _); omega
 simp only [HS] at h1;refine AP (tE (AK (AI (tN (sG (eZ Z (nB (rT (eR ?_)))))))))
 ·(rw [Af (by omega)] at hk2; exact retB (decide_eq_false hk2).symm)
theorem FU (l : List Int) (i j : Nat) : ∀ x, x ∈ ((l.map T.int).drop i).take j → (T.cells x).length = 1 ∧ ∀ y, y ∈ T.cells x → ∃ v, y = .v v :=
 fun x hx => RF l x (S9 (S3 hx))
theorem Hm {α : Type} (x y : List α) : List.take (x.length + y.length) (x ++ y) = x ++ y := by
 rw [← SD, SY]
theorem PX {xs : List T} {b : List Int} (h : xs = b.map T.int) : [D.t (.list 1 xs)] = [D.t (T.ints b)] := by subst h; rfl
theorem RB {ps : List Int} {f : Func} (h : CI ps f = true) : ∀ x, x ∈ EP f.stmts → 0 ≤ x ∧ x < ps.length := by
 intro x hx
 obtain ⟨s, hs, hx⟩ := Sc.1 hx
 obtain ⟨m, hm, rfl⟩ := Se hs
 have hg := Cn h hm
 rcases SF.1 hx with hx | hx
 ·unfold d3 at hx
  split at hx
  ·rename_i hk
   have := Ip hg hk
   rw [SN] at hx;subst hx; omega
  ·cases hx
 ·obtain ⟨t, ht, rfl⟩ := Sq.1 hx
  obtain ⟨ht, ho⟩ := List.mem_filter.1 ht
  exact NB hg ht (by simpa using ho)
theorem EZ : ∀ {a b : List Int}, a.Pairwise (· < ·) → b.Pairwise (· < ·) → (∀ x, x ∈ a ↔ x ∈ b) → a = b
 | [], [], _, _, _ => rfl
 | [], y :: b, _, _, h => by have := (h y).2 (SU ..); cases this
 | x :: a, [], _, _, h => by have := (h x).1 (SU ..); cases this
 | x :: a, y :: b, ha, hb, h => by
  rw [List.pairwise_cons] at ha hb
  have e : x = y := by
   have h1 := (h x).1 (SU ..)
   have h2 := (h y).2 (SU ..)
   rcases SL.1 h1 with h1 | h1
   ·exact h1
   ·rcases SL.1 h2 with h2 | h2
    ·exact h2.symm
    ·have := ha.1 _ h2; have := hb.1 _ h1; omega
  subst e;rw [EZ ha.2 hb.2 fun z => ?_]
  constructor
  ·intro hz
   rcases SL.1 ((h z).1 (SV _ hz)) with e | e
   ·have := ha.1 _ hz; omega
   ·exact e
  ·intro hz
   rcases SL.1 ((h z).2 (SV _ hz)) with e | e
   ·have := hb.1 _ hz; omega
   ·exact e
def EF (N : Nat) (p : Int → Bool) : List Int := (CL N).filter p
theorem mem_pickN {N : Nat} {p : Int → Bool} {x : Int} : x ∈ EF N p ↔ (0 ≤ x ∧ x < N) ∧ p x = true := by
 rw [EF, List.mem_filter, mem_upto]
theorem Ci (N : Nat) (p : Int → Bool) : (EF N p).Pairwise (· < ·) := (F7 N).filter _
theorem Pg {N : Nat} {p : Int → Bool} {l : List Int} (h : l.Pairwise (· < ·)) (h2 : ∀ x, x ∈ l ↔ (0 ≤ x ∧ x < N) ∧ p x = true) : l = EF N p :=
 EZ h (Ci N p) fun x => by rw [h2, mem_pickN]
theorem Ed (N : Nat) (p : Int → Bool) : (EF N p).length ≤ N := by
 have := List.length_filter_le p (CL N)
 unfold EF
 have e : (CL N).length = N := by unfold CL; simp
 omega
inductive Lead (calls : Int → List Int) (a : Int) : Int → Prop
 | refl : Lead calls a a
 | step {b c : Int} : Lead calls a b → c ∈ calls b → Lead calls a c
theorem Lead.trans {calls : Int → List Int} {a b c : Int} (h : Lead calls a b) (h2 : Lead calls b c) : Lead calls a c := by
 induction h2 with
 | refl => exact h
 | step _ hc ih => exact .step ih hc
theorem Lead.head {calls : Int → List Int} {a b c : Int} (h : b ∈ calls a) (h2 : Lead calls b c) : Lead calls a c := (Lead.step .refl h).trans h2
def InN (N : Nat) (calls : Int → List Int) : Prop := ∀ a c, c ∈ calls a → 0 ≤ c ∧ c < N
def grow (N : Nat) (calls : Int → List Int) (S : Int → Bool) (b : Int) : Bool := S b || (CL N).any fun c => S c && decide (b ∈ calls c)
def Cc (N : Nat) (calls : Int → List Int) (a : Int) : Nat → Int → Bool
 | 0 => fun b => decide (a = b)
 | n + 1 => grow N calls (Cc N calls a n)
def Qa (N : Nat) (calls : Int → List Int) (a b : Int) : Bool := Cc N calls a N b
def CC (N : Nat) (calls : Int → List Int) (a : Int) : List Int := EF N (Qa N calls a)
section
variable {N : Nat} {calls : Int → List Int} {a : Int}
theorem FA : ∀ (n : Nat) {b : Int}, Cc N calls a n b = true → Lead calls a b
 | 0, b, h => by
  have : a = b := of_decide_eq_true h
  subst this; exact .refl
 | n + 1, b, h => by
  rw [Cc, grow, TE] at h
  rcases h with h | h
  ·exact FA n h
  ·rw [Su] at h
   obtain ⟨c, _, hc⟩ := h
   rw [SC, decide_eq_true_iff] at hc;exact .step (FA n hc.1) hc.2
theorem LA (n : Nat) {b : Int} (h : Cc N calls a n b = true) : Cc N calls a (n + 1) b = true := by
 rw [Cc, grow, h]; rfl
theorem PL {n m : Nat} (hnm : n ≤ m) {b : Int} (h : Cc N calls a n b = true) : Cc N calls a m b = true := by
 induction hnm with
 | refl => exact h
 | step _ ih => exact LA _ ih
def HN (N : Nat) (calls : Int → List Int) (a : Int) (n : Nat) : Prop := ∀ b : Int, 0 ≤ b → b < N → Cc N calls a (n + 1) b = true → Cc N calls a n b = true
theorem Et {α : Type} {p q : α → Bool} : ∀ {l : List α}, (∀ x, x ∈ l → p x = true → q x = true) → (∃ x, x ∈ l ∧ q x = true ∧ p x = false) → (l.filter p).length < (l.filter q).length
 | [], _, h => by obtain ⟨x, hx, _⟩ := h; cases hx
 | x :: l, h1, h2 => by
  have hle : ∀ {l : List α}, (∀ x, x ∈ l → p x = true → q x = true) → (l.filter p).length ≤ (l.filter q).length := by
   intro l
   induction l with
   | nil => intro _; simp
   | cons y l ih =>
    intro h
    have ih := ih fun z hz => h z (SV _ hz)
    have hy := h y (SU ..)
    rw [S1, S1]
    by_cases hp : p y = true
    ·rw [if_pos hp, if_pos (hy hp), SG, SG]; omega
    ·rw [if_neg hp]; split <;> (try rw [SG]) <;> omega
  have h1' : ∀ y, y ∈ l → p y = true → q y = true := fun y hy => h1 y (SV _ hy)
  obtain ⟨y, hy, hq, hp⟩ := h2
  rcases SL.1 hy with rfl | hy
  ·have := hle h1'
   rw [S1, S1, if_neg (by simp [hp]), if_pos hq, SG]; omega
  ·have ih := Et h1' ⟨y, hy, hq, hp⟩
   have hx := h1 x (SU ..)
   rw [S1, S1]
   by_cases hp : p x = true
   ·rw [if_pos hp, if_pos (hx hp), SG, SG]; omega
   ·rw [if_neg hp]; split <;> (try rw [SG]) <;> omega
theorem stepN_grows (h0 : 0 ≤ a) (h1 : a < N) : ∀ n : Nat, (∃ m, m ≤ n ∧ HN N calls a m) ∨ n + 1 ≤ (EF N (Cc N calls a n)).length
 | 0 => by
  right
  have : a ∈ EF N (Cc N calls a 0) := mem_pickN.2 ⟨⟨h0, h1⟩, decide_eq_true rfl⟩
  have := List.length_pos_of_mem this
  omega
 | n + 1 => by
  rcases stepN_grows h0 h1 n with ⟨m, hm, h⟩ | h
  ·exact .inl ⟨m, by omega, h⟩
  ·by_cases hs : HN N calls a n
   ·exact .inl ⟨n, by omega, hs⟩
   ·right
    have : ∃ b : Int, (0 ≤ b ∧ b < N) ∧ Cc N calls a (n + 1) b = true ∧ Cc N calls a n b = false := by
     refine Classical.byContradiction fun hc => hs fun b b0 b1 hb => ?_
     cases e : Cc N calls a n b with
     | true => rfl
     | false => exact absurd ⟨b, ⟨b0, b1⟩, hb, e⟩ hc
    obtain ⟨b, hb, hb1, hb2⟩ := this
    have := Et (l := CL N) (p := Cc N calls a n) (q := Cc N calls a (n + 1)) (fun x _ hx => LA n hx) ⟨b, mem_upto.2 hb, hb1, hb2⟩
    unfold EF at h ⊢;omega
theorem KT (hc : InN N calls) {n : Nat} (h : HN N calls a n) : HN N calls a (n + 1) := by
 intro b b0 b1 hb;rw [Cc, grow, TE] at hb
 rcases hb with hb | hb
 ·exact hb
 ·rw [Su] at hb
  obtain ⟨c, hcN, hcb⟩ := hb
  rw [SC] at hcb
  have hcN := mem_upto.1 hcN
  have := h c hcN.1 hcN.2 hcb.1
  rw [Cc, grow, TE, Su];exact .inr ⟨c, mem_upto.2 hcN, by rw [SC]; exact ⟨this, hcb.2⟩⟩
theorem L3 (hc : InN N calls) (h0 : 0 ≤ a) (h1 : a < N) : HN N calls a N := by
 rcases stepN_grows (calls := calls) h0 h1 N with ⟨m, hm, h⟩ | h
 ·obtain ⟨d, rfl⟩ : ∃ d, N = m + d := ⟨N - m, by omega⟩
  generalize hK : m + d = K at h hc h1 ⊢
  have : ∀ d, HN K calls a (m + d) := by
   intro d
   induction d with
   | zero => exact h
   | succ d ih => exact KT hc ih
  rw [← hK] at *;exact this d
 ·have := Ed N (Cc N calls a N)
  omega
theorem BW (hc : InN N calls) (h0 : 0 ≤ a) (h1 : a < N) {b : Int} (h : Lead calls a b) : 0 ≤ b ∧ b < N := by
 cases h with
 | refl => exact ⟨h0, h1⟩
 | step _ h => exact hc _ _ h
theorem C4 (hc : InN N calls) (h0 : 0 ≤ a) (h1 : a < N) {b : Int} : Qa N calls a b = true ↔ Lead calls a b := by
 refine ⟨FA N, fun h => ?_⟩
 induction h with
 | refl => exact PL (Nat.zero_le N) (decide_eq_true rfl)
 | step h hcb ih =>
  rename_i b c
  have hb := BW hc h0 h1 h
  have hcc := hc _ _ hcb
  refine L3 hc h0 h1 c hcc.1 hcc.2 ?_;rw [Cc, grow, TE, Su];exact .inr ⟨b, mem_upto.2 hb, by rw [SC, decide_eq_true_iff]; exact ⟨ih, hcb⟩⟩
theorem CO (hc : InN N calls) (h0 : 0 ≤ a) (h1 : a < N) {b : Int} : b ∈ CC N calls a ↔ Lead calls a b := by
 rw [CC, mem_pickN, C4 hc h0 h1];exact ⟨fun h => h.2, fun h => ⟨BW hc h0 h1 h, h⟩⟩
theorem FV (hc : InN N calls) (h0 : 0 ≤ a) (h1 : a < N) {S : Int → Prop} (ha : S a) (hs : ∀ x, S x → ∀ c, c ∈ calls x → S c) (hl : ∀ x, S x → Lead calls a x) {b : Int} : b ∈ CC N calls a ↔ S b := by
 rw [CO hc h0 h1];refine ⟨fun h => ?_, hl b⟩
 induction h with
 | refl => exact ha
 | step _ hcb ih => exact hs _ ih _ hcb
theorem Dy : (CC N calls a).length ≤ N := Ed ..
theorem Bk (hc : InN N calls) (h0 : 0 ≤ a) (h1 : a < N) : 1 ≤ (CC N calls a).length :=
 List.length_pos_of_mem ((CO hc h0 h1).2 .refl)
def FT (N : Nat) (calls : Int → List Int) : Bool := (CC N calls 0).any fun f => (calls f).any fun n => decide (f ∈ CC N calls n)
theorem PS (hc : InN N calls) (hN : 0 < N) (h : FT N calls = false) {f n : Int} (hf : Lead calls 0 f) (hn : n ∈ calls f) : ¬ Lead calls n f := by
 intro hl;rw [Bool.eq_false_iff] at h
 apply h
 have hn' := hc _ _ hn
 rw [FT, Su];refine ⟨f, (CO hc (by omega) (by omega)).2 hf, ?_⟩;rw [Su];exact ⟨n, hn, decide_eq_true ((CO hc hn'.1 hn'.2).2 hl)⟩
theorem FF (hc : InN N calls) (hN : 0 < N) (h : FT N calls = false) {f n : Int} (hf : Lead calls 0 f) (hn : n ∈ calls f) : (CC N calls n).length < (CC N calls f).length := by
 have hn' := hc _ _ hn
 have hf' := BW hc (by omega) (by omega) hf
 refine Et (fun x hx h2 => ?_) ⟨f, mem_upto.2 hf', (C4 hc hf'.1 hf'.2).2 .refl, ?_⟩
 ·exact (C4 hc hf'.1 hf'.2).2 (.head hn ((C4 hc hn'.1 hn'.2).1 h2))
 ·rw [Bool.eq_false_iff]
  exact fun h2 => PS hc hN h hf hn ((C4 hc hn'.1 hn'.2).1 h2)
def My (l : List Int) : Int := l.foldl max 0
def FN (calls : Int → List Int) : Nat → Int → Int
 | 0, _ => 0
 | k + 1, f => My ((calls f).map (FN calls k)) + 1
def FO (N : Nat) (calls : Int → List Int) (f : Int) : Int := FN calls N f
theorem Hh (hc : InN N calls) (hN : 0 < N) (h : FT N calls = false) : ∀ (k k' : Nat) {f : Int}, Lead calls 0 f → (CC N calls f).length ≤ k → (CC N calls f).length ≤ k' → FN calls k f = FN calls k' f
 | 0, k', f, hf, h1, h2 => by
  have hf' := BW hc (by omega) (by omega) hf
  have := Bk hc hf'.1 hf'.2; omega
 | k + 1, 0, f, hf, h1, h2 => by
  have hf' := BW hc (by omega) (by omega) hf
  have := Bk hc hf'.1 hf'.2; omega
 | k + 1, k' + 1, f, hf, h1, h2 => by
  rw [FN, FN]
  congr 2
  refine List.map_congr_left fun n hn => ?_
  have := FF hc hN h hf hn
  exact Hh hc hN h k k' (.step hf hn) (by omega) (by omega)
theorem F1 (hc : InN N calls) (hN : 0 < N) (h : FT N calls = false) {f : Int} (hf : Lead calls 0 f) : FO N calls f = My ((calls f).map (FO N calls)) + 1 := by
 have hf' := BW hc (by omega) (by omega) hf
 have hp := Bk hc hf'.1 hf'.2
 have hl := Dy (N := N) (calls := calls) (a := f)
 rw [FO, Hh hc hN h N (N + 1) hf hl (by omega), FN];rfl
theorem B0 : ∀ (l : List Int) (m : Int), m ≤ l.foldl max m
 | [], m => TC _
 | x :: l, m => by have := B0 l (max m x); rw [List.foldl_cons]; omega
theorem Fb {B : Int} : ∀ (l : List Int) (m : Int), m ≤ B → (∀ x, x ∈ l → x ≤ B) → l.foldl max m ≤ B
 | [], m, h, _ => h
 | x :: l, m, h, hl => by rw [List.foldl_cons]; exact Fb l _ (by have := hl x (SU ..); omega) fun y hy => hl y (SV _ hy)
theorem J1 (calls : Int → List Int) : ∀ (k : Nat) (f : Int), 0 ≤ FN calls k f ∧ FN calls k f ≤ k
 | 0, f => by simp [FN]
 | k + 1, f => by
  rw [FN, My]
  have h1 := B0 ((calls f).map (FN calls k)) 0
  have h2 := Fb (B := k) ((calls f).map (FN calls k)) 0 (by omega) (by
   intro x hx
   obtain ⟨n, _, rfl⟩ := Sq.1 hx
   exact (J1 calls k n).2)
  omega
def Fj (own : Int → Int) (seq : Int → List Int) : Nat → Int → Int
 | 0, _ => 0
 | k + 1, f => min (own f + ((seq f).map (Fj own seq k)).sum) 100001
def P5 (own : Int → Int) (N : Nat) (seq : Int → List Int) (f : Int) : Int := Fj own seq N f
theorem He {own : Int → Int} {seq : Int → List Int} (hs : ∀ f n, n ∈ seq f → n ∈ calls f) (hc : InN N calls) (hN : 0 < N) (h : FT N calls = false) : ∀ (k k' : Nat) {f : Int}, Lead calls 0 f → (CC N calls f).length ≤ k → (CC N calls f).length ≤ k' → Fj own seq k f = Fj own seq k' f
 | 0, k', f, hf, h1, h2 => by
  have hf' := BW hc (by omega) (by omega) hf
  have := Bk hc hf'.1 hf'.2; omega
 | k + 1, 0, f, hf, h1, h2 => by
  have hf' := BW hc (by omega) (by omega) hf
  have := Bk hc hf'.1 hf'.2; omega
 | k + 1, k' + 1, f, hf, h1, h2 => by
  rw [Fj, Fj]
  congr 3
  refine List.map_congr_left fun n hn => ?_
  have := FF hc hN h hf (hs _ _ hn)
  exact He hs hc hN h k k' (.step hf (hs _ _ hn)) (by omega) (by omega)
theorem P4 {own : Int → Int} {seq : Int → List Int} (hs : ∀ f n, n ∈ seq f → n ∈ calls f) (hc : InN N calls) (hN : 0 < N) (h : FT N calls = false) {f : Int} (hf : Lead calls 0 f) : P5 own N seq f = min (own f + ((seq f).map (P5 own N seq)).sum) 100001 := by
 have hf' := BW hc (by omega) (by omega) hf
 have hp := Bk hc hf'.1 hf'.2
 have hl := Dy (N := N) (calls := calls) (a := f)
 rw [P5, He hs hc hN h N (N + 1) hf hl (by omega), Fj];rfl
theorem Cx : ∀ {l : List Int}, (∀ x, x ∈ l → 0 ≤ x) → 0 ≤ l.sum
 | [], _ => by simp
 | x :: l, h => by have := h x (SU ..); have := Cx (l := l) fun y hy => h y (SV _ hy); rw [List.sum_cons]; omega
theorem Gh {own : Int → Int} (ho : ∀ f, 0 ≤ own f) (seq : Int → List Int) : ∀ (k : Nat) (f : Int), 0 ≤ Fj own seq k f ∧ Fj own seq k f ≤ 100001
 | 0, f => by simp [Fj]
 | k + 1, f => by
  rw [Fj]
  have := ho f
  have := Cx (l := (seq f).map (Fj own seq k)) (by
   intro x hx
   obtain ⟨n, _, rfl⟩ := Sq.1 hx
   exact (Gh ho seq k n).1)
  omega
end
def put (l : List Int) (n : Int) : List Int := if n ∈ l then l else l.takeWhile (fun x => decide (x < n)) ++ n :: l.dropWhile (fun x => decide (x < n))
theorem RM {l : List Int} {n x : Int} : x ∈ put l n ↔ x ∈ l ∨ x = n := by
 unfold put;split
 ·rename_i h; exact ⟨.inl, fun h2 => h2.elim id fun e => e ▸ h⟩
 ·rw [SF, SL]
  have e := List.takeWhile_append_dropWhile (p := fun x => decide (x < n)) (l := l)
  have : x ∈ l ↔ x ∈ l.takeWhile (fun x => decide (x < n)) ∨ x ∈ l.dropWhile (fun x => decide (x < n)) := by rw [← SF, e]
  rw [this]
  constructor
  ·rintro (h | h | h)
   ·exact .inl (.inl h)
   ·exact .inr h
   ·exact .inl (.inr h)
  ·rintro ((h | h) | h)
   ·exact .inl h
   ·exact .inr (.inr h)
   ·exact .inr (.inl h)
theorem Pc : ∀ {l : List Int} {n : Int}, l.Pairwise (· < ·) → (put l n).Pairwise (· < ·) := by
 intro l n h
 by_cases hm : n ∈ l
 ·rw [put, if_pos hm]; exact h
 ·rw [put, if_neg hm]
  induction l with
  | nil => simp
  | cons y l ih =>
   rw [List.pairwise_cons] at h
   have hy : y ≠ n := fun e => hm (e ▸ SU ..)
   have ih := ih h.2 fun h2 => hm (SV _ h2)
   by_cases hc : y < n
   ·rw [List.takeWhile_cons_of_pos (by simpa using hc), List.dropWhile_cons_of_pos (by simpa using hc), S7, List.pairwise_cons]
    refine ⟨fun z hz => ?_, ih⟩
    have e := List.takeWhile_append_dropWhile (p := fun x => decide (x < n)) (l := l)
    rw [SF, SL] at hz
    rcases hz with hz | rfl | hz
    ·exact h.1 z (by rw [← e]; exact Sj _ hz)
    ·exact hc
    ·exact h.1 z (by rw [← e]; exact Sk _ hz)
   ·rw [List.takeWhile_cons_of_neg (by simpa using hc), List.dropWhile_cons_of_neg (by simpa using hc), List.nil_append, List.pairwise_cons]
    refine ⟨fun z hz => ?_, List.pairwise_cons.2 h⟩
    rcases SL.1 hz with rfl | hz
    ·omega
    ·have := h.1 z hz; omega
def G5 (N : Nat) (l : List Int) : List Int := EF N fun x => decide (x ∈ l)
theorem Hr {N : Nat} {l : List Int} {n : Int} (h0 : 0 ≤ n) (h1 : n < N) : put (G5 N l) n = G5 N (l ++ [n]) := by
 refine Pg (Pc (Ci ..)) fun x => ?_
 rw [RM, G5, mem_pickN];simp only [decide_eq_true_eq, SF, SN]
 constructor
 ·rintro (h | rfl)
  ·exact ⟨h.1, .inl h.2⟩
  ·exact ⟨⟨h0, h1⟩, .inr rfl⟩
 ·rintro ⟨h, h2 | h2⟩
  ·exact .inl ⟨h, h2⟩
  ·exact .inr h2
theorem PO (N : Nat) : G5 N [] = [] := by
 unfold G5 EF; rw [List.filter_eq_nil_iff]; simp
theorem mem_setN {N : Nat} {l : List Int} {x : Int} : x ∈ G5 N l ↔ (0 ≤ x ∧ x < N) ∧ x ∈ l := by rw [G5, mem_pickN]; simp
theorem put_at {l : List Int} {n : Int} {k : Int} (h0 : 0 ≤ k) (h1 : k ≤ l.length) (hl : l.Pairwise (· < ·)) (hlt : ∀ (i : Nat) (hi : i < l.length), (i : Int) < k → l[i] < n) (hge : ∀ (h : k < l.length), n ≤ l[k.toNat]'(by omega)) :
  put l n = if h : k < l.length ∧ l[k.toNat]? = some n then l else l.take k.toNat ++ n :: l.drop k.toNat := by
 have hafter : ∀ x, x ∈ l.drop k.toNat → n ≤ x := by
  intro x hx
  by_cases hk : k < l.length
  ·rw [Sr (by omega)] at hx
   have := hge hk
   rcases SL.1 hx with rfl | hx
   ·exact this
   ·have h2 : (l.drop k.toNat).Pairwise (· < ·) := hl.drop
    rw [Sr (by omega), List.pairwise_cons] at h2
    have := h2.1 x hx; omega
  ·rw [List.drop_eq_nil_of_le (by omega)] at hx; cases hx
 have hbefore : ∀ x, x ∈ l.take k.toNat → x < n := by
  intro x hx
  obtain ⟨i, hi, rfl⟩ := Se hx
  rw [List.getElem_take];rw [SM] at hi;exact hlt i (by omega) (by omega)
 have hsplit := S4 k.toNat l
 split
 ·rename_i h
  rw [put, if_pos];exact Sn h.2
 ·rename_i h
  have hn : n ∉ l := by
   intro hn;rw [← hsplit, SF] at hn
   rcases hn with hn | hn
   ·have := hbefore n hn; omega
   ·apply h
    have hk : k < l.length := by
     refine Classical.byContradiction fun hk => ?_
     rw [List.drop_eq_nil_of_le (by omega)] at hn; cases hn
    refine ⟨hk, ?_⟩;rw [List.getElem?_eq_getElem (by omega)]
    have h2 : (l.drop k.toNat).Pairwise (· < ·) := hl.drop
    rw [Sr (by omega)] at hn h2;rw [List.pairwise_cons] at h2
    rcases SL.1 hn with hn | hn
    ·rw [← hn]
    ·have := h2.1 n hn; have := hge hk; omega
  rw [put, if_neg hn]
  have e1 : l.takeWhile (fun x => decide (x < n)) = l.take k.toNat := by
   conv => lhs; rw [← hsplit]
   rw [List.takeWhile_append_of_pos (by intro x hx; simpa using hbefore x hx)]
   have : (l.drop k.toNat).takeWhile (fun x => decide (x < n)) = [] := by
    cases e : l.drop k.toNat with
    | nil => rfl
    | cons y r => rw [List.takeWhile_cons_of_neg]; have := hafter y (by rw [e]; exact SU ..); simp; omega
   rw [this, SW]
  have e2 : l.dropWhile (fun x => decide (x < n)) = l.drop k.toNat := by
   conv => lhs; rw [← hsplit]
   rw [List.dropWhile_append_of_pos (by intro x hx; simpa using hbefore x hx)]
   cases e : l.drop k.toNat with
   | nil => rfl
   | cons y r => rw [List.dropWhile_cons_of_neg]; have := hafter y (by rw [e]; exact SU ..); simp; omega
  rw [e1, e2]
open Go.Eng
def FE (p : Prog) (n : Int) : List Int := EP (funcAt p n).stmts
def AE (p : Prog) (n : Int) : List Int := G5 5 (FE p n)
def marks (N : Nat) (l : List Int) : List T := (CL N).map fun n => T.bool (decide (n ∈ l))
theorem CW (N : Nat) (l : List Int) : (marks N l).length = N := by rw [marks, SE, Ar]
theorem JW (N : Nat) : List.replicate N (T.bool false) = marks N [] := by
 refine List.ext_getElem (by rw [CW]; simp) fun k h1 h2 => ?_
 simp [marks]
theorem Ej {N : Nat} {l : List Int} {n : Int} (h0 : 0 ≤ n) (h1 : n < N) : (marks N l).set n.toNat (T.bool true) = marks N (l ++ [n]) := by
 refine List.ext_getElem (by rw [Sv, CW, CW]) fun k h2 h3 => ?_
 rw [CW] at h3;rw [List.getElem_set];simp only [marks, List.getElem_map];rw [Cp (by rw [Ar]; exact h3)];split
 ·rename_i e; congr 2; simp; omega
 ·rename_i e
  congr 2
  simp only [SF, SN, decide_eq_decide];refine propext ⟨.inl, ?_⟩
  rintro (h | h)
  ·exact h
  ·omega
theorem GU {N : Nat} {l : List Int} {n : Int} (h0 : 0 ≤ n) (h1 : n < N) : (marks N l)[0 + n.toNat]? = some (T.bool (decide (n ∈ l))) := by
 rw [SS, marks, List.getElem?_map, List.getElem?_eq_getElem (by rw [Ar]; omega), Cp (by rw [Ar]; omega)];simp only [TD]
 congr 3
 exact congrArg (· ∈ l) (by omega : ((n.toNat : Nat) : Int) = n)
def KZ (N : Nat) (p : Int → Bool) (k : Int) : List Int := ((CL N).take k.toNat).filter p
theorem Fq {N : Nat} {p : Int → Bool} {k : Int} (h0 : 0 ≤ k) (h1 : k < N) : KZ N p (k + 1) = KZ N p k ++ (if p k = true then [k] else []) := by
 unfold KZ;rw [BU h0 (by rw [Ar]; omega), List.filter_append]
 congr 1
 rw [Cp (by rw [Ar]; omega), show ((k.toNat : Nat) : Int) = k from by omega]
 split <;> simp [*]
theorem JI {N : Nat} {p : Int → Bool} {k : Int} (h : (N : Int) ≤ k) : KZ N p k = EF N p := by
 unfold KZ EF; rw [Af (by rw [Ar]; omega)]
theorem NR {a b : List Int} (h : a = b) : [D.own (.list 1 (a.map T.int))] = [D.own (T.ints b)] := by subst h; rfl
theorem Gn (f : Func) (hf : f.ok 1048576) (hs : ∀ x, x ∈ EP f.stmts → 0 ≤ x ∧ x < 5) : Fun Tryz.prog 81 [.t f.tt] (Av [.own (T.ints (G5 5 (EP f.stmts)))]) := by
 have hl : f.stmts.length ≤ 1048576 := hf.2.1.1
 refine Fun.begin tys Tryz.func81 Z Z (N := 56) [(0, .t f.tt)] Z Z (fun w0 G F0 => ?_);refine sG (AR Z Z (AA Z) Z Z (nZ Z (eZ Z (nA ?_))));refine FQ tys (.v (.bool false)) _ Z Z (AA Z) Z Z Z Z Z (by repeat (first | exact AbsL.nil' | refine AbsL.v' ?_ | refine AbsL.none' ?_)) Z (by decide) (by decide) ?_;refine nZ Z (eZ Z (nB (sQ (sG (eK 2 Z (evE ?_))))));refine eZ Z (nB (AD ?_));refine lK (α := Int × List T) [13, 14] [] (fun x => [(15, .t (.int (x.1))), (3, .sl 11 0 5)]) (fun x => [(11, .L 1 (x.2))]) (fun x => 0 ≤ (x.1) ∧ (x.1) ≤ f.stmts.length ∧ (x.2) = marks 5 (EP (f.stmts.take (x.1).toNat))) (fun x => Int.toNat (f.stmts.length - (x.1))) (0, List.replicate 5 (T.bool false)) ?_ (fun x hx => ?_)
 ·exact ⟨by omega, by omega, JW 5⟩
 obtain ⟨k, xs⟩ := x
 obtain ⟨hk0, hk1, hxs⟩ := hx
 dsimp only at hk0 hk1 hxs ⊢;refine nY Z (sG (eZ Z (nB (sQ ?_))));refine AB Z (fun h1 => ?_) (fun h1 => ?_)
 ·
  simp only [HS] at h1;refine AC (tN (sQ (AD (sG ?_))));refine iY (k := ?_);refine eZ Z ?_
  try refine WO_le (Le.freeze (u := 18) rfl) ?_
  refine nZ Z (AL tys Z Z (AA Z) Z Z Z (nZ Z (sT Z (nZ Z (nB (sQ (sG (eK 3 Z (nB ?_)))))))));refine As (α := List T) [3, 5, 13, 14, 15, 16, 17, 18, 19, 20, 21] [5] (fun x => []) (fun x => [(11, .L 1 x)]) (fun x => x = marks 5 (EP (f.stmts.take k.toNat) ++ d3 (f.stmts[k.toNat]'(by omega)))) ?_ (fun ys hx => ?_)
  ·
   refine AB Z (fun h2 => ?_) (fun h2 => ?_)
   ·
    simp only [HS] at h2;refine kY [3,5,13,14,15,16,17,18,19,20,21] Z (rG ?_)
    have hn := NK hs (n := k.toNat) (by omega) h2
    have hxl : xs.length = 5 := by rw [hxs, CW]
    refine eK 3 Z (Ac tys Z Z (AA Z) Z Z Z Z Z Z Z Z (by omega) (by omega) ?_);refine B5 tys (T.bool true) Z Z Z Z Z Z (by first | exact SS _ | rfl) (by omega) Z (by repeat (first | exact AbsL.nil' | refine AbsL.v' ?_ | refine AbsL.own' ?_)) Z Z Z ?_;refine nZ Z (oN (jQ _ ?_))
    first
    | (rw [hxs, Ej hn.1 hn.2, d3, if_pos h2]; done)
   simp only [HS] at h2;refine AC (jQ _ ?_)
   first
   | (rw [hxs, d3, if_neg h2, SW]; done)
  have hys := hx
  refine tN (sQ (kY [3,5,13,14,15,16,17,18,19,20,21] Z (rG ?_)))
  have hel := (CQ hf (n := k.toNat) (by omega)).2.2
  refine eK 2 Z (evE ?_);refine eZ Z (nB (AD ?_));refine lK (α := Int × List T) [13, 14, 15, 27, 28] [] (fun x => [(29, .t (.int (x.1))), (3, .sl 11 0 5)]) (fun x => [(11, .L 1 (x.2))]) (fun x => 0 ≤ (x.1) ∧ (x.1) ≤ (f.stmts[k.toNat]'(by omega)).ex.length ∧ (x.2) = marks 5 (EP (f.stmts.take k.toNat) ++ d3 (f.stmts[k.toNat]'(by omega)) ++ G3 ((f.stmts[k.toNat]'(by omega)).ex.take (x.1).toNat))) (fun x => Int.toNat ((f.stmts[k.toNat]'(by omega)).ex.length - (x.1))) (0, ys) ?_ (fun x hx => ?_)
  ·exact ⟨by omega, by omega, by rw [hys]; simp [G3]⟩
  obtain ⟨j, zs⟩ := x
  obtain ⟨hj0, hj1, hzs⟩ := hx
  dsimp only at hj0 hj1 hzs ⊢;refine nY Z (sG (eZ Z (nB (sQ ?_))));refine AB Z (fun h2 => ?_) (fun h2 => ?_)
  ·
   simp only [HS] at h2;refine AC (tN (sQ (AD (sG ?_))));refine iY (k := ?_);refine eZ Z ?_
   try refine WO_le (Le.freeze (u := 32) rfl) ?_
   refine nZ Z (AL tys Z Z (AA Z) Z Z Z (nZ Z (sT Z (nZ Z (nA (eK 3 Z (nB ?_)))))));refine AB Z (fun h3 => ?_) (fun h3 => ?_)
   ·
    simp only [HS] at h3;refine kY [3,7,13,14,15,27,28,29,30,31,32,33,34,35] Z (rG ?_)
    have hn := NJ hs (n := k.toNat) (by omega) (j := j.toNat) (by omega) h3
    have hzl : zs.length = 5 := by rw [hzs, CW]
    refine eK 3 Z (Ac tys Z Z (AA Z) Z Z Z Z Z Z Z Z (by omega) (by omega) ?_);refine B5 tys (T.bool true) Z Z Z Z Z Z (by first | exact SS _ | rfl) (by omega) Z (by repeat (first | exact AbsL.nil' | refine AbsL.v' ?_ | refine AbsL.own' ?_)) Z Z Z ?_;refine nZ Z (oN (bN (tN (rG (evI ?_)))));refine eZ Z (oN ?_);refine lQ (_, _) ?_ ?_
    ·dsimp only
     first
     | (refine ⟨by omega, by omega, ?_⟩; rw [hzs, Ej hn.1 hn.2, Dc hj0 (by omega), if_pos h3, SX]; done)
    ·(show Int.toNat _ < Int.toNat _); omega
   simp only [HS] at h3;refine AC (bN (tN (kY [3,7,13,14,15,27,28,29,30,31,32,33,34,35] Z (rG (evI ?_)))));refine eZ Z (oN ?_);refine lQ (_, _) ?_ ?_
   ·dsimp only
    first
    | (refine ⟨by omega, by omega, ?_⟩; rw [hzs, Dc hj0 (by omega), if_neg h3, SW]; done)
   ·(show Int.toNat _ < Int.toNat _); omega
  simp only [HS] at h2;refine AP (tE (AK (AI (bN (tN (rG (evI ?_)))))));refine eZ Z (oN ?_);refine lQ (_, _) ?_ ?_
  ·dsimp only
   exact ⟨by omega, by omega, by rw [hzs, GF hk0 (by omega), Af (l := (f.stmts[k.toNat]'(by omega)).ex) (k := j) (by omega), SX]⟩
  ·(show Int.toNat _ < Int.toNat _); omega
 simp only [HS] at h1;refine AP (tE (AK (AI (tN (sG (eZ Z (WO_le (Le.nilOwn (u := 8) 1 Z) (WO_le (Le.adoptE (u := 8) 8 Z Z) (nZ Z (nB (sQ (sG (eZ Z (evE ?_))))))))))))));refine eZ Z (nB (AD ?_));refine lK (α := Int × Nat × List T) [42, 43] [11] (fun x => [(44, .t (.int (x.1))), (8, .sl 8 0 (x.2.1))]) (fun x => [(8, .L 1 (x.2.2))]) (fun x => 0 ≤ (x.1) ∧ (x.1) ≤ 5 ∧ (x.2.1) = (x.2.2).length ∧ (x.2.2).length ≤ (x.1) ∧ (x.2.2) = (KZ 5 (fun x => decide (x ∈ EP (f.stmts.take k.toNat))) (x.1)).map T.int) (fun x => Int.toNat (5 - (x.1))) (0, 0, []) ?_ (fun x hx => ?_)
 ·exact ⟨by omega, by omega, rfl, by simp, rfl⟩
 obtain ⟨q, m, ws⟩ := x
 obtain ⟨hq0, hq1, hm, hwl, hws⟩ := hx
 dsimp only at hq0 hq1 hm hwl hws ⊢;refine nY Z (sG (eZ Z (nB (sQ ?_))));refine AB Z (fun h2 => ?_) (fun h2 => ?_)
 ·
  simp only [HS] at h2;refine AC (tN (sQ (AD (sG (eZ Z (Ac tys Z Z (AA Z) Z Z Z Z Z Z Z Z (by omega) (by omega) (AS tys Z Z (AA Z) Z Z Z Z (by rw [hxs]; exact GU hq0 (by omega)) Z ?_)))))));refine eK 2 Z (nA (eZ Z (nB ?_)));refine AB Z (fun h3 => ?_) (fun h3 => ?_)
  ·
   simp only [HS] at h3;refine kY [8,9,10,42,43,44,45,46,47,48,49] Z (rG (eK 2 Z (bZ [T.int q] ?_)));refine nZ Z (AH tys Z Z (AA Z) Z Z Z Z Z (.own Z (by first | omega | (simp only [SD]; omega))) Z (.own Z (by first | decide | omega)) (by decide) (by simp only [SM, SG, List.length_nil]; omega) (by decide) Z ?_);refine nZ Z (eZ Z (oN (bN (tN (rG (evI ?_))))));refine eZ Z (oN ?_);refine lQ (_, _, _) ?_ ?_
   ·dsimp only
    subst hm
    first
    | (refine ⟨by omega, by omega, by simp, by simp; omega, ?_⟩; rw [SY, hws, Fq hq0 (by omega), if_pos (by simpa using h3), Sf]; rfl)
   ·(show Int.toNat _ < Int.toNat _); omega
  simp only [HS] at h3;refine AC (bN (tN (kY [8,9,10,42,43,44,45,46,47,48,49] Z (rG (evI ?_)))));refine eZ Z (oN ?_);refine lQ (_, _, _) ?_ ?_
  ·dsimp only
   subst hm
   first
   | (refine ⟨by omega, by omega, rfl, by omega, ?_⟩; rw [hws, Fq hq0 (by omega), if_neg (by simpa using h3), SW]; done)
  ·(show Int.toNat _ < Int.toNat _); omega
 simp only [HS] at h2;refine AP (tE (AK (AI (tN (sG (eK 2 Z (nB (AQ (Le.gather (u := 2) (id := 8) Z Z (by omega)) (rT (eR ?_))))))))))
 ·(rw [hm, SY, hws]; refine NR ?_; rw [JI (by omega), Af (by omega)]; rfl)
theorem Pb {l : List Int} {n k : Int} (h0 : 0 ≤ k) (h1 : k < l.length) (h : l[k.toNat]'(by omega) = n) : put l n = l := by
 rw [put, if_pos (h ▸ SJ _)]
theorem Nd {l : List Int} {n k : Int} (hl : l.Pairwise (· < ·)) (h0 : 0 ≤ k) (h1 : k ≤ l.length) (hlt : ∀ (i : Nat) (hi : i < l.length), (i : Int) < k → l[i] < n) (hge : ∀ (h : k < l.length), n < l[k.toNat]'(by omega)) : put l n = l.take k.toNat ++ n :: l.drop k.toNat := by
 rw [put_at h0 h1 hl hlt fun h => Int.le_of_lt (hge h), dif_neg]
 rintro ⟨h, he⟩
 rw [List.getElem?_eq_getElem (by omega)] at he
 have := hge h
 have : l[k.toNat] = n := Option.some.inj he
 omega
theorem JG {l : List Int} {n k : Int} (e : put l n = l.take k.toNat ++ n :: l.drop k.toNat) : ((l.map T.int).drop (0 : Int).toNat).take (k.toNat - (0 : Int).toNat) ++ [T.int n] ++ ((l.map T.int).drop k.toNat).take ((((l.map T.int).length : Nat) : Int).toNat - k.toNat) = (put l n).map T.int := by
 rw [e, SH (l := (l.map T.int).drop k.toNat) (by simp)]
 simp
theorem GY (l : List Int) (n : Int) (hl : l.length ≤ 1048576) (hr : l.Pairwise (· < ·)) : Fun Tryz.prog 96 [.t (T.ints l), .t (.int n)] (Av [.t (T.ints (put l n))]) := by
  refine Fun.begin tys Tryz.func96 Z Z (N := 48) [(0, .t (T.ints l)), (1, .t (.int n))] Z Z (fun w0 G F0 => ?_);refine sG (eZ Z (nA (eZ Z (nB (sQ (AD ?_))))));refine lK (α := Int) [0, 1] [] (fun x => [(5, .t (.int x))]) (fun x => []) (fun x => 0 ≤ x ∧ x ≤ l.length ∧ ∀ (i : Nat) (hi : i < l.length), (i : Int) < x → l[i] < n) (fun x => Int.toNat (l.length - x)) 0 ?_ (fun k hx => ?_)
  · exact ⟨by omega, by omega, fun i hi h => by omega⟩
  obtain ⟨hk0, hk1, hk2⟩ := hx
  refine nY Z (sQ (sG (eK 2 Z (evE ?_))));refine eK 2 Z ?_;refine gB (fun h1 => ?_) (fun h1 => ?_)
  ·
    simp only [HS] at h1;refine xK 4 Z (kZ [0,1,5,7,8,9,10,11,12,13,14,15,16] Z (xK 2 Z (nB (BA Z (AP (tE (AK (AI (tN (sQ (sG (eK 2 Z (evE ?_)))))))))))));refine eK 2 Z ?_;refine gB (fun h2 => ?_) (fun h2 => ?_)
    ·
      simp only [HS] at h2;refine xK 2 Z (kZ [0,1,5,25,28] Z (xK 4 Z (nB (BA Z (AC (tN (sG (bZ [] ?_))))))));refine nZ Z (eK 2 Z (B6 tys Z Z (AA Z) Z Z Z Z Z Z Z Z (by first | omega | (simp only [SE]; omega)) (by first | omega | (simp only [SE]; omega)) (by first | omega | (simp only [SE]; omega)) ?_));refine AH tys Z Z (AA Z) Z Z Z Z Z (.own Z (by first | omega | (simp only [SD]; omega))) Z (.read (FU _ _ _)) (by decide) (by simp; omega) (by decide) Z ?_;refine nZ Z (kZ [0,1,5,38] Z (eZ Z (nA (eK 2 Z (bZ [T.int n] ?_)))));refine nZ Z (AH tys Z Z (AA Z) Z Z Z Z Z (.own Z (by first | omega | (simp only [SD]; omega))) Z (.own Z (by first | decide | omega)) (by decide) (by simp; omega) (by decide) Z ?_);refine nZ Z (eZ Z (nA (eK 3 Z (kZ [43,44,45] Z (B6 tys Z Z (AA Z) Z Z Z Z Z Z Z Z (by first | omega | (simp only [SE]; omega)) (by first | omega | (simp only [SE]; omega)) (by first | omega | (simp only [SE]; omega)) ?_)))));refine AH tys Z Z (AA Z) Z Z Z Z Z (.own Z (by first | omega | (simp only [SD]; omega))) Z (.read (FU _ _ _)) (by decide) (by simp; omega) (by decide) Z ?_;refine nZ Z (eZ Z (nB ?_))
      try (refine AQ (Le.gather (u := 4) (id := 34) rfl rfl (by first | (simp; done) | (simp; omega) | omega)) ?_; refine Aj rfl ?_; refine AQ (Le.freeze (u := 4) rfl) ?_; refine Aj rfl ?_)
      refine rT (eR ?_)
      · first
        | (have e := Nd hr hk0 hk1 hk2 (fun h => by omega)
           refine PX ?_;rw [← JG e];simp only [Hm, SY, List.nil_append, List.length_nil, SS, List.take_nil]
           done)
    simp only [HS] at h2;refine xK 2 Z (kZ [0,1,5,25,26,27] Z (gY Z ?_));refine iY (k := ?_);refine xK 4 Z (nB ?_);refine AB Z (fun h3 => ?_) (fun h3 => ?_)
    ·
      simp only [HS] at h3;refine sG (eK 2 Z (nB ?_))
      try (refine AQ (Le.gather (u := 4) (id := 34) rfl rfl (by first | (simp; done) | (simp; omega) | omega)) ?_; refine Aj rfl ?_; refine AQ (Le.freeze (u := 4) rfl) ?_; refine Aj rfl ?_)
      refine rT (tR (eR ?_))
      · first
        | (exfalso; omega)
    simp only [HS] at h3;refine AC (tN (sG (bZ [] ?_)));refine nZ Z (eK 2 Z (B6 tys Z Z (AA Z) Z Z Z Z Z Z Z Z (by first | omega | (simp only [SE]; omega)) (by first | omega | (simp only [SE]; omega)) (by first | omega | (simp only [SE]; omega)) ?_));refine kZ [0,1,5,34,37] Z (AH tys Z Z (AA Z) Z Z Z Z Z (.own Z (by first | omega | (simp only [SD]; omega))) Z (.read (FU _ _ _)) (by decide) (by simp; omega) (by decide) Z ?_);refine nZ Z (eZ Z (nA (eK 2 Z (bZ [T.int n] ?_))));refine nZ Z (AH tys Z Z (AA Z) Z Z Z Z Z (.own Z (by first | omega | (simp only [SD]; omega))) Z (.own Z (by first | decide | omega)) (by decide) (by simp; omega) (by decide) Z ?_);refine nZ Z (eZ Z (nB (sQ (kY [0,5,6] Z (rG (eK 3 Z (B6 tys Z Z (AA Z) Z Z Z Z Z Z Z Z (by first | omega | (simp only [SE]; omega)) (by first | omega | (simp only [SE]; omega)) (by first | omega | (simp only [SE]; omega)) ?_)))))));refine AH tys Z Z (AA Z) Z Z Z Z Z (.own Z (by first | omega | (simp only [SD]; omega))) Z (.read (FU _ _ _)) (by decide) (by simp; omega) (by decide) Z ?_;refine nZ Z (eZ Z (nB ?_))
    try (refine AQ (Le.gather (u := 4) (id := 34) rfl rfl (by first | (simp; done) | (simp; omega) | omega)) ?_; refine Aj rfl ?_; refine AQ (Le.freeze (u := 4) rfl) ?_; refine Aj rfl ?_)
    refine rT (eR ?_)
    · first
      | (exfalso; omega)
  simp only [HS] at h1;refine xK 2 Z (gY Z ?_);refine iY (k := ?_);refine xZ Z (kZ [0,1,5,7,8,9,10,11,12,13,14,15] Z (xK 3 Z (nB ?_)));refine AB Z (fun h2 => ?_) (fun h2 => ?_)
  ·
    simp only [HS] at h2;refine AC (tN (AD (rG (eZ Z (evI ?_)))));refine eZ Z (oN (bN ?_));refine lQ _ ?_ ?_
    · skip
      refine ⟨by omega, by omega, fun i hi h => ?_⟩
      by_cases hq : (i : Int) < k
      · exact hk2 i hi hq
      · obtain rfl : i = k.toNat := by omega
        exact h2
    · (show Int.toNat _ < Int.toNat _); omega
  simp only [HS] at h2;refine AP (tE (AK (AI (tN (sQ (sG (eK 2 Z (evE ?_))))))));refine eK 2 Z ?_;refine gB (fun h3 => ?_) (fun h3 => ?_)
  ·
    simp only [HS] at h3;refine xZ Z (kZ [0,1,5,25,26,27] Z (xK 5 Z (nB (BA Z (AC (tN (sG (bZ [] ?_))))))));refine nZ Z (eK 2 Z (B6 tys Z Z (AA Z) Z Z Z Z Z Z Z Z (by first | omega | (simp only [SE]; omega)) (by first | omega | (simp only [SE]; omega)) (by first | omega | (simp only [SE]; omega)) ?_));refine kZ [0,1,5,34,37] Z (AH tys Z Z (AA Z) Z Z Z Z Z (.own Z (by first | omega | (simp only [SD]; omega))) Z (.read (FU _ _ _)) (by decide) (by simp; omega) (by decide) Z ?_);refine nZ Z (eZ Z (nA (eK 2 Z (bZ [T.int n] ?_))));refine nZ Z (AH tys Z Z (AA Z) Z Z Z Z Z (.own Z (by first | omega | (simp only [SD]; omega))) Z (.own Z (by first | decide | omega)) (by decide) (by simp; omega) (by decide) Z ?_);refine nZ Z (eZ Z (nB (sQ (kY [0,5,6] Z (rG (eK 3 Z (B6 tys Z Z (AA Z) Z Z Z Z Z Z Z Z (by first | omega | (simp only [SE]; omega)) (by first | omega | (simp only [SE]; omega)) (by first | omega | (simp only [SE]; omega)) ?_)))))));refine AH tys Z Z (AA Z) Z Z Z Z Z (.own Z (by first | omega | (simp only [SD]; omega))) Z (.read (FU _ _ _)) (by decide) (by simp; omega) (by decide) Z ?_;refine nZ Z (eZ Z (nB ?_))
    try (refine AQ (Le.gather (u := 4) (id := 34) rfl rfl (by first | (simp; done) | (simp; omega) | omega)) ?_; refine Aj rfl ?_; refine AQ (Le.freeze (u := 4) rfl) ?_; refine Aj rfl ?_)
    refine rT (eR ?_)
    · first
      | (exfalso; omega)
  simp only [HS] at h3;refine xK 2 Z (kZ [0,1,5,25,26,27] Z (gY Z ?_));refine iY (k := ?_);refine xK 4 Z (nB ?_);refine AB Z (fun h4 => ?_) (fun h4 => ?_)
  ·
    simp only [HS] at h4;refine sG (eK 2 Z (nB ?_))
    try (refine AQ (Le.gather (u := 4) (id := 34) rfl rfl (by first | (simp; done) | (simp; omega) | omega)) ?_; refine Aj rfl ?_; refine AQ (Le.freeze (u := 4) rfl) ?_; refine Aj rfl ?_)
    refine rT (tR (eR ?_))
    · first
      | (refine PX ?_; rw [Pb hk0 (by omega) (by assumption)]; done)
  simp only [HS] at h4;refine AC (tN (sG (bZ [] ?_)));refine nZ Z (eK 2 Z (B6 tys Z Z (AA Z) Z Z Z Z Z Z Z Z (by first | omega | (simp only [SE]; omega)) (by first | omega | (simp only [SE]; omega)) (by first | omega | (simp only [SE]; omega)) ?_));refine kZ [0,1,5,34,37] Z (AH tys Z Z (AA Z) Z Z Z Z Z (.own Z (by first | omega | (simp only [SD]; omega))) Z (.read (FU _ _ _)) (by decide) (by simp; omega) (by decide) Z ?_);refine nZ Z (eZ Z (nA (eK 2 Z (bZ [T.int n] ?_))));refine nZ Z (AH tys Z Z (AA Z) Z Z Z Z Z (.own Z (by first | omega | (simp only [SD]; omega))) Z (.own Z (by first | decide | omega)) (by decide) (by simp; omega) (by decide) Z ?_);refine nZ Z (eZ Z (nB (sQ (kY [0,5,6] Z (rG (eK 3 Z (B6 tys Z Z (AA Z) Z Z Z Z Z Z Z Z (by first | omega | (simp only [SE]; omega)) (by first | omega | (simp only [SE]; omega)) (by first | omega | (simp only [SE]; omega)) ?_)))))));refine AH tys Z Z (AA Z) Z Z Z Z Z (.own Z (by first | omega | (simp only [SD]; omega))) Z (.read (FU _ _ _)) (by decide) (by simp; omega) (by decide) Z ?_;refine nZ Z (eZ Z (nB ?_))
  try (refine AQ (Le.gather (u := 4) (id := 34) rfl rfl (by first | (simp; done) | (simp; omega) | omega)) ?_; refine Aj rfl ?_; refine AQ (Le.freeze (u := 4) rfl) ?_; refine Aj rfl ?_)
  refine rT (eR ?_)
  · first
    | (have e := Nd hr hk0 hk1 hk2 (fun h => by omega)
       refine PX ?_;rw [← JG e];simp only [Hm, SY, List.nil_append, List.length_nil, SS, List.take_nil]
       done)
theorem funcAt_mem {p : Prog} (n : Int) : funcAt p n ∈ p.funcs ∨ funcAt p n = ⟨0, 0, [], []⟩ := by
 unfold funcAt
 cases e : p.funcs[n.toNat]? with
 | none => exact .inr rfl
 | some f => exact .inl (Sn e)
theorem FD {p : Prog} (h : goodP p = true) (n : Int) : ∀ x, x ∈ FE p n → 0 ≤ x ∧ x < p.funcs.length := by
 intro x hx;unfold FE at hx
 rcases funcAt_mem (p := p) n with hm | hm
 ·obtain ⟨k, hk, he⟩ := Se hm
  have := RB (CH h hk) x (by rw [he]; exact hx)
  rwa [BV] at this
 ·rw [hm] at hx; cases hx
theorem Ax {p : Prog} (h : goodP p = true) : InN p.funcs.length (AE p) := fun a c hc => FD h a c (mem_setN.1 hc).2
theorem Bo (p : Prog) (n : Int) : (AE p n).length ≤ 5 := Ed ..
theorem GD (N : Nat) (l : List Int) : (G5 N l).Pairwise (· < ·) := Ci ..
theorem Fm (N : Nat) (l : List Int) : (G5 N l).length ≤ N := Ed ..
theorem retTB {a b : List Int} (h : a = b) : [D.t (.list 1 (a.map T.int)), D.t (T.v (.bool true))] = [D.t (T.ints b), D.t (T.bool true)] := by subst h; rfl
theorem J3 (p : Prog) (fn : Int) (hp : p.ok 1048576) (hg : goodP p = true) (hn0 : 0 ≤ fn) (hn1 : fn < p.funcs.length) : Fun Tryz.prog 122 [.t p.tt, .t (.int fn)] (Av [.t (T.ints (AE p fn)), .t (.bool true)]) := by
 have hgl := AV hg
 refine Fun.begin tys Tryz.func122 Z Z (N := 58) [(0, .t p.tt), (1, .t (.int fn))] Z Z (fun w0 G F0 => ?_);refine sG (AR Z Z (AA Z) Z Z (nZ Z (eK 2 Z (nB (sQ (sG (eZ Z ?_)))))))
 try refine WO_le (Le.freeze (u := 11) rfl) ?_
 refine nZ Z (AJ ?_);refine ⟨_, BZ p hp, rfl, ?_⟩;refine WO_le (Le.known (t := 12) true Z (hg)) (xK 4 Z (kZ [1,2,4,5,14,15,16] Z (xZ Z (gY Z (evE ?_)))));refine gY Z (evI ?_);refine gY Z (AJ ?_);refine ⟨_, Az _ _ _, rfl, ?_⟩;refine WO_le (Le.known (t := 20) true Z (by simp; omega)) ?_;refine xK 2 Z (nB (BA Z (AC (tN (sG (eZ Z (WO_le (Le.nilT (u := 6) 1 Z) (nZ Z (nB (sQ (sQ (kY [1,2,4,5,6] Z (rG (eK 3 Z ?_))))))))))))));refine iY (k := ?_)
 have hff := Be hp (n := fn.toNat) (by omega)
 have hfs := FD hg fn
 have hfc : AE p fn = G5 5 (EP (p.funcs[fn.toNat]'(by omega)).stmts) := by rw [AE, FE, ← Ay (by omega)]
 unfold FE at hfs;rw [← Ay (by omega)] at hfs
 revert hff hfs hfc
 generalize p.funcs[fn.toNat]'(by omega) = f;intro hff hfs hfc
 have hl : f.stmts.length ≤ 1048576 := hff.2.1.1
 refine eK 2 Z (evE ?_);refine eZ Z (nB (AD ?_));refine lK (α := Int × List Int) [28, 29] [] (fun x => [(30, .t (.int (x.1))), (6, .t (T.ints (x.2)))]) (fun x => []) (fun x => 0 ≤ (x.1) ∧ (x.1) ≤ f.stmts.length ∧ (x.2) = G5 5 (EP (f.stmts.take (x.1).toNat))) (fun x => Int.toNat (f.stmts.length - (x.1))) (0, []) ?_ (fun x hx => ?_)
 ·exact ⟨by omega, by omega, (PO 5).symm⟩
 obtain ⟨k, out⟩ := x
 obtain ⟨hk0, hk1, hout⟩ := hx
 dsimp only at hk0 hk1 hout ⊢;refine nY Z (sG (eZ Z (nB (sQ ?_))));refine AB Z (fun h1 => ?_) (fun h1 => ?_)
 ·
  simp only [HS] at h1;refine AC (tN (sQ (AD (sG ?_))));refine iY (k := ?_);refine eZ Z ?_
  try refine WO_le (Le.freeze (u := 33) rfl) ?_
  refine nZ Z (AL tys Z Z (AA Z) Z Z Z (nZ Z (sT Z (nZ Z (nB (sQ (sG (eK 3 Z (nB ?_)))))))));refine As (α := List Int) [8, 28, 29, 30, 31, 32, 33, 34, 35, 36] [8] (fun x => [(6, .t (T.ints x))]) (fun x => []) (fun x => x = G5 5 (EP (f.stmts.take k.toNat) ++ d3 (f.stmts[k.toNat]'(by omega)))) ?_ (fun o2 hx => ?_)
  ·
   refine AB Z (fun h2 => ?_) (fun h2 => ?_)
   ·
    simp only [HS] at h2;refine kY [6,8,28,29,30,31,32,33,34,35,36] Z (rG ?_)
    have hn := NK hfs (n := k.toNat) (by omega) h2
    refine eK 3 Z (A2 Z Z (AA Z) Z Z Z Z Z (GY _ _ (by rw [hout]; exact Sl (Fm _ _) (by decide)) (by rw [hout]; exact GD _ _)) Z ?_);refine eZ Z (oN (jQ _ ?_))
    first
    | (rw [hout, Hr hn.1 (by omega), d3, if_pos h2]; done)
   simp only [HS] at h2;refine AC (jQ _ ?_)
   first
   | (rw [hout, d3, if_neg h2, SW]; done)
  have ho2 := hx
  refine tN (sQ (kY [6,8,28,29,30,31,32,33,34,35,36] Z (rG ?_)))
  have hel := (CQ hff (n := k.toNat) (by omega)).2.2
  refine eK 2 Z (evE ?_);refine eZ Z (nB (AD ?_));refine lK (α := Int × List Int) [28, 29, 30, 42, 43] [] (fun x => [(44, .t (.int (x.1))), (6, .t (T.ints (x.2)))]) (fun x => []) (fun x => 0 ≤ (x.1) ∧ (x.1) ≤ (f.stmts[k.toNat]'(by omega)).ex.length ∧ (x.2) = G5 5 (EP (f.stmts.take k.toNat) ++ d3 (f.stmts[k.toNat]'(by omega)) ++ G3 ((f.stmts[k.toNat]'(by omega)).ex.take (x.1).toNat))) (fun x => Int.toNat ((f.stmts[k.toNat]'(by omega)).ex.length - (x.1))) (0, o2) ?_ (fun x hx => ?_)
  ·exact ⟨by omega, by omega, by rw [ho2]; simp [G3]⟩
  obtain ⟨j, o3⟩ := x
  obtain ⟨hj0, hj1, ho3⟩ := hx
  dsimp only at hj0 hj1 ho3 ⊢;refine nY Z (sG (eZ Z (nB (sQ ?_))));refine AB Z (fun h2 => ?_) (fun h2 => ?_)
  ·
   simp only [HS] at h2;refine AC (tN (sQ (AD (sG ?_))));refine iY (k := ?_);refine eZ Z ?_
   try refine WO_le (Le.freeze (u := 47) rfl) ?_
   refine nZ Z (AL tys Z Z (AA Z) Z Z Z (nZ Z (sT Z (nZ Z (nA (eK 3 Z (nB ?_)))))));refine AB Z (fun h3 => ?_) (fun h3 => ?_)
   ·
    simp only [HS] at h3;refine kY [6,10,28,29,30,42,43,44,45,46,47,48,49,50] Z (rG ?_)
    have hn := NJ hfs (n := k.toNat) (by omega) (j := j.toNat) (by omega) h3
    refine eK 3 Z (A2 Z Z (AA Z) Z Z Z Z Z (GY _ _ (by rw [ho3]; exact Sl (Fm _ _) (by decide)) (by rw [ho3]; exact GD _ _)) Z ?_);refine eZ Z (oN (bN (tN (rG (evI ?_)))));refine eZ Z (oN ?_);refine lQ (_, _) ?_ ?_
    ·dsimp only
     first
     | (refine ⟨by omega, by omega, ?_⟩; rw [ho3, Hr hn.1 (by omega), Dc hj0 (by omega), if_pos h3, SX]; done)
    ·(show Int.toNat _ < Int.toNat _); omega
   simp only [HS] at h3;refine AC (bN (tN (kY [6,10,28,29,30,42,43,44,45,46,47,48,49,50] Z (rG (evI ?_)))));refine eZ Z (oN ?_);refine lQ (_, _) ?_ ?_
   ·dsimp only
    first
    | (refine ⟨by omega, by omega, ?_⟩; rw [ho3, Dc hj0 (by omega), if_neg h3, SW]; done)
   ·(show Int.toNat _ < Int.toNat _); omega
  simp only [HS] at h2;refine AP (tE (AK (AI (bN (tN (rG (evI ?_)))))));refine eZ Z (oN ?_);refine lQ (_, _) ?_ ?_
  ·dsimp only
   exact ⟨by omega, by omega, by rw [ho3, GF hk0 (by omega), Af (l := (f.stmts[k.toNat]'(by omega)).ex) (k := j) (by omega), SX]⟩
  ·(show Int.toNat _ < Int.toNat _); omega
 simp only [HS] at h1;refine AP (tE (AK (AI (tN (sG (eK 3 Z (nB (rT (eR ?_)))))))))
 ·exact retTB (by rw [hout, hfc, Af (by omega)])
theorem Di (p : Prog) (fn : Int) (hp : p.ok 1048576) (hg : goodP p = true) (hn0 : 0 ≤ fn) (hn1 : fn < p.funcs.length) : Fun Tryz.prog 88 [.t p.tt, .t (.int fn)] (Av [.t (T.ints (AE p fn))]) := by
 refine Fun.begin tys Tryz.func88 Z Z (N := 14) [(0, .t p.tt), (1, .t (.int fn))] Z Z (fun w0 G F0 => ?_);refine sG (AR Z Z (AA Z) Z Z (nZ Z (eZ Z (nA (eZ Z ?_)))))
 try refine WO_le (Le.freeze (u := 8) rfl) ?_
 refine nZ Z (eZ Z (A2 Z Z (AA Z) Z Z Z Z Z (J3 p fn hp hg hn0 hn1) Z (eZ Z (WO_evF tys Z Z (AA Z) (d := .t _) Z (nZ Z (WO_evF tys Z Z (AA Z) (d := .t _) Z (nZ Z (eZ Z (kZ [4,5,12] Z (eZ Z (nA (eK 2 Z (nB (rT (eR ?_)))))))))))))))
 ·rfl
end Go.Proofs.YtddfnpiikkilhaaGreat
