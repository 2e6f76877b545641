/- Walks and laws of the claim. -/
import Derived.Test.YtddfnpiikkilhaaGreatFe
import Derived.Test.YtddfnpiikkilhaaGreatMc
import Derived.Test.YtddfnpiikkilhaaGreatFa
import Derived.Test.YtddfnpiikkilhaaGreatMb
import Derived.Test.YtddfnpiikkilhaaGreatMd
set_option linter.unusedVariables false
set_option linter.unusedSimpArgs false
set_option maxRecDepth 10000
set_option maxHeartbeats 1000000
namespace Go.Proofs.YtddfnpiikkilhaaGreat
open Go.Eng
open Go.Eng
def CQ (s : Stmt) : Int := (s.thn.length : Int) + s.els.length
def Ap (vars : Int) (ps : List Int) (s : Stmt) : Bool :=
 if s.kind = 1 then Dt vars ps s.ex && (decide (0 ≤ s.n ∧ s.n ≤ vars - 1) && decide (CQ s = 0))
 else if s.kind = 2 ∨ s.kind = 4 ∨ s.kind = 5 ∨ s.kind = 9 then Dt vars ps s.ex && (decide (s.n = 0) && decide (CQ s = 0))
 else if s.kind = 3 then decide ((s.ex.length : Int) = 0) && (decide (0 ≤ s.n ∧ s.n ≤ (ps.length : Int) - 1) && decide (CQ s = 0))
 else if s.kind = 6 then decide ((s.ex.length : Int) = 0) && (decide (s.n = 0) && decide (CQ s = 0))
 else if s.kind = 7 then Dt vars ps s.ex && decide (s.n = 0)
 else if s.kind = 8 then Dt vars ps s.ex && (decide (s.n = 0) && decide ((s.els.length : Int) = 0))
 else false
def BM (vars : Int) (ps : List Int) (s : Stmt) : Bool := Ap vars ps s && (if s.kind = 3 then decide (atI ps s.n = 0) else true)
theorem M2 (f : Func) (s : Stmt) (ps : List Int) (hs : s.ok 1048576) (hv : 0 ≤ f.vars ∧ f.vars ≤ 6) (hp : Nf ps) (hpb : BR ps = true) : Fun Tryz.prog 121 [.t f.tt, .t s.tt, .t (T.ints ps)] (Av [.t (.bool (Ap f.vars ps s))]) := by
 have hp1 := hp.1
 have hs1 : s.ex.length ≤ 1048576 := hs.1
 have hs2 : s.thn.length ≤ 1048576 := hs.2.1
 have hs3 : s.els.length ≤ 1048576 := hs.2.2.1
 refine Fun.begin tys Tryz.func121 Z Z (N := 115) [(0, .t f.tt), (1, .t s.tt), (2, .t (T.ints ps))] Z Z (fun w0 G F0 => ?_);refine sG (AV Z Z (AA Z) Z Z (nZ Z (AV Z Z (AA Z) Z Z (nZ Z (eZ Z (nA (eK 5 Z (AL ?_))))))));refine ⟨_, KO _ _ _ hv hp hpb hs1, rfl, ?_⟩;refine kZ [2,3,4,6,14] Z (eZ Z (nA (eK 4 Z ?_)));refine gB (fun h1 => ?_) (fun h1 => ?_)
 ·
  simp only [HS] at h1;refine xK 4 Z (kZ [2,3,4,6,7,18,21,23] Z (xK 5 Z (nB (sQ (sG (eK 2 Z (nB (AF (sQ (kY [2,3,4,6,7,8,29] Z (rG (eK 2 Z (nB ?_)))))))))))));refine AC Z (fun h2 => ?_) (fun h2 => ?_)
  ·
   simp only [HS] at h2;refine sG (eK 2 Z ?_);refine gB (fun h3 => ?_) (fun h3 => ?_)
   ·
    simp only [HS] at h3;refine xK 5 Z (kZ [4,6,33,39] Z (xK 9 Z (kZ [6,41,48] Z (xK 3 Z (nB (rT (bR (tR (eR ?_)))))))))
    ·exact retB (by grind [Ap, CQ])
   refine xK 4 Z (gY Z (evI ?_));refine kZ [4,6,33,35,38] Z (gY Z (AL ?_));refine ⟨_, Ar _ _ _, rfl, ?_⟩;refine eK 2 Z ?_;refine gB (fun h4 => ?_) (fun h4 => ?_)
   ·
    simp only [HS] at h4;refine xK 6 Z (kZ [6,41,48] Z (xK 3 Z (nB (rT (bR (tR (eR ?_)))))))
    ·exact retB (by grind [Ap, CQ])
   simp only [HS] at h4;refine xK 2 Z (gY Z (evE ?_));refine xK 2 Z (gY Z (evE ?_));refine kZ [6,41,44,47] Z (gY Z (evI ?_));refine xK 3 Z (nB (rT (bR (tR (eR ?_)))))
   ·exact retB (by grind [Ap, CQ])
  simp only [HS] at h2;refine sQ (sG (eK 2 Z (nB ?_)));refine A4 (α := Bool) [2, 4, 6, 7, 8, 29] [3, 4] (fun x => [(51, .t (.bool x))]) (fun x => []) (fun x => x = decide (s.kind = 2 ∨ s.kind = 4 ∨ s.kind = 5 ∨ s.kind = 9)) ?_ (fun b hx => ?_)
  ·
   refine AC Z (fun h3 => ?_) (fun h3 => ?_)
   ·
    simp only [HS] at h3;refine AD (jQ _ ?_)
    grind
   simp only [HS] at h3;refine sG (eK 2 Z (nB ?_));refine AC Z (fun h4 => ?_) (fun h4 => ?_)
   ·
    simp only [HS] at h4;refine AD (jQ _ ?_)
    grind
   simp only [HS] at h4;refine sG (eK 2 Z (nB ?_));refine AC Z (fun h5 => ?_) (fun h5 => ?_)
   ·
    simp only [HS] at h5;refine AD (jQ _ ?_)
    grind
   simp only [HS] at h5;refine kY [2,4,6,7,8,29,51] Z (rG (eK 2 Z (oN (jQ _ ?_))))
   grind
  have hb := hx
  refine tN ?_;refine AC Z (fun h3 => ?_) (fun h3 => ?_)
  ·
   refine sQ (kY [6,7,8] Z (rG (eK 2 Z ?_)));refine gB (fun h4 => ?_) (fun h4 => ?_)
   ·
    simp only [HS] at h4;refine eK 2 Z (nB (rT (bR (tR (eR ?_)))))
    ·exact retB (by grind [Ap, CQ])
   refine eK 3 Z (nB (rT (bR (tR (eR ?_)))))
   ·exact retB (by grind [Ap, CQ])
  refine sQ (kY [2,4,6,7,8,29] Z (rG (eK 2 Z (nB ?_))));refine AC Z (fun h4 => ?_) (fun h4 => ?_)
  ·
   simp only [HS] at h4;refine sG (eK 2 Z (evE ?_));refine eK 2 Z ?_;refine gB (fun h5 => ?_) (fun h5 => ?_)
   ·
    simp only [HS] at h5;refine xK 2 Z (kZ [4,6,66,68,69] Z (xK 9 Z (kZ [6,74,77,78] Z (xK 6 Z (nB (rT (bR (tR (eR ?_)))))))))
    ·exact retB (by grind [Ap, CQ])
   simp only [HS] at h5;refine xK 2 Z (kZ [2,4,6,66,68] Z (xZ Z (gY Z (evE ?_))));refine gY Z (evI ?_);refine gY Z (AL ?_);refine ⟨_, Ar _ _ _, rfl, ?_⟩;refine eK 2 Z ?_;refine gB (fun h6 => ?_) (fun h6 => ?_)
   ·
    simp only [HS] at h6;refine xK 3 Z (kZ [6,74,77,78] Z (xK 6 Z (nB (rT (bR (tR (eR ?_)))))))
    ·exact retB (by grind [Ap, CQ])
   simp only [HS] at h6;refine xK 2 Z (gY Z (evE ?_));refine kZ [4,6,74,77] Z (xK 2 Z (gY Z (evE ?_)));refine gY Z (evI ?_);refine xK 3 Z (nB (rT (bR (tR (eR ?_)))))
   ·exact retB (by grind [Ap, CQ])
  simp only [HS] at h4;refine sG (eK 2 Z (nB ?_));refine AC Z (fun h5 => ?_) (fun h5 => ?_)
  ·
   simp only [HS] at h5;refine sG (eK 2 Z (evE ?_));refine eK 2 Z (kZ [6,8,90] Z ?_);refine gB (fun h6 => ?_) (fun h6 => ?_)
   ·
    simp only [HS] at h6;refine eK 2 Z (nB (rT (bR (tR (eR ?_)))))
    ·exact retB (by grind [Ap, CQ])
   simp only [HS] at h6;refine eK 3 Z (nB (rT (bR (tR (eR ?_)))))
   ·exact retB (by grind [Ap, CQ])
  simp only [HS] at h5;refine sG (eK 2 Z (nB ?_));refine AC Z (fun h6 => ?_) (fun h6 => ?_)
  ·
   simp only [HS] at h6;refine sG (eK 2 Z ?_);refine gB (fun h7 => ?_) (fun h7 => ?_)
   ·
    simp only [HS] at h7;refine xZ Z (kZ [6,96,98] Z (xK 3 Z (nB (rT (bR (tR (eR ?_)))))))
    ·exact retB (by grind [Ap, CQ])
   refine xK 2 Z (kZ [6,96,98] Z (xK 3 Z (nB (rT (bR (tR (eR ?_)))))))
   ·exact retB (by grind [Ap, CQ])
  simp only [HS] at h6;refine sG (eK 2 Z (nB ?_));refine AC Z (fun h7 => ?_) (fun h7 => ?_)
  ·
   simp only [HS] at h7;refine sQ (kY [4,6,7] Z (rG (eK 2 Z ?_)));refine gB (fun h8 => ?_) (fun h8 => ?_)
   ·
    simp only [HS] at h8;refine xK 7 Z (kZ [6,109,112] Z (xK 3 Z (nB (rT (bR (tR (eR ?_)))))))
    ·exact retB (by grind [Ap, CQ])
   refine xK 5 Z ?_;refine gB (fun h9 => ?_) (fun h9 => ?_)
   ·
    simp only [HS] at h9;refine xK 2 Z (kZ [6,109,112] Z (xK 3 Z (nB (rT (bR (tR (eR ?_)))))))
    ·exact retB (by grind [Ap, CQ])
   simp only [HS] at h9;refine xK 2 Z (kZ [6,109,111] Z (gY Z (evE ?_)));refine xK 3 Z (nB (rT (bR (tR (eR ?_)))))
   ·exact retB (by grind [Ap, CQ])
  simp only [HS] at h7;refine AD (bN (tN (sQ (kY [6] Z (rG (eZ Z (nB (rT (eR ?_)))))))))
  ·exact retB (by grind [Ap, CQ])
 simp only [HS] at h1;refine xK 2 Z (gY Z (evE ?_));refine xZ Z (kZ [2,3,4,6,7,18,21,22] Z (xZ Z (gY Z (evE ?_))));refine gY Z (evI ?_);refine xK 3 Z (nB (sQ (sG (eK 2 Z (nB (AF (sQ (kY [2,3,4,6,7,8,29] Z (rG (eK 2 Z (nB ?_)))))))))));refine AC Z (fun h2 => ?_) (fun h2 => ?_)
 ·
  simp only [HS] at h2;refine sG (eK 2 Z ?_);refine gB (fun h3 => ?_) (fun h3 => ?_)
  ·
   simp only [HS] at h3;refine xK 5 Z (kZ [4,6,33,39] Z (xK 9 Z (kZ [6,41,48] Z (xK 3 Z (nB (rT (bR (tR (eR ?_)))))))))
   ·exact retB (by grind [Ap, CQ])
  refine xK 4 Z (gY Z (evI ?_));refine kZ [4,6,33,35,38] Z (gY Z (AL ?_));refine ⟨_, Ar _ _ _, rfl, ?_⟩;refine eK 2 Z ?_;refine gB (fun h4 => ?_) (fun h4 => ?_)
  ·
   simp only [HS] at h4;refine xK 6 Z (kZ [6,41,48] Z (xK 3 Z (nB (rT (bR (tR (eR ?_)))))))
   ·exact retB (by grind [Ap, CQ])
  simp only [HS] at h4;refine xK 2 Z (gY Z (evE ?_));refine xK 2 Z (gY Z (evE ?_));refine kZ [6,41,44,47] Z (gY Z (evI ?_));refine xK 3 Z (nB (rT (bR (tR (eR ?_)))))
  ·exact retB (by grind [Ap, CQ])
 simp only [HS] at h2;refine sQ (sG (eK 2 Z (nB ?_)));refine A4 (α := Bool) [2, 4, 6, 7, 8, 29] [3, 4] (fun x => [(51, .t (.bool x))]) (fun x => []) (fun x => x = decide (s.kind = 2 ∨ s.kind = 4 ∨ s.kind = 5 ∨ s.kind = 9)) ?_ (fun b hx => ?_)
 ·
  refine AC Z (fun h3 => ?_) (fun h3 => ?_)
  ·
   simp only [HS] at h3;refine AD (jQ _ ?_)
   grind
  simp only [HS] at h3;refine sG (eK 2 Z (nB ?_));refine AC Z (fun h4 => ?_) (fun h4 => ?_)
  ·
   simp only [HS] at h4;refine AD (jQ _ ?_)
   grind
  simp only [HS] at h4;refine sG (eK 2 Z (nB ?_));refine AC Z (fun h5 => ?_) (fun h5 => ?_)
  ·
   simp only [HS] at h5;refine AD (jQ _ ?_)
   grind
  simp only [HS] at h5;refine kY [2,4,6,7,8,29,51] Z (rG (eK 2 Z (oN (jQ _ ?_))))
  grind
 have hb := hx
 refine tN ?_;refine AC Z (fun h3 => ?_) (fun h3 => ?_)
 ·
  refine sQ (kY [6,7,8] Z (rG (eK 2 Z ?_)));refine gB (fun h4 => ?_) (fun h4 => ?_)
  ·
   simp only [HS] at h4;refine eK 2 Z (nB (rT (bR (tR (eR ?_)))))
   ·exact retB (by grind [Ap, CQ])
  refine eK 3 Z (nB (rT (bR (tR (eR ?_)))))
  ·exact retB (by grind [Ap, CQ])
 refine sQ (kY [2,4,6,7,8,29] Z (rG (eK 2 Z (nB ?_))));refine AC Z (fun h4 => ?_) (fun h4 => ?_)
 ·
  simp only [HS] at h4;refine sG (eK 2 Z (evE ?_));refine eK 2 Z ?_;refine gB (fun h5 => ?_) (fun h5 => ?_)
  ·
   simp only [HS] at h5;refine xK 2 Z (kZ [4,6,66,68,69] Z (xK 9 Z (kZ [6,74,77,78] Z (xK 6 Z (nB (rT (bR (tR (eR ?_)))))))))
   ·exact retB (by grind [Ap, CQ])
  simp only [HS] at h5;refine xK 2 Z (kZ [2,4,6,66,68] Z (xZ Z (gY Z (evE ?_))));refine gY Z (evI ?_);refine gY Z (AL ?_);refine ⟨_, Ar _ _ _, rfl, ?_⟩;refine eK 2 Z ?_;refine gB (fun h6 => ?_) (fun h6 => ?_)
  ·
   simp only [HS] at h6;refine xK 3 Z (kZ [6,74,77,78] Z (xK 6 Z (nB (rT (bR (tR (eR ?_)))))))
   ·exact retB (by grind [Ap, CQ])
  simp only [HS] at h6;refine xK 2 Z (gY Z (evE ?_));refine kZ [4,6,74,77] Z (xK 2 Z (gY Z (evE ?_)));refine gY Z (evI ?_);refine xK 3 Z (nB (rT (bR (tR (eR ?_)))))
  ·exact retB (by grind [Ap, CQ])
 simp only [HS] at h4;refine sG (eK 2 Z (nB ?_));refine AC Z (fun h5 => ?_) (fun h5 => ?_)
 ·
  simp only [HS] at h5;refine sG (eK 2 Z (evE ?_));refine eK 2 Z (kZ [6,8,90] Z ?_);refine gB (fun h6 => ?_) (fun h6 => ?_)
  ·
   simp only [HS] at h6;refine eK 2 Z (nB (rT (bR (tR (eR ?_)))))
   ·exact retB (by grind [Ap, CQ])
  simp only [HS] at h6;refine eK 3 Z (nB (rT (bR (tR (eR ?_)))))
  ·exact retB (by grind [Ap, CQ])
 simp only [HS] at h5;refine sG (eK 2 Z (nB ?_));refine AC Z (fun h6 => ?_) (fun h6 => ?_)
 ·
  simp only [HS] at h6;refine sG (eK 2 Z ?_);refine gB (fun h7 => ?_) (fun h7 => ?_)
  ·
   simp only [HS] at h7;refine xZ Z (kZ [6,96,98] Z (xK 3 Z (nB (rT (bR (tR (eR ?_)))))))
   ·exact retB (by grind [Ap, CQ])
  refine xK 2 Z (kZ [6,96,98] Z (xK 3 Z (nB (rT (bR (tR (eR ?_)))))))
  ·exact retB (by grind [Ap, CQ])
 simp only [HS] at h6;refine sG (eK 2 Z (nB ?_));refine AC Z (fun h7 => ?_) (fun h7 => ?_)
 ·
  simp only [HS] at h7;refine sQ (kY [4,6,7] Z (rG (eK 2 Z ?_)));refine gB (fun h8 => ?_) (fun h8 => ?_)
  ·
   simp only [HS] at h8;refine xK 7 Z (kZ [6,109,112] Z (xK 3 Z (nB (rT (bR (tR (eR ?_)))))))
   ·exact retB (by grind [Ap, CQ])
  refine xK 5 Z ?_;refine gB (fun h9 => ?_) (fun h9 => ?_)
  ·
   simp only [HS] at h9;refine xK 2 Z (kZ [6,109,112] Z (xK 3 Z (nB (rT (bR (tR (eR ?_)))))))
   ·exact retB (by grind [Ap, CQ])
  simp only [HS] at h9;refine xK 2 Z (kZ [6,109,111] Z (gY Z (evE ?_)));refine xK 3 Z (nB (rT (bR (tR (eR ?_)))))
  ·exact retB (by grind [Ap, CQ])
 simp only [HS] at h7;refine AD (bN (tN (sQ (kY [6] Z (rG (eZ Z (nB (rT (eR ?_)))))))))
 ·exact retB (by grind [Ap, CQ])
theorem M7 (f : Func) (s : Stmt) (ps : List Int) (hs : s.ok 1048576) (hn : 0 ≤ s.n) (hv : 0 ≤ f.vars ∧ f.vars ≤ 6) (hp : Nf ps) : Fun Tryz.prog 78 [.t f.tt, .t s.tt, .t (T.ints ps)] (Av [.t (.bool (BM f.vars ps s))]) := by
 have hp1 := hp.1
 have hs1 : s.ex.length ≤ 1048576 := hs.1
 have hs2 : s.thn.length ≤ 1048576 := hs.2.1
 have hs3 : s.els.length ≤ 1048576 := hs.2.2.1
 refine Fun.begin tys Tryz.func78 Z Z (N := 97) [(0, .t f.tt), (1, .t s.tt), (2, .t (T.ints ps))] Z Z (fun w0 G F0 => ?_);refine sG (AV Z Z (AA Z) Z Z (nZ Z (AV Z Z (AA Z) Z Z (nZ Z (eZ Z (nB (sQ (sQ ?_))))))));refine A4 (α := Bool) [2, 3, 4, 6] [3, 4] (fun x => [(37, .t (.bool x))]) (fun x => []) (fun x => x = (!decide (1 ≤ s.kind ∧ s.kind ≤ 9) || ((decide (¬ s.kind = 7) && decide (0 < s.els.length)) || (decide (¬ s.kind = 7) && (decide (¬ s.kind = 8) && decide (0 < s.thn.length)))))) ?_ (fun bb hx => ?_)
 ·
  refine rG (eK 2 Z (AL ?_));refine ⟨_, Ah _ _ _, rfl, ?_⟩;refine eK 2 Z ?_;refine gB (fun h1 => ?_) (fun h1 => ?_)
  ·
   simp only [HS] at h1;refine xZ Z (kZ [2,3,4,6,11,13] Z (xK 9 Z (kZ [2,3,4,6,22] Z (xK 9 Z (kZ [2,3,4,6,22,31] Z (xK 6 Z (oN (jQ _ ?_))))))))
   simp_all
   omega
  simp only [HS] at h1;refine xK 2 Z (kZ [2,3,4,6,11,13] Z (xK 2 Z ?_));refine gB (fun h2 => ?_) (fun h2 => ?_)
  ·
   simp only [HS] at h2;refine xK 7 Z (kZ [2,3,4,6,22,23] Z (xK 3 Z ?_));refine gB (fun h3 => ?_) (fun h3 => ?_)
   ·
    simp only [HS] at h3;refine xK 6 Z (kZ [2,3,4,6,22,31,33] Z (xK 4 Z (oN (jQ _ ?_))))
    simp_all
    done
   simp only [HS] at h3;refine xK 5 Z ?_;refine gB (fun h4 => ?_) (fun h4 => ?_)
   ·
    simp only [HS] at h4;refine xZ Z (kZ [2,3,4,6,22,31,33] Z (xK 4 Z (oN (jQ _ ?_))))
    simp_all
    done
   simp only [HS] at h4;refine xK 2 Z (kZ [2,3,4,6,22,31,33] Z (gY Z (evE ?_)));refine xK 3 Z (oN (jQ _ ?_))
   simp_all
   done
  simp only [HS] at h2;refine xK 2 Z (gY Z (evE ?_));refine xK 4 Z (kZ [2,3,4,6,22] Z ?_);refine gB (fun h3 => ?_) (fun h3 => ?_)
  ·
   simp only [HS] at h3;refine xK 9 Z (kZ [2,3,4,6,22,31,32] Z (xK 5 Z (oN (jQ _ ?_))))
   simp_all
   done
  simp only [HS] at h3;refine xK 4 Z ?_;refine gB (fun h4 => ?_) (fun h4 => ?_)
  ·
   simp only [HS] at h4;refine xK 5 Z (kZ [2,3,4,6,22,31,32] Z (xK 5 Z (oN (jQ _ ?_))))
   simp_all
   done
  simp only [HS] at h4;refine xK 5 Z (kZ [2,3,4,6,22,31] Z ?_);refine gB (fun h5 => ?_) (fun h5 => ?_)
  ·
   simp only [HS] at h5;refine xK 5 Z (oN (jQ _ ?_))
   simp_all
   done
  simp only [HS] at h5;refine xK 2 Z (gY Z (evE ?_));refine xK 3 Z (oN (jQ _ ?_))
  simp_all
  done
 have hbb := hx
 refine tN ?_;refine AC Z (fun h1 => ?_) (fun h1 => ?_)
 ·
  refine sQ (kY [2,3,4,6] Z (rG (eZ Z (nB (rT (tR (eR ?_)))))))
  ·have hh := BT f.vars ps s.ex
   refine retB ?_
   (have hq := hbb.symm.trans (by assumption : bb = true); clear hbb; simp only [Bool.or_eq_true, Si, TO, decide_eq_true_eq, decide_eq_false_iff_not] at hq; rcases hq with hq | hq | hq <;> (first | grind [BM, Ap, CQ, Bq]))
 refine AD (tN (sQ (sQ (kY [2,3,4,6] Z (rG (eK 2 Z (nB (AF (sG (eK 2 Z (nB ?_)))))))))));refine AC Z (fun h2 => ?_) (fun h2 => ?_)
 ·
  simp only [HS] at h2;refine sG (eK 2 Z (evE ?_));refine eK 2 Z (kZ [2,3,4,6,49] Z ?_);refine gB (fun h3 => ?_) (fun h3 => ?_)
  ·
   simp only [HS] at h3;refine xK 9 Z (kZ [2,3,4,6,49,53,59] Z (xK 9 Z (kZ [2,3,4,6,49,68] Z (eK 2 Z (nB (rT (bR (tR (eR ?_)))))))))
   ·have hh := BT f.vars ps s.ex
    refine retB ?_
    (have hq := hbb.symm.trans (by assumption : bb = false); clear hbb; simp only [S6, Tm, Bool.not_eq_false', decide_eq_true_eq, decide_eq_false_iff_not, Classical.not_not] at hq; obtain ⟨q1, q2, q3⟩ := hq; grind [BM, Ap, CQ, Bq])
  simp only [HS] at h3;refine xK 4 Z ?_;refine gB (fun h4 => ?_) (fun h4 => ?_)
  ·
   simp only [HS] at h4;refine xK 5 Z (kZ [2,3,4,6,49,53,59] Z (xK 9 Z (kZ [2,3,4,6,49,68] Z (eK 2 Z (nB (rT (bR (tR (eR ?_)))))))))
   ·have hh := BT f.vars ps s.ex
    refine retB ?_
    (have hq := hbb.symm.trans (by assumption : bb = false); clear hbb; simp only [S6, Tm, Bool.not_eq_false', decide_eq_true_eq, decide_eq_false_iff_not, Classical.not_not] at hq; obtain ⟨q1, q2, q3⟩ := hq; grind [BM, Ap, CQ, Bq])
  simp only [HS] at h4;refine xK 3 Z (gY Z (evE ?_));refine gY Z (evI ?_);refine kZ [2,3,4,6,49,53,55,58] Z (gY Z (AL ?_));refine ⟨_, Ah _ _ _, rfl, ?_⟩;refine xZ Z ?_;refine gB (fun h5 => ?_) (fun h5 => ?_)
  ·
   simp only [HS] at h5;refine xK 7 Z (kZ [2,3,4,6,49,68] Z (eK 2 Z (nB (rT (bR (tR (eR ?_)))))))
   ·have hh := BT f.vars ps s.ex
    refine retB ?_
    (have hq := hbb.symm.trans (by assumption : bb = false); clear hbb; simp only [S6, Tm, Bool.not_eq_false', decide_eq_true_eq, decide_eq_false_iff_not, Classical.not_not] at hq; obtain ⟨q1, q2, q3⟩ := hq; grind [BM, Ap, CQ, Bq])
  simp only [HS] at h5;refine xK 3 Z (gY Z ?_);refine iY (k := ?_);refine xK 3 Z (kZ [2,3,4,6,49,53,67] Z (xK 3 Z (nB (rT (bR (tR (eR ?_)))))))
  ·have hh := BT f.vars ps s.ex
   refine retB ?_
   (have hq := hbb.symm.trans (by assumption : bb = false); clear hbb; simp only [S6, Tm, Bool.not_eq_false', decide_eq_true_eq, decide_eq_false_iff_not, Classical.not_not] at hq; obtain ⟨q1, q2, q3⟩ := hq; grind [BM, Ap, CQ, Bq])
 simp only [HS] at h2;refine sG (eK 2 Z (nB ?_));refine AC Z (fun h3 => ?_) (fun h3 => ?_)
 ·
  simp only [HS] at h3;refine sG (eK 2 Z (evE ?_));refine kZ [2,3,4,6,74] Z (eK 2 Z ?_);refine gB (fun h4 => ?_) (fun h4 => ?_)
  ·
   simp only [HS] at h4;refine xK 4 Z (nB (rT (bR (tR (eR ?_)))))
   ·have hh := BT f.vars ps s.ex
    refine retB ?_
    (have hq := hbb.symm.trans (by assumption : bb = false); clear hbb; simp only [S6, Tm, Bool.not_eq_false', decide_eq_true_eq, decide_eq_false_iff_not, Classical.not_not] at hq; obtain ⟨q1, q2, q3⟩ := hq; grind [BM, Ap, CQ, Bq])
  simp only [HS] at h4;refine xK 5 Z (nB (rT (bR (tR (eR ?_)))))
  ·have hh := BT f.vars ps s.ex
   refine retB ?_
   (have hq := hbb.symm.trans (by assumption : bb = false); clear hbb; simp only [S6, Tm, Bool.not_eq_false', decide_eq_true_eq, decide_eq_false_iff_not, Classical.not_not] at hq; obtain ⟨q1, q2, q3⟩ := hq; grind [BM, Ap, CQ, Bq])
 simp only [HS] at h3;refine sG (eK 2 Z (nB ?_));refine AC Z (fun h4 => ?_) (fun h4 => ?_)
 ·
  simp only [HS] at h4;refine sQ (kY [2,3,4,6] Z (rG (eK 4 Z (evI ?_))));refine AL ?_;refine ⟨_, Ah _ _ _, rfl, ?_⟩;refine eZ Z (nB ?_);refine AC Z (fun h5 => ?_) (fun h5 => ?_)
  ·
   simp only [HS] at h5;refine sQ (kY [2,3,4,6] Z (rG (eZ Z (nB (rT (bR (tR (eR ?_))))))))
   ·have hh := BT f.vars ps s.ex
    refine retB ?_
    (have hq := hbb.symm.trans (by assumption : bb = false); clear hbb; simp only [S6, Tm, Bool.not_eq_false', decide_eq_true_eq, decide_eq_false_iff_not, Classical.not_not] at hq; obtain ⟨q1, q2, q3⟩ := hq; grind [BM, Ap, CQ, Bq])
  simp only [HS] at h5;refine AD (bN (tN (sQ (kY [2,3,4,6] Z (rG (eK 5 Z (AL ?_)))))));refine ⟨_, H6 _ _ _ (by omega) hp hs1, rfl, ?_⟩;refine eK 2 Z (nB (rT (eR ?_)))
  ·have hh := BT f.vars ps s.ex
   refine retB ?_
   (have hq := hbb.symm.trans (by assumption : bb = false); clear hbb; simp only [S6, Tm, Bool.not_eq_false', decide_eq_true_eq, decide_eq_false_iff_not, Classical.not_not] at hq; obtain ⟨q1, q2, q3⟩ := hq; grind [BM, Ap, CQ, Bq])
 simp only [HS] at h4;refine sQ (kY [2,3,4,6] Z (rG (eK 3 Z (nB ?_))));refine AC Z (fun h5 => ?_) (fun h5 => ?_)
 ·
  simp only [HS] at h5;refine sG (eZ Z (nB (rT (bR (tR (eR ?_))))))
  ·have hh := BT f.vars ps s.ex
   refine retB ?_
   (have hq := hbb.symm.trans (by assumption : bb = false); clear hbb; simp only [S6, Tm, Bool.not_eq_false', decide_eq_true_eq, decide_eq_false_iff_not, Classical.not_not] at hq; obtain ⟨q1, q2, q3⟩ := hq; grind [BM, Ap, CQ, Bq])
 simp only [HS] at h5;refine AD (bN (tN (sG (eK 5 Z (AL ?_)))));refine ⟨_, H6 _ _ _ (by omega) hp hs1, rfl, ?_⟩;refine kZ [6,95] Z (eK 2 Z (nB (rT (eR ?_))))
 ·have hh := BT f.vars ps s.ex
  refine retB ?_
  (have hq := hbb.symm.trans (by assumption : bb = false); clear hbb; simp only [S6, Tm, Bool.not_eq_false', decide_eq_true_eq, decide_eq_false_iff_not, Classical.not_not] at hq; obtain ⟨q1, q2, q3⟩ := hq; grind [BM, Ap, CQ, Bq])
theorem LO (l : List Stmt) (p : Stmt → Bool) (f : Nat) (caps : List D) (hcaps : caps.all D.imm = true) (hl : l.length ≤ 9223372036854775807) (hf : ∀ x, x ∈ l → Fun Tryz.prog f (.t x.tt :: caps) (.t (.bool (p x)))) : Fun Tryz.prog 115 [.t (T.Stmts l), .clo f caps] (Av [.t (.int (GR p l 0))]) := by
 refine Fun.begin tys Tryz.func115 Z Z (N := 19) [(0, .t (T.Stmts l)), (1, .clo f caps)] Z Z (fun w0 G F0 => ?_);refine sG (eZ Z (nB (sQ (sG (eZ Z (evE ?_))))));refine eZ Z (nB (AF ?_));refine lK (α := Int) [0, 1, 7] [] (fun x => [(8, .t (.int x))]) (fun x => []) (fun x => 0 ≤ x ∧ x ≤ l.length ∧ GR p l 0 = GR p (l.drop x.toNat) x) (fun x => Int.toNat (l.length - x)) 0 ?_ (fun k hx => ?_)
 ·exact ⟨by omega, by omega, rfl⟩
 obtain ⟨hk0, hk1, hk2⟩ := hx
 refine nY Z (sG (eZ Z (nB (sQ ?_))));refine AC Z (fun h1 => ?_) (fun h1 => ?_)
 ·
  simp only [HS] at h1;refine AD (tN (sQ (AF (sG (eK 2 Z (nA (EL tys Z Z (AA Z) Z Z (by assumption) ?_)))))));refine eK 2 Z ?_;refine iY (k := ?_);refine eZ Z ?_
  try refine AB (Le.freeze (u := 15) rfl) ?_
  refine nZ Z ?_;refine Bm Z Z (AA Z) Z Z (by repeat (first | exact ResL.done | exact ResL.imms (by first | rfl | assumption) | refine ResL.t ?_ | refine ResL.own ?_ | refine ResL.slA Z (by first | rfl | (simp; done) | (simp; omega)) ?_ | refine ResL.sl Z (by first | omega | (simp; done) | (simp; omega)) ?_ | refine ResL.rp ?_ | refine ResL.clo ?_ ?_ | refine ResL.aggT ?_ ?_ | refine ResL.ref Z ?_ ?_ | refine ResL.nil' ?_ | refine ResL.nil 1 ?_)) (hf _ (Ss _)) Z ?_;refine kZ [0,1,5,7,8,9,10,11,12,13,14,15,16] Z (nB ?_);refine AC Z (fun h2 => ?_) (fun h2 => ?_)
  ·
   refine sG (eK 2 Z (nB (rT (bR (tR (AR (bR (tR (eR ?_)))))))))
   ·rw [hk2, MI hk0 h1]
    simp [h2]
    done
  refine AD (bN (tN (rG (evI ?_))));refine eZ Z (oN ?_);refine lQ _ ?_ ?_
  ·skip
   refine ⟨by omega, by omega, ?_⟩; rw [hk2, MI hk0 h1]; simp [h2]
  ·(show Int.toNat _ < Int.toNat _); omega
 simp only [HS] at h1;refine AS (tE (AP (AK (tN (sG (eZ Z (nB (rT (eR ?_)))))))))
 ·rw [hk2, BE h1]
  rfl
theorem LP (l : List Stmt) (p : Stmt → Bool) (f : Nat) (caps : List D) (hcaps : caps.all D.imm = true) (hl : l.length ≤ 9223372036854775807) (hf : ∀ x, x ∈ l → Fun Tryz.prog f (.t x.tt :: caps) (.t (.bool (p x)))) : Fun Tryz.prog 76 [.t (T.Stmts l), .clo f caps] (Av [.t (.bool (l.any p))]) := by
 refine Fun.begin tys Tryz.func76 Z Z (N := 9) [(0, .t (T.Stmts l)), (1, .clo f caps)] Z Z (fun w0 G F0 => ?_);refine sG (eZ Z (nA (eZ Z (EL tys Z Z (AA Z) Z Z (by assumption) ?_))));refine Bm Z Z (AA Z) Z Z (by repeat (first | exact ResL.done | exact ResL.imms (by first | rfl | assumption) | refine ResL.t ?_ | refine ResL.own ?_ | refine ResL.slA Z (by first | rfl | (simp; done) | (simp; omega)) ?_ | refine ResL.sl Z (by first | omega | (simp; done) | (simp; omega)) ?_ | refine ResL.rp ?_ | refine ResL.clo ?_ ?_ | refine ResL.aggT ?_ ?_ | refine ResL.ref Z ?_ ?_ | refine ResL.nil' ?_ | refine ResL.nil 1 ?_)) (LO l p f caps hcaps hl hf) Z ?_;refine eK 2 Z (nB (rT (eR ?_)))
 ·rw [← HL (Te 0)]
theorem Ns {vars : Int} {ps : List Int} {s : Stmt} (h : s.n < 0) : BM vars ps s = false := by grind [BM, Ap]
theorem LM (s : Stmt) (f : Func) (ps : List Int) (hs : s.ok 1048576) (hv : 0 ≤ f.vars ∧ f.vars ≤ 6) (hp : Nf ps) : Fun Tryz.prog 77 [.t s.tt, .rp f.tt 0, .rp (.agg [T.ints ps]) 0] (Av [.t (.bool (!BM f.vars ps s))]) := by
 refine Fun.begin tys Tryz.func77 Z Z (N := 15) [(0, .t s.tt), (1, .rp f.tt 0), (2, .rp (.agg [T.ints ps]) 0)] Z Z (fun w0 G F0 => ?_);refine sG (AV Z Z (AA Z) Z Z (nZ Z (eZ Z (nA (eK 4 Z ?_)))));refine gB (fun h1 => ?_) (fun h1 => ?_)
 ·
  simp only [HS] at h1;refine xK 3 Z (kZ [4,8,12] Z (xK 3 Z (nB (rT (eR ?_)))))
  ·exact retB (by rw [Ns (by assumption)]; rfl)
 simp only [HS] at h1;refine eZ Z ?_
 try refine AB (Le.freeze (u := 9) rfl) ?_
 refine nZ Z (xZ Z ?_)
 try refine AB (Le.freeze (u := 10) rfl) ?_
 refine nZ Z (xZ Z (kZ [4,8,9,10,11] Z (gY Z (AL ?_))));refine ⟨_, M7 f s ps hs (by omega) hv hp, rfl, ?_⟩;refine xK 3 Z (nB (rT (eR ?_)))
 ·rfl
theorem Hr (n : Int) : Fun Tryz.prog 111 [.t (.int n)] (Av [.t (.bool (!decide (0 ≤ n ∧ n ≤ 2)))]) := by
 refine Fun.begin tys Tryz.func111 Z Z (N := 6) [(0, .t (.int n))] Z Z (fun w0 G F0 => ?_);refine sG (eZ Z (nA (eZ Z (AL ?_))));refine ⟨_, Ah _ _ _, rfl, ?_⟩;refine eK 2 Z (nB (rT (eR ?_)))
 ·rfl
theorem I5 (ps : List Int) (hp : ps.length ≤ 1048576) : Fun Tryz.prog 74 [.t (T.ints ps)] (Av [.t (.bool (BR ps))]) := by
 refine Fun.begin tys Tryz.func74 Z Z (N := 11) [(0, .t (T.ints ps))] Z Z (fun w0 G F0 => ?_);refine sG (eZ Z (nA (eZ Z (evE ?_))));refine eK 2 Z ?_;refine gB (fun h1 => ?_) (fun h1 => ?_)
 ·
  simp only [HS] at h1;refine xK 4 Z (kZ [2] Z (nB (rT (eR ?_))))
  ·have e : (ps.any fun n => !decide (0 ≤ n ∧ n ≤ 2)) = !Cv ps 0 2 := (by rw [Cv, List.not_all_eq_any_not])
   exact retB (by grind [BR])
 simp only [HS] at h1;refine eZ Z (gY Z (AL ?_));refine ⟨_, Gg ps (fun n => !decide (0 ≤ n ∧ n ≤ 2)) _ [] Z (by omega) (fun x _ => Hr x), rfl, ?_⟩;refine xK 2 Z (kZ [2,10] Z (eZ Z (nB (rT (eR ?_)))))
 ·have e : (ps.any fun n => !decide (0 ≤ n ∧ n ≤ 2)) = !Cv ps 0 2 := (by rw [Cv, List.not_all_eq_any_not])
  exact retB (by grind [BR])
def paramsL (p : Prog) : List Int := p.funcs.map (·.params)
def CA (ps : List Int) (f : Func) : Bool := Ao f && f.stmts.all (BM f.vars ps)
def EP (ps : List Int) (f : Func) : Bool := Ao f && f.stmts.all (Ap f.vars ps)
def AZ (p : Prog) : Bool := decide ((1 : Int) ≤ p.funcs.length ∧ (p.funcs.length : Int) ≤ 5) && (BR (paramsL p) && (decide (atI (paramsL p) 0 = 0) && p.funcs.all (CA (paramsL p))))
theorem LC {f : Func} (h : Ao f = true) : 0 ≤ f.vars ∧ f.vars ≤ 6 := by
 unfold Ao E3 at h;simp only [Si, decide_eq_true_eq] at h;omega
theorem Bk {p : Prog} (hp : p.ok 1048576) {n : Nat} (h : n < p.funcs.length) : (p.funcs[n]).ok 1048576 := hp.1.2 _ (Ss h)
theorem A9 (p : Prog) : (paramsL p).length = p.funcs.length := Sj ..
theorem BX {p : Prog} {n : Int} (h0 : 0 ≤ n) (h1 : n < p.funcs.length) : atI (paramsL p) n = (p.funcs[n.toNat]'(by omega)).params := by
 rw [Bq h0 (by rw [A9]; omega)]; simp [paramsL]
theorem Ki {vars : Int} {ps : List Int} {l : List Stmt} : (l.any fun s => !BM vars ps s) = !l.all (BM vars ps) := by rw [List.not_all_eq_any_not]
theorem getT2 {α β : Type} (f : β → T) (g : α → β) (l : List α) {i : Int} (h0 : 0 ≤ i) (h1 : i < l.length) : ((l.map g).map f)[i.toNat]? = some (f (g (l[i.toNat]'(by omega)))) := by
 rw [List.getElem?_map, List.getElem?_map, List.getElem?_eq_getElem (by omega)]; rfl
theorem Gh {p : Prog} {k : Int} (h0 : 0 ≤ k) (h1 : k < p.funcs.length) (h : CA (paramsL p) (p.funcs[k.toNat]'(by omega)) = false) : p.funcs.all (CA (paramsL p)) = false := GI h0 h1 h
theorem EA (p : Prog) (hp : p.ok 1048576) : Fun Tryz.prog 37 [.t p.tt] (Av [.t (.bool (AZ p))]) := by
 have hl : p.funcs.length ≤ 1048576 := hp.1.1
 refine Fun.begin tys Tryz.func37 Z Z (N := 41) [(0, .t p.tt)] Z Z (fun w0 G F0 => ?_);refine sG (AV Z Z (AA Z) Z Z (nZ Z (eZ Z (nA (eZ Z ?_)))))
 try refine AB (Le.freeze (u := 6) rfl) ?_
 refine nZ Z (AL ?_);refine ⟨_, Jt p hp, rfl, ?_⟩;refine AB (Le.freeze (u := 7) Z) (nZ Z (AG tys Z Z (AA Z) Z Z Z (nZ Z (sT Z (nZ Z (nB (sQ (sG (eK 2 Z (evE ?_))))))))));refine kZ [1,2,3,10] Z (AL ?_);refine ⟨_, Ah _ _ _, rfl, ?_⟩;refine eK 2 Z ?_;refine gB (fun h1 => ?_) (fun h1 => ?_)
 ·
  simp only [HS] at h1;refine xK 6 Z (kZ [1,2,3,18,20] Z (xK 3 Z (nB (Af Z (sG (eZ Z (nB (rT (tR (eR ?_))))))))))
  ·first
   | (refine retB ?_; rw [AZ]; simp only [h1, decide_false, Bool.false_and]; done)
 simp only [HS] at h1;refine eZ Z (gY Z (AL ?_));refine ⟨_, I5 _ (by simp; omega), rfl, ?_⟩;refine xK 3 Z ?_;refine gB (fun h2 => ?_) (fun h2 => ?_)
 ·
  simp only [HS] at h2;refine xZ Z (kZ [1,2,3,18,20] Z (xK 3 Z (nB (Af Z (sG (eZ Z (nB (rT (tR (eR ?_))))))))))
  ·first
   | (refine retB ?_; rw [AZ, show BR (paramsL p) = false from h2]; simp; done)
 simp only [HS] at h2;refine eZ Z (gY Z (Hc tys Z Z (AA Z) Z Z Z Z Z Z Z (by omega) _ (getT2 _ _ _ (by omega) (by omega)) (kZ [1,2,3,18,20] Z (xK 3 Z (nB ?_)))));refine AC Z (fun h3 => ?_) (fun h3 => ?_)
 ·
  simp only [HS] at h3;refine sG (eZ Z (nB (rT (tR (eR ?_)))))
  ·first
   | (refine retB ?_; have h3' : ¬ (p.funcs[(0 : Int).toNat]'(by simp; omega)).params = 0 := h3; rw [AZ, BX (by omega) (by omega)]; simp only [h3', decide_false, Bool.false_and, Bool.and_false]; done)
 simp only [HS] at h3;refine AD (tN (sQ (sG (eK 2 Z (evE ?_)))));refine eZ Z (nB (AF ?_));refine lK (α := Int) [1, 3, 25, 26] [1, 3] (fun x => [(27, .t (.int x))]) (fun x => []) (fun x => 0 ≤ x ∧ x ≤ p.funcs.length ∧ (p.funcs.take x.toNat).all (CA (paramsL p)) = true ∧ Nf (paramsL p) ∧ AZ p = p.funcs.all (CA (paramsL p))) (fun x => Int.toNat (p.funcs.length - x)) 0 ?_ (fun k hx => ?_)
 ·have hp2 : BR (paramsL p) = true := by assumption
  have h0' : (p.funcs[(0 : Int).toNat]'(by simp; omega)).params = 0 := by assumption
  refine ⟨by omega, by omega, by simp, Fi hp2, ?_⟩;rw [AZ, hp2, BX (by omega) (by omega), h0']
  simp; intros; omega
 obtain ⟨hk0, hk1, hall, hps, hgp⟩ := hx
 refine nY Z (sG (eZ Z (nB (sQ ?_))));refine AC Z (fun h4 => ?_) (fun h4 => ?_)
 ·
  simp only [HS] at h4;refine AD (tN (sQ (AF (sG ?_))));refine iY (k := ?_);refine eZ Z ?_
  try refine AB (Le.freeze (u := 30) rfl) ?_
  refine nZ Z (AG tys Z Z (AA Z) Z Z Z (nZ Z (sT Z (nZ Z (nA (eZ Z ?_))))))
  try refine AB (Le.freeze (u := 31) rfl) ?_
  refine nZ Z (AL ?_);refine ⟨_, KK _ (Bk hp _), rfl, ?_⟩;refine eK 2 Z (kZ [1,3,5,25,26,27,28,29,30,31,32,33,34] Z ?_);refine gB (fun h5 => ?_) (fun h5 => ?_)
  ·
   simp only [HS] at h5;refine xK 4 Z (nB (Af Z (sG (eZ Z (nB (rT (bR (tR (AR (bR (tR (eR ?_))))))))))))
   ·first
    | (refine retB ?_; rw [hgp, Gh hk0 h4 (by unfold CA; rw [h5]; rfl)]; done)
  simp only [HS] at h5;refine xK 3 Z (gY Z (AL ?_));refine ⟨_, LP _ (fun s => !BM (p.funcs[k.toNat]'(by omega)).vars (paramsL p) s) _ [.rp (p.funcs[k.toNat]'(by omega)).tt 0, .rp (.agg [T.ints (paramsL p)]) 0] Z (by have := (Bk hp (n := k.toNat) (by omega)).2.1.1; omega) (fun s hs => LM s _ _ ((Bk hp (n := k.toNat) (by omega)).2.1.2 s hs) (LC (by assumption)) hps), rfl, ?_⟩;refine eZ Z (nB ?_);refine AC Z (fun h6 => ?_) (fun h6 => ?_)
  ·
   refine sG (eZ Z (nB (rT (bR (tR (AR (bR (tR (eR ?_)))))))))
   ·first
    | (refine retB ?_; rw [hgp, Gh hk0 h4 (by rw [Ki] at h6; unfold CA; rw [h5]; simpa using h6)]; done)
  refine AD (bN (tN (rG (evI ?_))));refine eZ Z (oN ?_);refine lQ _ ?_ ?_
  ·skip
   refine ⟨by omega, by omega, DJ hk0 (by omega) hall ?_, hps, hgp⟩;unfold CA;rw [Ki] at *
   simp_all
  ·(show Int.toNat _ < Int.toNat _); omega
 simp only [HS] at h4;refine AS (tE (AP (AK (tN (sG (eZ Z (nB (rT (eR ?_)))))))))
 ·first
  | (refine retB ?_; rw [hgp, FQ (by omega) hall]; done)
theorem sitesF_mem : ∀ {l : List Stmt} {k x : Int}, x ∈ Am l k ↔ ∃ j : Nat, ∃ h : j < l.length, x = k + j ∧ (l[j]).kind = 3
 | [], k, x => by simp [Am]
 | s :: l, k, x => by
  have ih := sitesF_mem (l := l) (k := k + 1) (x := x)
  have e : (∃ j : Nat, ∃ h : j < (s :: l).length, x = k + j ∧ ((s :: l)[j]).kind = 3) ↔ (x = k ∧ s.kind = 3) ∨ ∃ j : Nat, ∃ h : j < l.length, x = k + 1 + j ∧ (l[j]).kind = 3 := by
   constructor
   ·rintro ⟨j, hj, h1, h2⟩
    cases j with
    | zero => exact .inl ⟨by simpa using h1, by simpa using h2⟩
    | succ j => exact .inr ⟨j, by simpa using hj, by rw [h1]; omega, by simpa using h2⟩
   ·rintro (⟨h1, h2⟩ | ⟨j, hj, h1, h2⟩)
    ·exact ⟨0, by simp, by simpa using h1, by simpa using h2⟩
    ·exact ⟨j + 1, by simpa using hj, by rw [h1]; omega, by simpa using h2⟩
  rw [e, Am];split
  ·rename_i h; rw [Su, ih]; simp [h]
  ·rename_i h; rw [ih]; simp [h]
theorem Hx : ∀ (l : List Stmt) (k : Int), (Am l k).length ≤ l.length
 | [], k => by simp [Am]
 | s :: l, k => by
  have := Hx l (k + 1)
  rw [Am]
  split <;> simp only [Sl] <;> omega
theorem P1 {f : Func} (h : DW f.stmts f.body = false) : Cg f.stmts f.body = false := by
 rw [Bool.eq_false_iff]; intro hs;rw [(shape_blocks.1 hs).1] at h; cases h
theorem Py {f : Func} {ps : List Int} {m : Int} (h0 : 0 ≤ m) (h1 : m < f.stmts.length) (h : Ap f.vars ps (f.stmts[m.toNat]'(by omega)) = false) : f.stmts.all (Ap f.vars ps) = false := GI h0 h1 h
theorem M3 (f : Func) (ps : List Int) (hf : f.ok 1048576) (hp : Nf ps) (hpb : BR ps = true) : Fun Tryz.prog 86 [.t f.tt, .t (T.ints ps)] (Av [.t (.bool (EP ps f))]) := by
  have hl : f.stmts.length ≤ 1048576 := hf.2.1.1
  have hbl : f.body.length ≤ 1048576 := hf.1
  refine Fun.begin tys Tryz.func86 Z Z (N := 87) [(0, .t f.tt), (1, .t (T.ints ps))] Z Z (fun w0 G F0 => ?_);refine sG (AV Z Z (AA Z) Z Z (nZ Z (eZ Z (nB (sQ (sG (eK 2 Z (AL ?_))))))));refine ⟨_, Ar _ _ _, rfl, ?_⟩;refine eK 2 Z ?_;refine gB (fun h1 => ?_) (fun h1 => ?_)
  ·
    simp only [HS] at h1;refine xK 2 Z (kZ [1,2,4,15,17,18] Z (xK 9 Z (kZ [1,2,4,23,27] Z (xK 9 Z (kZ [1,2,4,34,36] Z (xK 3 Z (nB (Af Z (sG (eZ Z (nB (rT (tR (eR ?_))))))))))))))
    · first
      | (refine retB ?_; rw [EP, Ao, E3]; simp only [h1, decide_false, Bool.false_and]; done)
  simp only [HS] at h1;refine xK 2 Z (kZ [1,2,4,15,17] Z (xK 2 Z (gY Z (AL ?_))));refine ⟨_, Ar _ _ _, rfl, ?_⟩;refine xK 3 Z ?_;refine gB (fun h2 => ?_) (fun h2 => ?_)
  ·
    simp only [HS] at h2;refine xK 3 Z (kZ [1,2,4,23,27] Z (xK 9 Z (kZ [1,2,4,34,36] Z (xK 3 Z (nB (Af Z (sG (eZ Z (nB (rT (tR (eR ?_))))))))))))
    · first
      | (refine retB ?_; rw [EP, Ao, E3]; simp only [h2, decide_false, Bool.false_and, Bool.and_false]; done)
  simp only [HS] at h2;refine xK 2 Z (gY Z (evE ?_));refine kZ [1,2,4,23,26] Z (xK 3 Z ?_);refine gB (fun h3 => ?_) (fun h3 => ?_)
  ·
    simp only [HS] at h3;refine xK 6 Z (kZ [1,2,4,34,36] Z (xK 3 Z (nB (Af Z (sG (eZ Z (nB (rT (tR (eR ?_))))))))))
    · first
      | (refine retB ?_; rw [EP, Ao, E3]; simp only [Int.not_le.2 h3, decide_false, Bool.false_and, Bool.and_false]; done)
  simp only [HS] at h3;refine eZ Z ?_
  try refine AB (Le.freeze (u := 30) rfl) ?_
  refine nZ Z (gY Z (AL ?_));refine ⟨_, KG f hf (by omega), rfl, ?_⟩;refine xK 3 Z ?_;refine gB (fun h4 => ?_) (fun h4 => ?_)
  ·
    simp only [HS] at h4;refine xZ Z (kZ [1,2,4,34,36] Z (xK 3 Z (nB (Af Z (sG (eZ Z (nB (rT (tR (eR ?_))))))))))
    · first
      | (refine retB ?_; rw [EP, Ao, P1 h4]; simp; done)
  simp only [HS] at h4;refine eZ Z ?_
  try refine AB (Le.freeze (u := 35) rfl) ?_
  refine nZ Z (gY Z (AL ?_));refine ⟨_, HD f hf, rfl, ?_⟩;refine AB (Le.adoptE (u := 36) 36 Z (by first | exact Ec | exact Z)) ?_;refine nZ Z (kZ [1,2,4,34,36] Z (gY Z (evE ?_)));refine xK 2 Z (nB ?_);refine AC Z (fun h5 => ?_) (fun h5 => ?_)
  ·
    simp only [HS] at h5;refine sG (eZ Z (nB (rT (tR (eR ?_)))))
    · first
      | (refine retB ?_; rw [EP, Ao, LB]; simp only [Int.not_le.2 h5, decide_false, Bool.false_and, Bool.and_false]; done)
  simp only [HS] at h5;refine AD (tN (sQ (sG ?_)))
  have hbk := blocksB_iff.1 h4
  have hd := hbk.2.2.1
  have hb := hbk.1
  have hol : (Al f f.body).length = f.stmts.length := NS h4
  refine eZ Z ?_
  try refine AB (Le.freeze (u := 40) rfl) ?_
  refine nZ Z (eK 2 Z (AL ?_));refine ⟨_, GC f hf hd hb hbl (by omega), rfl, ?_⟩;refine AB (Le.adoptE (u := 43) 43 Z (by first | exact Ec | exact Z)) ?_;refine nZ Z (evE ?_);refine eZ Z (kZ [1,2,4,43,44,45] Z (nB (AF ?_)));refine lK (α := Int) [1, 2, 43, 44] [2, 43] (fun x => [(45, .t (.int x))]) (fun x => []) (fun x => 0 ≤ x ∧ x ≤ (Al f f.body).length ∧ ∀ (q : Nat) (h : q < (Al f f.body).length), q < x → (Al f f.body)[q] = (q : Int)) (fun x => Int.toNat ((Al f f.body).length - x)) 0 ?_ (fun j hx => ?_)
  · exact ⟨by omega, by omega, fun q h h' => by omega⟩
  obtain ⟨hj0, hj1, hj⟩ := hx
  refine nY Z (sG (eZ Z (nB (sQ ?_))));refine AC Z (fun h6 => ?_) (fun h6 => ?_)
  ·
    simp only [HS] at h6;refine AD (tN (sQ (AF (sG (eZ Z (BI tys Z Z (AA Z) Z Z Z Z Z Z Z Z (by omega) (by omega) (Ay tys Z Z (AA Z) Z Z Z Z (DT _ _ (by omega) (by omega)) Z (eK 2 Z (nA (eK 3 Z (kZ [1,2,5,6,43,44,45,46,47,48,49,50,51,52] Z (nB ?_))))))))))));refine AC Z (fun h7 => ?_) (fun h7 => ?_)
    ·
      simp only [HS] at h7;refine sG (eZ Z (nB (rT (bR (tR (AR (bR (tR (eR ?_)))))))))
      · first
        | (refine retB ?_; rw [EP, Ao, RM hj0 h6 (fun e => h7 e.symm)]; simp; done)
    simp only [HS] at h7;refine AD (bN (tN (rG (evI ?_))));refine eZ Z (oN ?_);refine lQ _ ?_ ?_
    · skip
      refine ⟨by omega, by omega, fun q h h' => ?_⟩
      by_cases hq : (q : Int) < j
      · exact hj q h hq
      · obtain rfl : q = j.toNat := by omega
        omega
    · (show Int.toNat _ < Int.toNat _); omega
  simp only [HS] at h6;refine AS (tE (AP (AK (tN (sQ (sG (eK 2 Z (evE ?_))))))));refine eZ Z (nB (AF ?_));refine lK (α := Int) [1, 2, 55, 56] [2] (fun x => [(57, .t (.int x))]) (fun x => []) (fun x => 0 ≤ x ∧ x ≤ f.stmts.length ∧ Cg f.stmts f.body = true ∧ (f.stmts.take x.toNat).all (C5 f) = true ∧ (f.stmts.take x.toNat).all (Ap f.vars ps) = true) (fun x => Int.toNat (f.stmts.length - x)) 0 ?_ (fun m hx => ?_)
  · exact ⟨by omega, by omega, shape_blocks.2 ⟨h4, fun q h => hj q h (by unfold Al at h6; omega)⟩, by simp, by simp⟩
  obtain ⟨hm0, hm1, hsh, hmw, hms⟩ := hx
  refine nY Z (sG (eZ Z (nB (sQ ?_))));refine AC Z (fun h7 => ?_) (fun h7 => ?_)
  ·
    simp only [HS] at h7;refine AD (tN (sQ (AF (sG ?_))));refine iY (k := ?_);refine eZ Z ?_
    try refine AB (Le.freeze (u := 60) rfl) ?_
    refine nZ Z (AG tys Z Z (AA Z) Z Z Z (nZ Z (sT Z (nZ Z (nB (sQ (sG (eZ Z ?_))))))))
    try refine AB (Le.freeze (u := 61) rfl) ?_
    refine nZ Z (eZ Z ?_)
    try refine AB (Le.freeze (u := 62) rfl) ?_
    refine nZ Z (eZ Z (AL ?_));refine ⟨_, M2 f _ ps (hf.2.1.2 _ (Ss _)) (by omega) hp hpb, rfl, ?_⟩;refine kZ [1,2,8,55,56,57,58,59,60,61,62,63,64] Z (eZ Z (nB ?_));refine AC Z (fun h8 => ?_) (fun h8 => ?_)
    ·
      simp only [HS] at h8;refine sG (eZ Z (nB (rT (tR (bR (tR (AR (bR (tR (eR ?_))))))))))
      · first
        | (refine retB ?_; rw [EP, Py hm0 h7 h8]; simp; done)
    simp only [HS] at h8;refine AD (tN (sQ (sG (eK 3 Z (nB ?_)))));refine AC Z (fun h9 => ?_) (fun h9 => ?_)
    ·
      simp only [HS] at h9;refine AS (tE (AK (tN (rG (evI ?_)))));refine eZ Z (oN ?_);refine lQ _ ?_ ?_
      · skip
        refine ⟨by omega, by omega, hsh, DJ hm0 (by omega) hmw ?_, DJ hm0 (by omega) hms (by assumption)⟩
        first
        | (unfold C5; rw [if_neg (by omega)]; done)
      · (show Int.toNat _ < Int.toNat _); omega
    simp only [HS] at h9;refine AD (tN (sG ?_))
    have hmt : m.toNat < f.stmts.length := by omega
    have hbt : inB f.stmts.length 0 (f.stmts[m.toNat]'hmt).thn := by
      have := (hd m (by omega) (by omega)).1
      rw [kids_at hmt] at this;exact Au this (by omega)
    have hut := D3 f.stmts hmt
    have hul := Lg f.stmts m.toNat
    have hsu := H0 hsh
    have hot : (Al f (f.stmts[m.toNat]'hmt).thn).length ≤ 1048576 := Fj hd hbt (by omega) (by omega)
    refine eZ Z ?_
    try refine AB (Le.freeze (u := 69) rfl) ?_
    refine nZ Z (eK 2 Z (AL ?_));refine ⟨_, GC f hf hd hbt (Br hf hmt).1 hot, rfl, ?_⟩;refine AB (Le.adoptE (u := 72) 72 Z (by first | exact Ec | exact Z)) ?_;refine nZ Z (evE ?_);refine kZ [1,2,8,55,56,57,58,59,60,61,62,63,64,65,66,67,68,69,70,71,72,73] Z (eZ Z (nB (AF ?_)));refine lK (α := Int) [1, 2, 55, 56, 57, 72, 73] [2, 72] (fun x => [(74, .t (.int x))]) (fun x => []) (fun x => 0 ≤ x ∧ x ≤ (Al f (f.stmts[m.toNat]'(by omega)).thn).length ∧ ((Al f (f.stmts[m.toNat]'(by omega)).thn).take x.toNat).all (fun n => decide (¬ GF f n = 3)) = true) (fun x => Int.toNat ((Al f (f.stmts[m.toNat]'(by omega)).thn).length - x)) 0 ?_ (fun r hx => ?_)
    · exact ⟨by omega, by omega, by simp⟩
    obtain ⟨hr0, hr1, hrw⟩ := hx
    refine nY Z (sG (eZ Z (nB (sQ ?_))));refine AC Z (fun h10 => ?_) (fun h10 => ?_)
    ·
      simp only [HS] at h10;refine AD (tN (sQ (AF (sG (BI tys Z Z (AA Z) Z Z Z Z Z Z Z Z (by omega) (by omega) (Ay tys Z Z (AA Z) Z Z Z Z (DT _ _ (by omega) (by omega)) Z ?_))))))
      have hn := Di hd hbt _ (Ss (l := Al f (f.stmts[m.toNat]'(by omega)).thn) (n := r.toNat) (by omega))
      refine eZ Z (nA (eK 3 Z ?_));refine iY (k := ?_);refine eZ Z (kZ [1,2,10,55,56,57,72,73,74,75,76,77,78,79,80,81,82] Z (eK 2 Z (nB ?_)));refine AC Z (fun h11 => ?_) (fun h11 => ?_)
      ·
        simp only [HS] at h11;refine sG (eZ Z (nB (rT (bR (tR (AR (bR (bR (tR (AR (bR (tR (eR ?_)))))))))))))
        · first
          | (have e : Jz f (f.stmts[m.toNat]'(by omega)).thn = false := (by unfold Jz; exact GI hr0 (by omega) (by rw [E8 (by omega)]; simp; omega))
             refine retB ?_; rw [EP, Ao, Lf hm0 (by omega) (by omega) e]; simp; done)
      simp only [HS] at h11;refine AD (bN (tN (rG (evI ?_))));refine eZ Z (oN ?_);refine lQ _ ?_ ?_
      · skip
        exact ⟨by omega, by omega, DJ hr0 (by omega) hrw (by rw [E8 (by omega)]; simp; assumption)⟩
      · (show Int.toNat _ < Int.toNat _); omega
    simp only [HS] at h10;refine AS (tE (AP (AK (bN (tN (rG (evI ?_)))))));refine eZ Z (oN ?_);refine lQ _ ?_ ?_
    · skip
      refine ⟨by omega, by omega, hsh, DJ hm0 (by omega) hmw ?_, DJ hm0 (by omega) hms (by assumption)⟩
      first
      | (unfold C5; rw [if_pos (by omega)]; exact FQ (by omega) hrw)
    · (show Int.toNat _ < Int.toNat _); omega
  simp only [HS] at h7;refine AS (tE (AP (AK (tN (sG (eZ Z (nB (rT (eR ?_)))))))))
  · first
    | (refine retB ?_
       rw [EP, Ao, hsh, Ht, FQ (by omega) hmw, FQ (by omega) hms, E3, LB];simp only [h1, h2, h3, h5, and_self, decide_true, Bool.and_self]
       done)
open Go.Eng
theorem Nq {vars : Int} {ps : List Int} {s : Stmt} (h : Ap vars ps s = true) (hk : s.kind = 3) : 0 ≤ s.n ∧ s.n < ps.length := by
 unfold Ap at h
 simp [hk] at h
 omega
theorem MM {ps : List Int} {f : Func} (h : EP ps f = true) : Ao f = true ∧ ∀ (m : Nat) (hm : m < f.stmts.length), Ap f.vars ps (f.stmts[m]) = true := by
 unfold EP at h;rw [Si, Sp] at h;exact ⟨h.1, fun m hm => h.2 _ (Ss hm)⟩
theorem R9 {ps : List Int} {f : Func} (h : CA ps f = true) : EP ps f = true := by
 unfold CA EP at *;rw [Si, Sp] at *;exact ⟨h.1, fun s hs => by have := h.2 s hs; unfold BM at this; rw [Si] at this; exact this.1⟩
theorem Rk {f : Func} {ps : List Int} {q : Int} (hw : EP ps f = true) (h0 : 0 ≤ q) (h1 : q < (Am f.stmts 0).length) :
  0 ≤ (Am f.stmts 0)[q.toNat]'(by omega) ∧ ∃ h : ((Am f.stmts 0)[q.toNat]'(by omega)).toNat < f.stmts.length, (f.stmts[((Am f.stmts 0)[q.toNat]'(by omega)).toNat]'h).kind = 3 ∧ 0 ≤ (f.stmts[((Am f.stmts 0)[q.toNat]'(by omega)).toNat]'h).n ∧ (f.stmts[((Am f.stmts 0)[q.toNat]'(by omega)).toNat]'h).n < ps.length := by
 obtain ⟨j, hj, he, hk⟩ := sitesF_mem.1 (Ss (l := Am f.stmts 0) (n := q.toNat) (by omega))
 have hx : (((Am f.stmts 0)[q.toNat]'(by omega))).toNat = j := by omega
 refine ⟨by omega, by omega, ?_⟩
 have h2 := (MM hw).2 _ hj
 have h3 := Nq h2 hk
 simp only [hx];exact ⟨hk, h3⟩
theorem Qi {ps : List Int} {f : Func} (hw : EP ps f = true) (h : ∀ (q : Nat) (hq : q < (Am f.stmts 0).length) (hm : ((Am f.stmts 0)[q]).toNat < f.stmts.length), atI ps (f.stmts[((Am f.stmts 0)[q]).toNat]).n = 0) : CA ps f = true := by
 have hw' := MM hw
 unfold CA;rw [Si, Sp];refine ⟨hw'.1, fun s hs => ?_⟩
 obtain ⟨m, hm, rfl⟩ := TF hs
 unfold BM;rw [Si];refine ⟨hw'.2 m hm, ?_⟩;split
 ·rename_i hk
  obtain ⟨q, hq, he⟩ := TF (sitesF_mem.2 ⟨m, hm, rfl, hk⟩ : (0 : Int) + m ∈ Am f.stmts 0)
  have := h q hq (by rw [he]; omega)
  simp only [he, show ((0 : Int) + m).toNat = m from by omega] at this;rw [this]; rfl
 ·rfl
theorem Ot {ps : List Int} {f : Func} {n : Nat} (hn : n < f.stmts.length) (hk : (f.stmts[n]).kind = 3) (h : ¬ atI ps (f.stmts[n]).n = 0) : CA ps f = false := by
 rw [Bool.eq_false_iff];intro hg;unfold CA at hg;rw [Si, Sp] at hg
 have := hg.2 _ (Ss hn)
 unfold BM at this;rw [if_pos hk, Si] at this;exact h (by simpa using this.2)
theorem C0 (p : Prog) (hp : p.ok 1048576) : Fun Tryz.prog 40 [.t p.tt] (Av [.t (.bool (AZ p))]) := by
 have hl : p.funcs.length ≤ 1048576 := hp.1.1
 refine Fun.begin tys Tryz.func40 Z Z (N := 59) [(0, .t p.tt)] Z Z (fun w0 G F0 => ?_);refine sG (AV Z Z (AA Z) Z Z (nZ Z (eZ Z (nB (sQ (sG (eK 2 Z (evE ?_))))))));refine AL ?_;refine ⟨_, Ar _ _ _, rfl, ?_⟩;refine eK 2 Z ?_;refine gB (fun h1 => ?_) (fun h1 => ?_)
 ·
  simp only [HS] at h1;refine xZ Z (kZ [1,2,12,14] Z (xK 9 Z (kZ [1,2,18,23] Z (xK 2 Z (nB (Af Z (sG (eZ Z (nB (rT (tR (eR ?_))))))))))))
  ·first
   | (refine retB ?_; rw [AZ]; simp only [h1, decide_false, Bool.false_and]; done)
 simp only [HS] at h1;refine eZ Z ?_
 try refine AB (Le.freeze (u := 13) rfl) ?_
 refine nZ Z (gY Z (AL ?_));refine ⟨_, GB p hp, rfl, ?_⟩;refine AB (Le.adoptE (u := 14) 14 Z (by first | exact Ec | exact Z)) ?_;refine nZ Z (kZ [1,2,12,14] Z (gY Z (AL ?_)));refine ⟨_, GE _ (by simp; omega), rfl, ?_⟩;refine xK 3 Z ?_;refine gB (fun h2 => ?_) (fun h2 => ?_)
 ·
  simp only [HS] at h2;refine xK 5 Z (kZ [1,2,18,24] Z (eZ Z (nB (Af Z (sG (eZ Z (nB (rT (tR (eR ?_))))))))))
  ·first
   | (refine retB ?_; rw [AZ, show BR (paramsL p) = false from h2]; simp; done)
 simp only [HS] at h2;refine xK 2 Z (gY Z ?_);refine iY (k := ?_);refine xK 2 Z (kZ [1,2,18,23] Z (xK 2 Z (nB ?_)));refine AC Z (fun h3 => ?_) (fun h3 => ?_)
 ·
  simp only [HS] at h3;refine sG (eZ Z (nB (rT (tR (eR ?_)))))
  ·first
   | (refine retB ?_; have h3' : ¬ (p.funcs[(0 : Int).toNat]'(by simp; omega)).params = 0 := h3; rw [AZ, BX (by omega) (by omega)]; simp only [h3', decide_false, Bool.false_and, Bool.and_false]; done)
 simp only [HS] at h3;refine AD (tN (sQ (sG (eK 2 Z (evE ?_)))));refine eZ Z (nB (AF ?_));refine lK (α := Int) [1, 27, 28] [1] (fun x => [(29, .t (.int x))]) (fun x => []) (fun x => 0 ≤ x ∧ x ≤ p.funcs.length ∧ (p.funcs.take x.toNat).all (CA (paramsL p)) = true ∧ Nf (paramsL p) ∧ BR (paramsL p) = true ∧ AZ p = p.funcs.all (CA (paramsL p))) (fun x => Int.toNat (p.funcs.length - x)) 0 ?_ (fun k hx => ?_)
 ·have hp2 : BR (paramsL p) = true := by assumption
  have h0' : (p.funcs[(0 : Int).toNat]'(by simp; omega)).params = 0 := by assumption
  refine ⟨by omega, by omega, by simp, Fi hp2, hp2, ?_⟩;rw [AZ, hp2, BX (by omega) (by omega), h0']
  simp; intros; omega
 obtain ⟨hk0, hk1, hall, hps, hpb, hgp⟩ := hx
 refine nY Z (sG (eZ Z (nB (sQ ?_))));refine AC Z (fun h4 => ?_) (fun h4 => ?_)
 ·
  simp only [HS] at h4;refine AD (tN (sQ (AF (sG ?_))));refine iY (k := ?_);refine eZ Z ?_
  try refine AB (Le.freeze (u := 32) rfl) ?_
  refine nZ Z (AG tys Z Z (AA Z) Z Z Z (nZ Z (sT Z (nZ Z (nB (sQ (sQ (Ag Ai (by kernel_rfl) (evQ ?_)))))))));refine AU Z (evQ ?_);refine FN ?_;refine ⟨_, GB p hp, rfl, ?_⟩;refine FN ?_;refine ⟨_, M3 _ _ (Bk hp _) hps hpb, rfl, ?_⟩;refine evQ ?_;refine A8 (tN ?_);refine AC Z (fun h5 => ?_) (fun h5 => ?_)
  ·
   simp only [HS] at h5;refine sG (eZ Z (nB (rT (tR (bR (tR (AR (bR (tR (eR ?_))))))))))
   ·first
    | (refine retB ?_; rw [hgp, Gh hk0 h4 (Bool.eq_false_iff.2 fun h => Bool.eq_false_iff.1 h5 (R9 h))]; done)
  simp only [HS] at h5;refine AD (tN (sG (eZ Z ?_)))
  try refine AB (Le.freeze (u := 38) rfl) ?_
  refine nZ Z (AL ?_);refine ⟨_, HD _ (Bk hp _), rfl, ?_⟩;refine AB (Le.adoptE (u := 39) 39 Z (by first | exact Ec | exact Z)) ?_;refine nZ Z (evE ?_);refine eZ Z (nB (AF ?_));refine lK (α := Int) [1, 4, 27, 28, 29, 39, 40] [1, 4, 39] (fun x => [(41, .t (.int x))]) (fun x => []) (fun x => 0 ≤ x ∧ x ≤ (Am (p.funcs[k.toNat]'(by omega)).stmts 0).length ∧ ∀ (i : Nat) (hi : i < (Am (p.funcs[k.toNat]'(by omega)).stmts 0).length), (i : Int) < x → ∀ (hm : ((Am (p.funcs[k.toNat]'(by omega)).stmts 0)[i]).toNat < (p.funcs[k.toNat]'(by omega)).stmts.length), atI (paramsL p) ((p.funcs[k.toNat]'(by omega)).stmts[((Am (p.funcs[k.toNat]'(by omega)).stmts 0)[i]).toNat]).n = 0) (fun x => Int.toNat ((Am (p.funcs[k.toNat]'(by omega)).stmts 0).length - x)) 0 ?_ (fun q hx => ?_)
  ·exact ⟨by omega, by omega, fun i hi h => by omega⟩
  obtain ⟨hq0, hq1, hqz⟩ := hx
  refine nY Z (sG (eZ Z (nB (sQ ?_))));refine AC Z (fun h6 => ?_) (fun h6 => ?_)
  ·
   simp only [HS] at h6;refine AD (tN (sQ (AF (sG (BI tys Z Z (AA Z) Z Z Z Z Z Z Z Z (by omega) (by omega) (Ay tys Z Z (AA Z) Z Z Z Z (DT _ _ (by omega) (by omega)) Z ?_))))))
   obtain ⟨hs0, hs1, hsk, hsn0, hsn1⟩ := Rk (ps := paramsL p) h5 hq0 h6
   rw [A9] at hsn1
   have hsl := Hx (p.funcs[k.toNat]'(by omega)).stmts 0
   have hfl := (Bk hp (n := k.toNat) (by omega)).2.1.1
   refine eZ Z (nB (sQ (Ag Ai (by kernel_rfl) (evQ ?_))));refine evQ ?_;refine AU Z (evQ ?_);refine evQ ?_;refine evQ ?_;refine BA tys Z Z (AA Z) Z Z Z Z Z Z Z (by omega) _ (FB _ _ (by omega) (by omega)) (evQ ?_);refine evQ ?_;refine AU Z (BA tys Z Z (AA Z) Z Z Z Z Z Z Z (by omega) _ (FB _ _ (by omega) (by omega)) (evQ ?_));refine evQ ?_;refine evQ ?_;refine A8 (tN ?_);refine AC Z (fun h7 => ?_) (fun h7 => ?_)
   ·
    simp only [HS] at h7;refine sG (eZ Z (nB (rT (bR (tR (AR (bR (bR (tR (AR (bR (tR (eR ?_)))))))))))))
    ·first
     | (refine retB ?_; rw [hgp, Gh hk0 h4 (Ot hs1 hsk (by rw [BX hsn0 hsn1]; assumption))]; done)
   simp only [HS] at h7;refine AD (bN (tN (rG (evI ?_))));refine eZ Z (oN ?_);refine lQ _ ?_ ?_
   ·skip
    refine ⟨by omega, by omega, fun i hi h hm => ?_⟩
    by_cases hiq : (i : Int) < q
    ·exact hqz i hi hiq hm
    ·obtain rfl : i = q.toNat := by omega
     rw [BX hsn0 hsn1]; assumption
   ·(show Int.toNat _ < Int.toNat _); omega
  simp only [HS] at h6;refine AS (tE (AP (AK (bN (tN (rG (evI ?_)))))));refine eZ Z (oN ?_);refine lQ _ ?_ ?_
  ·skip
   exact ⟨by omega, by omega, DJ hk0 (by omega) hall (Qi h5 fun q hq hm => hqz q hq (by omega) hm), hps, hpb, hgp⟩
  ·(show Int.toNat _ < Int.toNat _); omega
 simp only [HS] at h4;refine AS (tE (AP (AK (tN (sG (eZ Z (nB (rT (eR ?_)))))))))
 ·first
  | (refine retB ?_; rw [hgp, FQ (by omega) hall]; done)
open Go.Eng
theorem QB {a a' : Int} {b b' : Bool} (h : a = a') (h' : b = b') : [D.t (T.v (Value.int .i64 a)), D.t (T.v (Value.bool b))] = [D.t (T.int a'), D.t (T.bool b')] := by rw [h, h']
theorem GM {a a' b b' : Bool} (h : a = a') (h' : b = b') : [D.t (T.v (Value.bool a)), D.t (T.v (Value.bool b))] = [D.t (T.bool a'), D.t (T.bool b')] := by rw [h, h']
theorem Dq {p : Prog} (h : AZ p = true) : 1 ≤ p.funcs.length ∧ p.funcs.length ≤ 5 := by
 unfold AZ at h;simp only [Si, decide_eq_true_eq] at h;omega
theorem CE {p : Prog} (h : AZ p = true) {n : Nat} (hn : n < p.funcs.length) : CA (paramsL p) (p.funcs[n]) = true := by
 unfold AZ at h;simp only [Si, Sp] at h;exact h.2.2.2 _ (Ss hn)
theorem FA {p : Prog} (h : AZ p = true) : Nf (paramsL p) := by
 unfold AZ at h;simp only [Si] at h;exact Fi h.2.1
theorem Ds {ps : List Int} {f : Func} (h : CA ps f = true) : f.stmts.length ≤ 16 := by
 unfold CA Ao E3 at h;simp only [Si, decide_eq_true_eq] at h;omega
theorem Bj {ps : List Int} {f : Func} (h : CA ps f = true) : Ao f = true := by
 unfold CA at h;rw [Si] at h;exact h.1
theorem Iu {ps : List Int} {f : Func} (h : CA ps f = true) {n : Nat} (hn : n < f.stmts.length) : BM f.vars ps (f.stmts[n]) = true := by
 unfold CA at h;rw [Si, Sp] at h;exact h.2 _ (Ss hn)
theorem Nt {vars : Int} {ps : List Int} {s : Stmt} (h : BM vars ps s = true) (hk : s.kind = 3) : 0 ≤ s.n ∧ s.n < ps.length ∧ s.ex = [] := by
 unfold BM at h;rw [Si] at h
 have h1 := h.1
 unfold Ap at h1
 simp [hk] at h1
 exact ⟨by omega, by omega, h1.1⟩
theorem Ov {vars : Int} {ps : List Int} {l : List Tok} (h : Dt vars ps l = true) : l.length ≤ 12 := by
 unfold Dt at h;split at h
 ·rw [Si] at h; have := h.2; simp at this; omega
 ·cases h
theorem stmtG_ex {vars : Int} {ps : List Int} {s : Stmt} (h : BM vars ps s = true) : s.ex = [] ∨ Dt vars ps s.ex = true := by
 unfold BM at h;rw [Si] at h
 have h1 := h.1
 unfold Ap at h1
 by_cases he : Dt vars ps s.ex = true
 ·exact .inr he
 ·left
  have he' : Dt vars ps s.ex = false := by simpa using he
  rw [he'] at h1
  simp at h1
  grind
theorem JQ {vars : Int} {ps : List Int} {s : Stmt} (h : BM vars ps s = true) : s.ex.length ≤ 12 := by
 rcases stmtG_ex h with h | h
 ·rw [h]; simp
 ·exact Ov h
def Pm (l : List Func) : Int := (l.map fun f => (f.stmts.length : Int)).sum
theorem Np {l : List Func} {k : Int} (h0 : 0 ≤ k) (h1 : k < l.length) : Pm (l.take (k + 1).toNat) = Pm (l.take k.toNat) + (l[k.toNat]'(by omega)).stmts.length := by
 unfold Pm; rw [Bi h0 h1, S1, List.sum_append]; simp
def GP (p : Prog) : Int := if AZ p then Pm p.funcs else 0
def BK (f : Func) (n : Int) : Stmt := (f.stmts[n.toNat]?).getD ⟨0, 0, [], [], []⟩
theorem Dc {f : Func} {n : Int} (h : n.toNat < f.stmts.length) : f.stmts[n.toNat] = BK f n := by
 unfold BK; rw [List.getElem?_eq_getElem h]; rfl
def funcAt (p : Prog) (n : Int) : Func := (p.funcs[n.toNat]?).getD ⟨0, 0, [], []⟩
theorem funcAt_at {p : Prog} {n : Int} (h : n.toNat < p.funcs.length) : p.funcs[n.toNat] = funcAt p n := by
 unfold funcAt; rw [List.getElem?_eq_getElem h]; rfl
def op0 (l : List Tok) : Int := (l[(0 : Int).toNat]?.map (·.op)).getD 0
def guard1 (f : Func) : Bool := decide ((f.stmts.length : Int) = 2) && (decide ((BK f 0).kind = 3) && (decide ((BK f 1).kind = 9) && (decide (((BK f 1).ex.length : Int) = 1) && decide (op0 (BK f 1).ex = 11))))
def guard2 (f : Func) : Bool := decide ((f.stmts.length : Int) = 1) && (decide ((BK f 0).kind = 2) && (decide (((BK f 0).ex.length : Int) = 1) && decide (op0 (BK f 0).ex = 10)))
def guarded (p : Prog) : Bool := AZ p && (guard1 (funcAt p 0) && guard2 (funcAt p (BK (funcAt p 0) 0).n))
open Go.Eng
def d3 (s : Stmt) : List Int := if s.kind = 3 then [s.n] else []
theorem KI (l : List Int) (n : Int) (hl : l.length ≤ 1073741824) : Fun Tryz.prog 89 [.t (T.ints l), .t (.int n)] (Av [.t (.bool (decide (n ∈ l)))]) := by
 refine Fun.begin tys Tryz.func89 Z Z (N := 17) [(0, .t (T.ints l)), (1, .t (.int n))] Z Z (fun w0 G F0 => ?_);refine sG (eZ Z (nB (sQ (sG (eZ Z (evE ?_))))));refine eZ Z (nB (AF ?_));refine lK (α := Int) [1, 7, 8] [] (fun x => [(9, .t (.int x))]) (fun x => []) (fun x => 0 ≤ x ∧ x ≤ l.length ∧ n ∉ l.take x.toNat) (fun x => Int.toNat (l.length - x)) 0 ?_ (fun k hx => ?_)
 ·exact ⟨by omega, by omega, by simp⟩
 obtain ⟨hk0, hk1, hk2⟩ := hx
 refine nY Z (sG (eZ Z (nB (sQ ?_))));refine AC Z (fun h1 => ?_) (fun h1 => ?_)
 ·
  simp only [HS] at h1;refine AD (tN (sQ (AF (sG ?_))));refine iY (k := ?_);refine eK 2 Z (nA (eK 3 Z (nB ?_)));refine AC Z (fun h2 => ?_) (fun h2 => ?_)
  ·
   simp only [HS] at h2;refine sQ (kY [1,6,7,8,9,10,11,12,13,14,15] Z (rG (eZ Z (nB (rT (bR (tR (AR (bR (tR (eR ?_)))))))))))
   ·exact retB (decide_eq_true (h2 ▸ Ss _)).symm
  simp only [HS] at h2;refine AD (bN (tN (kY [1,6,7,8,9,10,11,12,13,14,15] Z (rG (evI ?_)))));refine eZ Z (oN ?_);refine lQ _ ?_ ?_
  ·skip
   refine ⟨by omega, by omega, ?_⟩; rw [Bi hk0 (by omega), So, TB]; exact fun h => h.elim hk2 fun e => h2 e.symm
  ·(show Int.toNat _ < Int.toNat _); omega
 simp only [HS] at h1;refine AS (tE (AP (AK (tN (sG (eZ Z (nB (rT (eR ?_)))))))))
 ·(rw [BL (by omega)] at hk2; exact retB (decide_eq_false hk2).symm)
theorem F6 (l : List Int) (i j : Nat) : ∀ x, x ∈ ((l.map T.int).drop i).take j → (T.cells x).length = 1 ∧ ∀ y, y ∈ T.cells x → ∃ v, y = .v v :=
 fun x hx => Mq l x (TG (TC hx))
theorem GU {α : Type} (x y : List α) : List.take (x.length + y.length) (x ++ y) = x ++ y := by
 rw [← Sk, Sr]
theorem Rm {xs : List T} {b : List Int} (h : xs = b.map T.int) : [D.t (.list 1 xs)] = [D.t (T.ints b)] := by subst h; rfl
inductive Lead (calls : Int → List Int) (a : Int) : Int → Prop
 | refl : Lead calls a a
 | step {b c : Int} : Lead calls a b → c ∈ calls b → Lead calls a c
section
variable {N : Nat} {calls : Int → List Int} {a : Int}
end
def put (l : List Int) (n : Int) : List Int := if n ∈ l then l else l.takeWhile (fun x => decide (x < n)) ++ n :: l.dropWhile (fun x => decide (x < n))
theorem put_at {l : List Int} {n : Int} {k : Int} (h0 : 0 ≤ k) (h1 : k ≤ l.length) (hl : l.Pairwise (· < ·)) (hlt : ∀ (i : Nat) (hi : i < l.length), (i : Int) < k → l[i] < n) (hge : ∀ (h : k < l.length), n ≤ l[k.toNat]'(by omega)) :
  put l n = if h : k < l.length ∧ l[k.toNat]? = some n then l else l.take k.toNat ++ n :: l.drop k.toNat := by
 have hafter : ∀ x, x ∈ l.drop k.toNat → n ≤ x := by
  intro x hx
  by_cases hk : k < l.length
  ·rw [TW (by omega)] at hx
   have := hge hk
   rcases Su.1 hx with rfl | hx
   ·exact this
   ·have h2 : (l.drop k.toNat).Pairwise (· < ·) := hl.drop
    rw [TW (by omega), List.pairwise_cons] at h2
    have := h2.1 x hx; omega
  ·rw [List.drop_eq_nil_of_le (by omega)] at hx; cases hx
 have hbefore : ∀ x, x ∈ l.take k.toNat → x < n := by
  intro x hx
  obtain ⟨i, hi, rfl⟩ := TF hx
  rw [List.getElem_take];rw [Sm] at hi;exact hlt i (by omega) (by omega)
 have hsplit := TH k.toNat l
 split
 ·rename_i h
  rw [put, if_pos];exact TV h.2
 ·rename_i h
  have hn : n ∉ l := by
   intro hn;rw [← hsplit, So] at hn
   rcases hn with hn | hn
   ·have := hbefore n hn; omega
   ·apply h
    have hk : k < l.length := by
     refine Classical.byContradiction fun hk => ?_
     rw [List.drop_eq_nil_of_le (by omega)] at hn; cases hn
    refine ⟨hk, ?_⟩;rw [List.getElem?_eq_getElem (by omega)]
    have h2 : (l.drop k.toNat).Pairwise (· < ·) := hl.drop
    rw [TW (by omega)] at hn h2;rw [List.pairwise_cons] at h2
    rcases Su.1 hn with hn | hn
    ·rw [← hn]
    ·have := h2.1 n hn; have := hge hk; omega
  rw [put, if_neg hn]
  have e1 : l.takeWhile (fun x => decide (x < n)) = l.take k.toNat := by
   conv => lhs; rw [← hsplit]
   rw [List.takeWhile_append_of_pos (by intro x hx; simpa using hbefore x hx)]
   have : (l.drop k.toNat).takeWhile (fun x => decide (x < n)) = [] := by
    cases e : l.drop k.toNat with
    | nil => rfl
    | cons y r => rw [List.takeWhile_cons_of_neg]; have := hafter y (by rw [e]; exact TA ..); simp; omega
   rw [this, S9]
  have e2 : l.dropWhile (fun x => decide (x < n)) = l.drop k.toNat := by
   conv => lhs; rw [← hsplit]
   rw [List.dropWhile_append_of_pos (by intro x hx; simpa using hbefore x hx)]
   cases e : l.drop k.toNat with
   | nil => rfl
   | cons y r => rw [List.dropWhile_cons_of_neg]; have := hafter y (by rw [e]; exact TA ..); simp; omega
  rw [e1, e2]
open Go.Eng
theorem N8 {a b : List Int} (h : a = b) : [D.own (.list 1 (a.map T.int))] = [D.own (T.ints b)] := by subst h; rfl
theorem QF {l : List Int} {n k : Int} (h0 : 0 ≤ k) (h1 : k < l.length) (h : l[k.toNat]'(by omega) = n) : put l n = l := by
 rw [put, if_pos (h ▸ Ss _)]
theorem OG {l : List Int} {n k : Int} (hl : l.Pairwise (· < ·)) (h0 : 0 ≤ k) (h1 : k ≤ l.length) (hlt : ∀ (i : Nat) (hi : i < l.length), (i : Int) < k → l[i] < n) (hge : ∀ (h : k < l.length), n < l[k.toNat]'(by omega)) : put l n = l.take k.toNat ++ n :: l.drop k.toNat := by
 rw [put_at h0 h1 hl hlt fun h => Int.le_of_lt (hge h), dif_neg]
 rintro ⟨h, he⟩
 rw [List.getElem?_eq_getElem (by omega)] at he
 have := hge h
 have : l[k.toNat] = n := Option.some.inj he
 omega
theorem Jl {l : List Int} {n k : Int} (e : put l n = l.take k.toNat ++ n :: l.drop k.toNat) : ((l.map T.int).drop (0 : Int).toNat).take (k.toNat - (0 : Int).toNat) ++ [T.int n] ++ ((l.map T.int).drop k.toNat).take ((((l.map T.int).length : Nat) : Int).toNat - k.toNat) = (put l n).map T.int := by
 rw [e, Sh (l := (l.map T.int).drop k.toNat) (by simp)]
 simp
theorem Od (l : List Int) (n : Int) (hl : l.length ≤ 1048576) (hr : l.Pairwise (· < ·)) : Fun Tryz.prog 96 [.t (T.ints l), .t (.int n)] (Av [.t (T.ints (put l n))]) := by
  refine Fun.begin tys Tryz.func96 Z Z (N := 48) [(0, .t (T.ints l)), (1, .t (.int n))] Z Z (fun w0 G F0 => ?_);refine sG (eZ Z (nA (eZ Z (nB (sQ (AF ?_))))));refine lK (α := Int) [0, 1] [] (fun x => [(5, .t (.int x))]) (fun x => []) (fun x => 0 ≤ x ∧ x ≤ l.length ∧ ∀ (i : Nat) (hi : i < l.length), (i : Int) < x → l[i] < n) (fun x => Int.toNat (l.length - x)) 0 ?_ (fun k hx => ?_)
  · exact ⟨by omega, by omega, fun i hi h => by omega⟩
  obtain ⟨hk0, hk1, hk2⟩ := hx
  refine nY Z (sQ (sG (eK 2 Z (evE ?_))));refine eK 2 Z ?_;refine gB (fun h1 => ?_) (fun h1 => ?_)
  ·
    simp only [HS] at h1;refine xK 4 Z (kZ [0,1,5,7,8,9,10,11,12,13,14,15,16] Z (xK 2 Z (nB (A5 Z (AS (tE (AP (AK (tN (sQ (sG (eK 2 Z (evE ?_)))))))))))));refine eK 2 Z ?_;refine gB (fun h2 => ?_) (fun h2 => ?_)
    ·
      simp only [HS] at h2;refine xK 2 Z (kZ [0,1,5,25,28] Z (xK 4 Z (nB (A5 Z (AD (tN (sG (bZ [] ?_))))))));refine nZ Z (eK 2 Z (BU tys Z Z (AA Z) Z Z Z Z Z Z Z Z (by first | omega | (simp only [Sj]; omega)) (by first | omega | (simp only [Sj]; omega)) (by first | omega | (simp only [Sj]; omega)) ?_));refine AH tys Z Z (AA Z) Z Z Z Z Z (.own Z (by first | omega | (simp only [Sk]; omega))) Z (.read (F6 _ _ _)) (by decide) (by simp; omega) (by decide) Z ?_;refine nZ Z (kZ [0,1,5,38] Z (eZ Z (nA (eK 2 Z (bZ [T.int n] ?_)))));refine nZ Z (AH tys Z Z (AA Z) Z Z Z Z Z (.own Z (by first | omega | (simp only [Sk]; omega))) Z (.own Z (by first | decide | omega)) (by decide) (by simp; omega) (by decide) Z ?_);refine nZ Z (eZ Z (nA (eK 3 Z (kZ [43,44,45] Z (BU tys Z Z (AA Z) Z Z Z Z Z Z Z Z (by first | omega | (simp only [Sj]; omega)) (by first | omega | (simp only [Sj]; omega)) (by first | omega | (simp only [Sj]; omega)) ?_)))));refine AH tys Z Z (AA Z) Z Z Z Z Z (.own Z (by first | omega | (simp only [Sk]; omega))) Z (.read (F6 _ _ _)) (by decide) (by simp; omega) (by decide) Z ?_;refine nZ Z (eZ Z (nB ?_))
      try (refine AN (Le.gather (u := 4) (id := 34) rfl rfl (by first | (simp; done) | (simp; omega) | omega)) ?_; refine Ac rfl ?_; refine AN (Le.freeze (u := 4) rfl) ?_; refine Ac rfl ?_)
      refine rT (eR ?_)
      · first
        | (have e := OG hr hk0 hk1 hk2 (fun h => by omega)
           refine Rm ?_;rw [← Jl e];simp only [GU, Sr, Th, List.length_nil, Sz, List.take_nil]
           done)
    simp only [HS] at h2;refine xK 2 Z (kZ [0,1,5,25,26,27] Z (gY Z ?_));refine iY (k := ?_);refine xK 4 Z (nB ?_);refine AC Z (fun h3 => ?_) (fun h3 => ?_)
    ·
      simp only [HS] at h3;refine sG (eK 2 Z (nB ?_))
      try (refine AN (Le.gather (u := 4) (id := 34) rfl rfl (by first | (simp; done) | (simp; omega) | omega)) ?_; refine Ac rfl ?_; refine AN (Le.freeze (u := 4) rfl) ?_; refine Ac rfl ?_)
      refine rT (tR (eR ?_))
      · first
        | (exfalso; omega)
    simp only [HS] at h3;refine AD (tN (sG (bZ [] ?_)));refine nZ Z (eK 2 Z (BU tys Z Z (AA Z) Z Z Z Z Z Z Z Z (by first | omega | (simp only [Sj]; omega)) (by first | omega | (simp only [Sj]; omega)) (by first | omega | (simp only [Sj]; omega)) ?_));refine kZ [0,1,5,34,37] Z (AH tys Z Z (AA Z) Z Z Z Z Z (.own Z (by first | omega | (simp only [Sk]; omega))) Z (.read (F6 _ _ _)) (by decide) (by simp; omega) (by decide) Z ?_);refine nZ Z (eZ Z (nA (eK 2 Z (bZ [T.int n] ?_))));refine nZ Z (AH tys Z Z (AA Z) Z Z Z Z Z (.own Z (by first | omega | (simp only [Sk]; omega))) Z (.own Z (by first | decide | omega)) (by decide) (by simp; omega) (by decide) Z ?_);refine nZ Z (eZ Z (nB (sQ (kY [0,5,6] Z (rG (eK 3 Z (BU tys Z Z (AA Z) Z Z Z Z Z Z Z Z (by first | omega | (simp only [Sj]; omega)) (by first | omega | (simp only [Sj]; omega)) (by first | omega | (simp only [Sj]; omega)) ?_)))))));refine AH tys Z Z (AA Z) Z Z Z Z Z (.own Z (by first | omega | (simp only [Sk]; omega))) Z (.read (F6 _ _ _)) (by decide) (by simp; omega) (by decide) Z ?_;refine nZ Z (eZ Z (nB ?_))
    try (refine AN (Le.gather (u := 4) (id := 34) rfl rfl (by first | (simp; done) | (simp; omega) | omega)) ?_; refine Ac rfl ?_; refine AN (Le.freeze (u := 4) rfl) ?_; refine Ac rfl ?_)
    refine rT (eR ?_)
    · first
      | (exfalso; omega)
  simp only [HS] at h1;refine xK 2 Z (gY Z ?_);refine iY (k := ?_);refine xZ Z (kZ [0,1,5,7,8,9,10,11,12,13,14,15] Z (xK 3 Z (nB ?_)));refine AC Z (fun h2 => ?_) (fun h2 => ?_)
  ·
    simp only [HS] at h2;refine AD (tN (AF (rG (eZ Z (evI ?_)))));refine eZ Z (oN (bN ?_));refine lQ _ ?_ ?_
    · skip
      refine ⟨by omega, by omega, fun i hi h => ?_⟩
      by_cases hq : (i : Int) < k
      · exact hk2 i hi hq
      · obtain rfl : i = k.toNat := by omega
        exact h2
    · (show Int.toNat _ < Int.toNat _); omega
  simp only [HS] at h2;refine AS (tE (AP (AK (tN (sQ (sG (eK 2 Z (evE ?_))))))));refine eK 2 Z ?_;refine gB (fun h3 => ?_) (fun h3 => ?_)
  ·
    simp only [HS] at h3;refine xZ Z (kZ [0,1,5,25,26,27] Z (xK 5 Z (nB (A5 Z (AD (tN (sG (bZ [] ?_))))))));refine nZ Z (eK 2 Z (BU tys Z Z (AA Z) Z Z Z Z Z Z Z Z (by first | omega | (simp only [Sj]; omega)) (by first | omega | (simp only [Sj]; omega)) (by first | omega | (simp only [Sj]; omega)) ?_));refine kZ [0,1,5,34,37] Z (AH tys Z Z (AA Z) Z Z Z Z Z (.own Z (by first | omega | (simp only [Sk]; omega))) Z (.read (F6 _ _ _)) (by decide) (by simp; omega) (by decide) Z ?_);refine nZ Z (eZ Z (nA (eK 2 Z (bZ [T.int n] ?_))));refine nZ Z (AH tys Z Z (AA Z) Z Z Z Z Z (.own Z (by first | omega | (simp only [Sk]; omega))) Z (.own Z (by first | decide | omega)) (by decide) (by simp; omega) (by decide) Z ?_);refine nZ Z (eZ Z (nB (sQ (kY [0,5,6] Z (rG (eK 3 Z (BU tys Z Z (AA Z) Z Z Z Z Z Z Z Z (by first | omega | (simp only [Sj]; omega)) (by first | omega | (simp only [Sj]; omega)) (by first | omega | (simp only [Sj]; omega)) ?_)))))));refine AH tys Z Z (AA Z) Z Z Z Z Z (.own Z (by first | omega | (simp only [Sk]; omega))) Z (.read (F6 _ _ _)) (by decide) (by simp; omega) (by decide) Z ?_;refine nZ Z (eZ Z (nB ?_))
    try (refine AN (Le.gather (u := 4) (id := 34) rfl rfl (by first | (simp; done) | (simp; omega) | omega)) ?_; refine Ac rfl ?_; refine AN (Le.freeze (u := 4) rfl) ?_; refine Ac rfl ?_)
    refine rT (eR ?_)
    · first
      | (exfalso; omega)
  simp only [HS] at h3;refine xK 2 Z (kZ [0,1,5,25,26,27] Z (gY Z ?_));refine iY (k := ?_);refine xK 4 Z (nB ?_);refine AC Z (fun h4 => ?_) (fun h4 => ?_)
  ·
    simp only [HS] at h4;refine sG (eK 2 Z (nB ?_))
    try (refine AN (Le.gather (u := 4) (id := 34) rfl rfl (by first | (simp; done) | (simp; omega) | omega)) ?_; refine Ac rfl ?_; refine AN (Le.freeze (u := 4) rfl) ?_; refine Ac rfl ?_)
    refine rT (tR (eR ?_))
    · first
      | (refine Rm ?_; rw [QF hk0 (by omega) (by assumption)]; done)
  simp only [HS] at h4;refine AD (tN (sG (bZ [] ?_)));refine nZ Z (eK 2 Z (BU tys Z Z (AA Z) Z Z Z Z Z Z Z Z (by first | omega | (simp only [Sj]; omega)) (by first | omega | (simp only [Sj]; omega)) (by first | omega | (simp only [Sj]; omega)) ?_));refine kZ [0,1,5,34,37] Z (AH tys Z Z (AA Z) Z Z Z Z Z (.own Z (by first | omega | (simp only [Sk]; omega))) Z (.read (F6 _ _ _)) (by decide) (by simp; omega) (by decide) Z ?_);refine nZ Z (eZ Z (nA (eK 2 Z (bZ [T.int n] ?_))));refine nZ Z (AH tys Z Z (AA Z) Z Z Z Z Z (.own Z (by first | omega | (simp only [Sk]; omega))) Z (.own Z (by first | decide | omega)) (by decide) (by simp; omega) (by decide) Z ?_);refine nZ Z (eZ Z (nB (sQ (kY [0,5,6] Z (rG (eK 3 Z (BU tys Z Z (AA Z) Z Z Z Z Z Z Z Z (by first | omega | (simp only [Sj]; omega)) (by first | omega | (simp only [Sj]; omega)) (by first | omega | (simp only [Sj]; omega)) ?_)))))));refine AH tys Z Z (AA Z) Z Z Z Z Z (.own Z (by first | omega | (simp only [Sk]; omega))) Z (.read (F6 _ _ _)) (by decide) (by simp; omega) (by decide) Z ?_;refine nZ Z (eZ Z (nB ?_))
  try (refine AN (Le.gather (u := 4) (id := 34) rfl rfl (by first | (simp; done) | (simp; omega) | omega)) ?_; refine Ac rfl ?_; refine AN (Le.freeze (u := 4) rfl) ?_; refine Ac rfl ?_)
  refine rT (eR ?_)
  · first
    | (have e := OG hr hk0 hk1 hk2 (fun h => by omega)
       refine Rm ?_;rw [← Jl e];simp only [GU, Sr, Th, List.length_nil, Sz, List.take_nil]
       done)
open Go.Eng
structure Met (N : Nat) (calls : Int → List Int) (fn : Int) (met : List Int) (k : Nat) : Prop where
 nodup : met.Nodup
 lead : ∀ x, x ∈ met → Lead calls fn x
 first : fn ∈ met
 closed : ∀ (i : Nat) (h : i < met.length), i < k → ∀ c, c ∈ calls met[i] → c ∈ met
section
variable {N : Nat} {calls : Int → List Int} {fn : Int} {met : List Int} {k : Nat}
end
structure Dfs (calls : Int → List Int) (fn : Int) (S ol : List Int) : Prop where
 leadS : ∀ x, x ∈ S → Lead calls fn x
 leadO : ∀ x, x ∈ ol → Lead calls fn x
 first : fn ∈ S ∨ fn ∈ ol
 closed : ∀ x, x ∈ S → ∀ c, c ∈ calls x → c ∈ S ∨ c ∈ ol
section
variable {N : Nat} {calls : Int → List Int} {fn x : Int} {S ol : List Int}
end
open Go.Eng
def ctL {α : Type} (ct : α → Int) (l : List α) : Int := (l.map ct).sum
section
variable {α : Type}
theorem DV (ct : α → Int) (x : α) (l : List α) : ctL ct (x :: l) = ct x + ctL ct l := by simp [ctL]
theorem PD {ct : α → Int} {m : Int} (h : ∀ x, m ≤ ct x) (l : List α) (hm : 0 ≤ m := by decide) : 0 ≤ ctL ct l := by
 induction l with
 | nil => exact Te 0
 | cons x l ih => have := h x; rw [DV]; omega
end
open Go.Eng
def PC (x : Tok) : Int := 1 + 1
theorem PB (x : Tok) : 1 ≤ PC x := by
 unfold PC; omega
def FI (x : Stmt) : Int := 1 + 1 + ctL PC x.ex + (x.thn.length : Int) + (x.els.length : Int)
theorem NM (x : Stmt) : 1 ≤ FI x := by
 have p0 := PD PB x.ex
 unfold FI; omega
def Kb (x : Func) : Int := 1 + 1 + (x.body.length : Int) + ctL FI x.stmts
def IA (x : Prog) : Int := ctL Kb x.funcs
open Go.Eng
def w64 (n : Int) : Int := IntKind.i64.wrap n
def w32 (n : Int) : Int := IntKind.i64.wrap (IntKind.i32.wrap n)
def A2 (op x y : Int) : Option Int :=
 if op = 3 then some (w32 (w64 (x + y))) else if op = 4 then some (w32 (w64 (x - y))) else if op = 5 then some (w32 (w64 (x * y)))
 else if op = 6 then (if y = 0 then none else some (w32 (w64 (x.tdiv y)))) else if op = 7 then some (if x < y then 1 else 0) else some (if x = y then 1 else 0)
structure Ms where
 used : Nat
 fuel : Nat
 deep : Nat
 trace : List Int
structure By where
 how : Int
 pan : Int
 exd : Bool
structure Sx where
 m : Ms
 vars : List Int
 off : List Int
 res : Int
 by' : Option By
def GX : Option By → Int × Option By
 | none => (0, none)
 | some b => if b.how = 2 then (b.pan, some ⟨if b.exd then 3 else 1, b.pan, b.exd⟩) else (0, some b)
def inS (inp : List Int) (m : Ms) : Int × Ms := if m.used < inp.length then ((inp[m.used]?).getD 0, ⟨m.used + 1, m.fuel, m.deep, m.trace⟩) else (0, m)
def GK (cal : Int → List Int → Ms → Int × Int × Ms) (ps : List Int) (inp : List Int) (t : Tok) (pile : List Int) (s : Sx) : Int × Int × List Int × Sx :=
 if t.op = 1 then (0, 0, pile ++ [t.n], s)
 else if t.op = 2 then (0, 0, pile ++ [atI s.vars t.n], s)
 else if t.op = 9 then (0, 0, pile ++ [(inS inp s.m).1], { s with m := (inS inp s.m).2 })
 else if t.op = 10 then (0, 0, pile ++ [(GX s.by').1], { s with by' := (GX s.by').2 })
 else if t.op = 11 then
  let k := pile.length - (atI ps t.n).toNat
  let r := cal t.n (pile.drop k) s.m
  if r.1 = 1 then (0, 0, pile.take k ++ [r.2.1], { s with m := r.2.2 }) else (r.1, r.2.1, pile, { s with m := r.2.2 })
 else match A2 t.op ((pile[pile.length - 2]?).getD 0) ((pile[pile.length - 1]?).getD 0) with
  | none => (2, -1, pile, s)
  | some v => (0, 0, pile.take (pile.length - 2) ++ [v], s)
def exprS (cal : Int → List Int → Ms → Int × Int × Ms) (ps : List Int) (inp : List Int) : List Tok → List Int → Sx → Int × Int × Sx
 | [], pile, s => (0, (pile[0]?).getD 0, s)
 | t :: l, pile, s => let r := GK cal ps inp t pile s
  if r.1 = 0 then exprS cal ps inp l r.2.2.1 r.2.2.2 else (r.1, r.2.1, r.2.2.2)
def blockS (st : Stmt → Sx → Int × Int × Sx) (f : Func) : List Int → Sx → Int × Int × Sx
 | [], s => (0, 0, s)
 | k :: l, s => let r := st (BK f k) s
  if r.1 = 0 then blockS st f l r.2.2 else r
structure Lev where
 stmt : Func → Stmt → Sx → Int × Int × Sx
 call : Int → List Int → Option By → Ms → Int × Int × Option By × Ms
def Lev.cal (L : Lev) (fn : Int) (args : List Int) (m : Ms) : Int × Int × Ms := ((L.call fn args none m).1, (L.call fn args none m).2.1, (L.call fn args none m).2.2.2)
def A6 (m : Ms) : Ms := ⟨m.used, m.fuel - 1, m.deep, m.trace⟩
def doS (L : Lev) (f : Func) (t : Stmt) (v : Int) (s : Sx) : Int × Int × Sx :=
 if t.kind = 1 then (0, 0, { s with vars := s.vars.set t.n.toNat v })
 else if t.kind = 2 then (0, 0, { s with m := ⟨s.m.used, s.m.fuel, s.m.deep, s.m.trace ++ [v]⟩ })
 else if t.kind = 4 then (2, v, s)
 else if t.kind = 5 then (1, 0, { s with res := v })
 else if t.kind = 7 then (if v ≠ 0 then blockS (L.stmt f) f t.thn s else blockS (L.stmt f) f t.els s)
 else if t.kind = 8 then (if v = 0 then (0, 0, s) else
  let r := blockS (L.stmt f) f t.thn s
  if r.1 = 0 then L.stmt f t r.2.2 else r)
 else (0, 0, s)
def Gs (L : Lev) (ps inp : List Int) (f : Func) (t : Stmt) (s : Sx) : Int × Int × Sx :=
 if s.m.fuel = 0 then (5, 0, s)
 else if t.kind = 3 then (0, 0, { s with m := A6 s.m, off := s.off ++ [t.n] })
 else if t.kind = 6 then (3, 0, { s with m := A6 s.m })
 else
  let r := exprS L.cal ps inp t.ex [] { s with m := A6 s.m }
  if r.1 = 0 then doS L f t r.2.1 r.2.2 else r
def offR (cal : Int → Option By → Ms → Int × Int × Option By × Ms) : List Int → By → Ms → Int × By × Ms
 | [], b, m => (0, b, m)
 | k :: l, b, m => let r := cal k (some b) m
  let b1 := r.2.2.1.getD b
  if 4 ≤ r.1 then (r.1, b1, r.2.2.2) else if r.1 = 1 then offR cal l b1 r.2.2.2
  else offR cal l ⟨r.1, if r.1 = 2 then r.2.1 else b1.pan, b1.exd || decide (r.1 = 3)⟩ r.2.2.2
def setL (n : Nat) (args : List Int) : List Int := args ++ (List.replicate n 0).drop args.length
def startS (f : Func) (args : List Int) (b : Option By) (m : Ms) : Sx := ⟨⟨m.used, m.fuel - 1, m.deep + 1, m.trace⟩, setL f.vars.toNat args, [], 0, b⟩
def endS (h v : Int) : By := ⟨if h = 0 then 1 else h, if h = 2 then v else 0, decide (h = 3)⟩
def GS (L : Lev) (p : Prog) (most : Nat) (fn : Int) (args : List Int) (b : Option By) (m : Ms) : Int × Int × Option By × Ms :=
 if m.fuel = 0 then (5, 0, b, m)
 else if m.deep = most then (4, 0, b, A6 m)
 else
  let f := funcAt p fn
  let r := blockS (L.stmt f) f f.body (startS f args b m)
  if 4 ≤ r.1 then (r.1, 0, r.2.2.by', r.2.2.m)
  else
   let q := offR (fun k b m => L.call k [] b m) r.2.2.off.reverse (endS r.1 r.2.1) r.2.2.m
   if 4 ≤ q.1 then (q.1, 0, r.2.2.by', q.2.2)
   else (q.2.1.how, if q.2.1.how = 2 then q.2.1.pan else r.2.2.res, r.2.2.by', ⟨q.2.2.used, q.2.2.fuel, q.2.2.deep - 1, q.2.2.trace⟩)
def lev (p : Prog) (inp : List Int) (most : Nat) : Nat → Lev
 | 0 => ⟨fun _ _ s => (5, 0, s), fun _ _ b m => (5, 0, b, m)⟩
 | n + 1 => ⟨Gs (lev p inp most n) (paramsL p) inp, GS (lev p inp most n) p most⟩
/-! ### What it keeps to -/
def Ms.le (inp : List Int) (m m' : Ms) : Prop := m'.fuel ≤ m.fuel ∧ m'.trace.length + m'.fuel ≤ m.trace.length + m.fuel ∧ m'.used ≤ inp.length
theorem Ms.le.trans {inp : List Int} {a b c : Ms} (h : a.le inp b) (k : b.le inp c) : a.le inp c := ⟨TL k.1 h.1, TL k.2.1 h.2.1, k.2.2⟩
structure Sx.ok (p : Prog) (inp : List Int) (f : Func) (s : Sx) : Prop where
 vars : s.vars.length = f.vars.toNat
 off : ∀ x, x ∈ s.off → 0 ≤ x ∧ x < p.funcs.length ∧ atI (paramsL p) x = 0
 used : s.m.used ≤ inp.length
def ByOk (b : Option By) : Prop := ∀ x, b = some x → 1 ≤ x.how ∧ x.how < 4
structure Sx.to (p : Prog) (inp : List Int) (f : Func) (h : Int) (s s' : Sx) : Prop where
 ok : s'.ok p inp f
 le : s.m.le inp s'.m
 offl : s'.off.length + s'.m.fuel ≤ s.off.length + s.m.fuel
 h0 : 0 ≤ h
 h5 : h ≤ 5
 deep : h < 4 → s'.m.deep = s.m.deep
 by' : s'.by'.isSome = s.by'.isSome
 byk : ByOk s.by' → ByOk s'.by'
structure Ms.to (inp : List Int) (h : Int) (b b' : Option By) (m m' : Ms) : Prop where
 le : m.le inp m'
 h1 : 1 ≤ h
 h5 : h ≤ 5
 deep : h < 4 → m'.deep = m.deep
 by' : b'.isSome = b.isSome
 byk : ByOk b → ByOk b'
theorem Sx.to.trans {p : Prog} {inp : List Int} {f : Func} {h h' : Int} {a b c : Sx} (x : Sx.to p inp f h a b) (y : Sx.to p inp f h' b c) (hx : h < 4) : Sx.to p inp f h' a c :=
 ⟨y.ok, x.le.trans y.le, TL y.offl x.offl, y.h0, y.h5, fun hh => (y.deep hh).trans (x.deep hx), y.by'.trans x.by', fun h => y.byk (x.byk h)⟩
theorem Sx.to.refl {p : Prog} {inp : List Int} {f : Func} {a : Sx} (h : a.ok p inp f) {e : Int} (h0 : 0 ≤ e) (h5 : e ≤ 5) : Sx.to p inp f e a a :=
 ⟨h, ⟨S3 _, S3 _, h.used⟩, S3 _, h0, h5, fun _ => rfl, rfl, id⟩
def R3 (f : Func) (b : List Int) : Prop := ∀ x, x ∈ b → 0 ≤ x ∧ x < f.stmts.length
structure Ej (p : Prog) (inp : List Int) (L : Lev) : Prop where
 stmt : ∀ f, f ∈ p.funcs → ∀ t, t ∈ f.stmts → ∀ s : Sx, s.ok p inp f → Sx.to p inp f (L.stmt f t s).1 s (L.stmt f t s).2.2
 call : ∀ (fn : Int) (args : List Int) (b : Option By) (m : Ms), 0 ≤ fn → fn < p.funcs.length → args.length = (atI (paramsL p) fn).toNat → m.used ≤ inp.length → Ms.to inp (L.call fn args b m).1 b (L.call fn args b m).2.2.1 m (L.call fn args b m).2.2.2
section
variable {p : Prog} {inp : List Int} {f : Func} {L : Lev}
theorem Ms.to_s {s : Sx} {h : Int} {m' : Ms} {b b' : Option By} (hs : s.ok p inp f) (ht : Ms.to inp h b b' s.m m') : Sx.to p inp f h s { s with m := m' } :=
 ⟨⟨hs.vars, hs.off, ht.le.2.2⟩, ht.le, by have := ht.le.1; show s.off.length + m'.fuel ≤ _; omega, by have := ht.h1; omega, ht.h5, ht.deep, rfl, id⟩
theorem inS_le {m : Ms} (h : m.used ≤ inp.length) : m.le inp (inS inp m).2 ∧ (inS inp m).2.deep = m.deep ∧ (inS inp m).2.fuel = m.fuel := by
 unfold inS;split
 ·exact ⟨⟨S3 _, S3 _, by assumption⟩, rfl, rfl⟩
 ·exact ⟨⟨S3 _, S3 _, h⟩, rfl, rfl⟩
theorem Jk (b : Option By) : (GX b).2.isSome = b.isSome := by
 unfold GX;split
 ·rfl
 ·split <;> rfl
theorem Rp {b : Option By} (h : ByOk b) : ByOk (GX b).2 := by
 unfold GX;split
 ·exact h
 ·split
  ·intro x hx
   cases hx;dsimp only
   split <;> omega
  ·exact h
theorem K3 (hL : Ej p inp L) (hg : AZ p = true) {vs : Int} {t : Tok} {pile : List Int} {s : Sx} (hs : s.ok p inp f) (hk : knownT vs (paramsL p).length t = true) (hn : A1 (paramsL p) t ≤ pile.length) :
  Sx.to p inp f (GK L.cal (paramsL p) inp t pile s).1 s (GK L.cal (paramsL p) inp t pile s).2.2.2 ∧
  ((GK L.cal (paramsL p) inp t pile s).1 = 0 → ((GK L.cal (paramsL p) inp t pile s).2.2.1.length : Int) = pile.length + (1 - A1 (paramsL p) t)) := by
 have hps := FA hg
 have h0 := Sx.to.refl hs (e := 0) (by omega) (by omega)
 unfold GK
 by_cases o1 : t.op = 1
 ·rw [if_pos o1]
  exact ⟨h0, fun _ => by simp [A1, o1]⟩
 rw [if_neg o1]
 by_cases o2 : t.op = 2
 ·rw [if_pos o2]
  exact ⟨h0, fun _ => by simp [A1, o2]⟩
 rw [if_neg o2]
 by_cases o9 : t.op = 9
 ·rw [if_pos o9]
  obtain ⟨g1, g2, g3⟩ := inS_le hs.used
  exact ⟨⟨⟨hs.vars, hs.off, g1.2.2⟩, g1, by show s.off.length + (inS inp s.m).2.fuel ≤ _; omega, by show (0 : Int) ≤ 0; omega, by show (0 : Int) ≤ 5; omega, fun _ => g2, rfl, id⟩, fun _ => by simp [A1, o9]⟩
 rw [if_neg o9]
 by_cases o10 : t.op = 10
 ·rw [if_pos o10]
  exact ⟨⟨⟨hs.vars, hs.off, hs.used⟩, h0.le, h0.offl, h0.h0, h0.h5, fun _ => rfl, Jk _, Rp⟩, fun _ => by simp [A1, o10]⟩
 rw [if_neg o10]
 by_cases o11 : t.op = 11
 ·rw [if_pos o11]
  obtain ⟨k0, k1⟩ := DS hk o11
  rw [A9] at k1
  have hne : A1 (paramsL p) t = atI (paramsL p) t.n := by simp [A1, o11]
  have hb := I4 hps t.n
  rw [hne] at hn ⊢
  have hc := hL.call t.n (pile.drop (pile.length - (atI (paramsL p) t.n).toNat)) none s.m k0 k1 (by rw [TD]; omega) hs.used
  dsimp only [Lev.cal];split
  ·rename_i h
   rw [h] at hc
   have := Ms.to_s hs hc
   refine ⟨⟨this.ok, this.le, this.offl, by show (0 : Int) ≤ 0; omega, by show (0 : Int) ≤ 5; omega, fun _ => hc.deep (by omega), rfl, id⟩, fun _ => ?_⟩;simp only [Sk, Sm, Sl, List.length_nil];omega
  ·rename_i h
   refine ⟨Ms.to_s hs hc, fun hz => ?_⟩
   have := hc.h1
   have hz' : (L.call t.n (pile.drop (pile.length - (atI (paramsL p) t.n).toNat)) none s.m).1 = 0 := hz
   omega
 rw [if_neg o11]
 have hop : 3 ≤ t.op ∧ t.op ≤ 8 := by
  unfold knownT at hk;rw [if_neg o1, if_neg o2, if_neg o11] at hk;simp only [Si, decide_eq_true_eq] at hk;omega
 have hne : A1 (paramsL p) t = 2 := by simp [A1, hop]
 split
 ·exact ⟨Sx.to.refl hs (e := 2) (by omega) (by omega), fun h => by simp at h⟩
 ·refine ⟨h0, fun _ => ?_⟩
  rw [hne] at hn ⊢;simp only [Sk, Sm, Sl, List.length_nil];omega
theorem Gm (hL : Ej p inp L) (hg : AZ p = true) {vs : Int} : ∀ {l : List Tok} {pile : List Int} {s : Sx} {mx : Int} {r : Int × Int}, s.ok p inp f → DZ vs (paramsL p) l pile.length mx = some r →
  Sx.to p inp f (exprS L.cal (paramsL p) inp l pile s).1 s (exprS L.cal (paramsL p) inp l pile s).2.2
 | [], pile, s, mx, r, hs, _ => Sx.to.refl hs (by show (0 : Int) ≤ 0; omega) (by show (0 : Int) ≤ 5; omega)
 | t :: l, pile, s, mx, r, hs, hr => by
  rw [DZ] at hr;split at hr
  ·rename_i hc
   rw [Si, decide_eq_true_eq] at hc
   obtain ⟨h1, h2⟩ := K3 hL hg hs hc.1 hc.2
   rw [exprS];split
   ·rename_i h0
    rw [← h2 h0] at hr;exact h1.trans (Gm hL hg h1.ok hr) (by omega)
   ·exact h1
  ·cases hr
theorem Bw {st : Stmt → Sx → Int × Int × Sx} (hst : ∀ t, t ∈ f.stmts → ∀ s : Sx, s.ok p inp f → Sx.to p inp f (st t s).1 s (st t s).2.2) : ∀ {b : List Int} {s : Sx}, R3 f b → s.ok p inp f → Sx.to p inp f (blockS st f b s).1 s (blockS st f b s).2.2
 | [], s, _, hs => Sx.to.refl hs (by show (0 : Int) ≤ 0; omega) (by show (0 : Int) ≤ 5; omega)
 | k :: b, s, hb, hs => by
  have hk := hb k (by simp)
  have hm : BK f k ∈ f.stmts := by rw [← Dc (by omega)]; exact Ss _
  have h1 := hst _ hm s hs
  rw [blockS];split
  ·rename_i h0
   exact h1.trans (Bw hst (fun x hx => hb x (by simp [hx])) h1.ok) (by omega)
  ·exact h1
theorem Sx.ok.burn {s : Sx} (h : s.ok p inp f) (hf : s.m.fuel ≠ 0) : Sx.to p inp f 0 s { s with m := A6 s.m } := by
 refine ⟨⟨h.vars, h.off, h.used⟩, ⟨?_, ?_, h.used⟩, ?_, by omega, by omega, fun _ => rfl, rfl, id⟩
 ·show s.m.fuel - 1 ≤ s.m.fuel; omega
 ·show s.m.trace.length + (s.m.fuel - 1) ≤ _; omega
 ·show s.off.length + (s.m.fuel - 1) ≤ _; omega
theorem H1 {f : Func} (h : Ao f = true) : BQ f.stmts.length (kids f.stmts) ∧ inB f.stmts.length 0 f.body ∧ ord f.stmts.length (kids f.stmts) f.body = DY f.stmts.length := by
 unfold Ao at h;simp only [Si] at h;exact shapeB_iff.1 h.2.2.1
theorem Ip {f : Func} (hsh : Ao f = true) {t : Stmt} (ht : t ∈ f.stmts) : R3 f t.thn ∧ R3 f t.els ∧ R3 f f.body := by
 obtain ⟨hd, hb, _⟩ := H1 hsh
 obtain ⟨i, hi, rfl⟩ := TF ht
 have h := hd i (by omega) (by omega)
 rw [kids_at (by omega)] at h;exact ⟨fun x hx => ⟨by have := (h.1 x hx).1; omega, (h.1 x hx).2⟩, fun x hx => ⟨by have := (h.2 x hx).1; omega, (h.2 x hx).2⟩, fun x hx => hb x hx⟩
theorem FO {f : Func} (hsh : Ao f = true) : R3 f f.body := fun x hx => (H1 hsh).2.1 x hx
theorem Gt {vars : Int} {ps : List Int} {t : Stmt} (h : BM vars ps t = true) (h3 : t.kind ≠ 3) (h6 : t.kind ≠ 6) : ∃ m : Int, DZ vars ps t.ex 0 0 = some (1, m) := by
 have hx : Dt vars ps t.ex = true := by
  rcases stmtG_ex h with h' | h'
  ·exfalso
   revert h
   grind [BM, Ap, Dt, DZ]
  ·exact h'
 unfold Dt at hx
 cases hr : DZ vars ps t.ex 0 0 with
 | none => rw [hr] at hx; cases hx
 | some q =>
  obtain ⟨a, m⟩ := q
  rw [hr] at hx;simp only [Si, decide_eq_true_eq] at hx;exact ⟨m, by rw [hx.1]⟩
theorem Pz (hL : Ej p inp L) (hg : AZ p = true) (hf : f ∈ p.funcs) {t : Stmt} (ht : t ∈ f.stmts) {s : Sx} (hs : s.ok p inp f) : Sx.to p inp f (Gs L (paramsL p) inp f t s).1 s (Gs L (paramsL p) inp f t s).2.2 := by
 obtain ⟨q, hq, rfl⟩ := TF hf
 have hgf := CE hg hq
 have hsh := Bj hgf
 have hst : BM (p.funcs[q]).vars (paramsL p) t = true := by
  obtain ⟨i, hi, rfl⟩ := TF ht
  exact Iu hgf hi
 obtain ⟨hk1, hk2, _⟩ := Ip hsh ht
 unfold Gs
 by_cases hz : s.m.fuel = 0
 ·rw [if_pos hz]
  exact Sx.to.refl hs (by show (0 : Int) ≤ 5; omega) (by show (5 : Int) ≤ 5; omega)
 rw [if_neg hz]
 have hb := hs.burn hz
 by_cases k3 : t.kind = 3
 ·rw [if_pos k3]
  obtain ⟨n0, n1, _⟩ := Nt hst k3
  have hn : atI (paramsL p) t.n = 0 := by
   unfold BM at hst;rw [if_pos k3, Si, decide_eq_true_eq] at hst;exact hst.2
  rw [A9] at n1;refine ⟨⟨hs.vars, fun x hx => ?_, hs.used⟩, hb.le, ?_, by show (0 : Int) ≤ 0; omega, by show (0 : Int) ≤ 5; omega, fun _ => rfl, rfl, id⟩
  ·rcases So.1 hx with hx | hx
   ·exact hs.off x hx
   ·rw [TB] at hx
    subst hx;exact ⟨n0, n1, hn⟩
  ·show (s.off ++ [t.n]).length + (s.m.fuel - 1) ≤ _
   simp only [Sk, Sl, List.length_nil];omega
 rw [if_neg k3]
 by_cases k6 : t.kind = 6
 ·rw [if_pos k6]
  exact ⟨hb.ok, hb.le, hb.offl, by show (0 : Int) ≤ 3; omega, by show (3 : Int) ≤ 5; omega, fun _ => rfl, rfl, id⟩
 rw [if_neg k6]
 obtain ⟨mx, hr⟩ := Gt hst k3 k6
 have he := Gm hL hg (pile := []) hb.ok (l := t.ex) (mx := 0) (by simpa using hr)
 dsimp only;generalize exprS L.cal (paramsL p) inp t.ex [] { s with m := A6 s.m } = r at he
 obtain ⟨h, v, s2⟩ := r
 dsimp only at he ⊢
 have h1 := hb.trans he (by omega)
 split
 ·rename_i hh
  subst hh;unfold doS;dsimp only
  have hok := he.ok
  split
  ·exact h1.trans ⟨⟨by rw [TR]; exact hok.vars, hok.off, hok.used⟩, ⟨S3 _, S3 _, hok.used⟩, S3 _, by show (0 : Int) ≤ 0; omega, by show (0 : Int) ≤ 5; omega, fun _ => rfl, rfl, id⟩ (by omega)
  split
  ·have hfu : s2.m.trace.length + 1 + s2.m.fuel ≤ s.m.trace.length + s.m.fuel := by
    have a1 : s2.m.trace.length + s2.m.fuel ≤ s.m.trace.length + (s.m.fuel - 1) := he.le.2.1
    omega
   refine ⟨⟨hok.vars, hok.off, hok.used⟩, ⟨h1.le.1, ?_, hok.used⟩, h1.offl, by show (0 : Int) ≤ 0; omega, by show (0 : Int) ≤ 5; omega, fun _ => h1.deep (by omega), h1.by', h1.byk⟩;show (s2.m.trace ++ [v]).length + s2.m.fuel ≤ _;simp only [Sk, Sl, List.length_nil];omega
  split
  ·exact ⟨h1.ok, h1.le, h1.offl, by show (0 : Int) ≤ 2; omega, by show (2 : Int) ≤ 5; omega, fun _ => h1.deep (by omega), h1.by', h1.byk⟩
  split
  ·exact ⟨⟨hok.vars, hok.off, hok.used⟩, h1.le, h1.offl, by show (0 : Int) ≤ 1; omega, by show (1 : Int) ≤ 5; omega, fun _ => h1.deep (by omega), h1.by', h1.byk⟩
  split
  ·split
   ·exact h1.trans (Bw (hL.stmt _ hf) hk1 hok) (by omega)
   ·exact h1.trans (Bw (hL.stmt _ hf) hk2 hok) (by omega)
  split
  ·split
   ·exact h1
   ·have hbl := Bw (hL.stmt _ hf) hk1 hok
    split
    ·rename_i h0
     exact h1.trans (hbl.trans (hL.stmt _ hf _ ht _ hbl.ok) (by omega)) (by omega)
    ·exact h1.trans hbl (by omega)
  ·exact h1
 ·exact h1
theorem LG {cal : Int → Option By → Ms → Int × Int × Option By × Ms} (hc : ∀ (k : Int) (b : Option By) (m : Ms), 0 ≤ k → k < p.funcs.length → atI (paramsL p) k = 0 → m.used ≤ inp.length → Ms.to inp (cal k b m).1 b (cal k b m).2.2.1 m (cal k b m).2.2.2) :
  ∀ {l : List Int} {b : By} {m : Ms}, (∀ x, x ∈ l → 0 ≤ x ∧ x < p.funcs.length ∧ atI (paramsL p) x = 0) → m.used ≤ inp.length → 1 ≤ b.how → b.how < 4 →
   m.le inp (offR cal l b m).2.2 ∧ 0 ≤ (offR cal l b m).1 ∧ (offR cal l b m).1 ≤ 5 ∧ ((offR cal l b m).1 < 4 → (offR cal l b m).2.2.deep = m.deep ∧ 1 ≤ (offR cal l b m).2.1.how ∧ (offR cal l b m).2.1.how < 4)
 | [], b, m, _, hu, h1, h2 => ⟨⟨S3 _, S3 _, hu⟩, by show (0 : Int) ≤ 0; omega, by show (0 : Int) ≤ 5; omega, fun _ => ⟨rfl, h1, h2⟩⟩
 | k :: l, b, m, hl, hu, h1, h2 => by
  obtain ⟨q0, q1, q2⟩ := hl k (by simp)
  have hk := hc k (some b) m q0 q1 q2 hu
  rw [offR]
  have hb1 : ∃ b1, (cal k (some b) m).2.2.1 = some b1 := by
   have := hk.by'
   cases h : (cal k (some b) m).2.2.1 with
   | none => rw [h] at this; cases this
   | some b1 => exact ⟨b1, rfl⟩
  have hH1 := hk.h1
  split
  ·rename_i h4
   exact ⟨hk.le, by omega, hk.h5, fun h => by omega⟩
  ·rename_i h4
   split
   ·rename_i e1
    obtain ⟨b1, hb1⟩ := hb1
    have hbk := hk.byk (fun x hx => by cases hx; exact ⟨h1, h2⟩) b1 hb1
    rw [hb1]
    have ih := LG hc (l := l) (b := b1) (m := (cal k (some b) m).2.2.2) (fun x hx => hl x (by simp [hx])) hk.le.2.2 hbk.1 hbk.2
    exact ⟨hk.le.trans ih.1, ih.2.1, ih.2.2.1, fun h => ⟨((ih.2.2.2 h).1).trans (hk.deep (by omega)), (ih.2.2.2 h).2⟩⟩
   ·rename_i e1
    have ih := LG hc (l := l) (b := ⟨(cal k (some b) m).1, if (cal k (some b) m).1 = 2 then (cal k (some b) m).2.1 else ((cal k (some b) m).2.2.1.getD b).pan, ((cal k (some b) m).2.2.1.getD b).exd || decide ((cal k (some b) m).1 = 3)⟩) (m := (cal k (some b) m).2.2.2) (fun x hx => hl x (by simp [hx])) hk.le.2.2 hH1 (by show (cal k (some b) m).1 < 4; omega)
    exact ⟨hk.le.trans ih.1, ih.2.1, ih.2.2.1, fun h => ⟨((ih.2.2.2 h).1).trans (hk.deep (by omega)), (ih.2.2.2 h).2⟩⟩
theorem CB {p : Prog} {n : Int} (h0 : 0 ≤ n) (h1 : n < p.funcs.length) : funcAt p n ∈ p.funcs := by rw [← funcAt_at (by omega)]; exact Ss _
theorem CW {p : Prog} {n : Int} (h0 : 0 ≤ n) (h1 : n < p.funcs.length) : atI (paramsL p) n = (funcAt p n).params := by rw [BX h0 h1, ← funcAt_at (by omega)]
theorem CK {p : Prog} (hg : AZ p = true) {f : Func} (hf : f ∈ p.funcs) : 0 ≤ f.params ∧ f.params ≤ 2 ∧ f.params ≤ f.vars ∧ f.vars ≤ 6 ∧ Ao f = true ∧ f.stmts.length ≤ 16 := by
 obtain ⟨q, hq, rfl⟩ := TF hf
 have hgf := CE hg hq
 have hsh := Bj hgf
 have hl := Ds hgf
 have h := hsh
 unfold Ao at h;rw [Si] at h
 have h2 := h.1
 unfold E3 at h2;simp only [Si, decide_eq_true_eq] at h2;exact ⟨h2.1.1, h2.1.2, h2.2.1.1, h2.2.1.2, hsh, hl⟩
theorem P3 {n : Nat} {args : List Int} (h : args.length ≤ n) : (setL n args).length = n := by simp [setL]; omega
theorem Gu {p : Prog} {inp : List Int} {f : Func} {args : List Int} {b : Option By} {m : Ms} (ha : args.length ≤ f.vars.toNat) (hu : m.used ≤ inp.length) : (startS f args b m).ok p inp f :=
 ⟨P3 ha, (fun x hx => absurd hx List.not_mem_nil), hu⟩
theorem LR {h v : Int} (h0 : 0 ≤ h) (h4 : h < 4) : 1 ≤ (endS h v).how ∧ (endS h v).how < 4 := by
 unfold endS;dsimp only
 split <;> omega
theorem Q0 (hL : Ej p inp L) (hg : AZ p = true) {most : Nat} {fn : Int} {args : List Int} {b : Option By} {m : Ms} (h0 : 0 ≤ fn) (h1 : fn < p.funcs.length) (ha : args.length = (atI (paramsL p) fn).toNat) (hu : m.used ≤ inp.length) :
  Ms.to inp (GS L p most fn args b m).1 b (GS L p most fn args b m).2.2.1 m (GS L p most fn args b m).2.2.2 := by
 have hm := CB h0 h1
 obtain ⟨g1, g2, g3, g4, hsh, g6⟩ := CK hg hm
 rw [CW h0 h1] at ha;unfold GS
 by_cases hz : m.fuel = 0
 ·rw [if_pos hz]; exact ⟨⟨S3 _, S3 _, hu⟩, by show (1 : Int) ≤ 5; omega, by show (5 : Int) ≤ 5; omega, fun _ => rfl, rfl, id⟩
 rw [if_neg hz]
 by_cases hd : m.deep = most
 ·rw [if_pos hd]; exact ⟨⟨by show m.fuel - 1 ≤ m.fuel; omega, by show m.trace.length + (m.fuel - 1) ≤ _; omega, hu⟩, by show (1 : Int) ≤ 4; omega, by show (4 : Int) ≤ 5; omega, fun _ => rfl, rfl, id⟩
 rw [if_neg hd];dsimp only
 have hs := Gu (p := p) (inp := inp) (f := funcAt p fn) (args := args) (b := b) (m := m) (by omega) hu
 have hb := Bw (hL.stmt _ hm) (FO hsh) hs
 generalize blockS (L.stmt (funcAt p fn)) (funcAt p fn) (funcAt p fn).body (startS (funcAt p fn) args b m) = r at hb
 obtain ⟨h, v, s1⟩ := r
 dsimp only at hb ⊢
 have e1 : s1.m.fuel ≤ m.fuel - 1 := hb.le.1
 have e2 : s1.m.trace.length + s1.m.fuel ≤ m.trace.length + (m.fuel - 1) := hb.le.2.1
 have hl1 : m.le inp s1.m := ⟨by omega, by omega, hb.le.2.2⟩
 have hh0 := hb.h0
 have hh5 := hb.h5
 split
 ·rename_i h4
  exact ⟨hl1, by show (1 : Int) ≤ h; omega, hb.h5, fun h => by omega, hb.by', hb.byk⟩
 ·rename_i h4
  have he := LR (v := v) hb.h0 (by omega)
  have ho := LG (p := p) (inp := inp) (cal := fun k b m => L.call k [] b m) (fun k b m k0 k1 k2 ku => hL.call k [] b m k0 k1 (by rw [k2]; rfl) ku) (l := s1.off.reverse) (b := endS h v) (m := s1.m) (fun x hx => hb.ok.off x (by simpa using hx)) hb.ok.used he.1 he.2
  generalize offR (fun k b m => L.call k [] b m) s1.off.reverse (endS h v) s1.m = q at ho
  obtain ⟨h2, b2, m2⟩ := q
  dsimp only at ho ⊢
  obtain ⟨o1, o2, o3, o4⟩ := ho
  split
  ·rename_i h5
   exact ⟨hl1.trans o1, by show (1 : Int) ≤ h2; omega, o3, fun h => by omega, hb.by', hb.byk⟩
  ·rename_i h5
   obtain ⟨p1, p2, p3⟩ := o4 (by omega)
   have hd1 : s1.m.deep = m.deep + 1 := hb.deep (by omega)
   refine ⟨⟨(hl1.trans o1).1, (hl1.trans o1).2.1, o1.2.2⟩, p2, by show b2.how ≤ 5; omega, fun _ => ?_, hb.by', hb.byk⟩;show m2.deep - 1 = m.deep;omega
theorem HA {p : Prog} {inp : List Int} (hg : AZ p = true) (most : Nat) : ∀ n, Ej p inp (lev p inp most n)
 | 0 => ⟨fun f _ t _ s hs => Sx.to.refl hs (by show (0 : Int) ≤ 5; omega) (by show (5 : Int) ≤ 5; omega), fun fn args b m _ _ _ hu => ⟨⟨S3 _, S3 _, hu⟩, by show (1 : Int) ≤ 5; omega, by show (5 : Int) ≤ 5; omega, fun _ => rfl, rfl, id⟩⟩
 | n + 1 => ⟨fun f hf t ht s hs => Pz (HA hg most n) hg hf ht hs, fun fn args b m h0 h1 ha hu => Q0 (HA hg most n) hg h0 h1 ha hu⟩
end
open Go.Eng
def ptr (b : Nat) : Value := .pointer (some ⟨b, 0, none⟩)
def mS (pv iv : Value) (most : Int) (m : Ms) : List D := [.t (.v pv), .t (.v iv), .t (.int m.used), .t (.int m.fuel), .t (.int most), .own (T.ints m.trace)]
def byH : Option By → Int
 | none => 0
 | some b => b.how
def byV : Option By → Int
 | none => 0
 | some b => if b.how = 2 then b.pan else 0
def byB : Option By → Int
 | none => 0
 | some b => if b.exd then 3 else 1
def bS (b : Option By) : List D := [.t (.int (byH b)), .t (.int (byV b)), .t (.int (byB b))]
def cS (f : Func) (fbv fsv : Value) (vars off : List Int) (res dp : Int) (bb : Nat) : List D :=
 [.t (.int f.params), .t (.int f.vars), .t (.v fbv), .t (.v fsv), .own (T.ints vars), .own (T.ints off), .t (.int res), .t (.int dp), .t (.v (.pointer (some ⟨bb, 0, none⟩)))]
theorem retPB {b b' : Bool} (h : b = b') : Av [D.t (T.v (Value.bool b))] = D.t (T.bool b') := by rw [h]; rfl
theorem QA {b b' : Int} (h : b = b') : Av [D.t (T.v (Value.int .i64 b))] = D.t (T.int b') := by rw [h]; rfl
theorem Kc (bm : Nat) (pv iv : Value) (most : Int) (m : Ms) (rv : List Value) (rt : List T) (hm : m.fuel ≤ 1048576) : Proc Tryz.prog 141 [.t (.v (.pointer (some ⟨bm, 0, none⟩)))] (rv) (rt) [.obox (.pointer (some ⟨bm, 0, none⟩)) (mS pv iv most m)] (.t (.bool (decide (m.fuel ≠ 0)))) [.obox (.pointer (some ⟨bm, 0, none⟩)) (mS pv iv most (A6 m))] := by
 refine Proc.intro tys Tryz.func141 Z Z (N := 15) [100] 99 ([(0, .t (.v (.pointer (some ⟨bm, 0, none⟩))))]) ([(100, .obox (.pointer (some ⟨bm, 0, none⟩)) (mS pv iv most m)), (99, .ro rv rt)]) Z Z Z Z (by decide) (by decide) Z (fun w0 G F0 => ?_);refine nY Z (AN (Le.openNew (u := 100) 1100 Z Z Z Z Z) (nY Z (AN (Le.named (t := 0) (u := 100) 1100 Z Z) (nY Z (sG (eZ Z (nB (sQ (sG (eZ Z (AJ rfl Z (AA Z) Z Z Z (eK 3 Z (nB ?_)))))))))))));refine AC Z (fun h1 => ?_) (fun h1 => ?_)
 ·
  simp only [HS] at h1;refine sG (eZ Z (nB (AN (Le.close (u := 100) 1100 Z Z Z) (nY Z (rT (tR ?_))))));refine eP [_] ?_ ?_
  ·exact retPB (by simp; omega)
  ·(have h : (m.fuel : Int) = 0 := (by assumption); simp only [mS, A6, show m.fuel = 0 from by omega]; done)
 simp only [HS] at h1;refine AD (tN (sG (eZ Z (AJ rfl Z (AA Z) Z Z Z (eZ Z (kZ [2,8,10] Z (eZ Z (evI ?_))))))));refine AJ rfl Z (AA Z) Z Z Z (eZ Z (sT Z (nZ Z (nA (eZ Z (nB (AN (Le.close (u := 100) 1100 Z Z Z) (nY Z (rT ?_)))))))));refine eP [_] ?_ ?_
 ·exact retPB (by simp; omega)
 ·(have h : (m.fuel : Int) - 1 = ((m.fuel - 1 : Nat) : Int) := (by omega); rw [h]; rfl)
theorem M9 (bm : Nat) (pv iv : Value) (most : Int) (m : Ms) (inp : List Int) (xv : List Value) (xt : List T) (pt : T) (hm : m.used ≤ inp.length) (hi : inp.length ≤ 1048576) : Proc Tryz.prog 158 [.t (.v (.pointer (some ⟨bm, 0, none⟩)))] ((pv :: iv :: xv)) ((pt :: T.ints inp :: xt)) [.obox (.pointer (some ⟨bm, 0, none⟩)) (mS pv iv most m)] (.t (.int (inS inp m).1)) [.obox (.pointer (some ⟨bm, 0, none⟩)) (mS pv iv most (inS inp m).2)] := by
 refine Proc.intro tys Tryz.func158 Z Z (N := 31) [100] 99 ([(0, .t (.v (.pointer (some ⟨bm, 0, none⟩))))]) ([(100, .obox (.pointer (some ⟨bm, 0, none⟩)) (mS pv iv most m)), (99, .ro (pv :: iv :: xv) (pt :: T.ints inp :: xt))]) Z Z Z Z (by decide) (by decide) Z (fun w0 G F0 => ?_);refine nY Z (AN (Le.openNew (u := 100) 1100 Z Z Z Z Z) (nY Z (AN (Le.named (t := 0) (u := 100) 1100 Z Z) (nY Z (sG (eZ Z (nB (sQ (sQ (Ag Ai (by kernel_rfl) (evQ ?_)))))))))));refine A0 rfl Z (AA Z) Z Z Z (evQ ?_);refine evQ ?_;refine evQ ?_;refine AU Z (A0 rfl Z (AA Z) Z Z Z (evQ ?_));refine B0 tys 99 1 Z Z (AA Z) Z Z Z Z (evEQ ?_);refine evQ ?_;refine A8 (tN ?_);refine AC Z (fun h1 => ?_) (fun h1 => ?_)
 ·
  simp only [HS] at h1;refine sG (eZ Z (nB (AN (Le.close (u := 100) 1100 Z Z Z) (nY Z (rT (tR ?_))))));refine eP [_] ?_ ?_
  ·exact QA (by rw [inS, if_neg (by omega)])
  ·(rw [inS, if_neg (by omega)]; rfl)
 simp only [HS] at h1;refine AD (tN (sG (eZ Z (AJ rfl Z (AA Z) Z Z Z (eK 2 Z (kZ [0,2,13,16] Z (evI ?_)))))));refine AJ rfl Z (AA Z) Z Z Z (eZ Z (sT Z (nZ Z (nB (sQ (Ag Ai (by kernel_rfl) (evQ ?_)))))));refine A0 rfl Z (AA Z) Z Z Z (AU Z (evQ ?_));refine B0 tys 99 1 Z Z (AA Z) Z Z Z Z (evQ ?_);refine A0 rfl Z (AA Z) Z Z Z (evQ ?_);refine evQ ?_;refine AU Z (SF ?_);refine BA tys Z Z (AA Z) Z Z Z Z Z Z Z (by omega) _ (FB _ _ (by omega) (by omega)) (evQ ?_);refine evQ ?_;refine A8 (tN (AN (Le.close (u := 100) 1100 Z Z Z) (nY Z (rT ?_))));refine eP [_] ?_ ?_
 ·exact QA (by rw [inS, if_pos (by omega), List.getElem?_eq_getElem (by omega)]; simp [show ((m.used : Int) + 1 - 1).toNat = m.used from by omega])
 ·(rw [inS, if_pos (by omega)]; rfl)
theorem OC {b : Option By} (h : ¬ byH b = 2) : GX b = (0, b) := by
 cases b with
 | none => rfl
 | some x => rw [GX]; exact if_neg h
theorem Ls {b : Option By} (h : byH b = 2) : (GX b).1 = byV b ∧ bS (GX b).2 = [.t (.int (byB b)), .t (.int 0), .t (.int (byB b))] := by
 cases b with
 | none => simp [byH] at h
 | some x =>
  have h' : x.how = 2 := h
  rw [GX, if_pos h']
  cases hx : x.exd <;> simp [bS, byH, byV, byB, hx, h']
theorem Jj (bb : Nat) (b : Option By) (rv : List Value) (rt : List T) : Proc Tryz.prog 159 [.t (.v (.pointer (some ⟨bb, 0, none⟩)))] (rv) (rt) [.obox (.pointer (some ⟨bb, 0, none⟩)) (bS b)] (.t (.int (GX b).1)) [.obox (.pointer (some ⟨bb, 0, none⟩)) (bS (GX b).2)] := by
 refine Proc.intro tys Tryz.func159 Z Z (N := 24) [100] 99 ([(0, .t (.v (.pointer (some ⟨bb, 0, none⟩))))]) ([(100, .obox (.pointer (some ⟨bb, 0, none⟩)) (bS b)), (99, .ro rv rt)]) Z Z Z Z (by decide) (by decide) Z (fun w0 G F0 => ?_);refine nY Z (AN (Le.openNew (u := 100) 1100 Z Z Z Z Z) (nY Z (AN (Le.named (t := 0) (u := 100) 1100 Z Z) (nY Z (sG (eZ Z (nB (sQ (sG (eZ Z (AJ rfl Z (AA Z) Z Z Z (eK 4 Z (nB ?_)))))))))))));refine AC Z (fun h1 => ?_) (fun h1 => ?_)
 ·
  simp only [HS] at h1;refine sQ (kY [0,2] Z (rG (eZ Z (nB (AN (Le.close (u := 100) 1100 Z Z Z) (nY Z (rT (tR ?_))))))));refine eP [_] ?_ ?_
  ·exact QA (by rw [OC (by assumption)])
  ·(rw [OC (by assumption)]; rfl)
 simp only [HS] at h1;refine AD (tN (sQ (kY [0,2] Z (rG (eZ Z (AJ rfl Z (AA Z) Z Z Z (eK 4 Z (nA (eK 2 Z (AJ rfl Z (AA Z) Z Z Z (kZ [2,3,15,17] Z (eK 2 Z (AI tys Z Z (AA Z) Z Z Z (by kernel_rfl) Z Z Z Z Z Z (AJ rfl Z (AA Z) Z Z Z (eZ Z ?_)))))))))))))));refine sT Z (nZ Z (nA (eK 2 Z (nB (AN (Le.close (u := 100) 1100 Z Z Z) (nY Z (rT ?_)))))));refine eP [_] ?_ ?_
 ·exact QA (by rw [(Ls (by assumption)).1])
 ·(have hq := (Ls (b := b) (by assumption)).2; rw [hq])
theorem D9 (n : Int) : Fun Tryz.prog 148 [.t (.int n)] (Av [.t (.int (w32 n))]) := by
 refine Fun.begin tys Tryz.func148 Z Z (N := 6) [(0, .t (.int n))] Z Z (fun w0 G F0 => ?_);refine sG (eZ Z (nA (eZ Z (WO_conv (td := .int .i64) (k := .i32) Z Z (AA Z) Z (by kernel_rfl) (by kernel_rfl) Z (WO_conv (td := .int .i32) (k := .i64) Z Z (AA Z) Z (by kernel_rfl) (by kernel_rfl) Z (eZ Z (nB (rT (eR ?_)))))))))
 ·rfl
def Cj (op x y : Int) : Int := (A2 op x y).getD 0
theorem Ic {a a' : Int} {b b' : Bool} (h : a = a') (h' : b = b') : [D.t (T.v (Value.int .i64 a)), D.t (T.v (Value.bool b))] = [D.t (T.int a'), D.t (T.bool b')] := by rw [h, h']
theorem GD (op x y : Int) : Fun Tryz.prog 140 [.t (.int op), .t (.int x), .t (.int y)] (Av [.t (.int (Cj op x y)), .t (.bool (A2 op x y).isSome)]) := by
 refine Fun.begin tys Tryz.func140 Z Z (N := 45) [(0, .t (.int op)), (1, .t (.int x)), (2, .t (.int y))] Z Z (fun w0 G F0 => ?_);refine sG (eK 2 Z (nA (eZ Z (nB (sQ (sG (eZ Z (nB (AF (sG (eK 2 Z (nB ?_))))))))))));refine AC Z (fun h1 => ?_) (fun h1 => ?_)
 ·
  simp only [HS] at h1;refine sG (eK 3 Z (kZ [6,7,8,17] Z (AL ?_)));refine ⟨_, D9 _, rfl, ?_⟩;refine eK 2 Z (nB (rT (bR (tR (eR ?_)))))
  ·exact Ic (by grind [Cj, A2, w64]) (by grind [A2])
 simp only [HS] at h1;refine sG (eK 2 Z (nB ?_));refine AC Z (fun h2 => ?_) (fun h2 => ?_)
 ·
  simp only [HS] at h2;refine sQ (kY [1,2,6,7,8] Z (rG (eK 3 Z (AL ?_))));refine ⟨_, D9 _, rfl, ?_⟩;refine eK 2 Z (nB (rT (bR (tR (eR ?_)))))
  ·exact Ic (by grind [Cj, A2, w64]) (by grind [A2])
 simp only [HS] at h2;refine sQ (kY [1,2,6,7,8,9] Z (rG (eK 2 Z (nB ?_))));refine AC Z (fun h3 => ?_) (fun h3 => ?_)
 ·
  simp only [HS] at h3;refine sG (eK 3 Z (AL ?_));refine ⟨_, D9 _, rfl, ?_⟩;refine eK 2 Z (nB (rT (bR (tR (eR ?_)))))
  ·exact Ic (by grind [Cj, A2, w64]) (by grind [A2])
 simp only [HS] at h3;refine sG (eK 2 Z (nB ?_));refine AC Z (fun h4 => ?_) (fun h4 => ?_)
 ·
  simp only [HS] at h4;refine sQ (sG (eK 2 Z (nB ?_)));refine AC Z (fun h5 => ?_) (fun h5 => ?_)
  ·
   simp only [HS] at h5;refine sG (eK 2 Z (nB (rT (tR (bR (tR (eR ?_)))))))
   ·exact Ic (by grind [Cj, A2, w64]) (by grind [A2])
  simp only [HS] at h5;refine AD (tN (sG (eK 2 Z (PU Z Z (AA Z) Z Z Z (by first | decide | omega) ?_))));refine kZ [6,7,8,37] Z (AL ?_);refine ⟨_, D9 _, rfl, ?_⟩;refine eK 2 Z (nB (rT (bR (tR (eR ?_)))))
  ·exact Ic (by grind [Cj, A2, w64]) (by grind [A2])
 simp only [HS] at h4;refine sG (eK 2 Z (nB ?_));refine AC Z (fun h5 => ?_) (fun h5 => ?_)
 ·
  simp only [HS] at h5;refine rG (eK 3 Z (kZ [6,7,8,43] Z (eZ Z (oN (bN (tN (sQ (sG (eZ Z (nB ?_))))))))));refine AC Z (fun h6 => ?_) (fun h6 => ?_)
  ·
   simp only [HS] at h6;refine sG (eK 2 Z (nB (rT (tR (eR ?_)))))
   ·exact Ic (by grind [Cj, A2, w64]) (by grind [A2])
  simp only [HS] at h6;refine AD (tN (sG (eK 2 Z (nB (rT (eR ?_))))))
  ·exact Ic (by grind [Cj, A2, w64]) (by grind [A2])
 simp only [HS] at h5;refine rG (eK 3 Z (kZ [6,7,8,12] Z (eZ Z (oN (bN (tN (sQ (sG (eZ Z (nB ?_))))))))));refine AC Z (fun h6 => ?_) (fun h6 => ?_)
 ·
  simp only [HS] at h6;refine sG (eK 2 Z (nB (rT (tR (eR ?_)))))
  ·exact Ic (by grind [Cj, A2, w64]) (by grind [A2])
 simp only [HS] at h6;refine AD (tN (sG (eK 2 Z (nB (rT (eR ?_))))))
 ·exact Ic (by grind [Cj, A2, w64]) (by grind [A2])
end Go.Proofs.YtddfnpiikkilhaaGreat
