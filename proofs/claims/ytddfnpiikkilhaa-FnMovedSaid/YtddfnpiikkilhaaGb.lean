/- Walks and laws of the claim. -/
import Derived.Test.YtddfnpiikkilhaaFe
import Derived.Test.YtddfnpiikkilhaaMc
set_option linter.unusedVariables false
set_option linter.unusedSimpArgs false
set_option maxRecDepth 10000
set_option maxHeartbeats 1000000
namespace Go.Proofs.Ytddfnpiikkilhaa
open Go.Eng
open Go.Eng
def CM (s : Stmt) : Int := (s.thn.length : Int) + s.els.length
def Ah (vars : Int) (ps : List Int) (s : Stmt) : Bool :=
 if s.kind = 1 then CN vars ps s.ex && (decide (0 ≤ s.n ∧ s.n ≤ vars - 1) && decide (CM s = 0))
 else if s.kind = 2 ∨ s.kind = 4 ∨ s.kind = 5 ∨ s.kind = 9 then CN vars ps s.ex && (decide (s.n = 0) && decide (CM s = 0))
 else if s.kind = 3 then decide ((s.ex.length : Int) = 0) && (decide (0 ≤ s.n ∧ s.n ≤ (ps.length : Int) - 1) && decide (CM s = 0))
 else if s.kind = 6 then decide ((s.ex.length : Int) = 0) && (decide (s.n = 0) && decide (CM s = 0))
 else if s.kind = 7 then CN vars ps s.ex && decide (s.n = 0)
 else if s.kind = 8 then CN vars ps s.ex && (decide (s.n = 0) && decide ((s.els.length : Int) = 0))
 else false
def BJ (vars : Int) (ps : List Int) (s : Stmt) : Bool := Ah vars ps s && (if s.kind = 3 then decide (atI ps s.n = 0) else true)
theorem Mr (f : Func) (s : Stmt) (ps : List Int) (hs : s.ok 1048576) (hv : 0 ≤ f.vars ∧ f.vars ≤ 6) (hp : NO ps) (hpb : BN ps = true) : Fun Try.prog 108 [.t f.tt, .t s.tt, .t (T.ints ps)] (A2 [.t (.bool (Ah f.vars ps s))]) := by
 have hp1 := hp.1
 have hs1 : s.ex.length ≤ 1048576 := hs.1
 have hs2 : s.thn.length ≤ 1048576 := hs.2.1
 have hs3 : s.els.length ≤ 1048576 := hs.2.2.1
 refine Fun.begin tys Try.func108 Z Z (N := 115) [(0, .t f.tt), (1, .t s.tt), (2, .t (T.ints ps))] Z Z (fun w0 G F0 => ?_);refine sG (AV Z Z (AA Z) Z Z (nZ Z (AV Z Z (AA Z) Z Z (nZ Z (eZ Z (nA (eK 5 Z (AM ?_))))))));refine ⟨_, Jw _ _ _ hv hp hpb hs1, rfl, ?_⟩;refine kZ [2,3,4,6,14] Z (eZ Z (nA (eK 4 Z ?_)));refine gB (fun h1 => ?_) (fun h1 => ?_)
 ·
  simp only [HS] at h1;refine xK 4 Z (kZ [2,3,4,6,7,18,21,23] Z (xK 5 Z (nB (sQ (sG (eK 2 Z (nB (AD (sQ (kY [2,3,4,6,7,8,29] Z (rG (eK 2 Z (nB ?_)))))))))))));refine AB Z (fun h2 => ?_) (fun h2 => ?_)
  ·
   simp only [HS] at h2;refine sG (eK 2 Z ?_);refine gB (fun h3 => ?_) (fun h3 => ?_)
   ·
    simp only [HS] at h3;refine xK 5 Z (kZ [4,6,33,39] Z (xK 9 Z (kZ [6,41,48] Z (xK 3 Z (nB (rT (bR (tR (eR ?_)))))))))
    ·exact retB (by grind [Ah, CM])
   refine xK 4 Z (gY Z (evI ?_));refine kZ [4,6,33,35,38] Z (gY Z (AM ?_));refine ⟨_, BB _ _ _, rfl, ?_⟩;refine eK 2 Z ?_;refine gB (fun h4 => ?_) (fun h4 => ?_)
   ·
    simp only [HS] at h4;refine xK 6 Z (kZ [6,41,48] Z (xK 3 Z (nB (rT (bR (tR (eR ?_)))))))
    ·exact retB (by grind [Ah, CM])
   simp only [HS] at h4;refine xK 2 Z (gY Z (evE ?_));refine xK 2 Z (gY Z (evE ?_));refine kZ [6,41,44,47] Z (gY Z (evI ?_));refine xK 3 Z (nB (rT (bR (tR (eR ?_)))))
   ·exact retB (by grind [Ah, CM])
  simp only [HS] at h2;refine sQ (sG (eK 2 Z (nB ?_)));refine A4 (α := Bool) [2, 4, 6, 7, 8, 29] [3, 4] (fun x => [(51, .t (.bool x))]) (fun x => []) (fun x => x = decide (s.kind = 2 ∨ s.kind = 4 ∨ s.kind = 5 ∨ s.kind = 9)) ?_ (fun b hx => ?_)
  ·
   refine AB Z (fun h3 => ?_) (fun h3 => ?_)
   ·
    simp only [HS] at h3;refine AC (jQ _ ?_)
    grind
   simp only [HS] at h3;refine sG (eK 2 Z (nB ?_));refine AB Z (fun h4 => ?_) (fun h4 => ?_)
   ·
    simp only [HS] at h4;refine AC (jQ _ ?_)
    grind
   simp only [HS] at h4;refine sG (eK 2 Z (nB ?_));refine AB Z (fun h5 => ?_) (fun h5 => ?_)
   ·
    simp only [HS] at h5;refine AC (jQ _ ?_)
    grind
   simp only [HS] at h5;refine kY [2,4,6,7,8,29,51] Z (rG (eK 2 Z (oN (jQ _ ?_))))
   grind
  have hb := hx
  refine tN ?_;refine AB Z (fun h3 => ?_) (fun h3 => ?_)
  ·
   refine sQ (kY [6,7,8] Z (rG (eK 2 Z ?_)));refine gB (fun h4 => ?_) (fun h4 => ?_)
   ·
    simp only [HS] at h4;refine eK 2 Z (nB (rT (bR (tR (eR ?_)))))
    ·exact retB (by grind [Ah, CM])
   refine eK 3 Z (nB (rT (bR (tR (eR ?_)))))
   ·exact retB (by grind [Ah, CM])
  refine sQ (kY [2,4,6,7,8,29] Z (rG (eK 2 Z (nB ?_))));refine AB Z (fun h4 => ?_) (fun h4 => ?_)
  ·
   simp only [HS] at h4;refine sG (eK 2 Z (evE ?_));refine eK 2 Z ?_;refine gB (fun h5 => ?_) (fun h5 => ?_)
   ·
    simp only [HS] at h5;refine xK 2 Z (kZ [4,6,66,68,69] Z (xK 9 Z (kZ [6,74,77,78] Z (xK 6 Z (nB (rT (bR (tR (eR ?_)))))))))
    ·exact retB (by grind [Ah, CM])
   simp only [HS] at h5;refine xK 2 Z (kZ [2,4,6,66,68] Z (xZ Z (gY Z (evE ?_))));refine gY Z (evI ?_);refine gY Z (AM ?_);refine ⟨_, BB _ _ _, rfl, ?_⟩;refine eK 2 Z ?_;refine gB (fun h6 => ?_) (fun h6 => ?_)
   ·
    simp only [HS] at h6;refine xK 3 Z (kZ [6,74,77,78] Z (xK 6 Z (nB (rT (bR (tR (eR ?_)))))))
    ·exact retB (by grind [Ah, CM])
   simp only [HS] at h6;refine xK 2 Z (gY Z (evE ?_));refine kZ [4,6,74,77] Z (xK 2 Z (gY Z (evE ?_)));refine gY Z (evI ?_);refine xK 3 Z (nB (rT (bR (tR (eR ?_)))))
   ·exact retB (by grind [Ah, CM])
  simp only [HS] at h4;refine sG (eK 2 Z (nB ?_));refine AB Z (fun h5 => ?_) (fun h5 => ?_)
  ·
   simp only [HS] at h5;refine sG (eK 2 Z (evE ?_));refine eK 2 Z (kZ [6,8,90] Z ?_);refine gB (fun h6 => ?_) (fun h6 => ?_)
   ·
    simp only [HS] at h6;refine eK 2 Z (nB (rT (bR (tR (eR ?_)))))
    ·exact retB (by grind [Ah, CM])
   simp only [HS] at h6;refine eK 3 Z (nB (rT (bR (tR (eR ?_)))))
   ·exact retB (by grind [Ah, CM])
  simp only [HS] at h5;refine sG (eK 2 Z (nB ?_));refine AB Z (fun h6 => ?_) (fun h6 => ?_)
  ·
   simp only [HS] at h6;refine sG (eK 2 Z ?_);refine gB (fun h7 => ?_) (fun h7 => ?_)
   ·
    simp only [HS] at h7;refine xZ Z (kZ [6,96,98] Z (xK 3 Z (nB (rT (bR (tR (eR ?_)))))))
    ·exact retB (by grind [Ah, CM])
   refine xK 2 Z (kZ [6,96,98] Z (xK 3 Z (nB (rT (bR (tR (eR ?_)))))))
   ·exact retB (by grind [Ah, CM])
  simp only [HS] at h6;refine sG (eK 2 Z (nB ?_));refine AB Z (fun h7 => ?_) (fun h7 => ?_)
  ·
   simp only [HS] at h7;refine sQ (kY [4,6,7] Z (rG (eK 2 Z ?_)));refine gB (fun h8 => ?_) (fun h8 => ?_)
   ·
    simp only [HS] at h8;refine xK 7 Z (kZ [6,109,112] Z (xK 3 Z (nB (rT (bR (tR (eR ?_)))))))
    ·exact retB (by grind [Ah, CM])
   refine xK 5 Z ?_;refine gB (fun h9 => ?_) (fun h9 => ?_)
   ·
    simp only [HS] at h9;refine xK 2 Z (kZ [6,109,112] Z (xK 3 Z (nB (rT (bR (tR (eR ?_)))))))
    ·exact retB (by grind [Ah, CM])
   simp only [HS] at h9;refine xK 2 Z (kZ [6,109,111] Z (gY Z (evE ?_)));refine xK 3 Z (nB (rT (bR (tR (eR ?_)))))
   ·exact retB (by grind [Ah, CM])
  simp only [HS] at h7;refine AC (bN (tN (sQ (kY [6] Z (rG (eZ Z (nB (rT (eR ?_)))))))))
  ·exact retB (by grind [Ah, CM])
 simp only [HS] at h1;refine xK 2 Z (gY Z (evE ?_));refine xZ Z (kZ [2,3,4,6,7,18,21,22] Z (xZ Z (gY Z (evE ?_))));refine gY Z (evI ?_);refine xK 3 Z (nB (sQ (sG (eK 2 Z (nB (AD (sQ (kY [2,3,4,6,7,8,29] Z (rG (eK 2 Z (nB ?_)))))))))));refine AB Z (fun h2 => ?_) (fun h2 => ?_)
 ·
  simp only [HS] at h2;refine sG (eK 2 Z ?_);refine gB (fun h3 => ?_) (fun h3 => ?_)
  ·
   simp only [HS] at h3;refine xK 5 Z (kZ [4,6,33,39] Z (xK 9 Z (kZ [6,41,48] Z (xK 3 Z (nB (rT (bR (tR (eR ?_)))))))))
   ·exact retB (by grind [Ah, CM])
  refine xK 4 Z (gY Z (evI ?_));refine kZ [4,6,33,35,38] Z (gY Z (AM ?_));refine ⟨_, BB _ _ _, rfl, ?_⟩;refine eK 2 Z ?_;refine gB (fun h4 => ?_) (fun h4 => ?_)
  ·
   simp only [HS] at h4;refine xK 6 Z (kZ [6,41,48] Z (xK 3 Z (nB (rT (bR (tR (eR ?_)))))))
   ·exact retB (by grind [Ah, CM])
  simp only [HS] at h4;refine xK 2 Z (gY Z (evE ?_));refine xK 2 Z (gY Z (evE ?_));refine kZ [6,41,44,47] Z (gY Z (evI ?_));refine xK 3 Z (nB (rT (bR (tR (eR ?_)))))
  ·exact retB (by grind [Ah, CM])
 simp only [HS] at h2;refine sQ (sG (eK 2 Z (nB ?_)));refine A4 (α := Bool) [2, 4, 6, 7, 8, 29] [3, 4] (fun x => [(51, .t (.bool x))]) (fun x => []) (fun x => x = decide (s.kind = 2 ∨ s.kind = 4 ∨ s.kind = 5 ∨ s.kind = 9)) ?_ (fun b hx => ?_)
 ·
  refine AB Z (fun h3 => ?_) (fun h3 => ?_)
  ·
   simp only [HS] at h3;refine AC (jQ _ ?_)
   grind
  simp only [HS] at h3;refine sG (eK 2 Z (nB ?_));refine AB Z (fun h4 => ?_) (fun h4 => ?_)
  ·
   simp only [HS] at h4;refine AC (jQ _ ?_)
   grind
  simp only [HS] at h4;refine sG (eK 2 Z (nB ?_));refine AB Z (fun h5 => ?_) (fun h5 => ?_)
  ·
   simp only [HS] at h5;refine AC (jQ _ ?_)
   grind
  simp only [HS] at h5;refine kY [2,4,6,7,8,29,51] Z (rG (eK 2 Z (oN (jQ _ ?_))))
  grind
 have hb := hx
 refine tN ?_;refine AB Z (fun h3 => ?_) (fun h3 => ?_)
 ·
  refine sQ (kY [6,7,8] Z (rG (eK 2 Z ?_)));refine gB (fun h4 => ?_) (fun h4 => ?_)
  ·
   simp only [HS] at h4;refine eK 2 Z (nB (rT (bR (tR (eR ?_)))))
   ·exact retB (by grind [Ah, CM])
  refine eK 3 Z (nB (rT (bR (tR (eR ?_)))))
  ·exact retB (by grind [Ah, CM])
 refine sQ (kY [2,4,6,7,8,29] Z (rG (eK 2 Z (nB ?_))));refine AB Z (fun h4 => ?_) (fun h4 => ?_)
 ·
  simp only [HS] at h4;refine sG (eK 2 Z (evE ?_));refine eK 2 Z ?_;refine gB (fun h5 => ?_) (fun h5 => ?_)
  ·
   simp only [HS] at h5;refine xK 2 Z (kZ [4,6,66,68,69] Z (xK 9 Z (kZ [6,74,77,78] Z (xK 6 Z (nB (rT (bR (tR (eR ?_)))))))))
   ·exact retB (by grind [Ah, CM])
  simp only [HS] at h5;refine xK 2 Z (kZ [2,4,6,66,68] Z (xZ Z (gY Z (evE ?_))));refine gY Z (evI ?_);refine gY Z (AM ?_);refine ⟨_, BB _ _ _, rfl, ?_⟩;refine eK 2 Z ?_;refine gB (fun h6 => ?_) (fun h6 => ?_)
  ·
   simp only [HS] at h6;refine xK 3 Z (kZ [6,74,77,78] Z (xK 6 Z (nB (rT (bR (tR (eR ?_)))))))
   ·exact retB (by grind [Ah, CM])
  simp only [HS] at h6;refine xK 2 Z (gY Z (evE ?_));refine kZ [4,6,74,77] Z (xK 2 Z (gY Z (evE ?_)));refine gY Z (evI ?_);refine xK 3 Z (nB (rT (bR (tR (eR ?_)))))
  ·exact retB (by grind [Ah, CM])
 simp only [HS] at h4;refine sG (eK 2 Z (nB ?_));refine AB Z (fun h5 => ?_) (fun h5 => ?_)
 ·
  simp only [HS] at h5;refine sG (eK 2 Z (evE ?_));refine eK 2 Z (kZ [6,8,90] Z ?_);refine gB (fun h6 => ?_) (fun h6 => ?_)
  ·
   simp only [HS] at h6;refine eK 2 Z (nB (rT (bR (tR (eR ?_)))))
   ·exact retB (by grind [Ah, CM])
  simp only [HS] at h6;refine eK 3 Z (nB (rT (bR (tR (eR ?_)))))
  ·exact retB (by grind [Ah, CM])
 simp only [HS] at h5;refine sG (eK 2 Z (nB ?_));refine AB Z (fun h6 => ?_) (fun h6 => ?_)
 ·
  simp only [HS] at h6;refine sG (eK 2 Z ?_);refine gB (fun h7 => ?_) (fun h7 => ?_)
  ·
   simp only [HS] at h7;refine xZ Z (kZ [6,96,98] Z (xK 3 Z (nB (rT (bR (tR (eR ?_)))))))
   ·exact retB (by grind [Ah, CM])
  refine xK 2 Z (kZ [6,96,98] Z (xK 3 Z (nB (rT (bR (tR (eR ?_)))))))
  ·exact retB (by grind [Ah, CM])
 simp only [HS] at h6;refine sG (eK 2 Z (nB ?_));refine AB Z (fun h7 => ?_) (fun h7 => ?_)
 ·
  simp only [HS] at h7;refine sQ (kY [4,6,7] Z (rG (eK 2 Z ?_)));refine gB (fun h8 => ?_) (fun h8 => ?_)
  ·
   simp only [HS] at h8;refine xK 7 Z (kZ [6,109,112] Z (xK 3 Z (nB (rT (bR (tR (eR ?_)))))))
   ·exact retB (by grind [Ah, CM])
  refine xK 5 Z ?_;refine gB (fun h9 => ?_) (fun h9 => ?_)
  ·
   simp only [HS] at h9;refine xK 2 Z (kZ [6,109,112] Z (xK 3 Z (nB (rT (bR (tR (eR ?_)))))))
   ·exact retB (by grind [Ah, CM])
  simp only [HS] at h9;refine xK 2 Z (kZ [6,109,111] Z (gY Z (evE ?_)));refine xK 3 Z (nB (rT (bR (tR (eR ?_)))))
  ·exact retB (by grind [Ah, CM])
 simp only [HS] at h7;refine AC (bN (tN (sQ (kY [6] Z (rG (eZ Z (nB (rT (eR ?_)))))))))
 ·exact retB (by grind [Ah, CM])
theorem Mz (f : Func) (s : Stmt) (ps : List Int) (hs : s.ok 1048576) (hn : 0 ≤ s.n) (hv : 0 ≤ f.vars ∧ f.vars ≤ 6) (hp : NO ps) : Fun Try.prog 71 [.t f.tt, .t s.tt, .t (T.ints ps)] (A2 [.t (.bool (BJ f.vars ps s))]) := by
 have hp1 := hp.1
 have hs1 : s.ex.length ≤ 1048576 := hs.1
 have hs2 : s.thn.length ≤ 1048576 := hs.2.1
 have hs3 : s.els.length ≤ 1048576 := hs.2.2.1
 refine Fun.begin tys Try.func71 Z Z (N := 97) [(0, .t f.tt), (1, .t s.tt), (2, .t (T.ints ps))] Z Z (fun w0 G F0 => ?_);refine sG (AV Z Z (AA Z) Z Z (nZ Z (AV Z Z (AA Z) Z Z (nZ Z (eZ Z (nB (sQ (sQ ?_))))))));refine A4 (α := Bool) [2, 3, 4, 6] [3, 4] (fun x => [(37, .t (.bool x))]) (fun x => []) (fun x => x = (!decide (1 ≤ s.kind ∧ s.kind ≤ 9) || ((decide (¬ s.kind = 7) && decide (0 < s.els.length)) || (decide (¬ s.kind = 7) && (decide (¬ s.kind = 8) && decide (0 < s.thn.length)))))) ?_ (fun bb hx => ?_)
 ·
  refine rG (eK 2 Z (AM ?_));refine ⟨_, Af _ _ _, rfl, ?_⟩;refine eK 2 Z ?_;refine gB (fun h1 => ?_) (fun h1 => ?_)
  ·
   simp only [HS] at h1;refine xZ Z (kZ [2,3,4,6,11,13] Z (xK 9 Z (kZ [2,3,4,6,22] Z (xK 9 Z (kZ [2,3,4,6,22,31] Z (xK 6 Z (oN (jQ _ ?_))))))))
   simp_all
   omega
  simp only [HS] at h1;refine xK 2 Z (kZ [2,3,4,6,11,13] Z (xK 2 Z ?_));refine gB (fun h2 => ?_) (fun h2 => ?_)
  ·
   simp only [HS] at h2;refine xK 7 Z (kZ [2,3,4,6,22,23] Z (xK 3 Z ?_));refine gB (fun h3 => ?_) (fun h3 => ?_)
   ·
    simp only [HS] at h3;refine xK 6 Z (kZ [2,3,4,6,22,31,33] Z (xK 4 Z (oN (jQ _ ?_))))
    simp_all
    done
   simp only [HS] at h3;refine xK 5 Z ?_;refine gB (fun h4 => ?_) (fun h4 => ?_)
   ·
    simp only [HS] at h4;refine xZ Z (kZ [2,3,4,6,22,31,33] Z (xK 4 Z (oN (jQ _ ?_))))
    simp_all
    done
   simp only [HS] at h4;refine xK 2 Z (kZ [2,3,4,6,22,31,33] Z (gY Z (evE ?_)));refine xK 3 Z (oN (jQ _ ?_))
   simp_all
   done
  simp only [HS] at h2;refine xK 2 Z (gY Z (evE ?_));refine xK 4 Z (kZ [2,3,4,6,22] Z ?_);refine gB (fun h3 => ?_) (fun h3 => ?_)
  ·
   simp only [HS] at h3;refine xK 9 Z (kZ [2,3,4,6,22,31,32] Z (xK 5 Z (oN (jQ _ ?_))))
   simp_all
   done
  simp only [HS] at h3;refine xK 4 Z ?_;refine gB (fun h4 => ?_) (fun h4 => ?_)
  ·
   simp only [HS] at h4;refine xK 5 Z (kZ [2,3,4,6,22,31,32] Z (xK 5 Z (oN (jQ _ ?_))))
   simp_all
   done
  simp only [HS] at h4;refine xK 5 Z (kZ [2,3,4,6,22,31] Z ?_);refine gB (fun h5 => ?_) (fun h5 => ?_)
  ·
   simp only [HS] at h5;refine xK 5 Z (oN (jQ _ ?_))
   simp_all
   done
  simp only [HS] at h5;refine xK 2 Z (gY Z (evE ?_));refine xK 3 Z (oN (jQ _ ?_))
  simp_all
  done
 have hbb := hx
 refine tN ?_;refine AB Z (fun h1 => ?_) (fun h1 => ?_)
 ·
  refine sQ (kY [2,3,4,6] Z (rG (eZ Z (nB (rT (tR (eR ?_)))))))
  ·have hh := BS f.vars ps s.ex
   refine retB ?_
   (have hq := hbb.symm.trans (by assumption : bb = true); clear hbb; simp only [Ti, Sl, TR, decide_eq_true_eq, decide_eq_false_iff_not] at hq; rcases hq with hq | hq | hq <;> (first | grind [BJ, Ah, CM, Ay]))
 refine AC (tN (sQ (sQ (kY [2,3,4,6] Z (rG (eK 2 Z (nB (AD (sG (eK 2 Z (nB ?_)))))))))));refine AB Z (fun h2 => ?_) (fun h2 => ?_)
 ·
  simp only [HS] at h2;refine sG (eK 2 Z (evE ?_));refine eK 2 Z (kZ [2,3,4,6,49] Z ?_);refine gB (fun h3 => ?_) (fun h3 => ?_)
  ·
   simp only [HS] at h3;refine xK 9 Z (kZ [2,3,4,6,49,53,59] Z (xK 9 Z (kZ [2,3,4,6,49,68] Z (eK 2 Z (nB (rT (bR (tR (eR ?_)))))))))
   ·have hh := BS f.vars ps s.ex
    refine retB ?_
    (have hq := hbb.symm.trans (by assumption : bb = false); clear hbb; simp only [TD, Tq, Bool.not_eq_false', decide_eq_true_eq, decide_eq_false_iff_not, Classical.not_not] at hq; obtain ⟨q1, q2, q3⟩ := hq; grind [BJ, Ah, CM, Ay])
  simp only [HS] at h3;refine xK 4 Z ?_;refine gB (fun h4 => ?_) (fun h4 => ?_)
  ·
   simp only [HS] at h4;refine xK 5 Z (kZ [2,3,4,6,49,53,59] Z (xK 9 Z (kZ [2,3,4,6,49,68] Z (eK 2 Z (nB (rT (bR (tR (eR ?_)))))))))
   ·have hh := BS f.vars ps s.ex
    refine retB ?_
    (have hq := hbb.symm.trans (by assumption : bb = false); clear hbb; simp only [TD, Tq, Bool.not_eq_false', decide_eq_true_eq, decide_eq_false_iff_not, Classical.not_not] at hq; obtain ⟨q1, q2, q3⟩ := hq; grind [BJ, Ah, CM, Ay])
  simp only [HS] at h4;refine xK 3 Z (gY Z (evE ?_));refine gY Z (evI ?_);refine kZ [2,3,4,6,49,53,55,58] Z (gY Z (AM ?_));refine ⟨_, Af _ _ _, rfl, ?_⟩;refine xZ Z ?_;refine gB (fun h5 => ?_) (fun h5 => ?_)
  ·
   simp only [HS] at h5;refine xK 7 Z (kZ [2,3,4,6,49,68] Z (eK 2 Z (nB (rT (bR (tR (eR ?_)))))))
   ·have hh := BS f.vars ps s.ex
    refine retB ?_
    (have hq := hbb.symm.trans (by assumption : bb = false); clear hbb; simp only [TD, Tq, Bool.not_eq_false', decide_eq_true_eq, decide_eq_false_iff_not, Classical.not_not] at hq; obtain ⟨q1, q2, q3⟩ := hq; grind [BJ, Ah, CM, Ay])
  simp only [HS] at h5;refine xK 3 Z (gY Z ?_);refine iY (k := ?_);refine xK 3 Z (kZ [2,3,4,6,49,53,67] Z (xK 3 Z (nB (rT (bR (tR (eR ?_)))))))
  ·have hh := BS f.vars ps s.ex
   refine retB ?_
   (have hq := hbb.symm.trans (by assumption : bb = false); clear hbb; simp only [TD, Tq, Bool.not_eq_false', decide_eq_true_eq, decide_eq_false_iff_not, Classical.not_not] at hq; obtain ⟨q1, q2, q3⟩ := hq; grind [BJ, Ah, CM, Ay])
 simp only [HS] at h2;refine sG (eK 2 Z (nB ?_));refine AB Z (fun h3 => ?_) (fun h3 => ?_)
 ·
  simp only [HS] at h3;refine sG (eK 2 Z (evE ?_));refine kZ [2,3,4,6,74] Z (eK 2 Z ?_);refine gB (fun h4 => ?_) (fun h4 => ?_)
  ·
   simp only [HS] at h4;refine xK 4 Z (nB (rT (bR (tR (eR ?_)))))
   ·have hh := BS f.vars ps s.ex
    refine retB ?_
    (have hq := hbb.symm.trans (by assumption : bb = false); clear hbb; simp only [TD, Tq, Bool.not_eq_false', decide_eq_true_eq, decide_eq_false_iff_not, Classical.not_not] at hq; obtain ⟨q1, q2, q3⟩ := hq; grind [BJ, Ah, CM, Ay])
  simp only [HS] at h4;refine xK 5 Z (nB (rT (bR (tR (eR ?_)))))
  ·have hh := BS f.vars ps s.ex
   refine retB ?_
   (have hq := hbb.symm.trans (by assumption : bb = false); clear hbb; simp only [TD, Tq, Bool.not_eq_false', decide_eq_true_eq, decide_eq_false_iff_not, Classical.not_not] at hq; obtain ⟨q1, q2, q3⟩ := hq; grind [BJ, Ah, CM, Ay])
 simp only [HS] at h3;refine sG (eK 2 Z (nB ?_));refine AB Z (fun h4 => ?_) (fun h4 => ?_)
 ·
  simp only [HS] at h4;refine sQ (kY [2,3,4,6] Z (rG (eK 4 Z (evI ?_))));refine AM ?_;refine ⟨_, Af _ _ _, rfl, ?_⟩;refine eZ Z (nB ?_);refine AB Z (fun h5 => ?_) (fun h5 => ?_)
  ·
   simp only [HS] at h5;refine sQ (kY [2,3,4,6] Z (rG (eZ Z (nB (rT (bR (tR (eR ?_))))))))
   ·have hh := BS f.vars ps s.ex
    refine retB ?_
    (have hq := hbb.symm.trans (by assumption : bb = false); clear hbb; simp only [TD, Tq, Bool.not_eq_false', decide_eq_true_eq, decide_eq_false_iff_not, Classical.not_not] at hq; obtain ⟨q1, q2, q3⟩ := hq; grind [BJ, Ah, CM, Ay])
  simp only [HS] at h5;refine AC (bN (tN (sQ (kY [2,3,4,6] Z (rG (eK 5 Z (AM ?_)))))));refine ⟨_, Ho _ _ _ (by omega) hp hs1, rfl, ?_⟩;refine eK 2 Z (nB (rT (eR ?_)))
  ·have hh := BS f.vars ps s.ex
   refine retB ?_
   (have hq := hbb.symm.trans (by assumption : bb = false); clear hbb; simp only [TD, Tq, Bool.not_eq_false', decide_eq_true_eq, decide_eq_false_iff_not, Classical.not_not] at hq; obtain ⟨q1, q2, q3⟩ := hq; grind [BJ, Ah, CM, Ay])
 simp only [HS] at h4;refine sQ (kY [2,3,4,6] Z (rG (eK 3 Z (nB ?_))));refine AB Z (fun h5 => ?_) (fun h5 => ?_)
 ·
  simp only [HS] at h5;refine sG (eZ Z (nB (rT (bR (tR (eR ?_))))))
  ·have hh := BS f.vars ps s.ex
   refine retB ?_
   (have hq := hbb.symm.trans (by assumption : bb = false); clear hbb; simp only [TD, Tq, Bool.not_eq_false', decide_eq_true_eq, decide_eq_false_iff_not, Classical.not_not] at hq; obtain ⟨q1, q2, q3⟩ := hq; grind [BJ, Ah, CM, Ay])
 simp only [HS] at h5;refine AC (bN (tN (sG (eK 5 Z (AM ?_)))));refine ⟨_, Ho _ _ _ (by omega) hp hs1, rfl, ?_⟩;refine kZ [6,95] Z (eK 2 Z (nB (rT (eR ?_))))
 ·have hh := BS f.vars ps s.ex
  refine retB ?_
  (have hq := hbb.symm.trans (by assumption : bb = false); clear hbb; simp only [TD, Tq, Bool.not_eq_false', decide_eq_true_eq, decide_eq_false_iff_not, Classical.not_not] at hq; obtain ⟨q1, q2, q3⟩ := hq; grind [BJ, Ah, CM, Ay])
theorem K6 (l : List Stmt) (p : Stmt → Bool) (f : Nat) (caps : List D) (hcaps : caps.all D.imm = true) (hl : l.length ≤ 9223372036854775807) (hf : ∀ x, x ∈ l → Fun Try.prog f (.t x.tt :: caps) (.t (.bool (p x)))) : Fun Try.prog 102 [.t (T.Stmts l), .clo f caps] (A2 [.t (.int (EI p l 0))]) := by
 refine Fun.begin tys Try.func102 Z Z (N := 19) [(0, .t (T.Stmts l)), (1, .clo f caps)] Z Z (fun w0 G F0 => ?_);refine sG (eZ Z (nB (sQ (sG (eZ Z (evE ?_))))));refine eZ Z (nB (AD ?_));refine lK (α := Int) [0, 1, 7] [] (fun x => [(8, .t (.int x))]) (fun x => []) (fun x => 0 ≤ x ∧ x ≤ l.length ∧ EI p l 0 = EI p (l.drop x.toNat) x) (fun x => Int.toNat (l.length - x)) 0 ?_ (fun k hx => ?_)
 ·exact ⟨by omega, by omega, rfl⟩
 obtain ⟨hk0, hk1, hk2⟩ := hx
 refine nY Z (sG (eZ Z (nB (sQ ?_))));refine AB Z (fun h1 => ?_) (fun h1 => ?_)
 ·
  simp only [HS] at h1;refine AC (tN (sQ (AD (sG (eK 2 Z (nA (Dy tys Z Z (AA Z) Z Z (by assumption) ?_)))))));refine eK 2 Z ?_;refine iY (k := ?_);refine eZ Z ?_
  try refine WO_le (Le.freeze (u := 15) rfl) ?_
  refine nZ Z ?_;refine CO Z Z (AA Z) Z Z (by repeat (first | exact ResL.done | exact ResL.imms (by first | rfl | assumption) | refine ResL.t ?_ | refine ResL.own ?_ | refine ResL.slA Z (by first | rfl | (simp; done) | (simp; omega)) ?_ | refine ResL.sl Z (by first | omega | (simp; done) | (simp; omega)) ?_ | refine ResL.rp ?_ | refine ResL.clo ?_ ?_ | refine ResL.aggT ?_ ?_ | refine ResL.ref Z ?_ ?_ | refine ResL.nil' ?_ | refine ResL.nil 1 ?_)) (hf _ (Ss _)) Z ?_;refine kZ [0,1,5,7,8,9,10,11,12,13,14,15,16] Z (nB ?_);refine AB Z (fun h2 => ?_) (fun h2 => ?_)
  ·
   refine sG (eK 2 Z (nB (rT (bR (tR (AP (bR (tR (eR ?_)))))))))
   ·rw [hk2, Hn hk0 h1]
    simp [h2]
    done
  refine AC (bN (tN (rG (evI ?_))));refine eZ Z (oN ?_);refine lQ _ ?_ ?_
  ·skip
   refine ⟨by omega, by omega, ?_⟩; rw [hk2, Hn hk0 h1]; simp [h2]
  ·(show Int.toNat _ < Int.toNat _); omega
 simp only [HS] at h1;refine AN (tE (AJ (AI (tN (sG (eZ Z (nB (rT (eR ?_)))))))))
 ·rw [hk2, BC h1]
  rfl
theorem K7 (l : List Stmt) (p : Stmt → Bool) (f : Nat) (caps : List D) (hcaps : caps.all D.imm = true) (hl : l.length ≤ 9223372036854775807) (hf : ∀ x, x ∈ l → Fun Try.prog f (.t x.tt :: caps) (.t (.bool (p x)))) : Fun Try.prog 69 [.t (T.Stmts l), .clo f caps] (A2 [.t (.bool (l.any p))]) := by
 refine Fun.begin tys Try.func69 Z Z (N := 9) [(0, .t (T.Stmts l)), (1, .clo f caps)] Z Z (fun w0 G F0 => ?_);refine sG (eZ Z (nA (eZ Z (Dy tys Z Z (AA Z) Z Z (by assumption) ?_))));refine CO Z Z (AA Z) Z Z (by repeat (first | exact ResL.done | exact ResL.imms (by first | rfl | assumption) | refine ResL.t ?_ | refine ResL.own ?_ | refine ResL.slA Z (by first | rfl | (simp; done) | (simp; omega)) ?_ | refine ResL.sl Z (by first | omega | (simp; done) | (simp; omega)) ?_ | refine ResL.rp ?_ | refine ResL.clo ?_ ?_ | refine ResL.aggT ?_ ?_ | refine ResL.ref Z ?_ ?_ | refine ResL.nil' ?_ | refine ResL.nil 1 ?_)) (K6 l p f caps hcaps hl hf) Z ?_;refine eK 2 Z (nB (rT (eR ?_)))
 ·rw [← Et (Tr 0)]
theorem Nj {vars : Int} {ps : List Int} {s : Stmt} (h : s.n < 0) : BJ vars ps s = false := by grind [BJ, Ah]
theorem K5 (s : Stmt) (f : Func) (ps : List Int) (hs : s.ok 1048576) (hv : 0 ≤ f.vars ∧ f.vars ≤ 6) (hp : NO ps) : Fun Try.prog 70 [.t s.tt, .rp f.tt 0, .rp (.agg [T.ints ps]) 0] (A2 [.t (.bool (!BJ f.vars ps s))]) := by
 refine Fun.begin tys Try.func70 Z Z (N := 15) [(0, .t s.tt), (1, .rp f.tt 0), (2, .rp (.agg [T.ints ps]) 0)] Z Z (fun w0 G F0 => ?_);refine sG (AV Z Z (AA Z) Z Z (nZ Z (eZ Z (nA (eK 4 Z ?_)))));refine gB (fun h1 => ?_) (fun h1 => ?_)
 ·
  simp only [HS] at h1;refine xK 3 Z (kZ [4,8,12] Z (xK 3 Z (nB (rT (eR ?_)))))
  ·exact retB (by rw [Nj (by assumption)]; rfl)
 simp only [HS] at h1;refine eZ Z ?_
 try refine WO_le (Le.freeze (u := 9) rfl) ?_
 refine nZ Z (xZ Z ?_)
 try refine WO_le (Le.freeze (u := 10) rfl) ?_
 refine nZ Z (xZ Z (kZ [4,8,9,10,11] Z (gY Z (AM ?_))));refine ⟨_, Mz f s ps hs (by omega) hv hp, rfl, ?_⟩;refine xK 3 Z (nB (rT (eR ?_)))
 ·rfl
theorem HO (n : Int) : Fun Try.prog 97 [.t (.int n)] (A2 [.t (.bool (!decide (0 ≤ n ∧ n ≤ 2)))]) := by
 refine Fun.begin tys Try.func97 Z Z (N := 6) [(0, .t (.int n))] Z Z (fun w0 G F0 => ?_);refine sG (eZ Z (nA (eZ Z (AM ?_))));refine ⟨_, Af _ _ _, rfl, ?_⟩;refine eK 2 Z (nB (rT (eR ?_)))
 ·rfl
theorem Ib (ps : List Int) (hp : ps.length ≤ 1048576) : Fun Try.prog 67 [.t (T.ints ps)] (A2 [.t (.bool (BN ps))]) := by
 refine Fun.begin tys Try.func67 Z Z (N := 11) [(0, .t (T.ints ps))] Z Z (fun w0 G F0 => ?_);refine sG (eZ Z (nA (eZ Z (evE ?_))));refine eK 2 Z ?_;refine gB (fun h1 => ?_) (fun h1 => ?_)
 ·
  simp only [HS] at h1;refine xK 4 Z (kZ [2] Z (nB (rT (eR ?_))))
  ·have e : (ps.any fun n => !decide (0 ≤ n ∧ n ≤ 2)) = !B7 ps 0 2 := (by rw [B7, List.not_all_eq_any_not])
   exact retB (by grind [BN])
 simp only [HS] at h1;refine eZ Z (gY Z (AM ?_));refine ⟨_, Fz ps (fun n => !decide (0 ≤ n ∧ n ≤ 2)) _ [] Z (by omega) (fun x _ => HO x), rfl, ?_⟩;refine xK 2 Z (kZ [2,10] Z (eZ Z (nB (rT (eR ?_)))))
 ·have e : (ps.any fun n => !decide (0 ≤ n ∧ n ≤ 2)) = !B7 ps 0 2 := (by rw [B7, List.not_all_eq_any_not])
  exact retB (by grind [BN])
def paramsL (p : Prog) : List Int := p.funcs.map (·.params)
def Bq (ps : List Int) (f : Func) : Bool := Ag f && f.stmts.all (BJ f.vars ps)
def D0 (ps : List Int) (f : Func) : Bool := Ag f && f.stmts.all (Ah f.vars ps)
def AS (p : Prog) : Bool := decide ((1 : Int) ≤ p.funcs.length ∧ (p.funcs.length : Int) ≤ 5) && (BN (paramsL p) && (decide (atI (paramsL p) 0 = 0) && p.funcs.all (Bq (paramsL p))))
theorem Kk {f : Func} (h : Ag f = true) : 0 ≤ f.vars ∧ f.vars ≤ 6 := by
 unfold Ag DZ at h;simp only [Sl, decide_eq_true_eq] at h;omega
theorem B5 {p : Prog} (hp : p.ok 1048576) {n : Nat} (h : n < p.funcs.length) : (p.funcs[n]).ok 1048576 := hp.1.2 _ (Ss h)
theorem BL (p : Prog) : (paramsL p).length = p.funcs.length := Sk ..
theorem Bj {p : Prog} {n : Int} (h0 : 0 ≤ n) (h1 : n < p.funcs.length) : atI (paramsL p) n = (p.funcs[n.toNat]'(by omega)).params := by
 rw [Ay h0 (by rw [BL]; omega)]; simp [paramsL]
theorem KF {vars : Int} {ps : List Int} {l : List Stmt} : (l.any fun s => !BJ vars ps s) = !l.all (BJ vars ps) := by rw [List.not_all_eq_any_not]
theorem getT2 {α β : Type} (f : β → T) (g : α → β) (l : List α) {i : Int} (h0 : 0 ≤ i) (h1 : i < l.length) : ((l.map g).map f)[i.toNat]? = some (f (g (l[i.toNat]'(by omega)))) := by
 rw [List.getElem?_map, List.getElem?_map, List.getElem?_eq_getElem (by omega)]; rfl
theorem F1 {p : Prog} {k : Int} (h0 : 0 ≤ k) (h1 : k < p.funcs.length) (h : Bq (paramsL p) (p.funcs[k.toNat]'(by omega)) = false) : p.funcs.all (Bq (paramsL p)) = false := Fk h0 h1 h
theorem DA (p : Prog) (hp : p.ok 1048576) : Fun Try.prog 39 [.t p.tt] (A2 [.t (.bool (AS p))]) := by
 have hl : p.funcs.length ≤ 1048576 := hp.1.1
 refine Fun.begin tys Try.func39 Z Z (N := 41) [(0, .t p.tt)] Z Z (fun w0 G F0 => ?_);refine sG (AV Z Z (AA Z) Z Z (nZ Z (eZ Z (nA (eZ Z ?_)))))
 try refine WO_le (Le.freeze (u := 6) rfl) ?_
 refine nZ Z (AM ?_);refine ⟨_, JW p hp, rfl, ?_⟩;refine WO_le (Le.freeze (u := 7) Z) (nZ Z (AF tys Z Z (AA Z) Z Z Z (nZ Z (sT Z (nZ Z (nB (sQ (sG (eK 2 Z (evE ?_))))))))));refine kZ [1,2,3,10] Z (AM ?_);refine ⟨_, Af _ _ _, rfl, ?_⟩;refine eK 2 Z ?_;refine gB (fun h1 => ?_) (fun h1 => ?_)
 ·
  simp only [HS] at h1;refine xK 6 Z (kZ [1,2,3,18,20] Z (xK 3 Z (nB (Ao Z (sG (eZ Z (nB (rT (tR (eR ?_))))))))))
  ·first
   | (refine retB ?_; rw [AS]; simp only [h1, decide_false, Bool.false_and]; done)
 simp only [HS] at h1;refine eZ Z (gY Z (AM ?_));refine ⟨_, Ib _ (by simp; omega), rfl, ?_⟩;refine xK 3 Z ?_;refine gB (fun h2 => ?_) (fun h2 => ?_)
 ·
  simp only [HS] at h2;refine xZ Z (kZ [1,2,3,18,20] Z (xK 3 Z (nB (Ao Z (sG (eZ Z (nB (rT (tR (eR ?_))))))))))
  ·first
   | (refine retB ?_; rw [AS, show BN (paramsL p) = false from h2]; simp; done)
 simp only [HS] at h2;refine eZ Z (gY Z (G5 tys Z Z (AA Z) Z Z Z Z Z Z Z (by omega) _ (getT2 _ _ _ (by omega) (by omega)) (kZ [1,2,3,18,20] Z (xK 3 Z (nB ?_)))));refine AB Z (fun h3 => ?_) (fun h3 => ?_)
 ·
  simp only [HS] at h3;refine sG (eZ Z (nB (rT (tR (eR ?_)))))
  ·first
   | (refine retB ?_; have h3' : ¬ (p.funcs[(0 : Int).toNat]'(by simp; omega)).params = 0 := h3; rw [AS, Bj (by omega) (by omega)]; simp only [h3', decide_false, Bool.false_and, Bool.and_false]; done)
 simp only [HS] at h3;refine AC (tN (sQ (sG (eK 2 Z (evE ?_)))));refine eZ Z (nB (AD ?_));refine lK (α := Int) [1, 3, 25, 26] [1, 3] (fun x => [(27, .t (.int x))]) (fun x => []) (fun x => 0 ≤ x ∧ x ≤ p.funcs.length ∧ (p.funcs.take x.toNat).all (Bq (paramsL p)) = true ∧ NO (paramsL p) ∧ AS p = p.funcs.all (Bq (paramsL p))) (fun x => Int.toNat (p.funcs.length - x)) 0 ?_ (fun k hx => ?_)
 ·have hp2 : BN (paramsL p) = true := by assumption
  have h0' : (p.funcs[(0 : Int).toNat]'(by simp; omega)).params = 0 := by assumption
  refine ⟨by omega, by omega, by simp, FK hp2, ?_⟩;rw [AS, hp2, Bj (by omega) (by omega), h0']
  simp; intros; omega
 obtain ⟨hk0, hk1, hall, hps, hgp⟩ := hx
 refine nY Z (sG (eZ Z (nB (sQ ?_))));refine AB Z (fun h4 => ?_) (fun h4 => ?_)
 ·
  simp only [HS] at h4;refine AC (tN (sQ (AD (sG ?_))));refine iY (k := ?_);refine eZ Z ?_
  try refine WO_le (Le.freeze (u := 30) rfl) ?_
  refine nZ Z (AF tys Z Z (AA Z) Z Z Z (nZ Z (sT Z (nZ Z (nA (eZ Z ?_))))))
  try refine WO_le (Le.freeze (u := 31) rfl) ?_
  refine nZ Z (AM ?_);refine ⟨_, Jq _ (B5 hp _), rfl, ?_⟩;refine eK 2 Z (kZ [1,3,5,25,26,27,28,29,30,31,32,33,34] Z ?_);refine gB (fun h5 => ?_) (fun h5 => ?_)
  ·
   simp only [HS] at h5;refine xK 4 Z (nB (Ao Z (sG (eZ Z (nB (rT (bR (tR (AP (bR (tR (eR ?_))))))))))))
   ·first
    | (refine retB ?_; rw [hgp, F1 hk0 h4 (by unfold Bq; rw [h5]; rfl)]; done)
  simp only [HS] at h5;refine xK 3 Z (gY Z (AM ?_));refine ⟨_, K7 _ (fun s => !BJ (p.funcs[k.toNat]'(by omega)).vars (paramsL p) s) _ [.rp (p.funcs[k.toNat]'(by omega)).tt 0, .rp (.agg [T.ints (paramsL p)]) 0] Z (by have := (B5 hp (n := k.toNat) (by omega)).2.1.1; omega) (fun s hs => K5 s _ _ ((B5 hp (n := k.toNat) (by omega)).2.1.2 s hs) (Kk (by assumption)) hps), rfl, ?_⟩;refine eZ Z (nB ?_);refine AB Z (fun h6 => ?_) (fun h6 => ?_)
  ·
   refine sG (eZ Z (nB (rT (bR (tR (AP (bR (tR (eR ?_)))))))))
   ·first
    | (refine retB ?_; rw [hgp, F1 hk0 h4 (by rw [KF] at h6; unfold Bq; rw [h5]; simpa using h6)]; done)
  refine AC (bN (tN (rG (evI ?_))));refine eZ Z (oN ?_);refine lQ _ ?_ ?_
  ·skip
   refine ⟨by omega, by omega, DE hk0 (by omega) hall ?_, hps, hgp⟩;unfold Bq;rw [KF] at *
   simp_all
  ·(show Int.toNat _ < Int.toNat _); omega
 simp only [HS] at h4;refine AN (tE (AJ (AI (tN (sG (eZ Z (nB (rT (eR ?_)))))))))
 ·first
  | (refine retB ?_; rw [hgp, E2 (by omega) hall]; done)
theorem sitesF_mem : ∀ {l : List Stmt} {k x : Int}, x ∈ Ad l k ↔ ∃ j : Nat, ∃ h : j < l.length, x = k + j ∧ (l[j]).kind = 3
 | [], k, x => by simp [Ad]
 | s :: l, k, x => by
  have ih := sitesF_mem (l := l) (k := k + 1) (x := x)
  have e : (∃ j : Nat, ∃ h : j < (s :: l).length, x = k + j ∧ ((s :: l)[j]).kind = 3) ↔ (x = k ∧ s.kind = 3) ∨ ∃ j : Nat, ∃ h : j < l.length, x = k + 1 + j ∧ (l[j]).kind = 3 := by
   constructor
   ·rintro ⟨j, hj, h1, h2⟩
    cases j with
    | zero => exact .inl ⟨by simpa using h1, by simpa using h2⟩
    | succ j => exact .inr ⟨j, by simpa using hj, by rw [h1]; omega, by simpa using h2⟩
   ·rintro (⟨h1, h2⟩ | ⟨j, hj, h1, h2⟩)
    ·exact ⟨0, by simp, by simpa using h1, by simpa using h2⟩
    ·exact ⟨j + 1, by simpa using hj, by rw [h1]; omega, by simpa using h2⟩
  rw [e, Ad];split
  ·rename_i h; rw [Sw, ih]; simp [h]
  ·rename_i h; rw [ih]; simp [h]
theorem HY : ∀ (l : List Stmt) (k : Int), (Ad l k).length ≤ l.length
 | [], k => by simp [Ad]
 | s :: l, k => by
  have := HY l (k + 1)
  rw [Ad]
  split <;> simp only [Sp] <;> omega
theorem P7 {f : Func} (h : DR f.stmts f.body = false) : Bt f.stmts f.body = false := by
 rw [Bool.eq_false_iff]; intro hs;rw [(shape_blocks.1 hs).1] at h; cases h
theorem P3 {f : Func} {ps : List Int} {m : Int} (h0 : 0 ≤ m) (h1 : m < f.stmts.length) (h : Ah f.vars ps (f.stmts[m.toNat]'(by omega)) = false) : f.stmts.all (Ah f.vars ps) = false := Fk h0 h1 h
theorem Mt (f : Func) (ps : List Int) (hf : f.ok 1048576) (hp : NO ps) (hpb : BN ps = true) : Fun Try.prog 80 [.t f.tt, .t (T.ints ps)] (A2 [.t (.bool (D0 ps f))]) := by
  have hl : f.stmts.length ≤ 1048576 := hf.2.1.1
  have hbl : f.body.length ≤ 1048576 := hf.1
  refine Fun.begin tys Try.func80 Z Z (N := 87) [(0, .t f.tt), (1, .t (T.ints ps))] Z Z (fun w0 G F0 => ?_);refine sG (AV Z Z (AA Z) Z Z (nZ Z (eZ Z (nB (sQ (sG (eK 2 Z (AM ?_))))))));refine ⟨_, BB _ _ _, rfl, ?_⟩;refine eK 2 Z ?_;refine gB (fun h1 => ?_) (fun h1 => ?_)
  ·
    simp only [HS] at h1;refine xK 2 Z (kZ [1,2,4,15,17,18] Z (xK 9 Z (kZ [1,2,4,23,27] Z (xK 9 Z (kZ [1,2,4,34,36] Z (xK 3 Z (nB (Ao Z (sG (eZ Z (nB (rT (tR (eR ?_))))))))))))))
    · first
      | (refine retB ?_; rw [D0, Ag, DZ]; simp only [h1, decide_false, Bool.false_and]; done)
  simp only [HS] at h1;refine xK 2 Z (kZ [1,2,4,15,17] Z (xK 2 Z (gY Z (AM ?_))));refine ⟨_, BB _ _ _, rfl, ?_⟩;refine xK 3 Z ?_;refine gB (fun h2 => ?_) (fun h2 => ?_)
  ·
    simp only [HS] at h2;refine xK 3 Z (kZ [1,2,4,23,27] Z (xK 9 Z (kZ [1,2,4,34,36] Z (xK 3 Z (nB (Ao Z (sG (eZ Z (nB (rT (tR (eR ?_))))))))))))
    · first
      | (refine retB ?_; rw [D0, Ag, DZ]; simp only [h2, decide_false, Bool.false_and, Bool.and_false]; done)
  simp only [HS] at h2;refine xK 2 Z (gY Z (evE ?_));refine kZ [1,2,4,23,26] Z (xK 3 Z ?_);refine gB (fun h3 => ?_) (fun h3 => ?_)
  ·
    simp only [HS] at h3;refine xK 6 Z (kZ [1,2,4,34,36] Z (xK 3 Z (nB (Ao Z (sG (eZ Z (nB (rT (tR (eR ?_))))))))))
    · first
      | (refine retB ?_; rw [D0, Ag, DZ]; simp only [Int.not_le.2 h3, decide_false, Bool.false_and, Bool.and_false]; done)
  simp only [HS] at h3;refine eZ Z ?_
  try refine WO_le (Le.freeze (u := 30) rfl) ?_
  refine nZ Z (gY Z (AM ?_));refine ⟨_, Jn f hf (by omega), rfl, ?_⟩;refine xK 3 Z ?_;refine gB (fun h4 => ?_) (fun h4 => ?_)
  ·
    simp only [HS] at h4;refine xZ Z (kZ [1,2,4,34,36] Z (xK 3 Z (nB (Ao Z (sG (eZ Z (nB (rT (tR (eR ?_))))))))))
    · first
      | (refine retB ?_; rw [D0, Ag, P7 h4]; simp; done)
  simp only [HS] at h4;refine eZ Z ?_
  try refine WO_le (Le.freeze (u := 35) rfl) ?_
  refine nZ Z (gY Z (AM ?_));refine ⟨_, Gi f hf, rfl, ?_⟩;refine WO_le (Le.adoptE (u := 36) 36 Z (by first | exact Iq | exact Z)) ?_;refine nZ Z (kZ [1,2,4,34,36] Z (gY Z (evE ?_)));refine xK 2 Z (nB ?_);refine AB Z (fun h5 => ?_) (fun h5 => ?_)
  ·
    simp only [HS] at h5;refine sG (eZ Z (nB (rT (tR (eR ?_)))))
    · first
      | (refine retB ?_; rw [D0, Ag, H3]; simp only [Int.not_le.2 h5, decide_false, Bool.false_and, Bool.and_false]; done)
  simp only [HS] at h5;refine AC (tN (sQ (sG ?_)))
  have hbk := blocksB_iff.1 h4
  have hd := hbk.2.2.1
  have hb := hbk.1
  have hol : (BK f f.body).length = f.stmts.length := NB h4
  refine eZ Z ?_
  try refine WO_le (Le.freeze (u := 40) rfl) ?_
  refine nZ Z (eK 2 Z (AM ?_));refine ⟨_, Fe f hf hd hb hbl (by omega), rfl, ?_⟩;refine WO_le (Le.adoptE (u := 43) 43 Z (by first | exact Iq | exact Z)) ?_;refine nZ Z (evE ?_);refine eZ Z (kZ [1,2,4,43,44,45] Z (nB (AD ?_)));refine lK (α := Int) [1, 2, 43, 44] [2, 43] (fun x => [(45, .t (.int x))]) (fun x => []) (fun x => 0 ≤ x ∧ x ≤ (BK f f.body).length ∧ ∀ (q : Nat) (h : q < (BK f f.body).length), q < x → (BK f f.body)[q] = (q : Int)) (fun x => Int.toNat ((BK f f.body).length - x)) 0 ?_ (fun j hx => ?_)
  · exact ⟨by omega, by omega, fun q h h' => by omega⟩
  obtain ⟨hj0, hj1, hj⟩ := hx
  refine nY Z (sG (eZ Z (nB (sQ ?_))));refine AB Z (fun h6 => ?_) (fun h6 => ?_)
  ·
    simp only [HS] at h6;refine AC (tN (sQ (AD (sG (eZ Z (Ae tys Z Z (AA Z) Z Z Z Z Z Z Z Z (by omega) (by omega) (Al tys Z Z (AA Z) Z Z Z Z (D1 _ _ (by omega) (by omega)) Z (eK 2 Z (nA (eK 3 Z (kZ [1,2,5,6,43,44,45,46,47,48,49,50,51,52] Z (nB ?_))))))))))));refine AB Z (fun h7 => ?_) (fun h7 => ?_)
    ·
      simp only [HS] at h7;refine sG (eZ Z (nB (rT (bR (tR (AP (bR (tR (eR ?_)))))))))
      · first
        | (refine retB ?_; rw [D0, Ag, RT hj0 h6 (fun e => h7 e.symm)]; simp; done)
    simp only [HS] at h7;refine AC (bN (tN (rG (evI ?_))));refine eZ Z (oN ?_);refine lQ _ ?_ ?_
    · skip
      refine ⟨by omega, by omega, fun q h h' => ?_⟩
      by_cases hq : (q : Int) < j
      · exact hj q h hq
      · obtain rfl : q = j.toNat := by omega
        omega
    · (show Int.toNat _ < Int.toNat _); omega
  simp only [HS] at h6;refine AN (tE (AJ (AI (tN (sQ (sG (eK 2 Z (evE ?_))))))));refine eZ Z (nB (AD ?_));refine lK (α := Int) [1, 2, 55, 56] [2] (fun x => [(57, .t (.int x))]) (fun x => []) (fun x => 0 ≤ x ∧ x ≤ f.stmts.length ∧ Bt f.stmts f.body = true ∧ (f.stmts.take x.toNat).all (CJ f) = true ∧ (f.stmts.take x.toNat).all (Ah f.vars ps) = true) (fun x => Int.toNat (f.stmts.length - x)) 0 ?_ (fun m hx => ?_)
  · exact ⟨by omega, by omega, shape_blocks.2 ⟨h4, fun q h => hj q h (by unfold BK at h6; omega)⟩, by simp, by simp⟩
  obtain ⟨hm0, hm1, hsh, hmw, hms⟩ := hx
  refine nY Z (sG (eZ Z (nB (sQ ?_))));refine AB Z (fun h7 => ?_) (fun h7 => ?_)
  ·
    simp only [HS] at h7;refine AC (tN (sQ (AD (sG ?_))));refine iY (k := ?_);refine eZ Z ?_
    try refine WO_le (Le.freeze (u := 60) rfl) ?_
    refine nZ Z (AF tys Z Z (AA Z) Z Z Z (nZ Z (sT Z (nZ Z (nB (sQ (sG (eZ Z ?_))))))))
    try refine WO_le (Le.freeze (u := 61) rfl) ?_
    refine nZ Z (eZ Z ?_)
    try refine WO_le (Le.freeze (u := 62) rfl) ?_
    refine nZ Z (eZ Z (AM ?_));refine ⟨_, Mr f _ ps (hf.2.1.2 _ (Ss _)) (by omega) hp hpb, rfl, ?_⟩;refine kZ [1,2,8,55,56,57,58,59,60,61,62,63,64] Z (eZ Z (nB ?_));refine AB Z (fun h8 => ?_) (fun h8 => ?_)
    ·
      simp only [HS] at h8;refine sG (eZ Z (nB (rT (tR (bR (tR (AP (bR (tR (eR ?_))))))))))
      · first
        | (refine retB ?_; rw [D0, P3 hm0 h7 h8]; simp; done)
    simp only [HS] at h8;refine AC (tN (sQ (sG (eK 3 Z (nB ?_)))));refine AB Z (fun h9 => ?_) (fun h9 => ?_)
    ·
      simp only [HS] at h9;refine AN (tE (AI (tN (rG (evI ?_)))));refine eZ Z (oN ?_);refine lQ _ ?_ ?_
      · skip
        refine ⟨by omega, by omega, hsh, DE hm0 (by omega) hmw ?_, DE hm0 (by omega) hms (by assumption)⟩
        first
        | (unfold CJ; rw [if_neg (by omega)]; done)
      · (show Int.toNat _ < Int.toNat _); omega
    simp only [HS] at h9;refine AC (tN (sG ?_))
    have hmt : m.toNat < f.stmts.length := by omega
    have hbt : inB f.stmts.length 0 (f.stmts[m.toNat]'hmt).thn := by
      have := (hd m (by omega) (by omega)).1
      rw [kids_at hmt] at this;exact Ba this (by omega)
    have hut := Di f.stmts hmt
    have hul := LP f.stmts m.toNat
    have hsu := HZ hsh
    have hot : (BK f (f.stmts[m.toNat]'hmt).thn).length ≤ 1048576 := FM hd hbt (by omega) (by omega)
    refine eZ Z ?_
    try refine WO_le (Le.freeze (u := 69) rfl) ?_
    refine nZ Z (eK 2 Z (AM ?_));refine ⟨_, Fe f hf hd hbt (Bw hf hmt).1 hot, rfl, ?_⟩;refine WO_le (Le.adoptE (u := 72) 72 Z (by first | exact Iq | exact Z)) ?_;refine nZ Z (evE ?_);refine kZ [1,2,8,55,56,57,58,59,60,61,62,63,64,65,66,67,68,69,70,71,72,73] Z (eZ Z (nB (AD ?_)));refine lK (α := Int) [1, 2, 55, 56, 57, 72, 73] [2, 72] (fun x => [(74, .t (.int x))]) (fun x => []) (fun x => 0 ≤ x ∧ x ≤ (BK f (f.stmts[m.toNat]'(by omega)).thn).length ∧ ((BK f (f.stmts[m.toNat]'(by omega)).thn).take x.toNat).all (fun n => decide (¬ Fi f n = 3)) = true) (fun x => Int.toNat ((BK f (f.stmts[m.toNat]'(by omega)).thn).length - x)) 0 ?_ (fun r hx => ?_)
    · exact ⟨by omega, by omega, by simp⟩
    obtain ⟨hr0, hr1, hrw⟩ := hx
    refine nY Z (sG (eZ Z (nB (sQ ?_))));refine AB Z (fun h10 => ?_) (fun h10 => ?_)
    ·
      simp only [HS] at h10;refine AC (tN (sQ (AD (sG (Ae tys Z Z (AA Z) Z Z Z Z Z Z Z Z (by omega) (by omega) (Al tys Z Z (AA Z) Z Z Z Z (D1 _ _ (by omega) (by omega)) Z ?_))))))
      have hn := Ei hd hbt _ (Ss (l := BK f (f.stmts[m.toNat]'(by omega)).thn) (n := r.toNat) (by omega))
      refine eZ Z (nA (eK 3 Z ?_));refine iY (k := ?_);refine eZ Z (kZ [1,2,10,55,56,57,72,73,74,75,76,77,78,79,80,81,82] Z (eK 2 Z (nB ?_)));refine AB Z (fun h11 => ?_) (fun h11 => ?_)
      ·
        simp only [HS] at h11;refine sG (eZ Z (nB (rT (bR (tR (AP (bR (bR (tR (AP (bR (tR (eR ?_)))))))))))))
        · first
          | (have e : Kv f (f.stmts[m.toNat]'(by omega)).thn = false := (by unfold Kv; exact Fk hr0 (by omega) (by rw [Es (by omega)]; simp; omega))
             refine retB ?_; rw [D0, Ag, LO hm0 (by omega) (by omega) e]; simp; done)
      simp only [HS] at h11;refine AC (bN (tN (rG (evI ?_))));refine eZ Z (oN ?_);refine lQ _ ?_ ?_
      · skip
        exact ⟨by omega, by omega, DE hr0 (by omega) hrw (by rw [Es (by omega)]; simp; assumption)⟩
      · (show Int.toNat _ < Int.toNat _); omega
    simp only [HS] at h10;refine AN (tE (AJ (AI (bN (tN (rG (evI ?_)))))));refine eZ Z (oN ?_);refine lQ _ ?_ ?_
    · skip
      refine ⟨by omega, by omega, hsh, DE hm0 (by omega) hmw ?_, DE hm0 (by omega) hms (by assumption)⟩
      first
      | (unfold CJ; rw [if_pos (by omega)]; exact E2 (by omega) hrw)
    · (show Int.toNat _ < Int.toNat _); omega
  simp only [HS] at h7;refine AN (tE (AJ (AI (tN (sG (eZ Z (nB (rT (eR ?_)))))))))
  · first
    | (refine retB ?_
       rw [D0, Ag, hsh, FV, E2 (by omega) hmw, E2 (by omega) hms, DZ, H3];simp only [h1, h2, h3, h5, and_self, decide_true, Bool.and_self]
       done)
open Go.Eng
theorem Nf {vars : Int} {ps : List Int} {s : Stmt} (h : Ah vars ps s = true) (hk : s.kind = 3) : 0 ≤ s.n ∧ s.n < ps.length := by
 unfold Ah at h
 simp [hk] at h
 omega
theorem L7 {ps : List Int} {f : Func} (h : D0 ps f = true) : Ag f = true ∧ ∀ (m : Nat) (hm : m < f.stmts.length), Ah f.vars ps (f.stmts[m]) = true := by
 unfold D0 at h;rw [Sl, Sv] at h;exact ⟨h.1, fun m hm => h.2 _ (Ss hm)⟩
theorem SF {ps : List Int} {f : Func} (h : Bq ps f = true) : D0 ps f = true := by
 unfold Bq D0 at *;rw [Sl, Sv] at *;exact ⟨h.1, fun s hs => by have := h.2 s hs; unfold BJ at this; rw [Sl] at this; exact this.1⟩
theorem Rs {f : Func} {ps : List Int} {q : Int} (hw : D0 ps f = true) (h0 : 0 ≤ q) (h1 : q < (Ad f.stmts 0).length) :
  0 ≤ (Ad f.stmts 0)[q.toNat]'(by omega) ∧ ∃ h : ((Ad f.stmts 0)[q.toNat]'(by omega)).toNat < f.stmts.length, (f.stmts[((Ad f.stmts 0)[q.toNat]'(by omega)).toNat]'h).kind = 3 ∧ 0 ≤ (f.stmts[((Ad f.stmts 0)[q.toNat]'(by omega)).toNat]'h).n ∧ (f.stmts[((Ad f.stmts 0)[q.toNat]'(by omega)).toNat]'h).n < ps.length := by
 obtain ⟨j, hj, he, hk⟩ := sitesF_mem.1 (Ss (l := Ad f.stmts 0) (n := q.toNat) (by omega))
 have hx : (((Ad f.stmts 0)[q.toNat]'(by omega))).toNat = j := by omega
 refine ⟨by omega, by omega, ?_⟩
 have h2 := (L7 hw).2 _ hj
 have h3 := Nf h2 hk
 simp only [hx];exact ⟨hk, h3⟩
theorem Qr {ps : List Int} {f : Func} (hw : D0 ps f = true) (h : ∀ (q : Nat) (hq : q < (Ad f.stmts 0).length) (hm : ((Ad f.stmts 0)[q]).toNat < f.stmts.length), atI ps (f.stmts[((Ad f.stmts 0)[q]).toNat]).n = 0) : Bq ps f = true := by
 have hw' := L7 hw
 unfold Bq;rw [Sl, Sv];refine ⟨hw'.1, fun s hs => ?_⟩
 obtain ⟨m, hm, rfl⟩ := TH hs
 unfold BJ;rw [Sl];refine ⟨hw'.2 m hm, ?_⟩;split
 ·rename_i hk
  obtain ⟨q, hq, he⟩ := TH (sitesF_mem.2 ⟨m, hm, rfl, hk⟩ : (0 : Int) + m ∈ Ad f.stmts 0)
  have := h q hq (by rw [he]; omega)
  simp only [he, show ((0 : Int) + m).toNat = m from by omega] at this;rw [this]; rfl
 ·rfl
theorem Ok {ps : List Int} {f : Func} {n : Nat} (hn : n < f.stmts.length) (hk : (f.stmts[n]).kind = 3) (h : ¬ atI ps (f.stmts[n]).n = 0) : Bq ps f = false := by
 rw [Bool.eq_false_iff];intro hg;unfold Bq at hg;rw [Sl, Sv] at hg
 have := hg.2 _ (Ss hn)
 unfold BJ at this;rw [if_pos hk, Sl] at this;exact h (by simpa using this.2)
theorem Co (p : Prog) (hp : p.ok 1048576) : Fun Try.prog 45 [.t p.tt] (A2 [.t (.bool (AS p))]) := by
 have hl : p.funcs.length ≤ 1048576 := hp.1.1
 refine Fun.begin tys Try.func45 Z Z (N := 59) [(0, .t p.tt)] Z Z (fun w0 G F0 => ?_);refine sG (AV Z Z (AA Z) Z Z (nZ Z (eZ Z (nB (sQ (sG (eK 2 Z (evE ?_))))))));refine AM ?_;refine ⟨_, BB _ _ _, rfl, ?_⟩;refine eK 2 Z ?_;refine gB (fun h1 => ?_) (fun h1 => ?_)
 ·
  simp only [HS] at h1;refine xZ Z (kZ [1,2,12,14] Z (xK 9 Z (kZ [1,2,18,23] Z (xK 2 Z (nB (Ao Z (sG (eZ Z (nB (rT (tR (eR ?_))))))))))))
  ·first
   | (refine retB ?_; rw [AS]; simp only [h1, decide_false, Bool.false_and]; done)
 simp only [HS] at h1;refine eZ Z ?_
 try refine WO_le (Le.freeze (u := 13) rfl) ?_
 refine nZ Z (gY Z (AM ?_));refine ⟨_, Fd p hp, rfl, ?_⟩;refine WO_le (Le.adoptE (u := 14) 14 Z (by first | exact Iq | exact Z)) ?_;refine nZ Z (kZ [1,2,12,14] Z (gY Z (AM ?_)));refine ⟨_, Ff _ (by simp; omega), rfl, ?_⟩;refine xK 3 Z ?_;refine gB (fun h2 => ?_) (fun h2 => ?_)
 ·
  simp only [HS] at h2;refine xK 5 Z (kZ [1,2,18,24] Z (eZ Z (nB (Ao Z (sG (eZ Z (nB (rT (tR (eR ?_))))))))))
  ·first
   | (refine retB ?_; rw [AS, show BN (paramsL p) = false from h2]; simp; done)
 simp only [HS] at h2;refine xK 2 Z (gY Z ?_);refine iY (k := ?_);refine xK 2 Z (kZ [1,2,18,23] Z (xK 2 Z (nB ?_)));refine AB Z (fun h3 => ?_) (fun h3 => ?_)
 ·
  simp only [HS] at h3;refine sG (eZ Z (nB (rT (tR (eR ?_)))))
  ·first
   | (refine retB ?_; have h3' : ¬ (p.funcs[(0 : Int).toNat]'(by simp; omega)).params = 0 := h3; rw [AS, Bj (by omega) (by omega)]; simp only [h3', decide_false, Bool.false_and, Bool.and_false]; done)
 simp only [HS] at h3;refine AC (tN (sQ (sG (eK 2 Z (evE ?_)))));refine eZ Z (nB (AD ?_));refine lK (α := Int) [1, 27, 28] [1] (fun x => [(29, .t (.int x))]) (fun x => []) (fun x => 0 ≤ x ∧ x ≤ p.funcs.length ∧ (p.funcs.take x.toNat).all (Bq (paramsL p)) = true ∧ NO (paramsL p) ∧ BN (paramsL p) = true ∧ AS p = p.funcs.all (Bq (paramsL p))) (fun x => Int.toNat (p.funcs.length - x)) 0 ?_ (fun k hx => ?_)
 ·have hp2 : BN (paramsL p) = true := by assumption
  have h0' : (p.funcs[(0 : Int).toNat]'(by simp; omega)).params = 0 := by assumption
  refine ⟨by omega, by omega, by simp, FK hp2, hp2, ?_⟩;rw [AS, hp2, Bj (by omega) (by omega), h0']
  simp; intros; omega
 obtain ⟨hk0, hk1, hall, hps, hpb, hgp⟩ := hx
 refine nY Z (sG (eZ Z (nB (sQ ?_))));refine AB Z (fun h4 => ?_) (fun h4 => ?_)
 ·
  simp only [HS] at h4;refine AC (tN (sQ (AD (sG ?_))));refine iY (k := ?_);refine eZ Z ?_
  try refine WO_le (Le.freeze (u := 32) rfl) ?_
  refine nZ Z (AF tys Z Z (AA Z) Z Z Z (nZ Z (sT Z (nZ Z (nB (sQ (sQ (Aj BE (by kernel_rfl) (evQ ?_)))))))));refine AR Z (evQ ?_);refine E0 ?_;refine ⟨_, Fd p hp, rfl, ?_⟩;refine E0 ?_;refine ⟨_, Mt _ _ (B5 hp _) hps hpb, rfl, ?_⟩;refine evQ ?_;refine A7 (tN ?_);refine AB Z (fun h5 => ?_) (fun h5 => ?_)
  ·
   simp only [HS] at h5;refine sG (eZ Z (nB (rT (tR (bR (tR (AP (bR (tR (eR ?_))))))))))
   ·first
    | (refine retB ?_; rw [hgp, F1 hk0 h4 (Bool.eq_false_iff.2 fun h => Bool.eq_false_iff.1 h5 (SF h))]; done)
  simp only [HS] at h5;refine AC (tN (sG (eZ Z ?_)))
  try refine WO_le (Le.freeze (u := 38) rfl) ?_
  refine nZ Z (AM ?_);refine ⟨_, Gi _ (B5 hp _), rfl, ?_⟩;refine WO_le (Le.adoptE (u := 39) 39 Z (by first | exact Iq | exact Z)) ?_;refine nZ Z (evE ?_);refine eZ Z (nB (AD ?_));refine lK (α := Int) [1, 4, 27, 28, 29, 39, 40] [1, 4, 39] (fun x => [(41, .t (.int x))]) (fun x => []) (fun x => 0 ≤ x ∧ x ≤ (Ad (p.funcs[k.toNat]'(by omega)).stmts 0).length ∧ ∀ (i : Nat) (hi : i < (Ad (p.funcs[k.toNat]'(by omega)).stmts 0).length), (i : Int) < x → ∀ (hm : ((Ad (p.funcs[k.toNat]'(by omega)).stmts 0)[i]).toNat < (p.funcs[k.toNat]'(by omega)).stmts.length), atI (paramsL p) ((p.funcs[k.toNat]'(by omega)).stmts[((Ad (p.funcs[k.toNat]'(by omega)).stmts 0)[i]).toNat]).n = 0) (fun x => Int.toNat ((Ad (p.funcs[k.toNat]'(by omega)).stmts 0).length - x)) 0 ?_ (fun q hx => ?_)
  ·exact ⟨by omega, by omega, fun i hi h => by omega⟩
  obtain ⟨hq0, hq1, hqz⟩ := hx
  refine nY Z (sG (eZ Z (nB (sQ ?_))));refine AB Z (fun h6 => ?_) (fun h6 => ?_)
  ·
   simp only [HS] at h6;refine AC (tN (sQ (AD (sG (Ae tys Z Z (AA Z) Z Z Z Z Z Z Z Z (by omega) (by omega) (Al tys Z Z (AA Z) Z Z Z Z (D1 _ _ (by omega) (by omega)) Z ?_))))))
   obtain ⟨hs0, hs1, hsk, hsn0, hsn1⟩ := Rs (ps := paramsL p) h5 hq0 h6
   rw [BL] at hsn1
   have hsl := HY (p.funcs[k.toNat]'(by omega)).stmts 0
   have hfl := (B5 hp (n := k.toNat) (by omega)).2.1.1
   refine eZ Z (nB (sQ (Aj BE (by kernel_rfl) (evQ ?_))));refine evQ ?_;refine AR Z (evQ ?_);refine evQ ?_;refine evQ ?_;refine A9 tys Z Z (AA Z) Z Z Z Z Z Z Z (by omega) _ (EK _ _ (by omega) (by omega)) (evQ ?_);refine evQ ?_;refine AR Z (A9 tys Z Z (AA Z) Z Z Z Z Z Z Z (by omega) _ (EK _ _ (by omega) (by omega)) (evQ ?_));refine evQ ?_;refine evQ ?_;refine A7 (tN ?_);refine AB Z (fun h7 => ?_) (fun h7 => ?_)
   ·
    simp only [HS] at h7;refine sG (eZ Z (nB (rT (bR (tR (AP (bR (bR (tR (AP (bR (tR (eR ?_)))))))))))))
    ·first
     | (refine retB ?_; rw [hgp, F1 hk0 h4 (Ok hs1 hsk (by rw [Bj hsn0 hsn1]; assumption))]; done)
   simp only [HS] at h7;refine AC (bN (tN (rG (evI ?_))));refine eZ Z (oN ?_);refine lQ _ ?_ ?_
   ·skip
    refine ⟨by omega, by omega, fun i hi h hm => ?_⟩
    by_cases hiq : (i : Int) < q
    ·exact hqz i hi hiq hm
    ·obtain rfl : i = q.toNat := by omega
     rw [Bj hsn0 hsn1]; assumption
   ·(show Int.toNat _ < Int.toNat _); omega
  simp only [HS] at h6;refine AN (tE (AJ (AI (bN (tN (rG (evI ?_)))))));refine eZ Z (oN ?_);refine lQ _ ?_ ?_
  ·skip
   exact ⟨by omega, by omega, DE hk0 (by omega) hall (Qr h5 fun q hq hm => hqz q hq (by omega) hm), hps, hpb, hgp⟩
  ·(show Int.toNat _ < Int.toNat _); omega
 simp only [HS] at h4;refine AN (tE (AJ (AI (tN (sG (eZ Z (nB (rT (eR ?_)))))))))
 ·first
  | (refine retB ?_; rw [hgp, E2 (by omega) hall]; done)
open Go.Eng
theorem AX {p : Prog} (h : AS p = true) : 1 ≤ p.funcs.length ∧ p.funcs.length ≤ 5 := by
 unfold AS at h;simp only [Sl, decide_eq_true_eq] at h;omega
theorem DP {p : Prog} (h : AS p = true) {n : Nat} (hn : n < p.funcs.length) : Bq (paramsL p) (p.funcs[n]) = true := by
 unfold AS at h;simp only [Sl, Sv] at h;exact h.2.2.2 _ (Ss hn)
theorem IM {p : Prog} (h : AS p = true) : NO (paramsL p) := by
 unfold AS at h;simp only [Sl] at h;exact FK h.2.1
theorem Ol {ps : List Int} {f : Func} (h : Bq ps f = true) : f.stmts.length ≤ 16 := by
 unfold Bq Ag DZ at h;simp only [Sl, decide_eq_true_eq] at h;omega
theorem EJ {ps : List Int} {f : Func} (h : Bq ps f = true) : Ag f = true := by
 unfold Bq at h;rw [Sl] at h;exact h.1
theorem IP {ps : List Int} {f : Func} (h : Bq ps f = true) {n : Nat} (hn : n < f.stmts.length) : BJ f.vars ps (f.stmts[n]) = true := by
 unfold Bq at h;rw [Sl, Sv] at h;exact h.2 _ (Ss hn)
theorem I3 {vars : Int} {ps : List Int} {s : Stmt} (h : BJ vars ps s = true) (hk : s.kind = 3) : 0 ≤ s.n ∧ s.n < ps.length ∧ s.ex = [] := by
 unfold BJ at h;rw [Sl] at h
 have h1 := h.1
 unfold Ah at h1
 simp [hk] at h1
 exact ⟨by omega, by omega, h1.1⟩
theorem runE_known {vars : Int} {ps : List Int} : ∀ {l : List Tok} {h m : Int} {r : Int × Int}, C3 vars ps l h m = some r → ∀ t, t ∈ l → knownT vars ps.length t = true
 | [], _, _, _, _, t, ht => by cases ht
 | x :: l, h, m, r, e, t, ht => by
  rw [C3] at e;split at e
  ·rename_i hc
   rw [Sl] at hc
   rcases Sw.1 ht with rfl | ht
   ·exact hc.1
   ·exact runE_known e t ht
  ·cases e
theorem K8 {vars : Int} {ps : List Int} {l : List Tok} (h : CN vars ps l = true) {t : Tok} (ht : t ∈ l) : knownT vars ps.length t = true := by
 unfold CN at h;split at h
 ·rename_i e; exact runE_known e t ht
 ·cases h
theorem Oo {vars : Int} {ps : List Int} {l : List Tok} (h : CN vars ps l = true) : l.length ≤ 12 := by
 unfold CN at h;split at h
 ·rw [Sl] at h; have := h.2; simp at this; omega
 ·cases h
theorem stmtG_ex {vars : Int} {ps : List Int} {s : Stmt} (h : BJ vars ps s = true) : s.ex = [] ∨ CN vars ps s.ex = true := by
 unfold BJ at h;rw [Sl] at h
 have h1 := h.1
 unfold Ah at h1
 by_cases he : CN vars ps s.ex = true
 ·exact .inr he
 ·left
  have he' : CN vars ps s.ex = false := by simpa using he
  rw [he'] at h1
  simp at h1
  grind
theorem Ni {vars : Int} {ps : List Int} {s : Stmt} (h : BJ vars ps s = true) {t : Tok} (ht : t ∈ s.ex) (ho : t.op = 11) : 0 ≤ t.n ∧ t.n < ps.length := by
 rcases stmtG_ex h with h | h
 ·rw [h] at ht; cases ht
 ·exact DM (K8 h ht) ho
theorem Nl {vars : Int} {ps : List Int} {s : Stmt} (h : BJ vars ps s = true) : s.ex.length ≤ 12 := by
 rcases stmtG_ex h with h | h
 ·rw [h]; simp
 ·exact Oo h
def stmtAt (f : Func) (n : Int) : Stmt := (f.stmts[n.toNat]?).getD ⟨0, 0, [], [], []⟩
theorem GK {f : Func} {n : Int} (h : n.toNat < f.stmts.length) : f.stmts[n.toNat] = stmtAt f n := by
 unfold stmtAt; rw [List.getElem?_eq_getElem h]; rfl
def funcAt (p : Prog) (n : Int) : Func := (p.funcs[n.toNat]?).getD ⟨0, 0, [], []⟩
theorem Ax {p : Prog} {n : Int} (h : n.toNat < p.funcs.length) : p.funcs[n.toNat] = funcAt p n := by
 unfold funcAt; rw [List.getElem?_eq_getElem h]; rfl
def op0 (l : List Tok) : Int := (l[(0 : Int).toNat]?.map (·.op)).getD 0
def guard1 (f : Func) : Bool := decide ((f.stmts.length : Int) = 2) && (decide ((stmtAt f 0).kind = 3) && (decide ((stmtAt f 1).kind = 9) && (decide (((stmtAt f 1).ex.length : Int) = 1) && decide (op0 (stmtAt f 1).ex = 11))))
def guard2 (f : Func) : Bool := decide ((f.stmts.length : Int) = 1) && (decide ((stmtAt f 0).kind = 2) && (decide (((stmtAt f 0).ex.length : Int) = 1) && decide (op0 (stmtAt f 0).ex = 10)))
def guarded (p : Prog) : Bool := AS p && (guard1 (funcAt p 0) && guard2 (funcAt p (stmtAt (funcAt p 0) 0).n))
open Go.Eng
def d3 (s : Stmt) : List Int := if s.kind = 3 then [s.n] else []
def Io (l : List Tok) : List Int := (l.filter fun t => decide (t.op = 11)).map (·.n)
def NQ (s : Stmt) : List Int := d3 s ++ Io s.ex
def ET (l : List Stmt) : List Int := l.flatMap NQ
theorem Hz {l : List Tok} {k : Int} (h0 : 0 ≤ k) (h1 : k < l.length) : Io (l.take (k + 1).toNat) = Io (l.take k.toNat) ++ (if (l[k.toNat]'(by omega)).op = 11 then [(l[k.toNat]'(by omega)).n] else []) := by
 unfold Io;rw [BO h0 h1, List.filter_append, S5]
 congr 1
 split <;> simp [*]
theorem Nu {l : List Stmt} {k : Int} (h0 : 0 ≤ k) (h1 : k < l.length) : ET (l.take (k + 1).toNat) = ET (l.take k.toNat) ++ (d3 (l[k.toNat]'(by omega)) ++ Io (l[k.toNat]'(by omega)).ex) := by
 unfold ET;rw [BO h0 h1, Tn]
 simp [NQ]
theorem H6 {N : Int} {l : List Stmt} (h : ∀ x, x ∈ ET l → 0 ≤ x ∧ x < N) {n : Nat} (hn : n < l.length) (hk : (l[n]).kind = 3) : 0 ≤ (l[n]).n ∧ (l[n]).n < N :=
 h _ (TF.2 ⟨_, Ss hn, TG _ (by rw [d3, if_pos hk]; exact S1.2 rfl)⟩)
theorem H5 {N : Int} {l : List Stmt} (h : ∀ x, x ∈ ET l → 0 ≤ x ∧ x < N) {n : Nat} (hn : n < l.length) {j : Nat} (hj : j < (l[n]).ex.length) (hk : ((l[n]).ex[j]).op = 11) : 0 ≤ ((l[n]).ex[j]).n ∧ ((l[n]).ex[j]).n < N :=
 h _ (TF.2 ⟨_, Ss hn, TL _ (TE.2 ⟨_, List.mem_filter.2 ⟨Ss hj, by simpa using hk⟩, rfl⟩)⟩)
theorem Gm (l : List Int) (n : Int) (hl : l.length ≤ 1073741824) : Fun Try.prog 57 [.t (T.ints l), .t (.int n)] (A2 [.t (.bool (decide (n ∈ l)))]) := by
 refine Fun.begin tys Try.func57 Z Z (N := 17) [(0, .t (T.ints l)), (1, .t (.int n))] Z Z (fun w0 G F0 => ?_);refine sG (eZ Z (nB (sQ (sG (eZ Z (evE ?_))))));refine eZ Z (nB (AD ?_));refine lK (α := Int) [1, 7, 8] [] (fun x => [(9, .t (.int x))]) (fun x => []) (fun x => 0 ≤ x ∧ x ≤ l.length ∧ n ∉ l.take x.toNat) (fun x => Int.toNat (l.length - x)) 0 ?_ (fun k hx => ?_)
 ·exact ⟨by omega, by omega, by simp⟩
 obtain ⟨hk0, hk1, hk2⟩ := hx
 refine nY Z (sG (eZ Z (nB (sQ ?_))));refine AB Z (fun h1 => ?_) (fun h1 => ?_)
 ·
  simp only [HS] at h1;refine AC (tN (sQ (AD (sG ?_))));refine iY (k := ?_);refine eK 2 Z (nA (eK 3 Z (nB ?_)));refine AB Z (fun h2 => ?_) (fun h2 => ?_)
  ·
   simp only [HS] at h2;refine sQ (kY [1,6,7,8,9,10,11,12,13,14,15] Z (rG (eZ Z (nB (rT (bR (tR (AP (bR (tR (eR ?_)))))))))))
   ·exact retB (decide_eq_true (h2 ▸ Ss _)).symm
  simp only [HS] at h2;refine AC (bN (tN (kY [1,6,7,8,9,10,11,12,13,14,15] Z (rG (evI ?_)))));refine eZ Z (oN ?_);refine lQ _ ?_ ?_
  ·skip
   refine ⟨by omega, by omega, ?_⟩; rw [BO hk0 (by omega), So, S1]; exact fun h => h.elim hk2 fun e => h2 e.symm
  ·(show Int.toNat _ < Int.toNat _); omega
 simp only [HS] at h1;refine AN (tE (AJ (AI (tN (sG (eZ Z (nB (rT (eR ?_)))))))))
 ·(rw [A5 (by omega)] at hk2; exact retB (decide_eq_false hk2).symm)
theorem FY (l : List Int) (i j : Nat) : ∀ x, x ∈ ((l.map T.int).drop i).take j → (T.cells x).length = 1 ∧ ∀ y, y ∈ T.cells x → ∃ v, y = .v v :=
 fun x hx => N9 l x (Tc (TW hx))
theorem Fs {α : Type} (x y : List α) : List.take (x.length + y.length) (x ++ y) = x ++ y := by
 rw [← Sm, Sy]
theorem QJ {xs : List T} {b : List Int} (h : xs = b.map T.int) : [D.t (.list 1 xs)] = [D.t (T.ints b)] := by subst h; rfl
theorem Nt {ps : List Int} {f : Func} (h : Bq ps f = true) : ∀ x, x ∈ ET f.stmts → 0 ≤ x ∧ x < ps.length := by
 intro x hx
 obtain ⟨s, hs, hx⟩ := TF.1 hx
 obtain ⟨m, hm, rfl⟩ := TH hs
 have hg := IP h hm
 rcases So.1 hx with hx | hx
 ·unfold d3 at hx
  split at hx
  ·rename_i hk
   have := I3 hg hk
   rw [S1] at hx;subst hx; omega
  ·cases hx
 ·obtain ⟨t, ht, rfl⟩ := TE.1 hx
  obtain ⟨ht, ho⟩ := List.mem_filter.1 ht
  exact Ni hg ht (by simpa using ho)
theorem EY : ∀ {a b : List Int}, a.Pairwise (· < ·) → b.Pairwise (· < ·) → (∀ x, x ∈ a ↔ x ∈ b) → a = b
 | [], [], _, _, _ => rfl
 | [], y :: b, _, _, h => by have := (h y).2 (S9 ..); cases this
 | x :: a, [], _, _, h => by have := (h x).1 (S9 ..); cases this
 | x :: a, y :: b, ha, hb, h => by
  rw [List.pairwise_cons] at ha hb
  have e : x = y := by
   have h1 := (h x).1 (S9 ..)
   have h2 := (h y).2 (S9 ..)
   rcases Sw.1 h1 with h1 | h1
   ·exact h1
   ·rcases Sw.1 h2 with h2 | h2
    ·exact h2.symm
    ·have := ha.1 _ h2; have := hb.1 _ h1; omega
  subst e;rw [EY ha.2 hb.2 fun z => ?_]
  constructor
  ·intro hz
   rcases Sw.1 ((h z).1 (TC _ hz)) with e | e
   ·have := ha.1 _ hz; omega
   ·exact e
  ·intro hz
   rcases Sw.1 ((h z).2 (TC _ hz)) with e | e
   ·have := hb.1 _ hz; omega
   ·exact e
def C5 (N : Nat) (p : Int → Bool) : List Int := (Bs N).filter p
theorem mem_pickN {N : Nat} {p : Int → Bool} {x : Int} : x ∈ C5 N p ↔ (0 ≤ x ∧ x < N) ∧ p x = true := by
 rw [C5, List.mem_filter, mem_upto]
theorem CR (N : Nat) (p : Int → Bool) : (C5 N p).Pairwise (· < ·) := (GD N).filter _
theorem QT {N : Nat} {p : Int → Bool} {l : List Int} (h : l.Pairwise (· < ·)) (h2 : ∀ x, x ∈ l ↔ (0 ≤ x ∧ x < N) ∧ p x = true) : l = C5 N p :=
 EY h (CR N p) fun x => by rw [h2, mem_pickN]
theorem Kq {N : Nat} {p q : Int → Bool} (h : ∀ x : Int, 0 ≤ x → x < N → p x = q x) : C5 N p = C5 N q :=
 List.filter_congr fun x hx => h x (mem_upto.1 hx).1 (mem_upto.1 hx).2
theorem C4 (N : Nat) (p : Int → Bool) : (C5 N p).length ≤ N := by
 have := List.length_filter_le p (Bs N)
 unfold C5
 have e : (Bs N).length = N := by unfold Bs; simp
 omega
inductive MT (calls : Int → List Int) (a : Int) : Int → Prop
 | refl : MT calls a a
 | step {b c : Int} : MT calls a b → c ∈ calls b → MT calls a c
def InN (N : Nat) (calls : Int → List Int) : Prop := ∀ a c, c ∈ calls a → 0 ≤ c ∧ c < N
def grow (N : Nat) (calls : Int → List Int) (S : Int → Bool) (b : Int) : Bool := S b || (Bs N).any fun c => S c && decide (b ∈ calls c)
def Ch (N : Nat) (calls : Int → List Int) (a : Int) : Nat → Int → Bool
 | 0 => fun b => decide (a = b)
 | n + 1 => grow N calls (Ch N calls a n)
def OA (N : Nat) (calls : Int → List Int) (a b : Int) : Bool := Ch N calls a N b
def Ed (N : Nat) (calls : Int → List Int) (a : Int) : List Int := C5 N (OA N calls a)
section
variable {N : Nat} {calls : Int → List Int} {a : Int}
theorem FD : ∀ (n : Nat) {b : Int}, Ch N calls a n b = true → MT calls a b
 | 0, b, h => by
  have : a = b := of_decide_eq_true h
  subst this; exact .refl
 | n + 1, b, h => by
  rw [Ch, grow, Ti] at h
  rcases h with h | h
  ·exact FD n h
  ·rw [Tk] at h
   obtain ⟨c, _, hc⟩ := h
   rw [Sl, decide_eq_true_iff] at hc;exact .step (FD n hc.1) hc.2
theorem LV (n : Nat) {b : Int} (h : Ch N calls a n b = true) : Ch N calls a (n + 1) b = true := by
 rw [Ch, grow, h]; rfl
theorem P6 {n m : Nat} (hnm : n ≤ m) {b : Int} (h : Ch N calls a n b = true) : Ch N calls a m b = true := by
 induction hnm with
 | refl => exact h
 | step _ ih => exact LV _ ih
def HW (N : Nat) (calls : Int → List Int) (a : Int) (n : Nat) : Prop := ∀ b : Int, 0 ≤ b → b < N → Ch N calls a (n + 1) b = true → Ch N calls a n b = true
theorem Gu {α : Type} {p q : α → Bool} : ∀ {l : List α}, (∀ x, x ∈ l → p x = true → q x = true) → (∃ x, x ∈ l ∧ q x = true ∧ p x = false) → (l.filter p).length < (l.filter q).length
 | [], _, h => by obtain ⟨x, hx, _⟩ := h; cases hx
 | x :: l, h1, h2 => by
  have hle : ∀ {l : List α}, (∀ x, x ∈ l → p x = true → q x = true) → (l.filter p).length ≤ (l.filter q).length := by
   intro l
   induction l with
   | nil => intro _; simp
   | cons y l ih =>
    intro h
    have ih := ih fun z hz => h z (TC _ hz)
    have hy := h y (S9 ..)
    rw [TV, TV]
    by_cases hp : p y = true
    ·rw [if_pos hp, if_pos (hy hp), Sp, Sp]; omega
    ·rw [if_neg hp]; split <;> (try rw [Sp]) <;> omega
  have h1' : ∀ y, y ∈ l → p y = true → q y = true := fun y hy => h1 y (TC _ hy)
  obtain ⟨y, hy, hq, hp⟩ := h2
  rcases Sw.1 hy with rfl | hy
  ·have := hle h1'
   rw [TV, TV, if_neg (by simp [hp]), if_pos hq, Sp]; omega
  ·have ih := Gu h1' ⟨y, hy, hq, hp⟩
   have hx := h1 x (S9 ..)
   rw [TV, TV]
   by_cases hp : p x = true
   ·rw [if_pos hp, if_pos (hx hp), Sp, Sp]; omega
   ·rw [if_neg hp]; split <;> (try rw [Sp]) <;> omega
theorem stepN_grows (h0 : 0 ≤ a) (h1 : a < N) : ∀ n : Nat, (∃ m, m ≤ n ∧ HW N calls a m) ∨ n + 1 ≤ (C5 N (Ch N calls a n)).length
 | 0 => by
  right
  have : a ∈ C5 N (Ch N calls a 0) := mem_pickN.2 ⟨⟨h0, h1⟩, decide_eq_true rfl⟩
  have := List.length_pos_of_mem this
  omega
 | n + 1 => by
  rcases stepN_grows h0 h1 n with ⟨m, hm, h⟩ | h
  ·exact .inl ⟨m, by omega, h⟩
  ·by_cases hs : HW N calls a n
   ·exact .inl ⟨n, by omega, hs⟩
   ·right
    have : ∃ b : Int, (0 ≤ b ∧ b < N) ∧ Ch N calls a (n + 1) b = true ∧ Ch N calls a n b = false := by
     refine Classical.byContradiction fun hc => hs fun b b0 b1 hb => ?_
     cases e : Ch N calls a n b with
     | true => rfl
     | false => exact absurd ⟨b, ⟨b0, b1⟩, hb, e⟩ hc
    obtain ⟨b, hb, hb1, hb2⟩ := this
    have := Gu (l := Bs N) (p := Ch N calls a n) (q := Ch N calls a (n + 1)) (fun x _ hx => LV n hx) ⟨b, mem_upto.2 hb, hb1, hb2⟩
    unfold C5 at h ⊢;omega
theorem Kh (hc : InN N calls) {n : Nat} (h : HW N calls a n) : HW N calls a (n + 1) := by
 intro b b0 b1 hb;rw [Ch, grow, Ti] at hb
 rcases hb with hb | hb
 ·exact hb
 ·rw [Tk] at hb
  obtain ⟨c, hcN, hcb⟩ := hb
  rw [Sl] at hcb
  have hcN := mem_upto.1 hcN
  have := h c hcN.1 hcN.2 hcb.1
  rw [Ch, grow, Ti, Tk];exact .inr ⟨c, mem_upto.2 hcN, by rw [Sl]; exact ⟨this, hcb.2⟩⟩
theorem MX (hc : InN N calls) (h0 : 0 ≤ a) (h1 : a < N) : HW N calls a N := by
 rcases stepN_grows (calls := calls) h0 h1 N with ⟨m, hm, h⟩ | h
 ·obtain ⟨d, rfl⟩ : ∃ d, N = m + d := ⟨N - m, by omega⟩
  generalize hK : m + d = K at h hc h1 ⊢
  have : ∀ d, HW K calls a (m + d) := by
   intro d
   induction d with
   | zero => exact h
   | succ d ih => exact Kh hc ih
  rw [← hK] at *;exact this d
 ·have := C4 N (Ch N calls a N)
  omega
theorem Gh (hc : InN N calls) (h0 : 0 ≤ a) (h1 : a < N) {b : Int} (h : MT calls a b) : 0 ≤ b ∧ b < N := by
 cases h with
 | refl => exact ⟨h0, h1⟩
 | step _ h => exact hc _ _ h
theorem Mj (hc : InN N calls) (h0 : 0 ≤ a) (h1 : a < N) {b : Int} : OA N calls a b = true ↔ MT calls a b := by
 refine ⟨FD N, fun h => ?_⟩
 induction h with
 | refl => exact P6 (Tm N) (decide_eq_true rfl)
 | step h hcb ih =>
  rename_i b c
  have hb := Gh hc h0 h1 h
  have hcc := hc _ _ hcb
  refine MX hc h0 h1 c hcc.1 hcc.2 ?_;rw [Ch, grow, Ti, Tk];exact .inr ⟨b, mem_upto.2 hb, by rw [Sl, decide_eq_true_iff]; exact ⟨ih, hcb⟩⟩
theorem B0 (hc : InN N calls) (h0 : 0 ≤ a) (h1 : a < N) {b : Int} : b ∈ Ed N calls a ↔ MT calls a b := by
 rw [Ed, mem_pickN, Mj hc h0 h1];exact ⟨fun h => h.2, fun h => ⟨Gh hc h0 h1 h, h⟩⟩
theorem FZ (hc : InN N calls) (h0 : 0 ≤ a) (h1 : a < N) {S : Int → Prop} (ha : S a) (hs : ∀ x, S x → ∀ c, c ∈ calls x → S c) (hl : ∀ x, S x → MT calls a x) {b : Int} : b ∈ Ed N calls a ↔ S b := by
 rw [B0 hc h0 h1];refine ⟨fun h => ?_, hl b⟩
 induction h with
 | refl => exact ha
 | step _ hcb ih => exact hs _ ih _ hcb
theorem Hg : (Ed N calls a).length ≤ N := C4 ..
theorem Mi (hc : InN N calls) (h0 : 0 ≤ a) (h1 : a < N) : 1 ≤ (Ed N calls a).length :=
 List.length_pos_of_mem ((B0 hc h0 h1).2 .refl)
end
def put (l : List Int) (n : Int) : List Int := if n ∈ l then l else l.takeWhile (fun x => decide (x < n)) ++ n :: l.dropWhile (fun x => decide (x < n))
theorem R6 {l : List Int} {n x : Int} : x ∈ put l n ↔ x ∈ l ∨ x = n := by
 unfold put;split
 ·rename_i h; exact ⟨.inl, fun h2 => h2.elim id fun e => e ▸ h⟩
 ·rw [So, Sw]
  have e := List.takeWhile_append_dropWhile (p := fun x => decide (x < n)) (l := l)
  have : x ∈ l ↔ x ∈ l.takeWhile (fun x => decide (x < n)) ∨ x ∈ l.dropWhile (fun x => decide (x < n)) := by rw [← So, e]
  rw [this]
  constructor
  ·rintro (h | h | h)
   ·exact .inl (.inl h)
   ·exact .inr h
   ·exact .inl (.inr h)
  ·rintro ((h | h) | h)
   ·exact .inl h
   ·exact .inr (.inr h)
   ·exact .inr (.inl h)
theorem QP : ∀ {l : List Int} {n : Int}, l.Pairwise (· < ·) → (put l n).Pairwise (· < ·) := by
 intro l n h
 by_cases hm : n ∈ l
 ·rw [put, if_pos hm]; exact h
 ·rw [put, if_neg hm]
  induction l with
  | nil => simp
  | cons y l ih =>
   rw [List.pairwise_cons] at h
   have hy : y ≠ n := fun e => hm (e ▸ S9 ..)
   have ih := ih h.2 fun h2 => hm (TC _ h2)
   by_cases hc : y < n
   ·rw [List.takeWhile_cons_of_pos (by simpa using hc), List.dropWhile_cons_of_pos (by simpa using hc), TZ, List.pairwise_cons]
    refine ⟨fun z hz => ?_, ih⟩
    have e := List.takeWhile_append_dropWhile (p := fun x => decide (x < n)) (l := l)
    rw [So, Sw] at hz
    rcases hz with hz | rfl | hz
    ·exact h.1 z (by rw [← e]; exact TG _ hz)
    ·exact hc
    ·exact h.1 z (by rw [← e]; exact TL _ hz)
   ·rw [List.takeWhile_cons_of_neg (by simpa using hc), List.dropWhile_cons_of_neg (by simpa using hc), Tp, List.pairwise_cons]
    refine ⟨fun z hz => ?_, List.pairwise_cons.2 h⟩
    rcases Sw.1 hz with rfl | hz
    ·omega
    ·have := h.1 z hz; omega
def HF (N : Nat) (l : List Int) : List Int := C5 N fun x => decide (x ∈ l)
theorem H4 {N : Nat} {l : List Int} {n : Int} (h0 : 0 ≤ n) (h1 : n < N) : put (HF N l) n = HF N (l ++ [n]) := by
 refine QT (QP (CR ..)) fun x => ?_
 rw [R6, HF, mem_pickN];simp only [decide_eq_true_eq, So, S1]
 constructor
 ·rintro (h | rfl)
  ·exact ⟨h.1, .inl h.2⟩
  ·exact ⟨⟨h0, h1⟩, .inr rfl⟩
 ·rintro ⟨h, h2 | h2⟩
  ·exact .inl ⟨h, h2⟩
  ·exact .inr h2
theorem P9 (N : Nat) : HF N [] = [] := by
 unfold HF C5; rw [List.filter_eq_nil_iff]; simp
theorem mem_setN {N : Nat} {l : List Int} {x : Int} : x ∈ HF N l ↔ (0 ≤ x ∧ x < N) ∧ x ∈ l := by rw [HF, mem_pickN]; simp
theorem put_at {l : List Int} {n : Int} {k : Int} (h0 : 0 ≤ k) (h1 : k ≤ l.length) (hl : l.Pairwise (· < ·)) (hlt : ∀ (i : Nat) (hi : i < l.length), (i : Int) < k → l[i] < n) (hge : ∀ (h : k < l.length), n ≤ l[k.toNat]'(by omega)) :
  put l n = if h : k < l.length ∧ l[k.toNat]? = some n then l else l.take k.toNat ++ n :: l.drop k.toNat := by
 have hafter : ∀ x, x ∈ l.drop k.toNat → n ≤ x := by
  intro x hx
  by_cases hk : k < l.length
  ·rw [TX (by omega)] at hx
   have := hge hk
   rcases Sw.1 hx with rfl | hx
   ·exact this
   ·have h2 : (l.drop k.toNat).Pairwise (· < ·) := hl.drop
    rw [TX (by omega), List.pairwise_cons] at h2
    have := h2.1 x hx; omega
  ·rw [List.drop_eq_nil_of_le (by omega)] at hx; cases hx
 have hbefore : ∀ x, x ∈ l.take k.toNat → x < n := by
  intro x hx
  obtain ⟨i, hi, rfl⟩ := TH hx
  rw [List.getElem_take];rw [Sq] at hi;exact hlt i (by omega) (by omega)
 have hsplit := Tg k.toNat l
 split
 ·rename_i h
  rw [put, if_pos];exact TJ h.2
 ·rename_i h
  have hn : n ∉ l := by
   intro hn;rw [← hsplit, So] at hn
   rcases hn with hn | hn
   ·have := hbefore n hn; omega
   ·apply h
    have hk : k < l.length := by
     refine Classical.byContradiction fun hk => ?_
     rw [List.drop_eq_nil_of_le (by omega)] at hn; cases hn
    refine ⟨hk, ?_⟩;rw [List.getElem?_eq_getElem (by omega)]
    have h2 : (l.drop k.toNat).Pairwise (· < ·) := hl.drop
    rw [TX (by omega)] at hn h2;rw [List.pairwise_cons] at h2
    rcases Sw.1 hn with hn | hn
    ·rw [← hn]
    ·have := h2.1 n hn; have := hge hk; omega
  rw [put, if_neg hn]
  have e1 : l.takeWhile (fun x => decide (x < n)) = l.take k.toNat := by
   conv => lhs; rw [← hsplit]
   rw [List.takeWhile_append_of_pos (by intro x hx; simpa using hbefore x hx)]
   have : (l.drop k.toNat).takeWhile (fun x => decide (x < n)) = [] := by
    cases e : l.drop k.toNat with
    | nil => rfl
    | cons y r => rw [List.takeWhile_cons_of_neg]; have := hafter y (by rw [e]; exact S9 ..); simp; omega
   rw [this, S3]
  have e2 : l.dropWhile (fun x => decide (x < n)) = l.drop k.toNat := by
   conv => lhs; rw [← hsplit]
   rw [List.dropWhile_append_of_pos (by intro x hx; simpa using hbefore x hx)]
   cases e : l.drop k.toNat with
   | nil => rfl
   | cons y r => rw [List.dropWhile_cons_of_neg]; have := hafter y (by rw [e]; exact S9 ..); simp; omega
  rw [e1, e2]
open Go.Eng
def Mb (p : Prog) (n : Int) : List Int := ET (funcAt p n).stmts
def BF (p : Prog) (n : Int) : List Int := HF 5 (Mb p n)
def marks (N : Nat) (l : List Int) : List T := (Bs N).map fun n => T.bool (decide (n ∈ l))
theorem Ca (N : Nat) (l : List Int) : (marks N l).length = N := by rw [marks, Sk, Aw]
theorem Jh (N : Nat) : List.replicate N (T.bool false) = marks N [] := by
 refine List.ext_getElem (by rw [Ca]; simp) fun k h1 h2 => ?_
 simp [marks]
theorem En {N : Nat} {l : List Int} {n : Int} (h0 : 0 ≤ n) (h1 : n < N) : (marks N l).set n.toNat (T.bool true) = marks N (l ++ [n]) := by
 refine List.ext_getElem (by rw [TN, Ca, Ca]) fun k h2 h3 => ?_
 rw [Ca] at h3;rw [List.getElem_set];simp only [marks, List.getElem_map];rw [D5 (by rw [Aw]; exact h3)];split
 ·rename_i e; congr 2; simp; omega
 ·rename_i e
  congr 2
  simp only [So, S1, decide_eq_decide];refine propext ⟨.inl, ?_⟩
  rintro (h | h)
  ·exact h
  ·omega
theorem Gg {N : Nat} {l : List Int} {n : Int} (h0 : 0 ≤ n) (h1 : n < N) : (marks N l)[0 + n.toNat]? = some (T.bool (decide (n ∈ l))) := by
 rw [S7, marks, List.getElem?_map, List.getElem?_eq_getElem (by rw [Aw]; omega), D5 (by rw [Aw]; omega)];simp only [To]
 congr 3
 exact congrArg (· ∈ l) (by omega : ((n.toNat : Nat) : Int) = n)
def IC (N : Nat) (p : Int → Bool) (k : Int) : List Int := ((Bs N).take k.toNat).filter p
theorem Ck {N : Nat} {p : Int → Bool} {k : Int} (h0 : 0 ≤ k) (h1 : k < N) : IC N p (k + 1) = IC N p k ++ (if p k = true then [k] else []) := by
 unfold IC;rw [BO h0 (by rw [Aw]; omega), List.filter_append]
 congr 1
 rw [D5 (by rw [Aw]; omega), show ((k.toNat : Nat) : Int) = k from by omega]
 split <;> simp [*]
theorem Ef {N : Nat} {p : Int → Bool} {k : Int} (h : (N : Int) ≤ k) : IC N p k = C5 N p := by
 unfold IC C5; rw [A5 (by rw [Aw]; omega)]
theorem Km {a b : List Int} (h : a = b) : [D.own (.list 1 (a.map T.int))] = [D.own (T.ints b)] := by subst h; rfl
theorem LC (f : Func) (hf : f.ok 1048576) (hs : ∀ x, x ∈ ET f.stmts → 0 ≤ x ∧ x < 5) : Fun Try.prog 104 [.t f.tt] (A2 [.own (T.ints (HF 5 (ET f.stmts)))]) := by
 have hl : f.stmts.length ≤ 1048576 := hf.2.1.1
 refine Fun.begin tys Try.func104 Z Z (N := 56) [(0, .t f.tt)] Z Z (fun w0 G F0 => ?_);refine sG (AV Z Z (AA Z) Z Z (nZ Z (eZ Z (nA ?_))));refine DS tys (.v (.bool false)) _ Z Z (AA Z) Z Z Z Z Z (by repeat (first | exact AbsL.nil' | refine AbsL.v' ?_ | refine AbsL.none' ?_)) Z (by decide) (by decide) ?_;refine nZ Z (eZ Z (nB (sQ (sG (eK 2 Z (evE ?_))))));refine eZ Z (nB (AD ?_));refine lK (α := Int × List T) [13, 14] [] (fun x => [(15, .t (.int (x.1))), (3, .sl 11 0 5)]) (fun x => [(11, .L 1 (x.2))]) (fun x => 0 ≤ (x.1) ∧ (x.1) ≤ f.stmts.length ∧ (x.2) = marks 5 (ET (f.stmts.take (x.1).toNat))) (fun x => Int.toNat (f.stmts.length - (x.1))) (0, List.replicate 5 (T.bool false)) ?_ (fun x hx => ?_)
 ·exact ⟨by omega, by omega, Jh 5⟩
 obtain ⟨k, xs⟩ := x
 obtain ⟨hk0, hk1, hxs⟩ := hx
 dsimp only at hk0 hk1 hxs ⊢;refine nY Z (sG (eZ Z (nB (sQ ?_))));refine AB Z (fun h1 => ?_) (fun h1 => ?_)
 ·
  simp only [HS] at h1;refine AC (tN (sQ (AD (sG ?_))));refine iY (k := ?_);refine eZ Z ?_
  try refine WO_le (Le.freeze (u := 18) rfl) ?_
  refine nZ Z (AF tys Z Z (AA Z) Z Z Z (nZ Z (sT Z (nZ Z (nB (sQ (sG (eK 3 Z (nB ?_)))))))));refine A4 (α := List T) [3, 5, 13, 14, 15, 16, 17, 18, 19, 20, 21] [5] (fun x => []) (fun x => [(11, .L 1 x)]) (fun x => x = marks 5 (ET (f.stmts.take k.toNat) ++ d3 (f.stmts[k.toNat]'(by omega)))) ?_ (fun ys hx => ?_)
  ·
   refine AB Z (fun h2 => ?_) (fun h2 => ?_)
   ·
    simp only [HS] at h2;refine kY [3,5,13,14,15,16,17,18,19,20,21] Z (rG ?_)
    have hn := H6 hs (n := k.toNat) (by omega) h2
    have hxl : xs.length = 5 := by rw [hxs, Ca]
    refine eK 3 Z (Ae tys Z Z (AA Z) Z Z Z Z Z Z Z Z (by omega) (by omega) ?_);refine BD tys (T.bool true) Z Z Z Z Z Z (by first | exact S7 _ | rfl) (by omega) Z (by repeat (first | exact AbsL.nil' | refine AbsL.v' ?_ | refine AbsL.own' ?_)) Z Z Z ?_;refine nZ Z (oN (jQ _ ?_))
    first
    | (rw [hxs, En hn.1 hn.2, d3, if_pos h2]; done)
   simp only [HS] at h2;refine AC (jQ _ ?_)
   first
   | (rw [hxs, d3, if_neg h2, S3]; done)
  have hys := hx
  refine tN (sQ (kY [3,5,13,14,15,16,17,18,19,20,21] Z (rG ?_)))
  have hel := (Bw hf (n := k.toNat) (by omega)).2.2
  refine eK 2 Z (evE ?_);refine eZ Z (nB (AD ?_));refine lK (α := Int × List T) [13, 14, 15, 27, 28] [] (fun x => [(29, .t (.int (x.1))), (3, .sl 11 0 5)]) (fun x => [(11, .L 1 (x.2))]) (fun x => 0 ≤ (x.1) ∧ (x.1) ≤ (f.stmts[k.toNat]'(by omega)).ex.length ∧ (x.2) = marks 5 (ET (f.stmts.take k.toNat) ++ d3 (f.stmts[k.toNat]'(by omega)) ++ Io ((f.stmts[k.toNat]'(by omega)).ex.take (x.1).toNat))) (fun x => Int.toNat ((f.stmts[k.toNat]'(by omega)).ex.length - (x.1))) (0, ys) ?_ (fun x hx => ?_)
  ·exact ⟨by omega, by omega, by rw [hys]; simp [Io]⟩
  obtain ⟨j, zs⟩ := x
  obtain ⟨hj0, hj1, hzs⟩ := hx
  dsimp only at hj0 hj1 hzs ⊢;refine nY Z (sG (eZ Z (nB (sQ ?_))));refine AB Z (fun h2 => ?_) (fun h2 => ?_)
  ·
   simp only [HS] at h2;refine AC (tN (sQ (AD (sG ?_))));refine iY (k := ?_);refine eZ Z ?_
   try refine WO_le (Le.freeze (u := 32) rfl) ?_
   refine nZ Z (AF tys Z Z (AA Z) Z Z Z (nZ Z (sT Z (nZ Z (nA (eK 3 Z (nB ?_)))))));refine AB Z (fun h3 => ?_) (fun h3 => ?_)
   ·
    simp only [HS] at h3;refine kY [3,7,13,14,15,27,28,29,30,31,32,33,34,35] Z (rG ?_)
    have hn := H5 hs (n := k.toNat) (by omega) (j := j.toNat) (by omega) h3
    have hzl : zs.length = 5 := by rw [hzs, Ca]
    refine eK 3 Z (Ae tys Z Z (AA Z) Z Z Z Z Z Z Z Z (by omega) (by omega) ?_);refine BD tys (T.bool true) Z Z Z Z Z Z (by first | exact S7 _ | rfl) (by omega) Z (by repeat (first | exact AbsL.nil' | refine AbsL.v' ?_ | refine AbsL.own' ?_)) Z Z Z ?_;refine nZ Z (oN (bN (tN (rG (evI ?_)))));refine eZ Z (oN ?_);refine lQ (_, _) ?_ ?_
    ·dsimp only
     first
     | (refine ⟨by omega, by omega, ?_⟩; rw [hzs, En hn.1 hn.2, Hz hj0 (by omega), if_pos h3, S4]; done)
    ·(show Int.toNat _ < Int.toNat _); omega
   simp only [HS] at h3;refine AC (bN (tN (kY [3,7,13,14,15,27,28,29,30,31,32,33,34,35] Z (rG (evI ?_)))));refine eZ Z (oN ?_);refine lQ (_, _) ?_ ?_
   ·dsimp only
    first
    | (refine ⟨by omega, by omega, ?_⟩; rw [hzs, Hz hj0 (by omega), if_neg h3, S3]; done)
   ·(show Int.toNat _ < Int.toNat _); omega
  simp only [HS] at h2;refine AN (tE (AJ (AI (bN (tN (rG (evI ?_)))))));refine eZ Z (oN ?_);refine lQ (_, _) ?_ ?_
  ·dsimp only
   exact ⟨by omega, by omega, by rw [hzs, Nu hk0 (by omega), A5 (l := (f.stmts[k.toNat]'(by omega)).ex) (k := j) (by omega), S4]⟩
  ·(show Int.toNat _ < Int.toNat _); omega
 simp only [HS] at h1;refine AN (tE (AJ (AI (tN (sG (eZ Z (WO_le (Le.nilOwn (u := 8) 1 Z) (WO_le (Le.adoptE (u := 8) 8 Z Z) (nZ Z (nB (sQ (sG (eZ Z (evE ?_))))))))))))));refine eZ Z (nB (AD ?_));refine lK (α := Int × Nat × List T) [42, 43] [11] (fun x => [(44, .t (.int (x.1))), (8, .sl 8 0 (x.2.1))]) (fun x => [(8, .L 1 (x.2.2))]) (fun x => 0 ≤ (x.1) ∧ (x.1) ≤ 5 ∧ (x.2.1) = (x.2.2).length ∧ (x.2.2).length ≤ (x.1) ∧ (x.2.2) = (IC 5 (fun x => decide (x ∈ ET (f.stmts.take k.toNat))) (x.1)).map T.int) (fun x => Int.toNat (5 - (x.1))) (0, 0, []) ?_ (fun x hx => ?_)
 ·exact ⟨by omega, by omega, rfl, by simp, rfl⟩
 obtain ⟨q, m, ws⟩ := x
 obtain ⟨hq0, hq1, hm, hwl, hws⟩ := hx
 dsimp only at hq0 hq1 hm hwl hws ⊢;refine nY Z (sG (eZ Z (nB (sQ ?_))));refine AB Z (fun h2 => ?_) (fun h2 => ?_)
 ·
  simp only [HS] at h2;refine AC (tN (sQ (AD (sG (eZ Z (Ae tys Z Z (AA Z) Z Z Z Z Z Z Z Z (by omega) (by omega) (Al tys Z Z (AA Z) Z Z Z Z (by rw [hxs]; exact Gg hq0 (by omega)) Z ?_)))))));refine eK 2 Z (nA (eZ Z (nB ?_)));refine AB Z (fun h3 => ?_) (fun h3 => ?_)
  ·
   simp only [HS] at h3;refine kY [8,9,10,42,43,44,45,46,47,48,49] Z (rG (eK 2 Z (bZ [T.int q] ?_)));refine nZ Z (AE tys Z Z (AA Z) Z Z Z Z Z (.own Z (by first | omega | (simp only [Sm]; omega))) Z (.own Z (by first | decide | omega)) (by decide) (by simp only [Sq, Sp, List.length_nil]; omega) (by decide) Z ?_);refine nZ Z (eZ Z (oN (bN (tN (rG (evI ?_))))));refine eZ Z (oN ?_);refine lQ (_, _, _) ?_ ?_
   ·dsimp only
    subst hm
    first
    | (refine ⟨by omega, by omega, by simp, by simp; omega, ?_⟩; rw [Sy, hws, Ck hq0 (by omega), if_pos (by simpa using h3), S5]; rfl)
   ·(show Int.toNat _ < Int.toNat _); omega
  simp only [HS] at h3;refine AC (bN (tN (kY [8,9,10,42,43,44,45,46,47,48,49] Z (rG (evI ?_)))));refine eZ Z (oN ?_);refine lQ (_, _, _) ?_ ?_
  ·dsimp only
   subst hm
   first
   | (refine ⟨by omega, by omega, rfl, by omega, ?_⟩; rw [hws, Ck hq0 (by omega), if_neg (by simpa using h3), S3]; done)
  ·(show Int.toNat _ < Int.toNat _); omega
 simp only [HS] at h2;refine AN (tE (AJ (AI (tN (sG (eK 2 Z (nB (AQ (Le.gather (u := 2) (id := 8) Z Z (by omega)) (rT (eR ?_))))))))))
 ·(rw [hm, Sy, hws]; refine Km ?_; rw [Ef (by omega), A5 (by omega)]; rfl)
theorem QO {l : List Int} {n k : Int} (h0 : 0 ≤ k) (h1 : k < l.length) (h : l[k.toNat]'(by omega) = n) : put l n = l := by
 rw [put, if_pos (h ▸ Ss _)]
theorem OH {l : List Int} {n k : Int} (hl : l.Pairwise (· < ·)) (h0 : 0 ≤ k) (h1 : k ≤ l.length) (hlt : ∀ (i : Nat) (hi : i < l.length), (i : Int) < k → l[i] < n) (hge : ∀ (h : k < l.length), n < l[k.toNat]'(by omega)) : put l n = l.take k.toNat ++ n :: l.drop k.toNat := by
 rw [put_at h0 h1 hl hlt fun h => Int.le_of_lt (hge h), dif_neg]
 rintro ⟨h, he⟩
 rw [List.getElem?_eq_getElem (by omega)] at he
 have := hge h
 have : l[k.toNat] = n := Option.some.inj he
 omega
theorem JQ {l : List Int} {n k : Int} (e : put l n = l.take k.toNat ++ n :: l.drop k.toNat) : ((l.map T.int).drop (0 : Int).toNat).take (k.toNat - (0 : Int).toNat) ++ [T.int n] ++ ((l.map T.int).drop k.toNat).take ((((l.map T.int).length : Nat) : Int).toNat - k.toNat) = (put l n).map T.int := by
 rw [e, Sn (l := (l.map T.int).drop k.toNat) (by simp)]
 simp
theorem Gk (l : List Int) (n : Int) (hl : l.length ≤ 1048576) (hr : l.Pairwise (· < ·)) : Fun Try.prog 90 [.t (T.ints l), .t (.int n)] (A2 [.t (T.ints (put l n))]) := by
  refine Fun.begin tys Try.func90 Z Z (N := 48) [(0, .t (T.ints l)), (1, .t (.int n))] Z Z (fun w0 G F0 => ?_);refine sG (eZ Z (nA (eZ Z (nB (sQ (AD ?_))))));refine lK (α := Int) [0, 1] [] (fun x => [(5, .t (.int x))]) (fun x => []) (fun x => 0 ≤ x ∧ x ≤ l.length ∧ ∀ (i : Nat) (hi : i < l.length), (i : Int) < x → l[i] < n) (fun x => Int.toNat (l.length - x)) 0 ?_ (fun k hx => ?_)
  · exact ⟨by omega, by omega, fun i hi h => by omega⟩
  obtain ⟨hk0, hk1, hk2⟩ := hx
  refine nY Z (sQ (sG (eK 2 Z (evE ?_))));refine eK 2 Z ?_;refine gB (fun h1 => ?_) (fun h1 => ?_)
  ·
    simp only [HS] at h1;refine xK 4 Z (kZ [0,1,5,7,8,9,10,11,12,13,14,15,16] Z (xK 2 Z (nB (A8 Z (AN (tE (AJ (AI (tN (sQ (sG (eK 2 Z (evE ?_)))))))))))));refine eK 2 Z ?_;refine gB (fun h2 => ?_) (fun h2 => ?_)
    ·
      simp only [HS] at h2;refine xK 2 Z (kZ [0,1,5,25,28] Z (xK 4 Z (nB (A8 Z (AC (tN (sG (bZ [] ?_))))))));refine nZ Z (eK 2 Z (Bd tys Z Z (AA Z) Z Z Z Z Z Z Z Z (by first | omega | (simp only [Sk]; omega)) (by first | omega | (simp only [Sk]; omega)) (by first | omega | (simp only [Sk]; omega)) ?_));refine AE tys Z Z (AA Z) Z Z Z Z Z (.own Z (by first | omega | (simp only [Sm]; omega))) Z (.read (FY _ _ _)) (by decide) (by simp; omega) (by decide) Z ?_;refine nZ Z (kZ [0,1,5,38] Z (eZ Z (nA (eK 2 Z (bZ [T.int n] ?_)))));refine nZ Z (AE tys Z Z (AA Z) Z Z Z Z Z (.own Z (by first | omega | (simp only [Sm]; omega))) Z (.own Z (by first | decide | omega)) (by decide) (by simp; omega) (by decide) Z ?_);refine nZ Z (eZ Z (nA (eK 3 Z (kZ [43,44,45] Z (Bd tys Z Z (AA Z) Z Z Z Z Z Z Z Z (by first | omega | (simp only [Sk]; omega)) (by first | omega | (simp only [Sk]; omega)) (by first | omega | (simp only [Sk]; omega)) ?_)))));refine AE tys Z Z (AA Z) Z Z Z Z Z (.own Z (by first | omega | (simp only [Sm]; omega))) Z (.read (FY _ _ _)) (by decide) (by simp; omega) (by decide) Z ?_;refine nZ Z (eZ Z (nB ?_))
      try (refine AQ (Le.gather (u := 4) (id := 34) rfl rfl (by first | (simp; done) | (simp; omega) | omega)) ?_; refine AU rfl ?_; refine AQ (Le.freeze (u := 4) rfl) ?_; refine AU rfl ?_)
      refine rT (eR ?_)
      · first
        | (have e := OH hr hk0 hk1 hk2 (fun h => by omega)
           refine QJ ?_;rw [← JQ e];simp only [Fs, Sy, Tp, List.length_nil, S7, List.take_nil]
           done)
    simp only [HS] at h2;refine xK 2 Z (kZ [0,1,5,25,26,27] Z (gY Z ?_));refine iY (k := ?_);refine xK 4 Z (nB ?_);refine AB Z (fun h3 => ?_) (fun h3 => ?_)
    ·
      simp only [HS] at h3;refine sG (eK 2 Z (nB ?_))
      try (refine AQ (Le.gather (u := 4) (id := 34) rfl rfl (by first | (simp; done) | (simp; omega) | omega)) ?_; refine AU rfl ?_; refine AQ (Le.freeze (u := 4) rfl) ?_; refine AU rfl ?_)
      refine rT (tR (eR ?_))
      · first
        | (exfalso; omega)
    simp only [HS] at h3;refine AC (tN (sG (bZ [] ?_)));refine nZ Z (eK 2 Z (Bd tys Z Z (AA Z) Z Z Z Z Z Z Z Z (by first | omega | (simp only [Sk]; omega)) (by first | omega | (simp only [Sk]; omega)) (by first | omega | (simp only [Sk]; omega)) ?_));refine kZ [0,1,5,34,37] Z (AE tys Z Z (AA Z) Z Z Z Z Z (.own Z (by first | omega | (simp only [Sm]; omega))) Z (.read (FY _ _ _)) (by decide) (by simp; omega) (by decide) Z ?_);refine nZ Z (eZ Z (nA (eK 2 Z (bZ [T.int n] ?_))));refine nZ Z (AE tys Z Z (AA Z) Z Z Z Z Z (.own Z (by first | omega | (simp only [Sm]; omega))) Z (.own Z (by first | decide | omega)) (by decide) (by simp; omega) (by decide) Z ?_);refine nZ Z (eZ Z (nB (sQ (kY [0,5,6] Z (rG (eK 3 Z (Bd tys Z Z (AA Z) Z Z Z Z Z Z Z Z (by first | omega | (simp only [Sk]; omega)) (by first | omega | (simp only [Sk]; omega)) (by first | omega | (simp only [Sk]; omega)) ?_)))))));refine AE tys Z Z (AA Z) Z Z Z Z Z (.own Z (by first | omega | (simp only [Sm]; omega))) Z (.read (FY _ _ _)) (by decide) (by simp; omega) (by decide) Z ?_;refine nZ Z (eZ Z (nB ?_))
    try (refine AQ (Le.gather (u := 4) (id := 34) rfl rfl (by first | (simp; done) | (simp; omega) | omega)) ?_; refine AU rfl ?_; refine AQ (Le.freeze (u := 4) rfl) ?_; refine AU rfl ?_)
    refine rT (eR ?_)
    · first
      | (exfalso; omega)
  simp only [HS] at h1;refine xK 2 Z (gY Z ?_);refine iY (k := ?_);refine xZ Z (kZ [0,1,5,7,8,9,10,11,12,13,14,15] Z (xK 3 Z (nB ?_)));refine AB Z (fun h2 => ?_) (fun h2 => ?_)
  ·
    simp only [HS] at h2;refine AC (tN (AD (rG (eZ Z (evI ?_)))));refine eZ Z (oN (bN ?_));refine lQ _ ?_ ?_
    · skip
      refine ⟨by omega, by omega, fun i hi h => ?_⟩
      by_cases hq : (i : Int) < k
      · exact hk2 i hi hq
      · obtain rfl : i = k.toNat := by omega
        exact h2
    · (show Int.toNat _ < Int.toNat _); omega
  simp only [HS] at h2;refine AN (tE (AJ (AI (tN (sQ (sG (eK 2 Z (evE ?_))))))));refine eK 2 Z ?_;refine gB (fun h3 => ?_) (fun h3 => ?_)
  ·
    simp only [HS] at h3;refine xZ Z (kZ [0,1,5,25,26,27] Z (xK 5 Z (nB (A8 Z (AC (tN (sG (bZ [] ?_))))))));refine nZ Z (eK 2 Z (Bd tys Z Z (AA Z) Z Z Z Z Z Z Z Z (by first | omega | (simp only [Sk]; omega)) (by first | omega | (simp only [Sk]; omega)) (by first | omega | (simp only [Sk]; omega)) ?_));refine kZ [0,1,5,34,37] Z (AE tys Z Z (AA Z) Z Z Z Z Z (.own Z (by first | omega | (simp only [Sm]; omega))) Z (.read (FY _ _ _)) (by decide) (by simp; omega) (by decide) Z ?_);refine nZ Z (eZ Z (nA (eK 2 Z (bZ [T.int n] ?_))));refine nZ Z (AE tys Z Z (AA Z) Z Z Z Z Z (.own Z (by first | omega | (simp only [Sm]; omega))) Z (.own Z (by first | decide | omega)) (by decide) (by simp; omega) (by decide) Z ?_);refine nZ Z (eZ Z (nB (sQ (kY [0,5,6] Z (rG (eK 3 Z (Bd tys Z Z (AA Z) Z Z Z Z Z Z Z Z (by first | omega | (simp only [Sk]; omega)) (by first | omega | (simp only [Sk]; omega)) (by first | omega | (simp only [Sk]; omega)) ?_)))))));refine AE tys Z Z (AA Z) Z Z Z Z Z (.own Z (by first | omega | (simp only [Sm]; omega))) Z (.read (FY _ _ _)) (by decide) (by simp; omega) (by decide) Z ?_;refine nZ Z (eZ Z (nB ?_))
    try (refine AQ (Le.gather (u := 4) (id := 34) rfl rfl (by first | (simp; done) | (simp; omega) | omega)) ?_; refine AU rfl ?_; refine AQ (Le.freeze (u := 4) rfl) ?_; refine AU rfl ?_)
    refine rT (eR ?_)
    · first
      | (exfalso; omega)
  simp only [HS] at h3;refine xK 2 Z (kZ [0,1,5,25,26,27] Z (gY Z ?_));refine iY (k := ?_);refine xK 4 Z (nB ?_);refine AB Z (fun h4 => ?_) (fun h4 => ?_)
  ·
    simp only [HS] at h4;refine sG (eK 2 Z (nB ?_))
    try (refine AQ (Le.gather (u := 4) (id := 34) rfl rfl (by first | (simp; done) | (simp; omega) | omega)) ?_; refine AU rfl ?_; refine AQ (Le.freeze (u := 4) rfl) ?_; refine AU rfl ?_)
    refine rT (tR (eR ?_))
    · first
      | (refine QJ ?_; rw [QO hk0 (by omega) (by assumption)]; done)
  simp only [HS] at h4;refine AC (tN (sG (bZ [] ?_)));refine nZ Z (eK 2 Z (Bd tys Z Z (AA Z) Z Z Z Z Z Z Z Z (by first | omega | (simp only [Sk]; omega)) (by first | omega | (simp only [Sk]; omega)) (by first | omega | (simp only [Sk]; omega)) ?_));refine kZ [0,1,5,34,37] Z (AE tys Z Z (AA Z) Z Z Z Z Z (.own Z (by first | omega | (simp only [Sm]; omega))) Z (.read (FY _ _ _)) (by decide) (by simp; omega) (by decide) Z ?_);refine nZ Z (eZ Z (nA (eK 2 Z (bZ [T.int n] ?_))));refine nZ Z (AE tys Z Z (AA Z) Z Z Z Z Z (.own Z (by first | omega | (simp only [Sm]; omega))) Z (.own Z (by first | decide | omega)) (by decide) (by simp; omega) (by decide) Z ?_);refine nZ Z (eZ Z (nB (sQ (kY [0,5,6] Z (rG (eK 3 Z (Bd tys Z Z (AA Z) Z Z Z Z Z Z Z Z (by first | omega | (simp only [Sk]; omega)) (by first | omega | (simp only [Sk]; omega)) (by first | omega | (simp only [Sk]; omega)) ?_)))))));refine AE tys Z Z (AA Z) Z Z Z Z Z (.own Z (by first | omega | (simp only [Sm]; omega))) Z (.read (FY _ _ _)) (by decide) (by simp; omega) (by decide) Z ?_;refine nZ Z (eZ Z (nB ?_))
  try (refine AQ (Le.gather (u := 4) (id := 34) rfl rfl (by first | (simp; done) | (simp; omega) | omega)) ?_; refine AU rfl ?_; refine AQ (Le.freeze (u := 4) rfl) ?_; refine AU rfl ?_)
  refine rT (eR ?_)
  · first
    | (have e := OH hr hk0 hk1 hk2 (fun h => by omega)
       refine QJ ?_;rw [← JQ e];simp only [Fs, Sy, Tp, List.length_nil, S7, List.take_nil]
       done)
theorem funcAt_mem {p : Prog} (n : Int) : funcAt p n ∈ p.funcs ∨ funcAt p n = ⟨0, 0, [], []⟩ := by
 unfold funcAt
 cases e : p.funcs[n.toNat]? with
 | none => exact .inr rfl
 | some f => exact .inl (TJ e)
theorem D6 {p : Prog} (h : AS p = true) (n : Int) : ∀ x, x ∈ Mb p n → 0 ≤ x ∧ x < p.funcs.length := by
 intro x hx;unfold Mb at hx
 rcases funcAt_mem (p := p) n with hm | hm
 ·obtain ⟨k, hk, he⟩ := TH hm
  have := Nt (DP h hk) x (by rw [he]; exact hx)
  rwa [BL] at this
 ·rw [hm] at hx; cases hx
theorem CI {p : Prog} (h : AS p = true) : InN p.funcs.length (BF p) := fun a c hc => D6 h a c (mem_setN.1 hc).2
theorem Ht (p : Prog) (n : Int) : (BF p n).length ≤ 5 := C4 ..
theorem GO (N : Nat) (l : List Int) : (HF N l).Pairwise (· < ·) := CR ..
theorem Ft (N : Nat) (l : List Int) : (HF N l).length ≤ N := C4 ..
theorem retTB {a b : List Int} (h : a = b) : [D.t (.list 1 (a.map T.int)), D.t (T.v (.bool true))] = [D.t (T.ints b), D.t (T.bool true)] := by subst h; rfl
theorem KC (p : Prog) (fn : Int) (hp : p.ok 1048576) (hg : AS p = true) (hn0 : 0 ≤ fn) (hn1 : fn < p.funcs.length) : Fun Try.prog 109 [.t p.tt, .t (.int fn)] (A2 [.t (T.ints (BF p fn)), .t (.bool true)]) := by
 have hgl := AX hg
 refine Fun.begin tys Try.func109 Z Z (N := 58) [(0, .t p.tt), (1, .t (.int fn))] Z Z (fun w0 G F0 => ?_);refine sG (AV Z Z (AA Z) Z Z (nZ Z (eK 2 Z (nB (sQ (sG (eZ Z ?_)))))))
 try refine WO_le (Le.freeze (u := 11) rfl) ?_
 refine nZ Z (AM ?_);refine ⟨_, Co p hp, rfl, ?_⟩;refine WO_le (Le.known (t := 12) true Z (hg)) (xK 4 Z (kZ [1,2,4,5,14,15,16] Z (xZ Z (gY Z (evE ?_)))));refine gY Z (evI ?_);refine gY Z (AM ?_);refine ⟨_, BB _ _ _, rfl, ?_⟩;refine WO_le (Le.known (t := 20) true Z (by simp; omega)) ?_;refine xK 2 Z (nB (A8 Z (AC (tN (sG (eZ Z (WO_le (Le.nilT (u := 6) 1 Z) (nZ Z (nB (sQ (sQ (kY [1,2,4,5,6] Z (rG (eK 3 Z ?_))))))))))))));refine iY (k := ?_)
 have hff := B5 hp (n := fn.toNat) (by omega)
 have hfs := D6 hg fn
 have hfc : BF p fn = HF 5 (ET (p.funcs[fn.toNat]'(by omega)).stmts) := by rw [BF, Mb, ← Ax (by omega)]
 unfold Mb at hfs;rw [← Ax (by omega)] at hfs
 revert hff hfs hfc
 generalize p.funcs[fn.toNat]'(by omega) = f;intro hff hfs hfc
 have hl : f.stmts.length ≤ 1048576 := hff.2.1.1
 refine eK 2 Z (evE ?_);refine eZ Z (nB (AD ?_));refine lK (α := Int × List Int) [28, 29] [] (fun x => [(30, .t (.int (x.1))), (6, .t (T.ints (x.2)))]) (fun x => []) (fun x => 0 ≤ (x.1) ∧ (x.1) ≤ f.stmts.length ∧ (x.2) = HF 5 (ET (f.stmts.take (x.1).toNat))) (fun x => Int.toNat (f.stmts.length - (x.1))) (0, []) ?_ (fun x hx => ?_)
 ·exact ⟨by omega, by omega, (P9 5).symm⟩
 obtain ⟨k, out⟩ := x
 obtain ⟨hk0, hk1, hout⟩ := hx
 dsimp only at hk0 hk1 hout ⊢;refine nY Z (sG (eZ Z (nB (sQ ?_))));refine AB Z (fun h1 => ?_) (fun h1 => ?_)
 ·
  simp only [HS] at h1;refine AC (tN (sQ (AD (sG ?_))));refine iY (k := ?_);refine eZ Z ?_
  try refine WO_le (Le.freeze (u := 33) rfl) ?_
  refine nZ Z (AF tys Z Z (AA Z) Z Z Z (nZ Z (sT Z (nZ Z (nB (sQ (sG (eK 3 Z (nB ?_)))))))));refine A4 (α := List Int) [8, 28, 29, 30, 31, 32, 33, 34, 35, 36] [8] (fun x => [(6, .t (T.ints x))]) (fun x => []) (fun x => x = HF 5 (ET (f.stmts.take k.toNat) ++ d3 (f.stmts[k.toNat]'(by omega)))) ?_ (fun o2 hx => ?_)
  ·
   refine AB Z (fun h2 => ?_) (fun h2 => ?_)
   ·
    simp only [HS] at h2;refine kY [6,8,28,29,30,31,32,33,34,35,36] Z (rG ?_)
    have hn := H6 hfs (n := k.toNat) (by omega) h2
    refine eK 3 Z (CA Z Z (AA Z) Z Z Z Z Z (Gk _ _ (by rw [hout]; exact TQ (Ft _ _) (by decide)) (by rw [hout]; exact GO _ _)) Z ?_);refine eZ Z (oN (jQ _ ?_))
    first
    | (rw [hout, H4 hn.1 (by omega), d3, if_pos h2]; done)
   simp only [HS] at h2;refine AC (jQ _ ?_)
   first
   | (rw [hout, d3, if_neg h2, S3]; done)
  have ho2 := hx
  refine tN (sQ (kY [6,8,28,29,30,31,32,33,34,35,36] Z (rG ?_)))
  have hel := (Bw hff (n := k.toNat) (by omega)).2.2
  refine eK 2 Z (evE ?_);refine eZ Z (nB (AD ?_));refine lK (α := Int × List Int) [28, 29, 30, 42, 43] [] (fun x => [(44, .t (.int (x.1))), (6, .t (T.ints (x.2)))]) (fun x => []) (fun x => 0 ≤ (x.1) ∧ (x.1) ≤ (f.stmts[k.toNat]'(by omega)).ex.length ∧ (x.2) = HF 5 (ET (f.stmts.take k.toNat) ++ d3 (f.stmts[k.toNat]'(by omega)) ++ Io ((f.stmts[k.toNat]'(by omega)).ex.take (x.1).toNat))) (fun x => Int.toNat ((f.stmts[k.toNat]'(by omega)).ex.length - (x.1))) (0, o2) ?_ (fun x hx => ?_)
  ·exact ⟨by omega, by omega, by rw [ho2]; simp [Io]⟩
  obtain ⟨j, o3⟩ := x
  obtain ⟨hj0, hj1, ho3⟩ := hx
  dsimp only at hj0 hj1 ho3 ⊢;refine nY Z (sG (eZ Z (nB (sQ ?_))));refine AB Z (fun h2 => ?_) (fun h2 => ?_)
  ·
   simp only [HS] at h2;refine AC (tN (sQ (AD (sG ?_))));refine iY (k := ?_);refine eZ Z ?_
   try refine WO_le (Le.freeze (u := 47) rfl) ?_
   refine nZ Z (AF tys Z Z (AA Z) Z Z Z (nZ Z (sT Z (nZ Z (nA (eK 3 Z (nB ?_)))))));refine AB Z (fun h3 => ?_) (fun h3 => ?_)
   ·
    simp only [HS] at h3;refine kY [6,10,28,29,30,42,43,44,45,46,47,48,49,50] Z (rG ?_)
    have hn := H5 hfs (n := k.toNat) (by omega) (j := j.toNat) (by omega) h3
    refine eK 3 Z (CA Z Z (AA Z) Z Z Z Z Z (Gk _ _ (by rw [ho3]; exact TQ (Ft _ _) (by decide)) (by rw [ho3]; exact GO _ _)) Z ?_);refine eZ Z (oN (bN (tN (rG (evI ?_)))));refine eZ Z (oN ?_);refine lQ (_, _) ?_ ?_
    ·dsimp only
     first
     | (refine ⟨by omega, by omega, ?_⟩; rw [ho3, H4 hn.1 (by omega), Hz hj0 (by omega), if_pos h3, S4]; done)
    ·(show Int.toNat _ < Int.toNat _); omega
   simp only [HS] at h3;refine AC (bN (tN (kY [6,10,28,29,30,42,43,44,45,46,47,48,49,50] Z (rG (evI ?_)))));refine eZ Z (oN ?_);refine lQ (_, _) ?_ ?_
   ·dsimp only
    first
    | (refine ⟨by omega, by omega, ?_⟩; rw [ho3, Hz hj0 (by omega), if_neg h3, S3]; done)
   ·(show Int.toNat _ < Int.toNat _); omega
  simp only [HS] at h2;refine AN (tE (AJ (AI (bN (tN (rG (evI ?_)))))));refine eZ Z (oN ?_);refine lQ (_, _) ?_ ?_
  ·dsimp only
   exact ⟨by omega, by omega, by rw [ho3, Nu hk0 (by omega), A5 (l := (f.stmts[k.toNat]'(by omega)).ex) (k := j) (by omega), S4]⟩
  ·(show Int.toNat _ < Int.toNat _); omega
 simp only [HS] at h1;refine AN (tE (AJ (AI (tN (sG (eK 3 Z (nB (rT (eR ?_)))))))))
 ·exact retTB (by rw [hout, hfc, A5 (by omega)])
theorem Jp (p : Prog) (fn : Int) (hp : p.ok 1048576) (hg : AS p = true) (hn0 : 0 ≤ fn) (hn1 : fn < p.funcs.length) : Fun Try.prog 89 [.t p.tt, .t (.int fn)] (A2 [.t (T.ints (BF p fn))]) := by
 refine Fun.begin tys Try.func89 Z Z (N := 14) [(0, .t p.tt), (1, .t (.int fn))] Z Z (fun w0 G F0 => ?_);refine sG (AV Z Z (AA Z) Z Z (nZ Z (eZ Z (nA (eZ Z ?_)))))
 try refine WO_le (Le.freeze (u := 8) rfl) ?_
 refine nZ Z (eZ Z (CA Z Z (AA Z) Z Z Z Z Z (KC p fn hp hg hn0 hn1) Z (eZ Z (WO_evF tys Z Z (AA Z) (d := .t _) Z (nZ Z (WO_evF tys Z Z (AA Z) (d := .t _) Z (nZ Z (eZ Z (kZ [4,5,12] Z (eZ Z (nA (eK 2 Z (nB (rT (eR ?_)))))))))))))))
 ·rfl
end Go.Proofs.Ytddfnpiikkilhaa
