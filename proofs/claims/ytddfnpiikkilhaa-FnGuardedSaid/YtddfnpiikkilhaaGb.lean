/- Walks and laws of the claim. -/
import Derived.Test.YtddfnpiikkilhaaFe
import Derived.Test.YtddfnpiikkilhaaMc
import Derived.Test.YtddfnpiikkilhaaFa
import Derived.Test.YtddfnpiikkilhaaMb
import Derived.Test.YtddfnpiikkilhaaMd
import Derived.Test.YtddfnpiikkilhaaMe
set_option linter.unusedVariables false
set_option linter.unusedSimpArgs false
set_option maxRecDepth 10000
set_option maxHeartbeats 1000000
namespace Go.Proofs.Ytddfnpiikkilhaa
open Go.Eng
open Go.Eng
def Bp (s : Stmt) : Int := (s.thn.length : Int) + s.els.length
def Aa (vars : Int) (ps : List Int) (s : Stmt) : Bool :=
 if s.kind = 1 then Bx vars ps s.ex && (decide (0 ≤ s.n ∧ s.n ≤ vars - 1) && decide (Bp s = 0))
 else if s.kind = 2 ∨ s.kind = 4 ∨ s.kind = 5 ∨ s.kind = 9 then Bx vars ps s.ex && (decide (s.n = 0) && decide (Bp s = 0))
 else if s.kind = 3 then decide ((s.ex.length : Int) = 0) && (decide (0 ≤ s.n ∧ s.n ≤ (ps.length : Int) - 1) && decide (Bp s = 0))
 else if s.kind = 6 then decide ((s.ex.length : Int) = 0) && (decide (s.n = 0) && decide (Bp s = 0))
 else if s.kind = 7 then Bx vars ps s.ex && decide (s.n = 0)
 else if s.kind = 8 then Bx vars ps s.ex && (decide (s.n = 0) && decide ((s.els.length : Int) = 0))
 else false
def Av (vars : Int) (ps : List Int) (s : Stmt) : Bool := Aa vars ps s && (if s.kind = 3 then decide (atI ps s.n = 0) else true)
theorem LG (f : Func) (s : Stmt) (ps : List Int) (hs : s.ok 1048576) (hv : 0 ≤ f.vars ∧ f.vars ≤ 6) (hp : Lm ps) (hpb : BJ ps = true) : Fun Try.prog 108 [.t f.tt, .t s.tt, .t (T.ints ps)] (A5 [.t (.bool (Aa f.vars ps s))]) := by
 have hp1 := hp.1
 have hs1 : s.ex.length ≤ 1048576 := hs.1
 have hs2 : s.thn.length ≤ 1048576 := hs.2.1
 have hs3 : s.els.length ≤ 1048576 := hs.2.2.1
 refine Fun.begin tys Try.func108 Z Z (N := 115) [(0, .t f.tt), (1, .t s.tt), (2, .t (T.ints ps))] Z Z (fun w0 G F0 => ?_);refine sG (Af Z Z (AA Z) Z Z (nZ Z (Af Z Z (AA Z) Z Z (nZ Z (eZ Z (nA (eK 5 Z (AQ ?_))))))));refine ⟨_, IY _ _ _ hv hp hpb hs1, rfl, ?_⟩;refine kZ [2,3,4,6,14] Z (eZ Z (nA (eK 4 Z ?_)));refine gB (fun h1 => ?_) (fun h1 => ?_)
 ·
  simp only [HS] at h1;refine xK 4 Z (kZ [2,3,4,6,7,18,21,23] Z (xK 5 Z (nB (sQ (sG (eK 2 Z (nB (AF (sQ (kY [2,3,4,6,7,8,29] Z (rG (eK 2 Z (nB ?_)))))))))))));refine AD Z (fun h2 => ?_) (fun h2 => ?_)
  ·
   simp only [HS] at h2;refine sG (eK 2 Z ?_);refine gB (fun h3 => ?_) (fun h3 => ?_)
   ·
    simp only [HS] at h3;refine xK 5 Z (kZ [4,6,33,39] Z (xK 9 Z (kZ [6,41,48] Z (xK 3 Z (nB (rT (bR (tR (eR ?_)))))))))
    ·exact As (by grind [Aa, Bp])
   refine xK 4 Z (gY Z (evI ?_));refine kZ [4,6,33,35,38] Z (gY Z (AQ ?_));refine ⟨_, A6 _ _ _, rfl, ?_⟩;refine eK 2 Z ?_;refine gB (fun h4 => ?_) (fun h4 => ?_)
   ·
    simp only [HS] at h4;refine xK 6 Z (kZ [6,41,48] Z (xK 3 Z (nB (rT (bR (tR (eR ?_)))))))
    ·exact As (by grind [Aa, Bp])
   simp only [HS] at h4;refine xK 2 Z (gY Z (evE ?_));refine xK 2 Z (gY Z (evE ?_));refine kZ [6,41,44,47] Z (gY Z (evI ?_));refine xK 3 Z (nB (rT (bR (tR (eR ?_)))))
   ·exact As (by grind [Aa, Bp])
  simp only [HS] at h2;refine sQ (sG (eK 2 Z (nB ?_)));refine A1 (α := Bool) [2, 4, 6, 7, 8, 29] [3, 4] (fun x => [(51, .t (.bool x))]) (fun x => []) (fun x => x = decide (s.kind = 2 ∨ s.kind = 4 ∨ s.kind = 5 ∨ s.kind = 9)) ?_ (fun b hx => ?_)
  ·
   refine AD Z (fun h3 => ?_) (fun h3 => ?_)
   ·
    simp only [HS] at h3;refine AE (jQ _ ?_)
    grind
   simp only [HS] at h3;refine sG (eK 2 Z (nB ?_));refine AD Z (fun h4 => ?_) (fun h4 => ?_)
   ·
    simp only [HS] at h4;refine AE (jQ _ ?_)
    grind
   simp only [HS] at h4;refine sG (eK 2 Z (nB ?_));refine AD Z (fun h5 => ?_) (fun h5 => ?_)
   ·
    simp only [HS] at h5;refine AE (jQ _ ?_)
    grind
   simp only [HS] at h5;refine kY [2,4,6,7,8,29,51] Z (rG (eK 2 Z (oN (jQ _ ?_))))
   grind
  have hb := hx
  refine tN ?_;refine AD Z (fun h3 => ?_) (fun h3 => ?_)
  ·
   refine sQ (kY [6,7,8] Z (rG (eK 2 Z ?_)));refine gB (fun h4 => ?_) (fun h4 => ?_)
   ·
    simp only [HS] at h4;refine eK 2 Z (nB (rT (bR (tR (eR ?_)))))
    ·exact As (by grind [Aa, Bp])
   refine eK 3 Z (nB (rT (bR (tR (eR ?_)))))
   ·exact As (by grind [Aa, Bp])
  refine sQ (kY [2,4,6,7,8,29] Z (rG (eK 2 Z (nB ?_))));refine AD Z (fun h4 => ?_) (fun h4 => ?_)
  ·
   simp only [HS] at h4;refine sG (eK 2 Z (evE ?_));refine eK 2 Z ?_;refine gB (fun h5 => ?_) (fun h5 => ?_)
   ·
    simp only [HS] at h5;refine xK 2 Z (kZ [4,6,66,68,69] Z (xK 9 Z (kZ [6,74,77,78] Z (xK 6 Z (nB (rT (bR (tR (eR ?_)))))))))
    ·exact As (by grind [Aa, Bp])
   simp only [HS] at h5;refine xK 2 Z (kZ [2,4,6,66,68] Z (xZ Z (gY Z (evE ?_))));refine gY Z (evI ?_);refine gY Z (AQ ?_);refine ⟨_, A6 _ _ _, rfl, ?_⟩;refine eK 2 Z ?_;refine gB (fun h6 => ?_) (fun h6 => ?_)
   ·
    simp only [HS] at h6;refine xK 3 Z (kZ [6,74,77,78] Z (xK 6 Z (nB (rT (bR (tR (eR ?_)))))))
    ·exact As (by grind [Aa, Bp])
   simp only [HS] at h6;refine xK 2 Z (gY Z (evE ?_));refine kZ [4,6,74,77] Z (xK 2 Z (gY Z (evE ?_)));refine gY Z (evI ?_);refine xK 3 Z (nB (rT (bR (tR (eR ?_)))))
   ·exact As (by grind [Aa, Bp])
  simp only [HS] at h4;refine sG (eK 2 Z (nB ?_));refine AD Z (fun h5 => ?_) (fun h5 => ?_)
  ·
   simp only [HS] at h5;refine sG (eK 2 Z (evE ?_));refine eK 2 Z (kZ [6,8,90] Z ?_);refine gB (fun h6 => ?_) (fun h6 => ?_)
   ·
    simp only [HS] at h6;refine eK 2 Z (nB (rT (bR (tR (eR ?_)))))
    ·exact As (by grind [Aa, Bp])
   simp only [HS] at h6;refine eK 3 Z (nB (rT (bR (tR (eR ?_)))))
   ·exact As (by grind [Aa, Bp])
  simp only [HS] at h5;refine sG (eK 2 Z (nB ?_));refine AD Z (fun h6 => ?_) (fun h6 => ?_)
  ·
   simp only [HS] at h6;refine sG (eK 2 Z ?_);refine gB (fun h7 => ?_) (fun h7 => ?_)
   ·
    simp only [HS] at h7;refine xZ Z (kZ [6,96,98] Z (xK 3 Z (nB (rT (bR (tR (eR ?_)))))))
    ·exact As (by grind [Aa, Bp])
   refine xK 2 Z (kZ [6,96,98] Z (xK 3 Z (nB (rT (bR (tR (eR ?_)))))))
   ·exact As (by grind [Aa, Bp])
  simp only [HS] at h6;refine sG (eK 2 Z (nB ?_));refine AD Z (fun h7 => ?_) (fun h7 => ?_)
  ·
   simp only [HS] at h7;refine sQ (kY [4,6,7] Z (rG (eK 2 Z ?_)));refine gB (fun h8 => ?_) (fun h8 => ?_)
   ·
    simp only [HS] at h8;refine xK 7 Z (kZ [6,109,112] Z (xK 3 Z (nB (rT (bR (tR (eR ?_)))))))
    ·exact As (by grind [Aa, Bp])
   refine xK 5 Z ?_;refine gB (fun h9 => ?_) (fun h9 => ?_)
   ·
    simp only [HS] at h9;refine xK 2 Z (kZ [6,109,112] Z (xK 3 Z (nB (rT (bR (tR (eR ?_)))))))
    ·exact As (by grind [Aa, Bp])
   simp only [HS] at h9;refine xK 2 Z (kZ [6,109,111] Z (gY Z (evE ?_)));refine xK 3 Z (nB (rT (bR (tR (eR ?_)))))
   ·exact As (by grind [Aa, Bp])
  simp only [HS] at h7;refine AE (bN (tN (sQ (kY [6] Z (rG (eZ Z (nB (rT (eR ?_)))))))))
  ·exact As (by grind [Aa, Bp])
 simp only [HS] at h1;refine xK 2 Z (gY Z (evE ?_));refine xZ Z (kZ [2,3,4,6,7,18,21,22] Z (xZ Z (gY Z (evE ?_))));refine gY Z (evI ?_);refine xK 3 Z (nB (sQ (sG (eK 2 Z (nB (AF (sQ (kY [2,3,4,6,7,8,29] Z (rG (eK 2 Z (nB ?_)))))))))));refine AD Z (fun h2 => ?_) (fun h2 => ?_)
 ·
  simp only [HS] at h2;refine sG (eK 2 Z ?_);refine gB (fun h3 => ?_) (fun h3 => ?_)
  ·
   simp only [HS] at h3;refine xK 5 Z (kZ [4,6,33,39] Z (xK 9 Z (kZ [6,41,48] Z (xK 3 Z (nB (rT (bR (tR (eR ?_)))))))))
   ·exact As (by grind [Aa, Bp])
  refine xK 4 Z (gY Z (evI ?_));refine kZ [4,6,33,35,38] Z (gY Z (AQ ?_));refine ⟨_, A6 _ _ _, rfl, ?_⟩;refine eK 2 Z ?_;refine gB (fun h4 => ?_) (fun h4 => ?_)
  ·
   simp only [HS] at h4;refine xK 6 Z (kZ [6,41,48] Z (xK 3 Z (nB (rT (bR (tR (eR ?_)))))))
   ·exact As (by grind [Aa, Bp])
  simp only [HS] at h4;refine xK 2 Z (gY Z (evE ?_));refine xK 2 Z (gY Z (evE ?_));refine kZ [6,41,44,47] Z (gY Z (evI ?_));refine xK 3 Z (nB (rT (bR (tR (eR ?_)))))
  ·exact As (by grind [Aa, Bp])
 simp only [HS] at h2;refine sQ (sG (eK 2 Z (nB ?_)));refine A1 (α := Bool) [2, 4, 6, 7, 8, 29] [3, 4] (fun x => [(51, .t (.bool x))]) (fun x => []) (fun x => x = decide (s.kind = 2 ∨ s.kind = 4 ∨ s.kind = 5 ∨ s.kind = 9)) ?_ (fun b hx => ?_)
 ·
  refine AD Z (fun h3 => ?_) (fun h3 => ?_)
  ·
   simp only [HS] at h3;refine AE (jQ _ ?_)
   grind
  simp only [HS] at h3;refine sG (eK 2 Z (nB ?_));refine AD Z (fun h4 => ?_) (fun h4 => ?_)
  ·
   simp only [HS] at h4;refine AE (jQ _ ?_)
   grind
  simp only [HS] at h4;refine sG (eK 2 Z (nB ?_));refine AD Z (fun h5 => ?_) (fun h5 => ?_)
  ·
   simp only [HS] at h5;refine AE (jQ _ ?_)
   grind
  simp only [HS] at h5;refine kY [2,4,6,7,8,29,51] Z (rG (eK 2 Z (oN (jQ _ ?_))))
  grind
 have hb := hx
 refine tN ?_;refine AD Z (fun h3 => ?_) (fun h3 => ?_)
 ·
  refine sQ (kY [6,7,8] Z (rG (eK 2 Z ?_)));refine gB (fun h4 => ?_) (fun h4 => ?_)
  ·
   simp only [HS] at h4;refine eK 2 Z (nB (rT (bR (tR (eR ?_)))))
   ·exact As (by grind [Aa, Bp])
  refine eK 3 Z (nB (rT (bR (tR (eR ?_)))))
  ·exact As (by grind [Aa, Bp])
 refine sQ (kY [2,4,6,7,8,29] Z (rG (eK 2 Z (nB ?_))));refine AD Z (fun h4 => ?_) (fun h4 => ?_)
 ·
  simp only [HS] at h4;refine sG (eK 2 Z (evE ?_));refine eK 2 Z ?_;refine gB (fun h5 => ?_) (fun h5 => ?_)
  ·
   simp only [HS] at h5;refine xK 2 Z (kZ [4,6,66,68,69] Z (xK 9 Z (kZ [6,74,77,78] Z (xK 6 Z (nB (rT (bR (tR (eR ?_)))))))))
   ·exact As (by grind [Aa, Bp])
  simp only [HS] at h5;refine xK 2 Z (kZ [2,4,6,66,68] Z (xZ Z (gY Z (evE ?_))));refine gY Z (evI ?_);refine gY Z (AQ ?_);refine ⟨_, A6 _ _ _, rfl, ?_⟩;refine eK 2 Z ?_;refine gB (fun h6 => ?_) (fun h6 => ?_)
  ·
   simp only [HS] at h6;refine xK 3 Z (kZ [6,74,77,78] Z (xK 6 Z (nB (rT (bR (tR (eR ?_)))))))
   ·exact As (by grind [Aa, Bp])
  simp only [HS] at h6;refine xK 2 Z (gY Z (evE ?_));refine kZ [4,6,74,77] Z (xK 2 Z (gY Z (evE ?_)));refine gY Z (evI ?_);refine xK 3 Z (nB (rT (bR (tR (eR ?_)))))
  ·exact As (by grind [Aa, Bp])
 simp only [HS] at h4;refine sG (eK 2 Z (nB ?_));refine AD Z (fun h5 => ?_) (fun h5 => ?_)
 ·
  simp only [HS] at h5;refine sG (eK 2 Z (evE ?_));refine eK 2 Z (kZ [6,8,90] Z ?_);refine gB (fun h6 => ?_) (fun h6 => ?_)
  ·
   simp only [HS] at h6;refine eK 2 Z (nB (rT (bR (tR (eR ?_)))))
   ·exact As (by grind [Aa, Bp])
  simp only [HS] at h6;refine eK 3 Z (nB (rT (bR (tR (eR ?_)))))
  ·exact As (by grind [Aa, Bp])
 simp only [HS] at h5;refine sG (eK 2 Z (nB ?_));refine AD Z (fun h6 => ?_) (fun h6 => ?_)
 ·
  simp only [HS] at h6;refine sG (eK 2 Z ?_);refine gB (fun h7 => ?_) (fun h7 => ?_)
  ·
   simp only [HS] at h7;refine xZ Z (kZ [6,96,98] Z (xK 3 Z (nB (rT (bR (tR (eR ?_)))))))
   ·exact As (by grind [Aa, Bp])
  refine xK 2 Z (kZ [6,96,98] Z (xK 3 Z (nB (rT (bR (tR (eR ?_)))))))
  ·exact As (by grind [Aa, Bp])
 simp only [HS] at h6;refine sG (eK 2 Z (nB ?_));refine AD Z (fun h7 => ?_) (fun h7 => ?_)
 ·
  simp only [HS] at h7;refine sQ (kY [4,6,7] Z (rG (eK 2 Z ?_)));refine gB (fun h8 => ?_) (fun h8 => ?_)
  ·
   simp only [HS] at h8;refine xK 7 Z (kZ [6,109,112] Z (xK 3 Z (nB (rT (bR (tR (eR ?_)))))))
   ·exact As (by grind [Aa, Bp])
  refine xK 5 Z ?_;refine gB (fun h9 => ?_) (fun h9 => ?_)
  ·
   simp only [HS] at h9;refine xK 2 Z (kZ [6,109,112] Z (xK 3 Z (nB (rT (bR (tR (eR ?_)))))))
   ·exact As (by grind [Aa, Bp])
  simp only [HS] at h9;refine xK 2 Z (kZ [6,109,111] Z (gY Z (evE ?_)));refine xK 3 Z (nB (rT (bR (tR (eR ?_)))))
  ·exact As (by grind [Aa, Bp])
 simp only [HS] at h7;refine AE (bN (tN (sQ (kY [6] Z (rG (eZ Z (nB (rT (eR ?_)))))))))
 ·exact As (by grind [Aa, Bp])
theorem LN (f : Func) (s : Stmt) (ps : List Int) (hs : s.ok 1048576) (hn : 0 ≤ s.n) (hv : 0 ≤ f.vars ∧ f.vars ≤ 6) (hp : Lm ps) : Fun Try.prog 71 [.t f.tt, .t s.tt, .t (T.ints ps)] (A5 [.t (.bool (Av f.vars ps s))]) := by
 have hp1 := hp.1
 have hs1 : s.ex.length ≤ 1048576 := hs.1
 have hs2 : s.thn.length ≤ 1048576 := hs.2.1
 have hs3 : s.els.length ≤ 1048576 := hs.2.2.1
 refine Fun.begin tys Try.func71 Z Z (N := 97) [(0, .t f.tt), (1, .t s.tt), (2, .t (T.ints ps))] Z Z (fun w0 G F0 => ?_);refine sG (Af Z Z (AA Z) Z Z (nZ Z (Af Z Z (AA Z) Z Z (nZ Z (eZ Z (nB (sQ (sQ ?_))))))));refine A1 (α := Bool) [2, 3, 4, 6] [3, 4] (fun x => [(37, .t (.bool x))]) (fun x => []) (fun x => x = (!decide (1 ≤ s.kind ∧ s.kind ≤ 9) || ((decide (¬ s.kind = 7) && decide (0 < s.els.length)) || (decide (¬ s.kind = 7) && (decide (¬ s.kind = 8) && decide (0 < s.thn.length)))))) ?_ (fun bb hx => ?_)
 ·
  refine rG (eK 2 Z (AQ ?_));refine ⟨_, Al _ _ _, rfl, ?_⟩;refine eK 2 Z ?_;refine gB (fun h1 => ?_) (fun h1 => ?_)
  ·
   simp only [HS] at h1;refine xZ Z (kZ [2,3,4,6,11,13] Z (xK 9 Z (kZ [2,3,4,6,22] Z (xK 9 Z (kZ [2,3,4,6,22,31] Z (xK 6 Z (oN (jQ _ ?_))))))))
   simp_all
   omega
  simp only [HS] at h1;refine xK 2 Z (kZ [2,3,4,6,11,13] Z (xK 2 Z ?_));refine gB (fun h2 => ?_) (fun h2 => ?_)
  ·
   simp only [HS] at h2;refine xK 7 Z (kZ [2,3,4,6,22,23] Z (xK 3 Z ?_));refine gB (fun h3 => ?_) (fun h3 => ?_)
   ·
    simp only [HS] at h3;refine xK 6 Z (kZ [2,3,4,6,22,31,33] Z (xK 4 Z (oN (jQ _ ?_))))
    simp_all
    done
   simp only [HS] at h3;refine xK 5 Z ?_;refine gB (fun h4 => ?_) (fun h4 => ?_)
   ·
    simp only [HS] at h4;refine xZ Z (kZ [2,3,4,6,22,31,33] Z (xK 4 Z (oN (jQ _ ?_))))
    simp_all
    done
   simp only [HS] at h4;refine xK 2 Z (kZ [2,3,4,6,22,31,33] Z (gY Z (evE ?_)));refine xK 3 Z (oN (jQ _ ?_))
   simp_all
   done
  simp only [HS] at h2;refine xK 2 Z (gY Z (evE ?_));refine xK 4 Z (kZ [2,3,4,6,22] Z ?_);refine gB (fun h3 => ?_) (fun h3 => ?_)
  ·
   simp only [HS] at h3;refine xK 9 Z (kZ [2,3,4,6,22,31,32] Z (xK 5 Z (oN (jQ _ ?_))))
   simp_all
   done
  simp only [HS] at h3;refine xK 4 Z ?_;refine gB (fun h4 => ?_) (fun h4 => ?_)
  ·
   simp only [HS] at h4;refine xK 5 Z (kZ [2,3,4,6,22,31,32] Z (xK 5 Z (oN (jQ _ ?_))))
   simp_all
   done
  simp only [HS] at h4;refine xK 5 Z (kZ [2,3,4,6,22,31] Z ?_);refine gB (fun h5 => ?_) (fun h5 => ?_)
  ·
   simp only [HS] at h5;refine xK 5 Z (oN (jQ _ ?_))
   simp_all
   done
  simp only [HS] at h5;refine xK 2 Z (gY Z (evE ?_));refine xK 3 Z (oN (jQ _ ?_))
  simp_all
  done
 have hbb := hx
 refine tN ?_;refine AD Z (fun h1 => ?_) (fun h1 => ?_)
 ·
  refine sQ (kY [2,3,4,6] Z (rG (eZ Z (nB (rT (tR (eR ?_)))))))
  ·have hh := BP f.vars ps s.ex
   refine As ?_
   (have hq := hbb.symm.trans (by assumption : bb = true); clear hbb; simp only [Bool.or_eq_true, Qf, RF, decide_eq_true_eq, decide_eq_false_iff_not] at hq; rcases hq with hq | hq | hq <;> (first | grind [Av, Aa, Bp, BL]))
 refine AE (tN (sQ (sQ (kY [2,3,4,6] Z (rG (eK 2 Z (nB (AF (sG (eK 2 Z (nB ?_)))))))))));refine AD Z (fun h2 => ?_) (fun h2 => ?_)
 ·
  simp only [HS] at h2;refine sG (eK 2 Z (evE ?_));refine eK 2 Z (kZ [2,3,4,6,49] Z ?_);refine gB (fun h3 => ?_) (fun h3 => ?_)
  ·
   simp only [HS] at h3;refine xK 9 Z (kZ [2,3,4,6,49,53,59] Z (xK 9 Z (kZ [2,3,4,6,49,68] Z (eK 2 Z (nB (rT (bR (tR (eR ?_)))))))))
   ·have hh := BP f.vars ps s.ex
    refine As ?_
    (have hq := hbb.symm.trans (by assumption : bb = false); clear hbb; simp only [Qy, Rc, Bool.not_eq_false', decide_eq_true_eq, decide_eq_false_iff_not, Classical.not_not] at hq; obtain ⟨q1, q2, q3⟩ := hq; grind [Av, Aa, Bp, BL])
  simp only [HS] at h3;refine xK 4 Z ?_;refine gB (fun h4 => ?_) (fun h4 => ?_)
  ·
   simp only [HS] at h4;refine xK 5 Z (kZ [2,3,4,6,49,53,59] Z (xK 9 Z (kZ [2,3,4,6,49,68] Z (eK 2 Z (nB (rT (bR (tR (eR ?_)))))))))
   ·have hh := BP f.vars ps s.ex
    refine As ?_
    (have hq := hbb.symm.trans (by assumption : bb = false); clear hbb; simp only [Qy, Rc, Bool.not_eq_false', decide_eq_true_eq, decide_eq_false_iff_not, Classical.not_not] at hq; obtain ⟨q1, q2, q3⟩ := hq; grind [Av, Aa, Bp, BL])
  simp only [HS] at h4;refine xK 3 Z (gY Z (evE ?_));refine gY Z (evI ?_);refine kZ [2,3,4,6,49,53,55,58] Z (gY Z (AQ ?_));refine ⟨_, Al _ _ _, rfl, ?_⟩;refine xZ Z ?_;refine gB (fun h5 => ?_) (fun h5 => ?_)
  ·
   simp only [HS] at h5;refine xK 7 Z (kZ [2,3,4,6,49,68] Z (eK 2 Z (nB (rT (bR (tR (eR ?_)))))))
   ·have hh := BP f.vars ps s.ex
    refine As ?_
    (have hq := hbb.symm.trans (by assumption : bb = false); clear hbb; simp only [Qy, Rc, Bool.not_eq_false', decide_eq_true_eq, decide_eq_false_iff_not, Classical.not_not] at hq; obtain ⟨q1, q2, q3⟩ := hq; grind [Av, Aa, Bp, BL])
  simp only [HS] at h5;refine xK 3 Z (gY Z ?_);refine iY (k := ?_);refine xK 3 Z (kZ [2,3,4,6,49,53,67] Z (xK 3 Z (nB (rT (bR (tR (eR ?_)))))))
  ·have hh := BP f.vars ps s.ex
   refine As ?_
   (have hq := hbb.symm.trans (by assumption : bb = false); clear hbb; simp only [Qy, Rc, Bool.not_eq_false', decide_eq_true_eq, decide_eq_false_iff_not, Classical.not_not] at hq; obtain ⟨q1, q2, q3⟩ := hq; grind [Av, Aa, Bp, BL])
 simp only [HS] at h2;refine sG (eK 2 Z (nB ?_));refine AD Z (fun h3 => ?_) (fun h3 => ?_)
 ·
  simp only [HS] at h3;refine sG (eK 2 Z (evE ?_));refine kZ [2,3,4,6,74] Z (eK 2 Z ?_);refine gB (fun h4 => ?_) (fun h4 => ?_)
  ·
   simp only [HS] at h4;refine xK 4 Z (nB (rT (bR (tR (eR ?_)))))
   ·have hh := BP f.vars ps s.ex
    refine As ?_
    (have hq := hbb.symm.trans (by assumption : bb = false); clear hbb; simp only [Qy, Rc, Bool.not_eq_false', decide_eq_true_eq, decide_eq_false_iff_not, Classical.not_not] at hq; obtain ⟨q1, q2, q3⟩ := hq; grind [Av, Aa, Bp, BL])
  simp only [HS] at h4;refine xK 5 Z (nB (rT (bR (tR (eR ?_)))))
  ·have hh := BP f.vars ps s.ex
   refine As ?_
   (have hq := hbb.symm.trans (by assumption : bb = false); clear hbb; simp only [Qy, Rc, Bool.not_eq_false', decide_eq_true_eq, decide_eq_false_iff_not, Classical.not_not] at hq; obtain ⟨q1, q2, q3⟩ := hq; grind [Av, Aa, Bp, BL])
 simp only [HS] at h3;refine sG (eK 2 Z (nB ?_));refine AD Z (fun h4 => ?_) (fun h4 => ?_)
 ·
  simp only [HS] at h4;refine sQ (kY [2,3,4,6] Z (rG (eK 4 Z (evI ?_))));refine AQ ?_;refine ⟨_, Al _ _ _, rfl, ?_⟩;refine eZ Z (nB ?_);refine AD Z (fun h5 => ?_) (fun h5 => ?_)
  ·
   simp only [HS] at h5;refine sQ (kY [2,3,4,6] Z (rG (eZ Z (nB (rT (bR (tR (eR ?_))))))))
   ·have hh := BP f.vars ps s.ex
    refine As ?_
    (have hq := hbb.symm.trans (by assumption : bb = false); clear hbb; simp only [Qy, Rc, Bool.not_eq_false', decide_eq_true_eq, decide_eq_false_iff_not, Classical.not_not] at hq; obtain ⟨q1, q2, q3⟩ := hq; grind [Av, Aa, Bp, BL])
  simp only [HS] at h5;refine AE (bN (tN (sQ (kY [2,3,4,6] Z (rG (eK 5 Z (AQ ?_)))))));refine ⟨_, Gk _ _ _ (by omega) hp hs1, rfl, ?_⟩;refine eK 2 Z (nB (rT (eR ?_)))
  ·have hh := BP f.vars ps s.ex
   refine As ?_
   (have hq := hbb.symm.trans (by assumption : bb = false); clear hbb; simp only [Qy, Rc, Bool.not_eq_false', decide_eq_true_eq, decide_eq_false_iff_not, Classical.not_not] at hq; obtain ⟨q1, q2, q3⟩ := hq; grind [Av, Aa, Bp, BL])
 simp only [HS] at h4;refine sQ (kY [2,3,4,6] Z (rG (eK 3 Z (nB ?_))));refine AD Z (fun h5 => ?_) (fun h5 => ?_)
 ·
  simp only [HS] at h5;refine sG (eZ Z (nB (rT (bR (tR (eR ?_))))))
  ·have hh := BP f.vars ps s.ex
   refine As ?_
   (have hq := hbb.symm.trans (by assumption : bb = false); clear hbb; simp only [Qy, Rc, Bool.not_eq_false', decide_eq_true_eq, decide_eq_false_iff_not, Classical.not_not] at hq; obtain ⟨q1, q2, q3⟩ := hq; grind [Av, Aa, Bp, BL])
 simp only [HS] at h5;refine AE (bN (tN (sG (eK 5 Z (AQ ?_)))));refine ⟨_, Gk _ _ _ (by omega) hp hs1, rfl, ?_⟩;refine kZ [6,95] Z (eK 2 Z (nB (rT (eR ?_))))
 ·have hh := BP f.vars ps s.ex
  refine As ?_
  (have hq := hbb.symm.trans (by assumption : bb = false); clear hbb; simp only [Qy, Rc, Bool.not_eq_false', decide_eq_true_eq, decide_eq_false_iff_not, Classical.not_not] at hq; obtain ⟨q1, q2, q3⟩ := hq; grind [Av, Aa, Bp, BL])
theorem Ja (l : List Stmt) (p : Stmt → Bool) (f : Nat) (caps : List D) (hcaps : caps.all D.imm = true) (hl : l.length ≤ 9223372036854775807) (hf : ∀ x, x ∈ l → Fun Try.prog f (.t x.tt :: caps) (.t (.bool (p x)))) : Fun Try.prog 102 [.t (T.Stmts l), .clo f caps] (A5 [.t (.int (FI p l 0))]) := by
 refine Fun.begin tys Try.func102 Z Z (N := 19) [(0, .t (T.Stmts l)), (1, .clo f caps)] Z Z (fun w0 G F0 => ?_);refine sG (eZ Z (nB (sQ (sG (eZ Z (evE ?_))))));refine eZ Z (nB (AF ?_));refine lK (α := Int) [0, 1, 7] [] (fun x => [(8, .t (.int x))]) (fun x => []) (fun x => 0 ≤ x ∧ x ≤ l.length ∧ FI p l 0 = FI p (l.drop x.toNat) x) (fun x => Int.toNat (l.length - x)) 0 ?_ (fun k hx => ?_)
 ·exact ⟨by omega, by omega, rfl⟩
 obtain ⟨hk0, hk1, hk2⟩ := hx
 refine nY Z (sG (eZ Z (nB (sQ ?_))));refine AD Z (fun h1 => ?_) (fun h1 => ?_)
 ·
  simp only [HS] at h1;refine AE (tN (sQ (AF (sG (eK 2 Z (nA (Dt tys Z Z (AA Z) Z Z (by assumption) ?_)))))));refine eK 2 Z ?_;refine iY (k := ?_);refine eZ Z ?_
  try refine AC (Le.freeze (u := 15) rfl) ?_
  refine nZ Z ?_;refine CX Z Z (AA Z) Z Z (by repeat (first | exact ResL.done | exact ResL.imms (by first | rfl | assumption) | refine ResL.t ?_ | refine ResL.own ?_ | refine ResL.slA Z (by first | rfl | (simp; done) | (simp; omega)) ?_ | refine ResL.sl Z (by first | omega | (simp; done) | (simp; omega)) ?_ | refine ResL.rp ?_ | refine ResL.clo ?_ ?_ | refine ResL.aggT ?_ ?_ | refine ResL.ref Z ?_ ?_ | refine ResL.nil' ?_ | refine ResL.nil 1 ?_)) (hf _ (Qr _)) Z ?_;refine kZ [0,1,5,7,8,9,10,11,12,13,14,15,16] Z (nB ?_);refine AD Z (fun h2 => ?_) (fun h2 => ?_)
  ·
   refine sG (eK 2 Z (nB (rT (bR (tR (AR (bR (tR (eR ?_)))))))))
   ·rw [hk2, KU hk0 h1]
    simp [h2]
    done
  refine AE (bN (tN (rG (evI ?_))));refine eZ Z (oN ?_);refine lQ _ ?_ ?_
  ·skip
   refine ⟨by omega, by omega, ?_⟩; rw [hk2, KU hk0 h1]; simp [h2]
  ·(show Int.toNat _ < Int.toNat _); omega
 simp only [HS] at h1;refine AV (tE (AP (AO (tN (sG (eZ Z (nB (rT (eR ?_)))))))))
 ·rw [hk2, A7 h1]
  rfl
theorem Jb (l : List Stmt) (p : Stmt → Bool) (f : Nat) (caps : List D) (hcaps : caps.all D.imm = true) (hl : l.length ≤ 9223372036854775807) (hf : ∀ x, x ∈ l → Fun Try.prog f (.t x.tt :: caps) (.t (.bool (p x)))) : Fun Try.prog 69 [.t (T.Stmts l), .clo f caps] (A5 [.t (.bool (l.any p))]) := by
 refine Fun.begin tys Try.func69 Z Z (N := 9) [(0, .t (T.Stmts l)), (1, .clo f caps)] Z Z (fun w0 G F0 => ?_);refine sG (eZ Z (nA (eZ Z (Dt tys Z Z (AA Z) Z Z (by assumption) ?_))));refine CX Z Z (AA Z) Z Z (by repeat (first | exact ResL.done | exact ResL.imms (by first | rfl | assumption) | refine ResL.t ?_ | refine ResL.own ?_ | refine ResL.slA Z (by first | rfl | (simp; done) | (simp; omega)) ?_ | refine ResL.sl Z (by first | omega | (simp; done) | (simp; omega)) ?_ | refine ResL.rp ?_ | refine ResL.clo ?_ ?_ | refine ResL.aggT ?_ ?_ | refine ResL.ref Z ?_ ?_ | refine ResL.nil' ?_ | refine ResL.nil 1 ?_)) (Ja l p f caps hcaps hl hf) Z ?_;refine eK 2 Z (nB (rT (eR ?_)))
 ·rw [← F1 (Int.le_refl 0)]
theorem L4 {vars : Int} {ps : List Int} {s : Stmt} (h : s.n < 0) : Av vars ps s = false := by grind [Av, Aa]
theorem JZ (s : Stmt) (f : Func) (ps : List Int) (hs : s.ok 1048576) (hv : 0 ≤ f.vars ∧ f.vars ≤ 6) (hp : Lm ps) : Fun Try.prog 70 [.t s.tt, .rp f.tt 0, .rp (.agg [T.ints ps]) 0] (A5 [.t (.bool (!Av f.vars ps s))]) := by
 refine Fun.begin tys Try.func70 Z Z (N := 15) [(0, .t s.tt), (1, .rp f.tt 0), (2, .rp (.agg [T.ints ps]) 0)] Z Z (fun w0 G F0 => ?_);refine sG (Af Z Z (AA Z) Z Z (nZ Z (eZ Z (nA (eK 4 Z ?_)))));refine gB (fun h1 => ?_) (fun h1 => ?_)
 ·
  simp only [HS] at h1;refine xK 3 Z (kZ [4,8,12] Z (xK 3 Z (nB (rT (eR ?_)))))
  ·exact As (by rw [L4 (by assumption)]; rfl)
 simp only [HS] at h1;refine eZ Z ?_
 try refine AC (Le.freeze (u := 9) rfl) ?_
 refine nZ Z (xZ Z ?_)
 try refine AC (Le.freeze (u := 10) rfl) ?_
 refine nZ Z (xZ Z (kZ [4,8,9,10,11] Z (gY Z (AQ ?_))));refine ⟨_, LN f s ps hs (by omega) hv hp, rfl, ?_⟩;refine xK 3 Z (nB (rT (eR ?_)))
 ·rfl
theorem GW (n : Int) : Fun Try.prog 97 [.t (.int n)] (A5 [.t (.bool (!decide (0 ≤ n ∧ n ≤ 2)))]) := by
 refine Fun.begin tys Try.func97 Z Z (N := 6) [(0, .t (.int n))] Z Z (fun w0 G F0 => ?_);refine sG (eZ Z (nA (eZ Z (AQ ?_))));refine ⟨_, Al _ _ _, rfl, ?_⟩;refine eK 2 Z (nB (rT (eR ?_)))
 ·rfl
theorem HM (ps : List Int) (hp : ps.length ≤ 1048576) : Fun Try.prog 67 [.t (T.ints ps)] (A5 [.t (.bool (BJ ps))]) := by
 refine Fun.begin tys Try.func67 Z Z (N := 11) [(0, .t (T.ints ps))] Z Z (fun w0 G F0 => ?_);refine sG (eZ Z (nA (eZ Z (evE ?_))));refine eK 2 Z ?_;refine gB (fun h1 => ?_) (fun h1 => ?_)
 ·
  simp only [HS] at h1;refine xK 4 Z (kZ [2] Z (nB (rT (eR ?_))))
  ·have e : (ps.any fun n => !decide (0 ≤ n ∧ n ≤ 2)) = !CK ps 0 2 := (by rw [CK, List.not_all_eq_any_not])
   exact As (by grind [BJ])
 simp only [HS] at h1;refine eZ Z (gY Z (AQ ?_));refine ⟨_, FQ ps (fun n => !decide (0 ≤ n ∧ n ≤ 2)) _ [] Z (by omega) (fun x _ => GW x), rfl, ?_⟩;refine xK 2 Z (kZ [2,10] Z (eZ Z (nB (rT (eR ?_)))))
 ·have e : (ps.any fun n => !decide (0 ≤ n ∧ n ≤ 2)) = !CK ps 0 2 := (by rw [CK, List.not_all_eq_any_not])
  exact As (by grind [BJ])
def paramsL (p : Prog) : List Int := p.funcs.map (·.params)
def BM (ps : List Int) (f : Func) : Bool := Ae f && f.stmts.all (Av f.vars ps)
def Dw (ps : List Int) (f : Func) : Bool := Ae f && f.stmts.all (Aa f.vars ps)
def Au (p : Prog) : Bool := decide ((1 : Int) ≤ p.funcs.length ∧ (p.funcs.length : Int) ≤ 5) && (BJ (paramsL p) && (decide (atI (paramsL p) 0 = 0) && p.funcs.all (BM (paramsL p))))
theorem JM {f : Func} (h : Ae f = true) : 0 ≤ f.vars ∧ f.vars ≤ 6 := by
 unfold Ae DU at h;simp only [Qf, decide_eq_true_eq] at h;omega
theorem DG {p : Prog} (hp : p.ok 1048576) {n : Nat} (h : n < p.funcs.length) : (p.funcs[n]).ok 1048576 := hp.1.2 _ (Qr h)
theorem Ax (p : Prog) : (paramsL p).length = p.funcs.length := Qh ..
theorem Be {p : Prog} {n : Int} (h0 : 0 ≤ n) (h1 : n < p.funcs.length) : atI (paramsL p) n = (p.funcs[n.toNat]'(by omega)).params := by
 rw [BL h0 (by rw [Ax]; omega)]; simp [paramsL]
theorem Ix {vars : Int} {ps : List Int} {l : List Stmt} : (l.any fun s => !Av vars ps s) = !l.all (Av vars ps) := by rw [List.not_all_eq_any_not]
theorem getT2 {α β : Type} (f : β → T) (g : α → β) (l : List α) {i : Int} (h0 : 0 ≤ i) (h1 : i < l.length) : ((l.map g).map f)[i.toNat]? = some (f (g (l[i.toNat]'(by omega)))) := by
 rw [List.getElem?_map, List.getElem?_map, List.getElem?_eq_getElem (by omega)]; rfl
theorem FS {p : Prog} {k : Int} (h0 : 0 ≤ k) (h1 : k < p.funcs.length) (h : BM (paramsL p) (p.funcs[k.toNat]'(by omega)) = false) : p.funcs.all (BM (paramsL p)) = false := FE h0 h1 h
theorem Dm (p : Prog) (hp : p.ok 1048576) : Fun Try.prog 39 [.t p.tt] (A5 [.t (.bool (Au p))]) := by
 have hl : p.funcs.length ≤ 1048576 := hp.1.1
 refine Fun.begin tys Try.func39 Z Z (N := 41) [(0, .t p.tt)] Z Z (fun w0 G F0 => ?_);refine sG (Af Z Z (AA Z) Z Z (nZ Z (eZ Z (nA (eZ Z ?_)))))
 try refine AC (Le.freeze (u := 6) rfl) ?_
 refine nZ Z (AQ ?_);refine ⟨_, H7 p hp, rfl, ?_⟩;refine AC (Le.freeze (u := 7) Z) (nZ Z (AH tys Z Z (AA Z) Z Z Z (nZ Z (sT Z (nZ Z (nB (sQ (sG (eK 2 Z (evE ?_))))))))));refine kZ [1,2,3,10] Z (AQ ?_);refine ⟨_, Al _ _ _, rfl, ?_⟩;refine eK 2 Z ?_;refine gB (fun h1 => ?_) (fun h1 => ?_)
 ·
  simp only [HS] at h1;refine xK 6 Z (kZ [1,2,3,18,20] Z (xK 3 Z (nB (AY Z (sG (eZ Z (nB (rT (tR (eR ?_))))))))))
  ·first
   | (refine As ?_; rw [Au]; simp only [h1, decide_false, Bool.false_and]; done)
 simp only [HS] at h1;refine eZ Z (gY Z (AQ ?_));refine ⟨_, HM _ (by simp; omega), rfl, ?_⟩;refine xK 3 Z ?_;refine gB (fun h2 => ?_) (fun h2 => ?_)
 ·
  simp only [HS] at h2;refine xZ Z (kZ [1,2,3,18,20] Z (xK 3 Z (nB (AY Z (sG (eZ Z (nB (rT (tR (eR ?_))))))))))
  ·first
   | (refine As ?_; rw [Au, show BJ (paramsL p) = false from h2]; simp; done)
 simp only [HS] at h2;refine eZ Z (gY Z (GI tys Z Z (AA Z) Z Z Z Z Z Z Z (by omega) _ (getT2 _ _ _ (by omega) (by omega)) (kZ [1,2,3,18,20] Z (xK 3 Z (nB ?_)))));refine AD Z (fun h3 => ?_) (fun h3 => ?_)
 ·
  simp only [HS] at h3;refine sG (eZ Z (nB (rT (tR (eR ?_)))))
  ·first
   | (refine As ?_; have h3' : ¬ (p.funcs[(0 : Int).toNat]'(by simp; omega)).params = 0 := h3; rw [Au, Be (by omega) (by omega)]; simp only [h3', decide_false, Bool.false_and, Bool.and_false]; done)
 simp only [HS] at h3;refine AE (tN (sQ (sG (eK 2 Z (evE ?_)))));refine eZ Z (nB (AF ?_));refine lK (α := Int) [1, 3, 25, 26] [1, 3] (fun x => [(27, .t (.int x))]) (fun x => []) (fun x => 0 ≤ x ∧ x ≤ p.funcs.length ∧ (p.funcs.take x.toNat).all (BM (paramsL p)) = true ∧ Lm (paramsL p) ∧ Au p = p.funcs.all (BM (paramsL p))) (fun x => Int.toNat (p.funcs.length - x)) 0 ?_ (fun k hx => ?_)
 ·have hp2 : BJ (paramsL p) = true := by assumption
  have h0' : (p.funcs[(0 : Int).toNat]'(by simp; omega)).params = 0 := by assumption
  refine ⟨by omega, by omega, by simp, Es hp2, ?_⟩;rw [Au, hp2, Be (by omega) (by omega), h0']
  simp; intros; omega
 obtain ⟨hk0, hk1, hall, hps, hgp⟩ := hx
 refine nY Z (sG (eZ Z (nB (sQ ?_))));refine AD Z (fun h4 => ?_) (fun h4 => ?_)
 ·
  simp only [HS] at h4;refine AE (tN (sQ (AF (sG ?_))));refine iY (k := ?_);refine eZ Z ?_
  try refine AC (Le.freeze (u := 30) rfl) ?_
  refine nZ Z (AH tys Z Z (AA Z) Z Z Z (nZ Z (sT Z (nZ Z (nA (eZ Z ?_))))))
  try refine AC (Le.freeze (u := 31) rfl) ?_
  refine nZ Z (AQ ?_);refine ⟨_, IR _ (DG hp _), rfl, ?_⟩;refine eK 2 Z (kZ [1,3,5,25,26,27,28,29,30,31,32,33,34] Z ?_);refine gB (fun h5 => ?_) (fun h5 => ?_)
  ·
   simp only [HS] at h5;refine xK 4 Z (nB (AY Z (sG (eZ Z (nB (rT (bR (tR (AR (bR (tR (eR ?_))))))))))))
   ·first
    | (refine As ?_; rw [hgp, FS hk0 h4 (by unfold BM; rw [h5]; rfl)]; done)
  simp only [HS] at h5;refine xK 3 Z (gY Z (AQ ?_));refine ⟨_, Jb _ (fun s => !Av (p.funcs[k.toNat]'(by omega)).vars (paramsL p) s) _ [.rp (p.funcs[k.toNat]'(by omega)).tt 0, .rp (.agg [T.ints (paramsL p)]) 0] Z (by have := (DG hp (n := k.toNat) (by omega)).2.1.1; omega) (fun s hs => JZ s _ _ ((DG hp (n := k.toNat) (by omega)).2.1.2 s hs) (JM (by assumption)) hps), rfl, ?_⟩;refine eZ Z (nB ?_);refine AD Z (fun h6 => ?_) (fun h6 => ?_)
  ·
   refine sG (eZ Z (nB (rT (bR (tR (AR (bR (tR (eR ?_)))))))))
   ·first
    | (refine As ?_; rw [hgp, FS hk0 h4 (by rw [Ix] at h6; unfold BM; rw [h5]; simpa using h6)]; done)
  refine AE (bN (tN (rG (evI ?_))));refine eZ Z (oN ?_);refine lQ _ ?_ ?_
  ·skip
   refine ⟨by omega, by omega, Cz hk0 (by omega) hall ?_, hps, hgp⟩;unfold BM;rw [Ix] at *
   simp_all
  ·(show Int.toNat _ < Int.toNat _); omega
 simp only [HS] at h4;refine AV (tE (AP (AO (tN (sG (eZ Z (nB (rT (eR ?_)))))))))
 ·first
  | (refine As ?_; rw [hgp, Eb (by omega) hall]; done)
theorem sitesF_mem : ∀ {l : List Stmt} {k x : Int}, x ∈ Ad l k ↔ ∃ j : Nat, ∃ h : j < l.length, x = k + j ∧ (l[j]).kind = 3
 | [], k, x => by simp [Ad]
 | s :: l, k, x => by
  have ih := sitesF_mem (l := l) (k := k + 1) (x := x)
  have e : (∃ j : Nat, ∃ h : j < (s :: l).length, x = k + j ∧ ((s :: l)[j]).kind = 3) ↔ (x = k ∧ s.kind = 3) ∨ ∃ j : Nat, ∃ h : j < l.length, x = k + 1 + j ∧ (l[j]).kind = 3 := by
   constructor
   ·rintro ⟨j, hj, h1, h2⟩
    cases j with
    | zero => exact .inl ⟨by simpa using h1, by simpa using h2⟩
    | succ j => exact .inr ⟨j, by simpa using hj, by rw [h1]; omega, by simpa using h2⟩
   ·rintro (⟨h1, h2⟩ | ⟨j, hj, h1, h2⟩)
    ·exact ⟨0, by simp, by simpa using h1, by simpa using h2⟩
    ·exact ⟨j + 1, by simpa using hj, by rw [h1]; omega, by simpa using h2⟩
  rw [e, Ad];split
  ·rename_i h; rw [Qp, ih]; simp [h]
  ·rename_i h; rw [ih]; simp [h]
theorem Gc : ∀ (l : List Stmt) (k : Int), (Ad l k).length ≤ l.length
 | [], k => by simp [Ad]
 | s :: l, k => by
  have := Gc l (k + 1)
  rw [Ad]
  split <;> simp only [Qk] <;> omega
theorem N9 {f : Func} (h : DH f.stmts f.body = false) : Bq f.stmts f.body = false := by
 rw [Bool.eq_false_iff]; intro hs;rw [(shape_blocks.1 hs).1] at h; cases h
theorem N6 {f : Func} {ps : List Int} {m : Int} (h0 : 0 ≤ m) (h1 : m < f.stmts.length) (h : Aa f.vars ps (f.stmts[m.toNat]'(by omega)) = false) : f.stmts.all (Aa f.vars ps) = false := FE h0 h1 h
theorem LH (f : Func) (ps : List Int) (hf : f.ok 1048576) (hp : Lm ps) (hpb : BJ ps = true) : Fun Try.prog 80 [.t f.tt, .t (T.ints ps)] (A5 [.t (.bool (Dw ps f))]) := by
  have hl : f.stmts.length ≤ 1048576 := hf.2.1.1
  have hbl : f.body.length ≤ 1048576 := hf.1
  refine Fun.begin tys Try.func80 Z Z (N := 87) [(0, .t f.tt), (1, .t (T.ints ps))] Z Z (fun w0 G F0 => ?_);refine sG (Af Z Z (AA Z) Z Z (nZ Z (eZ Z (nB (sQ (sG (eK 2 Z (AQ ?_))))))));refine ⟨_, A6 _ _ _, rfl, ?_⟩;refine eK 2 Z ?_;refine gB (fun h1 => ?_) (fun h1 => ?_)
  ·
    simp only [HS] at h1;refine xK 2 Z (kZ [1,2,4,15,17,18] Z (xK 9 Z (kZ [1,2,4,23,27] Z (xK 9 Z (kZ [1,2,4,34,36] Z (xK 3 Z (nB (AY Z (sG (eZ Z (nB (rT (tR (eR ?_))))))))))))))
    · first
      | (refine As ?_; rw [Dw, Ae, DU]; simp only [h1, decide_false, Bool.false_and]; done)
  simp only [HS] at h1;refine xK 2 Z (kZ [1,2,4,15,17] Z (xK 2 Z (gY Z (AQ ?_))));refine ⟨_, A6 _ _ _, rfl, ?_⟩;refine xK 3 Z ?_;refine gB (fun h2 => ?_) (fun h2 => ?_)
  ·
    simp only [HS] at h2;refine xK 3 Z (kZ [1,2,4,23,27] Z (xK 9 Z (kZ [1,2,4,34,36] Z (xK 3 Z (nB (AY Z (sG (eZ Z (nB (rT (tR (eR ?_))))))))))))
    · first
      | (refine As ?_; rw [Dw, Ae, DU]; simp only [h2, decide_false, Bool.false_and, Bool.and_false]; done)
  simp only [HS] at h2;refine xK 2 Z (gY Z (evE ?_));refine kZ [1,2,4,23,26] Z (xK 3 Z ?_);refine gB (fun h3 => ?_) (fun h3 => ?_)
  ·
    simp only [HS] at h3;refine xK 6 Z (kZ [1,2,4,34,36] Z (xK 3 Z (nB (AY Z (sG (eZ Z (nB (rT (tR (eR ?_))))))))))
    · first
      | (refine As ?_; rw [Dw, Ae, DU]; simp only [Int.not_le.2 h3, decide_false, Bool.false_and, Bool.and_false]; done)
  simp only [HS] at h3;refine eZ Z ?_
  try refine AC (Le.freeze (u := 30) rfl) ?_
  refine nZ Z (gY Z (AQ ?_));refine ⟨_, IL f hf (by omega), rfl, ?_⟩;refine xK 3 Z ?_;refine gB (fun h4 => ?_) (fun h4 => ?_)
  ·
    simp only [HS] at h4;refine xZ Z (kZ [1,2,4,34,36] Z (xK 3 Z (nB (AY Z (sG (eZ Z (nB (rT (tR (eR ?_))))))))))
    · first
      | (refine As ?_; rw [Dw, Ae, N9 h4]; simp; done)
  simp only [HS] at h4;refine eZ Z ?_
  try refine AC (Le.freeze (u := 35) rfl) ?_
  refine nZ Z (gY Z (AQ ?_));refine ⟨_, Fw f hf, rfl, ?_⟩;refine AC (Le.adoptE (u := 36) 36 Z (by first | exact Lq | exact Z)) ?_;refine nZ Z (kZ [1,2,4,34,36] Z (gY Z (evE ?_)));refine xK 2 Z (nB ?_);refine AD Z (fun h5 => ?_) (fun h5 => ?_)
  ·
    simp only [HS] at h5;refine sG (eZ Z (nB (rT (tR (eR ?_)))))
    · first
      | (refine As ?_; rw [Dw, Ae, Gx]; simp only [Int.not_le.2 h5, decide_false, Bool.false_and, Bool.and_false]; done)
  simp only [HS] at h5;refine AE (tN (sQ (sG ?_)))
  have hbk := blocksB_iff.1 h4
  have hd := hbk.2.2.1
  have hb := hbk.1
  have hol : (BF f f.body).length = f.stmts.length := LZ h4
  refine eZ Z ?_
  try refine AC (Le.freeze (u := 40) rfl) ?_
  refine nZ Z (eK 2 Z (AQ ?_));refine ⟨_, E9 f hf hd hb hbl (by omega), rfl, ?_⟩;refine AC (Le.adoptE (u := 43) 43 Z (by first | exact Lq | exact Z)) ?_;refine nZ Z (evE ?_);refine eZ Z (kZ [1,2,4,43,44,45] Z (nB (AF ?_)));refine lK (α := Int) [1, 2, 43, 44] [2, 43] (fun x => [(45, .t (.int x))]) (fun x => []) (fun x => 0 ≤ x ∧ x ≤ (BF f f.body).length ∧ ∀ (q : Nat) (h : q < (BF f f.body).length), q < x → (BF f f.body)[q] = (q : Int)) (fun x => Int.toNat ((BF f f.body).length - x)) 0 ?_ (fun j hx => ?_)
  · exact ⟨by omega, by omega, fun q h h' => by omega⟩
  obtain ⟨hj0, hj1, hj⟩ := hx
  refine nY Z (sG (eZ Z (nB (sQ ?_))));refine AD Z (fun h6 => ?_) (fun h6 => ?_)
  ·
    simp only [HS] at h6;refine AE (tN (sQ (AF (sG (eZ Z (Bb tys Z Z (AA Z) Z Z Z Z Z Z Z Z (by omega) (by omega) (BI tys Z Z (AA Z) Z Z Z Z (Ez _ _ (by omega) (by omega)) Z (eK 2 Z (nA (eK 3 Z (kZ [1,2,5,6,43,44,45,46,47,48,49,50,51,52] Z (nB ?_))))))))))));refine AD Z (fun h7 => ?_) (fun h7 => ?_)
    ·
      simp only [HS] at h7;refine sG (eZ Z (nB (rT (bR (tR (AR (bR (tR (eR ?_)))))))))
      · first
        | (refine As ?_; rw [Dw, Ae, PQ hj0 h6 (fun e => h7 e.symm)]; simp; done)
    simp only [HS] at h7;refine AE (bN (tN (rG (evI ?_))));refine eZ Z (oN ?_);refine lQ _ ?_ ?_
    · skip
      refine ⟨by omega, by omega, fun q h h' => ?_⟩
      by_cases hq : (q : Int) < j
      · exact hj q h hq
      · obtain rfl : q = j.toNat := by omega
        omega
    · (show Int.toNat _ < Int.toNat _); omega
  simp only [HS] at h6;refine AV (tE (AP (AO (tN (sQ (sG (eK 2 Z (evE ?_))))))));refine eZ Z (nB (AF ?_));refine lK (α := Int) [1, 2, 55, 56] [2] (fun x => [(57, .t (.int x))]) (fun x => []) (fun x => 0 ≤ x ∧ x ≤ f.stmts.length ∧ Bq f.stmts f.body = true ∧ (f.stmts.take x.toNat).all (CC f) = true ∧ (f.stmts.take x.toNat).all (Aa f.vars ps) = true) (fun x => Int.toNat (f.stmts.length - x)) 0 ?_ (fun m hx => ?_)
  · exact ⟨by omega, by omega, shape_blocks.2 ⟨h4, fun q h => hj q h (by unfold BF at h6; omega)⟩, by simp, by simp⟩
  obtain ⟨hm0, hm1, hsh, hmw, hms⟩ := hx
  refine nY Z (sG (eZ Z (nB (sQ ?_))));refine AD Z (fun h7 => ?_) (fun h7 => ?_)
  ·
    simp only [HS] at h7;refine AE (tN (sQ (AF (sG ?_))));refine iY (k := ?_);refine eZ Z ?_
    try refine AC (Le.freeze (u := 60) rfl) ?_
    refine nZ Z (AH tys Z Z (AA Z) Z Z Z (nZ Z (sT Z (nZ Z (nB (sQ (sG (eZ Z ?_))))))))
    try refine AC (Le.freeze (u := 61) rfl) ?_
    refine nZ Z (eZ Z ?_)
    try refine AC (Le.freeze (u := 62) rfl) ?_
    refine nZ Z (eZ Z (AQ ?_));refine ⟨_, LG f _ ps (hf.2.1.2 _ (Qr _)) (by omega) hp hpb, rfl, ?_⟩;refine kZ [1,2,8,55,56,57,58,59,60,61,62,63,64] Z (eZ Z (nB ?_));refine AD Z (fun h8 => ?_) (fun h8 => ?_)
    ·
      simp only [HS] at h8;refine sG (eZ Z (nB (rT (tR (bR (tR (AR (bR (tR (eR ?_))))))))))
      · first
        | (refine As ?_; rw [Dw, N6 hm0 h7 h8]; simp; done)
    simp only [HS] at h8;refine AE (tN (sQ (sG (eK 3 Z (nB ?_)))));refine AD Z (fun h9 => ?_) (fun h9 => ?_)
    ·
      simp only [HS] at h9;refine AV (tE (AO (tN (rG (evI ?_)))));refine eZ Z (oN ?_);refine lQ _ ?_ ?_
      · skip
        refine ⟨by omega, by omega, hsh, Cz hm0 (by omega) hmw ?_, Cz hm0 (by omega) hms (by assumption)⟩
        first
        | (unfold CC; rw [if_neg (by omega)]; done)
      · (show Int.toNat _ < Int.toNat _); omega
    simp only [HS] at h9;refine AE (tN (sG ?_))
    have hmt : m.toNat < f.stmts.length := by omega
    have hbt : inB f.stmts.length 0 (f.stmts[m.toNat]'hmt).thn := by
      have := (hd m (by omega) (by omega)).1
      rw [kids_at hmt] at this;exact BU this (by omega)
    have hut := Dd f.stmts hmt
    have hul := Jw f.stmts m.toNat
    have hsu := Ge hsh
    have hot : (BF f (f.stmts[m.toNat]'hmt).thn).length ≤ 1048576 := Et hd hbt (by omega) (by omega)
    refine eZ Z ?_
    try refine AC (Le.freeze (u := 69) rfl) ?_
    refine nZ Z (eK 2 Z (AQ ?_));refine ⟨_, E9 f hf hd hbt (CM hf hmt).1 hot, rfl, ?_⟩;refine AC (Le.adoptE (u := 72) 72 Z (by first | exact Lq | exact Z)) ?_;refine nZ Z (evE ?_);refine kZ [1,2,8,55,56,57,58,59,60,61,62,63,64,65,66,67,68,69,70,71,72,73] Z (eZ Z (nB (AF ?_)));refine lK (α := Int) [1, 2, 55, 56, 57, 72, 73] [2, 72] (fun x => [(74, .t (.int x))]) (fun x => []) (fun x => 0 ≤ x ∧ x ≤ (BF f (f.stmts[m.toNat]'(by omega)).thn).length ∧ ((BF f (f.stmts[m.toNat]'(by omega)).thn).take x.toNat).all (fun n => decide (¬ FB f n = 3)) = true) (fun x => Int.toNat ((BF f (f.stmts[m.toNat]'(by omega)).thn).length - x)) 0 ?_ (fun r hx => ?_)
    · exact ⟨by omega, by omega, by simp⟩
    obtain ⟨hr0, hr1, hrw⟩ := hx
    refine nY Z (sG (eZ Z (nB (sQ ?_))));refine AD Z (fun h10 => ?_) (fun h10 => ?_)
    ·
      simp only [HS] at h10;refine AE (tN (sQ (AF (sG (Bb tys Z Z (AA Z) Z Z Z Z Z Z Z Z (by omega) (by omega) (BI tys Z Z (AA Z) Z Z Z Z (Ez _ _ (by omega) (by omega)) Z ?_))))))
      have hn := EN hd hbt _ (Qr (l := BF f (f.stmts[m.toNat]'(by omega)).thn) (n := r.toNat) (by omega))
      refine eZ Z (nA (eK 3 Z ?_));refine iY (k := ?_);refine eZ Z (kZ [1,2,10,55,56,57,72,73,74,75,76,77,78,79,80,81,82] Z (eK 2 Z (nB ?_)));refine AD Z (fun h11 => ?_) (fun h11 => ?_)
      ·
        simp only [HS] at h11;refine sG (eZ Z (nB (rT (bR (tR (AR (bR (bR (tR (AR (bR (tR (eR ?_)))))))))))))
        · first
          | (have e : JS f (f.stmts[m.toNat]'(by omega)).thn = false := (by unfold JS; exact FE hr0 (by omega) (by rw [EU (by omega)]; simp; omega))
             refine As ?_; rw [Dw, Ae, Jv hm0 (by omega) (by omega) e]; simp; done)
      simp only [HS] at h11;refine AE (bN (tN (rG (evI ?_))));refine eZ Z (oN ?_);refine lQ _ ?_ ?_
      · skip
        exact ⟨by omega, by omega, Cz hr0 (by omega) hrw (by rw [EU (by omega)]; simp; assumption)⟩
      · (show Int.toNat _ < Int.toNat _); omega
    simp only [HS] at h10;refine AV (tE (AP (AO (bN (tN (rG (evI ?_)))))));refine eZ Z (oN ?_);refine lQ _ ?_ ?_
    · skip
      refine ⟨by omega, by omega, hsh, Cz hm0 (by omega) hmw ?_, Cz hm0 (by omega) hms (by assumption)⟩
      first
      | (unfold CC; rw [if_pos (by omega)]; exact Eb (by omega) hrw)
    · (show Int.toNat _ < Int.toNat _); omega
  simp only [HS] at h7;refine AV (tE (AP (AO (tN (sG (eZ Z (nB (rT (eR ?_)))))))))
  · first
    | (refine As ?_
       rw [Dw, Ae, hsh, E4, Eb (by omega) hmw, Eb (by omega) hms, DU, Gx];simp only [h1, h2, h3, h5, and_self, decide_true, Bool.and_self]
       done)
open Go.Eng
theorem L0 {vars : Int} {ps : List Int} {s : Stmt} (h : Aa vars ps s = true) (hk : s.kind = 3) : 0 ≤ s.n ∧ s.n < ps.length := by
 unfold Aa at h
 simp [hk] at h
 omega
theorem Ka {ps : List Int} {f : Func} (h : Dw ps f = true) : Ae f = true ∧ ∀ (m : Nat) (hm : m < f.stmts.length), Aa f.vars ps (f.stmts[m]) = true := by
 unfold Dw at h;rw [Qf, Qn] at h;exact ⟨h.1, fun m hm => h.2 _ (Qr hm)⟩
theorem P7 {ps : List Int} {f : Func} (h : BM ps f = true) : Dw ps f = true := by
 unfold BM Dw at *;rw [Qf, Qn] at *;exact ⟨h.1, fun s hs => by have := h.2 s hs; unfold Av at this; rw [Qf] at this; exact this.1⟩
theorem Pn {f : Func} {ps : List Int} {q : Int} (hw : Dw ps f = true) (h0 : 0 ≤ q) (h1 : q < (Ad f.stmts 0).length) :
  0 ≤ (Ad f.stmts 0)[q.toNat]'(by omega) ∧ ∃ h : ((Ad f.stmts 0)[q.toNat]'(by omega)).toNat < f.stmts.length, (f.stmts[((Ad f.stmts 0)[q.toNat]'(by omega)).toNat]'h).kind = 3 ∧ 0 ≤ (f.stmts[((Ad f.stmts 0)[q.toNat]'(by omega)).toNat]'h).n ∧ (f.stmts[((Ad f.stmts 0)[q.toNat]'(by omega)).toNat]'h).n < ps.length := by
 obtain ⟨j, hj, he, hk⟩ := sitesF_mem.1 (Qr (l := Ad f.stmts 0) (n := q.toNat) (by omega))
 have hx : (((Ad f.stmts 0)[q.toNat]'(by omega))).toNat = j := by omega
 refine ⟨by omega, by omega, ?_⟩
 have h2 := (Ka hw).2 _ hj
 have h3 := L0 h2 hk
 simp only [hx];exact ⟨hk, h3⟩
theorem Ok {ps : List Int} {f : Func} (hw : Dw ps f = true) (h : ∀ (q : Nat) (hq : q < (Ad f.stmts 0).length) (hm : ((Ad f.stmts 0)[q]).toNat < f.stmts.length), atI ps (f.stmts[((Ad f.stmts 0)[q]).toNat]).n = 0) : BM ps f = true := by
 have hw' := Ka hw
 unfold BM;rw [Qf, Qn];refine ⟨hw'.1, fun s hs => ?_⟩
 obtain ⟨m, hm, rfl⟩ := RC hs
 unfold Av;rw [Qf];refine ⟨hw'.2 m hm, ?_⟩;split
 ·rename_i hk
  obtain ⟨q, hq, he⟩ := RC (sitesF_mem.2 ⟨m, hm, rfl, hk⟩ : (0 : Int) + m ∈ Ad f.stmts 0)
  have := h q hq (by rw [he]; omega)
  simp only [he, show ((0 : Int) + m).toNat = m from by omega] at this;rw [this]; rfl
 ·rfl
theorem Mt {ps : List Int} {f : Func} {n : Nat} (hn : n < f.stmts.length) (hk : (f.stmts[n]).kind = 3) (h : ¬ atI ps (f.stmts[n]).n = 0) : BM ps f = false := by
 rw [Bool.eq_false_iff];intro hg;unfold BM at hg;rw [Qf, Qn] at hg
 have := hg.2 _ (Qr hn)
 unfold Av at this;rw [if_pos hk, Qf] at this;exact h (by simpa using this.2)
theorem FC (p : Prog) (hp : p.ok 1048576) : Fun Try.prog 45 [.t p.tt] (A5 [.t (.bool (Au p))]) := by
 have hl : p.funcs.length ≤ 1048576 := hp.1.1
 refine Fun.begin tys Try.func45 Z Z (N := 59) [(0, .t p.tt)] Z Z (fun w0 G F0 => ?_);refine sG (Af Z Z (AA Z) Z Z (nZ Z (eZ Z (nB (sQ (sG (eK 2 Z (evE ?_))))))));refine AQ ?_;refine ⟨_, A6 _ _ _, rfl, ?_⟩;refine eK 2 Z ?_;refine gB (fun h1 => ?_) (fun h1 => ?_)
 ·
  simp only [HS] at h1;refine xZ Z (kZ [1,2,12,14] Z (xK 9 Z (kZ [1,2,18,23] Z (xK 2 Z (nB (AY Z (sG (eZ Z (nB (rT (tR (eR ?_))))))))))))
  ·first
   | (refine As ?_; rw [Au]; simp only [h1, decide_false, Bool.false_and]; done)
 simp only [HS] at h1;refine eZ Z ?_
 try refine AC (Le.freeze (u := 13) rfl) ?_
 refine nZ Z (gY Z (AQ ?_));refine ⟨_, E8 p hp, rfl, ?_⟩;refine AC (Le.adoptE (u := 14) 14 Z (by first | exact Lq | exact Z)) ?_;refine nZ Z (kZ [1,2,12,14] Z (gY Z (AQ ?_)));refine ⟨_, FA _ (by simp; omega), rfl, ?_⟩;refine xK 3 Z ?_;refine gB (fun h2 => ?_) (fun h2 => ?_)
 ·
  simp only [HS] at h2;refine xK 5 Z (kZ [1,2,18,24] Z (eZ Z (nB (AY Z (sG (eZ Z (nB (rT (tR (eR ?_))))))))))
  ·first
   | (refine As ?_; rw [Au, show BJ (paramsL p) = false from h2]; simp; done)
 simp only [HS] at h2;refine xK 2 Z (gY Z ?_);refine iY (k := ?_);refine xK 2 Z (kZ [1,2,18,23] Z (xK 2 Z (nB ?_)));refine AD Z (fun h3 => ?_) (fun h3 => ?_)
 ·
  simp only [HS] at h3;refine sG (eZ Z (nB (rT (tR (eR ?_)))))
  ·first
   | (refine As ?_; have h3' : ¬ (p.funcs[(0 : Int).toNat]'(by simp; omega)).params = 0 := h3; rw [Au, Be (by omega) (by omega)]; simp only [h3', decide_false, Bool.false_and, Bool.and_false]; done)
 simp only [HS] at h3;refine AE (tN (sQ (sG (eK 2 Z (evE ?_)))));refine eZ Z (nB (AF ?_));refine lK (α := Int) [1, 27, 28] [1] (fun x => [(29, .t (.int x))]) (fun x => []) (fun x => 0 ≤ x ∧ x ≤ p.funcs.length ∧ (p.funcs.take x.toNat).all (BM (paramsL p)) = true ∧ Lm (paramsL p) ∧ BJ (paramsL p) = true ∧ Au p = p.funcs.all (BM (paramsL p))) (fun x => Int.toNat (p.funcs.length - x)) 0 ?_ (fun k hx => ?_)
 ·have hp2 : BJ (paramsL p) = true := by assumption
  have h0' : (p.funcs[(0 : Int).toNat]'(by simp; omega)).params = 0 := by assumption
  refine ⟨by omega, by omega, by simp, Es hp2, hp2, ?_⟩;rw [Au, hp2, Be (by omega) (by omega), h0']
  simp; intros; omega
 obtain ⟨hk0, hk1, hall, hps, hpb, hgp⟩ := hx
 refine nY Z (sG (eZ Z (nB (sQ ?_))));refine AD Z (fun h4 => ?_) (fun h4 => ?_)
 ·
  simp only [HS] at h4;refine AE (tN (sQ (AF (sG ?_))));refine iY (k := ?_);refine eZ Z ?_
  try refine AC (Le.freeze (u := 32) rfl) ?_
  refine nZ Z (AH tys Z Z (AA Z) Z Z Z (nZ Z (sT Z (nZ Z (nB (sQ (sQ (Ai A9 (by kernel_rfl) (evQ ?_)))))))));refine AS Z (evQ ?_);refine Gp ?_;refine ⟨_, E8 p hp, rfl, ?_⟩;refine Gp ?_;refine ⟨_, LH _ _ (DG hp _) hps hpb, rfl, ?_⟩;refine evQ ?_;refine BE (tN ?_);refine AD Z (fun h5 => ?_) (fun h5 => ?_)
  ·
   simp only [HS] at h5;refine sG (eZ Z (nB (rT (tR (bR (tR (AR (bR (tR (eR ?_))))))))))
   ·first
    | (refine As ?_; rw [hgp, FS hk0 h4 (Bool.eq_false_iff.2 fun h => Bool.eq_false_iff.1 h5 (P7 h))]; done)
  simp only [HS] at h5;refine AE (tN (sG (eZ Z ?_)))
  try refine AC (Le.freeze (u := 38) rfl) ?_
  refine nZ Z (AQ ?_);refine ⟨_, Fw _ (DG hp _), rfl, ?_⟩;refine AC (Le.adoptE (u := 39) 39 Z (by first | exact Lq | exact Z)) ?_;refine nZ Z (evE ?_);refine eZ Z (nB (AF ?_));refine lK (α := Int) [1, 4, 27, 28, 29, 39, 40] [1, 4, 39] (fun x => [(41, .t (.int x))]) (fun x => []) (fun x => 0 ≤ x ∧ x ≤ (Ad (p.funcs[k.toNat]'(by omega)).stmts 0).length ∧ ∀ (i : Nat) (hi : i < (Ad (p.funcs[k.toNat]'(by omega)).stmts 0).length), (i : Int) < x → ∀ (hm : ((Ad (p.funcs[k.toNat]'(by omega)).stmts 0)[i]).toNat < (p.funcs[k.toNat]'(by omega)).stmts.length), atI (paramsL p) ((p.funcs[k.toNat]'(by omega)).stmts[((Ad (p.funcs[k.toNat]'(by omega)).stmts 0)[i]).toNat]).n = 0) (fun x => Int.toNat ((Ad (p.funcs[k.toNat]'(by omega)).stmts 0).length - x)) 0 ?_ (fun q hx => ?_)
  ·exact ⟨by omega, by omega, fun i hi h => by omega⟩
  obtain ⟨hq0, hq1, hqz⟩ := hx
  refine nY Z (sG (eZ Z (nB (sQ ?_))));refine AD Z (fun h6 => ?_) (fun h6 => ?_)
  ·
   simp only [HS] at h6;refine AE (tN (sQ (AF (sG (Bb tys Z Z (AA Z) Z Z Z Z Z Z Z Z (by omega) (by omega) (BI tys Z Z (AA Z) Z Z Z Z (Ez _ _ (by omega) (by omega)) Z ?_))))))
   obtain ⟨hs0, hs1, hsk, hsn0, hsn1⟩ := Pn (ps := paramsL p) h5 hq0 h6
   rw [Ax] at hsn1
   have hsl := Gc (p.funcs[k.toNat]'(by omega)).stmts 0
   have hfl := (DG hp (n := k.toNat) (by omega)).2.1.1
   refine eZ Z (nB (sQ (Ai A9 (by kernel_rfl) (evQ ?_))));refine evQ ?_;refine AS Z (evQ ?_);refine evQ ?_;refine evQ ?_;refine A3 tys Z Z (AA Z) Z Z Z Z Z Z Z (by omega) _ (EE _ _ (by omega) (by omega)) (evQ ?_);refine evQ ?_;refine AS Z (A3 tys Z Z (AA Z) Z Z Z Z Z Z Z (by omega) _ (EE _ _ (by omega) (by omega)) (evQ ?_));refine evQ ?_;refine evQ ?_;refine BE (tN ?_);refine AD Z (fun h7 => ?_) (fun h7 => ?_)
   ·
    simp only [HS] at h7;refine sG (eZ Z (nB (rT (bR (tR (AR (bR (bR (tR (AR (bR (tR (eR ?_)))))))))))))
    ·first
     | (refine As ?_; rw [hgp, FS hk0 h4 (Mt hs1 hsk (by rw [Be hsn0 hsn1]; assumption))]; done)
   simp only [HS] at h7;refine AE (bN (tN (rG (evI ?_))));refine eZ Z (oN ?_);refine lQ _ ?_ ?_
   ·skip
    refine ⟨by omega, by omega, fun i hi h hm => ?_⟩
    by_cases hiq : (i : Int) < q
    ·exact hqz i hi hiq hm
    ·obtain rfl : i = q.toNat := by omega
     rw [Be hsn0 hsn1]; assumption
   ·(show Int.toNat _ < Int.toNat _); omega
  simp only [HS] at h6;refine AV (tE (AP (AO (bN (tN (rG (evI ?_)))))));refine eZ Z (oN ?_);refine lQ _ ?_ ?_
  ·skip
   exact ⟨by omega, by omega, Cz hk0 (by omega) hall (Ok h5 fun q hq hm => hqz q hq (by omega) hm), hps, hpb, hgp⟩
  ·(show Int.toNat _ < Int.toNat _); omega
 simp only [HS] at h4;refine AV (tE (AP (AO (tN (sG (eZ Z (nB (rT (eR ?_)))))))))
 ·first
  | (refine As ?_; rw [hgp, Eb (by omega) hall]; done)
open Go.Eng
theorem Cp {a a' b b' : Bool} (h : a = a') (h' : b = b') : [D.t (T.v (Value.bool a)), D.t (T.v (Value.bool b))] = [D.t (T.bool a'), D.t (T.bool b')] := by rw [h, h']
theorem B9 {p : Prog} (h : Au p = true) : 1 ≤ p.funcs.length ∧ p.funcs.length ≤ 5 := by
 unfold Au at h;simp only [Qf, decide_eq_true_eq] at h;omega
theorem CG {p : Prog} (h : Au p = true) {n : Nat} (hn : n < p.funcs.length) : BM (paramsL p) (p.funcs[n]) = true := by
 unfold Au at h;simp only [Qf, Qn] at h;exact h.2.2.2 _ (Qr hn)
theorem HA {p : Prog} (h : Au p = true) : Lm (paramsL p) := by
 unfold Au at h;simp only [Qf] at h;exact Es h.2.1
theorem Mv {ps : List Int} {f : Func} (h : BM ps f = true) : f.stmts.length ≤ 16 := by
 unfold BM Ae DU at h;simp only [Qf, decide_eq_true_eq] at h;omega
theorem DE {ps : List Int} {f : Func} (h : BM ps f = true) : Ae f = true := by
 unfold BM at h;rw [Qf] at h;exact h.1
theorem DF {ps : List Int} {f : Func} (h : BM ps f = true) {n : Nat} (hn : n < f.stmts.length) : Av f.vars ps (f.stmts[n]) = true := by
 unfold BM at h;rw [Qf, Qn] at h;exact h.2 _ (Qr hn)
theorem DP {vars : Int} {ps : List Int} {s : Stmt} (h : Av vars ps s = true) (hk : s.kind = 3) : 0 ≤ s.n ∧ s.n < ps.length ∧ s.ex = [] := by
 unfold Av at h;rw [Qf] at h
 have h1 := h.1
 unfold Aa at h1
 simp [hk] at h1
 exact ⟨by omega, by omega, h1.1⟩
theorem runE_known {vars : Int} {ps : List Int} : ∀ {l : List Tok} {h m : Int} {r : Int × Int}, CO vars ps l h m = some r → ∀ t, t ∈ l → knownT vars ps.length t = true
 | [], _, _, _, _, t, ht => by cases ht
 | x :: l, h, m, r, e, t, ht => by
  rw [CO] at e;split at e
  ·rename_i hc
   rw [Qf] at hc
   rcases Qp.1 ht with rfl | ht
   ·exact hc.1
   ·exact runE_known e t ht
  ·cases e
theorem Jd {vars : Int} {ps : List Int} {l : List Tok} (h : Bx vars ps l = true) {t : Tok} (ht : t ∈ l) : knownT vars ps.length t = true := by
 unfold Bx at h;split at h
 ·rename_i e; exact runE_known e t ht
 ·cases h
theorem Mx {vars : Int} {ps : List Int} {l : List Tok} (h : Bx vars ps l = true) : l.length ≤ 12 := by
 unfold Bx at h;split at h
 ·rw [Qf] at h; have := h.2; simp at this; omega
 ·cases h
theorem stmtG_ex {vars : Int} {ps : List Int} {s : Stmt} (h : Av vars ps s = true) : s.ex = [] ∨ Bx vars ps s.ex = true := by
 unfold Av at h;rw [Qf] at h
 have h1 := h.1
 unfold Aa at h1
 by_cases he : Bx vars ps s.ex = true
 ·exact .inr he
 ·left
  have he' : Bx vars ps s.ex = false := by simpa using he
  rw [he'] at h1
  simp at h1
  grind
theorem L3 {vars : Int} {ps : List Int} {s : Stmt} (h : Av vars ps s = true) {t : Tok} (ht : t ∈ s.ex) (ho : t.op = 11) : 0 ≤ t.n ∧ t.n < ps.length := by
 rcases stmtG_ex h with h | h
 ·rw [h] at ht; cases ht
 ·exact DD (Jd h ht) ho
theorem L6 {vars : Int} {ps : List Int} {s : Stmt} (h : Av vars ps s = true) : s.ex.length ≤ 12 := by
 rcases stmtG_ex h with h | h
 ·rw [h]; simp
 ·exact Mx h
def stmtAt (f : Func) (n : Int) : Stmt := (f.stmts[n.toNat]?).getD ⟨0, 0, [], [], []⟩
theorem AB {f : Func} {n : Int} (h : n.toNat < f.stmts.length) : f.stmts[n.toNat] = stmtAt f n := by
 unfold stmtAt; rw [List.getElem?_eq_getElem h]; rfl
def funcAt (p : Prog) (n : Int) : Func := (p.funcs[n.toNat]?).getD ⟨0, 0, [], []⟩
theorem AL {p : Prog} {n : Int} (h : n.toNat < p.funcs.length) : p.funcs[n.toNat] = funcAt p n := by
 unfold funcAt; rw [List.getElem?_eq_getElem h]; rfl
def op0 (l : List Tok) : Int := (l[(0 : Int).toNat]?.map (·.op)).getD 0
theorem Ar {l : List Tok} (h : (0 : Int).toNat < l.length) : (l[(0 : Int).toNat]).op = op0 l := by
 unfold op0; rw [List.getElem?_eq_getElem h]; rfl
def Bg (f : Func) : Bool := decide ((f.stmts.length : Int) = 2) && (decide ((stmtAt f 0).kind = 3) && (decide ((stmtAt f 1).kind = 9) && (decide (((stmtAt f 1).ex.length : Int) = 1) && decide (op0 (stmtAt f 1).ex = 11))))
def Bf (f : Func) : Bool := decide ((f.stmts.length : Int) = 1) && (decide ((stmtAt f 0).kind = 2) && (decide (((stmtAt f 0).ex.length : Int) = 1) && decide (op0 (stmtAt f 0).ex = 10)))
def Ap (p : Prog) : Bool := Au p && (Bg (funcAt p 0) && Bf (funcAt p (stmtAt (funcAt p 0) 0).n))
open Go.Eng
def d3 (s : Stmt) : List Int := if s.kind = 3 then [s.n] else []
def Pm (l : List Tok) : List Int := (l.filter fun t => decide (t.op = 11)).map (·.n)
def Nq (s : Stmt) : List Int := d3 s ++ Pm s.ex
def OC (l : List Stmt) : List Int := l.flatMap Nq
theorem ME {N : Int} {l : List Stmt} (h : ∀ x, x ∈ OC l → 0 ≤ x ∧ x < N) {n : Nat} (hn : n < l.length) (hk : (l[n]).kind = 3) : 0 ≤ (l[n]).n ∧ (l[n]).n < N :=
 h _ (Q7.2 ⟨_, Qr hn, RX _ (by rw [d3, if_pos hk]; exact Q5.2 rfl)⟩)
theorem MD {N : Int} {l : List Stmt} (h : ∀ x, x ∈ OC l → 0 ≤ x ∧ x < N) {n : Nat} (hn : n < l.length) {j : Nat} (hj : j < (l[n]).ex.length) (hk : ((l[n]).ex[j]).op = 11) : 0 ≤ ((l[n]).ex[j]).n ∧ ((l[n]).ex[j]).n < N :=
 h _ (Q7.2 ⟨_, Qr hn, RL _ (RA.2 ⟨_, List.mem_filter.2 ⟨Qr hj, by simpa using hk⟩, rfl⟩)⟩)
theorem N5 {α : Type} (x y : List α) : List.take (x.length + y.length) (x ++ y) = x ++ y := by
 rw [← Qg, Qt]
theorem MG {ps : List Int} {f : Func} (h : BM ps f = true) : ∀ x, x ∈ OC f.stmts → 0 ≤ x ∧ x < ps.length := by
 intro x hx
 obtain ⟨s, hs, hx⟩ := Q7.1 hx
 obtain ⟨m, hm, rfl⟩ := RC hs
 have hg := DF h hm
 rcases Qj.1 hx with hx | hx
 ·unfold d3 at hx
  split at hx
  ·rename_i hk
   have := DP hg hk
   rw [Q5] at hx;subst hx; omega
  ·cases hx
 ·obtain ⟨t, ht, rfl⟩ := RA.1 hx
  obtain ⟨ht, ho⟩ := List.mem_filter.1 ht
  exact L3 hg ht (by simpa using ho)
inductive Lead (calls : Int → List Int) (a : Int) : Int → Prop
 | refl : Lead calls a a
 | step {b c : Int} : Lead calls a b → c ∈ calls b → Lead calls a c
section
variable {N : Nat} {calls : Int → List Int} {a : Int}
end
def put (l : List Int) (n : Int) : List Int := if n ∈ l then l else l.takeWhile (fun x => decide (x < n)) ++ n :: l.dropWhile (fun x => decide (x < n))
open Go.Eng
def seqP (p : Prog) (n : Int) : List Int := OC (funcAt p n).stmts
theorem funcAt_mem {p : Prog} (n : Int) : funcAt p n ∈ p.funcs ∨ funcAt p n = ⟨0, 0, [], []⟩ := by
 unfold funcAt
 cases e : p.funcs[n.toNat]? with
 | none => exact .inr rfl
 | some f => exact .inl (RE e)
theorem MF {p : Prog} (h : Au p = true) (n : Int) : ∀ x, x ∈ seqP p n → 0 ≤ x ∧ x < p.funcs.length := by
 intro x hx;unfold seqP at hx
 rcases funcAt_mem (p := p) n with hm | hm
 ·obtain ⟨k, hk, he⟩ := RC hm
  have := MG (CG h hk) x (by rw [he]; exact hx)
  rwa [Ax] at this
 ·rw [hm] at hx; cases hx
open Go.Eng
structure Met (N : Nat) (calls : Int → List Int) (fn : Int) (met : List Int) (k : Nat) : Prop where
 nodup : met.Nodup
 lead : ∀ x, x ∈ met → Lead calls fn x
 first : fn ∈ met
 closed : ∀ (i : Nat) (h : i < met.length), i < k → ∀ c, c ∈ calls met[i] → c ∈ met
section
variable {N : Nat} {calls : Int → List Int} {fn : Int} {met : List Int} {k : Nat}
end
structure Dfs (calls : Int → List Int) (fn : Int) (S ol : List Int) : Prop where
 leadS : ∀ x, x ∈ S → Lead calls fn x
 leadO : ∀ x, x ∈ ol → Lead calls fn x
 first : fn ∈ S ∨ fn ∈ ol
 closed : ∀ x, x ∈ S → ∀ c, c ∈ calls x → c ∈ S ∨ c ∈ ol
section
variable {N : Nat} {calls : Int → List Int} {fn x : Int} {S ol : List Int}
end
open Go.Eng
def w64 (n : Int) : Int := IntKind.i64.wrap n
def w32 (n : Int) : Int := IntKind.i64.wrap (IntKind.i32.wrap n)
def reckS (op x y : Int) : Option Int :=
 if op = 3 then some (w32 (w64 (x + y))) else if op = 4 then some (w32 (w64 (x - y))) else if op = 5 then some (w32 (w64 (x * y)))
 else if op = 6 then (if y = 0 then none else some (w32 (w64 (x.tdiv y)))) else if op = 7 then some (if x < y then 1 else 0) else some (if x = y then 1 else 0)
structure Ms where
 used : Nat
 fuel : Nat
 deep : Nat
 trace : List Int
structure By where
 how : Int
 pan : Int
 exd : Bool
structure Sx where
 m : Ms
 vars : List Int
 off : List Int
 res : Int
 by' : Option By
def Ep : Option By → Int × Option By
 | none => (0, none)
 | some b => if b.how = 2 then (b.pan, some ⟨if b.exd then 3 else 1, b.pan, b.exd⟩) else (0, some b)
def inS (inp : List Int) (m : Ms) : Int × Ms := if m.used < inp.length then ((inp[m.used]?).getD 0, ⟨m.used + 1, m.fuel, m.deep, m.trace⟩) else (0, m)
def tokX (cal : Int → List Int → Ms → Int × Int × Ms) (ps : List Int) (inp : List Int) (t : Tok) (pile : List Int) (s : Sx) : Int × Int × List Int × Sx :=
 if t.op = 1 then (0, 0, pile ++ [t.n], s)
 else if t.op = 2 then (0, 0, pile ++ [atI s.vars t.n], s)
 else if t.op = 9 then (0, 0, pile ++ [(inS inp s.m).1], { s with m := (inS inp s.m).2 })
 else if t.op = 10 then (0, 0, pile ++ [(Ep s.by').1], { s with by' := (Ep s.by').2 })
 else if t.op = 11 then
  let k := pile.length - (atI ps t.n).toNat
  let r := cal t.n (pile.drop k) s.m
  if r.1 = 1 then (0, 0, pile.take k ++ [r.2.1], { s with m := r.2.2 }) else (r.1, r.2.1, pile, { s with m := r.2.2 })
 else match reckS t.op ((pile[pile.length - 2]?).getD 0) ((pile[pile.length - 1]?).getD 0) with
  | none => (2, -1, pile, s)
  | some v => (0, 0, pile.take (pile.length - 2) ++ [v], s)
def exprS (cal : Int → List Int → Ms → Int × Int × Ms) (ps : List Int) (inp : List Int) : List Tok → List Int → Sx → Int × Int × Sx
 | [], pile, s => (0, (pile[0]?).getD 0, s)
 | t :: l, pile, s => let r := tokX cal ps inp t pile s
  if r.1 = 0 then exprS cal ps inp l r.2.2.1 r.2.2.2 else (r.1, r.2.1, r.2.2.2)
def blockS (st : Stmt → Sx → Int × Int × Sx) (f : Func) : List Int → Sx → Int × Int × Sx
 | [], s => (0, 0, s)
 | k :: l, s => let r := st (stmtAt f k) s
  if r.1 = 0 then blockS st f l r.2.2 else r
structure Lev where
 stmt : Func → Stmt → Sx → Int × Int × Sx
 call : Int → List Int → Option By → Ms → Int × Int × Option By × Ms
def Lev.cal (L : Lev) (fn : Int) (args : List Int) (m : Ms) : Int × Int × Ms := ((L.call fn args none m).1, (L.call fn args none m).2.1, (L.call fn args none m).2.2.2)
def Ay (m : Ms) : Ms := ⟨m.used, m.fuel - 1, m.deep, m.trace⟩
def doS (L : Lev) (f : Func) (t : Stmt) (v : Int) (s : Sx) : Int × Int × Sx :=
 if t.kind = 1 then (0, 0, { s with vars := s.vars.set t.n.toNat v })
 else if t.kind = 2 then (0, 0, { s with m := ⟨s.m.used, s.m.fuel, s.m.deep, s.m.trace ++ [v]⟩ })
 else if t.kind = 4 then (2, v, s)
 else if t.kind = 5 then (1, 0, { s with res := v })
 else if t.kind = 7 then (if v ≠ 0 then blockS (L.stmt f) f t.thn s else blockS (L.stmt f) f t.els s)
 else if t.kind = 8 then (if v = 0 then (0, 0, s) else
  let r := blockS (L.stmt f) f t.thn s
  if r.1 = 0 then L.stmt f t r.2.2 else r)
 else (0, 0, s)
def Bj (L : Lev) (ps inp : List Int) (f : Func) (t : Stmt) (s : Sx) : Int × Int × Sx :=
 if s.m.fuel = 0 then (5, 0, s)
 else if t.kind = 3 then (0, 0, { s with m := Ay s.m, off := s.off ++ [t.n] })
 else if t.kind = 6 then (3, 0, { s with m := Ay s.m })
 else
  let r := exprS L.cal ps inp t.ex [] { s with m := Ay s.m }
  if r.1 = 0 then doS L f t r.2.1 r.2.2 else r
def offR (cal : Int → Option By → Ms → Int × Int × Option By × Ms) : List Int → By → Ms → Int × By × Ms
 | [], b, m => (0, b, m)
 | k :: l, b, m => let r := cal k (some b) m
  let b1 := r.2.2.1.getD b
  if 4 ≤ r.1 then (r.1, b1, r.2.2.2) else if r.1 = 1 then offR cal l b1 r.2.2.2
  else offR cal l ⟨r.1, if r.1 = 2 then r.2.1 else b1.pan, b1.exd || decide (r.1 = 3)⟩ r.2.2.2
def OB (n : Nat) (args : List Int) : List Int := args ++ (List.replicate n 0).drop args.length
def startS (f : Func) (args : List Int) (b : Option By) (m : Ms) : Sx := ⟨⟨m.used, m.fuel - 1, m.deep + 1, m.trace⟩, OB f.vars.toNat args, [], 0, b⟩
def endS (h v : Int) : By := ⟨if h = 0 then 1 else h, if h = 2 then v else 0, decide (h = 3)⟩
def Ck (L : Lev) (p : Prog) (most : Nat) (fn : Int) (args : List Int) (b : Option By) (m : Ms) : Int × Int × Option By × Ms :=
 if m.fuel = 0 then (5, 0, b, m)
 else if m.deep = most then (4, 0, b, Ay m)
 else
  let f := funcAt p fn
  let r := blockS (L.stmt f) f f.body (startS f args b m)
  if 4 ≤ r.1 then (r.1, 0, r.2.2.by', r.2.2.m)
  else
   let q := offR (fun k b m => L.call k [] b m) r.2.2.off.reverse (endS r.1 r.2.1) r.2.2.m
   if 4 ≤ q.1 then (q.1, 0, r.2.2.by', q.2.2)
   else (q.2.1.how, if q.2.1.how = 2 then q.2.1.pan else r.2.2.res, r.2.2.by', ⟨q.2.2.used, q.2.2.fuel, q.2.2.deep - 1, q.2.2.trace⟩)
def lev (p : Prog) (inp : List Int) (most : Nat) : Nat → Lev
 | 0 => ⟨fun _ _ s => (5, 0, s), fun _ _ b m => (5, 0, b, m)⟩
 | n + 1 => ⟨Bj (lev p inp most n) (paramsL p) inp, Ck (lev p inp most n) p most⟩
/-! ### What it keeps to -/
def Ms.le (inp : List Int) (m m' : Ms) : Prop := m'.fuel ≤ m.fuel ∧ m'.trace.length + m'.fuel ≤ m.trace.length + m.fuel ∧ m'.used ≤ inp.length
theorem Ms.le.trans {inp : List Int} {a b c : Ms} (h : a.le inp b) (k : b.le inp c) : a.le inp c := ⟨RK k.1 h.1, RK k.2.1 h.2.1, k.2.2⟩
structure Sx.ok (p : Prog) (inp : List Int) (f : Func) (s : Sx) : Prop where
 vars : s.vars.length = f.vars.toNat
 off : ∀ x, x ∈ s.off → 0 ≤ x ∧ x < p.funcs.length ∧ atI (paramsL p) x = 0
 used : s.m.used ≤ inp.length
def ByOk (b : Option By) : Prop := ∀ x, b = some x → 1 ≤ x.how ∧ x.how < 4
structure Sx.to (p : Prog) (inp : List Int) (f : Func) (h : Int) (s s' : Sx) : Prop where
 ok : s'.ok p inp f
 le : s.m.le inp s'.m
 offl : s'.off.length + s'.m.fuel ≤ s.off.length + s.m.fuel
 h0 : 0 ≤ h
 h5 : h ≤ 5
 deep : h < 4 → s'.m.deep = s.m.deep
 by' : s'.by'.isSome = s.by'.isSome
 byk : ByOk s.by' → ByOk s'.by'
structure Ms.to (inp : List Int) (h : Int) (b b' : Option By) (m m' : Ms) : Prop where
 le : m.le inp m'
 h1 : 1 ≤ h
 h5 : h ≤ 5
 deep : h < 4 → m'.deep = m.deep
 by' : b'.isSome = b.isSome
 byk : ByOk b → ByOk b'
theorem Sx.to.trans {p : Prog} {inp : List Int} {f : Func} {h h' : Int} {a b c : Sx} (x : Sx.to p inp f h a b) (y : Sx.to p inp f h' b c) (hx : h < 4) : Sx.to p inp f h' a c :=
 ⟨y.ok, x.le.trans y.le, RK y.offl x.offl, y.h0, y.h5, fun hh => (y.deep hh).trans (x.deep hx), y.by'.trans x.by', fun h => y.byk (x.byk h)⟩
theorem Sx.to.refl {p : Prog} {inp : List Int} {f : Func} {a : Sx} (h : a.ok p inp f) {e : Int} (h0 : 0 ≤ e) (h5 : e ≤ 5) : Sx.to p inp f e a a :=
 ⟨h, ⟨Qu _, Qu _, h.used⟩, Qu _, h0, h5, fun _ => rfl, rfl, id⟩
def inF' (f : Func) (b : List Int) : Prop := ∀ x, x ∈ b → 0 ≤ x ∧ x < f.stmts.length
structure JA (p : Prog) (inp : List Int) (L : Lev) : Prop where
 stmt : ∀ f, f ∈ p.funcs → ∀ t, t ∈ f.stmts → ∀ s : Sx, s.ok p inp f → Sx.to p inp f (L.stmt f t s).1 s (L.stmt f t s).2.2
 call : ∀ (fn : Int) (args : List Int) (b : Option By) (m : Ms), 0 ≤ fn → fn < p.funcs.length → args.length = (atI (paramsL p) fn).toNat → m.used ≤ inp.length → Ms.to inp (L.call fn args b m).1 b (L.call fn args b m).2.2.1 m (L.call fn args b m).2.2.2
section
variable {p : Prog} {inp : List Int} {f : Func} {L : Lev}
theorem Ms.to_s {s : Sx} {h : Int} {m' : Ms} {b b' : Option By} (hs : s.ok p inp f) (ht : Ms.to inp h b b' s.m m') : Sx.to p inp f h s { s with m := m' } :=
 ⟨⟨hs.vars, hs.off, ht.le.2.2⟩, ht.le, by have := ht.le.1; show s.off.length + m'.fuel ≤ _; omega, by have := ht.h1; omega, ht.h5, ht.deep, rfl, id⟩
theorem inS_le {m : Ms} (h : m.used ≤ inp.length) : m.le inp (inS inp m).2 ∧ (inS inp m).2.deep = m.deep ∧ (inS inp m).2.fuel = m.fuel := by
 unfold inS;split
 ·exact ⟨⟨Qu _, Qu _, by assumption⟩, rfl, rfl⟩
 ·exact ⟨⟨Qu _, Qu _, h⟩, rfl, rfl⟩
theorem H2 (b : Option By) : (Ep b).2.isSome = b.isSome := by
 unfold Ep;split
 ·rfl
 ·split <;> rfl
theorem Pr {b : Option By} (h : ByOk b) : ByOk (Ep b).2 := by
 unfold Ep;split
 ·exact h
 ·split
  ·intro x hx
   cases hx;dsimp only
   split <;> omega
  ·exact h
theorem Lz (hL : JA p inp L) (hg : Au p = true) {vs : Int} {t : Tok} {pile : List Int} {s : Sx} (hs : s.ok p inp f) (hk : knownT vs (paramsL p).length t = true) (hn : Ah (paramsL p) t ≤ pile.length) :
  Sx.to p inp f (tokX L.cal (paramsL p) inp t pile s).1 s (tokX L.cal (paramsL p) inp t pile s).2.2.2 ∧
  ((tokX L.cal (paramsL p) inp t pile s).1 = 0 → ((tokX L.cal (paramsL p) inp t pile s).2.2.1.length : Int) = pile.length + (1 - Ah (paramsL p) t)) := by
 have hps := HA hg
 have h0 := Sx.to.refl hs (e := 0) (by omega) (by omega)
 unfold tokX
 by_cases o1 : t.op = 1
 ·rw [if_pos o1]
  exact ⟨h0, fun _ => by simp [Ah, o1]⟩
 rw [if_neg o1]
 by_cases o2 : t.op = 2
 ·rw [if_pos o2]
  exact ⟨h0, fun _ => by simp [Ah, o2]⟩
 rw [if_neg o2]
 by_cases o9 : t.op = 9
 ·rw [if_pos o9]
  obtain ⟨g1, g2, g3⟩ := inS_le hs.used
  exact ⟨⟨⟨hs.vars, hs.off, g1.2.2⟩, g1, by show s.off.length + (inS inp s.m).2.fuel ≤ _; omega, by show (0 : Int) ≤ 0; omega, by show (0 : Int) ≤ 5; omega, fun _ => g2, rfl, id⟩, fun _ => by simp [Ah, o9]⟩
 rw [if_neg o9]
 by_cases o10 : t.op = 10
 ·rw [if_pos o10]
  exact ⟨⟨⟨hs.vars, hs.off, hs.used⟩, h0.le, h0.offl, h0.h0, h0.h5, fun _ => rfl, H2 _, Pr⟩, fun _ => by simp [Ah, o10]⟩
 rw [if_neg o10]
 by_cases o11 : t.op = 11
 ·rw [if_pos o11]
  obtain ⟨k0, k1⟩ := DD hk o11
  rw [Ax] at k1
  have hne : Ah (paramsL p) t = atI (paramsL p) t.n := by simp [Ah, o11]
  have hb := Jk hps t.n
  rw [hne] at hn ⊢
  have hc := hL.call t.n (pile.drop (pile.length - (atI (paramsL p) t.n).toNat)) none s.m k0 k1 (by rw [RV]; omega) hs.used
  dsimp only [Lev.cal];split
  ·rename_i h
   rw [h] at hc
   have := Ms.to_s hs hc
   refine ⟨⟨this.ok, this.le, this.offl, by show (0 : Int) ≤ 0; omega, by show (0 : Int) ≤ 5; omega, fun _ => hc.deep (by omega), rfl, id⟩, fun _ => ?_⟩;simp only [Qg, Qo, Qk, List.length_nil];omega
  ·rename_i h
   refine ⟨Ms.to_s hs hc, fun hz => ?_⟩
   have := hc.h1
   have hz' : (L.call t.n (pile.drop (pile.length - (atI (paramsL p) t.n).toNat)) none s.m).1 = 0 := hz
   omega
 rw [if_neg o11]
 have hop : 3 ≤ t.op ∧ t.op ≤ 8 := by
  unfold knownT at hk;rw [if_neg o1, if_neg o2, if_neg o11] at hk;simp only [Qf, decide_eq_true_eq] at hk;omega
 have hne : Ah (paramsL p) t = 2 := by simp [Ah, hop]
 split
 ·exact ⟨Sx.to.refl hs (e := 2) (by omega) (by omega), fun h => by simp at h⟩
 ·refine ⟨h0, fun _ => ?_⟩
  rw [hne] at hn ⊢;simp only [Qg, Qo, Qk, List.length_nil];omega
theorem HE (hL : JA p inp L) (hg : Au p = true) {vs : Int} : ∀ {l : List Tok} {pile : List Int} {s : Sx} {mx : Int} {r : Int × Int}, s.ok p inp f → CO vs (paramsL p) l pile.length mx = some r →
  Sx.to p inp f (exprS L.cal (paramsL p) inp l pile s).1 s (exprS L.cal (paramsL p) inp l pile s).2.2
 | [], pile, s, mx, r, hs, _ => Sx.to.refl hs (by show (0 : Int) ≤ 0; omega) (by show (0 : Int) ≤ 5; omega)
 | t :: l, pile, s, mx, r, hs, hr => by
  rw [CO] at hr;split at hr
  ·rename_i hc
   rw [Qf, decide_eq_true_eq] at hc
   obtain ⟨h1, h2⟩ := Lz hL hg hs hc.1 hc.2
   rw [exprS];split
   ·rename_i h0
    rw [← h2 h0] at hr;exact h1.trans (HE hL hg h1.ok hr) (by omega)
   ·exact h1
  ·cases hr
theorem CB {st : Stmt → Sx → Int × Int × Sx} (hst : ∀ t, t ∈ f.stmts → ∀ s : Sx, s.ok p inp f → Sx.to p inp f (st t s).1 s (st t s).2.2) : ∀ {b : List Int} {s : Sx}, inF' f b → s.ok p inp f → Sx.to p inp f (blockS st f b s).1 s (blockS st f b s).2.2
 | [], s, _, hs => Sx.to.refl hs (by show (0 : Int) ≤ 0; omega) (by show (0 : Int) ≤ 5; omega)
 | k :: b, s, hb, hs => by
  have hk := hb k (by simp)
  have hm : stmtAt f k ∈ f.stmts := by rw [← AB (by omega)]; exact Qr _
  have h1 := hst _ hm s hs
  rw [blockS];split
  ·rename_i h0
   exact h1.trans (CB hst (fun x hx => hb x (by simp [hx])) h1.ok) (by omega)
  ·exact h1
theorem Sx.ok.burn {s : Sx} (h : s.ok p inp f) (hf : s.m.fuel ≠ 0) : Sx.to p inp f 0 s { s with m := Ay s.m } := by
 refine ⟨⟨h.vars, h.off, h.used⟩, ⟨?_, ?_, h.used⟩, ?_, by omega, by omega, fun _ => rfl, rfl, id⟩
 ·show s.m.fuel - 1 ≤ s.m.fuel; omega
 ·show s.m.trace.length + (s.m.fuel - 1) ≤ _; omega
 ·show s.off.length + (s.m.fuel - 1) ≤ _; omega
theorem Em {f : Func} (h : Ae f = true) : Ba f.stmts.length (kids f.stmts) ∧ inB f.stmts.length 0 f.body ∧ ord f.stmts.length (kids f.stmts) f.body = DM f.stmts.length := by
 unfold Ae at h;simp only [Qf] at h;exact shapeB_iff.1 h.2.2.1
theorem KS {f : Func} (hsh : Ae f = true) {t : Stmt} (ht : t ∈ f.stmts) : inF' f t.thn ∧ inF' f t.els ∧ inF' f f.body := by
 obtain ⟨hd, hb, _⟩ := Em hsh
 obtain ⟨i, hi, rfl⟩ := RC ht
 have h := hd i (by omega) (by omega)
 rw [kids_at (by omega)] at h;exact ⟨fun x hx => ⟨by have := (h.1 x hx).1; omega, (h.1 x hx).2⟩, fun x hx => ⟨by have := (h.2 x hx).1; omega, (h.2 x hx).2⟩, fun x hx => hb x hx⟩
theorem FX {f : Func} (hsh : Ae f = true) : inF' f f.body := fun x hx => (Em hsh).2.1 x hx
theorem Hk {vars : Int} {ps : List Int} {t : Stmt} (h : Av vars ps t = true) (h3 : t.kind ≠ 3) (h6 : t.kind ≠ 6) : ∃ m : Int, CO vars ps t.ex 0 0 = some (1, m) := by
 have hx : Bx vars ps t.ex = true := by
  rcases stmtG_ex h with h' | h'
  ·exfalso
   revert h
   grind [Av, Aa, Bx, CO]
  ·exact h'
 unfold Bx at hx
 cases hr : CO vars ps t.ex 0 0 with
 | none => rw [hr] at hx; cases hx
 | some q =>
  obtain ⟨a, m⟩ := q
  rw [hr] at hx;simp only [Qf, decide_eq_true_eq] at hx;exact ⟨m, by rw [hx.1]⟩
theorem N7 (hL : JA p inp L) (hg : Au p = true) (hf : f ∈ p.funcs) {t : Stmt} (ht : t ∈ f.stmts) {s : Sx} (hs : s.ok p inp f) : Sx.to p inp f (Bj L (paramsL p) inp f t s).1 s (Bj L (paramsL p) inp f t s).2.2 := by
 obtain ⟨q, hq, rfl⟩ := RC hf
 have hgf := CG hg hq
 have hsh := DE hgf
 have hst : Av (p.funcs[q]).vars (paramsL p) t = true := by
  obtain ⟨i, hi, rfl⟩ := RC ht
  exact DF hgf hi
 obtain ⟨hk1, hk2, _⟩ := KS hsh ht
 unfold Bj
 by_cases hz : s.m.fuel = 0
 ·rw [if_pos hz]
  exact Sx.to.refl hs (by show (0 : Int) ≤ 5; omega) (by show (5 : Int) ≤ 5; omega)
 rw [if_neg hz]
 have hb := hs.burn hz
 by_cases k3 : t.kind = 3
 ·rw [if_pos k3]
  obtain ⟨n0, n1, _⟩ := DP hst k3
  have hn : atI (paramsL p) t.n = 0 := by
   unfold Av at hst;rw [if_pos k3, Qf, decide_eq_true_eq] at hst;exact hst.2
  rw [Ax] at n1;refine ⟨⟨hs.vars, fun x hx => ?_, hs.used⟩, hb.le, ?_, by show (0 : Int) ≤ 0; omega, by show (0 : Int) ≤ 5; omega, fun _ => rfl, rfl, id⟩
  ·rcases Qj.1 hx with hx | hx
   ·exact hs.off x hx
   ·rw [Q5] at hx
    subst hx;exact ⟨n0, n1, hn⟩
  ·show (s.off ++ [t.n]).length + (s.m.fuel - 1) ≤ _
   simp only [Qg, Qk, List.length_nil];omega
 rw [if_neg k3]
 by_cases k6 : t.kind = 6
 ·rw [if_pos k6]
  exact ⟨hb.ok, hb.le, hb.offl, by show (0 : Int) ≤ 3; omega, by show (3 : Int) ≤ 5; omega, fun _ => rfl, rfl, id⟩
 rw [if_neg k6]
 obtain ⟨mx, hr⟩ := Hk hst k3 k6
 have he := HE hL hg (pile := []) hb.ok (l := t.ex) (mx := 0) (by simpa using hr)
 dsimp only;generalize exprS L.cal (paramsL p) inp t.ex [] { s with m := Ay s.m } = r at he
 obtain ⟨h, v, s2⟩ := r
 dsimp only at he ⊢
 have h1 := hb.trans he (by omega)
 split
 ·rename_i hh
  subst hh;unfold doS;dsimp only
  have hok := he.ok
  split
  ·exact h1.trans ⟨⟨by rw [RQ]; exact hok.vars, hok.off, hok.used⟩, ⟨Qu _, Qu _, hok.used⟩, Qu _, by show (0 : Int) ≤ 0; omega, by show (0 : Int) ≤ 5; omega, fun _ => rfl, rfl, id⟩ (by omega)
  split
  ·have hfu : s2.m.trace.length + 1 + s2.m.fuel ≤ s.m.trace.length + s.m.fuel := by
    have a1 : s2.m.trace.length + s2.m.fuel ≤ s.m.trace.length + (s.m.fuel - 1) := he.le.2.1
    omega
   refine ⟨⟨hok.vars, hok.off, hok.used⟩, ⟨h1.le.1, ?_, hok.used⟩, h1.offl, by show (0 : Int) ≤ 0; omega, by show (0 : Int) ≤ 5; omega, fun _ => h1.deep (by omega), h1.by', h1.byk⟩;show (s2.m.trace ++ [v]).length + s2.m.fuel ≤ _;simp only [Qg, Qk, List.length_nil];omega
  split
  ·exact ⟨h1.ok, h1.le, h1.offl, by show (0 : Int) ≤ 2; omega, by show (2 : Int) ≤ 5; omega, fun _ => h1.deep (by omega), h1.by', h1.byk⟩
  split
  ·exact ⟨⟨hok.vars, hok.off, hok.used⟩, h1.le, h1.offl, by show (0 : Int) ≤ 1; omega, by show (1 : Int) ≤ 5; omega, fun _ => h1.deep (by omega), h1.by', h1.byk⟩
  split
  ·split
   ·exact h1.trans (CB (hL.stmt _ hf) hk1 hok) (by omega)
   ·exact h1.trans (CB (hL.stmt _ hf) hk2 hok) (by omega)
  split
  ·split
   ·exact h1
   ·have hbl := CB (hL.stmt _ hf) hk1 hok
    split
    ·rename_i h0
     exact h1.trans (hbl.trans (hL.stmt _ hf _ ht _ hbl.ok) (by omega)) (by omega)
    ·exact h1.trans hbl (by omega)
  ·exact h1
 ·exact h1
theorem JR {cal : Int → Option By → Ms → Int × Int × Option By × Ms} (hc : ∀ (k : Int) (b : Option By) (m : Ms), 0 ≤ k → k < p.funcs.length → atI (paramsL p) k = 0 → m.used ≤ inp.length → Ms.to inp (cal k b m).1 b (cal k b m).2.2.1 m (cal k b m).2.2.2) :
  ∀ {l : List Int} {b : By} {m : Ms}, (∀ x, x ∈ l → 0 ≤ x ∧ x < p.funcs.length ∧ atI (paramsL p) x = 0) → m.used ≤ inp.length → 1 ≤ b.how → b.how < 4 →
   m.le inp (offR cal l b m).2.2 ∧ 0 ≤ (offR cal l b m).1 ∧ (offR cal l b m).1 ≤ 5 ∧ ((offR cal l b m).1 < 4 → (offR cal l b m).2.2.deep = m.deep ∧ 1 ≤ (offR cal l b m).2.1.how ∧ (offR cal l b m).2.1.how < 4)
 | [], b, m, _, hu, h1, h2 => ⟨⟨Qu _, Qu _, hu⟩, by show (0 : Int) ≤ 0; omega, by show (0 : Int) ≤ 5; omega, fun _ => ⟨rfl, h1, h2⟩⟩
 | k :: l, b, m, hl, hu, h1, h2 => by
  obtain ⟨q0, q1, q2⟩ := hl k (by simp)
  have hk := hc k (some b) m q0 q1 q2 hu
  rw [offR]
  have hb1 : ∃ b1, (cal k (some b) m).2.2.1 = some b1 := by
   have := hk.by'
   cases h : (cal k (some b) m).2.2.1 with
   | none => rw [h] at this; cases this
   | some b1 => exact ⟨b1, rfl⟩
  have hH1 := hk.h1
  split
  ·rename_i h4
   exact ⟨hk.le, by omega, hk.h5, fun h => by omega⟩
  ·rename_i h4
   split
   ·rename_i e1
    obtain ⟨b1, hb1⟩ := hb1
    have hbk := hk.byk (fun x hx => by cases hx; exact ⟨h1, h2⟩) b1 hb1
    rw [hb1]
    have ih := JR hc (l := l) (b := b1) (m := (cal k (some b) m).2.2.2) (fun x hx => hl x (by simp [hx])) hk.le.2.2 hbk.1 hbk.2
    exact ⟨hk.le.trans ih.1, ih.2.1, ih.2.2.1, fun h => ⟨((ih.2.2.2 h).1).trans (hk.deep (by omega)), (ih.2.2.2 h).2⟩⟩
   ·rename_i e1
    have ih := JR hc (l := l) (b := ⟨(cal k (some b) m).1, if (cal k (some b) m).1 = 2 then (cal k (some b) m).2.1 else ((cal k (some b) m).2.2.1.getD b).pan, ((cal k (some b) m).2.2.1.getD b).exd || decide ((cal k (some b) m).1 = 3)⟩) (m := (cal k (some b) m).2.2.2) (fun x hx => hl x (by simp [hx])) hk.le.2.2 hH1 (by show (cal k (some b) m).1 < 4; omega)
    exact ⟨hk.le.trans ih.1, ih.2.1, ih.2.2.1, fun h => ⟨((ih.2.2.2 h).1).trans (hk.deep (by omega)), (ih.2.2.2 h).2⟩⟩
theorem Bz {p : Prog} {n : Int} (h0 : 0 ≤ n) (h1 : n < p.funcs.length) : funcAt p n ∈ p.funcs := by rw [← AL (by omega)]; exact Qr _
theorem BG {p : Prog} {n : Int} (h0 : 0 ≤ n) (h1 : n < p.funcs.length) : atI (paramsL p) n = (funcAt p n).params := by rw [Be h0 h1, ← AL (by omega)]
theorem Cv {p : Prog} (hg : Au p = true) {f : Func} (hf : f ∈ p.funcs) : 0 ≤ f.params ∧ f.params ≤ 2 ∧ f.params ≤ f.vars ∧ f.vars ≤ 6 ∧ Ae f = true ∧ f.stmts.length ≤ 16 := by
 obtain ⟨q, hq, rfl⟩ := RC hf
 have hgf := CG hg hq
 have hsh := DE hgf
 have hl := Mv hgf
 have h := hsh
 unfold Ae at h;rw [Qf] at h
 have h2 := h.1
 unfold DU at h2;simp only [Qf, decide_eq_true_eq] at h2;exact ⟨h2.1.1, h2.1.2, h2.2.1.1, h2.2.1.2, hsh, hl⟩
theorem OA {n : Nat} {args : List Int} (h : args.length ≤ n) : (OB n args).length = n := by simp [OB]; omega
theorem Fd {p : Prog} {inp : List Int} {f : Func} {args : List Int} {b : Option By} {m : Ms} (ha : args.length ≤ f.vars.toNat) (hu : m.used ≤ inp.length) : (startS f args b m).ok p inp f :=
 ⟨OA ha, (fun x hx => absurd hx List.not_mem_nil), hu⟩
theorem Je {h v : Int} (h0 : 0 ≤ h) (h4 : h < 4) : 1 ≤ (endS h v).how ∧ (endS h v).how < 4 := by
 unfold endS;dsimp only
 split <;> omega
theorem O0 (hL : JA p inp L) (hg : Au p = true) {most : Nat} {fn : Int} {args : List Int} {b : Option By} {m : Ms} (h0 : 0 ≤ fn) (h1 : fn < p.funcs.length) (ha : args.length = (atI (paramsL p) fn).toNat) (hu : m.used ≤ inp.length) :
  Ms.to inp (Ck L p most fn args b m).1 b (Ck L p most fn args b m).2.2.1 m (Ck L p most fn args b m).2.2.2 := by
 have hm := Bz h0 h1
 obtain ⟨g1, g2, g3, g4, hsh, g6⟩ := Cv hg hm
 rw [BG h0 h1] at ha;unfold Ck
 by_cases hz : m.fuel = 0
 ·rw [if_pos hz]; exact ⟨⟨Qu _, Qu _, hu⟩, by show (1 : Int) ≤ 5; omega, by show (5 : Int) ≤ 5; omega, fun _ => rfl, rfl, id⟩
 rw [if_neg hz]
 by_cases hd : m.deep = most
 ·rw [if_pos hd]; exact ⟨⟨by show m.fuel - 1 ≤ m.fuel; omega, by show m.trace.length + (m.fuel - 1) ≤ _; omega, hu⟩, by show (1 : Int) ≤ 4; omega, by show (4 : Int) ≤ 5; omega, fun _ => rfl, rfl, id⟩
 rw [if_neg hd];dsimp only
 have hs := Fd (p := p) (inp := inp) (f := funcAt p fn) (args := args) (b := b) (m := m) (by omega) hu
 have hb := CB (hL.stmt _ hm) (FX hsh) hs
 generalize blockS (L.stmt (funcAt p fn)) (funcAt p fn) (funcAt p fn).body (startS (funcAt p fn) args b m) = r at hb
 obtain ⟨h, v, s1⟩ := r
 dsimp only at hb ⊢
 have e1 : s1.m.fuel ≤ m.fuel - 1 := hb.le.1
 have e2 : s1.m.trace.length + s1.m.fuel ≤ m.trace.length + (m.fuel - 1) := hb.le.2.1
 have hl1 : m.le inp s1.m := ⟨by omega, by omega, hb.le.2.2⟩
 have hh0 := hb.h0
 have hh5 := hb.h5
 split
 ·rename_i h4
  exact ⟨hl1, by show (1 : Int) ≤ h; omega, hb.h5, fun h => by omega, hb.by', hb.byk⟩
 ·rename_i h4
  have he := Je (v := v) hb.h0 (by omega)
  have ho := JR (p := p) (inp := inp) (cal := fun k b m => L.call k [] b m) (fun k b m k0 k1 k2 ku => hL.call k [] b m k0 k1 (by rw [k2]; rfl) ku) (l := s1.off.reverse) (b := endS h v) (m := s1.m) (fun x hx => hb.ok.off x (by simpa using hx)) hb.ok.used he.1 he.2
  generalize offR (fun k b m => L.call k [] b m) s1.off.reverse (endS h v) s1.m = q at ho
  obtain ⟨h2, b2, m2⟩ := q
  dsimp only at ho ⊢
  obtain ⟨o1, o2, o3, o4⟩ := ho
  split
  ·rename_i h5
   exact ⟨hl1.trans o1, by show (1 : Int) ≤ h2; omega, o3, fun h => by omega, hb.by', hb.byk⟩
  ·rename_i h5
   obtain ⟨p1, p2, p3⟩ := o4 (by omega)
   have hd1 : s1.m.deep = m.deep + 1 := hb.deep (by omega)
   refine ⟨⟨(hl1.trans o1).1, (hl1.trans o1).2.1, o1.2.2⟩, p2, by show b2.how ≤ 5; omega, fun _ => ?_, hb.by', hb.byk⟩;show m2.deep - 1 = m.deep;omega
theorem E7 {p : Prog} {inp : List Int} (hg : Au p = true) (most : Nat) : ∀ n, JA p inp (lev p inp most n)
 | 0 => ⟨fun f _ t _ s hs => Sx.to.refl hs (by show (0 : Int) ≤ 5; omega) (by show (5 : Int) ≤ 5; omega), fun fn args b m _ _ _ hu => ⟨⟨Qu _, Qu _, hu⟩, by show (1 : Int) ≤ 5; omega, by show (5 : Int) ≤ 5; omega, fun _ => rfl, rfl, id⟩⟩
 | n + 1 => ⟨fun f hf t ht s hs => N7 (E7 hg most n) hg hf ht hs, fun fn args b m h0 h1 ha hu => O0 (E7 hg most n) hg h0 h1 ha hu⟩
end
open Go.Eng
def ptr (b : Nat) : Value := .pointer (some ⟨b, 0, none⟩)
def mS (pv iv : Value) (most : Int) (m : Ms) : List D := [.t (.v pv), .t (.v iv), .t (.int m.used), .t (.int m.fuel), .t (.int most), .own (T.ints m.trace)]
def byH : Option By → Int
 | none => 0
 | some b => b.how
def byV : Option By → Int
 | none => 0
 | some b => if b.how = 2 then b.pan else 0
def byB : Option By → Int
 | none => 0
 | some b => if b.exd then 3 else 1
def bS (b : Option By) : List D := [.t (.int (byH b)), .t (.int (byV b)), .t (.int (byB b))]
def cS (f : Func) (fbv fsv : Value) (vars off : List Int) (res dp : Int) (bb : Nat) : List D :=
 [.t (.int f.params), .t (.int f.vars), .t (.v fbv), .t (.v fsv), .own (T.ints vars), .own (T.ints off), .t (.int res), .t (.int dp), .t (.v (.pointer (some ⟨bb, 0, none⟩)))]
def FG (op x y : Int) : Int := (reckS op x y).getD 0
open Go.Eng
def rS (pv iv : Value) (most fu co : Int) (m : Ms) : List D := [.t (.v pv), .t (.v iv), .t (.int most), .t (.int fu), .t (.int m.deep), .t (.int co), .t (.int 0), .own (T.ints m.trace), .t (.int m.used)]
def gC (fn : Int) (vars off : List Int) (res e pan : Int) (exd : Bool) (bp : Value) : List D := [.t (.int fn), .own (T.ints vars), .t (.int res), .own (T.ints off), .t (.int e), .t (.int pan), .t (.bool exd), .t (.v bp)]
structure Kp where
 fn : Int
 vars : List Int
 off : List Int
 res : Int
 bp : Value
def byP (bb : Nat) : Option By → Value
 | none => .pointer none
 | some _ => .pointer (some ⟨bb, 0, none⟩)
def hH : Option By → Int
 | none => 0
 | some b => b.how
def nH : Option By → Int
 | none => 0
 | some b => b.pan
def xH : Option By → Bool
 | none => false
 | some b => b.exd
def byK (bb : Nat) (q : Kp) (b : Option By) : Blk := .obox (byP bb b) (gC q.fn q.vars q.off q.res (hH b) (nH b) (xH b) q.bp)
def fuH (h : Int) (m : Ms) : Int := if h = 4 then (m.fuel : Int) + 1 else m.fuel
def coH (h : Int) : Int := if 4 ≤ h then h else 0
def haH (h : Int) : Int := if 4 ≤ h then 4 else h
theorem PN {b b' : Bool} (h : b = b') : A5 [D.t (T.v (Value.bool b))] = D.t (T.bool b') := by rw [h]; rfl
theorem MN {b b' : Int} (h : b = b') : A5 [D.t (T.v (Value.int .i64 b))] = D.t (T.int b') := by rw [h]; rfl
theorem GB (bm : Nat) (pv iv : Value) (most : Int) (m : Ms) (rv : List Value) (rt : List T) (hm : m.fuel ≤ 1048576) : Proc Try.prog 94 [.t (.v (.pointer (some ⟨bm, 0, none⟩)))] (rv) (rt) [.obox (.pointer (some ⟨bm, 0, none⟩)) (rS pv iv most m.fuel 0 m)] (.t (.bool (decide (m.fuel ≠ 0)))) [.obox (.pointer (some ⟨bm, 0, none⟩)) (rS pv iv most (Ay m).fuel (if m.fuel = 0 then 5 else 0) (Ay m))] := by
 refine Proc.intro tys Try.func94 Z Z (N := 19) [100] 99 ([(0, .t (.v (.pointer (some ⟨bm, 0, none⟩))))]) ([(100, .obox (.pointer (some ⟨bm, 0, none⟩)) (rS pv iv most m.fuel 0 m)), (99, .ro rv rt)]) Z Z Z Z (by decide) (by decide) Z (fun w0 G F0 => ?_);refine nY Z (AU (Le.openNew (u := 100) 1100 Z Z Z Z Z) (nY Z (AU (Le.named (t := 0) (u := 100) 1100 Z Z) (nY Z (sG (eZ Z (nB (sQ (sG (eZ Z (AK rfl Z (AA Z) Z Z Z (eK 3 Z (nB ?_)))))))))))));refine AD Z (fun h1 => ?_) (fun h1 => ?_)
 ·
  simp only [HS] at h1;refine sG (eZ Z (AK rfl Z (AA Z) Z Z Z (eZ Z (kZ [0,2,10] Z (eZ Z (sT Z (nZ Z (nA (eZ Z (nB (AU (Le.close (u := 100) 1100 Z Z Z) (nY Z (rT (tR ?_))))))))))))));refine eP [_] ?_ ?_
  ·exact PN (by simp; omega)
  ·(have h : (m.fuel : Int) = 0 := (by assumption); have hz : m.fuel = 0 := (by omega); simp only [rS, Ay, hz]; rfl)
 simp only [HS] at h1;refine AE (tN (sG (eZ Z (AK rfl Z (AA Z) Z Z Z (eZ Z (kZ [2,12,14] Z (eZ Z (evI ?_))))))));refine AK rfl Z (AA Z) Z Z Z (eZ Z (sT Z (nZ Z (nA (eZ Z (nB (AU (Le.close (u := 100) 1100 Z Z Z) (nY Z (rT ?_)))))))));refine eP [_] ?_ ?_
 ·exact PN (by simp; omega)
 ·(have h : (m.fuel : Int) - 1 = ((m.fuel - 1 : Nat) : Int) := (by omega); rw [h, if_neg (by omega)]; rfl)
theorem recSn {b : By} (h : ¬ b.how = 2) : Ep (some b) = (0, some b) := by rw [Ep, if_neg h]
theorem OJ {b : By} (h : b.how = 2) : Ep (some b) = (b.pan, some ⟨if b.exd = true then 3 else 1, b.pan, b.exd⟩) := by rw [Ep, if_pos h]
theorem MS (bc bb : Nat) (q : Kp) (fn : Int) (vars off : List Int) (res e pan : Int) (exd : Bool) (rv : List Value) (rt : List T) : Proc Try.prog 121 [.t (.v (.pointer (some ⟨bc, 0, none⟩)))] (rv) (rt) [.obox (.pointer (some ⟨bc, 0, none⟩)) (gC fn vars off res e pan exd (byP bb none)), byK bb q none] (.t (.int 0)) [.obox (.pointer (some ⟨bc, 0, none⟩)) (gC fn vars off res e pan exd (byP bb none)), byK bb q none] := by
 refine Proc.intro tys Try.func121 Z Z (N := 44) [100, 101] 99 ([(0, .t (.v (.pointer (some ⟨bc, 0, none⟩))))]) ([(100, .obox (.pointer (some ⟨bc, 0, none⟩)) (gC fn vars off res e pan exd (byP bb none))), (101, byK bb q none), (99, .ro rv rt)]) Z Z Z Z (by decide) (by decide) Z (fun w0 G F0 => ?_);refine nY Z (AU (Le.openNew (u := 100) 1100 Z Z Z Z Z) (nY Z (AU (Le.named (t := 0) (u := 100) 1100 Z Z) (nY Z (sG (eZ Z (nB (sQ (sG (eZ Z (AK rfl Z (AA Z) Z Z Z (eK 2 Z (I1 (e := 109) (b := true) Z Z (AA Z) Z (by kernel_rfl) Z Z (.inl ⟨rfl, rfl⟩) (AC (Le.known (t := 7) true Z (by simp)) ?_))))))))))))));refine xK 3 Z (kZ [0,2,8,10] Z (xK 7 Z (nB (AY Z (sQ (kY [0,2] Z (rG (eZ Z (nB (AU (Le.close (u := 100) 1100 Z Z Z) (nY Z (rT (tR ?_)))))))))))));refine eP [_, _] ?_ ?_
 ·rfl
 ·rfl
theorem MR (bc bb : Nat) (q : Kp) (b : By) (fn : Int) (vars off : List Int) (res e pan : Int) (exd : Bool) (rv : List Value) (rt : List T) : Proc Try.prog 121 [.t (.v (.pointer (some ⟨bc, 0, none⟩)))] (rv) (rt) [.obox (.pointer (some ⟨bc, 0, none⟩)) (gC fn vars off res e pan exd (byP bb (some b))), .obox (.pointer (some ⟨bb, 0, none⟩)) (gC q.fn q.vars q.off q.res b.how b.pan b.exd q.bp)] (.t (.int (Ep (some b)).1)) [.obox (.pointer (some ⟨bc, 0, none⟩)) (gC fn vars off res e pan exd (byP bb (some b))), byK bb q (Ep (some b)).2] := by
 refine Proc.intro tys Try.func121 Z Z (N := 44) [100, 101] 99 ([(0, .t (.v (.pointer (some ⟨bc, 0, none⟩))))]) ([(100, .obox (.pointer (some ⟨bc, 0, none⟩)) (gC fn vars off res e pan exd (byP bb (some b)))), (101, .obox (.pointer (some ⟨bb, 0, none⟩)) (gC q.fn q.vars q.off q.res b.how b.pan b.exd q.bp)), (99, .ro rv rt)]) Z Z Z Z (by decide) (by decide) Z (fun w0 G F0 => ?_);refine nY Z (AU (Le.openNew (u := 100) 1100 Z Z Z Z Z) (nY Z (AU (Le.named (t := 0) (u := 100) 1100 Z Z) (nY Z (AU (Le.openNew (u := 101) 1101 Z Z Z Z Z) (nY Z (sG (eZ Z (nB (sQ (sG (eZ Z (AK rfl Z (AA Z) Z Z Z (eK 2 Z (I1 (e := 109) (b := false) Z Z (AA Z) Z (by kernel_rfl) Z Z (.inl ⟨rfl, rfl⟩) ?_)))))))))))))));refine AC (Le.known (t := 7) false Z (by simp)) ?_;refine xK 2 Z (gY Z (AK rfl Z (AA Z) Z Z Z (kZ [0,2,8,10] Z (xK 2 Z (AC (Le.named (t := 12) (u := 101) 1101 Z Z) (gY Z (AK rfl Z (AA Z) Z Z Z (xK 4 Z (nB ?_)))))))));refine AD Z (fun h1 => ?_) (fun h1 => ?_)
 ·
  simp only [HS] at h1;refine sQ (kY [0,2] Z (rG (eZ Z (nB (AU (Le.close (u := 100) 1100 Z Z Z) (nY Z (AU (Le.close (u := 101) 1101 Z Z Z) (nY Z (rT (tR ?_))))))))));refine eP [_, _] ?_ ?_
  ·exact MN (by rw [recSn (by assumption)])
  ·(rw [recSn (by assumption)]; rfl)
 simp only [HS] at h1;refine AE (tN (sQ (kY [0,2] Z (rG (eZ Z (AK rfl Z (AA Z) Z Z Z (eK 2 Z (AC (Le.named (t := 21) (u := 101) 1101 Z Z) (AK rfl Z (AA Z) Z Z Z (eZ Z (sT Z (nZ Z (nB (sQ (sQ ?_)))))))))))))));refine kY [0,2] Z (rG (eZ Z (AK rfl Z (AA Z) Z Z Z (eK 2 Z (AC (Le.named (t := 27) (u := 101) 1101 Z Z) (AK rfl Z (AA Z) Z Z Z (eK 2 Z (nB ?_))))))));refine AD Z (fun h2 => ?_) (fun h2 => ?_)
 ·
  refine kY [0,2] Z (rG (eZ Z (AK rfl Z (AA Z) Z Z Z (eK 2 Z (AC (Le.named (t := 34) (u := 101) 1101 Z Z) (AK rfl Z (AA Z) Z Z Z (eZ Z (sT Z (nZ Z (nB (sQ (kY [0,2] Z (rG (eZ Z (AK rfl Z (AA Z) Z Z Z ?_)))))))))))))));refine eK 2 Z (AC (Le.named (t := 40) (u := 101) 1101 Z Z) (AK rfl Z (AA Z) Z Z Z (eK 3 Z (nB (AU (Le.close (u := 100) 1100 Z Z Z) (nY Z (AU (Le.close (u := 101) 1101 Z Z Z) (nY Z (rT ?_)))))))));refine eP [_, _] ?_ ?_
  ·exact MN (by rw [OJ (by omega)])
  ·(rw [OJ (by omega), if_pos (by assumption)]; rfl)
 refine AE (tN (sQ (kY [0,2] Z (rG (eZ Z (AK rfl Z (AA Z) Z Z Z (eK 2 Z (AC (Le.named (t := 40) (u := 101) 1101 Z Z) (AK rfl Z (AA Z) Z Z Z (eK 3 Z (nB (AU (Le.close (u := 100) 1100 Z Z Z) (nY Z (AU (Le.close (u := 101) 1101 Z Z Z) (nY Z ?_)))))))))))))));refine rT ?_;refine eP [_, _] ?_ ?_
 ·exact MN (by rw [OJ (by omega)])
 ·(rw [OJ (by omega), if_neg (by simp_all)]; rfl)
theorem OL (bc bb : Nat) (q : Kp) (b : Option By) (fn : Int) (vars off : List Int) (res e pan : Int) (exd : Bool) (rv : List Value) (rt : List T) : Proc Try.prog 121 [.t (.v (.pointer (some ⟨bc, 0, none⟩)))] rv rt
  [.obox (.pointer (some ⟨bc, 0, none⟩)) (gC fn vars off res e pan exd (byP bb b)), byK bb q b] (.t (.int (Ep b).1)) [.obox (.pointer (some ⟨bc, 0, none⟩)) (gC fn vars off res e pan exd (byP bb b)), byK bb q (Ep b).2] := by
 cases b with
 | none => exact MS bc bb q fn vars off res e pan exd rv rt
 | some b => exact MR bc bb q b fn vars off res e pan exd rv rt
theorem GA {bb : Nat} {a b : Option By} (h : a.isSome = b.isSome) : byP bb a = byP bb b := by
 cases a <;> cases b <;> first | rfl | cases h
theorem Kj (bc : Nat) (h v : Int) (fn : Int) (vars off : List Int) (res e pan : Int) (exd : Bool) (bp : Value) (rv : List Value) (rt : List T) : Proc Try.prog 96 [.t (.v (.pointer (some ⟨bc, 0, none⟩))), .t (.int h), .t (.int v)] (rv) (rt) [.obox (.pointer (some ⟨bc, 0, none⟩)) (gC fn vars off res e pan exd bp)] (.tup []) [.obox (.pointer (some ⟨bc, 0, none⟩)) (gC fn vars off res h (if h = 2 then v else pan) (or exd (decide (h = 3))) bp)] := by
 refine Proc.intro tys Try.func96 Z Z (N := 22) [100] 99 ([(0, .t (.v (.pointer (some ⟨bc, 0, none⟩)))), (1, .t (.int h)), (2, .t (.int v))]) ([(100, .obox (.pointer (some ⟨bc, 0, none⟩)) (gC fn vars off res e pan exd bp)), (99, .ro rv rt)]) Z Z Z Z (by decide) (by decide) Z (fun w0 G F0 => ?_);refine nY Z (AU (Le.openNew (u := 100) 1100 Z Z Z Z Z) (nY Z (AU (Le.named (t := 0) (u := 100) 1100 Z Z) (nY Z (NT (sG (eK 2 Z (AK rfl Z (AA Z) Z Z Z (eZ Z (sT Z (nZ Z (nA (eZ Z (nB (AF ?_)))))))))))))));refine sG (eK 2 Z (nB ?_));refine AD Z (fun h1 => ?_) (fun h1 => ?_)
 ·
  simp only [HS] at h1;refine kY [0,2] Z (rG (eK 2 Z (AK rfl Z (AA Z) Z Z Z (eZ Z (sT Z (nZ Z (oN (bN ?_))))))));refine ⟨_, Le.close (u := 100) 1100 Z Z rfl, ?_⟩;refine eP [_] ?_ ?_
  ·rfl
  ·simp_all [gC]
   done
 simp only [HS] at h1;refine sQ (kY [0,10] Z (rG (eK 2 Z (nB ?_))));refine AD Z (fun h2 => ?_) (fun h2 => ?_)
 ·
  simp only [HS] at h2;refine rG (eZ Z (AK rfl Z (AA Z) Z Z Z (eZ Z (sT Z (nZ Z (oN (bN ?_)))))));refine ⟨_, Le.close (u := 100) 1100 Z Z rfl, ?_⟩;refine eP [_] ?_ ?_
  ·rfl
  ·simp_all [gC]
   done
 simp only [HS] at h2;refine AE (bN ?_);refine ⟨_, Le.close (u := 100) 1100 Z Z rfl, ?_⟩;refine eP [_] ?_ ?_
 ·rfl
 ·simp_all [gC]
  done
theorem EF (n : Int) : Fun Try.prog 126 [.t (.int n)] (A5 [.t (.int (w32 n))]) := by
 refine Fun.begin tys Try.func126 Z Z (N := 6) [(0, .t (.int n))] Z Z (fun w0 G F0 => ?_);refine sG (eZ Z (nA (eZ Z (WO_conv (td := .int .i64) (k := .i32) Z Z (AA Z) Z (by kernel_rfl) (by kernel_rfl) Z (WO_conv (td := .int .i32) (k := .i64) Z Z (AA Z) Z (by kernel_rfl) (by kernel_rfl) Z (eZ Z (nB (rT (eR ?_)))))))))
 ·rfl
theorem EJ {a a' : Int} {b b' : Bool} (h : a = a') (h' : b = b') : [D.t (T.v (Value.int .i64 a)), D.t (T.v (Value.bool b))] = [D.t (T.int a'), D.t (T.bool b')] := by rw [h, h']
theorem MQ (op x y : Int) : Fun Try.prog 122 [.t (.int op), .t (.int x), .t (.int y)] (A5 [.t (.int (FG op x y)), .t (.bool (reckS op x y).isSome)]) := by
 refine Fun.begin tys Try.func122 Z Z (N := 45) [(0, .t (.int op)), (1, .t (.int x)), (2, .t (.int y))] Z Z (fun w0 G F0 => ?_);refine sG (eK 2 Z (nA (eZ Z (nB (sQ (sG (eZ Z (nB (AF (sG (eK 2 Z (nB ?_))))))))))));refine AD Z (fun h1 => ?_) (fun h1 => ?_)
 ·
  simp only [HS] at h1;refine sG (eK 3 Z (kZ [6,7,8,17] Z (AQ ?_)));refine ⟨_, EF _, rfl, ?_⟩;refine eK 2 Z (nB (rT (bR (tR (eR ?_)))))
  ·exact EJ (by grind [FG, reckS, w64]) (by grind [reckS])
 simp only [HS] at h1;refine sG (eK 2 Z (nB ?_));refine AD Z (fun h2 => ?_) (fun h2 => ?_)
 ·
  simp only [HS] at h2;refine sQ (kY [1,2,6,7,8] Z (rG (eK 3 Z (AQ ?_))));refine ⟨_, EF _, rfl, ?_⟩;refine eK 2 Z (nB (rT (bR (tR (eR ?_)))))
  ·exact EJ (by grind [FG, reckS, w64]) (by grind [reckS])
 simp only [HS] at h2;refine sQ (kY [1,2,6,7,8,9] Z (rG (eK 2 Z (nB ?_))));refine AD Z (fun h3 => ?_) (fun h3 => ?_)
 ·
  simp only [HS] at h3;refine sG (eK 3 Z (AQ ?_));refine ⟨_, EF _, rfl, ?_⟩;refine eK 2 Z (nB (rT (bR (tR (eR ?_)))))
  ·exact EJ (by grind [FG, reckS, w64]) (by grind [reckS])
 simp only [HS] at h3;refine sG (eK 2 Z (nB ?_));refine AD Z (fun h4 => ?_) (fun h4 => ?_)
 ·
  simp only [HS] at h4;refine sQ (sG (eK 2 Z (nB ?_)));refine AD Z (fun h5 => ?_) (fun h5 => ?_)
  ·
   simp only [HS] at h5;refine sG (eK 2 Z (nB (rT (tR (bR (tR (eR ?_)))))))
   ·exact EJ (by grind [FG, reckS, w64]) (by grind [reckS])
  simp only [HS] at h5;refine AE (tN (sG (eK 2 Z (WO_quo Z Z (AA Z) Z Z Z (by first | decide | omega) ?_))));refine kZ [6,7,8,37] Z (AQ ?_);refine ⟨_, EF _, rfl, ?_⟩;refine eK 2 Z (nB (rT (bR (tR (eR ?_)))))
  ·exact EJ (by grind [FG, reckS, w64]) (by grind [reckS])
 simp only [HS] at h4;refine sG (eK 2 Z (nB ?_));refine AD Z (fun h5 => ?_) (fun h5 => ?_)
 ·
  simp only [HS] at h5;refine rG (eK 3 Z (kZ [6,7,8,43] Z (eZ Z (oN (bN (tN (sQ (sG (eZ Z (nB ?_))))))))));refine AD Z (fun h6 => ?_) (fun h6 => ?_)
  ·
   simp only [HS] at h6;refine sG (eK 2 Z (nB (rT (tR (eR ?_)))))
   ·exact EJ (by grind [FG, reckS, w64]) (by grind [reckS])
  simp only [HS] at h6;refine AE (tN (sG (eK 2 Z (nB (rT (eR ?_))))))
  ·exact EJ (by grind [FG, reckS, w64]) (by grind [reckS])
 simp only [HS] at h5;refine rG (eK 3 Z (kZ [6,7,8,12] Z (eZ Z (oN (bN (tN (sQ (sG (eZ Z (nB ?_))))))))));refine AD Z (fun h6 => ?_) (fun h6 => ?_)
 ·
  simp only [HS] at h6;refine sG (eK 2 Z (nB (rT (tR (eR ?_)))))
  ·exact EJ (by grind [FG, reckS, w64]) (by grind [reckS])
 simp only [HS] at h6;refine AE (tN (sG (eK 2 Z (nB (rT (eR ?_))))))
 ·exact EJ (by grind [FG, reckS, w64]) (by grind [reckS])
open Go.Eng
theorem Fy (l : List Int) (hl : l.length ≤ 1073741824) : Fun Try.prog 85 [.t (T.ints l)] (A5 [.own (T.ints l)]) := by
 refine Fun.begin tys Try.func85 Z Z (N := 6) [(0, .t (T.ints l))] Z Z (fun w0 G F0 => ?_);refine sG (eZ Z (nA (bZ [] ?_)));refine nZ Z (eZ Z (AJ tys Z Z (AA Z) Z Z Z Z Z (.own Z (by first | omega | (simp only [Qg]; omega))) Z (.read (MU l)) (by decide) (by simp; omega) (by decide) Z ?_));refine nZ Z (eZ Z (nB (AU (Le.gather (u := 2) (id := 3) Z Z (by simp)) ?_)));refine rT (eR ?_)
 ·(simp only [N5, Qt, List.nil_append, List.length_nil, Q9, List.take_nil]; rfl)
def movT (to : List Int) (t : Tok) : Tok := if t.op = 11 then ⟨t.op, atI to t.n⟩ else t
def movN (to : List Int) (s : Stmt) : Int := if s.kind = 3 then atI to s.n else s.n
def movS (to : List Int) (s : Stmt) : Stmt := ⟨s.kind, movN to s, s.ex.map (movT to), s.thn, s.els⟩
def movF (to : List Int) (f : Func) : Func := ⟨f.params, f.vars, f.body, f.stmts.map (movS to)⟩
theorem IM (f : Func) (to : List Int) (hf : f.ok 1048576) (hs : ∀ x, x ∈ OC f.stmts → 0 ≤ x ∧ x < to.length) (ht : to.length ≤ 1048576) : Fun Try.prog 51 [.t f.tt, .t (T.ints to)] (A5 [.agg [.t (T.int f.params), .t (T.int f.vars), .own (T.ints f.body), .own (T.Stmts (f.stmts.map (movS to)))]]) := by
  have hl : f.stmts.length ≤ 1048576 := hf.2.1.1
  have hbl : f.body.length ≤ 1048576 := hf.1
  refine Fun.begin tys Try.func51 Z Z (N := 77) [(0, .t f.tt), (1, .t (T.ints to))] Z Z (fun w0 G F0 => ?_);refine sG (Af Z Z (AA Z) Z Z (nZ Z (AH tys Z Z (AA Z) Z Z Z (nZ Z (nB (sQ (C0 9 A9 Z (by kernel_rfl) (by kernel_rfl) ?_)))))))
  iterate 4 (refine QG_ev tys rfl rfl (AA rfl) rfl ?_)
  refine DI Z (QG_ev tys Z Z (AA Z) Z (QG_ev tys Z Z (AA Z) Z (FD ?_)));refine ⟨_, Fy _ (by omega), rfl, ?_⟩;refine Eh tys Z Z (AA Z) Z Z Z (by kernel_rfl) Z Z Z Z Z Z (HZ tys Z Z (AA Z) Z Z Z Z (AI ?_));refine ⟨by kernel_rfl, ?_⟩;refine nZ Z (sT Z (nZ Z (nB (sQ (sG (nZ Z (AC (Le.nilBox (u := 5) (j := 3) 5 Z Z) (nZ Z (AC (Le.adoptBox (u := 5) (j := 3) (id := 170) Z Z Z) (nZ Z (eK 2 Z (evE ?_))))))))))));refine eZ Z (nB (AF ?_));refine lK (α := Int × Nat × List T) [1, 4, 5, 20, 21] [4] (fun x => [(22, .t (.int (x.1)))]) (fun x => [(5, .box [.t (T.int f.params), .t (T.int f.vars), .own (T.ints f.body), .sl 170 0 (x.2.1)]), (170, .L 5 (x.2.2))]) (fun x => 0 ≤ (x.1) ∧ (x.1) ≤ f.stmts.length ∧ (x.2.1) = (x.2.2).length ∧ (x.2.2) = (f.stmts.take (x.1).toNat).map (fun s => (movS to s).tt)) (fun x => Int.toNat (f.stmts.length - (x.1))) (0, 0, []) ?_ (fun x hx => ?_)
  · exact ⟨by omega, by omega, rfl, rfl⟩
  obtain ⟨k, m, xs⟩ := x
  obtain ⟨hk0, hk1, hm, hxs⟩ := hx
  dsimp only at hk0 hk1 hm hxs ⊢;refine nY Z (sG (eZ Z (nB (sQ ?_))));refine AD Z (fun h1 => ?_) (fun h1 => ?_)
  ·
    simp only [HS] at h1;refine AE (tN (sQ (AF (sG ?_))))
    have hso := CM hf (n := k.toNat) (by omega)
    refine iY (k := ?_);refine eZ Z ?_
    try refine AC (Le.freeze (u := 25) rfl) ?_
    refine nZ Z (AH tys Z Z (AA Z) Z Z Z (nZ Z (sT Z (nZ Z (nB (sQ (C0 12 A9 Z (by kernel_rfl) (by kernel_rfl) (QG_ev tys Z Z (AA Z) Z (DI Z ?_)))))))))
    iterate 5 (refine QG_ev tys rfl rfl (AA rfl) rfl ?_)
    refine FD ?_;refine ⟨_, Fy _ (by omega), rfl, ?_⟩;refine DI Z (QG_ev tys Z Z (AA Z) Z (QG_ev tys Z Z (AA Z) Z (FD ?_)));refine ⟨_, Fy _ (by omega), rfl, ?_⟩;refine Eh tys Z Z (AA Z) Z Z Z (by kernel_rfl) Z Z Z Z Z Z (HZ tys Z Z (AA Z) Z Z Z Z (AI ?_));refine ⟨by kernel_rfl, ?_⟩;refine nZ Z (sT Z (nZ Z (nB (sQ (sG (eK 3 Z (nB ?_)))))));refine A1 (α := Int) [1, 4, 5, 7, 8, 20, 21, 22, 23, 24, 25, 26, 27, 28, 29, 30, 31, 32, 33, 34, 35, 36, 37, 38, 39] [4, 5, 7, 170] (fun x => []) (fun x => [(8, .box [.t (T.int (f.stmts[k.toNat]'(by omega)).kind), .t (.int x), .nil, .own (T.ints (f.stmts[k.toNat]'(by omega)).thn), .own (T.ints (f.stmts[k.toNat]'(by omega)).els)])]) (fun x => x = movN to (f.stmts[k.toNat]'(by omega))) ?_ (fun nn hx => ?_)
    ·
      refine AD Z (fun h2 => ?_) (fun h2 => ?_)
      ·
        simp only [HS] at h2;refine rG ?_
        have hn := ME hs (n := k.toNat) (by omega) h2
        refine eK 3 Z ?_;refine iY (k := ?_);refine eZ Z (kZ [1,4,5,7,8,20,21,22,23,24,25,26,27,28,29,30,31,32,33,34,35,36,37,38,39,40,41,42,43,44] Z (eZ Z (sT Z (nZ Z (oN (jQ _ ?_))))))
        first
        | (rw [movN, if_pos h2, BL hn.1 hn.2]; done)
      simp only [HS] at h2;refine AE (jQ _ ?_)
      first
      | (rw [movN, if_neg h2]; done)
    have hnn := hx
    refine tN (sQ (sQ (kY [1,4,5,7,8,20,21,22,23,24,25,26,27,28,29,30,31,32,33,34,35,36,37,38,39] Z (rG (nZ Z (AC (Le.nilBox (u := 8) (j := 2) 2 Z Z) (nZ Z (AC (Le.adoptBox (u := 8) (j := 2) (id := 171) Z Z Z) (nZ Z (eK 2 Z (evE ?_)))))))))));refine eZ Z (nB (AF ?_));refine lK (α := Int × Nat × List T) [1, 4, 5, 8, 20, 21, 22, 47, 48] [4, 5, 170] (fun x => [(49, .t (.int (x.1)))]) (fun x => [(8, .box [.t (T.int (f.stmts[k.toNat]'(by omega)).kind), .t (.int nn), .sl 171 0 (x.2.1), .own (T.ints (f.stmts[k.toNat]'(by omega)).thn), .own (T.ints (f.stmts[k.toNat]'(by omega)).els)]), (171, .L 2 (x.2.2))]) (fun x => 0 ≤ (x.1) ∧ (x.1) ≤ (f.stmts[k.toNat]'(by omega)).ex.length ∧ (x.2.1) = (x.2.2).length ∧ (x.2.2) = ((f.stmts[k.toNat]'(by omega)).ex.take (x.1).toNat).map (fun t => (movT to t).tt)) (fun x => Int.toNat ((f.stmts[k.toNat]'(by omega)).ex.length - (x.1))) (0, 0, []) ?_ (fun x hx => ?_)
    · exact ⟨by omega, by omega, rfl, rfl⟩
    obtain ⟨j, m2, ys⟩ := x
    obtain ⟨hj0, hj1, hm2, hys⟩ := hx
    dsimp only at hj0 hj1 hm2 hys ⊢;refine nY Z (sG (eZ Z (nB (sQ ?_))));refine AD Z (fun h2 => ?_) (fun h2 => ?_)
    ·
      simp only [HS] at h2;refine AE (tN (sQ (AF (sG ?_))));refine iY (k := ?_);refine eZ Z ?_
      try refine AC (Le.freeze (u := 52) rfl) ?_
      refine nZ Z (AH tys Z Z (AA Z) Z Z Z (nZ Z (sT Z (nZ Z (nB (sQ (sG (eK 3 Z (nB ?_)))))))));refine A1 (α := Int) [1, 4, 5, 8, 10, 20, 21, 22, 47, 48, 49, 50, 51, 52, 53, 54, 55] [4, 5, 8, 170, 171] (fun x => []) (fun x => [(10, .box [.t (T.int ((f.stmts[k.toNat]'(by omega)).ex[j.toNat]'(by omega)).op), .t (.int x)])]) (fun x => x = (movT to ((f.stmts[k.toNat]'(by omega)).ex[j.toNat]'(by omega))).n) ?_ (fun tn hx => ?_)
      ·
        refine AD Z (fun h3 => ?_) (fun h3 => ?_)
        ·
          simp only [HS] at h3;refine kY [1,4,5,8,10,20,21,22,47,48,49,50,51,52,53,54,55] Z (rG ?_)
          have hn := MD hs (n := k.toNat) (by omega) (j := j.toNat) (by omega) h3
          refine eK 3 Z ?_;refine iY (k := ?_);refine eK 2 Z (sT Z (nZ Z (oN (jQ _ ?_))))
          first
          | (rw [movT, if_pos h3, BL hn.1 hn.2]; done)
        simp only [HS] at h3;refine AE (jQ _ ?_)
        first
        | (rw [movT, if_neg h3]; done)
      have htn := hx
      refine tN (kY [1,4,5,8,10,20,21,22,47,48,49,50,51,52,53,54,55] Z (rG (eK 3 Z ?_)))
      try refine AC (Le.freeze (u := 64) rfl) ?_
      refine nZ Z (bZ [.agg [T.int ((f.stmts[k.toNat]'(by omega)).ex[j.toNat]'(by omega)).op, T.int tn]] ?_);refine nZ Z (AJ tys Z Z (AA Z) Z Z Z Z Z (.own Z (by first | omega | (simp only [Qg]; omega))) Z (.own Z (by first | decide | omega)) (by decide) (by simp only [Qo, Qk, List.length_nil]; rw [hys, Qh, Qo]; omega) (by decide) Z ?_);refine nZ Z (eZ Z (sT Z (nZ Z (oN (bN (tN (kY [1,4,5,8,10,20,21,22,47,48,49,50,51,52,53,54,55,62,63,64,65,66,67] Z (rG (evI ?_)))))))));refine eZ Z (oN ?_);refine lQ (_, _, _) ?_ ?_
      · dsimp only
        have e : (movT to ((f.stmts[k.toNat]'(by omega)).ex[j.toNat]'(by omega))).tt = .agg [T.int ((f.stmts[k.toNat]'(by omega)).ex[j.toNat]'(by omega)).op, T.int tn] := by
         rw [htn];unfold movT
         split <;> rfl
        subst hm2;refine ⟨by omega, by omega, by simp, ?_⟩;rw [Qt, hys, CD hj0 (by omega), Q8, Q4, List.map_nil, e];rfl
      · (show Int.toNat _ < Int.toNat _); omega
    simp only [HS] at h2;refine AV (tE (AP (AO (tN (rG (eK 2 Z (nZ Z (AC (Le.gatherBox (u := 8) (j := 2) (id := 171) Z Z Z (by omega) Z) (nZ Z (Ak tys Z Z (AA Z) Z Z Z Z Z Z (nZ Z (bZ [.agg [T.int (f.stmts[k.toNat]'(by omega)).kind, T.int nn, .list 2 (ys.take m2), T.ints (f.stmts[k.toNat]'(by omega)).thn, T.ints (f.stmts[k.toNat]'(by omega)).els]] ?_))))))))))));refine nZ Z (AJ tys Z Z (AA Z) Z Z Z Z Z (.own Z (by first | omega | (simp only [Qg]; omega))) Z (.own Z (by first | decide | omega)) (by decide) (by simp only [Qo, Qk, List.length_nil]; rw [hxs, Qh, Qo]; omega) (by decide) Z ?_);refine nZ Z (eZ Z (sT Z (nZ Z (oN (bN (tN (kY [1,4,5,8,20,21,22,47,48,49,50,69,70,71,72,73,74] Z (rG (evI ?_)))))))));refine eZ Z (oN ?_);refine lQ (_, _, _) ?_ ?_
    · dsimp only
      have e : (movS to (f.stmts[k.toNat]'(by omega))).tt = .agg [T.int (f.stmts[k.toNat]'(by omega)).kind, T.int nn, .list 2 (ys.take m2), T.ints (f.stmts[k.toNat]'(by omega)).thn, T.ints (f.stmts[k.toNat]'(by omega)).els] := by
       rw [hm2, Qt, hys, BW (l := (f.stmts[k.toNat]'(by omega)).ex) (k := j) (by omega), hnn];show T.agg [_, _, T.list 2 (List.map Tok.tt (List.map (movT to) _)), _, _] = _;rw [List.map_map];rfl
      subst hm;refine ⟨by omega, by omega, by simp, ?_⟩;rw [Qt, hxs, CD hk0 (by omega), Q8, Q4, List.map_nil, e];rfl
    · (show Int.toNat _ < Int.toNat _); omega
  simp only [HS] at h1;refine AV (tE (AP (AO (tN (sG (nZ Z (AC (Le.gatherBox (u := 5) (j := 3) (id := 170) Z Z Z (by omega) Z) (nZ Z (Ak tys Z Z (AA Z) Z Z Z Z Z Z (nZ Z (sT Z (nZ Z (nB (rT (eR ?_)))))))))))))))
  · rw [hm, Qt, hxs, BW (by omega)]
    show [D.agg [_, _, _, D.own (.list 5 _)]] = [D.agg [_, _, _, D.own (.list 5 (List.map Stmt.tt (List.map (movS to) f.stmts)))]];rw [List.map_map];rfl
end Go.Proofs.Ytddfnpiikkilhaa
