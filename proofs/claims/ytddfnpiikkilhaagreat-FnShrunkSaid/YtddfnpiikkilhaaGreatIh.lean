/- Walks and laws of the claim. -/
import Derived.Test.YtddfnpiikkilhaaGreatGb
import Derived.Test.YtddfnpiikkilhaaGreatMe
import Derived.Test.YtddfnpiikkilhaaGreatMc
set_option linter.unusedVariables false
set_option linter.unusedSimpArgs false
set_option maxRecDepth 10000
set_option maxHeartbeats 1000000
namespace Go.Proofs.YtddfnpiikkilhaaGreat
open Go.Eng
open Go.Eng
def rS (pv iv : Value) (most fu co : Int) (m : Ms) : List D := [.t (.v pv), .t (.v iv), .t (.int most), .t (.int fu), .t (.int m.deep), .t (.int co), .t (.int 0), .own (T.ints m.trace), .t (.int m.used)]
def gC (fn : Int) (vars off : List Int) (res e pan : Int) (exd : Bool) (bp : Value) : List D := [.t (.int fn), .own (T.ints vars), .t (.int res), .own (T.ints off), .t (.int e), .t (.int pan), .t (.bool exd), .t (.v bp)]
structure Kp where
 fn : Int
 vars : List Int
 off : List Int
 res : Int
 bp : Value
def byP (bb : Nat) : Option By → Value
 | none => .pointer none
 | some _ => .pointer (some ⟨bb, 0, none⟩)
def hH : Option By → Int
 | none => 0
 | some b => b.how
def nH : Option By → Int
 | none => 0
 | some b => b.pan
def xH : Option By → Bool
 | none => false
 | some b => b.exd
def byK (bb : Nat) (q : Kp) (b : Option By) : Blk := .obox (byP bb b) (gC q.fn q.vars q.off q.res (hH b) (nH b) (xH b) q.bp)
def fuH (h : Int) (m : Ms) : Int := if h = 4 then (m.fuel : Int) + 1 else m.fuel
def coH (h : Int) : Int := if 4 ≤ h then h else 0
def haH (h : Int) : Int := if 4 ≤ h then 4 else h
theorem RK {b b' : Bool} (h : b = b') : Av [D.t (T.v (Value.bool b))] = D.t (T.bool b') := by rw [h]; rfl
theorem N7 {b b' : Int} (h : b = b') : Av [D.t (T.v (Value.int .i64 b))] = D.t (T.int b') := by rw [h]; rfl
theorem HX (bm : Nat) (pv iv : Value) (most : Int) (m : Ms) (rv : List Value) (rt : List T) (hm : m.fuel ≤ 1048576) : Proc Tryz.prog 123 [.t (.v (.pointer (some ⟨bm, 0, none⟩)))] (rv) (rt) [.obox (.pointer (some ⟨bm, 0, none⟩)) (rS pv iv most m.fuel 0 m)] (.t (.bool (decide (m.fuel ≠ 0)))) [.obox (.pointer (some ⟨bm, 0, none⟩)) (rS pv iv most (A6 m).fuel (if m.fuel = 0 then 5 else 0) (A6 m))] := by
 refine Proc.intro tys Tryz.func123 Z Z (N := 19) [100] 99 ([(0, .t (.v (.pointer (some ⟨bm, 0, none⟩))))]) ([(100, .obox (.pointer (some ⟨bm, 0, none⟩)) (rS pv iv most m.fuel 0 m)), (99, .ro rv rt)]) Z Z Z Z (by decide) (by decide) Z (fun w0 G F0 => ?_);refine nY Z (AN (Le.openNew (u := 100) 1100 Z Z Z Z Z) (nY Z (AN (Le.named (t := 0) (u := 100) 1100 Z Z) (nY Z (sG (eZ Z (nB (sQ (sG (eZ Z (AJ rfl Z (AA Z) Z Z Z (eK 3 Z (nB ?_)))))))))))));refine AC Z (fun h1 => ?_) (fun h1 => ?_)
 ·
  simp only [HS] at h1;refine sG (eZ Z (AJ rfl Z (AA Z) Z Z Z (eZ Z (kZ [0,2,10] Z (eZ Z (sT Z (nZ Z (nA (eZ Z (nB (AN (Le.close (u := 100) 1100 Z Z Z) (nY Z (rT (tR ?_))))))))))))));refine eP [_] ?_ ?_
  ·exact RK (by simp; omega)
  ·(have h : (m.fuel : Int) = 0 := (by assumption); have hz : m.fuel = 0 := (by omega); simp only [rS, A6, hz]; rfl)
 simp only [HS] at h1;refine AD (tN (sG (eZ Z (AJ rfl Z (AA Z) Z Z Z (eZ Z (kZ [2,12,14] Z (eZ Z (evI ?_))))))));refine AJ rfl Z (AA Z) Z Z Z (eZ Z (sT Z (nZ Z (nA (eZ Z (nB (AN (Le.close (u := 100) 1100 Z Z Z) (nY Z (rT ?_)))))))));refine eP [_] ?_ ?_
 ·exact RK (by simp; omega)
 ·(have h : (m.fuel : Int) - 1 = ((m.fuel - 1 : Nat) : Int) := (by omega); rw [h, if_neg (by omega)]; rfl)
theorem recSn {b : By} (h : ¬ b.how = 2) : GX (some b) = (0, some b) := by rw [GX, if_neg h]
theorem QC {b : By} (h : b.how = 2) : GX (some b) = (b.pan, some ⟨if b.exd = true then 3 else 1, b.pan, b.exd⟩) := by rw [GX, if_pos h]
theorem OE (bc bb : Nat) (q : Kp) (fn : Int) (vars off : List Int) (res e pan : Int) (exd : Bool) (rv : List Value) (rt : List T) : Proc Tryz.prog 153 [.t (.v (.pointer (some ⟨bc, 0, none⟩)))] (rv) (rt) [.obox (.pointer (some ⟨bc, 0, none⟩)) (gC fn vars off res e pan exd (byP bb none)), byK bb q none] (.t (.int 0)) [.obox (.pointer (some ⟨bc, 0, none⟩)) (gC fn vars off res e pan exd (byP bb none)), byK bb q none] := by
 refine Proc.intro tys Tryz.func153 Z Z (N := 44) [100, 101] 99 ([(0, .t (.v (.pointer (some ⟨bc, 0, none⟩))))]) ([(100, .obox (.pointer (some ⟨bc, 0, none⟩)) (gC fn vars off res e pan exd (byP bb none))), (101, byK bb q none), (99, .ro rv rt)]) Z Z Z Z (by decide) (by decide) Z (fun w0 G F0 => ?_);refine nY Z (AN (Le.openNew (u := 100) 1100 Z Z Z Z Z) (nY Z (AN (Le.named (t := 0) (u := 100) 1100 Z Z) (nY Z (sG (eZ Z (nB (sQ (sG (eZ Z (AJ rfl Z (AA Z) Z Z Z (eK 2 Z (Kj (e := 117) (b := true) Z Z (AA Z) Z (by kernel_rfl) Z Z (.inl ⟨rfl, rfl⟩) (AB (Le.known (t := 7) true Z (by simp)) ?_))))))))))))));refine xK 3 Z (kZ [0,2,8,10] Z (xK 7 Z (nB (Af Z (sQ (kY [0,2] Z (rG (eZ Z (nB (AN (Le.close (u := 100) 1100 Z Z Z) (nY Z (rT (tR ?_)))))))))))));refine eP [_, _] ?_ ?_
 ·rfl
 ·rfl
theorem OD (bc bb : Nat) (q : Kp) (b : By) (fn : Int) (vars off : List Int) (res e pan : Int) (exd : Bool) (rv : List Value) (rt : List T) : Proc Tryz.prog 153 [.t (.v (.pointer (some ⟨bc, 0, none⟩)))] (rv) (rt) [.obox (.pointer (some ⟨bc, 0, none⟩)) (gC fn vars off res e pan exd (byP bb (some b))), .obox (.pointer (some ⟨bb, 0, none⟩)) (gC q.fn q.vars q.off q.res b.how b.pan b.exd q.bp)] (.t (.int (GX (some b)).1)) [.obox (.pointer (some ⟨bc, 0, none⟩)) (gC fn vars off res e pan exd (byP bb (some b))), byK bb q (GX (some b)).2] := by
 refine Proc.intro tys Tryz.func153 Z Z (N := 44) [100, 101] 99 ([(0, .t (.v (.pointer (some ⟨bc, 0, none⟩))))]) ([(100, .obox (.pointer (some ⟨bc, 0, none⟩)) (gC fn vars off res e pan exd (byP bb (some b)))), (101, .obox (.pointer (some ⟨bb, 0, none⟩)) (gC q.fn q.vars q.off q.res b.how b.pan b.exd q.bp)), (99, .ro rv rt)]) Z Z Z Z (by decide) (by decide) Z (fun w0 G F0 => ?_);refine nY Z (AN (Le.openNew (u := 100) 1100 Z Z Z Z Z) (nY Z (AN (Le.named (t := 0) (u := 100) 1100 Z Z) (nY Z (AN (Le.openNew (u := 101) 1101 Z Z Z Z Z) (nY Z (sG (eZ Z (nB (sQ (sG (eZ Z (AJ rfl Z (AA Z) Z Z Z (eK 2 Z (Kj (e := 117) (b := false) Z Z (AA Z) Z (by kernel_rfl) Z Z (.inl ⟨rfl, rfl⟩) ?_)))))))))))))));refine AB (Le.known (t := 7) false Z (by simp)) ?_;refine xK 2 Z (gY Z (AJ rfl Z (AA Z) Z Z Z (kZ [0,2,8,10] Z (xK 2 Z (AB (Le.named (t := 12) (u := 101) 1101 Z Z) (gY Z (AJ rfl Z (AA Z) Z Z Z (xK 4 Z (nB ?_)))))))));refine AC Z (fun h1 => ?_) (fun h1 => ?_)
 ·
  simp only [HS] at h1;refine sQ (kY [0,2] Z (rG (eZ Z (nB (AN (Le.close (u := 100) 1100 Z Z Z) (nY Z (AN (Le.close (u := 101) 1101 Z Z Z) (nY Z (rT (tR ?_))))))))));refine eP [_, _] ?_ ?_
  ·exact N7 (by rw [recSn (by assumption)])
  ·(rw [recSn (by assumption)]; rfl)
 simp only [HS] at h1;refine AD (tN (sQ (kY [0,2] Z (rG (eZ Z (AJ rfl Z (AA Z) Z Z Z (eK 2 Z (AB (Le.named (t := 21) (u := 101) 1101 Z Z) (AJ rfl Z (AA Z) Z Z Z (eZ Z (sT Z (nZ Z (nB (sQ (sQ ?_)))))))))))))));refine kY [0,2] Z (rG (eZ Z (AJ rfl Z (AA Z) Z Z Z (eK 2 Z (AB (Le.named (t := 27) (u := 101) 1101 Z Z) (AJ rfl Z (AA Z) Z Z Z (eK 2 Z (nB ?_))))))));refine AC Z (fun h2 => ?_) (fun h2 => ?_)
 ·
  refine kY [0,2] Z (rG (eZ Z (AJ rfl Z (AA Z) Z Z Z (eK 2 Z (AB (Le.named (t := 34) (u := 101) 1101 Z Z) (AJ rfl Z (AA Z) Z Z Z (eZ Z (sT Z (nZ Z (nB (sQ (kY [0,2] Z (rG (eZ Z (AJ rfl Z (AA Z) Z Z Z ?_)))))))))))))));refine eK 2 Z (AB (Le.named (t := 40) (u := 101) 1101 Z Z) (AJ rfl Z (AA Z) Z Z Z (eK 3 Z (nB (AN (Le.close (u := 100) 1100 Z Z Z) (nY Z (AN (Le.close (u := 101) 1101 Z Z Z) (nY Z (rT ?_)))))))));refine eP [_, _] ?_ ?_
  ·exact N7 (by rw [QC (by omega)])
  ·(rw [QC (by omega), if_pos (by assumption)]; rfl)
 refine AD (tN (sQ (kY [0,2] Z (rG (eZ Z (AJ rfl Z (AA Z) Z Z Z (eK 2 Z (AB (Le.named (t := 40) (u := 101) 1101 Z Z) (AJ rfl Z (AA Z) Z Z Z (eK 3 Z (nB (AN (Le.close (u := 100) 1100 Z Z Z) (nY Z (AN (Le.close (u := 101) 1101 Z Z Z) (nY Z ?_)))))))))))))));refine rT ?_;refine eP [_, _] ?_ ?_
 ·exact N7 (by rw [QC (by omega)])
 ·(rw [QC (by omega), if_neg (by simp_all)]; rfl)
theorem QD (bc bb : Nat) (q : Kp) (b : Option By) (fn : Int) (vars off : List Int) (res e pan : Int) (exd : Bool) (rv : List Value) (rt : List T) : Proc Tryz.prog 153 [.t (.v (.pointer (some ⟨bc, 0, none⟩)))] rv rt
  [.obox (.pointer (some ⟨bc, 0, none⟩)) (gC fn vars off res e pan exd (byP bb b)), byK bb q b] (.t (.int (GX b).1)) [.obox (.pointer (some ⟨bc, 0, none⟩)) (gC fn vars off res e pan exd (byP bb b)), byK bb q (GX b).2] := by
 cases b with
 | none => exact OE bc bb q fn vars off res e pan exd rv rt
 | some b => exact OD bc bb q b fn vars off res e pan exd rv rt
theorem HW {bb : Nat} {a b : Option By} (h : a.isSome = b.isSome) : byP bb a = byP bb b := by
 cases a <;> cases b <;> first | rfl | cases h
theorem MW (bc : Nat) (h v : Int) (fn : Int) (vars off : List Int) (res e pan : Int) (exd : Bool) (bp : Value) (rv : List Value) (rt : List T) : Proc Tryz.prog 125 [.t (.v (.pointer (some ⟨bc, 0, none⟩))), .t (.int h), .t (.int v)] (rv) (rt) [.obox (.pointer (some ⟨bc, 0, none⟩)) (gC fn vars off res e pan exd bp)] (.tup []) [.obox (.pointer (some ⟨bc, 0, none⟩)) (gC fn vars off res h (if h = 2 then v else pan) (or exd (decide (h = 3))) bp)] := by
 refine Proc.intro tys Tryz.func125 Z Z (N := 22) [100] 99 ([(0, .t (.v (.pointer (some ⟨bc, 0, none⟩)))), (1, .t (.int h)), (2, .t (.int v))]) ([(100, .obox (.pointer (some ⟨bc, 0, none⟩)) (gC fn vars off res e pan exd bp)), (99, .ro rv rt)]) Z Z Z Z (by decide) (by decide) Z (fun w0 G F0 => ?_);refine nY Z (AN (Le.openNew (u := 100) 1100 Z Z Z Z Z) (nY Z (AN (Le.named (t := 0) (u := 100) 1100 Z Z) (nY Z (SX (sG (eK 2 Z (AJ rfl Z (AA Z) Z Z Z (eZ Z (sT Z (nZ Z (nA (eZ Z (nB (AF ?_)))))))))))))));refine sG (eK 2 Z (nB ?_));refine AC Z (fun h1 => ?_) (fun h1 => ?_)
 ·
  simp only [HS] at h1;refine kY [0,2] Z (rG (eK 2 Z (AJ rfl Z (AA Z) Z Z Z (eZ Z (sT Z (nZ Z (oN (bN ?_))))))));refine ⟨_, Le.close (u := 100) 1100 Z Z rfl, ?_⟩;refine eP [_] ?_ ?_
  ·rfl
  ·simp_all [gC]
   done
 simp only [HS] at h1;refine sQ (kY [0,10] Z (rG (eK 2 Z (nB ?_))));refine AC Z (fun h2 => ?_) (fun h2 => ?_)
 ·
  simp only [HS] at h2;refine rG (eZ Z (AJ rfl Z (AA Z) Z Z Z (eZ Z (sT Z (nZ Z (oN (bN ?_)))))));refine ⟨_, Le.close (u := 100) 1100 Z Z rfl, ?_⟩;refine eP [_] ?_ ?_
  ·rfl
  ·simp_all [gC]
   done
 simp only [HS] at h2;refine AD (bN ?_);refine ⟨_, Le.close (u := 100) 1100 Z Z rfl, ?_⟩;refine eP [_] ?_ ?_
 ·rfl
 ·simp_all [gC]
  done
theorem Ek (n : Int) : Fun Tryz.prog 157 [.t (.int n)] (Av [.t (.int (w32 n))]) := by
 refine Fun.begin tys Tryz.func157 Z Z (N := 6) [(0, .t (.int n))] Z Z (fun w0 G F0 => ?_);refine sG (eZ Z (nA (eZ Z (WO_conv (td := .int .i64) (k := .i32) Z Z (AA Z) Z (by kernel_rfl) (by kernel_rfl) Z (WO_conv (td := .int .i32) (k := .i64) Z Z (AA Z) Z (by kernel_rfl) (by kernel_rfl) Z (eZ Z (nB (rT (eR ?_)))))))))
 ·rfl
theorem Et {a a' : Int} {b b' : Bool} (h : a = a') (h' : b = b') : [D.t (T.v (Value.int .i64 a)), D.t (T.v (Value.bool b))] = [D.t (T.int a'), D.t (T.bool b')] := by rw [h, h']
theorem OB (op x y : Int) : Fun Tryz.prog 154 [.t (.int op), .t (.int x), .t (.int y)] (Av [.t (.int (Cj op x y)), .t (.bool (A2 op x y).isSome)]) := by
 refine Fun.begin tys Tryz.func154 Z Z (N := 45) [(0, .t (.int op)), (1, .t (.int x)), (2, .t (.int y))] Z Z (fun w0 G F0 => ?_);refine sG (eK 2 Z (nA (eZ Z (nB (sQ (sG (eZ Z (nB (AF (sG (eK 2 Z (nB ?_))))))))))));refine AC Z (fun h1 => ?_) (fun h1 => ?_)
 ·
  simp only [HS] at h1;refine sG (eK 3 Z (kZ [6,7,8,17] Z (AL ?_)));refine ⟨_, Ek _, rfl, ?_⟩;refine eK 2 Z (nB (rT (bR (tR (eR ?_)))))
  ·exact Et (by grind [Cj, A2, w64]) (by grind [A2])
 simp only [HS] at h1;refine sG (eK 2 Z (nB ?_));refine AC Z (fun h2 => ?_) (fun h2 => ?_)
 ·
  simp only [HS] at h2;refine sQ (kY [1,2,6,7,8] Z (rG (eK 3 Z (AL ?_))));refine ⟨_, Ek _, rfl, ?_⟩;refine eK 2 Z (nB (rT (bR (tR (eR ?_)))))
  ·exact Et (by grind [Cj, A2, w64]) (by grind [A2])
 simp only [HS] at h2;refine sQ (kY [1,2,6,7,8,9] Z (rG (eK 2 Z (nB ?_))));refine AC Z (fun h3 => ?_) (fun h3 => ?_)
 ·
  simp only [HS] at h3;refine sG (eK 3 Z (AL ?_));refine ⟨_, Ek _, rfl, ?_⟩;refine eK 2 Z (nB (rT (bR (tR (eR ?_)))))
  ·exact Et (by grind [Cj, A2, w64]) (by grind [A2])
 simp only [HS] at h3;refine sG (eK 2 Z (nB ?_));refine AC Z (fun h4 => ?_) (fun h4 => ?_)
 ·
  simp only [HS] at h4;refine sQ (sG (eK 2 Z (nB ?_)));refine AC Z (fun h5 => ?_) (fun h5 => ?_)
  ·
   simp only [HS] at h5;refine sG (eK 2 Z (nB (rT (tR (bR (tR (eR ?_)))))))
   ·exact Et (by grind [Cj, A2, w64]) (by grind [A2])
  simp only [HS] at h5;refine AD (tN (sG (eK 2 Z (PU Z Z (AA Z) Z Z Z (by first | decide | omega) ?_))));refine kZ [6,7,8,37] Z (AL ?_);refine ⟨_, Ek _, rfl, ?_⟩;refine eK 2 Z (nB (rT (bR (tR (eR ?_)))))
  ·exact Et (by grind [Cj, A2, w64]) (by grind [A2])
 simp only [HS] at h4;refine sG (eK 2 Z (nB ?_));refine AC Z (fun h5 => ?_) (fun h5 => ?_)
 ·
  simp only [HS] at h5;refine rG (eK 3 Z (kZ [6,7,8,43] Z (eZ Z (oN (bN (tN (sQ (sG (eZ Z (nB ?_))))))))));refine AC Z (fun h6 => ?_) (fun h6 => ?_)
  ·
   simp only [HS] at h6;refine sG (eK 2 Z (nB (rT (tR (eR ?_)))))
   ·exact Et (by grind [Cj, A2, w64]) (by grind [A2])
  simp only [HS] at h6;refine AD (tN (sG (eK 2 Z (nB (rT (eR ?_))))))
  ·exact Et (by grind [Cj, A2, w64]) (by grind [A2])
 simp only [HS] at h5;refine rG (eK 3 Z (kZ [6,7,8,12] Z (eZ Z (oN (bN (tN (sQ (sG (eZ Z (nB ?_))))))))));refine AC Z (fun h6 => ?_) (fun h6 => ?_)
 ·
  simp only [HS] at h6;refine sG (eK 2 Z (nB (rT (tR (eR ?_)))))
  ·exact Et (by grind [Cj, A2, w64]) (by grind [A2])
 simp only [HS] at h6;refine AD (tN (sG (eK 2 Z (nB (rT (eR ?_))))))
 ·exact Et (by grind [Cj, A2, w64]) (by grind [A2])
open Go.Eng
theorem Dp (l : List Int) (hl : l.length ≤ 1073741824) : Fun Tryz.prog 100 [.t (T.ints l)] (Av [.own (T.ints l)]) := by
 refine Fun.begin tys Tryz.func100 Z Z (N := 6) [(0, .t (T.ints l))] Z Z (fun w0 G F0 => ?_);refine sG (eZ Z (nA (bZ [] ?_)));refine nZ Z (eZ Z (AH tys Z Z (AA Z) Z Z Z Z Z (.own Z (by first | omega | (simp only [Sk]; omega))) Z (.read (Mq l)) (by decide) (by simp; omega) (by decide) Z ?_));refine nZ Z (eZ Z (nB (AN (Le.gather (u := 2) (id := 3) Z Z (by simp)) ?_)));refine rT (eR ?_)
 ·(simp only [GU, Sr, Th, List.length_nil, Sz, List.take_nil]; rfl)
open Go.Eng
def eV (h v : Int) : Int := if h = 2 then v else 0
def xV (h v : Int) : Int := if h = 1 then v else 0
def Ld (p : Prog) (inp : List Int) (most n : Nat) (L : Lev) : Prop :=
 ∀ (fn : Int) (args : List Int) (b : Option By) (m : Ms) (bm bb : Nat) (pv iv : Value) (xv : List Value) (xt : List T), 0 ≤ fn → fn < p.funcs.length → args.length = (atI (paramsL p) fn).toNat → m.used ≤ inp.length → m.deep ≤ most → m.fuel ≤ n → m.fuel ≤ 1048576 → m.trace.length + m.fuel ≤ 1048576 →
  Proc Tryz.prog 131 [.t (.v (.pointer (some ⟨bm, 0, none⟩))), .t (.int fn), .t (T.ints args), .t (.int ((m.deep : Int) + 1)), .t (.v (.pointer (some ⟨bb, 0, none⟩)))] (pv :: iv :: xv) (T.Funcs p.funcs :: T.ints inp :: xt)
   [.obox (.pointer (some ⟨bb, 0, none⟩)) (bS b), .obox (.pointer (some ⟨bm, 0, none⟩)) (mS pv iv most m)]
   (.tup [.t (.int (xV (L.call fn args b m).1 (L.call fn args b m).2.1)), .agg [.t (.int (L.call fn args b m).1), .t (.int (eV (L.call fn args b m).1 (L.call fn args b m).2.1))]])
   [.obox (.pointer (some ⟨bb, 0, none⟩)) (bS (L.call fn args b m).2.2.1), .obox (.pointer (some ⟨bm, 0, none⟩)) (mS pv iv most (L.call fn args b m).2.2.2)]
def exS (p : Prog) (inp : List Int) (L : Lev) (l : List Tok) (s : Sx) : Int × Int × Sx := exprS L.cal (paramsL p) inp l [] s
def ExInv (p : Prog) (inp : List Int) (f : Func) (L : Lev) (l : List Tok) (s : Sx) (pv iv fbv fsv : Value) (most dp : Int) (bb : Nat) (k : Int) (m : Nat) (ws : List T) (b1 b2 b3 : Blk) : Prop :=
 ∃ (pile : List Int) (s1 : Sx), 0 ≤ k ∧ k ≤ l.length ∧ Sx.to p inp f 0 s s1 ∧ exS p inp L l s = exprS L.cal (paramsL p) inp (l.drop k.toNat) pile s1 ∧ (∃ r mx, DZ f.vars (paramsL p) (l.drop k.toNat) pile.length mx = some (1, r)) ∧ (pile.length : Int) ≤ k ∧
  m = pile.length ∧ ws = pile.map T.int ∧ b1 = .box (mS pv iv most s1.m) ∧ b2 = .box (cS f fbv fsv s1.vars s1.off s1.res dp bb) ∧ b3 = .obox (.pointer (some ⟨bb, 0, none⟩)) (bS s1.by')
section
variable {p : Prog} {inp : List Int} {f : Func} {L : Lev} {l : List Tok} {s s1 : Sx} {pv iv fbv fsv : Value} {most dp : Int} {bb : Nat} {k : Int} {pile : List Int}
theorem Es (h0 : 0 ≤ k) (h1 : k < l.length) (hr : ∃ r mx, DZ f.vars (paramsL p) (l.drop k.toNat) pile.length mx = some (1, r)) :
  knownT f.vars (paramsL p).length (l[k.toNat]'(by omega)) = true ∧ A1 (paramsL p) (l[k.toNat]'(by omega)) ≤ pile.length ∧ ∃ r mx, DZ f.vars (paramsL p) (l.drop (k + 1).toNat) (pile.length + (1 - A1 (paramsL p) (l[k.toNat]'(by omega)))) mx = some (1, r) := by
 obtain ⟨r, mx, hr⟩ := hr
 rw [EV h0 h1] at hr;split at hr
 ·rename_i h
  rw [Si, decide_eq_true_eq] at h;exact ⟨h.1, h.2, r, _, hr⟩
 ·cases hr
theorem Ja (h1 : (l.length : Int) ≤ k) (hr : ∃ r mx, DZ f.vars (paramsL p) (l.drop k.toNat) pile.length mx = some (1, r)) : pile.length = 1 := by
 obtain ⟨r, mx, hr⟩ := hr
 rw [BE h1, DZ] at hr
 have := (Prod.mk.inj (Option.some.inj hr)).1
 omega
theorem ExInv.next (hL : Ej p inp L) (hg : AZ p = true) (h0 : 0 ≤ k) (h1 : k < l.length) (hto : Sx.to p inp f 0 s s1) (hex : exS p inp L l s = exprS L.cal (paramsL p) inp (l.drop k.toNat) pile s1) (hr : ∃ r mx, DZ f.vars (paramsL p) (l.drop k.toNat) pile.length mx = some (1, r)) (hpl : (pile.length : Int) ≤ k)
  {pile' : List Int} {s' : Sx} {v : Int} (ht : GK L.cal (paramsL p) inp (l[k.toNat]'(by omega)) pile s1 = (0, v, pile', s')) {k' : Int} (hk : k' = k + 1) {m : Nat} {ws : List T} {b1 b2 b3 : Blk}
  (e1 : m = pile'.length) (e2 : ws = pile'.map T.int) (e3 : b1 = .box (mS pv iv most s'.m)) (e4 : b2 = .box (cS f fbv fsv s'.vars s'.off s'.res dp bb)) (e5 : b3 = .obox (.pointer (some ⟨bb, 0, none⟩)) (bS s'.by')) :
  ExInv p inp f L l s pv iv fbv fsv most dp bb k' m ws b1 b2 b3 := by
 subst hk
 obtain ⟨g1, g2, r, mx, g3⟩ := Es h0 h1 hr
 obtain ⟨q1, q2⟩ := K3 hL hg hto.ok g1 g2
 rw [ht] at q1 q2;dsimp only at q1 q2
 have q2 := q2 rfl
 have hps := Cc (FA hg) (l[k.toNat]'(by omega))
 refine ⟨pile', s', by omega, by omega, hto.trans q1 (by omega), ?_, ⟨r, mx, by rw [q2]; exact g3⟩, by omega, e1, e2, e3, e4, e5⟩;rw [hex, Cp h0 h1, exprS, ht];rfl
theorem C3 (h0 : 0 ≤ k) (h1 : k < l.length) (hex : exS p inp L l s = exprS L.cal (paramsL p) inp (l.drop k.toNat) pile s1) {h v : Int} {pile' : List Int} {s' : Sx} (ht : GK L.cal (paramsL p) inp (l[k.toNat]'(by omega)) pile s1 = (h, v, pile', s')) (hh : h ≠ 0) : exS p inp L l s = (h, v, s') := by
 rw [hex, Cp h0 h1, exprS, ht]
 simp [hh]
theorem Ix (h1 : (l.length : Int) ≤ k) (hex : exS p inp L l s = exprS L.cal (paramsL p) inp (l.drop k.toNat) pile s1) : exS p inp L l s = (0, (pile[0]?).getD 0, s1) := by
 rw [hex, BE h1, exprS]
variable {t : Tok}
theorem tok_1 (h : t.op = 1) : GK L.cal (paramsL p) inp t pile s1 = (0, 0, pile ++ [t.n], s1) := by rw [GK, if_pos h]
theorem tok_2 (h : t.op = 2) : GK L.cal (paramsL p) inp t pile s1 = (0, 0, pile ++ [atI s1.vars t.n], s1) := by rw [GK, if_neg (by omega), if_pos h]
theorem Rj (h : t.op = 9) : GK L.cal (paramsL p) inp t pile s1 = (0, 0, pile ++ [(inS inp s1.m).1], { s1 with m := (inS inp s1.m).2 }) := by rw [GK, if_neg (by omega), if_neg (by omega), if_pos h]
theorem RI (h : t.op = 10) : GK L.cal (paramsL p) inp t pile s1 = (0, 0, pile ++ [(GX s1.by').1], { s1 with by' := (GX s1.by').2 }) := by rw [GK, if_neg (by omega), if_neg (by omega), if_neg (by omega), if_pos h]
theorem RH {R : Int × Int × Option By × Ms} (hR : R = L.call t.n (pile.drop (pile.length - (atI (paramsL p) t.n).toNat)) none s1.m) (h : t.op = 11) (h1 : R.1 = 1) : GK L.cal (paramsL p) inp t pile s1 = (0, 0, pile.take (pile.length - (atI (paramsL p) t.n).toNat) ++ [R.2.1], { s1 with m := R.2.2.2 }) := by
 subst hR;rw [GK, if_neg (by omega), if_neg (by omega), if_neg (by omega), if_neg (by omega), if_pos h];dsimp only [Lev.cal];rw [if_pos h1]
theorem IR {R : Int × Int × Option By × Ms} (hR : R = L.call t.n (pile.drop (pile.length - (atI (paramsL p) t.n).toNat)) none s1.m) (h : t.op = 11) (h1 : ¬ R.1 = 1) : GK L.cal (paramsL p) inp t pile s1 = (R.1, R.2.1, pile, { s1 with m := R.2.2.2 }) := by
 subst hR;rw [GK, if_neg (by omega), if_neg (by omega), if_neg (by omega), if_neg (by omega), if_pos h];dsimp only [Lev.cal];rw [if_neg h1]
theorem tok_r (h1 : ¬ t.op = 1) (h2 : ¬ t.op = 2) (h9 : ¬ t.op = 9) (h10 : ¬ t.op = 10) (h11 : ¬ t.op = 11) (hk : 2 ≤ pile.length) : GK L.cal (paramsL p) inp t pile s1 = match A2 t.op (pile[pile.length - 2]'(by omega)) (pile[pile.length - 1]'(by omega)) with
  | none => (2, -1, pile, s1)
  | some v => (0, 0, pile.take (pile.length - 2) ++ [v], s1) := by
 rw [GK, if_neg h1, if_neg h2, if_neg h9, if_neg h10, if_neg h11, List.getElem?_eq_getElem (by omega), List.getElem?_eq_getElem (by omega)];rfl
theorem RG (h1 : ¬ t.op = 1) (h2 : ¬ t.op = 2) (h9 : ¬ t.op = 9) (h10 : ¬ t.op = 10) (h11 : ¬ t.op = 11) (hk : 2 ≤ pile.length) {i j : Nat} (hi : i = pile.length - 2) (hj : j = pile.length - 1) (hv : (A2 t.op (pile[i]'(by omega)) (pile[j]'(by omega))).isSome = true) : GK L.cal (paramsL p) inp t pile s1 = (0, 0, pile.take i ++ [Cj t.op (pile[i]'(by omega)) (pile[j]'(by omega))], s1) := by
 subst hi hj;rw [tok_r h1 h2 h9 h10 h11 hk, Cj]
 cases h : A2 t.op (pile[pile.length - 2]'(by omega)) (pile[pile.length - 1]'(by omega)) with
 | none => rw [h] at hv; cases hv
 | some v => rfl
theorem Lh (h1 : ¬ t.op = 1) (h2 : ¬ t.op = 2) (h9 : ¬ t.op = 9) (h10 : ¬ t.op = 10) (h11 : ¬ t.op = 11) (hk : 2 ≤ pile.length) {i j : Nat} (hi : i = pile.length - 2) (hj : j = pile.length - 1) (hv : ¬ (A2 t.op (pile[i]'(by omega)) (pile[j]'(by omega))).isSome = true) : GK L.cal (paramsL p) inp t pile s1 = (2, -1, pile, s1) := by
 subst hi hj;rw [tok_r h1 h2 h9 h10 h11 hk]
 cases h : A2 t.op (pile[pile.length - 2]'(by omega)) (pile[pile.length - 1]'(by omega)) with
 | none => rfl
 | some v => rw [h] at hv; exact absurd rfl hv
end
theorem slI {pile : List Int} {Q : Int} {q : Nat} (h0 : 0 ≤ Q) (h1 : Q ≤ pile.length) (hq : q = pile.length - Q.toNat) : ((pile.map T.int).drop (0 + ((pile.length : Int) - Q).toNat)).take ((pile.length : Int).toNat - ((pile.length : Int) - Q).toNat) = (pile.drop q).map T.int := by
 rw [List.map_drop, show 0 + ((pile.length : Int) - Q).toNat = q from by omega, Sh (by simp; omega)]
theorem Proc.argL {F : Nat} {a b d e : D} {zs : List T} {ys : List Int} {rv : List Value} {rt : List T} {ks ks' : List Blk} {r : D} (h : zs = ys.map T.int) (hp : Proc Tryz.prog F [a, b, .t (T.ints ys), d, e] rv rt ks r ks') : Proc Tryz.prog F [a, b, .t (.list 1 zs), d, e] rv rt ks r ks' := by
 subst h; exact hp
theorem retX {a a' b b' c c' : Int} (h1 : a = a') (h2 : b = b') (h3 : c = c') : Av [D.t (T.v (Value.int .i64 a)), D.agg [D.t (T.v (Value.int .i64 b)), D.t (T.v (Value.int .i64 c))]] = D.tup [D.t (T.int a'), D.agg [D.t (T.int b'), D.t (T.int c')]] := by rw [h1, h2, h3]; rfl
theorem O0 (p : Prog) (inp : List Int) (most n : Nat) (L : Lev) (hL : Ej p inp L) (hC : Ld p inp most n L) (hg : AZ p = true) (hp : p.ok 1048576) (hi : inp.length ≤ 1048576) (f : Func) (hf : f ∈ p.funcs) (l : List Tok) (hl : l.length ≤ 12) (hr : ∃ r, DZ f.vars (paramsL p) l 0 0 = some (1, r)) (s : Sx) (hs : s.ok p inp f) (hn : s.m.fuel ≤ n) (hn2 : s.m.fuel ≤ 1048576) (hti : s.m.trace.length + s.m.fuel ≤ 1048576) (hdm : s.m.deep ≤ most) (hmost : most ≤ 1048576) (bm bc bb : Nat) (pv iv fbv fsv : Value) (xv : List Value) (xt : List T) : Proc Tryz.prog 155 [.t (.v (.pointer (some ⟨bm, 0, none⟩))), .t (.v (.pointer (some ⟨bc, 0, none⟩))), .t (T.Toks l)] ((pv :: iv :: xv)) ((T.Funcs p.funcs :: T.ints inp :: xt)) [.obox (.pointer (some ⟨bm, 0, none⟩)) (mS pv iv most s.m), .obox (.pointer (some ⟨bc, 0, none⟩)) (cS f fbv fsv s.vars s.off s.res s.m.deep bb), .obox (.pointer (some ⟨bb, 0, none⟩)) (bS s.by')] (.tup [.t (.int (if (exS p inp L l s).1 = 0 then (exS p inp L l s).2.1 else 0)), .agg [.t (.int (exS p inp L l s).1), .t (.int (eV (exS p inp L l s).1 (exS p inp L l s).2.1))]]) [.obox (.pointer (some ⟨bm, 0, none⟩)) (mS pv iv most (exS p inp L l s).2.2.m), .obox (.pointer (some ⟨bc, 0, none⟩)) (cS f fbv fsv (exS p inp L l s).2.2.vars (exS p inp L l s).2.2.off (exS p inp L l s).2.2.res s.m.deep bb), .obox (.pointer (some ⟨bb, 0, none⟩)) (bS (exS p inp L l s).2.2.by')] := by
 have hgp := Dq hg
 have hgv := CK hg hf
 refine Proc.intro tys Tryz.func155 Z Z (N := 139) [100, 101, 102] 99 ([(0, .t (.v (.pointer (some ⟨bm, 0, none⟩)))), (1, .t (.v (.pointer (some ⟨bc, 0, none⟩)))), (2, .t (T.Toks l))]) ([(100, .obox (.pointer (some ⟨bm, 0, none⟩)) (mS pv iv most s.m)), (101, .obox (.pointer (some ⟨bc, 0, none⟩)) (cS f fbv fsv s.vars s.off s.res s.m.deep bb)), (102, .obox (.pointer (some ⟨bb, 0, none⟩)) (bS s.by')), (99, .ro (pv :: iv :: xv) (T.Funcs p.funcs :: T.ints inp :: xt))]) Z Z Z Z (by decide) (by decide) Z (fun w0 G F0 => ?_);refine nY Z (AN (Le.openNew (u := 100) 1100 Z Z Z Z Z) (nY Z (AN (Le.named (t := 0) (u := 100) 1100 Z Z) (nY Z (AN (Le.openNew (u := 101) 1101 Z Z Z Z Z) (nY Z (AN (Le.named (t := 1) (u := 101) 1101 Z Z) (nY Z (sG (eZ Z (AG tys Z Z (AA Z) Z Z Z (nZ Z (nA (eZ Z (AB (Le.nilOwn (u := 8) 1 Z) ?_)))))))))))))));refine AB (Le.adoptE (u := 8) 8 Z Z) (nZ Z (nB (sQ (sG (eZ Z (evE ?_))))));refine eZ Z (nB (AF ?_));refine lK (α := Int × Nat × List T × Blk × Blk × Blk) [0, 1, 7, 17, 18] [7, 99, 1100, 1101] (fun x => [(19, .t (.int (x.1))), (8, .sl 8 0 (x.2.1))]) (fun x => [(8, .L 1 (x.2.2.1)), (100, (x.2.2.2.1)), (101, (x.2.2.2.2.1)), (102, (x.2.2.2.2.2))]) (fun x => ExInv p inp f L l s pv iv fbv fsv most s.m.deep bb (x.1) (x.2.1) (x.2.2.1) (x.2.2.2.1) (x.2.2.2.2.1) (x.2.2.2.2.2)) (fun x => Int.toNat (l.length - (x.1))) (0, 0, [], .box (mS pv iv most s.m), .box (cS f fbv fsv s.vars s.off s.res s.m.deep bb), .obox (.pointer (some ⟨bb, 0, none⟩)) (bS s.by')) ?_ (fun x hx => ?_)
 ·exact ⟨[], s, by omega, by omega, Sx.to.refl hs (by omega) (by omega), rfl, hr.imp fun r h => ⟨0, h⟩, by simp, rfl, rfl, rfl, rfl, rfl⟩
 obtain ⟨k, m, ws, b1, b2, b3⟩ := x
 obtain ⟨pile, s1, hk0, hk1, hto, hex, hrun, hpl, hm, hws, hb1, hb2, hb3⟩ := hx
 dsimp only at hk0 hk1 hto hex hrun hpl hm hws hb1 hb2 hb3 ⊢;subst hm hws hb1 hb2 hb3;refine nY Z (sG (eZ Z (nB (sQ ?_))));refine AC Z (fun h1 => ?_) (fun h1 => ?_)
 ·
  simp only [HS] at h1;refine AD (tN (sQ (AF (sG ?_))))
  have hkl : k < l.length := by omega
  obtain ⟨hkn, hnd, hrun2⟩ := Es hk0 hkl hrun
  have hpl12 : pile.length ≤ 12 := by omega
  have hfu : s1.m.fuel ≤ s.m.fuel := hto.le.1
  have hft : s1.m.trace.length + s1.m.fuel ≤ s.m.trace.length + s.m.fuel := hto.le.2.1
  have hdp : s1.m.deep = s.m.deep := hto.deep (by omega)
  have hvl : s1.vars.length = f.vars.toNat := hto.ok.vars
  refine iY (k := ?_);refine eZ Z ?_
  try refine AB (Le.freeze (u := 22) rfl) ?_
  refine nZ Z (AG tys Z Z (AA Z) Z Z Z (nZ Z (sT Z (nZ Z (nA (eZ Z (evE ?_)))))));refine eZ Z (nB (sQ (kY [0,1,7,8,10,11,17,18,19,20,21,22,23,24] Z (rG (eK 2 Z (nB (AF (sG (eK 2 Z (nB ?_))))))))));refine AC Z (fun h2 => ?_) (fun h2 => ?_)
  ·
   simp only [HS] at h2;refine rG (eK 3 Z (bZ [T.int (l[k.toNat]'(by omega)).n] ?_));refine nZ Z (AH tys Z Z (AA Z) Z Z Z Z Z (.own Z (by first | omega | (simp; done) | (simp; omega))) Z (.own Z (by simp)) (by decide) (by simp; omega) (by decide) Z ?_);refine nZ Z (kZ [0,1,7,8,10,11,17,18,19,20,21,22,23,24,25,26,53,54,55,56,57,58,59] Z (eZ Z (oN (bN (bN (tN (rG (evI ?_))))))));refine eZ Z (oN ?_);refine lQ (_, _, _, _, _, _) ?_ ?_
   ·dsimp only
    first
    | exact ExInv.next hL hg hk0 (by omega) hto hex hrun hpl (tok_1 (by assumption)) rfl (by simp) (by simp [Sh]) rfl rfl rfl
   ·(show Int.toNat _ < Int.toNat _); omega
  simp only [HS] at h2;refine sG (eK 2 Z (nB ?_));refine AC Z (fun h3 => ?_) (fun h3 => ?_)
  ·
   simp only [HS] at h3
   have hk2 : 0 ≤ (l[k.toNat]'(by omega)).n ∧ (l[k.toNat]'(by omega)).n < f.vars := by have h2 : (l[k.toNat]'(by omega)).op = 2 := (by assumption); simp [knownT, h2] at hkn; exact hkn
   refine AN (Le.adoptBox (u := 101) (j := 4) (id := 191) Z Z Z) (nY Z (BZ 10 Ai Z (by kernel_rfl) (by kernel_rfl) (QG_ev tys Z Z (AA Z) Z (BB Z (QG_ev tys Z Z (AA Z) Z (Ax rfl Z (AA Z) Z Z Z (QG_ev tys Z Z (AA Z) Z (QG_ev tys Z Z (AA Z) Z (QG_ev tys Z Z (AA Z) Z (QG_ev tys Z Z (AA Z) Z (BB Z (DX tys Z Z (AA Z) Z Z Z Z Z Z Z Z hk2.1 (by rw [Sj, hvl]; omega) ?_))))))))))));refine JF tys Z Z (AA Z) Z Z Z Z (DT _ _ hk2.1 (by rw [hvl]; omega)) Z ?_;refine BV tys [T.int (s1.vars[(l[k.toNat]'(by omega)).n.toNat]'(by have h2 : (l[k.toNat]'(by omega)).op = 2 := (by assumption); simp [knownT, h2] at hkn; omega))] Z Z (AA Z) Z Z Z Z Z (AA Z) (by repeat (first | exact PartsOk.nil' | refine PartsOk.cons' rfl (by repeat (first | exact AbsL.nil' | refine AbsL.v' ?_ | refine AbsL.own' ?_ | refine AbsL.none' ?_)) Z ?_)) Z Z Z (by decide) ?_;refine AE ?_;refine ⟨by kernel_rfl, ?_⟩;refine nZ Z (AB (Le.adoptE (u := 71) 71 Z (by first | exact Ec | exact Z)) ?_);refine nZ Z (AH tys Z Z (AA Z) Z Z Z Z Z (.own Z (by first | omega | (simp; done) | (simp; omega))) Z (.own Z (by simp)) (by decide) (by simp; omega) (by decide) Z ?_);refine nZ Z (eZ Z (nZ Z (AB (Le.gatherBox (u := 101) (j := 4) (id := 191) Z Z Z (by simp) Z) ?_)));refine nZ Z (oN (bN (bN (tN (rG (evI ?_))))));refine eZ Z (oN ?_);refine lQ (_, _, _, _, _, _) ?_ ?_
   ·dsimp only
    first
    | exact ExInv.next hL hg hk0 (by omega) hto hex hrun hpl (tok_2 (by assumption)) rfl (by simp) (by rw [Bq hk2.1 (by omega)]; simp [Sh]) rfl (by simp [cS, Sh, T.ints]) rfl
   ·(show Int.toNat _ < Int.toNat _); omega
  simp only [HS] at h3;refine sG (eK 2 Z (nB ?_));refine AC Z (fun h4 => ?_) (fun h4 => ?_)
  ·
   simp only [HS] at h4;refine kY [0,1,7,8,10,11,17,18,19,20,21,22,23,24,25,26,53,54,60,61,73,74] Z (rG (eK 2 Z (AB (Le.close (u := 100) 1100 Z Z Z) (nZ Z ?_))));refine cP [100] (hm := (M9 bm pv iv most s1.m inp xv xt (T.Funcs p.funcs) hto.ok.used hi)) (k := ?_);refine nZ Z (AB (Le.open (u := 100) 1100 Z Z Z Z) (nZ Z (bZ [T.int (inS inp s1.m).1] ?_)));refine nZ Z (AH tys Z Z (AA Z) Z Z Z Z Z (.own Z (by first | omega | (simp; done) | (simp; omega))) Z (.own Z (by simp)) (by decide) (by simp; omega) (by decide) Z ?_);refine nZ Z (eZ Z (oN (bN (bN (tN (rG (evI ?_)))))));refine eZ Z (oN ?_);refine lQ (_, _, _, _, _, _) ?_ ?_
   ·dsimp only
    first
    | exact ExInv.next hL hg hk0 (by omega) hto hex hrun hpl (Rj (by assumption)) rfl (by simp) (by simp [Sh]) rfl rfl rfl
   ·(show Int.toNat _ < Int.toNat _); omega
  simp only [HS] at h4;refine sQ (kY [0,1,7,8,10,11,17,18,19,20,21,22,23,24,25,26,53,54,60,61,73,74] Z (rG (eK 2 Z (nB ?_))));refine AC Z (fun h5 => ?_) (fun h5 => ?_)
  ·
   simp only [HS] at h5;refine rG (eK 2 Z (AJ rfl Z (AA Z) Z Z Z (eK 2 Z ?_)));refine cP [102] (hm := (Jj bb s1.by' (pv :: iv :: xv) (T.Funcs p.funcs :: T.ints inp :: xt))) (k := ?_);refine nZ Z (bZ [T.int (GX s1.by').1] ?_);refine nZ Z (kZ [0,1,7,8,10,11,17,18,19,20,21,22,23,24,25,26,53,54,60,61,73,74,80,81,82,83,84,85,86,87,88] Z (AH tys Z Z (AA Z) Z Z Z Z Z (.own Z (by first | omega | (simp; done) | (simp; omega))) Z (.own Z (by simp)) (by decide) (by simp; omega) (by decide) Z ?_));refine nZ Z (eZ Z (oN (bN (bN (tN (rG (evI ?_)))))));refine eZ Z (oN ?_);refine lQ (_, _, _, _, _, _) ?_ ?_
   ·dsimp only
    first
    | exact ExInv.next hL hg hk0 (by omega) hto hex hrun hpl (RI (by assumption)) rfl (by simp) (by simp [Sh]) rfl rfl rfl
   ·(show Int.toNat _ < Int.toNat _); omega
  simp only [HS] at h5;refine sG (eK 2 Z (nB ?_));refine AC Z (fun h6 => ?_) (fun h6 => ?_)
  ·
   simp only [HS] at h6;refine sQ (Ag Ai (by kernel_rfl) ?_)
   have h11 : (l[k.toNat]'(by omega)).op = 11 := by assumption
   have hk11 := DS hkn h11
   rw [A9] at hk11
   have hfu11 := BX hk11.1 hk11.2
   have hpb := I4 (FA hg) (l[k.toNat]'(by omega)).n
   have hnd11 : atI (paramsL p) (l[k.toNat]'(by omega)).n ≤ pile.length := by have := hnd; rw [A1, if_neg (by omega), if_pos h11] at this; exact this
   refine evQ ?_;refine A0 rfl Z (AA Z) Z Z Z (AU Z (evQ ?_));refine evQ ?_;refine B0 tys 99 0 Z Z (AA Z) Z Z Z Z (evQ ?_);refine evQ ?_;refine BA tys Z Z (AA Z) Z Z Z Z Z Z Z hk11.1 _ (FB _ _ hk11.1 hk11.2) (AU Z (evQ ?_));refine evQ ?_;refine evQ ?_;refine A8 (tN (sQ ?_))
   obtain ⟨R, hR⟩ : ∃ R, R = L.call (l[k.toNat]'(by omega)).n (pile.drop (pile.length - (atI (paramsL p) (l[k.toNat]'(by omega)).n).toNat)) none s1.m := ⟨_, rfl⟩
   have hcl11 := hL.call (l[k.toNat]'(by omega)).n (pile.drop (pile.length - (atI (paramsL p) (l[k.toNat]'(by omega)).n).toNat)) none s1.m hk11.1 hk11.2 (by rw [TD]; omega) hto.ok.used
   rw [← hR] at hcl11;refine AN (Le.close (u := 100) 1100 Z Z Z) (nY Z (AX [[14, 117], [14, 117], [14, 117], [14, 117], [14, 117], [14, 117], [14, 117], [14, 117], [14, 117], [14, 117], [14, 117], [14, 117], [14, 117], [14], [14], [14], [14], [14], [14], [100, 117], [], []] Ai (by kernel_rfl) (BJ (QG_ev tys Z Z (AA Z) Z (AE (BJ (QG_ev tys Z Z (AA Z) Z (AE (BJ (QG_ev tys Z Z (AA Z) Z (AE (BJ (QG_ev tys Z Z (AA Z) Z (AE (AQ Z ?_)))))))))))))));refine BJ (QG_ev tys Z Z (AA Z) Z (AE (BJ (QG_ev tys Z Z (AA Z) Z (AE (BJ (Md tys Z Z (AA Z) Z (C4 (by omega) (by omega)) (AE (BJ (Kq tys Z Z (AA Z) Z Z Z Z Z Z Z Z Z (by omega) (by omega) (by omega) (AE (AQ Z (BJ (QG_ev tys Z Z (AA Z) Z (AE ?_)))))))))))))));refine BJ (Ax rfl Z (AA Z) Z Z Z (AE (BJ (QG_ev tys Z Z (AA Z) Z (AE (BJ (QG_ev tys Z Z (AA Z) Z (AE (AQ Z (BJ (Md tys Z Z (AA Z) Z (C4 (by omega) (by omega)) (AE (BJ (IG (pl := [(0, 2), (2, 1)]) tys Z Z (AA Z) Z Z Z (by kernel_rfl) Z Z Z Z Z (AE ?_)))))))))))))));refine QH_box Z Z (AA Z) Z Z Z Z ?_
   refine Ph (u := 117) (rid := 99) (ks := [.obox (.pointer (some ⟨bm, 0, none⟩)) (mS pv iv most s1.m)]) (r := .tup [.t (.int (xV R.1 R.2.1)), .agg [.t (.int R.1), .t (.int (eV R.1 R.2.1))]]) (cells' := bS R.2.2.1) (ks' := [.obox (.pointer (some ⟨bm, 0, none⟩)) (mS pv iv most R.2.2.2)]) (es := fun a => [.t (.v (.pointer (some ⟨bm, 0, none⟩))), .t (.int (l[k.toNat]'(by omega)).n), .t (.list 1 (((pile.map T.int).drop (0 + ((pile.length : Int) - (p.funcs[(l[k.toNat]'(by omega)).n.toNat]'(by omega)).params).toNat)).take ((pile.length : Int).toNat - ((pile.length : Int) - (p.funcs[(l[k.toNat]'(by omega)).n.toNat]'(by omega)).params).toNat))), .t (.int ((s.m.deep : Int) + 1)), .t (.v (.pointer (some ⟨a, 0, none⟩)))]) [100] Z Z (AA Z) Z Z Z (fun a => ResP.pin0 1100 Z (ResP.t (ResP.sl Z Z (by simp; omega) (ResP.t (ResP.pin0 118 Z ResP.done))))) Z (by repeat (first | exact trivial | refine ⟨rfl, rfl, ?_⟩)) (by decide) Z Z Z Z Z (fun a => (by
   have h := hC (l[k.toNat]'(by omega)).n (pile.drop (pile.length - (atI (paramsL p) (l[k.toNat]'(by omega)).n).toNat)) none s1.m bm a pv iv xv xt hk11.1 hk11.2 (by rw [TD]; omega) hto.ok.used (by omega) (by omega) (by omega) (by omega)
   rw [hdp, ← hR] at h
   exact Proc.argL (slI (q := pile.length - (atI (paramsL p) (l[k.toNat]'(by omega)).n).toNat) (by omega) (by omega) (by omega)) h)) rfl rfl rfl ?_
   refine AQ Z (BJ (QG_ev tys Z Z (AA Z) Z (AE (BJ (QG_ev tys Z Z (AA Z) Z (AE (BJ (QG_ev tys Z Z (AA Z) Z (AE (BJ (EN tys Z Z (AA Z) Z Z Z Z (AE (AQ Z (AM (QG_ev tys Z Z (AA Z) Z ?_)))))))))))))));refine AE (B4 tys 10021 Z Z Z Z Z Z Z Z Z (S4 Z) (BP ?_));refine ⟨by kernel_rfl, ?_⟩;refine nZ Z (AB (Le.open (u := 100) 1100 Z Z Z Z) (nZ Z (nB (sQ (sG (eK 3 Z (nB ?_)))))));refine AC Z (fun h7 => ?_) (fun h7 => ?_)
   ·
    simp only [HS] at h7;refine sQ (AX [[], [], []] Ai (by kernel_rfl) (AM (EU tys Z Z (AA Z) Z Z (AE (AM (QG_ev tys Z Z (AA Z) Z (AE (B4 tys 10002 Z Z Z Z Z Z Z Z Z (S4 Z) (BP ?_)))))))));refine ⟨by kernel_rfl, ?_⟩;refine nZ Z (nB (AN (Le.close (u := 100) 1100 Z Z Z) (nY Z (AN (Le.close (u := 101) 1101 Z Z Z) (nY Z (rT (tR (bR (bR (tR (AR (bR (tR ?_)))))))))))));refine eP [_, _, _] ?_ ?_
    ·(have he := C3 hk0 hkl hex (IR hR (by assumption) (by assumption)) (by have := hcl11.h1; omega); exact retX (by rw [he, if_neg (by have := hcl11.h1; dsimp only; omega)]) (by rw [he]) (by rw [he]))
    ·(have he := C3 hk0 hkl hex (IR hR (by assumption) (by assumption)) (by have := hcl11.h1; omega); rw [he]; rfl)
   simp only [HS] at h7;refine AD (tN (AN (Le.gather (u := 8) (id := 8) Z Z (by simp)) ?_));refine nY Z (AN (Le.freeze (u := 8) Z) (nY Z (rG (eK 3 Z (evI ?_)))));refine BU tys Z Z (AA Z) Z Z Z Z Z Z Z Z (by first | omega | (simp only [Sj]; omega)) (by first | omega | (simp only [Sj]; omega)) (by rw [Sm, Sj]; omega) ?_;refine AL ?_;refine ⟨_, argI (l := pile.take (pile.length - (atI (paramsL p) (l[k.toNat]'(by omega)).n).toNat)) (by rw [List.map_take]; rw [Int.toNat_zero, List.drop_zero, List.take_take]; congr 1; omega) (Dp _ (by simp; omega)), rfl, ?_⟩;refine AB (Le.adoptE (u := 130) 130 Z (by first | exact Ec | exact Z)) ?_;refine nZ Z (kZ [0,1,7,8,10,11,12,13,14,17,18,19,20,21,22,23,24,25,26,53,54,60,61,73,74,80,81,90,91,92,93,94,95,96,97,98,99,100,101,102,103,104,105,106,107,108,109,110,111,112,113,114,115,116,117,118,119,120,121,122,123,125,126,127,128,129,130] Z (eZ Z (bZ [T.int (xV R.1 R.2.1)] ?_)));refine nZ Z (AH tys Z Z (AA Z) Z Z Z Z Z (.own Z (by first | omega | (simp; done) | (simp; omega))) Z (.own Z (by simp)) (by decide) (by simp; omega) (by decide) Z ?_);refine nZ Z (eZ Z (nZ Z (AB (Le.gather (u := 8) (id := 130) Z Z (by simp)) ?_)));refine nZ Z (AB (Le.adoptE (u := 8) 8 Z Z) (nZ Z (oN (bN (bN (tN (rG (evI ?_))))))));refine eZ Z (oN ?_);refine lQ (_, _, _, _, _, _) ?_ ?_
   ·dsimp only
    first
    | exact ExInv.next hL hg hk0 (by omega) hto hex hrun hpl (RH hR (by assumption) (by assumption)) rfl (by simp) (by simp [xV, Sh, show R.1 = 1 from by assumption]) rfl rfl rfl
   ·(show Int.toNat _ < Int.toNat _); omega
  simp only [HS] at h6;refine sQ (Ag Ai (by kernel_rfl) ?_)
  have hk3 : 3 ≤ (l[k.toNat]'(by omega)).op ∧ (l[k.toNat]'(by omega)).op ≤ 8 := by have := hkn; unfold knownT at this; rw [if_neg (by assumption), if_neg (by assumption), if_neg (by assumption)] at this; simp only [Si, decide_eq_true_eq] at this; omega
  have hp2 : 2 ≤ pile.length := by have := hnd; rw [A1, if_pos hk3] at this; omega
  refine evQ ?_;refine evQ ?_;refine AU Z (evQ ?_);refine evQ ?_;refine SF ?_;refine Fw tys Z Z (AA Z) Z Z Z Z Z Z Z Z (by omega) (by omega) (FT tys Z Z (AA Z) Z Z Z Z (DT _ _ (by omega) (by omega)) Z (evQ ?_));refine AU Z (evQ ?_);refine SF ?_;refine Fw tys Z Z (AA Z) Z Z Z Z Z Z Z Z (by omega) (by omega) (FT tys Z Z (AA Z) Z Z Z Z (DT _ _ (by omega) (by omega)) Z (FN ?_));refine ⟨_, GD _ _ _, rfl, ?_⟩;refine evQ ?_;refine AU Z (evQ ?_);refine evQ ?_;refine evQ ?_;refine evQ ?_;refine A8 (tN (sQ (sG (eK 2 Z (nB ?_)))));refine AC Z (fun h7 => ?_) (fun h7 => ?_)
  ·
   simp only [HS] at h7;refine sG (AI tys Z Z (AA Z) Z Z Z (by kernel_rfl) Z Z Z Z Z Z (eZ Z (sT Z (nZ Z (kZ [0,1,6,7,8,10,11,15,16,17,18,19,20,21,22,23,24,25,26,27,28,29,30,31,32,33,34,35,36,37,38,39,40,41,42,43,44,45,53,54,60,61,73,74,80,81,90,91] Z (nB (AN (Le.close (u := 100) 1100 Z Z Z) (nY Z (AN (Le.close (u := 101) 1101 Z Z Z) (nY Z (rT (tR (bR (bR (tR ?_)))))))))))))));refine AR (bR (tR ?_));refine eP [_, _, _] ?_ ?_
   ·(have he := C3 hk0 hkl hex (Lh (by assumption) (by assumption) (by assumption) (by assumption) (by assumption) (i := ((pile.length : Int) - 2).toNat) (j := ((pile.length : Int) - 1).toNat) (by omega) (by omega) (by omega) (by first | assumption | simp_all)) (by decide); exact retX (by rw [he]; rfl) (by rw [he]) (by rw [he]; rfl))
   ·(have he := C3 hk0 hkl hex (Lh (by assumption) (by assumption) (by assumption) (by assumption) (by assumption) (i := ((pile.length : Int) - 2).toNat) (j := ((pile.length : Int) - 1).toNat) (by omega) (by omega) (by omega) (by first | assumption | simp_all)) (by decide); rw [he]; rfl)
  simp only [HS] at h7;refine AD (tN (rG (eK 2 Z (evI ?_))));refine kZ [0,1,7,8,10,11,15,16,17,18,19,20,21,22,23,24,25,26,27,28,29,30,31,32,33,34,35,36,37,38,39,40,41,42,43,44,46,47,48,53,54,60,61,73,74,80,81,90,91] Z (D1 tys Z Z (AA Z) Z Z Z Z Z Z Z Z Z (by omega) (by omega) (by omega) (eZ Z (bZ [T.int (Cj (l[k.toNat]'(by omega)).op (pile[((pile.length : Int) - 2).toNat]'(by omega)) (pile[((pile.length : Int) - 1).toNat]'(by omega)))] ?_)));refine nZ Z (AH tys Z Z (AA Z) Z Z Z Z Z (.own Z (by first | omega | (simp; done) | (simp; omega))) Z (.own Z (by simp)) (by decide) (by simp; omega) (by decide) Z ?_);refine nZ Z (eZ Z (oN (bN (bN (tN (rG (evI ?_)))))));refine eZ Z (oN ?_);refine lQ (_, _, _, _, _, _) ?_ ?_
  ·dsimp only
   first
   | exact ExInv.next hL hg hk0 (by omega) hto hex hrun hpl (RG (by assumption) (by assumption) (by assumption) (by assumption) (by assumption) (i := ((pile.length : Int) - 2).toNat) (j := ((pile.length : Int) - 1).toNat) (by omega) (by omega) (by omega) (by first | assumption | simp_all)) rfl (by simp) (by simp [Sh]) rfl rfl rfl
  ·(show Int.toNat _ < Int.toNat _); omega
 simp only [HS] at h1;refine AS (tE (AP (AK (tN (sQ ?_)))))
 have hpl1 := Ja (by omega) hrun
 refine rG (eZ Z (BI tys Z Z (AA Z) Z Z Z Z Z Z Z Z (by omega) (by omega) (Ay tys Z Z (AA Z) Z Z Z Z (DT _ _ (by omega) (by omega)) Z (AI tys Z Z (AA Z) Z Z Z (by kernel_rfl) Z Z Z Z Z Z (eZ Z (sT Z (nZ Z (nB (AN (Le.close (u := 100) 1100 Z Z Z) (nY Z (AN (Le.close (u := 101) 1101 Z Z Z) (nY Z (rT ?_)))))))))))));refine eP [_, _, _] ?_ ?_
 ·(have he := Ix (by omega) hex; exact retX (by rw [he, if_pos rfl, List.getElem?_eq_getElem (by omega)]; rfl) (by rw [he]) (by rw [he]; rfl))
 ·(have he := Ix (by omega) hex; rw [he]; rfl)
open Go.Eng
def Pk (p : Prog) (inp : List Int) (most n : Nat) (L : Lev) : Prop :=
 ∀ (fn : Int) (args : List Int) (b : Option By) (m : Ms) (bm bb : Nat) (q : Kp) (pv iv : Value) (xv : List Value) (xt : List T), 0 ≤ fn → fn < p.funcs.length → args.length = (atI (paramsL p) fn).toNat → m.used ≤ inp.length → m.deep ≤ most → m.fuel ≤ n → m.fuel ≤ 1048576 → m.trace.length + m.fuel ≤ 1048576 →
  Proc Tryz.prog 94 [.t (.v (.pointer (some ⟨bm, 0, none⟩))), .t (.int fn), .t (T.ints args), .t (.v (byP bb b))] (pv :: iv :: xv) (T.Funcs p.funcs :: T.ints inp :: xt)
   [byK bb q b, .obox (.pointer (some ⟨bm, 0, none⟩)) (rS pv iv most m.fuel 0 m)]
   (.tup [.t (.int (haH (L.call fn args b m).1)), .t (.int (L.call fn args b m).2.1)])
   [.obox (byP bb b) (gC q.fn q.vars q.off q.res (hH (L.call fn args b m).2.2.1) (nH (L.call fn args b m).2.2.1) (xH (L.call fn args b m).2.2.1) q.bp), .obox (.pointer (some ⟨bm, 0, none⟩)) (rS pv iv most (fuH (L.call fn args b m).1 (L.call fn args b m).2.2.2) (coH (L.call fn args b m).1) (L.call fn args b m).2.2.2)]
def ExI (p : Prog) (inp : List Int) (f : Func) (L : Lev) (l : List Tok) (s : Sx) (pv iv bp : Value) (q : Kp) (bpv : Value) (most fn : Int) (k : Int) (m : Nat) (ws : List T) (b1 b2 b3 : Blk) : Prop :=
 ∃ (pile : List Int) (s1 : Sx), 0 ≤ k ∧ k ≤ l.length ∧ Sx.to p inp f 0 s s1 ∧ exS p inp L l s = exprS L.cal (paramsL p) inp (l.drop k.toNat) pile s1 ∧ (∃ r mx, DZ f.vars (paramsL p) (l.drop k.toNat) pile.length mx = some (1, r)) ∧ (pile.length : Int) ≤ k ∧
  m = pile.length ∧ ws = pile.map T.int ∧ b1 = .box (rS pv iv most s1.m.fuel 0 s1.m) ∧ b2 = .box (gC fn s1.vars s1.off s1.res 0 0 false bp) ∧ b3 = .obox bpv (gC q.fn q.vars q.off q.res (hH s1.by') (nH s1.by') (xH s1.by') q.bp)
section
variable {p : Prog} {inp : List Int} {f : Func} {L : Lev} {l : List Tok} {s s1 : Sx} {pv iv bp bpv : Value} {most fn : Int} {q : Kp} {k : Int} {pile : List Int}
theorem ExI.next (hL : Ej p inp L) (hg : AZ p = true) (h0 : 0 ≤ k) (h1 : k < l.length) (hto : Sx.to p inp f 0 s s1) (hex : exS p inp L l s = exprS L.cal (paramsL p) inp (l.drop k.toNat) pile s1) (hr : ∃ r mx, DZ f.vars (paramsL p) (l.drop k.toNat) pile.length mx = some (1, r)) (hpl : (pile.length : Int) ≤ k)
  {pile' : List Int} {s' : Sx} {v : Int} (ht : GK L.cal (paramsL p) inp (l[k.toNat]'(by omega)) pile s1 = (0, v, pile', s')) {k' : Int} (hk : k' = k + 1) {m : Nat} {ws : List T} {b1 b2 b3 : Blk}
  (e1 : m = pile'.length) (e2 : ws = pile'.map T.int) (e3 : b1 = .box (rS pv iv most s'.m.fuel 0 s'.m)) (e4 : b2 = .box (gC fn s'.vars s'.off s'.res 0 0 false bp)) (e5 : b3 = .obox bpv (gC q.fn q.vars q.off q.res (hH s'.by') (nH s'.by') (xH s'.by') q.bp)) :
  ExI p inp f L l s pv iv bp q bpv most fn k' m ws b1 b2 b3 := by
 subst hk
 obtain ⟨g1, g2, r, mx, g3⟩ := Es h0 h1 hr
 obtain ⟨q1, q2⟩ := K3 hL hg hto.ok g1 g2
 rw [ht] at q1 q2;dsimp only at q1 q2
 have q2 := q2 rfl
 have hps := Cc (FA hg) (l[k.toNat]'(by omega))
 refine ⟨pile', s', by omega, by omega, hto.trans q1 (by omega), ?_, ⟨r, mx, by rw [q2]; exact g3⟩, by omega, e1, e2, e3, e4, e5⟩;rw [hex, Cp h0 h1, exprS, ht];rfl
theorem R7 {h : Int} (e : haH h = 1) : h = 1 := by unfold haH at e; split at e <;> omega
theorem RS {h : Int} (e : ¬ haH h = 1) : ¬ h = 1 := by intro h; subst h; exact e rfl
theorem KR {h : Int} (e : h < 4) (m : Ms) : fuH h m = m.fuel := by unfold fuH; rw [if_neg (by omega)]
theorem Kd {h : Int} (e : h < 4) : coH h = 0 := by unfold coH; rw [if_neg (by omega)]
theorem R6 {h : Int} (e : h < 4) : haH h = h := by unfold haH; rw [if_neg (by omega)]
end
theorem Proc.argLi {F : Nat} {a b e : D} {zs : List T} {ys : List Int} {rv : List Value} {rt : List T} {ks ks' : List Blk} {r : D} (h : zs = ys.map T.int) (hp : Proc Tryz.prog F [a, b, .t (T.ints ys), e] rv rt ks r ks') : Proc Tryz.prog F [a, b, .t (.list 1 zs), e] rv rt ks r ks' := by
 subst h; exact hp
theorem GV {a a' b b' : Int} (h1 : a = a') (h2 : b = b') : Av [D.t (T.v (Value.int .i64 a)), D.t (T.v (Value.int .i64 b))] = D.tup [D.t (T.int a'), D.t (T.int b')] := by rw [h1, h2]; rfl
theorem O1 (p : Prog) (inp : List Int) (most n : Nat) (L : Lev) (hL : Ej p inp L) (hC : Pk p inp most n L) (hg : AZ p = true) (hp : p.ok 1048576) (hi : inp.length ≤ 1048576) (f : Func) (hf : f ∈ p.funcs) (fn : Int) (l : List Tok) (hl : l.length ≤ 12) (hr : ∃ r, DZ f.vars (paramsL p) l 0 0 = some (1, r)) (s : Sx) (hs : s.ok p inp f) (hn : s.m.fuel ≤ n) (hn2 : s.m.fuel ≤ 1048576) (hti : s.m.trace.length + s.m.fuel ≤ 1048576) (hdm : s.m.deep ≤ most) (hmost : most ≤ 1048576) (bm bc bb : Nat) (q : Kp) (pv iv : Value) (xv : List Value) (xt : List T) : Proc Tryz.prog 147 [.t (.v (.pointer (some ⟨bm, 0, none⟩))), .t (.v (.pointer (some ⟨bc, 0, none⟩))), .t (T.Toks l)] ((pv :: iv :: xv)) ((T.Funcs p.funcs :: T.ints inp :: xt)) [.obox (.pointer (some ⟨bm, 0, none⟩)) (rS pv iv most s.m.fuel 0 s.m), .obox (.pointer (some ⟨bc, 0, none⟩)) (gC fn s.vars s.off s.res 0 0 false (byP bb s.by')), byK bb q s.by'] (.tup [.t (.int (exS p inp L l s).2.1), .t (.int (haH (exS p inp L l s).1))]) [.obox (.pointer (some ⟨bm, 0, none⟩)) (rS pv iv most (fuH (exS p inp L l s).1 (exS p inp L l s).2.2.m) (coH (exS p inp L l s).1) (exS p inp L l s).2.2.m), .obox (.pointer (some ⟨bc, 0, none⟩)) (gC fn (exS p inp L l s).2.2.vars (exS p inp L l s).2.2.off (exS p inp L l s).2.2.res 0 0 false (byP bb s.by')), .obox (byP bb s.by') (gC q.fn q.vars q.off q.res (hH (exS p inp L l s).2.2.by') (nH (exS p inp L l s).2.2.by') (xH (exS p inp L l s).2.2.by') q.bp)] := by
 have hgp := Dq hg
 have hgv := CK hg hf
 refine Proc.intro tys Tryz.func147 Z Z (N := 142) [100, 101, 102] 99 ([(0, .t (.v (.pointer (some ⟨bm, 0, none⟩)))), (1, .t (.v (.pointer (some ⟨bc, 0, none⟩)))), (2, .t (T.Toks l))]) ([(100, .obox (.pointer (some ⟨bm, 0, none⟩)) (rS pv iv most s.m.fuel 0 s.m)), (101, .obox (.pointer (some ⟨bc, 0, none⟩)) (gC fn s.vars s.off s.res 0 0 false (byP bb s.by'))), (102, byK bb q s.by'), (99, .ro (pv :: iv :: xv) (T.Funcs p.funcs :: T.ints inp :: xt))]) Z Z Z Z (by decide) (by decide) Z (fun w0 G F0 => ?_);refine nY Z (AN (Le.openNew (u := 100) 1100 Z Z Z Z Z) (nY Z (AN (Le.named (t := 0) (u := 100) 1100 Z Z) (nY Z (AN (Le.openNew (u := 101) 1101 Z Z Z Z Z) (nY Z (AN (Le.named (t := 1) (u := 101) 1101 Z Z) (nY Z (sG (eK 2 Z (nA (eZ Z (AB (Le.nilOwn (u := 8) 1 Z) (AB (Le.adoptE (u := 8) 8 Z Z) (nZ Z ?_)))))))))))))));refine nB (sQ (sG (eZ Z (evE ?_))));refine eZ Z (nB (AF ?_));refine lK (α := Int × Nat × List T × Blk × Blk × Blk) [0, 1, 18, 19] [99, 1100, 1101] (fun x => [(20, .t (.int (x.1))), (8, .sl 8 0 (x.2.1))]) (fun x => [(8, .L 1 (x.2.2.1)), (100, (x.2.2.2.1)), (101, (x.2.2.2.2.1)), (102, (x.2.2.2.2.2))]) (fun x => ExI p inp f L l s pv iv (byP bb s.by') q (byP bb s.by') most fn (x.1) (x.2.1) (x.2.2.1) (x.2.2.2.1) (x.2.2.2.2.1) (x.2.2.2.2.2)) (fun x => Int.toNat (l.length - (x.1))) (0, 0, [], .box (rS pv iv most s.m.fuel 0 s.m), .box (gC fn s.vars s.off s.res 0 0 false (byP bb s.by')), .obox (byP bb s.by') (gC q.fn q.vars q.off q.res (hH s.by') (nH s.by') (xH s.by') q.bp)) ?_ (fun x hx => ?_)
 ·exact ⟨[], s, by omega, by omega, Sx.to.refl hs (by omega) (by omega), rfl, hr.imp fun r h => ⟨0, h⟩, by simp, rfl, rfl, rfl, rfl, rfl⟩
 obtain ⟨k, m, ws, b1, b2, b3⟩ := x
 obtain ⟨pile, s1, hk0, hk1, hto, hex, hrun, hpl, hm, hws, hb1, hb2, hb3⟩ := hx
 dsimp only at hk0 hk1 hto hex hrun hpl hm hws hb1 hb2 hb3 ⊢;subst hm hws hb1 hb2 hb3;refine nY Z (sG (eZ Z (nB (sQ ?_))));refine AC Z (fun h1 => ?_) (fun h1 => ?_)
 ·
  simp only [HS] at h1;refine AD (tN (sQ (AF (sG ?_))))
  have hkl : k < l.length := by omega
  obtain ⟨hkn, hnd, hrun2⟩ := Es hk0 hkl hrun
  have hpl12 : pile.length ≤ 12 := by omega
  have hfu : s1.m.fuel ≤ s.m.fuel := hto.le.1
  have hft : s1.m.trace.length + s1.m.fuel ≤ s.m.trace.length + s.m.fuel := hto.le.2.1
  have hus : s1.m.used ≤ inp.length := hto.le.2.2
  have hdp : s1.m.deep = s.m.deep := hto.deep (by omega)
  have hvl : s1.vars.length = f.vars.toNat := hto.ok.vars
  refine iY (k := ?_);refine eZ Z ?_
  try refine AB (Le.freeze (u := 23) rfl) ?_
  refine nZ Z (AG tys Z Z (AA Z) Z Z Z (nZ Z (sT Z (nZ Z (nA (eZ Z (nB (sQ (sG (eK 2 Z (nB (AF (sQ (kY [0,1,8,10,11,18,19,20,21,22,23,24,25] Z (rG ?_)))))))))))))));refine eK 2 Z (nB ?_);refine AC Z (fun h2 => ?_) (fun h2 => ?_)
  ·
   simp only [HS] at h2;refine rG (eK 3 Z (oN (bN (tN ?_))))
   skip
   refine rG (eK 2 Z (bZ [T.v _] ?_));refine nZ Z (AH tys Z Z (AA Z) Z Z Z Z Z (.own Z (by first | omega | (simp; done) | (simp; omega))) Z (.own Z (by simp)) (by decide) (by simp; omega) (by decide) Z ?_);refine nZ Z (kZ [0,1,8,10,11,18,19,20,21,22,23,24,25,50,51,52,53,134,135,136,137] Z (eZ Z (oN (bN (tN (rG (evI ?_)))))));refine eZ Z (oN ?_);refine lQ (_, _, _, _, _, _) ?_ ?_
   ·dsimp only
    first
    | exact ExI.next hL hg hk0 (by omega) hto hex hrun hpl (tok_1 (by assumption)) rfl (by simp) (by simp [Sh]) rfl rfl rfl
   ·(show Int.toNat _ < Int.toNat _); omega
  simp only [HS] at h2;refine sG (eK 2 Z (nB ?_));refine AC Z (fun h3 => ?_) (fun h3 => ?_)
  ·
   simp only [HS] at h3
   have hk2 : 0 ≤ (l[k.toNat]'(by omega)).n ∧ (l[k.toNat]'(by omega)).n < f.vars := by have h2 : (l[k.toNat]'(by omega)).op = 2 := (by assumption); simp [knownT, h2] at hkn; exact hkn
   refine AN (Le.adoptBox (u := 101) (j := 1) (id := 191) Z Z Z) (nY Z (Ag Ai (by kernel_rfl) (evQ ?_)));refine A0 rfl Z (AA Z) Z Z Z (AU Z (evQ ?_));refine evQ ?_;refine evQ ?_;refine evQ ?_;refine Fw tys Z Z (AA Z) Z Z Z Z Z Z Z Z hk2.1 (by rw [Sj, hvl]; omega) ?_;refine FT tys Z Z (AA Z) Z Z Z Z (DT _ _ hk2.1 (by rw [hvl]; omega)) Z ?_;refine AU Z (evQ ?_);refine A8 (bN (tN ?_))
   (refine AN (Le.gatherBox (u := 101) (j := 1) (id := 191) rfl rfl rfl (by simp) rfl) ?_; refine Ac rfl ?_)
   refine rG (eK 2 Z (bZ [T.v _] ?_));refine nZ Z (AH tys Z Z (AA Z) Z Z Z Z Z (.own Z (by first | omega | (simp; done) | (simp; omega))) Z (.own Z (by simp)) (by decide) (by simp; omega) (by decide) Z ?_);refine nZ Z (eZ Z (oN (bN (tN (rG (evI ?_))))));refine eZ Z (oN ?_);refine lQ (_, _, _, _, _, _) ?_ ?_
   ·dsimp only
    first
    | exact ExI.next hL hg hk0 (by omega) hto hex hrun hpl (tok_2 (by assumption)) rfl (by simp) (by rw [Bq hk2.1 (by omega)]; simp [Sh]) rfl (by simp [gC, Sh, T.ints]) rfl
   ·(show Int.toNat _ < Int.toNat _); omega
  simp only [HS] at h3;refine sG (eK 2 Z (nB ?_));refine AC Z (fun h4 => ?_) (fun h4 => ?_)
  ·
   simp only [HS] at h4;refine sQ (Ag Ai (by kernel_rfl) (evQ ?_));refine AU Z (A0 rfl Z (AA Z) Z Z Z (evQ ?_));refine evQ ?_;refine evQ ?_;refine evQ ?_;refine A0 rfl Z (AA Z) Z Z Z (AU Z (evQ ?_));refine B0 tys 99 1 Z Z (AA Z) Z Z Z Z (evEQ ?_);refine evQ ?_;refine A8 (tN ?_);refine AC Z (fun h5 => ?_) (fun h5 => ?_)
   ·
    simp only [HS] at h5;refine sQ (Ag Ai (by kernel_rfl) (evQ ?_));refine A0 rfl Z (AA Z) Z Z Z (AU Z (evQ ?_));refine B0 tys 99 1 Z Z (AA Z) Z Z Z Z (evQ ?_);refine A0 rfl Z (AA Z) Z Z Z (evQ ?_);refine evQ ?_;refine AU Z (evQ ?_);refine BA tys Z Z (AA Z) Z Z Z Z Z Z Z (by omega) _ (FB _ _ (by omega) (by omega)) (evQ ?_);refine evQ ?_;refine A8 (tN (rG (eZ Z (AJ rfl Z (AA Z) Z Z Z (eK 3 Z (kZ [0,1,8,10,11,18,19,20,21,22,23,24,25,50,51,54,55,64,65,66,67,68,69,70,71,72,73,74,75,76,77,78,79,80,81,82,83,84,85,86,87,88,89,90,91,92] Z (evI ?_)))))));refine AJ rfl Z (AA Z) Z Z Z (eK 2 Z (sT Z (nZ Z (oN (bN (tN ?_))))))
    skip
    refine rG (eK 2 Z (bZ [T.v _] ?_));refine nZ Z (AH tys Z Z (AA Z) Z Z Z Z Z (.own Z (by first | omega | (simp; done) | (simp; omega))) Z (.own Z (by simp)) (by decide) (by simp; omega) (by decide) Z ?_);refine nZ Z (kZ [0,1,8,10,11,18,19,20,21,22,23,24,25,50,51,54,55,64,65,66,67,68,69,70,71,72,73,74,75,76,77,78,79,80,81,82,83,84,85,86,87,88,89,90,91,92,93,94,95,96,134,135,136,137] Z (eZ Z (oN (bN (tN (rG (evI ?_)))))));refine eZ Z (oN ?_);refine lQ (_, _, _, _, _, _) ?_ ?_
    ·dsimp only
     first
     | exact ExI.next hL hg hk0 (by omega) hto hex hrun hpl (Rj (by assumption)) rfl (by simp) (by rw [inS, if_pos (by omega), List.getElem?_eq_getElem (by omega)]; simp [Sh]) (by rw [inS, if_pos (by omega)]; rfl) rfl rfl
    ·(show Int.toNat _ < Int.toNat _); omega
   simp only [HS] at h5;refine AD (bN (tN ?_))
   skip
   refine rG (eK 2 Z (bZ [T.v _] ?_));refine nZ Z (AH tys Z Z (AA Z) Z Z Z Z Z (.own Z (by first | omega | (simp; done) | (simp; omega))) Z (.own Z (by simp)) (by decide) (by simp; omega) (by decide) Z ?_);refine nZ Z (eZ Z (kZ [0,1,8,10,11,18,19,20,21,22,23,24,25,50,51,54,55,64,65,66,67,68,69,70,71,72,73,74,75,76,134,135,136,137] Z (oN (bN (tN (rG (evI ?_)))))));refine eZ Z (oN ?_);refine lQ (_, _, _, _, _, _) ?_ ?_
   ·dsimp only
    first
    | exact ExI.next hL hg hk0 (by omega) hto hex hrun hpl (Rj (by assumption)) rfl (by simp) (by rw [inS, if_neg (by omega)]; simp [Sh]) (by rw [inS, if_neg (by omega)]; rfl) rfl rfl
   ·(show Int.toNat _ < Int.toNat _); omega
  simp only [HS] at h4;refine sG (eK 2 Z (nB ?_));refine AC Z (fun h5 => ?_) (fun h5 => ?_)
  ·
   simp only [HS] at h5;refine kY [0,1,8,10,11,18,19,20,21,22,23,24,25,50,51,54,55,64,65,97,98] Z (rG ?_)
   have hrec := QD bc bb q s1.by' fn s1.vars s1.off s1.res 0 0 false (pv :: iv :: xv) (T.Funcs p.funcs :: T.ints inp :: xt)
   unfold byK at hrec;rw [HW (bb := bb) (Jk s1.by'), HW (bb := bb) hto.by'] at hrec;refine eZ Z (AB (Le.close (u := 101) 1101 Z Z Z) (nZ Z ?_));refine cP [101,102] (hm := (hrec)) (k := ?_);refine nZ Z (AB (Le.open (u := 101) 1101 Z Z Z Z) (nZ Z (eZ Z (oN (bN (tN ?_))))))
   skip
   refine rG (eK 2 Z (bZ [T.v _] ?_));refine nZ Z (AH tys Z Z (AA Z) Z Z Z Z Z (.own Z (by first | omega | (simp; done) | (simp; omega))) Z (.own Z (by simp)) (by decide) (by simp; omega) (by decide) Z ?_);refine nZ Z (eZ Z (oN (bN (tN (kY [0,1,8,10,11,18,19,20,21,22,23,24,25,50,51,54,55,64,65,97,98,99,100,134,135,136,137] Z (rG (evI ?_)))))));refine eZ Z (oN ?_);refine lQ (_, _, _, _, _, _) ?_ ?_
   ·dsimp only
    first
    | exact ExI.next hL hg hk0 (by omega) hto hex hrun hpl (RI (by assumption)) rfl (by simp) (by simp [Sh]) rfl rfl rfl
   ·(show Int.toNat _ < Int.toNat _); omega
  simp only [HS] at h5;refine sQ (kY [0,1,8,10,11,18,19,20,21,22,23,24,25,50,51,54,55,64,65,97,98] Z (rG (eK 2 Z (nB ?_))));refine AC Z (fun h6 => ?_) (fun h6 => ?_)
  ·
   simp only [HS] at h6;refine sQ ?_
   have h11 : (l[k.toNat]'(by omega)).op = 11 := by assumption
   have hk11 := DS hkn h11
   rw [A9] at hk11
   have hfu11 := BX hk11.1 hk11.2
   have hpb := I4 (FA hg) (l[k.toNat]'(by omega)).n
   have hnd11 : atI (paramsL p) (l[k.toNat]'(by omega)).n ≤ pile.length := by have := hnd; rw [A1, if_neg (by omega), if_pos h11] at this; exact this
   refine Ag Ai (by kernel_rfl) (evQ ?_);refine evEQ ?_;refine evQ ?_;refine A0 rfl Z (AA Z) Z Z Z (AU Z (evQ ?_));refine evQ ?_;refine B0 tys 99 0 Z Z (AA Z) Z Z Z Z (evQ ?_);refine evQ ?_;refine BA tys Z Z (AA Z) Z Z Z Z Z Z Z hk11.1 _ (FB _ _ hk11.1 hk11.2) (AU Z (evQ ?_));refine evQ ?_;refine SF ?_;refine evQ ?_;refine A8 (tN (sQ ?_))
   obtain ⟨R, hR⟩ : ∃ R, R = L.call (l[k.toNat]'(by omega)).n (pile.drop (pile.length - (atI (paramsL p) (l[k.toNat]'(by omega)).n).toNat)) none s1.m := ⟨_, rfl⟩
   have hcl11 := hL.call (l[k.toNat]'(by omega)).n (pile.drop (pile.length - (atI (paramsL p) (l[k.toNat]'(by omega)).n).toNat)) none s1.m hk11.1 hk11.2 (by rw [TD]; omega) hto.ok.used
   have hCa := hC (l[k.toNat]'(by omega)).n (pile.drop (pile.length - (atI (paramsL p) (l[k.toNat]'(by omega)).n).toNat)) none s1.m bm 0 ⟨0, [], [], 0, .pointer none⟩ pv iv xv xt hk11.1 hk11.2 (by rw [TD]; omega) hto.ok.used (by omega) (by omega) (by omega) (by omega)
   rw [← hR] at hcl11 hCa;refine AN (Le.close (u := 100) 1100 Z Z Z) (nY Z (AN (Le.noBox 150 (gC 0 [] [] 0 0 0 false (.pointer none)) Z) (nY Z (AX [[], [], [], [], [], [], [], [], [], [], [], []] Ai (by kernel_rfl) (AM (QG_ev tys Z Z (AA Z) Z (AE (AM (QG_ev tys Z Z (AA Z) Z (AE (AM (QG_ev tys Z Z (AA Z) Z (AE (AM (QG_ev tys Z Z (AA Z) Z ?_)))))))))))))));refine AE (AQ Z (AM (QG_ev tys Z Z (AA Z) Z (AE (BJ (Kq tys Z Z (AA Z) Z Z Z Z Z Z Z Z Z (by omega) (by omega) (by omega) (AE ?_)))))));refine Bh (rid := 99) [150, 100] Z Z (AA Z) Z Z (by repeat (first | exact ResP.done | refine ResP.pin0 1150 Z ?_ | refine ResP.pin0 1100 Z ?_ | refine ResP.t ?_ | refine ResP.nil 1 ?_ | refine ResP.nil' ?_ | refine ResP.own ?_ | refine ResP.sl Z Z (by first | omega | (simp; omega)) ?_ | refine ResP.aggT (by repeat (first | exact ResP.done | refine ResP.t ?_)) ?_)) Z (by repeat (first | exact trivial | refine ⟨rfl, rfl, ?_⟩)) (by decide) (Proc.argLi (slI (q := pile.length - (atI (paramsL p) (l[k.toNat]'(by omega)).n).toNat) (by omega) (by omega) (by omega)) hCa) Z Z Z ?_;refine AM (QG_ev tys Z Z (AA Z) Z (AE (AQ Z (AM (QG_ev tys Z Z (AA Z) Z (AE (AM (QG_ev tys Z Z (AA Z) Z (AE (AM (QG_ev tys Z Z (AA Z) Z (AE (AM (QG_ev tys Z Z (AA Z) Z (AE ?_)))))))))))))));refine AQ Z (BP ?_);refine ⟨by kernel_rfl, ?_⟩;refine nZ Z (AB (Le.open (u := 100) 1100 Z Z Z Z) (nZ Z (nB (sQ (sG (eK 2 Z (nB ?_)))))));refine AC Z (fun h7 => ?_) (fun h7 => ?_)
   ·
    simp only [HS] at h7;refine sG (eK 4 Z (nB (AN (Le.close (u := 100) 1100 Z Z Z) (nY Z (AN (Le.close (u := 101) 1101 Z Z Z) (nY Z (rT (tR (bR (tR (bR (tR (AR (bR (tR ?_)))))))))))))));refine eP [_, _, _] ?_ ?_
    ·(have he := C3 hk0 hkl hex (IR hR (by assumption) (RS (by assumption))) (by have := hcl11.h1; omega); exact GV (by rw [he]) (by rw [he]))
    ·(have he := C3 hk0 hkl hex (IR hR (by assumption) (RS (by assumption))) (by have := hcl11.h1; omega); rw [he]; rfl)
   simp only [HS] at h7;refine AD (tN (rG (eK 2 Z (D1 tys Z Z (AA Z) Z Z Z Z Z Z Z Z Z (by omega) (by omega) (by omega) (eK 3 Z (oN (bN (tN ?_))))))))
   skip
   refine kY [0,1,8,10,11,12,13,14,18,19,20,21,22,23,24,25,50,51,54,55,64,65,97,98,101,102,103,104,105,106,107,108,109,110,111,112,113,114,115,116,117,118,119,120,121,122,123,124,125,126,127,130,131,132,133] Z (rG (eK 2 Z (bZ [T.v _] ?_)));refine nZ Z (AH tys Z Z (AA Z) Z Z Z Z Z (.own Z (by first | omega | (simp; done) | (simp; omega))) Z (.own Z (by simp)) (by decide) (by simp; omega) (by decide) Z ?_);refine nZ Z (eZ Z (oN (bN (tN (rG (evI ?_))))));refine eZ Z (oN ?_);refine lQ (_, _, _, _, _, _) ?_ ?_
   ·dsimp only
    first
    | exact ExI.next hL hg hk0 (by omega) hto hex hrun hpl (RH hR (by assumption) (R7 (by assumption))) rfl (by simp; omega) (by simp [Sh]; omega) (by have e := R7 (by assumption); rw [KR (by omega), Kd (by omega)]; rfl) rfl rfl
   ·(show Int.toNat _ < Int.toNat _); omega
  simp only [HS] at h6;refine sQ ?_
  have hk3 : 3 ≤ (l[k.toNat]'(by omega)).op ∧ (l[k.toNat]'(by omega)).op ≤ 8 := by have := hkn; unfold knownT at this; rw [if_neg (by assumption), if_neg (by assumption), if_neg (by assumption)] at this; simp only [Si, decide_eq_true_eq] at this; omega
  have hp2 : 2 ≤ pile.length := by have := hnd; rw [A1, if_pos hk3] at this; omega
  refine rG (eZ Z (evE ?_));refine evI ?_;refine eZ Z (nB (sQ (Ag Ai (by kernel_rfl) (evQ ?_))));refine AU Z (evQ ?_);refine evQ ?_;refine evQ ?_;refine Fw tys Z Z (AA Z) Z Z Z Z Z Z Z Z (by omega) (by omega) (FT tys Z Z (AA Z) Z Z Z Z (DT _ _ (by omega) (by omega)) Z (evQ ?_));refine AU Z (evQ ?_);refine SF ?_;refine Fw tys Z Z (AA Z) Z Z Z Z Z Z Z Z (by omega) (by omega) (FT tys Z Z (AA Z) Z Z Z Z (DT _ _ (by omega) (by omega)) Z (FN ?_));refine ⟨_, OB _ _ _, rfl, ?_⟩;refine evQ ?_;refine AU Z (evQ ?_);refine evQ ?_;refine evQ ?_;refine evQ ?_;refine A8 (tN (sQ (sG (eK 2 Z (nB ?_)))));refine AC Z (fun h7 => ?_) (fun h7 => ?_)
  ·
   simp only [HS] at h7;refine sG (eK 2 Z (nB (AN (Le.close (u := 100) 1100 Z Z Z) (nY Z (AN (Le.close (u := 101) 1101 Z Z Z) (nY Z (rT (tR (bR (tR (bR (tR (AR (bR (tR ?_)))))))))))))));refine eP [_, _, _] ?_ ?_
   ·(have he := C3 hk0 hkl hex (Lh (by assumption) (by assumption) (by assumption) (by assumption) (by assumption) (i := ((pile.length : Int) - 2).toNat) (j := ((pile.length : Int) - 2 + 1).toNat) (by omega) (by omega) (by omega) (by first | assumption | simp_all)) (by decide); exact GV (by rw [he]) (by rw [he]; rfl))
   ·(have he := C3 hk0 hkl hex (Lh (by assumption) (by assumption) (by assumption) (by assumption) (by assumption) (i := ((pile.length : Int) - 2).toNat) (j := ((pile.length : Int) - 2 + 1).toNat) (by omega) (by omega) (by omega) (by first | assumption | simp_all)) (by decide); rw [he]; rfl)
  simp only [HS] at h7;refine AD (tN (rG (eK 2 Z (D1 tys Z Z (AA Z) Z Z Z Z Z Z Z Z Z (by omega) (by omega) (by omega) (kZ [0,1,8,10,11,15,16,17,18,19,20,21,22,23,24,25,26,27,28,29,30,31,32,33,34,35,36,37,38,39,40,41,42,43,44,45,46,47,48,50,51,54,55,64,65,97,98,101,102] Z (eK 3 Z (oN (bN (tN ?_)))))))))
  skip
  refine rG (eK 2 Z (bZ [T.v _] ?_));refine nZ Z (AH tys Z Z (AA Z) Z Z Z Z Z (.own Z (by first | omega | (simp; done) | (simp; omega))) Z (.own Z (by simp)) (by decide) (by simp; omega) (by decide) Z ?_);refine nZ Z (eZ Z (oN (bN (tN (kY [0,1,8,10,11,15,16,17,18,19,20,21,22,23,24,25,26,27,28,29,30,31,32,33,34,35,36,37,38,39,40,41,42,43,44,45,46,47,48,49,50,51,54,55,64,65,97,98,101,102,134,135,136,137] Z (rG (evI ?_)))))));refine eZ Z (oN ?_);refine lQ (_, _, _, _, _, _) ?_ ?_
  ·dsimp only
   first
   | exact ExI.next hL hg hk0 (by omega) hto hex hrun hpl (RG (by assumption) (by assumption) (by assumption) (by assumption) (by assumption) (i := ((pile.length : Int) - 2).toNat) (j := ((pile.length : Int) - 2 + 1).toNat) (by omega) (by omega) (by omega) (by first | assumption | simp_all)) rfl (by simp) (by simp [Sh]) rfl rfl rfl
  ·(show Int.toNat _ < Int.toNat _); omega
 simp only [HS] at h1;refine AS (tE (AP (AK (tN (sQ ?_)))))
 have hpl1 := Ja (by omega) hrun
 refine rG (eZ Z (BI tys Z Z (AA Z) Z Z Z Z Z Z Z Z (by omega) (by omega) (Ay tys Z Z (AA Z) Z Z Z Z (DT _ _ (by omega) (by omega)) Z (eK 2 Z (nB (AN (Le.close (u := 100) 1100 Z Z Z) (nY Z (AN (Le.close (u := 101) 1101 Z Z Z) (nY Z (rT ?_))))))))));refine eP [_, _, _] ?_ ?_
 ·(have he := Ix (by omega) hex; exact GV (by rw [he, List.getElem?_eq_getElem (by omega)]; rfl) (by rw [he]; rfl))
 ·(have he := Ix (by omega) hex; rw [he]; rfl)
open Go.Eng
def Lb (p : Prog) (inp : List Int) (most n : Nat) (L : Lev) : Prop :=
 ∀ (f : Func) (t : Stmt) (s : Sx) (bm bc bb : Nat) (pv iv fbv fsv : Value) (xv : List Value) (xt : List T), f ∈ p.funcs → t ∈ f.stmts → s.ok p inp f → s.m.fuel ≤ n → s.m.fuel ≤ 1048576 → s.m.trace.length + s.m.fuel ≤ 1048576 → s.off.length + s.m.fuel ≤ 1048576 → s.m.deep ≤ most →
  Proc Tryz.prog 149 [.t (.v (.pointer (some ⟨bm, 0, none⟩))), .t (.v (.pointer (some ⟨bc, 0, none⟩))), .t t.tt] (pv :: iv :: fsv :: xv) (T.Funcs p.funcs :: T.ints inp :: T.Stmts f.stmts :: xt)
   [.obox (.pointer (some ⟨bm, 0, none⟩)) (mS pv iv most s.m), .obox (.pointer (some ⟨bc, 0, none⟩)) (cS f fbv fsv s.vars s.off s.res s.m.deep bb), .obox (.pointer (some ⟨bb, 0, none⟩)) (bS s.by')]
   (.agg [.t (.int (L.stmt f t s).1), .t (.int (eV (L.stmt f t s).1 (L.stmt f t s).2.1))])
   [.obox (.pointer (some ⟨bm, 0, none⟩)) (mS pv iv most (L.stmt f t s).2.2.m), .obox (.pointer (some ⟨bc, 0, none⟩)) (cS f fbv fsv (L.stmt f t s).2.2.vars (L.stmt f t s).2.2.off (L.stmt f t s).2.2.res s.m.deep bb), .obox (.pointer (some ⟨bb, 0, none⟩)) (bS (L.stmt f t s).2.2.by')]
def blS (L : Lev) (f : Func) (b : List Int) (s : Sx) : Int × Int × Sx := blockS (L.stmt f) f b s
def BlInv (p : Prog) (inp : List Int) (f : Func) (L : Lev) (b : List Int) (s : Sx) (pv iv fbv fsv : Value) (most dp : Int) (bm bb : Nat) (k : Int) (b1 b2 b3 : Blk) : Prop :=
 ∃ (s1 : Sx), 0 ≤ k ∧ k ≤ b.length ∧ Sx.to p inp f 0 s s1 ∧ blS L f b s = blockS (L.stmt f) f (b.drop k.toNat) s1 ∧
  b1 = .obox (.pointer (some ⟨bm, 0, none⟩)) (mS pv iv most s1.m) ∧ b2 = .box (cS f fbv fsv s1.vars s1.off s1.res dp bb) ∧ b3 = .obox (.pointer (some ⟨bb, 0, none⟩)) (bS s1.by')
section
variable {p : Prog} {inp : List Int} {f : Func} {L : Lev} {b : List Int} {s s1 : Sx} {pv iv fbv fsv : Value} {most dp : Int} {bm bb : Nat} {k : Int} {R : Int × Int × Sx}
theorem BlInv.next (h0 : 0 ≤ k) (h1 : k < b.length) (hto : Sx.to p inp f 0 s s1) (hex : blS L f b s = blockS (L.stmt f) f (b.drop k.toNat) s1) (hR : R = L.stmt f (BK f (b[k.toNat]'(by omega))) s1) (hok : Sx.to p inp f R.1 s1 R.2.2) (hz : R.1 = 0) {k' : Int} (hk : k' = k + 1) {b1 b2 b3 : Blk}
  (e3 : b1 = .obox (.pointer (some ⟨bm, 0, none⟩)) (mS pv iv most R.2.2.m)) (e4 : b2 = .box (cS f fbv fsv R.2.2.vars R.2.2.off R.2.2.res dp bb)) (e5 : b3 = .obox (.pointer (some ⟨bb, 0, none⟩)) (bS R.2.2.by')) :
  BlInv p inp f L b s pv iv fbv fsv most dp bm bb k' b1 b2 b3 := by
 subst hk;rw [hz] at hok;refine ⟨R.2.2, by omega, by omega, hto.trans hok (by omega), ?_, e3, e4, e5⟩;rw [hex, Cp h0 h1, blockS];rw [← hR, if_pos hz]
theorem I3 (h0 : 0 ≤ k) (h1 : k < b.length) (hex : blS L f b s = blockS (L.stmt f) f (b.drop k.toNat) s1) (hR : R = L.stmt f (BK f (b[k.toNat]'(by omega))) s1) (hz : ¬ R.1 = 0) : blS L f b s = R := by
 rw [hex, Cp h0 h1, blockS];rw [← hR, if_neg hz]
theorem MZ (h1 : (b.length : Int) ≤ k) (hex : blS L f b s = blockS (L.stmt f) f (b.drop k.toNat) s1) : blS L f b s = (0, 0, s1) := by
 rw [hex, BE h1, blockS]
end
theorem Ks {b b' c c' : Int} (h2 : b = b') (h3 : c = c') : Av [D.agg [D.t (T.v (Value.int .i64 b)), D.t (T.v (Value.int .i64 c))]] = D.agg [D.t (T.int b'), D.t (T.int c')] := by rw [h2, h3]; rfl
theorem EH (p : Prog) (inp : List Int) (most n : Nat) (L : Lev) (hL : Ej p inp L) (hC : Lb p inp most n L) (f : Func) (hf : f ∈ p.funcs) (hfl : f.stmts.length ≤ 1048576) (b : List Int) (hb : R3 f b) (hbl : b.length ≤ 1048576) (s : Sx) (hs : s.ok p inp f) (hn : s.m.fuel ≤ n) (hn2 : s.m.fuel ≤ 1048576) (hti : s.m.trace.length + s.m.fuel ≤ 1048576) (hof : s.off.length + s.m.fuel ≤ 1048576) (hdm : s.m.deep ≤ most) (bm bc bb : Nat) (pv iv fbv fsv : Value) (xv : List Value) (xt : List T) : Proc Tryz.prog 142 [.t (.v (.pointer (some ⟨bm, 0, none⟩))), .t (.v (.pointer (some ⟨bc, 0, none⟩))), .t (T.ints b)] ((pv :: iv :: fsv :: xv)) ((T.Funcs p.funcs :: T.ints inp :: T.Stmts f.stmts :: xt)) [.obox (.pointer (some ⟨bm, 0, none⟩)) (mS pv iv most s.m), .obox (.pointer (some ⟨bc, 0, none⟩)) (cS f fbv fsv s.vars s.off s.res s.m.deep bb), .obox (.pointer (some ⟨bb, 0, none⟩)) (bS s.by')] (.agg [.t (.int (blS L f b s).1), .t (.int (eV (blS L f b s).1 (blS L f b s).2.1))]) [.obox (.pointer (some ⟨bm, 0, none⟩)) (mS pv iv most (blS L f b s).2.2.m), .obox (.pointer (some ⟨bc, 0, none⟩)) (cS f fbv fsv (blS L f b s).2.2.vars (blS L f b s).2.2.off (blS L f b s).2.2.res s.m.deep bb), .obox (.pointer (some ⟨bb, 0, none⟩)) (bS (blS L f b s).2.2.by')] := by
 refine Proc.intro tys Tryz.func142 Z Z (N := 33) [100, 101, 102] 99 ([(0, .t (.v (.pointer (some ⟨bm, 0, none⟩)))), (1, .t (.v (.pointer (some ⟨bc, 0, none⟩)))), (2, .t (T.ints b))]) ([(100, .obox (.pointer (some ⟨bm, 0, none⟩)) (mS pv iv most s.m)), (101, .obox (.pointer (some ⟨bc, 0, none⟩)) (cS f fbv fsv s.vars s.off s.res s.m.deep bb)), (102, .obox (.pointer (some ⟨bb, 0, none⟩)) (bS s.by')), (99, .ro (pv :: iv :: fsv :: xv) (T.Funcs p.funcs :: T.ints inp :: T.Stmts f.stmts :: xt))]) Z Z Z Z (by decide) (by decide) Z (fun w0 G F0 => ?_);refine nY Z (AN (Le.openNew (u := 101) 1101 Z Z Z Z Z) (nY Z (AN (Le.named (t := 1) (u := 101) 1101 Z Z) (nY Z (sG (AG tys Z Z (AA Z) Z Z Z (nZ Z (nB (sQ (sG (eZ Z (evE ?_))))))))))));refine eZ Z (nB (AF ?_));refine lK (α := Int × Blk × Blk × Blk) [0, 1, 6, 10, 11] [6, 99, 1101] (fun x => [(12, .t (.int (x.1)))]) (fun x => [(100, (x.2.1)), (101, (x.2.2.1)), (102, (x.2.2.2))]) (fun x => BlInv p inp f L b s pv iv fbv fsv most s.m.deep bm bb (x.1) (x.2.1) (x.2.2.1) (x.2.2.2)) (fun x => Int.toNat (b.length - (x.1))) (0, .obox (.pointer (some ⟨bm, 0, none⟩)) (mS pv iv most s.m), .box (cS f fbv fsv s.vars s.off s.res s.m.deep bb), .obox (.pointer (some ⟨bb, 0, none⟩)) (bS s.by')) ?_ (fun x hx => ?_)
 ·exact ⟨s, by omega, by omega, Sx.to.refl hs (by omega) (by omega), rfl, rfl, rfl, rfl⟩
 obtain ⟨k, b1, b2, b3⟩ := x
 obtain ⟨s1, hk0, hk1, hto, hex, hb1, hb2, hb3⟩ := hx
 dsimp only at hk0 hk1 hto hex hb1 hb2 hb3 ⊢;subst hb1 hb2 hb3;refine nY Z (sG (eZ Z (nB (sQ ?_))));refine AC Z (fun h1 => ?_) (fun h1 => ?_)
 ·
  simp only [HS] at h1;refine AD (tN (sQ (AF (sG ?_))))
  have hkl : k < b.length := by omega
  have hbk := hb (b[k.toNat]'(by omega)) (Ss _)
  have hmem : BK f (b[k.toNat]'(by omega)) ∈ f.stmts := by rw [← Dc (by omega)]; exact Ss _
  have hfu : s1.m.fuel ≤ s.m.fuel := hto.le.1
  have hft : s1.m.trace.length + s1.m.fuel ≤ s.m.trace.length + s.m.fuel := hto.le.2.1
  have hfo : s1.off.length + s1.m.fuel ≤ s.off.length + s.m.fuel := hto.offl
  have hdp : s1.m.deep = s.m.deep := hto.deep (by omega)
  obtain ⟨R, hR⟩ : ∃ R, R = L.stmt f (BK f (b[k.toNat]'(by omega))) s1 := ⟨_, rfl⟩
  have hok1 := hL.stmt f hf _ hmem s1 hto.ok
  rw [← hR] at hok1
  have hh0 := hok1.h0
  have hCa := hC f (BK f (b[k.toNat]'(by omega))) s1 bm bc bb pv iv fbv fsv xv xt hf hmem hto.ok (by omega) (by omega) (by omega) (by omega) (by omega)
  rw [hdp, ← hR, ← Dc (f := f) (n := b[k.toNat]'(by omega)) (by omega)] at hCa;refine iY (k := ?_);refine eK 2 Z (nA (eK 3 Z (AJ rfl Z (AA Z) Z Z Z (eZ Z (kZ [0,1,6,8,10,11,12,13,14,15,16,17,18,19,20] Z (eZ Z (Dz tys 99 2 Z Z (AA Z) Z Z Z Z (eZ Z ?_))))))));refine iY (k := ?_);refine eZ Z ?_
  try refine AB (Le.freeze (u := 25) rfl) ?_
  refine nZ Z (AB (Le.close (u := 101) 1101 Z Z Z) (nZ Z ?_));refine cP [100,101,102] (hm := (hCa)) (k := ?_);refine nZ Z (AB (Le.open (u := 101) 1101 Z Z Z Z) (nZ Z (AG tys Z Z (AA Z) Z Z Z (nZ Z (sT Z (nZ Z (nB (sQ (kY [0,1,6,8,9,10,11,12,13,14,15,16,17,18,19,20,21,22,23,24,25,26] Z (rG (eK 3 Z (nB ?_))))))))))));refine AC Z (fun h2 => ?_) (fun h2 => ?_)
  ·
   simp only [HS] at h2;refine sG (eZ Z ?_)
   try refine AB (Le.freeze (u := 30) rfl) ?_
   refine nZ Z (sT Z (nZ Z (nB (AN (Le.close (u := 101) 1101 Z Z Z) (nY Z (rT (bR (tR (AR (bR (tR ?_)))))))))));refine eP [_, _, _] ?_ ?_
   ·(have he := I3 hk0 hkl hex hR (by omega); exact Ks (by rw [he]) (by rw [he]))
   ·(have he := I3 hk0 hkl hex hR (by omega); rw [he]; rfl)
  simp only [HS] at h2;refine AD (bN (tN (rG (evI ?_))));refine eZ Z (oN ?_);refine lQ (_, _, _, _) ?_ ?_
  ·dsimp only
   exact BlInv.next hk0 (by omega) hto hex hR hok1 (by omega) rfl rfl rfl rfl
  ·(show Int.toNat _ < Int.toNat _); omega
 simp only [HS] at h1;refine AS (tE (AP (AK (tN (sG (AI tys Z Z (AA Z) Z Z Z (by kernel_rfl) Z Z Z Z Z Z (sT Z (nZ Z (nB (AN (Le.close (u := 101) 1101 Z Z Z) (nY Z (rT ?_))))))))))));refine eP [_, _, _] ?_ ?_
 ·(have he := MZ (by omega) hex; exact Ks (by rw [he]) (by rw [he]; rfl))
 ·(have he := MZ (by omega) hex; rw [he]; rfl)
open Go.Eng
def Pd (p : Prog) (inp : List Int) (most n : Nat) (L : Lev) : Prop :=
 ∀ (fn : Int) (f : Func) (t : Stmt) (s : Sx) (bm bc bb : Nat) (q : Kp) (pv iv : Value) (xv : List Value) (xt : List T), 0 ≤ fn → fn < p.funcs.length → f = funcAt p fn → t ∈ f.stmts → s.ok p inp f → s.m.fuel ≤ n → s.m.fuel ≤ 1048576 → s.m.trace.length + s.m.fuel ≤ 1048576 → s.off.length + s.m.fuel ≤ 1048576 → s.m.deep ≤ most →
  Proc Tryz.prog 138 [.t (.v (.pointer (some ⟨bm, 0, none⟩))), .t (.v (.pointer (some ⟨bc, 0, none⟩))), .t t.tt] (pv :: iv :: xv) (T.Funcs p.funcs :: T.ints inp :: xt)
   [.obox (.pointer (some ⟨bm, 0, none⟩)) (rS pv iv most s.m.fuel 0 s.m), .obox (.pointer (some ⟨bc, 0, none⟩)) (gC fn s.vars s.off s.res 0 0 false (byP bb s.by')), byK bb q s.by']
   (.tup [.t (.int (haH (L.stmt f t s).1)), .t (.int (L.stmt f t s).2.1)])
   [.obox (.pointer (some ⟨bm, 0, none⟩)) (rS pv iv most (fuH (L.stmt f t s).1 (L.stmt f t s).2.2.m) (coH (L.stmt f t s).1) (L.stmt f t s).2.2.m), .obox (.pointer (some ⟨bc, 0, none⟩)) (gC fn (L.stmt f t s).2.2.vars (L.stmt f t s).2.2.off (L.stmt f t s).2.2.res 0 0 false (byP bb s.by')), .obox (byP bb s.by') (gC q.fn q.vars q.off q.res (hH (L.stmt f t s).2.2.by') (nH (L.stmt f t s).2.2.by') (xH (L.stmt f t s).2.2.by') q.bp)]
def BlI (p : Prog) (inp : List Int) (f : Func) (L : Lev) (b : List Int) (s : Sx) (pv iv bp bpv : Value) (q : Kp) (most fn : Int) (k : Int) (b1 b2 b3 : Blk) : Prop :=
 ∃ (s1 : Sx), 0 ≤ k ∧ k ≤ b.length ∧ Sx.to p inp f 0 s s1 ∧ blS L f b s = blockS (L.stmt f) f (b.drop k.toNat) s1 ∧
  b1 = .box (rS pv iv most s1.m.fuel 0 s1.m) ∧ b2 = .box (gC fn s1.vars s1.off s1.res 0 0 false bp) ∧ b3 = .obox bpv (gC q.fn q.vars q.off q.res (hH s1.by') (nH s1.by') (xH s1.by') q.bp)
section
variable {p : Prog} {inp : List Int} {f : Func} {L : Lev} {b : List Int} {s s1 : Sx} {pv iv bp bpv : Value} {most fn : Int} {q : Kp} {k : Int} {R : Int × Int × Sx}
theorem BlI.next (h0 : 0 ≤ k) (h1 : k < b.length) (hto : Sx.to p inp f 0 s s1) (hex : blS L f b s = blockS (L.stmt f) f (b.drop k.toNat) s1) (hR : R = L.stmt f (BK f (b[k.toNat]'(by omega))) s1) (hok : Sx.to p inp f R.1 s1 R.2.2) (hz : R.1 = 0) {k' : Int} (hk : k' = k + 1) {b1 b2 b3 : Blk}
  (e3 : b1 = .box (rS pv iv most (fuH R.1 R.2.2.m) (coH R.1) R.2.2.m)) (e4 : b2 = .box (gC fn R.2.2.vars R.2.2.off R.2.2.res 0 0 false bp)) (e5 : b3 = .obox bpv (gC q.fn q.vars q.off q.res (hH R.2.2.by') (nH R.2.2.by') (xH R.2.2.by') q.bp)) :
  BlI p inp f L b s pv iv bp bpv q most fn k' b1 b2 b3 := by
 subst hk;rw [hz] at hok;rw [hz, KR (by omega), Kd (by omega)] at e3;refine ⟨R.2.2, by omega, by omega, hto.trans hok (by omega), ?_, e3, e4, e5⟩;rw [hex, Cp h0 h1, blockS];rw [← hR, if_pos hz]
theorem R8 {h : Int} (e : haH h = 0) : h = 0 := by unfold haH at e; split at e <;> omega
theorem ML {h : Int} (e : ¬ haH h = 0) : ¬ h = 0 := by intro h; subst h; exact e rfl
end
theorem EI (p : Prog) (inp : List Int) (most n : Nat) (L : Lev) (hL : Ej p inp L) (hC : Pd p inp most n L) (fn : Int) (f : Func) (h0 : 0 ≤ fn) (h1' : fn < p.funcs.length) (hfd : f = funcAt p fn) (hfl : f.stmts.length ≤ 1048576) (b : List Int) (hb : R3 f b) (hbl : b.length ≤ 1048576) (s : Sx) (hs : s.ok p inp f) (hn : s.m.fuel ≤ n) (hn2 : s.m.fuel ≤ 1048576) (hti : s.m.trace.length + s.m.fuel ≤ 1048576) (hof : s.off.length + s.m.fuel ≤ 1048576) (hdm : s.m.deep ≤ most) (bm bc bb : Nat) (q : Kp) (pv iv : Value) (xv : List Value) (xt : List T) : Proc Tryz.prog 124 [.t (.v (.pointer (some ⟨bm, 0, none⟩))), .t (.v (.pointer (some ⟨bc, 0, none⟩))), .t (T.ints b)] ((pv :: iv :: xv)) ((T.Funcs p.funcs :: T.ints inp :: xt)) [.obox (.pointer (some ⟨bm, 0, none⟩)) (rS pv iv most s.m.fuel 0 s.m), .obox (.pointer (some ⟨bc, 0, none⟩)) (gC fn s.vars s.off s.res 0 0 false (byP bb s.by')), byK bb q s.by'] (.tup [.t (.int (haH (blS L f b s).1)), .t (.int (blS L f b s).2.1)]) [.obox (.pointer (some ⟨bm, 0, none⟩)) (rS pv iv most (fuH (blS L f b s).1 (blS L f b s).2.2.m) (coH (blS L f b s).1) (blS L f b s).2.2.m), .obox (.pointer (some ⟨bc, 0, none⟩)) (gC fn (blS L f b s).2.2.vars (blS L f b s).2.2.off (blS L f b s).2.2.res 0 0 false (byP bb s.by')), .obox (byP bb s.by') (gC q.fn q.vars q.off q.res (hH (blS L f b s).2.2.by') (nH (blS L f b s).2.2.by') (xH (blS L f b s).2.2.by') q.bp)] := by
 have hfa : p.funcs[fn.toNat]'(by omega) = f := by rw [hfd]; exact funcAt_at (by omega)
 have hfm : f ∈ p.funcs := hfd ▸ CB h0 h1'
 have hget : (p.funcs.map Func.tt)[fn.toNat]? = some f.tt := by rw [FB _ _ h0 h1', hfa]
 refine Proc.intro tys Tryz.func124 Z Z (N := 44) [100, 101, 102] 99 ([(0, .t (.v (.pointer (some ⟨bm, 0, none⟩)))), (1, .t (.v (.pointer (some ⟨bc, 0, none⟩)))), (2, .t (T.ints b))]) ([(100, .obox (.pointer (some ⟨bm, 0, none⟩)) (rS pv iv most s.m.fuel 0 s.m)), (101, .obox (.pointer (some ⟨bc, 0, none⟩)) (gC fn s.vars s.off s.res 0 0 false (byP bb s.by'))), (102, byK bb q s.by'), (99, .ro (pv :: iv :: xv) (T.Funcs p.funcs :: T.ints inp :: xt))]) Z Z Z Z (by decide) (by decide) Z (fun w0 G F0 => ?_);refine nY Z (AN (Le.openNew (u := 100) 1100 Z Z Z Z Z) (nY Z (AN (Le.named (t := 0) (u := 100) 1100 Z Z) (nY Z (AN (Le.openNew (u := 101) 1101 Z Z Z Z Z) (nY Z (AN (Le.named (t := 1) (u := 101) 1101 Z Z) (nY Z (sG (eK 2 Z (nB (sQ (sG (eZ Z (evE ?_)))))))))))))));refine eZ Z (nB (AF ?_));refine lK (α := Int × Blk × Blk × Blk) [0, 1, 12, 13] [99, 1100, 1101] (fun x => [(14, .t (.int (x.1)))]) (fun x => [(100, (x.2.1)), (101, (x.2.2.1)), (102, (x.2.2.2))]) (fun x => BlI p inp f L b s pv iv (byP bb s.by') (byP bb s.by') q most fn (x.1) (x.2.1) (x.2.2.1) (x.2.2.2)) (fun x => Int.toNat (b.length - (x.1))) (0, .box (rS pv iv most s.m.fuel 0 s.m), .box (gC fn s.vars s.off s.res 0 0 false (byP bb s.by')), .obox (byP bb s.by') (gC q.fn q.vars q.off q.res (hH s.by') (nH s.by') (xH s.by') q.bp)) ?_ (fun x hx => ?_)
 ·exact ⟨s, by omega, by omega, Sx.to.refl hs (by omega) (by omega), rfl, rfl, rfl, rfl⟩
 obtain ⟨k, b1, b2, b3⟩ := x
 obtain ⟨s1, hk0, hk1, hto, hex, hb1, hb2, hb3⟩ := hx
 dsimp only at hk0 hk1 hto hex hb1 hb2 hb3 ⊢;subst hb1 hb2 hb3;refine nY Z (sG (eZ Z (nB (sQ ?_))));refine AC Z (fun h1 => ?_) (fun h1 => ?_)
 ·
  simp only [HS] at h1;refine AD (tN (sQ (AF (sG ?_))))
  have hkl : k < b.length := by omega
  have hbk := hb (b[k.toNat]'(by omega)) (Ss _)
  have hmem : BK f (b[k.toNat]'(by omega)) ∈ f.stmts := by rw [← Dc (by omega)]; exact Ss _
  have hfu : s1.m.fuel ≤ s.m.fuel := hto.le.1
  have hft : s1.m.trace.length + s1.m.fuel ≤ s.m.trace.length + s.m.fuel := hto.le.2.1
  have hfo : s1.off.length + s1.m.fuel ≤ s.off.length + s.m.fuel := hto.offl
  have hdp : s1.m.deep = s.m.deep := hto.deep (by omega)
  obtain ⟨R, hR⟩ : ∃ R, R = L.stmt f (BK f (b[k.toNat]'(by omega))) s1 := ⟨_, rfl⟩
  have hok1 := hL.stmt f hfm _ hmem s1 hto.ok
  rw [← hR] at hok1
  have hh0 := hok1.h0
  have hCa := hC fn f (BK f (b[k.toNat]'(by omega))) s1 bm bc bb q pv iv xv xt h0 h1' hfd hmem hto.ok (by omega) (by omega) (by omega) (by omega) (by omega)
  unfold byK at hCa;rw [← hR, ← Dc (f := f) (n := b[k.toNat]'(by omega)) (by omega), HW (bb := bb) hto.by'] at hCa;refine iY (k := ?_);refine eK 2 Z (nB (sQ (AX [[100, 101], [100, 101], [], [], [], [], [], [], [], [], [], [], [], [], [], [], [], [], [], [], [], [], []] Ai (by kernel_rfl) (BJ (QG_ev tys Z Z (AA Z) Z (AE (BJ (QG_ev tys Z Z (AA Z) Z (AE (AM (QG_ev tys Z Z (AA Z) Z (AE (AM (Ax rfl Z (AA Z) Z Z Z (AE ?_)))))))))))))));refine AQ Z (AM (QG_ev tys Z Z (AA Z) Z (AE (AM (QG_ev tys Z Z (AA Z) Z (AE (AM (Pi tys 99 0 Z Z (AA Z) Z Z Z Z (AE (AM (QG_ev tys Z Z (AA Z) Z (AE (AQ Z (AM (Ax rfl Z (AA Z) Z Z Z ?_)))))))))))))));refine AE (AM (QG_ev tys Z Z (AA Z) Z (AE (AM (QG_ev tys Z Z (AA Z) Z (AE (BJ (Pj tys Z Z (AA Z) Z Z Z Z Z Z Z h0 _ hget (AE (AQ Z (AM (QG_ev tys Z Z (AA Z) Z (AE (AM (QG_ev tys Z Z (AA Z) Z ?_)))))))))))))));refine AE (AM (QG_ev tys Z Z (AA Z) Z (AE (BJ (Pj tys Z Z (AA Z) Z Z Z Z Z Z Z (by omega) _ (FB _ _ (by omega) (by omega)) (AE (AQ Z (QH_ev2 tys (u1 := 100) (u2 := 101) 1100 1101 Z Z (AA Z) Z Z Z Z Z Z Z Z Z (AQ Z ?_)))))))));refine Bh (rid := 99) [100, 101, 102] Z Z (AA Z) Z Z (by repeat (first | exact ResP.done | refine ResP.pin0 1100 Z ?_ | refine ResP.pin0 1101 Z ?_ | refine ResP.pin0 1102 Z ?_ | refine ResP.t ?_ | refine ResP.nil 1 ?_ | refine ResP.nil' ?_ | refine ResP.own ?_ | refine ResP.sl Z Z (by first | omega | (simp; omega)) ?_ | refine ResP.aggT (by repeat (first | exact ResP.done | refine ResP.t ?_)) ?_)) Z (by repeat (first | exact trivial | refine ⟨rfl, rfl, ?_⟩)) (by decide) (hCa) Z Z Z ?_;refine AM (QG_ev tys Z Z (AA Z) Z (AE (AM (QG_ev tys Z Z (AA Z) Z (AE (AQ Z (AM (QG_ev tys Z Z (AA Z) Z (AE (AM (QG_ev tys Z Z (AA Z) Z (AE (AM (QG_ev tys Z Z (AA Z) Z (AE ?_)))))))))))))));refine BP ?_;refine ⟨by kernel_rfl, ?_⟩;refine nZ Z (AB (Le.open (u := 100) 1100 Z Z Z Z) (nZ Z (AB (Le.open (u := 101) 1101 Z Z Z Z) (nZ Z (nA (eK 2 Z (nB ?_)))))));refine AC Z (fun h2 => ?_) (fun h2 => ?_)
  ·
   simp only [HS] at h2;refine sG (eK 4 Z (nB (AN (Le.close (u := 100) 1100 Z Z Z) (nY Z (AN (Le.close (u := 101) 1101 Z Z Z) (nY Z (rT (bR (tR (AR (bR (tR ?_))))))))))));refine eP [_, _, _] ?_ ?_
   ·(have he := I3 hk0 hkl hex hR (ML (by assumption)); exact GV (by rw [he]) (by rw [he]))
   ·(have he := I3 hk0 hkl hex hR (ML (by assumption)); rw [he]; rfl)
  simp only [HS] at h2;refine AD (bN (tN (rG (evI ?_))));refine eZ Z (oN ?_);refine lQ (_, _, _, _) ?_ ?_
  ·dsimp only
   exact BlI.next hk0 (by omega) hto hex hR hok1 (R8 (by assumption)) rfl rfl rfl rfl
  ·(show Int.toNat _ < Int.toNat _); omega
 simp only [HS] at h1;refine AS (tE (AP (AK (tN (sG (eK 2 Z (nB (AN (Le.close (u := 100) 1100 Z Z Z) (nY Z (AN (Le.close (u := 101) 1101 Z Z Z) (nY Z (rT ?_))))))))))));refine eP [_, _, _] ?_ ?_
 ·(have he := MZ (by omega) hex; exact GV (by rw [he]; rfl) (by rw [he]))
 ·(have he := MZ (by omega) hex; rw [he]; rfl)
open Go.Eng
def stS (p : Prog) (inp : List Int) (L : Lev) (f : Func) (t : Stmt) (s : Sx) : Int × Int × Sx := Gs L (paramsL p) inp f t s
section
variable {p : Prog} {inp : List Int} {f : Func} {L : Lev} {t : Stmt} {s : Sx} {R B : Int × Int × Sx} {v : Int}
theorem IB {m : Ms} (h : m.fuel = 0) : A6 m = m := by
 obtain ⟨u, fu, d, tr⟩ := m
 cases h;rfl
theorem st_0 (h : s.m.fuel = 0) : stS p inp L f t s = (5, 0, ⟨A6 s.m, s.vars, s.off, s.res, s.by'⟩) := by rw [stS, Gs, if_pos h, IB h]
theorem st_3 (hf : s.m.fuel ≠ 0) (h : t.kind = 3) : stS p inp L f t s = (0, 0, ⟨A6 s.m, s.vars, s.off ++ [t.n], s.res, s.by'⟩) := by rw [stS, Gs, if_neg hf, if_pos h]
theorem st_6 (hf : s.m.fuel ≠ 0) (h : t.kind = 6) : stS p inp L f t s = (3, 0, ⟨A6 s.m, s.vars, s.off, s.res, s.by'⟩) := by rw [stS, Gs, if_neg hf, if_neg (by omega), if_pos h]
theorem st_e (hf : s.m.fuel ≠ 0) (h3 : t.kind ≠ 3) (h6 : t.kind ≠ 6) (hR : R = exS p inp L t.ex ⟨A6 s.m, s.vars, s.off, s.res, s.by'⟩) (h0 : ¬ R.1 = 0) : stS p inp L f t s = R := by
 rw [stS, Gs, if_neg hf, if_neg h3, if_neg h6]
 have e : exprS L.cal (paramsL p) inp t.ex [] { s with m := A6 s.m } = R := hR.symm
 simp only [e, if_neg h0]
theorem Gv (hf : s.m.fuel ≠ 0) (h3 : t.kind ≠ 3) (h6 : t.kind ≠ 6) (hR : R = exS p inp L t.ex ⟨A6 s.m, s.vars, s.off, s.res, s.by'⟩) (h0 : R.1 = 0) : stS p inp L f t s = doS L f t R.2.1 R.2.2 := by
 rw [stS, Gs, if_neg hf, if_neg h3, if_neg h6]
 have e : exprS L.cal (paramsL p) inp t.ex [] { s with m := A6 s.m } = R := hR.symm
 simp only [e, if_pos h0]
theorem do_1 (h : t.kind = 1) : doS L f t v s = (0, 0, ⟨s.m, s.vars.set t.n.toNat v, s.off, s.res, s.by'⟩) := by rw [doS, if_pos h]
theorem do_2 (h : t.kind = 2) : doS L f t v s = (0, 0, ⟨⟨s.m.used, s.m.fuel, s.m.deep, s.m.trace ++ [v]⟩, s.vars, s.off, s.res, s.by'⟩) := by rw [doS, if_neg (by omega), if_pos h]
theorem do_4 (h : t.kind = 4) : doS L f t v s = (2, v, s) := by rw [doS, if_neg (by omega), if_neg (by omega), if_pos h]
theorem do_5 (h : t.kind = 5) : doS L f t v s = (1, 0, ⟨s.m, s.vars, s.off, v, s.by'⟩) := by rw [doS, if_neg (by omega), if_neg (by omega), if_neg (by omega), if_pos h]
theorem do_7t (h : t.kind = 7) (hv : v ≠ 0) : doS L f t v s = blS L f t.thn s := by rw [doS, if_neg (by omega), if_neg (by omega), if_neg (by omega), if_neg (by omega), if_pos h, if_pos hv]; rfl
theorem do_7e (h : t.kind = 7) (hv : ¬ v ≠ 0) : doS L f t v s = blS L f t.els s := by rw [doS, if_neg (by omega), if_neg (by omega), if_neg (by omega), if_neg (by omega), if_pos h, if_neg hv]; rfl
theorem SI (h : t.kind = 8) (hv : v = 0) : doS L f t v s = (0, 0, s) := by rw [doS, if_neg (by omega), if_neg (by omega), if_neg (by omega), if_neg (by omega), if_neg (by omega), if_pos h, if_pos hv]
theorem do_8b (h : t.kind = 8) (hv : ¬ v = 0) (hB : B = blS L f t.thn s) (h0 : ¬ B.1 = 0) : doS L f t v s = B := by
 rw [doS, if_neg (by omega), if_neg (by omega), if_neg (by omega), if_neg (by omega), if_neg (by omega), if_pos h, if_neg hv]
 have e : blockS (L.stmt f) f t.thn s = B := hB.symm
 simp only [e, if_neg h0]
theorem do_8s (h : t.kind = 8) (hv : ¬ v = 0) (hB : B = blS L f t.thn s) (h0 : B.1 = 0) : doS L f t v s = L.stmt f t B.2.2 := by
 rw [doS, if_neg (by omega), if_neg (by omega), if_neg (by omega), if_neg (by omega), if_neg (by omega), if_pos h, if_neg hv]
 have e : blockS (L.stmt f) f t.thn s = B := hB.symm
 simp only [e, if_pos h0]
theorem do_9 (h1 : ¬ t.kind = 1) (h2 : ¬ t.kind = 2) (h4 : ¬ t.kind = 4) (h5 : ¬ t.kind = 5) (h7 : ¬ t.kind = 7) (h8 : ¬ t.kind = 8) : doS L f t v s = (0, 0, s) := by rw [doS, if_neg h1, if_neg h2, if_neg h4, if_neg h5, if_neg h7, if_neg h8]
end
theorem putI (x v : Int) : (T.int x).put 0 [T.int v] = T.int v := rfl
theorem JP (p : Prog) (inp : List Int) (most n : Nat) (L : Lev) (hL : Ej p inp L) (hC : ∀ k, n = k + 1 → Ld p inp most k L) (hS : ∀ k, n = k + 1 → Lb p inp most k L) (hg : AZ p = true) (hp : p.ok 1048576) (hi : inp.length ≤ 1048576) (hmost : most ≤ 1048576) (f : Func) (t : Stmt) (s : Sx) (bm bc bb : Nat) (pv iv fbv fsv : Value) (xv : List Value) (xt : List T) (hf : f ∈ p.funcs) (ht : t ∈ f.stmts) (hs : s.ok p inp f) (hn : s.m.fuel ≤ n) (hn2 : s.m.fuel ≤ 1048576) (hti : s.m.trace.length + s.m.fuel ≤ 1048576) (hof : s.off.length + s.m.fuel ≤ 1048576) (hdm : s.m.deep ≤ most) : Proc Tryz.prog 149 [.t (.v (.pointer (some ⟨bm, 0, none⟩))), .t (.v (.pointer (some ⟨bc, 0, none⟩))), .t t.tt] ((pv :: iv :: fsv :: xv)) ((T.Funcs p.funcs :: T.ints inp :: T.Stmts f.stmts :: xt)) [.obox (.pointer (some ⟨bm, 0, none⟩)) (mS pv iv most s.m), .obox (.pointer (some ⟨bc, 0, none⟩)) (cS f fbv fsv s.vars s.off s.res s.m.deep bb), .obox (.pointer (some ⟨bb, 0, none⟩)) (bS s.by')] (.agg [.t (.int (stS p inp L f t s).1), .t (.int (eV (stS p inp L f t s).1 (stS p inp L f t s).2.1))]) [.obox (.pointer (some ⟨bm, 0, none⟩)) (mS pv iv most (stS p inp L f t s).2.2.m), .obox (.pointer (some ⟨bc, 0, none⟩)) (cS f fbv fsv (stS p inp L f t s).2.2.vars (stS p inp L f t s).2.2.off (stS p inp L f t s).2.2.res s.m.deep bb), .obox (.pointer (some ⟨bb, 0, none⟩)) (bS (stS p inp L f t s).2.2.by')] := by
 have hgv := CK hg hf
 have hsh := hgv.2.2.2.2.1
 have hst : BM f.vars (paramsL p) t = true := by obtain ⟨q, hq, rfl⟩ := TF hf; obtain ⟨i, hi, rfl⟩ := TF ht; exact Iu (CE hg hq) hi
 obtain ⟨hk1, hk2, _⟩ := Ip hsh ht
 have hfo : f.ok 1048576 := hp.1.2 f hf
 have hto : t.ok 1048576 := hfo.2.1.2 t ht
 have hl1 : t.thn.length ≤ 1048576 := hto.2.1
 have hl2 : t.els.length ≤ 1048576 := hto.2.2.1
 have hfl : f.stmts.length ≤ 1048576 := hfo.2.1.1
 refine Proc.intro tys Tryz.func149 Z Z (N := 113) [100, 101, 102] 99 ([(0, .t (.v (.pointer (some ⟨bm, 0, none⟩)))), (1, .t (.v (.pointer (some ⟨bc, 0, none⟩)))), (2, .t t.tt)]) ([(100, .obox (.pointer (some ⟨bm, 0, none⟩)) (mS pv iv most s.m)), (101, .obox (.pointer (some ⟨bc, 0, none⟩)) (cS f fbv fsv s.vars s.off s.res s.m.deep bb)), (102, .obox (.pointer (some ⟨bb, 0, none⟩)) (bS s.by')), (99, .ro (pv :: iv :: fsv :: xv) (T.Funcs p.funcs :: T.ints inp :: T.Stmts f.stmts :: xt))]) Z Z Z Z (by decide) (by decide) Z (fun w0 G F0 => ?_);refine nY Z (AN (Le.openNew (u := 100) 1100 Z Z Z Z Z) (nY Z (AN (Le.named (t := 0) (u := 100) 1100 Z Z) (nY Z (AN (Le.openNew (u := 101) 1101 Z Z Z Z Z) (nY Z (AN (Le.named (t := 1) (u := 101) 1101 Z Z) (nY Z (sG (AV Z Z (AA Z) Z Z (nZ Z (AG tys Z Z (AA Z) Z Z Z (nZ Z (nB (sQ ?_)))))))))))))));refine sG (eZ Z (AB (Le.close (u := 100) 1100 Z Z Z) (nZ Z ?_)));refine cP [100] (hm := (Kc bm pv iv most s.m (pv :: iv :: fsv :: xv) (T.Funcs p.funcs :: T.ints inp :: T.Stmts f.stmts :: xt) hn2)) (k := ?_);refine nZ Z (AB (Le.open (u := 100) 1100 Z Z Z Z) (nZ Z (eZ Z (nB ?_))));refine AC Z (fun h1 => ?_) (fun h1 => ?_)
 ·
  simp only [HS] at h1;refine sG ?_
  have hout := st_0 (p := p) (inp := inp) (L := L) (f := f) (t := t) (s := s) (by simp_all)
  refine AI tys Z Z (AA Z) Z Z Z (by kernel_rfl) Z Z Z Z Z Z (sT Z (nZ Z (nB (AN (Le.close (u := 100) 1100 Z Z Z) (nY Z (AN (Le.close (u := 101) 1101 Z Z Z) (nY Z (rT (tR ?_)))))))));refine eP [_, _, _] ?_ ?_
  ·exact Ks (by rw [hout] <;> rfl) (by rw [hout] <;> rfl)
  ·rw [hout]
   rfl
 simp only [HS] at h1;refine AD (tN (sQ (sG ?_)))
 have hfz : s.m.fuel ≠ 0 := by simp_all
 refine eK 2 Z (nB (AF (sQ (kY [0,1,5,6,15] Z (rG (eK 2 Z (nB ?_)))))));refine AC Z (fun h2 => ?_) (fun h2 => ?_)
 ·
  simp only [HS] at h2;refine sQ ?_
  have hout := st_3 (p := p) (inp := inp) (L := L) (f := f) hfz (by assumption)
  refine AX [[101], [], [], [], [], [101], [101], [101], [], [], [], []] Ai (by kernel_rfl) (BJ (QG_ev tys Z Z (AA Z) Z (AE (AM (QG_ev tys Z Z (AA Z) Z (AE (AM (Ax rfl Z (AA Z) Z Z Z (AE (AM (QG_ev tys Z Z (AA Z) Z (AE (AQ Z (Fy tys Z Z (AA Z) Z Z Z Z Z Z (BJ ?_)))))))))))))));refine QG_ev tys Z Z (AA Z) Z (AE (BJ (QG_ev tys Z Z (AA Z) Z (AE (BJ ?_)))));refine BV tys [T.int t.n] Z Z (AA Z) Z Z Z Z Z (AA Z) (by repeat (first | exact PartsOk.nil' | refine PartsOk.cons' rfl (by repeat (first | exact AbsL.nil' | refine AbsL.v' ?_ | refine AbsL.own' ?_ | refine AbsL.none' ?_)) Z ?_)) Z Z Z (by decide) ?_;refine AE (AQ Z (AM (EM tys Z Z (AA Z) Z Z Z Z Z Z Z Z Z ((fun x hx => by rw [TB] at hx; subst hx; exact ⟨rfl, fun z hz => ⟨_, by simpa [T.cells] using hz⟩⟩)) (by simp; omega) (by decide) Z ?_)));refine AE (AM (Ax rfl Z (AA Z) Z Z Z (AE (AM (QG_ev tys Z Z (AA Z) Z (AE (FV tys Z Z Z Z Z Z Z Z Z (S4 Z) (AQ Z (BP ?_)))))))));refine ⟨by kernel_rfl, ?_⟩;refine nZ Z (nA (AI tys Z Z (AA Z) Z Z Z (by kernel_rfl) Z Z Z Z Z Z (sT Z (nZ Z (nB (AN (Le.close (u := 100) 1100 Z Z Z) (nY Z (AN (Le.close (u := 101) 1101 Z Z Z) (nY Z (rT (bR (tR ?_))))))))))));refine eP [_, _, _] ?_ ?_
  ·exact Ks (by rw [hout] <;> rfl) (by rw [hout] <;> rfl)
  ·rw [hout]
   simp [mS, cS, bS, T.ints, putI, Sh, A6]
   done
 simp only [HS] at h2;refine sG (eK 2 Z (nB ?_));refine AC Z (fun h3 => ?_) (fun h3 => ?_)
 ·
  simp only [HS] at h3;refine sG ?_
  have hout := st_6 (p := p) (inp := inp) (L := L) (f := f) hfz (by assumption)
  refine AI tys Z Z (AA Z) Z Z Z (by kernel_rfl) Z Z Z Z Z Z (sT Z (nZ Z (nB (AN (Le.close (u := 100) 1100 Z Z Z) (nY Z (AN (Le.close (u := 101) 1101 Z Z Z) (nY Z (rT (bR (tR ?_))))))))));refine eP [_, _, _] ?_ ?_
  ·exact Ks (by rw [hout] <;> rfl) (by rw [hout] <;> rfl)
  ·rw [hout]
   rfl
 simp only [HS] at h3;refine AD (bN (tN (sG ?_)))
 have hk3 : t.kind ≠ 3 := by assumption
 have hk6 : t.kind ≠ 6 := by assumption
 obtain ⟨k, hk⟩ : ∃ k, n = k + 1 := ⟨n - 1, by omega⟩
 have hb := hs.burn hfz
 obtain ⟨mx, hru⟩ := Gt hst hk3 hk6
 obtain ⟨R, hR⟩ : ∃ R, R = exS p inp L t.ex ⟨A6 s.m, s.vars, s.off, s.res, s.by'⟩ := ⟨_, rfl⟩
 have he := Gm hL hg (pile := []) hb.ok (l := t.ex) (mx := 0) (by simpa using hru)
 have hbf : (A6 s.m).fuel = s.m.fuel - 1 := rfl
 have hbt : (A6 s.m).trace.length = s.m.trace.length := rfl
 have hbd : (A6 s.m).deep = s.m.deep := rfl
 have hE := O0 p inp most k L hL (hC k hk) hg hp hi f hf t.ex (JQ hst) ⟨mx, hru⟩ ⟨A6 s.m, s.vars, s.off, s.res, s.by'⟩ hb.ok (by dsimp only; omega) (by dsimp only; omega) (by dsimp only; omega) (by dsimp only; omega) hmost bm bc bb pv iv fbv fsv (fsv :: xv) (T.Stmts f.stmts :: xt)
 change Sx.to p inp f (exS p inp L t.ex ⟨A6 s.m, s.vars, s.off, s.res, s.by'⟩).1 _ (exS p inp L t.ex ⟨A6 s.m, s.vars, s.off, s.res, s.by'⟩).2.2 at he;rw [← hR] at hE he
 have he0 := he.h0
 obtain ⟨v, hv⟩ : ∃ v, v = if R.1 = 0 then R.2.1 else 0 := ⟨_, rfl⟩
 rw [← hv] at hE;refine eK 4 Z (AB (Le.close (u := 100) 1100 Z Z Z) (nZ Z (AB (Le.close (u := 101) 1101 Z Z Z) (nZ Z ?_))));refine cP [100,101,102] (hm := (hE)) (k := ?_);refine nZ Z (AB (Le.open (u := 100) 1100 Z Z Z Z) (nZ Z (AB (Le.open (u := 101) 1101 Z Z Z Z) (nZ Z (kZ [0,1,5,6,38] Z (eZ Z (WO_evF tys Z Z (AA Z) (d := .t _) Z (nZ Z (AW Z Z (AA Z) Z Z Z Z ?_)))))))))
 first | refine AB (Le.adoptE (u := 40) 40 rfl (by first | exact Ec | exact rfl)) ?_ | skip
 refine nZ Z (AG tys Z Z (AA Z) Z Z Z (nZ Z (eZ Z (sT Z (nZ Z (nB (sQ (sG (eK 3 Z (kZ [0,1,5,6,7,8,43] Z (nB ?_)))))))))));refine AC Z (fun h4 => ?_) (fun h4 => ?_)
 ·
  simp only [HS] at h4;refine sG ?_
  have hout := st_e (p := p) (inp := inp) (L := L) (f := f) hfz hk3 hk6 hR (by omega)
  refine eZ Z ?_
  try refine AB (Le.freeze (u := 44) rfl) ?_
  refine nZ Z (sT Z (nZ Z (nB (AN (Le.close (u := 100) 1100 Z Z Z) (nY Z (AN (Le.close (u := 101) 1101 Z Z Z) (nY Z (rT (tR ?_)))))))));refine eP [_, _, _] ?_ ?_
  ·exact Ks (by rw [hout] <;> rfl) (by rw [hout] <;> rfl)
  ·rw [hout]
   rfl
 simp only [HS] at h4;refine AD (tN (sQ (sG ?_)))
 have hz : R.1 = 0 := by omega
 have hv : v = R.2.1 := by rw [hv, if_pos hz]
 subst hv
 have hok2 := he.ok
 have hf2 : R.2.2.m.fuel ≤ s.m.fuel - 1 := he.le.1
 have ht2 : R.2.2.m.trace.length + R.2.2.m.fuel ≤ s.m.trace.length + (s.m.fuel - 1) := he.le.2.1
 have ho2 : R.2.2.off.length + R.2.2.m.fuel ≤ s.off.length + (s.m.fuel - 1) := he.offl
 have hd2 : R.2.2.m.deep = s.m.deep := he.deep (by omega)
 have hvl : R.2.2.vars.length = f.vars.toNat := hok2.vars
 refine eK 2 Z (nB (AF (sG (eK 2 Z (nB ?_)))));refine AC Z (fun h5 => ?_) (fun h5 => ?_)
 ·
  simp only [HS] at h5
  have hk1' : t.kind = 1 := by assumption
  have hn1 : 0 ≤ t.n ∧ t.n ≤ f.vars - 1 := by have := hst; grind [BM, Ap]
  have hout := (Gv (f := f) hfz hk3 hk6 hR hz).trans (do_1 hk1')
  refine AN (Le.adoptBox (u := 101) (j := 4) (id := 191) Z Z Z) (nY Z (AX [[], [], [], [], [], [], [], [], []] Ai (by kernel_rfl) (AM (QG_ev tys Z Z (AA Z) Z (AE (AM (Ax rfl Z (AA Z) Z Z Z (AE (AM (QG_ev tys Z Z (AA Z) Z (AE (AM (QG_ev tys Z Z (AA Z) Z (AE (AQ Z ?_)))))))))))))));refine AM (QG_ev tys Z Z (AA Z) Z (AE (AM (QG_ev tys Z Z (AA Z) Z (AE (AM (QG_ev tys Z Z (AA Z) Z (AE (BJ (DX tys Z Z (AA Z) Z Z Z Z Z Z Z Z hn1.1 (by rw [Sj, hvl]; omega) ?_))))))))));refine AE (AQ Z ?_);refine Fx tys 10008 [T.int R.2.1] Z Z Z Z Z Z (DT _ _ hn1.1 (by rw [hvl]; omega)) Z Z (by repeat (first | exact AbsL.nil' | refine AbsL.v' ?_)) Z (by decide) (S4 Z) ?_;refine BP ?_;refine ⟨by kernel_rfl, ?_⟩;refine nZ Z (AB (Le.gatherBox (u := 101) (j := 4) (id := 191) Z Z Z (by simp) Z) ?_);refine nZ Z (oN (bN (tN (sG (AI tys Z Z (AA Z) Z Z Z (by kernel_rfl) Z Z Z Z Z Z (sT Z (nZ Z (nB (AN (Le.close (u := 100) 1100 Z Z Z) (nY Z (AN (Le.close (u := 101) 1101 Z Z Z) (nY Z (rT ?_)))))))))))));refine eP [_, _, _] ?_ ?_
  ·exact Ks (by rw [hout] <;> rfl) (by rw [hout] <;> rfl)
  ·rw [hout]
   simp [mS, cS, bS, T.ints, putI, Sh, A6]
   done
 simp only [HS] at h5;refine sG (eK 2 Z (nB ?_));refine AC Z (fun h6 => ?_) (fun h6 => ?_)
 ·
  simp only [HS] at h6;refine rG ?_
  have hout := (Gv (f := f) hfz hk3 hk6 hR hz).trans (do_2 (by assumption))
  refine eK 2 Z (AJ rfl Z (AA Z) Z Z Z (kZ [6,7,59,61] Z (eZ Z (WO_loadOwn tys Z Z (AA Z) Z Z Z Z Z Z (AB (Le.adoptE (u := 63) 63 Z Z) (nZ Z (eZ Z (bZ [T.int R.2.1] ?_))))))));refine nZ Z (AH tys Z Z (AA Z) Z Z Z Z Z (.own Z (by first | omega | (simp only [Sk]; omega))) Z (.own Z (by first | decide | omega)) (by decide) (by simp; omega) (by decide) Z ?_);refine nZ Z (AB (Le.gather (u := 66) (id := 63) Z Z (by first | (simp; done) | (simp; omega) | omega)) ?_);refine nZ Z (AJ rfl Z (AA Z) Z Z Z (eZ Z (sT Z (nZ Z (oN (bN (tN (sQ (kY [6] Z (rG (AI tys Z Z (AA Z) Z Z Z (by kernel_rfl) Z Z Z Z Z Z (sT Z (nZ Z (nB (AN (Le.close (u := 100) 1100 Z Z Z) ?_)))))))))))))));refine nY Z (AN (Le.close (u := 101) 1101 Z Z Z) (nY Z (rT ?_)));refine eP [_, _, _] ?_ ?_
  ·exact Ks (by rw [hout] <;> rfl) (by rw [hout] <;> rfl)
  ·rw [hout]
   simp [mS, cS, bS, T.ints, putI, Sh, A6]
   done
 simp only [HS] at h6;refine sG (eK 2 Z (nB ?_));refine AC Z (fun h7 => ?_) (fun h7 => ?_)
 ·
  simp only [HS] at h7;refine sQ (kY [6,7] Z (rG ?_))
  have hout := (Gv (f := f) hfz hk3 hk6 hR hz).trans (do_4 (by assumption))
  refine eZ Z (AI tys Z Z (AA Z) Z Z Z (by kernel_rfl) Z Z Z Z Z Z (sT Z (nZ Z (nB (AN (Le.close (u := 100) 1100 Z Z Z) (nY Z (AN (Le.close (u := 101) 1101 Z Z Z) (nY Z (rT (bR (tR ?_)))))))))));refine eP [_, _, _] ?_ ?_
  ·exact Ks (by rw [hout] <;> rfl) (by rw [hout] <;> rfl)
  ·rw [hout]
   rfl
 simp only [HS] at h7;refine sQ (kY [0,1,5,6,7,46] Z (rG (eK 2 Z (nB ?_))));refine AC Z (fun h8 => ?_) (fun h8 => ?_)
 ·
  simp only [HS] at h8;refine sG ?_
  have hout := (Gv (f := f) hfz hk3 hk6 hR hz).trans (do_5 (by assumption))
  refine eK 2 Z (AJ rfl Z (AA Z) Z Z Z (eZ Z (sT Z (nZ Z (nB (sQ (kY [6] Z (rG (AI tys Z Z (AA Z) Z Z Z (by kernel_rfl) Z Z Z Z Z Z (sT Z (nZ Z (nB (AN (Le.close (u := 100) 1100 Z Z Z) (nY Z (AN (Le.close (u := 101) 1101 Z Z Z) ?_)))))))))))))));refine nY Z (rT (bR (tR ?_)));refine eP [_, _, _] ?_ ?_
  ·exact Ks (by rw [hout] <;> rfl) (by rw [hout] <;> rfl)
  ·rw [hout]
   rfl
 simp only [HS] at h8;refine sG (eK 2 Z (nB ?_));refine AC Z (fun h9 => ?_) (fun h9 => ?_)
 ·
  simp only [HS] at h9;refine sQ (sG (eK 2 Z (nB ?_)));refine AC Z (fun h10 => ?_) (fun h10 => ?_)
  ·
   simp only [HS] at h10;refine sG ?_
   have hout := (Gv (f := f) hfz hk3 hk6 hR hz).trans (do_7t (by assumption) (by omega))
   have hB := EH p inp most k L hL (hS k hk) f hf hfl t.thn hk1 hl1 R.2.2 hok2 (by omega) (by omega) (by omega) (by omega) (by omega) bm bc bb pv iv fbv fsv xv xt
   rw [hd2] at hB;refine eK 3 Z (kZ [0,1,5,6,84,85,86] Z (eZ Z (AB (Le.close (u := 100) 1100 Z Z Z) (nZ Z (AB (Le.close (u := 101) 1101 Z Z Z) (nZ Z ?_))))));refine cP [100,101,102] (hm := (hB)) (k := ?_);refine nZ Z (AB (Le.open (u := 100) 1100 Z Z Z Z) (nZ Z (AB (Le.open (u := 101) 1101 Z Z Z Z) (nZ Z (sT Z (nZ Z (nB (AN (Le.close (u := 100) 1100 Z Z Z) (nY Z (AN (Le.close (u := 101) 1101 Z Z Z) (nY Z (rT (tR (bR (tR ?_)))))))))))))));refine eP [_, _, _] ?_ ?_
   ·exact Ks (by rw [hout] <;> rfl) (by rw [hout] <;> rfl)
   ·rw [hout]
    rfl
  simp only [HS] at h10;refine AD (tN (sG ?_))
  have hout := (Gv (f := f) hfz hk3 hk6 hR hz).trans (do_7e (by assumption) (by omega))
  have hB := EH p inp most k L hL (hS k hk) f hf hfl t.els hk2 hl2 R.2.2 hok2 (by omega) (by omega) (by omega) (by omega) (by omega) bm bc bb pv iv fbv fsv xv xt
  rw [hd2] at hB;refine eK 3 Z (kZ [6,89,90,91] Z (eZ Z (AB (Le.close (u := 100) 1100 Z Z Z) (nZ Z (AB (Le.close (u := 101) 1101 Z Z Z) (nZ Z ?_))))));refine cP [100,101,102] (hm := (hB)) (k := ?_);refine nZ Z (AB (Le.open (u := 100) 1100 Z Z Z Z) (nZ Z (AB (Le.open (u := 101) 1101 Z Z Z Z) (nZ Z (sT Z (nZ Z (nB (AN (Le.close (u := 100) 1100 Z Z Z) (nY Z (AN (Le.close (u := 101) 1101 Z Z Z) (nY Z (rT (bR (tR ?_))))))))))))));refine eP [_, _, _] ?_ ?_
  ·exact Ks (by rw [hout] <;> rfl) (by rw [hout] <;> rfl)
  ·rw [hout]
   rfl
 simp only [HS] at h9;refine sG (eK 2 Z (nB ?_));refine AC Z (fun h10 => ?_) (fun h10 => ?_)
 ·
  simp only [HS] at h10;refine sQ (sG (eK 2 Z (nB ?_)));refine AC Z (fun h11 => ?_) (fun h11 => ?_)
  ·
   simp only [HS] at h11;refine sQ (kY [0,1,5,6] Z (rG ?_))
   have hout := (Gv (f := f) hfz hk3 hk6 hR hz).trans (SI (by assumption) (by omega))
   refine AI tys Z Z (AA Z) Z Z Z (by kernel_rfl) Z Z Z Z Z Z (sT Z (nZ Z (nB (AN (Le.close (u := 100) 1100 Z Z Z) (nY Z (AN (Le.close (u := 101) 1101 Z Z Z) (nY Z (rT (tR (bR (tR ?_)))))))))));refine eP [_, _, _] ?_ ?_
   ·exact Ks (by rw [hout] <;> rfl) (by rw [hout] <;> rfl)
   ·rw [hout]
    rfl
  simp only [HS] at h11;refine AD (tN (sQ (sQ (kY [0,1,5,6] Z (rG ?_)))))
  have hB := EH p inp most k L hL (hS k hk) f hf hfl t.thn hk1 hl1 R.2.2 hok2 (by omega) (by omega) (by omega) (by omega) (by omega) bm bc bb pv iv fbv fsv xv xt
  have hb2 := Bw (hL.stmt _ hf) hk1 hok2
  obtain ⟨B, hBd⟩ : ∃ B, B = blS L f t.thn R.2.2 := ⟨_, rfl⟩
  change Sx.to p inp f (blS L f t.thn R.2.2).1 _ (blS L f t.thn R.2.2).2.2 at hb2;rw [hd2, ← hBd] at hB;rw [← hBd] at hb2
  have hB0 := hb2.h0
  refine eK 4 Z (AB (Le.close (u := 100) 1100 Z Z Z) (nZ Z (AB (Le.close (u := 101) 1101 Z Z Z) (nZ Z ?_))));refine cP [100,101,102] (hm := (hB)) (k := ?_);refine nZ Z (AB (Le.open (u := 100) 1100 Z Z Z Z) (nZ Z (AB (Le.open (u := 101) 1101 Z Z Z Z) (nZ Z (AG tys Z Z (AA Z) Z Z Z (nZ Z (sT Z (nZ Z (nB (sQ (kY [0,1,5,6,9] Z (rG (eK 3 Z (nB ?_))))))))))))));refine AC Z (fun h12 => ?_) (fun h12 => ?_)
  ·
   simp only [HS] at h12;refine sG ?_
   have hout := (Gv (f := f) hfz hk3 hk6 hR hz).trans (do_8b (by assumption) (by omega) hBd (by omega))
   refine eZ Z ?_
   try refine AB (Le.freeze (u := 107) rfl) ?_
   refine nZ Z (sT Z (nZ Z (nB (AN (Le.close (u := 100) 1100 Z Z Z) (nY Z (AN (Le.close (u := 101) 1101 Z Z Z) (nY Z (rT (tR (bR (tR ?_)))))))))));refine eP [_, _, _] ?_ ?_
   ·exact Ks (by rw [hout] <;> rfl) (by rw [hout] <;> rfl)
   ·rw [hout]
    rfl
  simp only [HS] at h12;refine AD (tN (sG ?_))
  have hB1 : B.1 = 0 := by omega
  have hout := (Gv (f := f) hfz hk3 hk6 hR hz).trans (do_8s (by assumption) (by omega) hBd hB1)
  have hd3 : B.2.2.m.deep = s.m.deep := (hb2.deep (by omega)).trans hd2
  have hf3 : B.2.2.m.fuel ≤ R.2.2.m.fuel := hb2.le.1
  have ht3 : B.2.2.m.trace.length + B.2.2.m.fuel ≤ R.2.2.m.trace.length + R.2.2.m.fuel := hb2.le.2.1
  have ho3 : B.2.2.off.length + B.2.2.m.fuel ≤ R.2.2.off.length + R.2.2.m.fuel := hb2.offl
  have hW := hS k hk f t B.2.2 bm bc bb pv iv fbv fsv xv xt hf ht hb2.ok (by omega) (by omega) (by omega) (by omega) (by omega)
  rw [hd3] at hW;refine eK 3 Z ?_
  try refine AB (Le.freeze (u := 110) rfl) ?_
  refine nZ Z (AB (Le.close (u := 100) 1100 Z Z Z) (nZ Z (AB (Le.close (u := 101) 1101 Z Z Z) (nZ Z ?_))));refine cP [100,101,102] (hm := (hW)) (k := ?_);refine nZ Z (AB (Le.open (u := 100) 1100 Z Z Z Z) (nZ Z (AB (Le.open (u := 101) 1101 Z Z Z Z) (nZ Z (sT Z (nZ Z (nB (AN (Le.close (u := 100) 1100 Z Z Z) (nY Z (AN (Le.close (u := 101) 1101 Z Z Z) (nY Z (rT (bR (tR ?_))))))))))))));refine eP [_, _, _] ?_ ?_
  ·exact Ks (by rw [hout] <;> rfl) (by rw [hout] <;> rfl)
  ·rw [hout]
   rfl
 simp only [HS] at h10;refine AD (bN (tN (sG (AI tys Z Z (AA Z) Z Z Z (by kernel_rfl) Z Z Z Z Z Z (sT Z (nZ Z (nB (AN (Le.close (u := 100) 1100 Z Z Z) (nY Z (AN (Le.close (u := 101) 1101 Z Z Z) (nY Z (rT ?_))))))))))));refine eP [_, _, _] ?_ ?_
 ·(have hout := (Gv (f := f) hfz hk3 hk6 hR hz).trans (do_9 (by assumption) (by assumption) (by assumption) (by assumption) (by assumption) (by assumption)); exact Ks (by rw [hout] <;> rfl) (by rw [hout] <;> rfl))
 ·(have hout := (Gv (f := f) hfz hk3 hk6 hR hz).trans (do_9 (by assumption) (by assumption) (by assumption) (by assumption) (by assumption) (by assumption)); rw [hout]; rfl)
theorem stmtC_next {p : Prog} {inp : List Int} {most n : Nat} {L : Lev} (hL : Ej p inp L) (hC : ∀ k, n = k + 1 → Ld p inp most k L) (hS : ∀ k, n = k + 1 → Lb p inp most k L) (hg : AZ p = true) (hp : p.ok 1048576) (hi : inp.length ≤ 1048576) (hmost : most ≤ 1048576) (L' : Lev) (hl : L'.stmt = Gs L (paramsL p) inp) : Lb p inp most n L' := by
 intro f t s bm bc bb pv iv fbv fsv xv xt hf ht hs hn hn2 hti hof hdm;rw [hl];exact JP p inp most n L hL hC hS hg hp hi hmost f t s bm bc bb pv iv fbv fsv xv xt hf ht hs hn hn2 hti hof hdm
end Go.Proofs.YtddfnpiikkilhaaGreat
