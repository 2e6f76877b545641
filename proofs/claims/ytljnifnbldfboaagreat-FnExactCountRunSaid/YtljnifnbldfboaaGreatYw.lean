/- Walks and laws of the claim. -/
import Derived.Test.YtljnifnbldfboaaGreatYk
import Derived.Test.YtljnifnbldfboaaGreatYg
import Derived.Test.YtljnifnbldfboaaGreatFq
import Derived.Test.YtljnifnbldfboaaGreatFa
set_option linter.unusedVariables false
set_option linter.unusedSimpArgs false
set_option maxRecDepth 10000
set_option maxHeartbeats 8000000
namespace Go.Proofs.YtljnifnbldfboaaGreat
open Go.Eng
open Go.Eng
def rowC (cs : List (List Int)) (fn : Int) : List Int := cs[fn.toNat]?.getD []
def Fw (cs : List (List Int)) (fn at' : Int) : List (List Int) := cs.set fn.toNat ((rowC cs fn).set at'.toNat (atI (rowC cs fn) at' + 1))
def Kz (im : Image) (inp : List Int) (most : Int) (s : Vm × List (List Int)) : Vm × List (List Int) :=
 if s.1.code = 0 then match s.1.fs[s.1.fs.length - 1]? with
  | some f => (A9 im inp most (s.1.fs.length - 1) f (insF im f) s.1, Fw s.2 f.fn f.at')
  | none => s
 else s
def Dj (im : Image) : List (List Int) := im.codes.map fun c => List.replicate c.ins.length 0
def iterC (im : Image) (inp : List Int) (most : Int) : Nat → Vm × List (List Int)
 | 0 => (GI im, Dj im)
 | n + 1 => Kz im inp most (iterC im inp most n)
theorem JM {im : Image} {inp : List Int} {most : Int} (h : runB im inp most = true) : GD im ∧ inp.length ≤ 10 ∧ 1 ≤ most ∧ most ≤ 12 := by
 unfold runB at h;simp only [Qd, decide_eq_true_eq] at h
 obtain ⟨a, b, _, d⟩ := h
 exact ⟨O6 a, by omega, d⟩
abbrev N8 (r : List Int) : T := .agg [T.ints r]
def rowZ (c : Code) : T := T.ints (List.replicate c.ins.length 0)
def mixZ (im : Image) (k : Nat) : List T := (im.codes.take k).map rowZ ++ List.replicate (im.codes.length - k) (T.list 1 [])
theorem Ml {im : Image} : mixZ im 0 = List.replicate im.codes.length (T.list 1 []) := by simp [mixZ]
theorem Ot {im : Image} {k : Nat} (h : k < im.codes.length) : (mixZ im k).set k (rowZ im.codes[k]) = mixZ im (k + 1) := by
 unfold mixZ;rw [List.set_append_right _ _ (by simp; omega), show im.codes.length - k = (im.codes.length - (k + 1)) + 1 from by omega, List.replicate_succ];simp only [Qc, Qk, RS (Nat.le_of_lt h), Nat.sub_self, List.set_cons_zero];rw [List.take_succ_eq_append_getElem h, List.map_append]
 simp
theorem Ov {im : Image} {k : Nat} (h : im.codes.length ≤ k) : mixZ im k = (Dj im).map T.ints := by
 simp [mixZ, Dj, rowZ, Qi h, Nat.sub_eq_zero_of_le h]
theorem OV {im : Image} : im.codes.map rowZ = (Dj im).map T.ints := by
 unfold Dj;rw [List.map_map];rfl
theorem Ou {im : Image} {k : Nat} (h : k < im.codes.length) : (mixZ im k)[k]? = some (T.list 1 []) := by
 unfold mixZ;rw [List.getElem?_append_right (by simp; omega), List.getElem?_replicate, if_pos (by simp; omega)]
structure Cnt (im : Image) (n : Int) (cs : List (List Int)) : Prop where
 len : cs.length = im.codes.length
 row : ∀ fn : Int, 0 ≤ fn → fn < im.codes.length → (rowC cs fn).length = (codeAt im fn).ins.length
 lo : ∀ fn i, 0 ≤ atI (rowC cs fn) i
 hi : ∀ fn i, atI (rowC cs fn) i ≤ n
theorem Ni {n : Nat} {i : Int} : atI (List.replicate n 0) i = 0 := by
 unfold atI;rw [List.getElem?_replicate]
 split <;> rfl
theorem Hy {im : Image} {fn : Int} (h1 : fn.toNat < im.codes.length) : rowC (Dj im) fn = List.replicate (im.codes[fn.toNat]).ins.length 0 := by
 unfold rowC Dj;rw [List.getElem?_map, List.getElem?_eq_getElem h1];rfl
theorem Ki {im : Image} : Cnt im 0 (Dj im) := by
 have hz : ∀ fn i, atI (rowC (Dj im) fn) i = 0 := fun fn i => by
  by_cases h : fn.toNat < im.codes.length
  ·rw [Hy h, Ni]
  ·unfold rowC Dj
   rw [List.getElem?_map, List.getElem?_eq_none (by omega)];rfl
 refine ⟨by simp [Dj], fun fn h0 h1 => ?_, fun fn i => by rw [hz]; exact Q8 0, fun fn i => by rw [hz]; exact Q8 0⟩;rw [Hy (by omega), Q5, Aa h0 h1]
theorem FR {cs : List (List Int)} {fn g a : Int} (h : fn.toNat < cs.length) : rowC (Fw cs fn a) g = if fn.toNat = g.toNat then (rowC cs fn).set a.toNat (atI (rowC cs fn) a + 1) else rowC cs g := by
 show (Fw cs fn a)[g.toNat]?.getD [] = _;unfold Fw;rw [List.getElem?_set];split
 ·rfl
 ·rfl
theorem atI_put {l : List Int} {a i v : Int} : atI (l.set a.toNat v) i = v ∨ atI (l.set a.toNat v) i = atI l i := by
 unfold atI;rw [List.getElem?_set];split
 ·split
  ·exact .inl rfl
  ·right; rename_i h; rw [List.getElem?_eq_none (by omega)]
 ·exact .inr rfl
theorem Kj {im : Image} {n fn a : Int} {cs : List (List Int)} (h : Cnt im n cs) (h1 : fn.toNat < im.codes.length) : Cnt im (n + 1) (Fw cs fn a) := by
 have hl := h.len
 refine ⟨by unfold Fw; rw [Qo]; exact h.len, fun g g0 g1 => ?_, fun g i => ?_, fun g i => ?_⟩
 ·rw [FR (by omega)]
  split
  ·rename_i e
   rw [Qo, ← h.row g g0 g1];unfold rowC; rw [e]
  ·exact h.row g g0 g1
 ·rw [FR (by omega)]
  have p1 := h.lo fn a
  split
  ·rcases atI_put (l := rowC cs fn) (a := a) (i := i) (v := atI (rowC cs fn) a + 1) with e | e
   ·rw [e]; omega
   ·rw [e]; exact h.lo fn i
  ·exact h.lo g i
 ·rw [FR (by omega)]
  have p1 := h.hi fn a
  split
  ·rcases atI_put (l := rowC cs fn) (a := a) (i := i) (v := atI (rowC cs fn) a + 1) with e | e
   ·rw [e]; omega
   ·rw [e]; have := h.hi fn i; omega
  ·have := h.hi g i; omega
theorem Pb {cs : List (List Int)} {fn : Int} (h : fn.toNat < cs.length) : (cs.map N8)[fn.toNat]? = some (N8 (rowC cs fn)) := by
 rw [List.getElem?_map, List.getElem?_eq_getElem h];unfold rowC;rw [List.getElem?_eq_getElem h];rfl
theorem M1 {l : List Int} {a : Int} (h0 : 0 ≤ a) (h1 : a < l.length) : (l.map T.int)[0 + a.toNat]? = some (T.int (atI l a)) := by
 rw [Qv, List.getElem?_map, List.getElem?_eq_getElem (by omega), BV h0 h1];rfl
theorem GK {cs : List (List Int)} : ∀ x, x ∈ cs.map N8 → (T.cells x).length = 1 := by
 intro x hx
 obtain ⟨r, _, rfl⟩ := RB.1 hx
 rfl
theorem rows_cells {cs : List (List Int)} : (cs.map T.ints).map T.cells = (cs.map N8).map T.cells := by
 rw [List.map_map, List.map_map];rfl
theorem Hw {cs : List (List Int)} {fn a : Int} {z z' : T} {q : Int} (hq : q = atI (rowC cs fn) a + 1) (hz : z' = .agg [.list 1 (((rowC cs fn).map T.int).set a.toNat (T.int q))]) : ((cs.map N8).set fn.toNat z).set fn.toNat z' = (Fw cs fn a).map N8 := by
 subst hz hq;rw [Q4];unfold Fw;rw [RR]
 congr 2
 show [T.list 1 _] = [T.list 1 _];rw [RR]
theorem PZ {im : Image} {inp : List Int} {most : Int} {n k : Nat} {v : Vm} {cs : List (List Int)} {f : Frame} (he : (v, cs) = iterC im inp most n) (hc : v.code = 0) (hk : v.fs[k]? = some f) (hkl : k = v.fs.length - 1) : (A9 im inp most k f (insF im f) v, Fw cs f.fn f.at') = iterC im inp most (n + 1) := by
 subst hkl;show _ = Kz im inp most (iterC im inp most n);rw [← he];simp only [Kz, hc, if_true, hk]
theorem IZ {im : Image} {inp : List Int} {most : Int} {n : Nat} (hc : (iterC im inp most n).1.code ≠ 0) : ∀ j, iterC im inp most (n + j) = iterC im inp most n
 | 0 => rfl
 | j + 1 => by
  show Kz im inp most (iterC im inp most (n + j)) = _;rw [IZ hc j, Kz, if_neg hc]
theorem Oy {im : Image} {inp : List Int} {most : Int} {n t : Nat} (h : n = t ∨ (n ≤ t ∧ (iterC im inp most n).1.code ≠ 0)) : iterC im inp most n = iterC im inp most t := by
 rcases h with h | ⟨h1, h2⟩
 ·rw [h]
 ·rw [show t = n + (t - n) from by omega, IZ h2]
noncomputable def countB (im : Image) (inp : List Int) (most ticks : Int) : Bool := runB im inp most && decide (0 ≤ ticks ∧ ticks ≤ 60000)
noncomputable def countL (im : Image) (inp : List Int) (most ticks : Int) : List (List Int) := if countB im inp most ticks = true then (iterC im inp most ticks.toNat).2 else []
theorem FG {im : Image} {inp : List Int} {most ticks : Int} (h : countB im inp most ticks = false) : [D.own (T.list 1 []), D.t (T.v (Value.bool false))] = [D.own (Fh (countL im inp most ticks)), D.t (T.bool (countB im inp most ticks))] := by
 unfold countL; rw [h]; rfl
theorem EU {im : Image} {inp : List Int} {most ticks n : Int} {v : Vm} {cs : List (List Int)} (h : countB im inp most ticks = true) (h0 : 0 ≤ n) (h1 : n ≤ ticks) (hc : Cnt im n cs) (hit : (v, cs) = iterC im inp most n.toNat) (hx : n = ticks ∨ v.code ≠ 0) :
  [D.own (T.list 1 (List.take im.codes.length (cs.map T.ints))), D.t (T.v (Value.bool true))] = [D.own (Fh (countL im inp most ticks)), D.t (T.bool (countB im inp most ticks))] := by
 have e : iterC im inp most n.toNat = iterC im inp most ticks.toNat := Oy (by
  rcases hx with hx | hx
  ·left; rw [hx]
  ·right; rw [← hit]; exact ⟨by omega, hx⟩)
 rw [Qi (by rw [Qc, hc.len]; exact Q0 _)];unfold countL;rw [h, if_pos rfl, ← e, ← hit]
open Go.Eng
theorem Lf (im : Image) (inp : List Int) (most ticks : Int) (hok : im.ok 1048576) (hl : inp.length ≤ 1048576) : Fun Tryz.prog 5 [.t im.tt, .t (T.ints inp), .t (T.int most), .t (T.int ticks)] (Ay [.own (Fh (countL im inp most ticks)), .t (.bool (countB im inp most ticks))]) := by
 refine Fun.begin tys Tryz.func5 Z Z (N := 86) [(0, .t im.tt), (1, .t (T.ints inp)), (2, .t (T.int most)), (3, .t (T.int ticks))] Z Z (fun w0 G F0 => ?_);refine sG (AZ Z Z (lt_of Z) Z Z (nZ Z (eK 2 Z (nB (sQ (sG (eZ Z ?_)))))))
 try refine WO_le (Le.freeze (u := 16) rfl) ?_
 refine nZ Z (eK 2 Z (AS ?_));refine ⟨_, JX im inp most hok hl, rfl, ?_⟩;refine eK 2 Z (kZ [1,2,3,4,8,9,21] Z ?_);refine gB (fun h1 => ?_) (fun h1 => ?_)
 ·
  simp only [HS] at h1;refine xK 3 Z (nB (A5 Z (sG (eK 2 Z (nB (W_le (Le.nilOwn (u := 8) 1 Z) (rT (tR (eR ?_)))))))))
  ·first
   | exact FG (by unfold countB; simp_all; done)
 simp only [HS] at h1;refine eZ Z (gY Z (AS ?_));refine ⟨_, BS _ _ _, rfl, ?_⟩;refine xK 2 Z (nB ?_);refine AC Z (fun h2 => ?_) (fun h2 => ?_)
 ·
  simp only [HS] at h2;refine sG (eK 2 Z (nB (W_le (Le.nilOwn (u := 8) 1 Z) (rT (tR (eR ?_))))))
  ·first
   | exact FG (by unfold countB; simp_all; done)
 simp only [HS] at h2;refine AD (tN (sQ ?_))
 obtain ⟨hgx, hil, hm1, hm2⟩ := JM h1
 have hxl1 := hgx.n0
 have hxl2 := hgx.n1
 obtain ⟨hz0, hG0⟩ := hgx.ok 0 (by decide) (by omega)
 have hz1 : 0 ≤ (codeAt im 0).vars ∧ (codeAt im 0).vars ≤ 1000 := by have := hG0.sized; omega
 have hz2 : (codeAt im 0).sites.length ≤ 1000 := by have := hG0.sized; omega
 have hcB : countB im inp most ticks = true := by unfold countB; simp_all
 refine rG (eK 2 Z (evE ?_));refine Ch tys (.list 1 []) _ Z Z (lt_of Z) Z Z Z Z Z (by repeat (first | exact AbsL.nil' | refine AbsL.v' ?_ | refine AbsL.none' ?_)) Z (by omega) (by decide) ?_;refine nZ Z (eZ Z (kZ [1,2,3,4,8,9,10] Z (nB (sQ (sQ (W_le (Le.eqK (id := 29) Z (k' := .L 1 (mixZ im 0)) (by rw [Ml])) ?_))))));refine nY Z (rG (eK 2 Z (evE ?_)));refine eZ Z (nB (AH ?_));refine lK (α := Int × List T) [1, 2, 3, 4, 10, 31, 32] [4] (fun x => [(33, .t (.int (x.1)))]) (fun x => [(29, .L 1 (x.2))]) (fun x => 0 ≤ (x.1) ∧ (x.1) ≤ im.codes.length ∧ (x.2) = mixZ im (x.1).toNat) (fun x => Int.toNat (im.codes.length - (x.1))) (0, mixZ im 0) ?_ (fun x hx => ?_)
 ·exact ⟨by omega, by omega, rfl⟩
 obtain ⟨k, zs⟩ := x
 obtain ⟨hk0, hk1, hzs⟩ := hx
 dsimp only at hk0 hk1 hzs ⊢;refine nY Z (sG (eZ Z (nB (sQ ?_))));refine AC Z (fun h3 => ?_) (fun h3 => ?_)
 ·
  simp only [HS] at h3;refine AD (tN (sQ (AH (sG (eZ Z ?_)))));refine iY (k := ?_);refine eZ Z ?_
  try refine WO_le (Le.freeze (u := 37) rfl) ?_
  refine nZ Z (AY tys Z Z (lt_of Z) Z Z Z (nZ Z (eZ Z (sT Z (nZ Z (nB ?_))))))
  have hkl : k.toNat < im.codes.length := by omega
  obtain ⟨hz, hG⟩ := hgx.ok k hk0 (by omega)
  have hGs := hG.sized.2.2.2.1
  rw [Aa hk0 (by omega)] at hGs;refine kY [1,2,3,4,10,11,12,31,32,33,34,35,36,37] Z (rG (eK 4 Z (evE ?_)));refine Ch tys (.v (.int .i64 0)) _ Z Z (lt_of Z) Z Z Z Z Z (by repeat (first | exact AbsL.nil' | refine AbsL.v' ?_ | refine AbsL.none' ?_)) Z (by omega) (by decide) ?_;refine nZ Z (WO_le (Le.eqK (id := 43) Z (k' := .L 1 ((List.replicate (im.codes[k.toNat]).ins.length (0 : Int)).map T.int)) (by rw [List.map_replicate])) ?_);refine nZ Z (WO_le (Le.gather (u := 43) (id := 43) Z Z (by simp)) ?_);refine nZ Z (AR tys Z Z (lt_of Z) Z Z Z Z Z Z Z Z (by omega) (by omega) (AJ tys _ Z Z Z Z Z Z (by rw [Qv, hzs]; exact Ou hkl) Z (AbsL.own' AbsL.nil') Z (by decide) (Qe Z) ?_));refine nZ Z (oN (bN (tN (kY [1,2,3,4,10,11,12,31,32,33,34,35,36,37,38,39,40,41,42,43,44] Z (rG (evI ?_))))));refine eZ Z (oN ?_);refine lQ (_, _) ?_ ?_
  ·dsimp only
   refine ⟨by omega, by omega, ?_⟩;rw [show (k + 1).toNat = k.toNat + 1 from by omega, hzs];rw [← Ot hkl, Qv];refine congrArg _ ?_;show T.list 1 _ = T.list 1 _;rw [Qi (by simp)]
  ·(show Int.toNat _ < Int.toNat _); omega
 simp only [HS] at h3;refine AW (tE (AN (AO (tN (sQ ?_)))));rw [Ov (by omega)] at hzs;subst hzs;refine DS [[], [], [], [], [], [], [], []] mixed (by kernel_rfl) (Ab (F7 tys Z Z (lt_of Z) Z Z (QG_nil (Ab (QG_ev tys Z Z (lt_of Z) Z (QG_nil (Ab (QG_ev tys Z Z (lt_of Z) Z (QG_nil (Ab (F7 tys Z Z (lt_of Z) Z Z (QG_nil (Ab (Nb ?_))))))))))))));refine ⟨_, Mu im hxl1 (by omega) hz1 hz2, rfl, ?_⟩;refine QG_nil (Ab (Gi (pl := [(0, 1), (1, 1), (2, 1), (3, 7)]) tys Z Z (lt_of Z) Z Z Z (by kernel_rfl) Z Z Z Z Z (QG_nil (N4 Z Z (lt_of Z) Z Z Z Z Z (Ab (QG_ev tys Z Z (lt_of Z) Z (QG_nil (QH_nil ?_))))))));refine ⟨by kernel_rfl, ?_⟩;refine nZ Z (nB (sQ (sQ ?_)));refine Iw (u := 52) (j := 0) 99 Z Z Z (fun u0 => ?_);refine nY Z ?_;refine Iw (u := 52) (j := 1) 98 Z Z Z (fun u1 => ?_);refine nY Z (W_le (Le.roJoin 99 98 Z Z) (nY Z (W_le (Le.nilBox (u := 52) (j := 4) 1 Z Z) (nY Z (W_le (Le.nilBox (u := 52) (j := 9) 3 Z Z) (nY Z ?_))))));refine W_pin (u := 52) (pid := 1052) Z Z (fun bm => ?_);refine nY Z (W_le (Le.eqK (id := 29) Z Z) (W_le (Le.reL rows_cells) (rG (eZ Z (nB (AH ?_))))));refine lK (α := Int × Vm × List (List Int)) [3, 10, 13] [99, 1052] (fun x => [(14, .t (.int (x.1)))]) (fun x => [(52, .box (mV u0 u1 most (x.2.1))), (29, .L 1 ((x.2.2).map N8))]) (fun x => 0 ≤ (x.1) ∧ (x.1) ≤ ticks ∧ ((x.2.1), (x.2.2)) = iterC im inp most (x.1).toNat ∧ ((x.2.1).code = 0 → Inv im most (x.1).toNat (x.2.1)) ∧ Cnt im (x.1) (x.2.2)) (fun x => Int.toNat (ticks - (x.1))) (0, GI im, Dj im) ?_ (fun x hx => ?_)
 ·exact ⟨by omega, by omega, rfl, fun _ => Ib hgx hm1, Ki⟩
 obtain ⟨n, v, cs⟩ := x
 obtain ⟨hn0, hn1, hit, hIv, hcn⟩ := hx
 dsimp only at hn0 hn1 hit hIv hcn ⊢;refine nY Z (sQ (sG (eK 4 Z ?_)));refine gB (fun h4 => ?_) (fun h4 => ?_)
 ·
  simp only [HS] at h4;refine xK 5 Z (kZ [3,10,13,14,53,54,55,56,57,58,59,60,61,62] Z (eZ Z (nB (Ao Z (AW (tE (AN (AO (tN (sG (eK 3 Z (nB ?_))))))))))))
  (refine W_le (Le.eqK (id := 29) rfl rfl) ?_; refine W_le (Le.reL rows_cells.symm) ?_; refine W_le (Le.gather (u := 8) (id := 29) rfl rfl (by simp; have := hcn.len; omega)) ?_)
  refine rT (eR ?_)
  ·first
   | exact EU hcB hn0 hn1 hcn hit (.inl (by omega))
 simp only [HS] at h4;refine eZ Z (gY Z (AE rfl Z (lt_of Z) Z Z Z (xK 3 Z (kZ [3,10,13,14,53,54,55,56,57,58,59,60,61] Z (xK 2 Z (nB ?_))))));refine AC Z (fun h5 => ?_) (fun h5 => ?_)
 ·
  simp only [HS] at h5;refine AD (tN (sQ (AH (sQ ?_))))
  have hc0 : v.code = 0 := by simp_all
  have hI := hIv hc0
  have hnt : n < ticks := by simp_all
  obtain ⟨k2, f, hk, hkl, hof, hso, ho1, ho2⟩ := ok_of hgx hI hm2 (by omega) hil
  have hfl : v.fs.length ≤ 1000 := by have := hI.len1; omega
  have hlt := Bs hk
  obtain ⟨hh, hF, hpi⟩ := hof
  have q0 := hF.fn0
  have q1 := hF.fn1
  have q2 := hF.at0
  have q3 := hF.at1
  have hcl := hcn.len
  have hrl := hcn.row f.fn q0 q1
  have hrm : ((rowC cs f.fn).map T.int).length = (rowC cs f.fn).length := Qc ..
  have hlo := hcn.lo f.fn f.at'
  have hhi := hcn.hi f.fn f.at'
  refine Ad (u := 52) (j := 3) 101 Z Z Z (fun v3 => ?_);refine nY Z ?_;refine Dq (id := 101) Z (by intro h; have := congrArg List.length h; rw [Qc, Qz] at this; omega) (fun bf cap hv3 hcap => ?_);rw [Qc] at hv3 hcap;subst hv3;refine nY Z (W_le (Le.nameR (u := 101) 1101 Z Z Z Z) (nY Z (rG (eZ Z ?_))));refine AQ (rid := 99) [52] 1101 (k2) Z Z (lt_of Z) Z Z (by repeat (first | exact ResP.done | refine ResP.t ?_ | refine ResP.pin0 1052 Z ?_ | refine ResP.pinR 1052 Z (by first | rfl | omega) ?_ | refine ResP.nil 1 ?_ | refine ResP.nil' ?_ | refine ResP.own ?_ | refine ResP.sl Z Z (by first | omega | (simp; omega)) ?_)) Z (by repeat (first | exact trivial | refine ⟨OpenAs.same Z rfl, ?_⟩ | refine ⟨OpenAs.box 1052 Z Z Z Z rfl, ?_⟩ | refine ⟨OpenAs.row 1052 Z Z rfl, ?_⟩)) (by decide) (Az bm bf v.fs.length cap _ _ (by omega) hcap (by omega) _ (by rfl) (by rfl) (by rfl)) Z Z (by first | rfl | omega) ?_;refine eZ Z (nB (sQ ?_));refine Bg (id := 29) (i := f.fn.toNat) (off := 0) (z := N8 (rowC cs f.fn)) 202 1202 335 Z GK (Pb (by omega)) Z (by intro h; have := congrArg List.length h; rw [Qc, Qz] at this; omega) Z Z Z Z Z Z (fun b2 cap2 hcap2 => ?_);refine nY Z (A4 15 mixed Z (by kernel_rfl) (by kernel_rfl) (evQ ?_));refine AI Z (evQ ?_);refine AL rfl Z (lt_of Z) Z Z Z (evQ ?_);refine Ae tys Z Z (lt_of Z) Z Z Z Z (AM hk) Z (CD tys Z Z (lt_of Z) Z Z Z Z Z Z Z Z (by omega) (by omega) ?_);refine CA tys 1202 Z Z (lt_of Z) Z Z Z Z (by rw [Qv]; exact List.getElem?_set_self (by rw [Qc]; omega)) Z Z hcap2 ?_;refine AI Z (evQ ?_);refine AL rfl Z (lt_of Z) Z Z Z (evQ ?_);refine Ae tys Z Z (lt_of Z) Z Z Z Z (AM hk) Z (CD tys Z Z (lt_of Z) Z Z Z Z Z Z Z Z (by omega) (by omega) (Ae tys Z Z (lt_of Z) Z Z Z Z (M1 q2 (by omega)) Z (AI Z (Lx ?_))));refine CD tys Z Z (lt_of Z) Z Z Z Z Z Z Z Z (by omega) (by omega) (Ak (Al tys (T.int (atI (rowC cs f.fn) f.at' + 1)) Z Z Z Z Z Z (Qv _) (by rw [Qc]; omega) Z (AbsL.v' AbsL.nil') Z Z Z ?_));refine nZ Z (nB ?_);refine W_le (Le.claimL (id := 29) (id2 := 202) (pid := 1202) (i := f.fn.toNat) (off := 0) Z Z Z (List.getElem?_set_self (by rw [Qc]; omega)) Z (by rw [Qo]) Z) ?_;refine nY Z (W_le (Le.eqK (id := 29) Z (congrArg (Blk.L 1) (Hw (cs := cs) (fn := f.fn) (a := f.at') Z Z))) (nY Z (W_le (Le.closeR (u := 101) 1101 Z Z) (nY Z (W_le (Le.rowVn (id := 101) v.fs.length Z (by simp)) ?_)))));refine nY Z (W_le (Le.claimBox (u := 52) (j := 3) (idp := 101) Z Z Z Z) (nY Z (rG (eZ Z (WO_le (Le.close (u := 52) 1052 Z Z Z) (nZ Z ?_))))));refine cP [52] (hm := (JV bm im inp u0 u1 most v k2 f (insF im f) Z hk hkl hfl hso ⟨ho1, ho2⟩ (MN hgx) (K2 hgx) hI.val)) (k := ?_);refine nZ Z (WO_le (Le.open (u := 52) 1052 Z Z Z Z) (nZ Z (oN (bN (tN (rG (eZ Z (evI ?_))))))));refine eZ Z (oN ?_);refine lQ (_, _, _) ?_ ?_
  ·dsimp only
   rw [show (n + 1).toNat = n.toNat + 1 from by omega];exact ⟨by omega, by omega, PZ hit hc0 hk hkl, fun hc => KR hgx hI hk hkl ⟨hh, hF, hpi⟩ hso hc, Kj hcn (by omega)⟩
  ·(show Int.toNat _ < Int.toNat _); omega
 simp only [HS] at h5;refine AW (tE (AN (AO (tN (sG (eK 3 Z (nB ?_)))))))
 (refine W_le (Le.eqK (id := 29) rfl rfl) ?_; refine W_le (Le.reL rows_cells.symm) ?_; refine W_le (Le.gather (u := 8) (id := 29) rfl rfl (by simp; have := hcn.len; omega)) ?_)
 refine rT (eR ?_)
 ·first
  | exact EU hcB hn0 hn1 hcn hit (.inr (by assumption))
open Go.Eng
theorem GZ (im : Image) (inp : List Int) (most ticks : Int) (hok : im.ok 1048576) (hl : inp.length ≤ 1048576) : Fun Tryz.prog 8 [.t im.tt, .t (T.ints inp), .t (T.int most), .t (T.int ticks)] (Ay [.own (Fh (countL im inp most ticks)), .t (.bool (countB im inp most ticks))]) := by
 refine Fun.begin tys Tryz.func8 Z Z (N := 79) [(0, .t im.tt), (1, .t (T.ints inp)), (2, .t (T.int most)), (3, .t (T.int ticks))] Z Z (fun w0 G F0 => ?_);refine sG (AZ Z Z (lt_of Z) Z Z (nZ Z (eK 2 Z (nB (sQ (sG (eZ Z ?_)))))))
 try refine WO_le (Le.freeze (u := 15) rfl) ?_
 refine nZ Z (eK 2 Z (AS ?_));refine ⟨_, Lm im inp most hok hl, rfl, ?_⟩;refine eK 2 Z (kZ [1,2,3,4,8,9,20] Z ?_);refine gB (fun h1 => ?_) (fun h1 => ?_)
 ·
  simp only [HS] at h1;refine xK 3 Z (nB (A5 Z (sG (eK 2 Z (nB (W_le (Le.nilOwn (u := 8) 1 Z) (rT (tR (eR ?_)))))))))
  ·first
   | exact FG (by unfold countB; simp_all; done)
 simp only [HS] at h1;refine eZ Z (gY Z (AS ?_));refine ⟨_, BF _ _ _, rfl, ?_⟩;refine xK 2 Z (nB ?_);refine AC Z (fun h2 => ?_) (fun h2 => ?_)
 ·
  simp only [HS] at h2;refine sG (eK 2 Z (nB (W_le (Le.nilOwn (u := 8) 1 Z) (rT (tR (eR ?_))))))
  ·first
   | exact FG (by unfold countB; simp_all; done)
 simp only [HS] at h2;refine AD (tN (sG (eZ Z (WO_le (Le.nilOwn (u := 10) 1 Z) (WO_le (Le.adoptE (u := 10) 10 Z Z) (nZ Z (nB (sQ (sQ ?_)))))))))
 obtain ⟨hgx, hil, hm1, hm2⟩ := JM h1
 have hxl1 := hgx.n0
 have hxl2 := hgx.n1
 obtain ⟨hz0, hG0⟩ := hgx.ok 0 (by decide) (by omega)
 have hz1 : 0 ≤ (codeAt im 0).vars ∧ (codeAt im 0).vars ≤ 1000 := by have := hG0.sized; omega
 have hz2 : (codeAt im 0).sites.length ≤ 1000 := by have := hG0.sized; omega
 have hcB : countB im inp most ticks = true := by unfold countB; simp_all
 refine rG (eK 2 Z (evE ?_));refine eZ Z (kZ [1,2,3,4,8,9,10,26,27,28] Z (nB (AH ?_)));refine lK (α := Int × Nat × List T) [1, 2, 3, 4, 26, 27] [4] (fun x => [(28, .t (.int (x.1))), (10, .sl 10 0 (x.2.1))]) (fun x => [(10, .L 1 (x.2.2))]) (fun x => 0 ≤ (x.1) ∧ (x.1) ≤ im.codes.length ∧ (x.2.1) = (x.2.2).length ∧ (x.2.2) = (im.codes.take (x.1).toNat).map rowZ) (fun x => Int.toNat (im.codes.length - (x.1))) (0, 0, []) ?_ (fun x hx => ?_)
 ·exact ⟨by omega, by omega, rfl, rfl⟩
 obtain ⟨k, m, zs⟩ := x
 obtain ⟨hk0, hk1, hm, hzs⟩ := hx
 dsimp only at hk0 hk1 hm hzs ⊢;subst hm hzs;refine nY Z (sG (eZ Z (nB (sQ ?_))));refine AC Z (fun h3 => ?_) (fun h3 => ?_)
 ·
  simp only [HS] at h3;refine AD (tN (sQ (AH (sQ ?_))))
  have hkl : k.toNat < im.codes.length := by omega
  obtain ⟨hz, hG⟩ := hgx.ok k hk0 (by omega)
  have hGs := hG.sized.2.2.2.1
  rw [Aa hk0 (by omega)] at hGs;refine rG ?_;refine iY (k := ?_);refine eZ Z ?_
  try refine WO_le (Le.freeze (u := 31) rfl) ?_
  refine nZ Z (AY tys Z Z (lt_of Z) Z Z Z (nZ Z (sT Z (nZ Z (nB (rG (eK 3 Z (evE ?_))))))));refine kZ [1,2,3,4,10,12,26,27,28,29,30,31,32,33,34,35] Z ?_;refine Ch tys (.v (.int .i64 0)) _ Z Z (lt_of Z) Z Z Z Z Z (by repeat (first | exact AbsL.nil' | refine AbsL.v' ?_ | refine AbsL.none' ?_)) Z (by omega) (by decide) ?_;refine nZ Z (WO_le (Le.eqK (id := 36) Z (k' := .L 1 ((List.replicate (im.codes[k.toNat]).ins.length (0 : Int)).map T.int)) (by rw [List.map_replicate])) ?_);refine nZ Z (WO_le (Le.gather (u := 36) (id := 36) Z Z (by simp)) ?_);refine nZ Z ?_;rw [Qi (by simp)];refine bZ [rowZ im.codes[k.toNat]] ?_;refine nZ Z (Am tys Z Z (lt_of Z) Z Z Z Z Z (.own Z (by first | omega | (simp only [Qf]; omega))) Z (.own Z (by first | decide | omega)) (by decide) (by simp; omega) (by decide) Z ?_);refine nZ Z (eZ Z (oN (bN (tN (rG (evI ?_))))));refine eZ Z (oN ?_);refine lQ (_, _, _) ?_ ?_
  ·dsimp only
   refine ⟨by omega, by omega, by simp, ?_⟩;rw [Qi (Q0 _), show (k + 1).toNat = k.toNat + 1 from by omega, List.take_succ_eq_append_getElem hkl, List.map_append]; rfl
  ·(show Int.toNat _ < Int.toNat _); omega
 simp only [HS] at h3;refine AW (tE (AN (AO (tN (sQ ?_)))));rw [Qi (by omega), OV, show ((Dj im).map T.ints).length = im.codes.length from by simp [Dj]];refine DS [[], [], [], [], [], [], [], []] mixed (by kernel_rfl) (Ab (F7 tys Z Z (lt_of Z) Z Z (QG_nil (Ab (QG_ev tys Z Z (lt_of Z) Z (QG_nil (Ab (QG_ev tys Z Z (lt_of Z) Z (QG_nil (Ab (F7 tys Z Z (lt_of Z) Z Z (QG_nil (Ab (Nb ?_))))))))))))));refine ⟨_, LG im hxl1 (by omega) hz1 hz2, rfl, ?_⟩;refine QG_nil (Ab (Gi (pl := [(0, 1), (1, 1), (2, 1), (3, 7)]) tys Z Z (lt_of Z) Z Z Z (by kernel_rfl) Z Z Z Z Z (QG_nil (N4 Z Z (lt_of Z) Z Z Z Z Z (Ab (QG_ev tys Z Z (lt_of Z) Z (QG_nil (QH_nil ?_))))))));refine ⟨by kernel_rfl, ?_⟩;refine nZ Z ?_;refine Gb (u := 46) (j := 0) 99 Z Z Z (fun u0 => ?_);refine nZ Z ?_;refine Gb (u := 46) (j := 1) 98 Z Z Z (fun u1 => ?_);refine nZ Z (WO_le (Le.roJoin 99 98 Z Z) (nZ Z (WO_le (Le.nilBox (u := 46) (j := 4) 1 Z Z) (nZ Z (WO_le (Le.nilBox (u := 46) (j := 9) 3 Z Z) (nZ Z ?_))))));refine WO_pin (u := 46) (pid := 1046) Z Z (fun bm => ?_);refine nZ Z (WO_le (Le.eqK (id := 10) Z Z) (WO_le (Le.reL rows_cells) (nB (sQ (AH ?_)))));refine lK (α := Int × Vm × List (List Int)) [10, 13] [99, 1046] (fun x => [(3, .t (.int (x.1)))]) (fun x => [(46, .box (mV u0 u1 most (x.2.1))), (10, .L 1 ((x.2.2).map N8))]) (fun x => 0 ≤ (x.1) ∧ (x.1) ≤ ticks ∧ ∃ n : Int, n = ticks - (x.1) ∧ ((x.2.1), (x.2.2)) = iterC im inp most n.toNat ∧ ((x.2.1).code = 0 → Inv im most n.toNat (x.2.1)) ∧ Cnt im n (x.2.2)) (fun x => Int.toNat ((x.1))) (ticks, GI im, Dj im) ?_ (fun x hx => ?_)
 ·exact ⟨by omega, by omega, 0, by omega, rfl, fun _ => Ib hgx hm1, Ki⟩
 obtain ⟨r, v, cs⟩ := x
 obtain ⟨hr0, hr1, n, hnr, hit, hIv, hcn⟩ := hx
 dsimp only at hr0 hr1 hnr hit hIv hcn ⊢;refine nY Z (sQ (sG (eK 3 Z ?_)));refine gB (fun h4 => ?_) (fun h4 => ?_)
 ·
  simp only [HS] at h4;refine xK 6 Z (kZ [3,10,13,47,48,49,50,51,52,53,54,55,56] Z (nB (Ao Z (AW (tE (AN (AO (tN (sG (eK 3 Z (nB ?_)))))))))))
  (refine W_le (Le.eqK (id := 10) rfl rfl) ?_; refine W_le (Le.reL rows_cells.symm) ?_; refine W_le (Le.gather (u := 8) (id := 10) rfl rfl (by simp; have := hcn.len; omega)) ?_)
  refine rT (eR ?_)
  ·first
   | exact EU hcB (by omega) (by omega) hcn hit (.inl (by omega))
 simp only [HS] at h4;refine eZ Z (gY Z (AE rfl Z (lt_of Z) Z Z Z (xK 4 Z (kZ [3,10,13,47,48,49,50,51,52,53,54,55] Z (eZ Z (nB ?_))))));refine AC Z (fun h5 => ?_) (fun h5 => ?_)
 ·
  simp only [HS] at h5;refine AD (tN (sQ (AH (sQ ?_))))
  have hc0 : v.code = 0 := by simp_all
  have hI := hIv hc0
  have hnt : 0 < r := by simp_all
  obtain ⟨k2, f, hk, hkl, hof, hso, ho1, ho2⟩ := ok_of hgx hI hm2 (by omega) hil
  have hfl : v.fs.length ≤ 1000 := by have := hI.len1; omega
  have hlt := Bs hk
  obtain ⟨hh, hF, hpi⟩ := hof
  have q0 := hF.fn0
  have q1 := hF.fn1
  have q2 := hF.at0
  have q3 := hF.at1
  have hcl := hcn.len
  have hrl := hcn.row f.fn q0 q1
  have hrm : ((rowC cs f.fn).map T.int).length = (rowC cs f.fn).length := Qc ..
  have hlo := hcn.lo f.fn f.at'
  have hhi := hcn.hi f.fn f.at'
  refine Ad (u := 46) (j := 3) 101 Z Z Z (fun v3 => ?_);refine nY Z ?_;refine Dq (id := 101) Z (by intro h; have := congrArg List.length h; rw [Qc, Qz] at this; omega) (fun bf cap hv3 hcap => ?_);rw [Qc] at hv3 hcap;subst hv3;refine nY Z (W_le (Le.nameR (u := 101) 1101 Z Z Z Z) (nY Z (rG (eZ Z ?_))));refine AQ (rid := 99) [46] 1101 (k2) Z Z (lt_of Z) Z Z (by repeat (first | exact ResP.done | refine ResP.t ?_ | refine ResP.pin0 1046 Z ?_ | refine ResP.pinR 1046 Z (by first | rfl | omega) ?_ | refine ResP.nil 1 ?_ | refine ResP.nil' ?_ | refine ResP.own ?_ | refine ResP.sl Z Z (by first | omega | (simp; omega)) ?_)) Z (by repeat (first | exact trivial | refine ⟨OpenAs.same Z rfl, ?_⟩ | refine ⟨OpenAs.box 1046 Z Z Z Z rfl, ?_⟩ | refine ⟨OpenAs.row 1046 Z Z rfl, ?_⟩)) (by decide) (Jv bm bf v.fs.length cap _ _ (by omega) hcap (by omega) _ (by rfl) (by rfl) (by rfl)) Z Z (by first | rfl | omega) ?_;refine eZ Z (nB (sQ ?_));refine Bg (id := 10) (i := f.fn.toNat) (off := 0) (z := N8 (rowC cs f.fn)) 202 1202 335 Z GK (Pb (by omega)) Z (by intro h; have := congrArg List.length h; rw [Qc, Qz] at this; omega) Z Z Z Z Z Z (fun b2 cap2 hcap2 => ?_);refine nY Z (A4 15 mixed Z (by kernel_rfl) (by kernel_rfl) (evQ ?_));refine evQ ?_;refine AI Z (AL rfl Z (lt_of Z) Z Z Z (evQ ?_));refine Ae tys Z Z (lt_of Z) Z Z Z Z (AM hk) Z (CD tys Z Z (lt_of Z) Z Z Z Z Z Z Z Z (by omega) (by omega) ?_);refine CA tys 1202 Z Z (lt_of Z) Z Z Z Z (by rw [Qv]; exact List.getElem?_set_self (by rw [Qc]; omega)) Z Z hcap2 ?_;refine evQ ?_;refine AI Z (AL rfl Z (lt_of Z) Z Z Z (evQ ?_));refine Ae tys Z Z (lt_of Z) Z Z Z Z (AM hk) Z (CD tys Z Z (lt_of Z) Z Z Z Z Z Z Z Z (by omega) (by omega) (Ae tys Z Z (lt_of Z) Z Z Z Z (M1 q2 (by omega)) Z (Lx ?_)));refine AI Z (CD tys Z Z (lt_of Z) Z Z Z Z Z Z Z Z (by omega) (by omega) (Ak (Al tys (T.int (atI (rowC cs f.fn) f.at' + 1)) Z Z Z Z Z Z (Qv _) (by rw [Qc]; omega) Z (AbsL.v' AbsL.nil') Z Z Z ?_)));refine nZ Z (nB ?_);refine W_le (Le.claimL (id := 10) (id2 := 202) (pid := 1202) (i := f.fn.toNat) (off := 0) Z Z Z (List.getElem?_set_self (by rw [Qc]; omega)) Z (by rw [Qo]) Z) ?_;refine nY Z (W_le (Le.eqK (id := 10) Z (congrArg (Blk.L 1) (Hw (cs := cs) (fn := f.fn) (a := f.at') Z Z))) (nY Z (W_le (Le.closeR (u := 101) 1101 Z Z) (nY Z (W_le (Le.rowVn (id := 101) v.fs.length Z (by simp)) ?_)))));refine nY Z (W_le (Le.claimBox (u := 46) (j := 3) (idp := 101) Z Z Z Z) (nY Z (rG (eZ Z (WO_le (Le.close (u := 46) 1046 Z Z Z) (nZ Z ?_))))));refine cP [46] (hm := (MD bm im inp u0 u1 most v k2 f (insF im f) Z hk hkl hfl hso)) (k := ?_);refine nZ Z (WO_le (Le.open (u := 46) 1046 Z Z Z Z) (nZ Z (oN (bN (tN (rG (eZ Z (evI ?_))))))));refine eZ Z (oN ?_);refine lQ (_, _, _) ?_ ?_
  ·dsimp only
   refine ⟨by omega, by omega, n + 1, by omega, ?_⟩;rw [show (n + 1).toNat = n.toNat + 1 from by omega];exact ⟨PZ hit hc0 hk hkl, fun hc => KR hgx hI hk hkl ⟨hh, hF, hpi⟩ hso hc, Kj hcn (by omega)⟩
  ·(show Int.toNat _ < Int.toNat _); omega
 simp only [HS] at h5;refine AW (tE (AN (AO (tN (sG (eK 3 Z (nB ?_)))))))
 (refine W_le (Le.eqK (id := 10) rfl rfl) ?_; refine W_le (Le.reL rows_cells.symm) ?_; refine W_le (Le.gather (u := 8) (id := 10) rfl rfl (by simp; have := hcn.len; omega)) ?_)
 refine rT (eR ?_)
 ·first
  | exact EU hcB (by omega) (by omega) hcn hit (.inr (by assumption))
open Go.Eng
def Mj (x : Ins) (k : Int) : Ins := ⟨k, k + 1⟩
def ctIns (x : Ins) : Int := 1 + 1
theorem ET (x : Ins) : 1 ≤ ctIns x := by
 unfold ctIns; omega
def Ins.cl (x : Ins) : List T := (Ins.tt x).cells
theorem Ins.cl_len (x : Ins) : x.cl.length = 2 := rfl
theorem IP (k : Int) : Fun Tryz.prog 57 [.t (.list 2 []), .t (.int k)] (Ay [.t (.int k)]) := by
 refine Fun.begin tys Tryz.func57 Z Z (N := 27) [(0, .t (.list 2 [])), (1, .t (.int k))] Z Z (fun w0 G F0 => ?_);refine sG (eZ Z (nB (sQ (sG (eZ Z (nB (AH ?_)))))));refine lK (α := Int) [0, 1] [] (fun x => [(5, .t (.int x))]) (fun x => []) (fun x => 0 ≤ x) (fun x => Int.toNat (0)) 0 ?_ (fun z hx => ?_)
 ·exact Q8 0
 have hz := hx
 refine nY Z (sQ (sG (eK 2 Z (evE ?_))));refine eZ Z (nB ?_);refine AC Z (fun h1 => ?_) (fun h1 => ?_)
 ·
  simp only [HS] at h1
  exfalso; simp at h1; omega
 simp only [HS] at h1;refine AW (tE (AN (AO (tN (sG (eK 2 Z (nB (rT (eR ?_)))))))))
 ·rfl
theorem LJ (l : List Ins) (k : Int) (hk : 0 ≤ k) (hb : k + ctL ctIns l ≤ 1073741824) : MarkF Tryz.prog 57 (.list 2 (l.map Ins.tt)) (k) (k + ctL ctIns l) (.list 2 ((mkL Mj ctIns l k).map Ins.tt)) := by
 have hlen := Jo ET l
 refine MarkF.slice Tryz.func57 rfl rfl (N := 27) rfl (fun y hy => (by obtain ⟨a, _, rfl⟩ := RB.1 hy; rfl) ) ( by simp [HE]) (fun h => by cases l with | nil => (rw [show k + ctL ctIns [] = k from by simp [ctL]]; exact IP k) | cons _ _ => simp at h) (fun b cap vs w0 G F0 => ?_);refine sG (eZ Z (nB (sQ (sG (eZ Z (nB (AH ?_)))))));refine lK (α := Int × Int × List Value × List T) [0] [] (fun x => [(5, .t (.int (x.1))), (1, .t (.int (x.2.1)))]) (fun x => [(27, .raw b (cap * 2) (x.2.2.1) (x.2.2.2))]) (fun x => 0 ≤ (x.1) ∧ (x.1) ≤ l.length ∧ k ≤ (x.2.1) ∧ (x.2.1) + ctL ctIns (l.drop (x.1).toNat) = k + ctL ctIns l ∧ ∃ done : List Ins, done.length = (x.1).toNat ∧ (x.2.2.2) = done.flatMap Ins.cl ++ (l.drop (x.1).toNat).flatMap Ins.cl ∧ mkL Mj ctIns l k = done ++ mkL Mj ctIns (l.drop (x.1).toNat) (x.2.1)) (fun x => Int.toNat (l.length - (x.1))) (0, k, vs, (l.map Ins.tt).flatMap T.cells) ?_ (fun x hx => ?_)
 ·exact ⟨by omega, by omega, Q8 k, rfl, [], rfl, by rw [List.flatMap_map]; rfl, rfl⟩
 obtain ⟨i, k', vs', ts⟩ := x
 obtain ⟨hi0, hi1, hkk, hk', done, hd, hts, he⟩ := hx
 dsimp only at hi0 hi1 hkk hk' hd hts he ⊢;refine nY Z (sQ (sG (eK 2 Z (Br Z Z (lt_of Z) Z ⟨77, by kernel_rfl⟩ rfl (eZ Z (nB ?_))))));refine AC Z (fun h1 => ?_) (fun h1 => ?_)
 ·
  simp only [HS] at h1;refine AD (tN (sQ (AH (sG ?_))))
  have hD := Fk Ins.cl_len done hd
  have hca := NN ctIns hi0 h1
  have hcx : ctIns (l[i.toNat]'(by omega)) = ctIns (l[i.toNat]'(by omega)) := rfl
  conv at hcx => rhs; unfold ctIns
  have hcr := C8 ET (l.drop (i + 1).toNat)
  rw [drop_at hi0 h1, Q2] at hts;subst hts;refine eK 3 Z (Bb tys Z Z (lt_of Z) Z Z Z Z Z Z (by omega) (by first | omega | (simp only [Qc]; omega)) ?_);refine Be tys Z Z (lt_of Z) Z Z Z Z Z (kZ [0,1,5,6,7,8,9,12,13,14,15,16] Z (Bq tys (id := 27) Z Z Z Z Z Z Z (by exact Es hD Z) Z Z Z ?_));refine nZ Z (nA (eZ Z (evI ?_)));refine eZ Z (nA (eK 3 Z (Bb tys Z Z (lt_of Z) Z Z Z Z Z Z (by omega) (by first | omega | (simp only [Qc]; omega)) ?_)));refine Be tys Z Z (lt_of Z) Z Z Z Z Z (kZ [0,1,5,6,7,8,9,12,13,14,15,16,17,18,19,20,21,22,23] Z (Bq tys (id := 27) Z Z Z Z Z Z Z (by rw [E0 hD]; exact Es hD Z) Z Z Z ?_));refine nZ Z (nB (rG (eZ Z (evI ?_))));refine eZ Z (oN (bN (tN (rG (eZ Z (evI ?_))))));refine eZ Z (oN ?_);refine lQ (_, _, _, _) ?_ ?_
  ·dsimp only
   refine ⟨by omega, by omega, by omega, by omega, done ++ [Mj (l[i.toNat]'(by omega)) k'], by simp [hd]; omega, ?_, ?_⟩
   ·simp only [E0 hD]
    rw [RX, Qt];rfl
   ·rw [he, drop_at hi0 h1, mkL, Qt, show k' + ctIns (l[i.toNat]'(by omega)) = k' + 1 + 1 from by omega]
    rfl
  ·(show Int.toNat _ < Int.toNat _); omega
 simp only [HS] at h1;refine AW (tE (AN (AO (tN (sG (eK 2 Z (nB (rT ?_))))))));refine CT (.inr Z) Z Z Z ?_ ?_
 ·rw [AX h1] at hk'; simp only [Jn] at hk'; omega
 ·rw [hts, AX h1, he, AX h1, List.flatMap_map, mkL, Qu]; exact Qu _
def Mi (x : Row) (k : Int) : Row := ⟨k, k + 1, k + 1 + 1⟩
def ctRow (x : Row) : Int := 1 + 1 + 1
theorem ER (x : Row) : 1 ≤ ctRow x := by
 unfold ctRow; omega
def Row.cl (x : Row) : List T := (Row.tt x).cells
theorem Row.cl_len (x : Row) : x.cl.length = 3 := rfl
theorem IL (k : Int) : Fun Tryz.prog 58 [.t (.list 3 []), .t (.int k)] (Ay [.t (.int k)]) := by
 refine Fun.begin tys Tryz.func58 Z Z (N := 34) [(0, .t (.list 3 [])), (1, .t (.int k))] Z Z (fun w0 G F0 => ?_);refine sG (eZ Z (nB (sQ (sG (eZ Z (nB (AH ?_)))))));refine lK (α := Int) [0, 1] [] (fun x => [(5, .t (.int x))]) (fun x => []) (fun x => 0 ≤ x) (fun x => Int.toNat (0)) 0 ?_ (fun z hx => ?_)
 ·exact Q8 0
 have hz := hx
 refine nY Z (sQ (sG (eK 2 Z (evE ?_))));refine eZ Z (nB ?_);refine AC Z (fun h1 => ?_) (fun h1 => ?_)
 ·
  simp only [HS] at h1
  exfalso; simp at h1; omega
 simp only [HS] at h1;refine AW (tE (AN (AO (tN (sG (eK 2 Z (nB (rT (eR ?_)))))))))
 ·rfl
theorem LI (l : List Row) (k : Int) (hk : 0 ≤ k) (hb : k + ctL ctRow l ≤ 1073741824) : MarkF Tryz.prog 58 (.list 3 (l.map Row.tt)) (k) (k + ctL ctRow l) (.list 3 ((mkL Mi ctRow l k).map Row.tt)) := by
 have hlen := Jo ER l
 refine MarkF.slice Tryz.func58 rfl rfl (N := 34) rfl (fun y hy => (by obtain ⟨a, _, rfl⟩ := RB.1 hy; rfl) ) ( by simp [HE]) (fun h => by cases l with | nil => (rw [show k + ctL ctRow [] = k from by simp [ctL]]; exact IL k) | cons _ _ => simp at h) (fun b cap vs w0 G F0 => ?_);refine sG (eZ Z (nB (sQ (sG (eZ Z (nB (AH ?_)))))));refine lK (α := Int × Int × List Value × List T) [0] [] (fun x => [(5, .t (.int (x.1))), (1, .t (.int (x.2.1)))]) (fun x => [(34, .raw b (cap * 3) (x.2.2.1) (x.2.2.2))]) (fun x => 0 ≤ (x.1) ∧ (x.1) ≤ l.length ∧ k ≤ (x.2.1) ∧ (x.2.1) + ctL ctRow (l.drop (x.1).toNat) = k + ctL ctRow l ∧ ∃ done : List Row, done.length = (x.1).toNat ∧ (x.2.2.2) = done.flatMap Row.cl ++ (l.drop (x.1).toNat).flatMap Row.cl ∧ mkL Mi ctRow l k = done ++ mkL Mi ctRow (l.drop (x.1).toNat) (x.2.1)) (fun x => Int.toNat (l.length - (x.1))) (0, k, vs, (l.map Row.tt).flatMap T.cells) ?_ (fun x hx => ?_)
 ·exact ⟨by omega, by omega, Q8 k, rfl, [], rfl, by rw [List.flatMap_map]; rfl, rfl⟩
 obtain ⟨i, k', vs', ts⟩ := x
 obtain ⟨hi0, hi1, hkk, hk', done, hd, hts, he⟩ := hx
 dsimp only at hi0 hi1 hkk hk' hd hts he ⊢;refine nY Z (sQ (sG (eK 2 Z (Br Z Z (lt_of Z) Z ⟨99, by kernel_rfl⟩ rfl (eZ Z (nB ?_))))));refine AC Z (fun h1 => ?_) (fun h1 => ?_)
 ·
  simp only [HS] at h1;refine AD (tN (sQ (AH (sG ?_))))
  have hD := Fk Row.cl_len done hd
  have hca := NN ctRow hi0 h1
  have hcx : ctRow (l[i.toNat]'(by omega)) = ctRow (l[i.toNat]'(by omega)) := rfl
  conv at hcx => rhs; unfold ctRow
  have hcr := C8 ER (l.drop (i + 1).toNat)
  rw [drop_at hi0 h1, Q2] at hts;subst hts;refine eK 3 Z (Bb tys Z Z (lt_of Z) Z Z Z Z Z Z (by omega) (by first | omega | (simp only [Qc]; omega)) ?_);refine Be tys Z Z (lt_of Z) Z Z Z Z Z (kZ [0,1,5,6,7,8,9,12,13,14,15,16] Z (Bq tys (id := 34) Z Z Z Z Z Z Z (by exact Es hD Z) Z Z Z ?_));refine nZ Z (nA (eZ Z (evI ?_)));refine eZ Z (nA (eK 3 Z (Bb tys Z Z (lt_of Z) Z Z Z Z Z Z (by omega) (by first | omega | (simp only [Qc]; omega)) ?_)));refine Be tys Z Z (lt_of Z) Z Z Z Z Z (kZ [0,1,5,6,7,8,9,12,13,14,15,16,17,18,19,20,21,22,23] Z (Bq tys (id := 34) Z Z Z Z Z Z Z (by rw [E0 hD]; exact Es hD Z) Z Z Z ?_));refine nZ Z (nA (eZ Z (evI ?_)));refine eZ Z (nA (eK 3 Z (Bb tys Z Z (lt_of Z) Z Z Z Z Z Z (by omega) (by first | omega | (simp only [Qc]; omega)) ?_)));refine Be tys Z Z (lt_of Z) Z Z Z Z Z (kZ [0,1,5,6,7,8,9,12,13,14,15,16,17,18,19,20,21,22,23,24,25,26,27,28,29,30] Z (Bq tys (id := 34) Z Z Z Z Z Z Z (by rw [E0 hD, E0 hD]; exact Es hD Z) Z Z Z ?_));refine nZ Z (nB (rG (eZ Z (evI ?_))));refine eZ Z (oN (bN (tN (rG (eZ Z (evI ?_))))));refine eZ Z (oN ?_);refine lQ (_, _, _, _) ?_ ?_
  ·dsimp only
   refine ⟨by omega, by omega, by omega, by omega, done ++ [Mi (l[i.toNat]'(by omega)) k'], by simp [hd]; omega, ?_, ?_⟩
   ·simp only [E0 hD]
    rw [RX, Qt];rfl
   ·rw [he, drop_at hi0 h1, mkL, Qt, show k' + ctRow (l[i.toNat]'(by omega)) = k' + 1 + 1 + 1 from by omega]
    rfl
  ·(show Int.toNat _ < Int.toNat _); omega
 simp only [HS] at h1;refine AW (tE (AN (AO (tN (sG (eK 2 Z (nB (rT ?_))))))));refine CT (.inr Z) Z Z Z ?_ ?_
 ·rw [AX h1] at hk'; simp only [Jn] at hk'; omega
 ·rw [hts, AX h1, he, AX h1, List.flatMap_map, mkL, Qu]; exact Qu _
def IJ (x : Code) (k : Int) : Code := ⟨k, k + 1, mkI x.sites (k + 1 + 1), mkL Mj ctIns x.ins (k + 1 + 1 + (x.sites.length : Int)), mkL Mi ctRow x.rows (k + 1 + 1 + (x.sites.length : Int) + ctL ctIns x.ins)⟩
def ctCode (x : Code) : Int := 1 + 1 + (x.sites.length : Int) + ctL ctIns x.ins + ctL ctRow x.rows
theorem De (x : Code) : 1 ≤ ctCode x := by
 have p1 := C8 ET x.ins
 have p2 := C8 ER x.rows
 unfold ctCode; omega
def Code.cl (x : Code) : List T := (Code.tt x).cells
theorem Code.cl_len (x : Code) : x.cl.length = 5 := rfl
theorem HG (k : Int) : Fun Tryz.prog 29 [.t (.list 5 []), .t (.int k)] (Ay [.t (.int k)]) := by
 refine Fun.begin tys Tryz.func29 Z Z (N := 48) [(0, .t (.list 5 [])), (1, .t (.int k))] Z Z (fun w0 G F0 => ?_);refine sG (eZ Z (nB (sQ (sG (eZ Z (nB (AH ?_)))))));refine lK (α := Int) [0, 1] [] (fun x => [(5, .t (.int x))]) (fun x => []) (fun x => 0 ≤ x) (fun x => Int.toNat (0)) 0 ?_ (fun z hx => ?_)
 ·exact Q8 0
 have hz := hx
 refine nY Z (sQ (sG (eK 2 Z (evE ?_))));refine eZ Z (nB ?_);refine AC Z (fun h1 => ?_) (fun h1 => ?_)
 ·
  simp only [HS] at h1
  exfalso; simp at h1; omega
 simp only [HS] at h1;refine AW (tE (AN (AO (tN (sG (eK 2 Z (nB (rT (eR ?_)))))))))
 ·rfl
theorem JU (l : List Code) (k : Int) (hk : 0 ≤ k) (hb : k + ctL ctCode l ≤ 1073741824) : MarkF Tryz.prog 29 (.list 5 (l.map Code.tt)) (k) (k + ctL ctCode l) (.list 5 ((mkL IJ ctCode l k).map Code.tt)) := by
 have hlen := Jo De l
 refine MarkF.slice Tryz.func29 rfl rfl (N := 48) rfl (fun y hy => (by obtain ⟨a, _, rfl⟩ := RB.1 hy; rfl) ) ( by simp [HE]) (fun h => by cases l with | nil => (rw [show k + ctL ctCode [] = k from by simp [ctL]]; exact HG k) | cons _ _ => simp at h) (fun b cap vs w0 G F0 => ?_);refine sG (eZ Z (nB (sQ (sG (eZ Z (nB (AH ?_)))))));refine lK (α := Int × Int × List Value × List T) [0] [] (fun x => [(5, .t (.int (x.1))), (1, .t (.int (x.2.1)))]) (fun x => [(48, .raw b (cap * 5) (x.2.2.1) (x.2.2.2))]) (fun x => 0 ≤ (x.1) ∧ (x.1) ≤ l.length ∧ k ≤ (x.2.1) ∧ (x.2.1) + ctL ctCode (l.drop (x.1).toNat) = k + ctL ctCode l ∧ ∃ done : List Code, done.length = (x.1).toNat ∧ (x.2.2.2) = done.flatMap Code.cl ++ (l.drop (x.1).toNat).flatMap Code.cl ∧ mkL IJ ctCode l k = done ++ mkL IJ ctCode (l.drop (x.1).toNat) (x.2.1)) (fun x => Int.toNat (l.length - (x.1))) (0, k, vs, (l.map Code.tt).flatMap T.cells) ?_ (fun x hx => ?_)
 ·exact ⟨by omega, by omega, Q8 k, rfl, [], rfl, by rw [List.flatMap_map]; rfl, rfl⟩
 obtain ⟨i, k', vs', ts⟩ := x
 obtain ⟨hi0, hi1, hkk, hk', done, hd, hts, he⟩ := hx
 dsimp only at hi0 hi1 hkk hk' hd hts he ⊢;refine nY Z (sQ (sG (eK 2 Z (Br Z Z (lt_of Z) Z ⟨48, by kernel_rfl⟩ rfl (eZ Z (nB ?_))))));refine AC Z (fun h1 => ?_) (fun h1 => ?_)
 ·
  simp only [HS] at h1;refine AD (tN (sQ (AH (sG ?_))))
  have hD := Fk Code.cl_len done hd
  have hca := NN ctCode hi0 h1
  have hcx : ctCode (l[i.toNat]'(by omega)) = ctCode (l[i.toNat]'(by omega)) := rfl
  conv at hcx => rhs; unfold ctCode
  have hcr := C8 De (l.drop (i + 1).toNat)
  have p0 := C8 ET (l[i.toNat]'(by omega)).ins
  have p1 := C8 ER (l[i.toNat]'(by omega)).rows
  rw [drop_at hi0 h1, Q2] at hts;subst hts;refine eK 3 Z (Bb tys Z Z (lt_of Z) Z Z Z Z Z Z (by omega) (by first | omega | (simp only [Qc]; omega)) ?_);refine Be tys Z Z (lt_of Z) Z Z Z Z Z (kZ [0,1,5,6,7,8,9,12,13,14,15,16] Z (Bq tys (id := 48) Z Z Z Z Z Z Z (by exact Es hD Z) Z Z Z ?_));refine nZ Z (nA (eZ Z (evI ?_)));refine eZ Z (nA (eK 3 Z (Bb tys Z Z (lt_of Z) Z Z Z Z Z Z (by omega) (by first | omega | (simp only [Qc]; omega)) ?_)));refine Be tys Z Z (lt_of Z) Z Z Z Z Z (kZ [0,1,5,6,7,8,9,12,13,14,15,16,17,18,19,20,21,22,23] Z (Bq tys (id := 48) Z Z Z Z Z Z Z (by rw [E0 hD]; exact Es hD Z) Z Z Z ?_));refine nZ Z (nA (eZ Z (evI ?_)));refine eZ Z (nA (eK 2 Z (Bb tys Z Z (lt_of Z) Z Z Z Z Z Z (by omega) (by first | omega | (simp only [Qc]; omega)) ?_)));refine Be tys Z Z (lt_of Z) Z Z Z Z Z ?_;refine EZ tys (id := 48) Z Z (lt_of Z) Z Z Z Z Z (by rw [E0 hD, E0 hD]; exact Es hD Z) (fun u30 hu30 => ?_);refine kZ [0,1,5,6,7,8,9,12,13,14,15,16,17,18,19,20,21,22,23,24,25,26,27,28,29,30] Z (eZ Z (DC (id := 48) (j := i.toNat * 5 + 2) Z Z (lt_of Z) Z Z Z Z Z Z (hu30) (by rw [E0 hD, E0 hD]; exact Es hD Z) (El (l[i.toNat]'(by omega)).sites (k' + 1 + 1) (by omega) (by omega)) ?_));refine eZ Z (nA (eK 2 Z (Bb tys Z Z (lt_of Z) Z Z Z Z Z Z (by omega) (by first | omega | (simp only [Qc]; omega)) ?_)));refine Be tys Z Z (lt_of Z) Z Z Z Z Z ?_;refine EZ tys (id := 48) Z Z (lt_of Z) Z Z Z Z Z (by rw [E0 hD, E0 hD, E0 hD]; exact Es hD Z) (fun u37 hu37 => ?_);refine eZ Z (kZ [0,1,5,6,7,8,9,12,13,14,15,16,17,18,19,20,21,22,23,24,25,26,27,28,29,30,31,32,33,34,35,36,37,38] Z (DC (id := 48) (j := i.toNat * 5 + 3) Z Z (lt_of Z) Z Z Z Z Z Z (hu37) (by rw [E0 hD, E0 hD, E0 hD]; exact Es hD Z) (LJ (l[i.toNat]'(by omega)).ins (k' + 1 + 1 + ((l[i.toNat]'(by omega)).sites.length : Int)) (by omega) (by omega)) ?_));refine eZ Z (nB (rG (eK 2 Z (Bb tys Z Z (lt_of Z) Z Z Z Z Z Z (by omega) (by first | omega | (simp only [Qc]; omega)) ?_))));refine Be tys Z Z (lt_of Z) Z Z Z Z Z ?_;refine EZ tys (id := 48) Z Z (lt_of Z) Z Z Z Z Z (by rw [E0 hD, E0 hD, E0 hD, E0 hD]; exact Es hD Z) (fun u44 hu44 => ?_);refine eZ Z (DC (id := 48) (j := i.toNat * 5 + 4) Z Z (lt_of Z) Z Z Z Z Z Z (hu44) (by rw [E0 hD, E0 hD, E0 hD, E0 hD]; exact Es hD Z) (LI (l[i.toNat]'(by omega)).rows (k' + 1 + 1 + ((l[i.toNat]'(by omega)).sites.length : Int) + ctL ctIns (l[i.toNat]'(by omega)).ins) (by omega) (by omega)) ?_);refine kZ [0,1,5,6,7,8,9,12,13,14,15,16,17,18,19,20,21,22,23,24,25,26,27,28,29,30,31,32,33,34,35,36,37,38,39,40,41,42,43,44,45,46] Z (eZ Z (oN (bN (tN (rG (eZ Z (evI ?_)))))));refine eZ Z (oN ?_);refine lQ (_, _, _, _) ?_ ?_
  ·dsimp only
   refine ⟨by omega, by omega, by omega, by omega, done ++ [IJ (l[i.toNat]'(by omega)) k'], by simp [hd]; omega, ?_, ?_⟩
   ·simp only [E0 hD]
    rw [RX, Qt];rfl
   ·rw [he, drop_at hi0 h1, mkL, Qt, show k' + ctCode (l[i.toNat]'(by omega)) = k' + 1 + 1 + ((l[i.toNat]'(by omega)).sites.length : Int) + ctL ctIns (l[i.toNat]'(by omega)).ins + ctL ctRow (l[i.toNat]'(by omega)).rows from by omega]
    rfl
  ·(show Int.toNat _ < Int.toNat _); omega
 simp only [HS] at h1;refine AW (tE (AN (AO (tN (sG (eK 2 Z (nB (rT ?_))))))));refine CT (.inr Z) Z Z Z ?_ ?_
 ·rw [AX h1] at hk'; simp only [Jn] at hk'; omega
 ·rw [hts, AX h1, he, AX h1, List.flatMap_map, mkL, Qu]; exact Qu _
def C9 (x : Image) : Int := ctL ctCode x.codes
theorem JT (x : Image) (k : Int) (hk : 0 ≤ k) (hb : k + C9 x ≤ 1073741824) : MarkF Tryz.prog 12 (.agg ([T.Codes x.codes])) (k) (k + C9 x) (.agg ([T.Codes (mkL IJ ctCode x.codes (k))])) := by
 have hb2 := hb
 unfold C9 at hb2
 have p0 := C8 De x.codes
 refine MarkF.struct Tryz.func12 Z Z (N := 10) Z (fun vs hvs hone w0 G F0 => ?_)
 obtain ⟨a0, rfl⟩ : ∃ a0, vs = [a0] := by
  match vs, hvs with
  | [a0], _ => exact ⟨_, rfl⟩
 refine sG (AZ Z Z (lt_of Z) Z Z (nZ Z (eZ Z (nA (eK 3 Z (DC (id := 10) (j := 0) Z Z (lt_of Z) Z Z Z Z Z Z (rfl) (rfl) (JU x.codes (k) (by omega) (by omega)) (eZ Z (nB (sQ (kY [1,4] Z (rG (eK 2 Z (nB (rT ?_))))))))))))));refine I2 (.inr Z) Z Z Z ?_ ?_
 ·unfold C9; omega
 ·rfl
theorem OL (x : Code) : SzC (DG x) (ctCode x - 8) :=
 (E6 (OK x.sites) (E6 (Jy (ct := ctIns) (fun t => by unfold ctIns; omega) x.ins) (E6 (Jy (ct := ctRow) (fun t => by unfold ctRow; omega) x.rows) Jx))).mono (by unfold ctCode; omega)
theorem L7 (x : Image) : SzC (Ds x) (C9 x) :=
 (E6 (szL_c OL x.codes) Jx).mono (by unfold C9; omega)
theorem HY {p : Image} (h : 0 ≤ Ds p 1048576) : C9 p ≤ 8388608 := by
 have := L7 p 1048576 (by omega) h
 omega
theorem Image.small {p : Image} (h : 0 ≤ Ds p 1048576) : p.ok 1048576 := (L6 p 1048576 (by omega) (by omega)).2.2 h
open Go.Eng
theorem NK (l : List Int) : eqL eqI l l = true := C7 Dd l
theorem Fn (a : List (List Int)) : eqL (eqL eqI) a a = true := C7 (C7 Dd) a
theorem Li {cs : List (List Int)} {fn a : Int} : (Fw cs fn a).map List.length = cs.map List.length := by
 refine List.ext_getElem? fun j => ?_
 rw [List.getElem?_map, List.getElem?_map];unfold Fw;rw [List.getElem?_set];split
 ·rename_i e
  subst e;split
  ·rename_i h
   unfold rowC;rw [List.getElem?_eq_getElem h]
   simp
  ·rename_i h
   rw [List.getElem?_eq_none (by omega)]
 ·rfl
theorem GV {im : Image} {inp : List Int} {most : Int} : ∀ n, (iterC im inp most n).2.map List.length = im.codes.map fun c => c.ins.length
 | 0 => by simp [iterC, Dj]
 | n + 1 => by
  rw [← GV (im := im) (inp := inp) (most := most) n, iterC];unfold Kz;split
  ·split
   ·exact Li
   ·rfl
  ·rfl
theorem Ow {l : List (List Int)} {m : Nat} (h : ∀ x, x ∈ l → x.length ≤ m) : l.flatten.length ≤ m * l.length := by
 induction l with
 | nil => simp
 | cons a l ih =>
  have h1 := ih (fun x hx => h x (Qy _ hx))
  have h2 := h a Q9
  rw [List.flatten_cons, Qf, Q1, Nat.mul_add];omega
theorem NO (im : Image) (inp : List Int) (most ticks : Int) : (countL im inp most ticks).length ≤ 5 ∧ ∀ x, x ∈ countL im inp most ticks → x.length ≤ 300 := by
 unfold countL;split
 ·rename_i h
  unfold countB at h;rw [Qd] at h
  obtain ⟨hg, _⟩ := JM h.1
  have e := GV (im := im) (inp := inp) (most := most) ticks.toNat
  have hl : (iterC im inp most ticks.toNat).2.length = im.codes.length := by
   have := congrArg List.length e
   rwa [Qc, Qc] at this
  refine ⟨by rw [hl]; exact hg.n1, fun x hx => ?_⟩
  have hm : x.length ∈ im.codes.map fun c => c.ins.length := by rw [← e]; exact List.mem_map_of_mem hx
  obtain ⟨c, hc, hcl⟩ := RB.1 hm
  obtain ⟨j, hj, rfl⟩ := List.getElem_of_mem hc
  obtain ⟨hh, G⟩ := hg.ok (j : Int) (by omega) (by omega)
  have := G.sized.2.2.2.1
  rw [Aa (by omega) (by omega)] at this;simp only [Int.toNat_natCast] at this;omega
 ·exact ⟨by simp, fun x hx => by cases hx⟩
theorem IU (im : Image) (l : List Int) (most ticks : Int) (hx : im.ok 9223372036854775807) (hl : okN 9223372036854775807 l) : Fun Tryz.prog 3 [.t im.tt, .t (T.ints l), .t (T.int most), .t (T.int ticks)] (Ay [.t (.bool true)]) := by
 refine Fun.begin tys Tryz.func3 Z Z (N := 127) [(0, .t im.tt), (1, .t (T.ints l)), (2, .t (T.int most)), (3, .t (T.int ticks))] Z Z (fun w0 G F0 => ?_);refine sG (AZ Z Z (lt_of Z) Z Z (nZ Z (eZ Z (nB (sQ (sG (eZ Z (evE ?_))))))));refine eZ Z (nB ?_);refine AC Z (fun h1 => ?_) (fun h1 => ?_)
 ·
  simp only [HS] at h1;refine sG (eZ Z (nB (rT (tR (eR ?_)))))
  ·rfl
 simp only [HS] at h1;refine AD (tN (sG (eZ Z (nA (eZ Z ?_)))))
 try refine WO_le (Le.freeze (u := 24) rfl) ?_
 refine nZ Z (eZ Z (AS ?_));refine ⟨_, JD im 1048576 hx (by omega) (by omega), rfl, ?_⟩;refine kZ [1,2,3,4,8,9,26] Z (eZ Z (nB (sQ (sG (eK 2 Z (nB ?_))))));refine AC Z (fun h2 => ?_) (fun h2 => ?_)
 ·
  simp only [HS] at h2;refine sG (eZ Z (nB (rT (tR (eR ?_)))))
  ·rfl
 simp only [HS] at h2;refine AD (tN (sG ?_))
 have okx := Image.small h2
 have cx := HY h2
 have c0 : 0 ≤ C9 im := C8 De im.codes
 obtain ⟨q1, q2⟩ := NO im l most ticks
 have hll : l.length ≤ 1048576 := by omega
 have q3 : (countL im l most ticks).flatten.length ≤ 1500 := Nat.le_trans (Ow q2) (by omega)
 have q4 : ∀ x, x ∈ countL im l most ticks → x.length ≤ 1048576 := fun x hx => Nat.le_trans (q2 x hx) (by decide)
 have q5 : ∀ x, x ∈ countL im l most ticks → x.length ≤ 9223372036854775807 := fun x hx => Nat.le_trans (q2 x hx) (by decide)
 refine eZ Z ?_
 try refine WO_le (Le.freeze (u := 30) rfl) ?_
 refine nZ Z (AS ?_);refine ⟨_, C2 im okx, rfl, ?_⟩;refine WO_le (Le.freeze (u := 31) Z) (nZ Z (eZ Z (AS ?_)));refine ⟨_, Cj l hll, rfl, ?_⟩;refine WO_le (Le.freeze (u := 33) Z) (nZ Z (eK 2 Z (kZ [1,2,3,4,8,31,33,34,35] Z (AS ?_))));refine ⟨_, Lf im l most ticks okx hll, rfl, ?_⟩;refine Cw Z Z (lt_of Z) (.inr Z) Z Z (nZ Z (Cx Z Z (lt_of Z) Z Z Z Z (WO_le (Le.freeze (u := 37) Z) (nZ Z (WO_evF tys Z Z (lt_of Z) (d := .t _) Z (nZ Z (eK 2 Z (nA (eZ Z ?_)))))))))
 try refine WO_le (Le.freeze (u := 39) rfl) ?_
 refine nZ Z (AS ?_);refine ⟨_, C2 im okx, rfl, ?_⟩;refine Lr (u := 40) 40 Z Z (fun v40 hv40 => ?_)
 obtain ⟨a40_0, rfl⟩ : ∃ a40_0, v40 = [a40_0] := by
  match v40, hv40 with
  | [a40_0], _ => exact ⟨_, rfl⟩
 refine nZ Z (AY tys Z Z (lt_of Z) Z Z Z (nZ Z (kZ [1,2,3,4,8,10,11,12,40] Z (sT Z (nZ Z (nA (eZ Z (AS ?_))))))));refine ⟨_, Cj l hll, rfl, ?_⟩;refine Ev (u := 42) 42 Z (fun v42 => ?_);refine eZ Z (nA (eZ Z (nZ Z (eK 3 Z ?_))));refine BW Z Z (lt_of Z) Z Z (by refine ResL.rawA (id := 40) Z Z ?_; refine ResL.raw (id := 42) (j := 0) Z Z Z ?_; (first | refine ResL.t ?_ | refine ResL.own ?_ | refine ResL.aggT (by repeat (first | exact ResL.done | refine ResL.own ?_ | refine ResL.t ?_)) ?_ | refine ResL.slA Z (by first | rfl | (simp; done) | (simp; omega)) ?_ | refine ResL.nil' ?_); (first | refine ResL.t ?_ | refine ResL.own ?_ | refine ResL.aggT (by repeat (first | exact ResL.done | refine ResL.own ?_ | refine ResL.t ?_)) ?_ | refine ResL.slA Z (by first | rfl | (simp; done) | (simp; omega)) ?_ | refine ResL.nil' ?_); exact ResL.done) (GZ im l most ticks okx hll) Z ?_;refine kZ [1,2,3,4,8,10,11,12,13,48] Z (Cw Z Z (lt_of Z) (.inr Z) Z Z (nZ Z (Cx Z Z (lt_of Z) Z Z Z Z ?_)));refine Ev (u := 49) 49 Z (fun v49 => ?_);refine WO_evF tys Z Z (lt_of Z) (d := .t _) Z (nZ Z (eK 2 Z (nB (sQ (sG (eK 2 Z ?_))))));refine BW Z Z (lt_of Z) Z Z (by refine ResL.raw (id := 49) (j := 0) Z Z Z ?_; (first | refine ResL.t ?_ | refine ResL.own ?_ | refine ResL.aggT (by repeat (first | exact ResL.done | refine ResL.own ?_ | refine ResL.t ?_)) ?_ | refine ResL.slA Z (by first | rfl | (simp; done) | (simp; omega)) ?_ | refine ResL.nil' ?_); exact ResL.done) (D0 (countL im l most ticks) (countL im l most ticks) (by omega) (by omega) q5 q5) Z ?_;refine WO_le (Le.known (t := 53) true Z (Fn _)) (eZ Z (kZ [1,2,3,4,8,10,11,12,13,14,15,54] Z (xK 4 Z (WO_le (Le.known (t := 58) false Z (by simp)) ?_))));refine eZ Z (nB (Ao Z (AD (tN (sQ (sQ (AV mixed (by kernel_rfl) (evQ ?_))))))));refine AI Z (Ko tys Z Z (lt_of Z) Z Z (Dp ?_));refine ⟨_, C2 im okx, rfl, ?_⟩;refine N2 Z Z (lt_of Z) Z Z (by refine ResL.rawA (id := 40) Z Z ?_; (first | refine ResL.t ?_ | refine ResL.own ?_ | refine ResL.aggT (by repeat (first | exact ResL.done | refine ResL.own ?_ | refine ResL.t ?_)) ?_ | refine ResL.slA Z (by first | rfl | (simp; done) | (simp; omega)) ?_ | refine ResL.nil' ?_); exact ResL.done) (Jk im im hx hx) Z ?_;refine PT (v := true) (Il _) (evQ ?_);refine Ak (tN (Ao Z (AD (tN (sQ (sG (eK 2 Z (AS ?_))))))));refine ⟨_, Cj l hll, rfl, ?_⟩;refine WO_le (Le.freeze (u := 67) Z) (nZ Z ?_);refine BW Z Z (lt_of Z) Z Z (by refine ResL.raw (id := 42) (j := 0) Z Z Z ?_; (first | refine ResL.t ?_ | refine ResL.own ?_ | refine ResL.aggT (by repeat (first | exact ResL.done | refine ResL.own ?_ | refine ResL.t ?_)) ?_ | refine ResL.slA Z (by first | rfl | (simp; done) | (simp; omega)) ?_ | refine ResL.nil' ?_); exact ResL.done) (Et l l hl hl) Z ?_;refine WO_le (Le.known (t := 68) true Z (NK _)) (eZ Z (kZ [1,2,3,4,8,10,11,12,13,14,15,69] Z (nB (Ao Z (AD (tN (sG (eZ Z (nA (eZ Z (nZ Z (eZ Z (PM (id := 40) Z Z (lt_of Z) Z Z Z Z Z (JT im 1 (by omega) (by omega)) (nZ Z (eZ Z ?_)))))))))))))));refine nA (eK 2 Z (DC (id := 42) (j := 0) Z Z (lt_of Z) Z Z Z Z Z Z Z Z (El l (1 + C9 im) (by omega) (by omega)) (nZ Z (eZ Z (kZ [1,2,3,4,8,10,11,14,15,16] Z (nB (sQ (sG (eK 2 Z (WO_le (Le.known (t := 77) false Z (by simp; omega)) ?_))))))))));refine xK 3 Z (gY Z ?_);refine BW Z Z (lt_of Z) Z Z (by refine ResL.raw (id := 49) (j := 0) Z Z Z ?_; (first | refine ResL.t ?_ | refine ResL.own ?_ | refine ResL.aggT (by repeat (first | exact ResL.done | refine ResL.own ?_ | refine ResL.t ?_)) ?_ | refine ResL.slA Z (by first | rfl | (simp; done) | (simp; omega)) ?_ | refine ResL.nil' ?_); exact ResL.done) (D0 (countL im l most ticks) (countL im l most ticks) (by omega) (by omega) q5 q5) Z ?_;refine WO_le (Le.known (t := 81) true Z (Fn _)) (xK 3 Z (kZ [1,2,3,4,8,10,11,14,15,84] Z (xK 3 Z (WO_le (Le.known (t := 87) false Z (by simp)) ?_))));refine eZ Z (nB (Ao Z (AD (tN (sG (eZ Z (nA (eK 2 Z (DC (id := 49) (j := 0) Z Z (lt_of Z) Z Z Z Z Z Z Z Z (JS (countL im l most ticks) 1 (by omega) (by omega) (by omega)) (nZ Z (eZ Z (kZ [1,2,3,4,8,10,11,14,17] Z (nA (eZ Z (nA ?_)))))))))))))));refine eK 2 Z ?_;refine BW Z Z (lt_of Z) Z Z (by refine ResL.raw (id := 49) (j := 0) Z Z Z ?_; (first | refine ResL.t ?_ | refine ResL.own ?_ | refine ResL.aggT (by repeat (first | exact ResL.done | refine ResL.own ?_ | refine ResL.t ?_)) ?_ | refine ResL.slA Z (by first | rfl | (simp; done) | (simp; omega)) ?_ | refine ResL.nil' ?_); exact ResL.done) (Ez (countL im l most ticks) 1 (by omega) (by omega) (by omega)) Z ?_;refine eZ Z (nB (sQ (sG (eK 2 Z (WO_le (Le.known (t := 96) false Z (by simp; omega)) ?_)))));refine nB (Ao Z (AD (tN (sQ (sQ (kY [1,2,3,4,8,10,11,14,17,18] Z (rG (eK 3 Z (WO_le (Le.known (t := 99) false Z (by simp)) ?_)))))))));refine nB (Ao Z (AD (tN (sG (eZ Z ?_)))))
 try refine WO_le (Le.freeze (u := 101) rfl) ?_
 refine nZ Z (AS ?_);refine ⟨_, C2 im okx, rfl, ?_⟩;refine WO_le (Le.freeze (u := 102) Z) (nZ Z (eZ Z (AS ?_)));refine ⟨_, Cj l hll, rfl, ?_⟩;refine WO_le (Le.freeze (u := 104) Z) (nZ Z (eK 2 Z (kZ [8,10,11,14,17,18,102,104,105,106] Z (AS ?_))));refine ⟨_, GZ im l most ticks okx hll, rfl, ?_⟩;refine Cw Z Z (lt_of Z) (.inr Z) Z Z (nZ Z (Cx Z Z (lt_of Z) Z Z Z Z (WO_le (Le.freeze (u := 108) Z) (nZ Z (WO_evF tys Z Z (lt_of Z) (d := .t _) Z (nZ Z (eK 2 Z (nB (sQ (sG (eK 2 Z (AS ?_))))))))))));refine ⟨_, D0 (countL im l most ticks) (countL im l most ticks) (by omega) (by omega) q5 q5, rfl, ?_⟩;refine WO_le (Le.known (t := 112) true Z (Fn _)) (kZ [8,11,14,17,18,20,112] Z (xK 5 Z (WO_le (Le.known (t := 117) false Z (by simp)) ?_)));refine eZ Z (nB (Ao Z (AD (tN (sG (eZ Z (nB (sQ (kY [8,14,17,18] Z (rG (eK 2 Z ?_)))))))))));refine BW Z Z (lt_of Z) Z Z (by refine ResL.raw (id := 49) (j := 0) Z Z Z ?_; (first | refine ResL.t ?_ | refine ResL.own ?_ | refine ResL.aggT (by repeat (first | exact ResL.done | refine ResL.own ?_ | refine ResL.t ?_)) ?_ | refine ResL.slA Z (by first | rfl | (simp; done) | (simp; omega)) ?_ | refine ResL.nil' ?_); exact ResL.done) (Ez (countL im l most ticks) 1 (by omega) (by omega) (by omega)) Z ?_;refine eZ Z (nB (sQ (sG (eK 2 Z (WO_le (Le.known (t := 123) false Z (by simp; omega)) ?_)))));refine nB (Ao Z (AD (tN (sQ (sG (eK 3 Z (WO_le (Le.known (t := 126) false Z (by simp)) ?_)))))));refine kZ [8,126] Z (nB (Ao Z (AD (tN (sG (eZ Z (nB (rT (eR ?_)))))))))
 ·rfl
end Go.Proofs.YtljnifnbldfboaaGreat
