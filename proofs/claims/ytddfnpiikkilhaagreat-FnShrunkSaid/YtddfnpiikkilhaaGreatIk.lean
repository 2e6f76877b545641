/- Walks and laws of the claim. -/
import Derived.Test.YtddfnpiikkilhaaGreatIh
import Derived.Test.YtddfnpiikkilhaaGreatMe
import Derived.Test.YtddfnpiikkilhaaGreatGb
set_option linter.unusedVariables false
set_option linter.unusedSimpArgs false
set_option maxRecDepth 10000
set_option maxHeartbeats 1000000
namespace Go.Proofs.YtddfnpiikkilhaaGreat
open Go.Eng
open Go.Eng
def lvS (p : Prog) (inp : List Int) (most n : Nat) (f : Func) (t : Stmt) (s : Sx) : Int × Int × Sx := (lev p inp most n).stmt f t s
theorem lv_0 {p : Prog} {inp : List Int} {most n : Nat} {f : Func} {t : Stmt} {s : Sx} (h : s.m.fuel = 0) : lvS p inp most n f t s = (5, 0, ⟨A6 s.m, s.vars, s.off, s.res, s.by'⟩) := by
 cases n with
 | zero => show (5, 0, s) = _; rw [IB h]
 | succ n => exact st_0 h
def StI (p : Prog) (inp : List Int) (f : Func) (t : Stmt) (s : Sx) (pv iv bp bpv : Value) (q : Kp) (most n : Nat) (fn : Int) (fu : Int) (b1 b2 b3 : Blk) : Prop :=
 ∃ (n1 : Nat) (s1 : Sx), n1 ≤ n ∧ s1.m.fuel ≤ n1 ∧ fu = s1.m.fuel ∧ Sx.to p inp f 0 s s1 ∧ lvS p inp most n f t s = lvS p inp most n1 f t s1 ∧
  b1 = .box (rS pv iv most s1.m.fuel 0 s1.m) ∧ b2 = .box (gC fn s1.vars s1.off s1.res 0 0 false bp) ∧ b3 = .obox bpv (gC q.fn q.vars q.off q.res (hH s1.by') (nH s1.by') (xH s1.by') q.bp)
theorem Nr (p : Prog) (inp : List Int) (most n : Nat) (hI : ∀ k, k < n → Pk p inp most k (lev p inp most k) ∧ Pd p inp most k (lev p inp most k)) (hg : AZ p = true) (hp : p.ok 1048576) (hi : inp.length ≤ 1048576) (hmost : most ≤ 1048576) (fn : Int) (f : Func) (t : Stmt) (s : Sx) (bm bc bb : Nat) (q : Kp) (pv iv : Value) (xv : List Value) (xt : List T) (h0 : 0 ≤ fn) (h1' : fn < p.funcs.length) (hfd : f = funcAt p fn) (ht : t ∈ f.stmts) (hs : s.ok p inp f) (hn : s.m.fuel ≤ n) (hn2 : s.m.fuel ≤ 1048576) (hti : s.m.trace.length + s.m.fuel ≤ 1048576) (hof : s.off.length + s.m.fuel ≤ 1048576) (hdm : s.m.deep ≤ most) : Proc Tryz.prog 138 [.t (.v (.pointer (some ⟨bm, 0, none⟩))), .t (.v (.pointer (some ⟨bc, 0, none⟩))), .t t.tt] ((pv :: iv :: xv)) ((T.Funcs p.funcs :: T.ints inp :: xt)) [.obox (.pointer (some ⟨bm, 0, none⟩)) (rS pv iv most s.m.fuel 0 s.m), .obox (.pointer (some ⟨bc, 0, none⟩)) (gC fn s.vars s.off s.res 0 0 false (byP bb s.by')), byK bb q s.by'] (.tup [.t (.int (haH (lvS p inp most n f t s).1)), .t (.int (lvS p inp most n f t s).2.1)]) [.obox (.pointer (some ⟨bm, 0, none⟩)) (rS pv iv most (fuH (lvS p inp most n f t s).1 (lvS p inp most n f t s).2.2.m) (coH (lvS p inp most n f t s).1) (lvS p inp most n f t s).2.2.m), .obox (.pointer (some ⟨bc, 0, none⟩)) (gC fn (lvS p inp most n f t s).2.2.vars (lvS p inp most n f t s).2.2.off (lvS p inp most n f t s).2.2.res 0 0 false (byP bb s.by')), .obox (byP bb s.by') (gC q.fn q.vars q.off q.res (hH (lvS p inp most n f t s).2.2.by') (nH (lvS p inp most n f t s).2.2.by') (xH (lvS p inp most n f t s).2.2.by') q.bp)] := by
 have hf : f ∈ p.funcs := hfd ▸ CB h0 h1'
 have hgv := CK hg hf
 have hsh := hgv.2.2.2.2.1
 have hst : BM f.vars (paramsL p) t = true := by clear hfd hs; obtain ⟨q, hq, rfl⟩ := TF hf; obtain ⟨i, hi, rfl⟩ := TF ht; exact Iu (CE hg hq) hi
 obtain ⟨hk1, hk2, _⟩ := Ip hsh ht
 have hfo : f.ok 1048576 := hp.1.2 f hf
 have htok : t.ok 1048576 := hfo.2.1.2 t ht
 have hl1 : t.thn.length ≤ 1048576 := htok.2.1
 have hl2 : t.els.length ≤ 1048576 := htok.2.2.1
 have hfl : f.stmts.length ≤ 1048576 := hfo.2.1.1
 refine Proc.intro tys Tryz.func138 Z Z (N := 113) [100, 101, 102] 99 ([(0, .t (.v (.pointer (some ⟨bm, 0, none⟩)))), (1, .t (.v (.pointer (some ⟨bc, 0, none⟩)))), (2, .t t.tt)]) ([(100, .obox (.pointer (some ⟨bm, 0, none⟩)) (rS pv iv most s.m.fuel 0 s.m)), (101, .obox (.pointer (some ⟨bc, 0, none⟩)) (gC fn s.vars s.off s.res 0 0 false (byP bb s.by'))), (102, byK bb q s.by'), (99, .ro (pv :: iv :: xv) (T.Funcs p.funcs :: T.ints inp :: xt))]) Z Z Z Z (by decide) (by decide) Z (fun w0 G F0 => ?_);refine nY Z (AN (Le.openNew (u := 100) 1100 Z Z Z Z Z) (nY Z (AN (Le.named (t := 0) (u := 100) 1100 Z Z) (nY Z (AN (Le.openNew (u := 101) 1101 Z Z Z Z Z) (nY Z (AN (Le.named (t := 1) (u := 101) 1101 Z Z) (nY Z (sG (AV Z Z (AA Z) Z Z (nZ Z (eK 2 Z (nB (AF ?_))))))))))))));refine lK (α := Int × Blk × Blk × Blk) [0, 1, 5] [5, 99, 1100, 1101] (fun x => []) (fun x => [(100, (x.2.1)), (101, (x.2.2.1)), (102, (x.2.2.2))]) (fun x => StI p inp f t s pv iv (byP bb s.by') (byP bb s.by') q most n fn (x.1) (x.2.1) (x.2.2.1) (x.2.2.2)) (fun x => Int.toNat ((x.1))) (s.m.fuel, .box (rS pv iv most s.m.fuel 0 s.m), .box (gC fn s.vars s.off s.res 0 0 false (byP bb s.by')), .obox (byP bb s.by') (gC q.fn q.vars q.off q.res (hH s.by') (nH s.by') (xH s.by') q.bp)) ?_ (fun x hx => ?_)
 ·exact ⟨n, s, S3 _, hn, rfl, Sx.to.refl hs (by omega) (by omega), rfl, rfl, rfl, rfl⟩
 obtain ⟨fu, b1, b2, b3⟩ := x
 obtain ⟨n1, s1, hn1, hfn, hfuE, hto, hex, hb1, hb2, hb3⟩ := hx
 dsimp only at hn1 hfn hfuE hto hex hb1 hb2 hb3 ⊢;subst hb1 hb2 hb3 hfuE;refine nY Z (AF (sQ (sG ?_)))
 have hfu : s1.m.fuel ≤ s.m.fuel := hto.le.1
 have hft : s1.m.trace.length + s1.m.fuel ≤ s.m.trace.length + s.m.fuel := hto.le.2.1
 have hofs : s1.off.length + s1.m.fuel ≤ s.off.length + s.m.fuel := hto.offl
 have hdp : s1.m.deep = s.m.deep := hto.deep (by omega)
 have hBu := HX bm pv iv most s1.m (pv :: iv :: xv) (T.Funcs p.funcs :: T.ints inp :: xt) (by omega)
 obtain ⟨co, hco⟩ : ∃ co : Int, co = if s1.m.fuel = 0 then 5 else 0 := ⟨_, rfl⟩
 rw [← hco] at hBu;refine eZ Z (AB (Le.close (u := 100) 1100 Z Z Z) (nZ Z ?_));refine cP [100] (hm := (hBu)) (k := ?_);refine nZ Z (AB (Le.open (u := 100) 1100 Z Z Z Z) (nZ Z (eZ Z (nB ?_))));refine AC Z (fun h1 => ?_) (fun h1 => ?_)
 ·
  simp only [HS] at h1;refine sG (eK 2 Z (nB (AN (Le.close (u := 100) 1100 Z Z Z) (nY Z (AN (Le.close (u := 101) 1101 Z Z Z) (nY Z (rT (tR (bR (AR (bR ?_)))))))))));refine eP [_, _, _] ?_ ?_
  ·(have hout := hex.trans (lv_0 (n := n1) (f := f) (t := t) (by omega)); exact GV (by rw [hout] <;> rfl) (by rw [hout] <;> rfl))
  ·(have hout := hex.trans (lv_0 (n := n1) (f := f) (t := t) (by omega)); rw [if_pos (by omega)] at hco; subst hco; rw [hout]; rfl)
 simp only [HS] at h1;refine AD (tN (sQ (sG ?_)))
 have hfz : s1.m.fuel ≠ 0 := by simp_all
 rw [if_neg hfz] at hco;subst hco
 obtain ⟨k, hk⟩ : ∃ k, n1 = k + 1 := ⟨n1 - 1, by omega⟩
 subst hk
 have hex' : lvS p inp most n f t s = stS p inp (lev p inp most k) f t s1 := hex
 refine eK 2 Z (nB (AF (sG (eK 2 Z (nB ?_)))));refine AC Z (fun h2 => ?_) (fun h2 => ?_)
 ·
  simp only [HS] at h2;refine sQ ?_
  have hout := hex'.trans (st_3 hfz (by assumption))
  refine kY [0,1,5,12,13,14,15,16,17,18] Z (AX [[101], [], [], [], [], [101], [101], [101], [], [], [], []] Ai (by kernel_rfl) (BJ (QG_ev tys Z Z (AA Z) Z (AE (AM (QG_ev tys Z Z (AA Z) Z (AE (AM (Ax rfl Z (AA Z) Z Z Z (AE (AM (QG_ev tys Z Z (AA Z) Z (AE (AQ Z (Fy tys Z Z (AA Z) Z Z Z Z Z Z ?_)))))))))))))));refine BJ (QG_ev tys Z Z (AA Z) Z (AE (BJ (QG_ev tys Z Z (AA Z) Z (AE (BJ ?_))))));refine BV tys [T.int t.n] Z Z (AA Z) Z Z Z Z Z (AA Z) (by repeat (first | exact PartsOk.nil' | refine PartsOk.cons' rfl (by repeat (first | exact AbsL.nil' | refine AbsL.v' ?_ | refine AbsL.own' ?_ | refine AbsL.none' ?_)) Z ?_)) Z Z Z (by decide) ?_;refine AE (AQ Z (AM (EM tys Z Z (AA Z) Z Z Z Z Z Z Z Z Z ((fun x hx => by rw [TB] at hx; subst hx; exact ⟨rfl, fun z hz => ⟨_, by simpa [T.cells] using hz⟩⟩)) (by simp; omega) (by decide) Z ?_)));refine AE (AM (Ax rfl Z (AA Z) Z Z Z (AE (AM (QG_ev tys Z Z (AA Z) Z (AE (FV tys Z Z Z Z Z Z Z Z Z (S4 Z) (AQ Z (BP ?_)))))))));refine ⟨by kernel_rfl, ?_⟩;refine nZ Z (nA (eK 2 Z (nB (AN (Le.close (u := 100) 1100 Z Z Z) (nY Z (AN (Le.close (u := 101) 1101 Z Z Z) (nY Z (rT (bR (tR (bR (AR (bR ?_)))))))))))));refine eP [_, _, _] ?_ ?_
  ·exact GV (by rw [hout] <;> rfl) (by rw [hout] <;> rfl)
  ·rw [hout]
   simp [rS, gC, T.ints, putI, Sh, A6, fuH, coH]
   done
 simp only [HS] at h2;refine sQ (kY [0,1,5,12,13,14,15,16,17,18] Z (rG (eK 2 Z (nB ?_))));refine AC Z (fun h3 => ?_) (fun h3 => ?_)
 ·
  simp only [HS] at h3;refine sG (eK 2 Z (nB (AN (Le.close (u := 100) 1100 Z Z Z) (nY Z (AN (Le.close (u := 101) 1101 Z Z Z) (nY Z (rT (bR (tR (bR (AR (bR ?_))))))))))));refine eP [_, _, _] ?_ ?_
  ·(have hout := hex'.trans (st_6 (f := f) hfz (by assumption)); exact GV (by rw [hout] <;> rfl) (by rw [hout] <;> rfl))
  ·(have hout := hex'.trans (st_6 (f := f) hfz (by assumption)); rw [hout]; rfl)
 simp only [HS] at h3;refine AD (bN (tN (sG ?_)))
 have hk3 : t.kind ≠ 3 := by assumption
 have hk6 : t.kind ≠ 6 := by assumption
 have hL := HA (inp := inp) hg most k
 obtain ⟨hIc, hIs⟩ := hI k (by omega)
 have hb := hto.ok.burn hfz
 obtain ⟨mx, hru⟩ := Gt hst hk3 hk6
 obtain ⟨R, hR⟩ : ∃ R, R = exS p inp (lev p inp most k) t.ex ⟨A6 s1.m, s1.vars, s1.off, s1.res, s1.by'⟩ := ⟨_, rfl⟩
 have he := Gm hL hg (pile := []) hb.ok (l := t.ex) (mx := 0) (by simpa using hru)
 have hbf : (A6 s1.m).fuel = s1.m.fuel - 1 := rfl
 have hbt : (A6 s1.m).trace.length = s1.m.trace.length := rfl
 have hbd : (A6 s1.m).deep = s1.m.deep := rfl
 have hE := O1 p inp most k (lev p inp most k) hL hIc hg hp hi f hf fn t.ex (JQ hst) ⟨mx, hru⟩ ⟨A6 s1.m, s1.vars, s1.off, s1.res, s1.by'⟩ hb.ok (by dsimp only; omega) (by dsimp only; omega) (by dsimp only; omega) (by dsimp only; omega) hmost bm bc bb q pv iv xv xt
 change Sx.to p inp f (exS p inp (lev p inp most k) t.ex ⟨A6 s1.m, s1.vars, s1.off, s1.res, s1.by'⟩).1 _ (exS p inp (lev p inp most k) t.ex ⟨A6 s1.m, s1.vars, s1.off, s1.res, s1.by'⟩).2.2 at he;unfold byK at hE;dsimp only at hE;rw [← hR] at he;rw [← hR, HW (bb := bb) hto.by'] at hE
 have he0 := he.h0
 obtain ⟨fu1, hfu1⟩ : ∃ fu1, fu1 = fuH R.1 R.2.2.m := ⟨_, rfl⟩
 obtain ⟨co1, hco1⟩ : ∃ co1, co1 = coH R.1 := ⟨_, rfl⟩
 rw [← hfu1, ← hco1] at hE;refine eK 4 Z (AB (Le.close (u := 100) 1100 Z Z Z) (nZ Z (AB (Le.close (u := 101) 1101 Z Z Z) (nZ Z ?_))));refine cP [100,101,102] (hm := (hE)) (k := ?_);refine nZ Z (AB (Le.open (u := 100) 1100 Z Z Z Z) (nZ Z (AB (Le.open (u := 101) 1101 Z Z Z Z) (nZ Z (eZ Z (WO_evF tys Z Z (AA Z) (d := .t _) Z (nZ Z (kZ [0,1,5,12,13,14,15,16,17,18,30,31,32,33,34,35,36,37,38] Z (WO_evF tys Z Z (AA Z) (d := .t _) Z (nZ Z (eK 2 Z (nB (sQ (sG (eK 2 Z ?_)))))))))))))));refine nB ?_;refine AC Z (fun h4 => ?_) (fun h4 => ?_)
 ·
  simp only [HS] at h4;refine sG ?_
  have hout := hex'.trans (st_e (f := f) hfz hk3 hk6 hR (ML (by assumption)))
  subst hfu1 hco1;refine eK 4 Z (kZ [0,1,5,6,7,8,9,12,13,14,15,16,17,18,30,31,32,33,34,35,36,37,38,39,40,41,42,43] Z (nB (AN (Le.close (u := 100) 1100 Z Z Z) (nY Z (AN (Le.close (u := 101) 1101 Z Z Z) (nY Z (rT (tR (bR (AR (bR ?_)))))))))));refine eP [_, _, _] ?_ ?_
  ·exact GV (by rw [hout] <;> rfl) (by rw [hout] <;> rfl)
  ·rw [hout]
   rfl
 simp only [HS] at h4;refine AD (tN (sQ (sG ?_)))
 have hz : R.1 = 0 := R8 (by assumption)
 rw [hz, KR (by omega)] at hfu1;rw [hz, Kd (by omega)] at hco1;subst hfu1 hco1
 have hok2 := he.ok
 have hf2 : R.2.2.m.fuel ≤ s1.m.fuel - 1 := he.le.1
 have ht2 : R.2.2.m.trace.length + R.2.2.m.fuel ≤ s1.m.trace.length + (s1.m.fuel - 1) := he.le.2.1
 have ho2 : R.2.2.off.length + R.2.2.m.fuel ≤ s1.off.length + (s1.m.fuel - 1) := he.offl
 have hd2 : R.2.2.m.deep = s.m.deep := (he.deep (by omega)).trans hdp
 have hvl : R.2.2.vars.length = f.vars.toNat := hok2.vars
 have hby2 : R.2.2.by'.isSome = s.by'.isSome := he.by'.trans hto.by'
 have h1B : Sx.to p inp f R.1 s1 R.2.2 := hb.trans he (by omega)
 refine eK 2 Z (nB (AF (sQ (kY [0,1,5,8,9,12,13,14,15,16,17,18,30,31,32,33,34,35,36,37,38,39,40,41,44,45] Z (rG (eK 2 Z (nB ?_)))))));refine AC Z (fun h5 => ?_) (fun h5 => ?_)
 ·
  simp only [HS] at h5
  have hk1' : t.kind = 1 := by assumption
  have hn1 : 0 ≤ t.n ∧ t.n ≤ f.vars - 1 := by have := hst; grind [BM, Ap]
  have hout := hex'.trans ((Gv (f := f) hfz hk3 hk6 hR hz).trans (do_1 hk1'))
  refine AN (Le.adoptBox (u := 101) (j := 1) (id := 191) Z Z Z) (nY Z (AX [[], [], [], [], [], [], [], [], []] Ai (by kernel_rfl) (AM (QG_ev tys Z Z (AA Z) Z (AE (AM (Ax rfl Z (AA Z) Z Z Z (AE (AM (QG_ev tys Z Z (AA Z) Z (AE (AM (QG_ev tys Z Z (AA Z) Z (AE (AQ Z ?_)))))))))))))));refine AM (QG_ev tys Z Z (AA Z) Z (AE (AM (QG_ev tys Z Z (AA Z) Z (AE (AM (QG_ev tys Z Z (AA Z) Z (AE (BJ (DX tys Z Z (AA Z) Z Z Z Z Z Z Z Z hn1.1 (by rw [Sj, hvl]; omega) ?_))))))))));refine AE (AQ Z ?_);refine Fx tys 10008 [T.int R.2.1] Z Z Z Z Z Z (DT _ _ hn1.1 (by rw [hvl]; omega)) Z Z (by repeat (first | exact AbsL.nil' | refine AbsL.v' ?_)) Z (by decide) (S4 Z) ?_;refine BP ?_;refine ⟨by kernel_rfl, ?_⟩;refine nZ Z (AB (Le.gatherBox (u := 101) (j := 1) (id := 191) Z Z Z (by simp) Z) ?_);refine nZ Z (oN (bN (tN (sG (eK 2 Z (nB (AN (Le.close (u := 100) 1100 Z Z Z) (nY Z (AN (Le.close (u := 101) 1101 Z Z Z) (nY Z (rT (bR (AR (bR ?_))))))))))))));refine eP [_, _, _] ?_ ?_
  ·exact GV (by rw [hout] <;> rfl) (by rw [hout] <;> rfl)
  ·rw [hout]
   simp [rS, gC, T.ints, putI, Sh, A6, fuH, coH]
   done
 simp only [HS] at h5;refine sG (eK 2 Z (nB ?_));refine AC Z (fun h6 => ?_) (fun h6 => ?_)
 ·
  simp only [HS] at h6;refine rG ?_
  have hout := hex'.trans ((Gv (f := f) hfz hk3 hk6 hR hz).trans (do_2 (by assumption)))
  refine eK 2 Z (AJ rfl Z (AA Z) Z Z Z (eK 2 Z (kZ [0,1,5,8,9,12,13,14,15,16,17,18,30,31,32,33,34,35,36,37,38,39,40,41,44,45,46,47,56,57,58,59,60,61,62] Z (WO_loadOwn tys Z Z (AA Z) Z Z Z Z Z Z (AB (Le.adoptE (u := 63) 63 Z Z) (nZ Z (eZ Z (bZ [T.int R.2.1] ?_))))))));refine nZ Z (AH tys Z Z (AA Z) Z Z Z Z Z (.own Z (by first | omega | (simp only [Sk]; omega))) Z (.own Z (by first | decide | omega)) (by decide) (by simp; omega) (by decide) Z ?_);refine nZ Z (AB (Le.gather (u := 66) (id := 63) Z Z (by first | (simp; done) | (simp; omega) | omega)) ?_);refine nZ Z (AJ rfl Z (AA Z) Z Z Z (eK 2 Z (sT Z (nZ Z (oN (bN (tN (sQ (kY [0,1,5,8,9,12,13,14,15,16,17,18,30,31,32,33,34,35,36,37,38,39,40,41,44,45,46,47,56,57,58,59,60,61,62,63,64,65,66,67,68,69] Z (rG (eK 2 Z (nB (AN (Le.close (u := 100) 1100 Z Z Z) (nY Z (AN (Le.close (u := 101) 1101 Z Z Z) ?_)))))))))))))));refine nY Z (rT (bR (AR (bR ?_))));refine eP [_, _, _] ?_ ?_
  ·exact GV (by rw [hout] <;> rfl) (by rw [hout] <;> rfl)
  ·rw [hout]
   simp [rS, gC, T.ints, putI, Sh, A6, fuH, coH]
   done
 simp only [HS] at h6;refine sG (eK 2 Z (nB ?_));refine AC Z (fun h7 => ?_) (fun h7 => ?_)
 ·
  simp only [HS] at h7;refine sG ?_
  have hout := hex'.trans ((Gv (f := f) hfz hk3 hk6 hR hz).trans (do_4 (by assumption)))
  refine eK 3 Z (kZ [0,1,5,6,7,8,9,12,13,14,15,16,17,18,30,31,32,33,34,35,36,37,38,39,40,41,44,45,46,47,56,57,70,71,72] Z (nB (AN (Le.close (u := 100) 1100 Z Z Z) (nY Z (AN (Le.close (u := 101) 1101 Z Z Z) (nY Z (rT (bR (tR (bR (AR (bR ?_))))))))))));refine eP [_, _, _] ?_ ?_
  ·exact GV (by rw [hout] <;> rfl) (by rw [hout] <;> rfl)
  ·rw [hout]
   rfl
 simp only [HS] at h7;refine sG (eK 2 Z (nB ?_));refine AC Z (fun h8 => ?_) (fun h8 => ?_)
 ·
  simp only [HS] at h8;refine sQ (kY [0,1,5,8,9,12,13,14,15,16,17,18,30,31,32,33,34,35,36,37,38,39,40,41,44,45,46,47,56,57,70,71,73,74] Z (rG ?_))
  have hout := hex'.trans ((Gv (f := f) hfz hk3 hk6 hR hz).trans (do_5 (by assumption)))
  refine eK 2 Z (AJ rfl Z (AA Z) Z Z Z (eZ Z (sT Z (nZ Z (nA (eK 2 Z (nB (AN (Le.close (u := 100) 1100 Z Z Z) (nY Z (AN (Le.close (u := 101) 1101 Z Z Z) (nY Z (rT (bR (tR (bR ?_)))))))))))))));refine AR (bR ?_);refine eP [_, _, _] ?_ ?_
  ·exact GV (by rw [hout] <;> rfl) (by rw [hout] <;> rfl)
  ·rw [hout]
   rfl
 simp only [HS] at h8;refine sQ (kY [0,1,5,8,9,12,13,14,15,16,17,18,30,31,32,33,34,35,36,37,38,39,40,41,44,45,46,47,56,57,70,71,73,74] Z (rG (eK 2 Z (nB ?_))));refine AC Z (fun h9 => ?_) (fun h9 => ?_)
 ·
  simp only [HS] at h9;refine sQ (sG (eK 2 Z (nB ?_)));refine AC Z (fun h10 => ?_) (fun h10 => ?_)
  ·
   simp only [HS] at h10;refine sG ?_
   have hout := hex'.trans ((Gv (f := f) hfz hk3 hk6 hR hz).trans (do_7t (by assumption) (by omega)))
   have hB := EI p inp most k (lev p inp most k) hL hIs fn f h0 h1' hfd hfl t.thn hk1 hl1 R.2.2 hok2 (by omega) (by omega) (by omega) (by omega) (by omega) bm bc bb q pv iv xv xt
   unfold byK at hB;rw [HW (bb := bb) hby2] at hB;refine eK 4 Z (AB (Le.close (u := 100) 1100 Z Z Z) (nZ Z (AB (Le.close (u := 101) 1101 Z Z Z) (nZ Z ?_))));refine cP [100,101,102] (hm := (hB)) (k := ?_);refine nZ Z (AB (Le.open (u := 100) 1100 Z Z Z Z) (nZ Z (AB (Le.open (u := 101) 1101 Z Z Z Z) (nZ Z (kZ [0,1,5,8,9,12,13,14,15,16,17,18,30,31,32,33,34,35,36,37,38,39,40,41,44,45,46,47,56,57,70,71,73,74,79,80,81,82,83,84,85,86,87] Z (WO_evF tys Z Z (AA Z) (d := .t _) Z (nZ Z (WO_evF tys Z Z (AA Z) (d := .t _) Z (nZ Z (eK 2 Z (nB (AN (Le.close (u := 100) 1100 Z Z Z) (nY Z (AN (Le.close (u := 101) 1101 Z Z Z) (nY Z ?_)))))))))))))));refine rT (tR (bR (tR (bR (AR (bR ?_))))));refine eP [_, _, _] ?_ ?_
   ·exact GV (by rw [hout] <;> rfl) (by rw [hout] <;> rfl)
   ·rw [hout]
    rfl
  simp only [HS] at h10;refine AD (tN (sG ?_))
  have hout := hex'.trans ((Gv (f := f) hfz hk3 hk6 hR hz).trans (do_7e (by assumption) (by omega)))
  have hB := EI p inp most k (lev p inp most k) hL hIs fn f h0 h1' hfd hfl t.els hk2 hl2 R.2.2 hok2 (by omega) (by omega) (by omega) (by omega) (by omega) bm bc bb q pv iv xv xt
  unfold byK at hB;rw [HW (bb := bb) hby2] at hB;refine eK 4 Z (AB (Le.close (u := 100) 1100 Z Z Z) (nZ Z (AB (Le.close (u := 101) 1101 Z Z Z) (nZ Z ?_))));refine cP [100,101,102] (hm := (hB)) (k := ?_);refine nZ Z (AB (Le.open (u := 100) 1100 Z Z Z Z) (nZ Z (AB (Le.open (u := 101) 1101 Z Z Z Z) (nZ Z (kZ [0,1,5,8,9,12,13,14,15,16,17,18,30,31,32,33,34,35,36,37,38,39,40,41,44,45,46,47,56,57,70,71,73,74,79,80,81,82,90,91,92,93,94] Z (WO_evF tys Z Z (AA Z) (d := .t _) Z (nZ Z (WO_evF tys Z Z (AA Z) (d := .t _) Z (nZ Z (eK 2 Z (nB (AN (Le.close (u := 100) 1100 Z Z Z) (nY Z (AN (Le.close (u := 101) 1101 Z Z Z) (nY Z ?_)))))))))))))));refine rT (bR (tR (bR (AR (bR ?_)))));refine eP [_, _, _] ?_ ?_
  ·exact GV (by rw [hout] <;> rfl) (by rw [hout] <;> rfl)
  ·rw [hout]
   rfl
 simp only [HS] at h9;refine sG (eK 2 Z (nB ?_));refine AC Z (fun h10 => ?_) (fun h10 => ?_)
 ·
  simp only [HS] at h10;refine sG (eK 2 Z (nB ?_));refine AC Z (fun h11 => ?_) (fun h11 => ?_)
  ·
   simp only [HS] at h11;refine sQ (sG ?_)
   have hB := EI p inp most k (lev p inp most k) hL hIs fn f h0 h1' hfd hfl t.thn hk1 hl1 R.2.2 hok2 (by omega) (by omega) (by omega) (by omega) (by omega) bm bc bb q pv iv xv xt
   have hb2o := Bw (hL.stmt _ hf) hk1 hok2
   obtain ⟨B, hBd⟩ : ∃ B, B = blS (lev p inp most k) f t.thn R.2.2 := ⟨_, rfl⟩
   change Sx.to p inp f (blS (lev p inp most k) f t.thn R.2.2).1 _ (blS (lev p inp most k) f t.thn R.2.2).2.2 at hb2o;unfold byK at hB;rw [HW (bb := bb) hby2, ← hBd] at hB;rw [← hBd] at hb2o
   have hB0 := hb2o.h0
   have hf3 : B.2.2.m.fuel ≤ R.2.2.m.fuel := hb2o.le.1
   refine eK 3 Z (kZ [0,1,5,8,9,12,13,14,15,16,17,18,30,31,32,33,34,35,36,37,38,39,40,41,44,45,46,47,56,57,70,71,73,74,79,80,97,98,99,100,102,103,104] Z (eZ Z (AB (Le.close (u := 100) 1100 Z Z Z) (nZ Z (AB (Le.close (u := 101) 1101 Z Z Z) (nZ Z ?_))))));refine cP [100,101,102] (hm := (hB)) (k := ?_);refine nZ Z (AB (Le.open (u := 100) 1100 Z Z Z Z) (nZ Z (AB (Le.open (u := 101) 1101 Z Z Z Z) (nZ Z (eZ Z (WO_evF tys Z Z (AA Z) (d := .t _) Z (nZ Z (WO_evF tys Z Z (AA Z) (d := .t _) Z (nZ Z (eK 2 Z (nB (sQ (kY [0,1,5,8,9,10,11,12,13,14,15,16,17,18,30,31,32,33,34,35,36,37,38,39,40,41,44,45,46,47,56,57,70,71,73,74,79,80,97,98,99,100,101,102,103,104,105,106,107,108] Z (rG (eK 2 Z ?_)))))))))))))));refine nB ?_;refine AC Z (fun h12 => ?_) (fun h12 => ?_)
   ·
    simp only [HS] at h12;refine sG ?_
    have hout := hex'.trans ((Gv (f := f) hfz hk3 hk6 hR hz).trans (do_8b (by assumption) (by omega) hBd (ML (by assumption))))
    refine eK 4 Z (nB (AN (Le.close (u := 100) 1100 Z Z Z) (nY Z (AN (Le.close (u := 101) 1101 Z Z Z) (nY Z (rT (tR (bR (tR (bR (AR (bR ?_))))))))))));refine eP [_, _, _] ?_ ?_
    ·exact GV (by rw [hout] <;> rfl) (by rw [hout] <;> rfl)
    ·rw [hout]
     rfl
   simp only [HS] at h12;refine AD (tN (AS (R4 Z (tE (AK ?_)))));refine lQ ((B.2.2.m.fuel : Int), _, _, _) ?_ ?_
   ·dsimp only
    have hB1 : B.1 = 0 := R8 (by assumption); refine ⟨k, B.2.2, by omega, by omega, rfl, (hto.trans h1B (by omega)).trans (by rw [hB1] at hb2o; exact hb2o) (by omega), hex'.trans ((Gv (f := f) hfz hk3 hk6 hR hz).trans (do_8s (by assumption) (by omega) hBd hB1)), ?_, rfl, rfl⟩; rw [hB1, KR (by omega), Kd (by omega)]; rfl
   ·(show Int.toNat _ < Int.toNat _); omega
  simp only [HS] at h11;refine AD (bN (tN (sG (eK 2 Z (nB (AN (Le.close (u := 100) 1100 Z Z Z) (nY Z (AN (Le.close (u := 101) 1101 Z Z Z) (nY Z (rT (bR (AR (bR ?_)))))))))))));refine eP [_, _, _] ?_ ?_
  ·(have hout := hex'.trans ((Gv (f := f) hfz hk3 hk6 hR hz).trans (SI (by assumption) (by omega))); exact GV (by rw [hout] <;> rfl) (by rw [hout] <;> rfl))
  ·(have hout := hex'.trans ((Gv (f := f) hfz hk3 hk6 hR hz).trans (SI (by assumption) (by omega))); rw [hout]; rfl)
 simp only [HS] at h10;refine AD (bN (tN (sG (eK 2 Z (nB (AN (Le.close (u := 100) 1100 Z Z Z) (nY Z (AN (Le.close (u := 101) 1101 Z Z Z) (nY Z (rT (bR (AR (bR ?_)))))))))))));refine eP [_, _, _] ?_ ?_
 ·(have hout := hex'.trans ((Gv (f := f) hfz hk3 hk6 hR hz).trans (do_9 (by assumption) (by assumption) (by assumption) (by assumption) (by assumption) (by assumption))); exact GV (by rw [hout] <;> rfl) (by rw [hout] <;> rfl))
 ·(have hout := hex'.trans ((Gv (f := f) hfz hk3 hk6 hR hz).trans (do_9 (by assumption) (by assumption) (by assumption) (by assumption) (by assumption) (by assumption))); rw [hout]; rfl)
open Go.Eng
def caS (p : Prog) (L : Lev) (most : Nat) (fn : Int) (args : List Int) (b : Option By) (m : Ms) : Int × Int × Option By × Ms := GS L p most fn args b m
def F8 (L : Lev) (k : Int) (b : Option By) (m : Ms) : Int × Int × Option By × Ms := L.call k [] b m
section
variable {p : Prog} {inp : List Int} {f : Func} {L : Lev} {most : Nat} {fn : Int} {args : List Int} {b : Option By} {m : Ms} {R : Int × Int × Sx} {Q : Int × By × Ms}
theorem ca_0 (h : m.fuel = 0) : caS p L most fn args b m = (5, 0, b, A6 m) := by rw [caS, GS, if_pos h, IB h]
theorem ca_d (hf : m.fuel ≠ 0) (h : m.deep = most) : caS p L most fn args b m = (4, 0, b, A6 m) := by rw [caS, GS, if_neg hf, if_pos h]
theorem ca_e (hf : m.fuel ≠ 0) (h : m.deep ≠ most) (hfd : f = funcAt p fn) (hR : R = blS L f f.body (startS f args b m)) (h4 : 4 ≤ R.1) : caS p L most fn args b m = (R.1, 0, R.2.2.by', R.2.2.m) := by
 subst hfd;rw [caS, GS, if_neg hf, if_neg h]
 have e : blockS (L.stmt (funcAt p fn)) (funcAt p fn) (funcAt p fn).body (startS (funcAt p fn) args b m) = R := hR.symm
 simp only [e, if_pos h4]
theorem ca_o (hf : m.fuel ≠ 0) (h : m.deep ≠ most) (hfd : f = funcAt p fn) (hR : R = blS L f f.body (startS f args b m)) (h4 : ¬ 4 ≤ R.1) (hQ : offR (F8 L) R.2.2.off.reverse (endS R.1 R.2.1) R.2.2.m = Q) (h5 : 4 ≤ Q.1) : caS p L most fn args b m = (Q.1, 0, R.2.2.by', Q.2.2) := by
 subst hfd;rw [caS, GS, if_neg hf, if_neg h]
 have e : blockS (L.stmt (funcAt p fn)) (funcAt p fn) (funcAt p fn).body (startS (funcAt p fn) args b m) = R := hR.symm
 have e2 : offR (fun k b m => L.call k [] b m) R.2.2.off.reverse (endS R.1 R.2.1) R.2.2.m = Q := hQ
 simp only [e, if_neg h4, e2, if_pos h5]
theorem ca_f (hf : m.fuel ≠ 0) (h : m.deep ≠ most) (hfd : f = funcAt p fn) (hR : R = blS L f f.body (startS f args b m)) (h4 : ¬ 4 ≤ R.1) (hQ : offR (F8 L) R.2.2.off.reverse (endS R.1 R.2.1) R.2.2.m = Q) (h5 : ¬ 4 ≤ Q.1) : caS p L most fn args b m = (Q.2.1.how, if Q.2.1.how = 2 then Q.2.1.pan else R.2.2.res, R.2.2.by', ⟨Q.2.2.used, Q.2.2.fuel, Q.2.2.deep - 1, Q.2.2.trace⟩) := by
 subst hfd;rw [caS, GS, if_neg hf, if_neg h]
 have e : blockS (L.stmt (funcAt p fn)) (funcAt p fn) (funcAt p fn).body (startS (funcAt p fn) args b m) = R := hR.symm
 have e2 : offR (fun k b m => L.call k [] b m) R.2.2.off.reverse (endS R.1 R.2.1) R.2.2.m = Q := hQ
 simp only [e, if_neg h4, e2, if_neg h5]
end
def OfInv (inp : List Int) (L : Lev) (off : List Int) (b0 : By) (m0 : Ms) (pv iv : Value) (most : Int) (k : Int) (B1 B2 : Blk) : Prop :=
 ∃ (b1 : By) (m1 : Ms), -1 ≤ k ∧ k < off.length ∧ offR (F8 L) off.reverse b0 m0 = offR (F8 L) (off.take (k + 1).toNat).reverse b1 m1 ∧ 1 ≤ b1.how ∧ b1.how < 4 ∧ m0.le inp m1 ∧ m1.deep = m0.deep ∧ B1 = .box (mS pv iv most m1) ∧ B2 = .box (bS (some b1))
section
variable {p : Prog} {inp : List Int} {L : Lev} {off : List Int} {b0 b1 : By} {m0 m1 : Ms} {pv iv : Value} {most : Int} {k : Int} {R : Int × Int × Option By × Ms} {c : By}
theorem IT (h0 : 0 ≤ k) (h1 : k < off.length) : (off.take (k + 1).toNat).reverse = off[k.toNat]'(by omega) :: (off.take (k - 1 + 1).toNat).reverse := by
 rw [show (k + 1).toNat = k.toNat + 1 from by omega, show (k - 1 + 1).toNat = k.toNat from by omega, List.take_succ_eq_append_getElem (by omega), List.reverse_append];rfl
theorem OP (h0 : 0 ≤ k) (h1 : k < off.length) (hex : offR (F8 L) off.reverse b0 m0 = offR (F8 L) (off.take (k + 1).toNat).reverse b1 m1) (hR : R = L.call (off[k.toNat]'(by omega)) [] (some b1) m1) (hc : R.2.2.1 = some c) (h4 : 4 ≤ R.1) :
  offR (F8 L) off.reverse b0 m0 = (R.1, c, R.2.2.2) := by
 have e : F8 L (off[k.toNat]'(by omega)) (some b1) m1 = R := hR.symm
 rw [hex, IT h0 h1, offR];simp only [e, if_pos h4, hc, To]
theorem Fk (h0 : 0 ≤ k) (h1 : k < off.length) (hex : offR (F8 L) off.reverse b0 m0 = offR (F8 L) (off.take (k + 1).toNat).reverse b1 m1) (hb1 : 1 ≤ b1.how) (hb2 : b1.how < 4) (hle : m0.le inp m1) (hd : m1.deep = m0.deep) (hR : R = L.call (off[k.toNat]'(by omega)) [] (some b1) m1)
  (hto : Ms.to inp R.1 (some b1) R.2.2.1 m1 R.2.2.2) (hc : R.2.2.1 = some c) (h4 : ¬ 4 ≤ R.1) {b2 : By} (hb : b2 = if R.1 = 1 then c else ⟨R.1, if R.1 = 2 then R.2.1 else c.pan, c.exd || decide (R.1 = 3)⟩) {B1 B2 : Blk} (e1 : B1 = .box (mS pv iv most R.2.2.2)) (e2 : B2 = .box (bS (some b2))) :
  OfInv inp L off b0 m0 pv iv most (k - 1) B1 B2 := by
 have e : F8 L (off[k.toNat]'(by omega)) (some b1) m1 = R := hR.symm
 have hcb := hto.byk (fun x hx => by cases hx; exact ⟨hb1, hb2⟩) c hc
 have hh1 := hto.h1
 refine ⟨b2, R.2.2.2, by omega, by omega, ?_, ?_, ?_, hle.trans hto.le, (hto.deep (by omega)).trans hd, e1, e2⟩
 ·rw [hex, IT h0 h1, offR]
  simp only [e, if_neg h4, hc, To];subst hb
  split <;> rfl
 ·subst hb
  split
  ·exact hcb.1
  ·exact hh1
 ·subst hb
  split
  ·exact hcb.2
  ·show R.1 < 4; omega
theorem of_end (h0 : ¬ 0 ≤ k) (hex : offR (F8 L) off.reverse b0 m0 = offR (F8 L) (off.take (k + 1).toNat).reverse b1 m1) : offR (F8 L) off.reverse b0 m0 = (0, b1, m1) := by
 rw [hex, show (k + 1).toNat = 0 from by omega];rfl
end
theorem Ro {a a' b b' c c' : Int} (h1 : a = a') (h2 : b = b') (h3 : c = c') : Av [D.t (T.v (Value.int .i64 a)), D.agg [D.t (T.v (Value.int .i64 b)), D.t (T.v (Value.int .i64 c))]] = D.tup [D.t (T.int a'), D.agg [D.t (T.int b'), D.t (T.int c')]] := by rw [h1, h2, h3]; rfl
theorem Kf (p : Prog) (inp : List Int) (most n : Nat) (L : Lev) (hL : Ej p inp L) (hC : ∀ k, n = k + 1 → Ld p inp most k L) (hS : ∀ k, n = k + 1 → Lb p inp most k L) (hg : AZ p = true) (hp : p.ok 1048576) (hi : inp.length ≤ 1048576) (hmost : most ≤ 1048576) (fn : Int) (args : List Int) (b : Option By) (m : Ms) (bm bb : Nat) (pv iv : Value) (xv : List Value) (xt : List T) (h0 : 0 ≤ fn) (h1' : fn < p.funcs.length) (hal : args.length = (atI (paramsL p) fn).toNat) (hu : m.used ≤ inp.length) (hdm : m.deep ≤ most) (hn : m.fuel ≤ n) (hn2 : m.fuel ≤ 1048576) (hti : m.trace.length + m.fuel ≤ 1048576) : Proc Tryz.prog 131 [.t (.v (.pointer (some ⟨bm, 0, none⟩))), .t (.int fn), .t (T.ints args), .t (.int ((m.deep : Int) + 1)), .t (.v (.pointer (some ⟨bb, 0, none⟩)))] ((pv :: iv :: xv)) ((T.Funcs p.funcs :: T.ints inp :: xt)) [.obox (.pointer (some ⟨bb, 0, none⟩)) (bS b), .obox (.pointer (some ⟨bm, 0, none⟩)) (mS pv iv most m)] (.tup [.t (.int (xV (caS p L most fn args b m).1 (caS p L most fn args b m).2.1)), .agg [.t (.int (caS p L most fn args b m).1), .t (.int (eV (caS p L most fn args b m).1 (caS p L most fn args b m).2.1))]]) [.obox (.pointer (some ⟨bb, 0, none⟩)) (bS (caS p L most fn args b m).2.2.1), .obox (.pointer (some ⟨bm, 0, none⟩)) (mS pv iv most (caS p L most fn args b m).2.2.2)] := by
 obtain ⟨f, hfd⟩ : ∃ f, f = funcAt p fn := ⟨_, rfl⟩
 have hfm : f ∈ p.funcs := hfd ▸ CB h0 h1'
 obtain ⟨g1, g2, g3, g4, hsh, g6⟩ := CK hg hfm
 have hpa : atI (paramsL p) fn = f.params := hfd ▸ CW h0 h1'
 have hfa : p.funcs[fn.toNat]'(by omega) = f := by rw [hfd]; exact funcAt_at (by omega)
 have hal2 : args.length ≤ f.vars.toNat := by omega
 have hfo : f.ok 1048576 := hp.1.2 f hfm
 refine Proc.intro tys Tryz.func131 Z Z (N := 138) [100, 101] 99 ([(0, .t (.v (.pointer (some ⟨bm, 0, none⟩)))), (1, .t (.int fn)), (2, .t (T.ints args)), (3, .t (.int ((m.deep : Int) + 1))), (4, .t (.v (.pointer (some ⟨bb, 0, none⟩))))]) ([(100, .obox (.pointer (some ⟨bb, 0, none⟩)) (bS b)), (101, .obox (.pointer (some ⟨bm, 0, none⟩)) (mS pv iv most m)), (99, .ro (pv :: iv :: xv) (T.Funcs p.funcs :: T.ints inp :: xt))]) Z Z Z Z (by decide) (by decide) Z (fun w0 G F0 => ?_);refine nY Z (AN (Le.openNew (u := 101) 1101 Z Z Z Z Z) (nY Z (AN (Le.named (t := 0) (u := 101) 1101 Z Z) (nY Z (sG (eZ Z (AG tys Z Z (AA Z) Z Z Z (nZ Z (nB (sQ (sG (eZ Z (AB (Le.close (u := 101) 1101 Z Z Z) (nZ Z ?_))))))))))))));refine cP [101] (hm := (Kc bm pv iv most m (pv :: iv :: xv) (T.Funcs p.funcs :: T.ints inp :: xt) hn2)) (k := ?_);refine nZ Z (AB (Le.open (u := 101) 1101 Z Z Z Z) (nZ Z (eZ Z (nB ?_))));refine AC Z (fun h1 => ?_) (fun h1 => ?_)
 ·
  simp only [HS] at h1;refine sG ?_
  have hout := ca_0 (p := p) (L := L) (most := most) (fn := fn) (args := args) (b := b) (m := m) (by simp_all)
  refine AI tys Z Z (AA Z) Z Z Z (by kernel_rfl) Z Z Z Z Z Z (eZ Z (sT Z (nZ Z (nB (AN (Le.close (u := 101) 1101 Z Z Z) (nY Z (rT (tR ?_))))))));refine eP [_, _] ?_ ?_
  ·exact Ro (by rw [hout] <;> first | rfl | grind [xV, byH]) (by rw [hout] <;> first | rfl | grind) (by rw [hout] <;> first | rfl | grind [eV, byV, byH])
  ·rw [hout]
   rfl
 simp only [HS] at h1;refine AD (tN (sQ (sG ?_)))
 have hfz : m.fuel ≠ 0 := by simp_all
 refine eK 2 Z (AJ rfl Z (AA Z) Z Z Z (eZ Z (kZ [0,1,2,3,4,10,11,23,26] Z (eK 2 Z (nB ?_)))));refine AC Z (fun h2 => ?_) (fun h2 => ?_)
 ·
  simp only [HS] at h2;refine sG ?_
  have hout := ca_d (p := p) (L := L) (most := most) (fn := fn) (args := args) (b := b) (m := m) hfz (by omega)
  refine AI tys Z Z (AA Z) Z Z Z (by kernel_rfl) Z Z Z Z Z Z (eZ Z (sT Z (nZ Z (nB (AN (Le.close (u := 101) 1101 Z Z Z) (nY Z (rT (tR ?_))))))));refine eP [_, _] ?_ ?_
  ·exact Ro (by rw [hout] <;> first | rfl | grind [xV, byH]) (by rw [hout] <;> first | rfl | grind) (by rw [hout] <;> first | rfl | grind [eV, byV, byH])
  ·rw [hout]
   rfl
 simp only [HS] at h2;refine AD (tN (sG ?_))
 have hdz : m.deep ≠ most := by omega
 obtain ⟨k, hk⟩ : ∃ k, n = k + 1 := ⟨n - 1, by omega⟩
 refine eZ Z (AJ rfl Z (AA Z) Z Z Z (eK 2 Z (Dz tys 99 0 Z Z (AA Z) Z Z Z Z (eZ Z ?_))));refine iY (k := ?_);refine kZ [0,2,3,4,10,11,36] Z (eZ Z ?_);rw [hfa];refine nZ Z (AG tys Z Z (AA Z) Z Z Z (nZ Z (sT Z (nZ Z (nB (sQ ?_))))));refine DK (u := 12) (j := 2) 98 Z Z Z (fun fbv => ?_);refine nY Z ?_;refine DK (u := 12) (j := 3) 97 Z Z Z (fun fsv => ?_);refine nY Z (AN (Le.roIn 99 97 Z Z) (nY Z (AX [[], [], [], [], [], [], [], [], []] Ai (by kernel_rfl) (AM (EU tys Z Z (AA Z) Z Z (AE (AM (QG_ev tys Z Z (AA Z) Z (AE (AM (QG_ev tys Z Z (AA Z) Z (AE (BJ ?_)))))))))))));refine RE tys (T.int 0) Z Z (AA Z) Z Z Z Z Z (by repeat (first | exact AbsL.nil' | refine AbsL.v' ?_ | refine AbsL.none' ?_)) Z (by omega) (by omega) (by decide) ?_;refine AE (AQ Z (AM (QG_ev tys Z Z (AA Z) Z (AE (AM (QG_ev tys Z Z (AA Z) Z (AE (AM (IG (pl := [(0, 4), (4, 1), (5, 1), (6, 1), (7, 1), (8, 1)]) tys Z Z (AA Z) Z Z Z (by kernel_rfl) Z Z Z Z Z (AE (Sd Z Z (AA Z) Z Z Z Z Z (AQ Z (AM (QG_ev tys Z Z (AA Z) Z (AE ?_)))))))))))))));refine BP ?_;refine ⟨by kernel_rfl, ?_⟩;refine nZ Z ?_;refine Kk (u := 45) (pid := 1045) Z Z (fun bc => ?_);refine nZ Z (nB (sQ (AN (Le.nilBox (u := 45) (j := 5) 1 Z Z) (nY Z (AN (Le.adoptBox (u := 45) (j := 4) (id := 191) Z Z Z) (nY Z (AN (Le.eqK (id := 191) Z (k' := .L 1 ((List.replicate f.vars.toNat (0 : Int)).map T.int)) (by rw [List.map_replicate])) ?_)))))));refine nY Z (rG (eZ Z (AJ rfl Z (AA Z) Z Z Z (eK 3 Z (Mc (e := 3) Z Z (AA Z) Z (by kernel_rfl) (by kernel_rfl) Z Z (by simp) Z (by simp; omega) ?_)))));refine nZ Z (AB (Le.gatherBox (u := 45) (j := 4) (id := 191) Z Z Z (by simp; omega) Z) ?_);refine nZ Z (AB (Le.eqK (id := 45) Z (k' := .box (cS f fbv fsv (setL f.vars.toNat args) [] 0 ((m.deep : Int) + 1) bb)) (by rw [Sh (by simp; omega)]; rfl)) ?_);refine nZ Z (nB (sQ ?_))
 have hso := Gu (p := p) (inp := inp) (f := f) (args := args) (b := b) (m := m) hal2 hu
 have hsf : (startS f args b m).m.fuel = m.fuel - 1 := rfl
 have hst : (startS f args b m).m.trace.length = m.trace.length := rfl
 have hsl : (startS f args b m).off.length = 0 := rfl
 have hsd : (startS f args b m).m.deep = m.deep + 1 := rfl
 have hB := EH p inp most k L hL (hS k hk) f hfm hfo.2.1.1 f.body (FO hsh) hfo.1 (startS f args b m) hso (by omega) (by omega) (by omega) (by omega) (by omega) bm bc bb pv iv fbv fsv xv xt
 have hbo := Bw (hL.stmt _ hfm) (FO hsh) hso
 change Sx.to p inp f (blS L f f.body (startS f args b m)).1 _ (blS L f f.body (startS f args b m)).2.2 at hbo
 obtain ⟨R, hR⟩ : ∃ R, R = blS L f f.body (startS f args b m) := ⟨_, rfl⟩
 rw [← hR] at hB hbo;rw [hsd, Int.natCast_add, Int.natCast_one] at hB
 have hR0 := hbo.h0
 have hR5 := hbo.h5
 have hf2 : R.2.2.m.fuel ≤ m.fuel - 1 := hbo.le.1
 have ht2 : R.2.2.m.trace.length + R.2.2.m.fuel ≤ m.trace.length + (m.fuel - 1) := hbo.le.2.1
 have ho2 : R.2.2.off.length + R.2.2.m.fuel ≤ 0 + (m.fuel - 1) := hbo.offl
 refine rG (eK 3 Z (kZ [0,3,10,11,13,52,53,54] Z (Dz tys 98 0 Z Z (AA Z) Z Z Z Z (AB (Le.close (u := 101) 1101 Z Z Z) (nZ Z (AB (Le.close (u := 45) 1045 Z Z Z) (nZ Z ?_)))))));refine cP [101,45,100] (hm := (hB)) (k := ?_);refine nZ Z (AB (Le.open (u := 101) 1101 Z Z Z Z) (nZ Z (AB (Le.open (u := 45) 1045 Z Z Z Z) (nZ Z (AG tys Z Z (AA Z) Z Z Z (nZ Z (sT Z (nZ Z (nB (sQ (sG (eK 3 Z (nB ?_)))))))))))));refine A4 (α := Blk) [0, 3, 10, 11, 13, 14] [11, 45, 99, 100, 101, 1101, 1045] (fun x => []) (fun x => [(14, x)]) (fun x => x = .box [.t (.int (endS R.1 R.2.1).how), .t (.int (eV R.1 R.2.1))]) ?_ (fun b14 hx => ?_)
 ·
  refine AC Z (fun h3 => ?_) (fun h3 => ?_)
  ·
   simp only [HS] at h3;refine kY [0,3,10,11,13,14] Z (rG (eZ Z (sT Z (nZ Z (oN (jQ _ ?_))))))
   (rw [show (endS R.1 R.2.1).how = 1 from by simp only [endS]; split <;> omega] <;> rfl)
  simp only [HS] at h3;refine AD (jQ _ ?_)
  (rw [show (endS R.1 R.2.1).how = R.1 from by simp only [endS]; split <;> omega] <;> rfl)
 have hb14 := hx
 refine tN (sQ (sQ ?_));subst hb14
 have hew : (endS R.1 R.2.1).how = if R.1 = 0 then 1 else R.1 := rfl
 refine kY [0,3,10,11,13,14] Z (rG (eK 3 Z (nB ?_)));refine AC Z (fun h3 => ?_) (fun h3 => ?_)
 ·
  simp only [HS] at h3;refine sQ ?_
  have hr4 : 4 ≤ R.1 := by split at hew <;> omega
  have hew2 : (endS R.1 R.2.1).how = R.1 := by rw [hew, if_neg (by omega)]
  have hout := ca_e hfz hdz hfd hR hr4
  refine AX [[], [], []] Ai (by kernel_rfl) (AM (EU tys Z Z (AA Z) Z Z (AE (AM (QG_ev tys Z Z (AA Z) Z (AE (B4 tys 10002 Z Z Z Z Z Z Z Z Z (S4 Z) (BP ?_))))))));refine ⟨by kernel_rfl, ?_⟩;refine nZ Z (nB (AN (Le.close (u := 101) 1101 Z Z Z) (nY Z (rT (tR ?_)))));refine eP [_, _] ?_ ?_
  ·exact Ro (by rw [hout] <;> first | rfl | grind [xV, byH]) (by rw [hout] <;> first | rfl | grind) (by rw [hout] <;> first | rfl | grind [eV, byV, byH])
  ·rw [hout]
   rfl
 simp only [HS] at h3;refine AD (tN (sQ ?_))
 have hr4 : ¬ 4 ≤ R.1 := by split at hew <;> omega
 have hd2 : R.2.2.m.deep = m.deep + 1 := hbo.deep (by omega)
 have hes := LR (v := R.2.1) hR0 (by omega)
 refine rG (eZ Z ?_)
 try refine AB (Le.freeze (u := 65) rfl) ?_
 refine nZ Z (EK (pl := [(0, 2), (2, 1)]) tys Z Z (AA Z) Z Z Z (by kernel_rfl) Z Z Z Z Z (AV Z Z (AA Z) Z Z (nZ Z (eZ Z (nB (sQ (sQ ?_)))))));refine Na (u := 67) (pid := 1067) Z Z (fun bx => ?_);refine nY Z (kY [0,3,10,11,13,14,15] Z (rG (eK 3 Z (nB ?_))));refine A4 (α := Blk) [0, 3, 10, 11, 13, 15] [11, 45, 99, 100, 101, 1101, 1045, 1067] (fun x => []) (fun x => [(67, x)]) (fun x => x = .box (bS (some (endS R.1 R.2.1)))) ?_ (fun b67 hx => ?_)
 ·
  refine AC Z (fun h4 => ?_) (fun h4 => ?_)
  ·
   simp only [HS] at h4;refine rG (eZ Z (AJ rfl Z (AA Z) Z Z Z (eZ Z (sT Z (nZ Z (oN (jQ _ ?_)))))))
   grind [endS, bS, byH, byV, byB, eV]
  simp only [HS] at h4;refine AD (jQ _ ?_)
  grind [endS, bS, byH, byV, byB, eV]
 have hb67 := hx
 refine tN (sQ (sQ ?_));subst hb67;refine AN (Le.adoptBoxI (u := 45) (j := 5) (id := 192) Z Z Z) (nY Z (kY [0,3,10,11,13,15] Z (rG (eZ Z (AJ rfl Z (AA Z) Z Z Z (eK 2 Z (evE ?_)))))));refine evI ?_;refine eZ Z (nB (AF ?_));refine lK (α := Int × Blk × Blk) [0, 3, 11, 13, 15] [11, 45, 192, 99, 100, 1101, 1067] (fun x => [(16, .t (.int (x.1)))]) (fun x => [(101, (x.2.1)), (67, (x.2.2))]) (fun x => OfInv inp L R.2.2.off (endS R.1 R.2.1) R.2.2.m pv iv most (x.1) (x.2.1) (x.2.2)) (fun x => Int.toNat ((x.1) + 1)) ((R.2.2.off.length : Int) - 1, .box (mS pv iv most R.2.2.m), .box (bS (some (endS R.1 R.2.1)))) ?_ (fun x hx => ?_)
 ·exact ⟨_, _, by omega, by omega, by rw [Sh (by omega)], hes.1, hes.2, ⟨S3 _, S3 _, hbo.ok.used⟩, rfl, rfl, rfl⟩
 obtain ⟨k', B1, B2⟩ := x
 obtain ⟨b1, m1, hk0, hk1, hex, hb1, hb2, hle, hd1, hB1, hB2⟩ := hx
 dsimp only at hk0 hk1 hex hb1 hb2 hle hd1 hB1 hB2 ⊢;subst hB1 hB2;refine nY Z (sQ (sG (eK 2 Z (nB ?_))));refine AC Z (fun h4 => ?_) (fun h4 => ?_)
 ·
  simp only [HS] at h4;refine AD (tN (sQ (AF (sQ ?_))))
  have hk0' : 0 ≤ k' := by omega
  have hf3 : m1.fuel ≤ R.2.2.m.fuel := hle.1
  have ht3 : m1.trace.length + m1.fuel ≤ R.2.2.m.trace.length + R.2.2.m.fuel := hle.2.1
  obtain ⟨q0, q1, q2⟩ := hbo.ok.off (R.2.2.off[k'.toNat]'(by omega)) (Ss _)
  have hto1 := hL.call (R.2.2.off[k'.toNat]'(by omega)) [] (some b1) m1 q0 q1 (by rw [q2]; rfl) hle.2.2
  have hCa := hC k hk (R.2.2.off[k'.toNat]'(by omega)) [] (some b1) m1 bm bx pv iv (fsv :: xv) (T.Stmts f.stmts :: xt) q0 q1 (by rw [q2]; rfl) hle.2.2 (by omega) (by omega) (by omega) (by omega)
  obtain ⟨R1, hR1⟩ : ∃ R1, R1 = L.call (R.2.2.off[k'.toNat]'(by omega)) [] (some b1) m1 := ⟨_, rfl⟩
  rw [← hR1] at hCa hto1;rw [hd1, hd2, Int.natCast_add, Int.natCast_one] at hCa
  obtain ⟨c1, hc1⟩ : ∃ c1, R1.2.2.1 = some c1 := by have := hto1.by'; cases h : R1.2.2.1 with | none => rw [h] at this; cases this | some c1 => exact ⟨c1, rfl⟩
  rw [hc1] at hCa
  have hh1 := hto1.h1
  have hh5 := hto1.h5
  refine rG (eK 2 Z (AJ rfl Z (AA Z) Z Z Z (eK 3 Z (BI tys Z Z (AA Z) Z Z Z Z Z Z Z Z (by omega) (by omega) (kZ [0,3,11,13,15,16,80,81,85,86,87,88,89,90,91] Z (Ay tys Z Z (AA Z) Z Z Z Z (DT _ _ (by omega) (by omega)) Z (eZ Z (evI ?_))))))));refine eZ Z (AB (Le.close (u := 67) 1067 Z Z Z) (nZ Z (AB (Le.close (u := 101) 1101 Z Z Z) (nZ Z ?_))));refine cP [67,101] (hm := (hCa)) (k := ?_);refine nZ Z (AB (Le.open (u := 67) 1067 Z Z Z Z) (nZ Z (AB (Le.open (u := 101) 1101 Z Z Z Z) (nZ Z (eZ Z (WO_evF tys Z Z (AA Z) (d := .t _) Z (nZ Z (AW Z Z (AA Z) Z Z Z Z ?_))))))))
  first | refine AB (Le.adoptE (u := 98) 98 rfl (by first | exact Ec | exact rfl)) ?_ | skip
  refine nZ Z (AG tys Z Z (AA Z) Z Z Z (nZ Z (kZ [0,3,11,13,15,16,18,80,81,84,85,86,87,88,89,90,91,92,93,94,95,96,97,98] Z (eZ Z (sT Z (nZ Z (nA (eK 2 Z (nB (AF (sQ (sG (eK 2 Z (nB ?_))))))))))))));refine AC Z (fun h5 => ?_) (fun h5 => ?_)
  ·
   simp only [HS] at h5;refine AD (tN ?_);refine AC Z (fun h6 => ?_) (fun h6 => ?_)
   ·
    simp only [HS] at h6;refine sQ ?_
    have hout := ca_o hfz hdz hfd hR hr4 (OP hk0' hk1 hex hR1 hc1 (by omega)) (by show 4 ≤ R1.1; omega)
    refine AX [[], [], []] Ai (by kernel_rfl) (AM (EU tys Z Z (AA Z) Z Z (AE (AM (QG_ev tys Z Z (AA Z) Z (AE (B4 tys 10002 Z Z Z Z Z Z Z Z Z (S4 Z) (BP ?_))))))));refine ⟨by kernel_rfl, ?_⟩;refine nZ Z (nB (AN (Le.close (u := 101) 1101 Z Z Z) (nY Z (rT (bR (bR (tR (AR (bR (tR ?_))))))))));refine eP [_, _] ?_ ?_
    ·exact Ro (by rw [hout] <;> first | rfl | grind [xV, byH]) (by rw [hout] <;> first | rfl | grind) (by rw [hout] <;> first | rfl | grind [eV, byV, byH])
    ·rw [hout]
     rfl
   simp only [HS] at h6;refine sG (eK 2 Z (nB ?_));refine AC Z (fun h7 => ?_) (fun h7 => ?_)
   ·
    simp only [HS] at h7;refine kY [0,3,11,13,15,16,18,80,81,84,85,86,87,88,89,90,91,92,93,94,95,96,97,98,99,100,101,102,105,106] Z (rG (eK 2 Z ?_))
    try refine AB (Le.freeze (u := 108) rfl) ?_
    refine nZ Z (AJ rfl Z (AA Z) Z Z Z (eZ Z (sT Z (nZ Z (oN (bN (bN (tN (rG (eZ Z (evI ?_)))))))))));refine eZ Z (oN ?_);refine lQ (_, _, _) ?_ ?_
    ·dsimp only
     exact Fk hk0' hk1 hex hb1 hb2 hle hd1 hR1 hto1 hc1 (by omega) rfl rfl (by grind [bS, byH, byV, byB, eV])
    ·(show Int.toNat _ < Int.toNat _); omega
   simp only [HS] at h7;refine sQ (kY [0,3,11,13,15,16,18,80,81,84,85,86,87,88,89,90,91,92,93,94,95,96,97,98,99,100,101,102,105,106] Z (rG (eK 2 Z (nB ?_))));refine AC Z (fun h8 => ?_) (fun h8 => ?_)
   ·
    simp only [HS] at h8;refine sG (eK 2 Z ?_)
    try refine AB (Le.freeze (u := 114) rfl) ?_
    refine nZ Z (AJ rfl Z (AA Z) Z Z Z (eZ Z (sT Z (nZ Z (nB (kY [0,3,11,13,15,16,18,80,81,84,85,86,87,88,89,90,91,92,93,94,95,96,97,98,99,100,101,102,105,106,111,112,113,114,115,116] Z (rG (eZ Z (AJ rfl Z (AA Z) Z Z Z (eZ Z (sT Z (nZ Z (oN (bN (bN ?_)))))))))))))));refine tN (rG (eZ Z (evI ?_)));refine eZ Z (oN ?_);refine lQ (_, _, _) ?_ ?_
    ·dsimp only
     exact Fk hk0' hk1 hex hb1 hb2 hle hd1 hR1 hto1 hc1 (by omega) rfl rfl (by grind [bS, byH, byV, byB, eV])
    ·(show Int.toNat _ < Int.toNat _); omega
   simp only [HS] at h8;refine AD (bN (bN (tN (rG (eZ Z (evI ?_))))));refine eZ Z (oN ?_);refine lQ (_, _, _) ?_ ?_
   ·dsimp only
    exact Fk hk0' hk1 hex hb1 hb2 hle hd1 hR1 hto1 hc1 (by omega) rfl rfl (by grind [bS, byH, byV, byB, eV])
   ·(show Int.toNat _ < Int.toNat _); omega
  simp only [HS] at h5;refine rG (eK 2 Z (nB ?_));refine AC Z (fun h6 => ?_) (fun h6 => ?_)
  ·
   simp only [HS] at h6;refine sQ ?_
   have hout := ca_o hfz hdz hfd hR hr4 (OP hk0' hk1 hex hR1 hc1 (by omega)) (by show 4 ≤ R1.1; omega)
   refine kY [0,3,11,13,15,16,18,80,81,84,85,86,87,88,89,90,91,92,93,94,95,96,97,98,99,100,101,102,103] Z (AX [[], [], []] Ai (by kernel_rfl) (AM (EU tys Z Z (AA Z) Z Z (AE (AM (QG_ev tys Z Z (AA Z) Z (AE (B4 tys 10002 Z Z Z Z Z Z Z Z Z (S4 Z) (BP ?_)))))))));refine ⟨by kernel_rfl, ?_⟩;refine nZ Z (nB (AN (Le.close (u := 101) 1101 Z Z Z) (nY Z (rT (bR (bR (tR (AR (bR (tR ?_))))))))));refine eP [_, _] ?_ ?_
   ·exact Ro (by rw [hout] <;> first | rfl | grind [xV, byH]) (by rw [hout] <;> first | rfl | grind) (by rw [hout] <;> first | rfl | grind [eV, byV, byH])
   ·rw [hout]
    rfl
  simp only [HS] at h6;refine sQ (kY [0,3,11,13,15,16,18,80,81,84,85,86,87,88,89,90,91,92,93,94,95,96,97,98,99,100,101,102,103] Z (rG (eK 2 Z (nB ?_))));refine AC Z (fun h7 => ?_) (fun h7 => ?_)
  ·
   simp only [HS] at h7;refine rG (eK 2 Z ?_)
   try refine AB (Le.freeze (u := 108) rfl) ?_
   refine nZ Z (AJ rfl Z (AA Z) Z Z Z (eZ Z (sT Z (nZ Z (oN (bN (bN (tN (kY [0,3,11,13,15,16,18,80,81,84,85,86,87,88,89,90,91,92,93,94,95,96,97,98,99,100,101,102,103,105,106,107,108,109,110] Z (rG (eZ Z (evI ?_))))))))))));refine eZ Z (oN ?_);refine lQ (_, _, _) ?_ ?_
   ·dsimp only
    exact Fk hk0' hk1 hex hb1 hb2 hle hd1 hR1 hto1 hc1 (by omega) rfl rfl (by grind [bS, byH, byV, byB, eV])
   ·(show Int.toNat _ < Int.toNat _); omega
  simp only [HS] at h7;refine sG (eK 2 Z (nB ?_));refine AC Z (fun h8 => ?_) (fun h8 => ?_)
  ·
   simp only [HS] at h8;refine sG (eK 2 Z ?_)
   try refine AB (Le.freeze (u := 114) rfl) ?_
   refine nZ Z (AJ rfl Z (AA Z) Z Z Z (eZ Z (sT Z (nZ Z (kZ [0,3,11,13,15,16,18,80,81,84,85,86,87,88,89,90,91,92,93,94,95,96,97,98,99,100,101,102,103,105,106,111,112,113,114,115,116] Z (nB (rG (eZ Z (AJ rfl Z (AA Z) Z Z Z (eZ Z (sT Z (nZ Z (oN (bN (bN ?_)))))))))))))));refine tN (rG (eZ Z (evI ?_)));refine eZ Z (oN ?_);refine lQ (_, _, _) ?_ ?_
   ·dsimp only
    exact Fk hk0' hk1 hex hb1 hb2 hle hd1 hR1 hto1 hc1 (by omega) rfl rfl (by grind [bS, byH, byV, byB, eV])
   ·(show Int.toNat _ < Int.toNat _); omega
  simp only [HS] at h8;refine AD (bN (bN (tN (rG (eZ Z (evI ?_))))));refine eZ Z (oN ?_);refine lQ (_, _, _) ?_ ?_
  ·dsimp only
   exact Fk hk0' hk1 hex hb1 hb2 hle hd1 hR1 hto1 hc1 (by omega) rfl rfl (by grind [bS, byH, byV, byB, eV])
  ·(show Int.toNat _ < Int.toNat _); omega
 simp only [HS] at h4;refine AS (tE (AP (AK (tN (sQ (sQ ?_))))))
 have hQ := of_end (by omega) hex
 have hout : caS p L most fn args b m = (b1.how, if b1.how = 2 then b1.pan else R.2.2.res, R.2.2.by', ⟨m1.used, m1.fuel, m1.deep - 1, m1.trace⟩) := ca_f hfz hdz hfd hR hr4 hQ (by show ¬ (4 : Int) ≤ 0; omega)
 refine rG (eZ Z (AJ rfl Z (AA Z) Z Z Z (eK 4 Z (nB ?_))));refine AC Z (fun h5 => ?_) (fun h5 => ?_)
 ·
  simp only [HS] at h5;refine sQ (kY [11,13,15] Z (AX [[], [], [], [], [], [], [], [], [], []] Ai (by kernel_rfl) (AM (QG_ev tys Z Z (AA Z) Z (AE (AM (Ax rfl Z (AA Z) Z Z Z (AE (AM (QG_ev tys Z Z (AA Z) Z (AE (AM (QG_ev tys Z Z (AA Z) Z (AE (AQ Z ?_)))))))))))))));refine AM (QG_ev tys Z Z (AA Z) Z (AE (AM (Ax rfl Z (AA Z) Z Z Z (AE (AM (QG_ev tys Z Z (AA Z) Z (AE (AM (EU tys Z Z (AA Z) Z Z (AE (AQ Z (AM (QG_ev tys Z Z (AA Z) Z (AE ?_)))))))))))))));refine B4 tys 10009 Z Z Z Z Z Z Z Z Z (S4 Z) (BP ?_);refine ⟨by kernel_rfl, ?_⟩;refine nZ Z (nB (AN (Le.close (u := 101) 1101 Z Z Z) (nY Z (rT (tR ?_)))));refine eP [_, _] ?_ ?_
  ·exact Ro (by rw [hout] <;> first | rfl | grind [xV, byH]) (by rw [hout] <;> first | rfl | grind) (by rw [hout] <;> first | rfl | grind [eV, byV, byH])
  ·rw [hout]
   rfl
 simp only [HS] at h5;refine AD (tN (sQ (kY [11,15] Z (AX [[], [], [], [], [], []] Ai (by kernel_rfl) (AM (QG_ev tys Z Z (AA Z) Z (AE (AM (Ax rfl Z (AA Z) Z Z Z (AE (AM (QG_ev tys Z Z (AA Z) Z (AE (AM (EU tys Z Z (AA Z) Z Z ?_)))))))))))))));refine AE (AQ Z (AM (QG_ev tys Z Z (AA Z) Z (AE (B4 tys 10005 Z Z Z Z Z Z Z Z Z (S4 Z) (BP ?_))))));refine ⟨by kernel_rfl, ?_⟩;refine nZ Z (nB (AN (Le.close (u := 101) 1101 Z Z Z) (nY Z (rT ?_))));refine eP [_, _] ?_ ?_
 ·exact Ro (by rw [hout] <;> first | rfl | grind [xV, byH]) (by rw [hout] <;> first | rfl | grind) (by rw [hout] <;> first | rfl | grind [eV, byV, byH])
 ·rw [hout]
  rfl
theorem NP {p : Prog} {inp : List Int} {most n : Nat} {L : Lev} (hL : Ej p inp L) (hC : ∀ k, n = k + 1 → Ld p inp most k L) (hS : ∀ k, n = k + 1 → Lb p inp most k L) (hg : AZ p = true) (hp : p.ok 1048576) (hi : inp.length ≤ 1048576) (hmost : most ≤ 1048576) (L' : Lev) (hl : L'.call = GS L p most) : Ld p inp most n L' := by
 intro fn args b m bm bb pv iv xv xt h0 h1 ha hu hd hn hn2 hti;rw [hl];exact Kf p inp most n L hL hC hS hg hp hi hmost fn args b m bm bb pv iv xv xt h0 h1 ha hu hd hn hn2 hti
open Go.Eng
def lvC (p : Prog) (inp : List Int) (most n : Nat) (fn : Int) (args : List Int) (b : Option By) (m : Ms) : Int × Int × Option By × Ms := (lev p inp most n).call fn args b m
theorem lc_0 {p : Prog} {inp : List Int} {most n : Nat} {fn : Int} {args : List Int} {b : Option By} {m : Ms} (h : m.fuel = 0) : lvC p inp most n fn args b m = (5, 0, b, A6 m) := by
 cases n with
 | zero => show (5, 0, b, m) = _; rw [IB h]
 | succ n => exact ca_0 h
def OfI (inp : List Int) (L : Lev) (off : List Int) (b0 : By) (m0 : Ms) (pv iv : Value) (most fn : Int) (vars : List Int) (res : Int) (bp : Value) (l : List Int) (B1 B2 : Blk) : Prop :=
 ∃ (b1 : By) (m1 : Ms), (∀ x, x ∈ l → x ∈ off) ∧ l.length ≤ off.length ∧ offR (F8 L) off.reverse b0 m0 = offR (F8 L) l.reverse b1 m1 ∧ 1 ≤ b1.how ∧ b1.how < 4 ∧ m0.le inp m1 ∧ m1.deep = m0.deep ∧ B1 = .box (rS pv iv most m1.fuel 0 m1) ∧ B2 = .box (gC fn vars l res b1.how b1.pan b1.exd bp)
section
variable {p : Prog} {inp : List Int} {L : Lev} {off l : List Int} {b0 b1 : By} {m0 m1 : Ms} {pv iv bp : Value} {most fn res x : Int} {vars : List Int} {R : Int × Int × Option By × Ms} {c : By}
theorem revL (h : 0 < (l.length : Int)) : l.reverse = l[((l.length : Int) - 1).toNat]'(by omega) :: (l.take ((l.length : Int) - 1).toNat).reverse := by
 have := IT (off := l) (k := (l.length : Int) - 1) (by omega) (by omega)
 rw [show ((l.length : Int) - 1 + 1).toNat = l.length from by omega, Sr, show ((l.length : Int) - 1 - 1 + 1).toNat = ((l.length : Int) - 1).toNat from by omega] at this;exact this
theorem L1 (h : 0 < (l.length : Int)) (hex : offR (F8 L) off.reverse b0 m0 = offR (F8 L) l.reverse b1 m1) (hR : R = L.call (l[((l.length : Int) - 1).toNat]'(by omega)) [] (some b1) m1) (hc : R.2.2.1 = some c) (h4 : 4 ≤ R.1) : offR (F8 L) off.reverse b0 m0 = (R.1, c, R.2.2.2) := by
 have e : F8 L (l[((l.length : Int) - 1).toNat]'(by omega)) (some b1) m1 = R := hR.symm
 rw [hex, revL h, offR];simp only [e, if_pos h4, hc, To]
theorem ofI_next (h : 0 < (l.length : Int)) (hin : ∀ x, x ∈ l → x ∈ off) (hlen : l.length ≤ off.length) (hex : offR (F8 L) off.reverse b0 m0 = offR (F8 L) l.reverse b1 m1) (hb1 : 1 ≤ b1.how) (hb2 : b1.how < 4) (hle : m0.le inp m1) (hd : m1.deep = m0.deep) (hR : R = L.call (l[((l.length : Int) - 1).toNat]'(by omega)) [] (some b1) m1)
  (hto : Ms.to inp R.1 (some b1) R.2.2.1 m1 R.2.2.2) (hc : R.2.2.1 = some c) (h4 : ¬ 4 ≤ R.1) {b2 : By} (hb : b2 = if R.1 = 1 then c else ⟨R.1, if R.1 = 2 then R.2.1 else c.pan, c.exd || decide (R.1 = 3)⟩) {B1 B2 : Blk} (e1 : B1 = .box (rS pv iv most (fuH R.1 R.2.2.2) (coH R.1) R.2.2.2)) (e2 : B2 = .box (gC fn vars (l.take ((l.length : Int) - 1).toNat) res b2.how b2.pan b2.exd bp)) :
  OfI inp L off b0 m0 pv iv most fn vars res bp (l.take ((l.length : Int) - 1).toNat) B1 B2 := by
 have e : F8 L (l[((l.length : Int) - 1).toNat]'(by omega)) (some b1) m1 = R := hR.symm
 have hcb := hto.byk (fun x hx => by cases hx; exact ⟨hb1, hb2⟩) c hc
 have hh1 := hto.h1
 rw [KR (by omega), Kd (by omega)] at e1;refine ⟨b2, R.2.2.2, fun x hx => hin x (TC hx), by rw [Sm]; omega, ?_, ?_, ?_, hle.trans hto.le, (hto.deep (by omega)).trans hd, e1, e2⟩
 ·rw [hex, revL h, offR]
  simp only [e, if_neg h4, hc, To];subst hb
  split <;> rfl
 ·subst hb
  split
  ·exact hcb.1
  ·exact hh1
 ·subst hb
  split
  ·exact hcb.2
  ·show R.1 < 4; omega
theorem Ru (h0 : ¬ 0 < (l.length : Int)) (hex : offR (F8 L) off.reverse b0 m0 = offR (F8 L) l.reverse b1 m1) : offR (F8 L) off.reverse b0 m0 = (0, b1, m1) := by
 rw [hex, show l = [] from TY (by omega)];rfl
theorem Qh {h : Int} (e : haH h = 4) : 4 ≤ h := by unfold haH at e; split at e <;> omega
theorem RR {h : Int} (e : ¬ haH h = 4) : ¬ 4 ≤ h := by intro h'; unfold haH at e; rw [if_pos h'] at e; exact e rfl
end
theorem NR (p : Prog) (inp : List Int) (most n : Nat) (hI : ∀ k, k < n → Pk p inp most k (lev p inp most k) ∧ Pd p inp most k (lev p inp most k)) (hg : AZ p = true) (hp : p.ok 1048576) (hi : inp.length ≤ 1048576) (hmost : most ≤ 1048576) (fn : Int) (args : List Int) (b : Option By) (m : Ms) (bm bb : Nat) (q : Kp) (pv iv : Value) (xv : List Value) (xt : List T) (h0 : 0 ≤ fn) (h1' : fn < p.funcs.length) (hal : args.length = (atI (paramsL p) fn).toNat) (hu : m.used ≤ inp.length) (hdm : m.deep ≤ most) (hn : m.fuel ≤ n) (hz : m.fuel = 0) (hn2 : m.fuel ≤ 1048576) (hti : m.trace.length + m.fuel ≤ 1048576) : Proc Tryz.prog 94 [.t (.v (.pointer (some ⟨bm, 0, none⟩))), .t (.int fn), .t (T.ints args), .t (.v (byP bb b))] ((pv :: iv :: xv)) ((T.Funcs p.funcs :: T.ints inp :: xt)) [byK bb q b, .obox (.pointer (some ⟨bm, 0, none⟩)) (rS pv iv most m.fuel 0 m)] (.tup [.t (.int (haH (lvC p inp most n fn args b m).1)), .t (.int (lvC p inp most n fn args b m).2.1)]) [.obox (byP bb b) (gC q.fn q.vars q.off q.res (hH (lvC p inp most n fn args b m).2.2.1) (nH (lvC p inp most n fn args b m).2.2.1) (xH (lvC p inp most n fn args b m).2.2.1) q.bp), .obox (.pointer (some ⟨bm, 0, none⟩)) (rS pv iv most (fuH (lvC p inp most n fn args b m).1 (lvC p inp most n fn args b m).2.2.2) (coH (lvC p inp most n fn args b m).1) (lvC p inp most n fn args b m).2.2.2)] := by
 obtain ⟨f, hfd⟩ : ∃ f, f = funcAt p fn := ⟨_, rfl⟩
 have hfm : f ∈ p.funcs := hfd ▸ CB h0 h1'
 obtain ⟨g1, g2, g3, g4, hsh, g6⟩ := CK hg hfm
 have hpa : atI (paramsL p) fn = f.params := hfd ▸ CW h0 h1'
 have hfa : p.funcs[fn.toNat]'(by omega) = f := by rw [hfd]; exact funcAt_at (by omega)
 have hget : (p.funcs.map Func.tt)[fn.toNat]? = some f.tt := by rw [FB _ _ h0 h1', hfa]
 have hal2 : args.length ≤ f.vars.toNat := by omega
 have hfo : f.ok 1048576 := hp.1.2 f hfm
 have hBu := HX bm pv iv most m (pv :: iv :: xv) (T.Funcs p.funcs :: T.ints inp :: xt) (by omega)
 obtain ⟨co, hco⟩ : ∃ co : Int, co = if m.fuel = 0 then 5 else 0 := ⟨_, rfl⟩
 rw [← hco] at hBu;refine Proc.intro tys Tryz.func94 Z Z (N := 157) [100, 101] 99 ([(0, .t (.v (.pointer (some ⟨bm, 0, none⟩)))), (1, .t (.int fn)), (2, .t (T.ints args)), (3, .t (.v (byP bb b)))]) ([(100, byK bb q b), (101, .obox (.pointer (some ⟨bm, 0, none⟩)) (rS pv iv most m.fuel 0 m)), (99, .ro (pv :: iv :: xv) (T.Funcs p.funcs :: T.ints inp :: xt))]) Z Z Z Z (by decide) (by decide) Z (fun w0 G F0 => ?_);refine nY Z (AN (Le.openNew (u := 101) 1101 Z Z Z Z Z) (nY Z (AN (Le.named (t := 0) (u := 101) 1101 Z Z) (nY Z (sG (eK 2 Z (nB (sQ (sQ (Ag Ai (by kernel_rfl) (evQ ?_)))))))))));refine A0 rfl Z (AA Z) Z Z Z (evQ ?_);refine evQ ?_;refine AU Z (evQ ?_);refine FU (v := false) (by simp [hz]) ?_;refine evQ ?_
 iterate 9 (refine Pf rfl rfl rfl rfl rfl (AA rfl) ?_)
 refine evQ ?_;refine A8 (tN (A5 Z (AD (tN (sQ (sG (eZ Z (AB (Le.close (u := 101) 1101 Z Z Z) (nZ Z ?_)))))))));refine cP [101] (hm := (hBu)) (k := ?_);refine nZ Z (AB (Le.open (u := 101) 1101 Z Z Z Z) (nZ Z (AB (Le.known (t := 38) false Z (by simp [hz])) ?_)));refine eZ Z (nB (Af Z (sG (eK 2 Z (nB (AN (Le.close (u := 101) 1101 Z Z Z) (nY Z (rT (tR ?_)))))))));refine eP [_, _] ?_ ?_
 ·exact GV (by rw [lc_0 hz] <;> rfl) (by rw [lc_0 hz] <;> rfl)
 ·(rw [if_pos hz] at hco; subst hco; rw [lc_0 hz]; rfl)
theorem NQ (p : Prog) (inp : List Int) (most n : Nat) (hI : ∀ k, k < n → Pk p inp most k (lev p inp most k) ∧ Pd p inp most k (lev p inp most k)) (hg : AZ p = true) (hp : p.ok 1048576) (hi : inp.length ≤ 1048576) (hmost : most ≤ 1048576) (fn : Int) (args : List Int) (b : Option By) (m : Ms) (bm bb : Nat) (q : Kp) (pv iv : Value) (xv : List Value) (xt : List T) (h0 : 0 ≤ fn) (h1' : fn < p.funcs.length) (hal : args.length = (atI (paramsL p) fn).toNat) (hu : m.used ≤ inp.length) (hdm : m.deep ≤ most) (hn : m.fuel ≤ n) (hfz : m.fuel ≠ 0) (hn2 : m.fuel ≤ 1048576) (hti : m.trace.length + m.fuel ≤ 1048576) : Proc Tryz.prog 94 [.t (.v (.pointer (some ⟨bm, 0, none⟩))), .t (.int fn), .t (T.ints args), .t (.v (byP bb b))] ((pv :: iv :: xv)) ((T.Funcs p.funcs :: T.ints inp :: xt)) [byK bb q b, .obox (.pointer (some ⟨bm, 0, none⟩)) (rS pv iv most m.fuel 0 m)] (.tup [.t (.int (haH (lvC p inp most n fn args b m).1)), .t (.int (lvC p inp most n fn args b m).2.1)]) [.obox (byP bb b) (gC q.fn q.vars q.off q.res (hH (lvC p inp most n fn args b m).2.2.1) (nH (lvC p inp most n fn args b m).2.2.1) (xH (lvC p inp most n fn args b m).2.2.1) q.bp), .obox (.pointer (some ⟨bm, 0, none⟩)) (rS pv iv most (fuH (lvC p inp most n fn args b m).1 (lvC p inp most n fn args b m).2.2.2) (coH (lvC p inp most n fn args b m).1) (lvC p inp most n fn args b m).2.2.2)] := by
 obtain ⟨f, hfd⟩ : ∃ f, f = funcAt p fn := ⟨_, rfl⟩
 have hfm : f ∈ p.funcs := hfd ▸ CB h0 h1'
 obtain ⟨g1, g2, g3, g4, hsh, g6⟩ := CK hg hfm
 have hpa : atI (paramsL p) fn = f.params := hfd ▸ CW h0 h1'
 have hfa : p.funcs[fn.toNat]'(by omega) = f := by rw [hfd]; exact funcAt_at (by omega)
 have hget : (p.funcs.map Func.tt)[fn.toNat]? = some f.tt := by rw [FB _ _ h0 h1', hfa]
 have hal2 : args.length ≤ f.vars.toNat := by omega
 have hfo : f.ok 1048576 := hp.1.2 f hfm
 have hBu := HX bm pv iv most m (pv :: iv :: xv) (T.Funcs p.funcs :: T.ints inp :: xt) (by omega)
 obtain ⟨co, hco⟩ : ∃ co : Int, co = if m.fuel = 0 then 5 else 0 := ⟨_, rfl⟩
 rw [← hco] at hBu;refine Proc.intro tys Tryz.func94 Z Z (N := 157) [100, 101] 99 ([(0, .t (.v (.pointer (some ⟨bm, 0, none⟩)))), (1, .t (.int fn)), (2, .t (T.ints args)), (3, .t (.v (byP bb b)))]) ([(100, byK bb q b), (101, .obox (.pointer (some ⟨bm, 0, none⟩)) (rS pv iv most m.fuel 0 m)), (99, .ro (pv :: iv :: xv) (T.Funcs p.funcs :: T.ints inp :: xt))]) Z Z Z Z (by decide) (by decide) Z (fun w0 G F0 => ?_);refine nY Z (AN (Le.openNew (u := 101) 1101 Z Z Z Z Z) (nY Z (AN (Le.named (t := 0) (u := 101) 1101 Z Z) (nY Z (sG (eK 2 Z (nB (sQ (sQ (Ag Ai (by kernel_rfl) (evQ ?_)))))))))));refine A0 rfl Z (AA Z) Z Z Z (evQ ?_);refine evQ ?_;refine AU Z (evQ ?_);refine FU (v := true) (by simp; omega) ?_;refine evQ ?_;refine B3 Z Z Z Z (AA Z) (evQ ?_);refine B3 Z Z Z Z (AA Z) (A0 rfl Z (AA Z) Z Z Z (B3 Z Z Z Z (AA Z) (evQ ?_)));refine B3 Z Z Z Z (AA Z) (evQ ?_);refine AU Z (B3 Z Z Z Z (AA Z) (evQ ?_));refine B3 Z Z Z Z (AA Z) (A0 rfl Z (AA Z) Z Z Z (B3 Z Z Z Z (AA Z) (evQ ?_)));refine B3 Z Z Z Z (AA Z) (evQ ?_);refine B3 Z Z Z Z (AA Z) (evQ ?_);refine evQ ?_;refine AU Z (A8 (tN ?_));refine AC Z (fun h1 => ?_) (fun h1 => ?_)
 ·
  simp only [HS] at h1;refine sQ ?_
  obtain ⟨k, hk⟩ : ∃ k, n = k + 1 := ⟨n - 1, by omega⟩
  subst hk
  have hout : lvC p inp most (k + 1) fn args b m = (4, 0, b, A6 m) := ca_d hfz (by omega)
  refine rG (eZ Z (AJ rfl Z (AA Z) Z Z Z (eK 2 Z (sT Z (nZ Z (nA (eK 2 Z (nB (AN (Le.close (u := 101) 1101 Z Z Z) (nY Z (rT (tR ?_))))))))))));refine eP [_, _] ?_ ?_
  ·first
   | exact GV (by first | (rw [hout]; done) | (rw [hout]; rfl)) (by first | (rw [hout]; done) | (rw [hout]; rfl))
  ·first
   | (rw [hout]; have hq : fuH 4 (A6 m) = m.fuel := (by show ((m.fuel - 1 : Nat) : Int) + 1 = m.fuel; omega); simp only [hq]; rfl)
 simp only [HS] at h1;refine AD (tN (sQ (sG (eZ Z (AB (Le.close (u := 101) 1101 Z Z Z) (nZ Z ?_))))));refine cP [101] (hm := (hBu)) (k := ?_);refine nZ Z (AB (Le.open (u := 101) 1101 Z Z Z Z) (nZ Z (AB (Le.known (t := 38) true Z (by simp [hfz])) ?_)));refine eZ Z (nB (A5 Z (AD (tN (sQ ?_)))))
 have hdz : m.deep ≠ most := by omega
 have hbd : (A6 m).deep = m.deep := rfl
 rw [if_neg hfz] at hco;subst hco
 obtain ⟨k, hk⟩ : ∃ k, n = k + 1 := ⟨n - 1, by omega⟩
 subst hk
 have hL := HA (inp := inp) hg most k
 obtain ⟨hIc, hIs⟩ := hI k (by omega)
 refine rG (eZ Z (AJ rfl Z (AA Z) Z Z Z (eK 2 Z (evI ?_))));refine AJ rfl Z (AA Z) Z Z Z (kZ [0,1,2,3,8,9,44,45] Z (eZ Z (sT Z (nZ Z (nA (eK 2 Z (AJ rfl Z (AA Z) Z Z Z (eK 2 Z (Dz tys 99 0 Z Z (AA Z) Z Z Z Z (eZ Z (kZ [0,1,2,3,8,9,47,52,53] Z ?_)))))))))));refine iX (h5 := h0) (h6 := hget) (k := ?_);refine eK 2 Z ?_;refine RB tys (T.int 0) Z Z (AA Z) Z Z Z Z Z (by repeat (first | exact AbsL.nil' | refine AbsL.v' ?_ | refine AbsL.none' ?_)) Z (by omega) (by omega) (by decide) ?_;refine nZ Z (nZ Z (eZ Z (AI tys Z Z (AA Z) Z Z Z (by kernel_rfl) Z Z Z Z Z Z (AV Z Z (AA Z) Z Z (nZ Z (eZ Z (nB (sQ (AN (Le.nilBox (u := 60) (j := 3) 1 Z Z) (nY Z ?_))))))))));refine Na (u := 60) (pid := 1060) Z Z (fun bc => ?_);refine nY Z (AN (Le.eqK (id := 57) Z (k' := .L 1 ((List.replicate f.vars.toNat (0 : Int)).map T.int)) (by rw [List.map_replicate])) ?_);refine nY Z (kY [0,1,2,8,9,10] Z (rG (eZ Z (AJ rfl Z (AA Z) Z Z Z (eK 3 Z (Mc (e := 3) Z Z (AA Z) Z (by kernel_rfl) (by kernel_rfl) Z Z (by simp) Z (by simp; omega) ?_))))));refine nZ Z (AB (Le.gatherBox (u := 60) (j := 1) (id := 57) Z Z Z (by simp; omega) Z) ?_);refine nZ Z (AB (Le.eqK (id := 60) Z (k' := .box (gC fn (setL f.vars.toNat args) [] 0 0 0 false (byP bb b))) (by rw [Sh (by simp; omega)]; rfl)) ?_);refine nZ Z (nB (sQ ?_))
 have hso := Gu (p := p) (inp := inp) (f := f) (args := args) (b := b) (m := m) hal2 hu
 have hsf : (startS f args b m).m.fuel = m.fuel - 1 := rfl
 have hst : (startS f args b m).m.trace.length = m.trace.length := rfl
 have hsl : (startS f args b m).off.length = 0 := rfl
 have hsd : (startS f args b m).m.deep = m.deep + 1 := rfl
 have hB := EI p inp most k (lev p inp most k) hL hIs fn f h0 h1' hfd hfo.2.1.1 f.body (FO hsh) hfo.1 (startS f args b m) hso (by omega) (by omega) (by omega) (by omega) (by omega) bm bc bb q pv iv xv xt
 have hbo := Bw (hL.stmt _ hfm) (FO hsh) hso
 change Sx.to p inp f (blS (lev p inp most k) f f.body (startS f args b m)).1 _ (blS (lev p inp most k) f f.body (startS f args b m)).2.2 at hbo
 obtain ⟨R, hR⟩ : ∃ R, R = blS (lev p inp most k) f f.body (startS f args b m) := ⟨_, rfl⟩
 rw [← hR] at hB hbo
 obtain ⟨fu1, hfu1⟩ : ∃ fu1, fu1 = fuH R.1 R.2.2.m := ⟨_, rfl⟩
 obtain ⟨co1, hco1⟩ : ∃ co1, co1 = coH R.1 := ⟨_, rfl⟩
 obtain ⟨e0, he0⟩ : ∃ e0, e0 = haH R.1 := ⟨_, rfl⟩
 rw [← hfu1, ← hco1, ← he0] at hB
 have hR0 := hbo.h0
 have hR5 := hbo.h5
 have hf2 : R.2.2.m.fuel ≤ m.fuel - 1 := hbo.le.1
 have ht2 : R.2.2.m.trace.length + R.2.2.m.fuel ≤ m.trace.length + (m.fuel - 1) := hbo.le.2.1
 have ho2 : R.2.2.off.length + R.2.2.m.fuel ≤ 0 + (m.fuel - 1) := hbo.offl
 refine rG (eK 3 Z (kZ [0,1,8,9,10,68,69,70] Z (AJ rfl Z (AA Z) Z Z Z (eK 2 Z (Dz tys 99 0 Z Z (AA Z) Z Z Z Z (eZ Z ?_))))));refine iX (h5 := h0) (h6 := hget) (k := ?_);refine eK 2 Z (AB (Le.close (u := 101) 1101 Z Z Z) (nZ Z (AB (Le.close (u := 60) 1060 Z Z Z) (nZ Z ?_))));refine cP [101,60,100] (hm := (hB)) (k := ?_);refine nZ Z (AB (Le.open (u := 101) 1101 Z Z Z Z) (nZ Z (AB (Le.open (u := 60) 1060 Z Z Z Z) (nZ Z (kZ [0,8,9,10,79] Z (eZ Z (WO_evF tys Z Z (AA Z) (d := .t _) Z (nZ Z (WO_evF tys Z Z (AA Z) (d := .t _) Z (nZ Z (eK 2 Z (nB (sQ (sG (eK 2 Z ?_)))))))))))))));refine nB ?_;refine AC Z (fun h2 => ?_) (fun h2 => ?_)
 ·
  simp only [HS] at h2;refine sQ (kY [0,8,9,10,11,12] Z (rG (eK 2 Z (nB (AN (Le.close (u := 101) 1101 Z Z Z) (nY Z (rT (tR ?_))))))));refine eP [_, _] ?_ ?_
  ·first
   | (subst hfu1 hco1; have hr4 := Qh (he0.symm.trans (by assumption)); have hout : lvC p inp most (k + 1) fn args b m = _ := ca_e hfz hdz hfd hR hr4; exact GV (by rw [hout]; show 4 = haH R.1; unfold haH; rw [if_pos hr4]) (by rw [hout]))
  ·first
   | (subst hfu1 hco1; have hr4 := Qh (he0.symm.trans (by assumption)); have hout : lvC p inp most (k + 1) fn args b m = _ := ca_e hfz hdz hfd hR hr4; rw [hout]; rfl)
 simp only [HS] at h2;refine AD (tN (sQ (sQ ?_)))
 have hr4 : ¬ 4 ≤ R.1 := RR (by rw [← he0]; assumption)
 rw [R6 (by omega)] at he0;rw [KR (by omega)] at hfu1;rw [Kd (by omega)] at hco1;subst hfu1 hco1 he0
 have hd2 : R.2.2.m.deep = m.deep + 1 := hbo.deep (by omega)
 have hes := LR (v := R.2.1) hR0 (by omega)
 refine kY [0,8,9,10,11,12] Z (rG (eK 2 Z (nB ?_)));refine A4 (α := Int) [0, 8, 9, 10, 12] [60, 99, 100, 101, 1101, 1060] (fun x => [(11, .t (.int x))]) (fun x => []) (fun x => x = (endS R.1 R.2.1).how) ?_ (fun e11 hx => ?_)
 ·
  refine AC Z (fun h3 => ?_) (fun h3 => ?_)
  ·
   simp only [HS] at h3;refine rG (eZ Z (oN (jQ _ ?_)))
   simp only [endS]; split <;> omega
  simp only [HS] at h3;refine AD (jQ _ ?_)
  simp only [endS]; split <;> omega
 have he11 := hx
 refine tN (sQ ?_);subst he11
 have hEn := MW bc (endS R.1 R.2.1).how R.2.1 fn R.2.2.vars R.2.2.off R.2.2.res 0 0 false (byP bb b) (pv :: iv :: xv) (T.Funcs p.funcs :: T.ints inp :: xt)
 rw [show (if (endS R.1 R.2.1).how = 2 then R.2.1 else 0) = (endS R.1 R.2.1).pan from by grind [endS], show (or false (decide ((endS R.1 R.2.1).how = 3))) = (endS R.1 R.2.1).exd from by grind [endS]] at hEn;refine kY [0,8,9,10,11,12] Z (rG (eK 3 Z (AB (Le.close (u := 60) 1060 Z Z Z) (nZ Z ?_))));refine cP [60] (hm := (hEn)) (k := ?_);refine nZ Z (AB (Le.open (u := 60) 1060 Z Z Z Z) (nZ Z (nB (sQ (AF ?_)))));refine lK (α := List Int × Blk × Blk) [0, 10] [99, 100, 1101, 1060] (fun x => []) (fun x => [(101, (x.2.1)), (60, (x.2.2))]) (fun x => OfI inp (lev p inp most k) R.2.2.off (endS R.1 R.2.1) R.2.2.m pv iv most fn R.2.2.vars R.2.2.res (byP bb b) (x.1) (x.2.1) (x.2.2)) (fun x => Int.toNat ((x.1).length)) (R.2.2.off, .box (rS pv iv most R.2.2.m.fuel 0 R.2.2.m), .box (gC fn R.2.2.vars R.2.2.off R.2.2.res (endS R.1 R.2.1).how (endS R.1 R.2.1).pan (endS R.1 R.2.1).exd (byP bb b))) ?_ (fun x hx => ?_)
 ·exact ⟨_, _, fun x hx => hx, S3 _, rfl, hes.1, hes.2, ⟨S3 _, S3 _, hbo.ok.used⟩, rfl, rfl, rfl⟩
 obtain ⟨l, B1, B2⟩ := x
 obtain ⟨b1, m1, hin, hlen, hex, hb1, hb2, hle, hd1, hB1, hB2⟩ := hx
 dsimp only at hin hlen hex hb1 hb2 hle hd1 hB1 hB2 ⊢;subst hB1 hB2;refine nY Z (sQ (sQ (AN (Le.adoptBoxI (u := 60) (j := 3) (id := 192) Z Z Z) (nY Z (rG (eZ Z (AJ rfl Z (AA Z) Z Z Z (eK 2 Z (evE ?_)))))))));refine eZ Z (nB ?_);refine AC Z (fun h3 => ?_) (fun h3 => ?_)
 ·
  simp only [HS] at h3;refine AD (tN (AF (sQ ?_)))
  have hl0 : 0 < (l.length : Int) := by omega
  have hf3 : m1.fuel ≤ R.2.2.m.fuel := hle.1
  have ht3 : m1.trace.length + m1.fuel ≤ R.2.2.m.trace.length + R.2.2.m.fuel := hle.2.1
  obtain ⟨q0, q1, q2⟩ := hbo.ok.off (l[((l.length : Int) - 1).toNat]'(by omega)) (hin _ (Ss _))
  have hto1 := hL.call (l[((l.length : Int) - 1).toNat]'(by omega)) [] (some b1) m1 q0 q1 (by rw [q2]; rfl) hle.2.2
  have hCa := hIc (l[((l.length : Int) - 1).toNat]'(by omega)) [] (some b1) m1 bm bc ⟨fn, R.2.2.vars, l.take ((l.length : Int) - 1).toNat, R.2.2.res, byP bb b⟩ pv iv xv xt q0 q1 (by rw [q2]; rfl) hle.2.2 (by omega) (by omega) (by omega) (by omega)
  obtain ⟨R1, hR1⟩ : ∃ R1, R1 = (lev p inp most k).call (l[((l.length : Int) - 1).toNat]'(by omega)) [] (some b1) m1 := ⟨_, rfl⟩
  rw [← hR1] at hCa hto1
  obtain ⟨c1, hc1⟩ : ∃ c1, R1.2.2.1 = some c1 := by have := hto1.by'; cases h : R1.2.2.1 with | none => rw [h] at this; cases this | some c1 => exact ⟨c1, rfl⟩
  rw [hc1] at hCa
  have hh1 := hto1.h1
  have hh5 := hto1.h5
  obtain ⟨e1, he1⟩ : ∃ e1, e1 = haH R1.1 := ⟨_, rfl⟩
  rw [← he1] at hCa;refine rG (eZ Z (AJ rfl Z (AA Z) Z Z Z (eZ Z (kZ [0,10,90,91,92,93,94,95,96,97,98] Z (eZ Z (evE ?_))))));refine evI ?_;refine eZ Z (nA (eZ Z (AJ rfl Z (AA Z) Z Z Z (eK 3 Z (kZ [0,10,13,90,91,92,93,94,95,96,97,98,99,100,101,102,103,104,105,106] Z (BI tys Z Z (AA Z) Z Z Z Z Z Z Z Z (by omega) (by omega) (Ay tys Z Z (AA Z) Z Z Z Z (DT _ _ (by omega) (by omega)) Z (eZ Z (nA (eK 2 Z (AJ rfl Z (AA Z) Z Z Z (eK 3 Z (kZ [0,10,13,14,90,91,92,93,94,95,96,97,98,99,100,101,102,103,104,105,106,107,108,109,110,111,112,113,114] Z (D1 tys Z Z (AA Z) Z Z Z Z Z Z Z Z Z (by omega) (by omega) (by omega) (AJ rfl Z (AA Z) Z Z Z ?_)))))))))))))));refine eZ Z (sT Z (nZ Z (nB (sQ (AN (Le.gatherBox (u := 60) (j := 3) (id := 192) Z Z Z (by first | (simp; done) | (simp; omega)) Z) ?_)))));refine nY Z (AN (Le.eqK (id := 60) Z (k' := .box (gC fn R.2.2.vars (l.take ((l.length : Int) - 1).toNat) R.2.2.res b1.how b1.pan b1.exd (byP bb b))) (by rw [← List.map_take]; rfl)) ?_);refine nY Z (rG (eK 3 Z (AB (Le.close (u := 60) 1060 Z Z Z) (nZ Z (AB (Le.close (u := 101) 1101 Z Z Z) (nZ Z ?_))))));refine cP [60,101] (hm := (hCa)) (k := ?_);refine nZ Z (AB (Le.open (u := 60) 1060 Z Z Z Z) (nZ Z (AB (Le.open (u := 101) 1101 Z Z Z Z) (nZ Z (eZ Z (kZ [0,10,13,14,90,91,92,93,94,95,96,97,98,99,100,101,102,103,104,105,106,107,108,109,110,111,112,113,114,115,116,117,118,119,120,121,122] Z (WO_evF tys Z Z (AA Z) (d := .t _) Z (nZ Z (WO_evF tys Z Z (AA Z) (d := .t _) Z (nZ Z (eK 2 Z (nB (sQ (sG (eK 2 Z ?_)))))))))))))));refine nB ?_;refine AC Z (fun h4 => ?_) (fun h4 => ?_)
  ·
   simp only [HS] at h4;refine sG (eK 2 Z (nB (AN (Le.close (u := 101) 1101 Z Z Z) (nY Z (rT (tR (bR (AR (bR (tR ?_))))))))));refine eP [_, _] ?_ ?_
   ·first
    | (have hr5 := Qh (he1.symm.trans (by assumption)); have hout : lvC p inp most (k + 1) fn args b m = _ := ca_o hfz hdz hfd hR hr4 (L1 hl0 hex hR1 hc1 hr5) hr5; exact GV (by rw [hout]; show 4 = haH R1.1; unfold haH; rw [if_pos hr5]) (by rw [hout]))
   ·first
    | (have hr5 := Qh (he1.symm.trans (by assumption)); have hout : lvC p inp most (k + 1) fn args b m = _ := ca_o hfz hdz hfd hR hr4 (L1 hl0 hex hR1 hc1 hr5) hr5; rw [hout]; rfl)
  simp only [HS] at h4;refine AD (tN (sQ ?_))
  have hr5 : ¬ 4 ≤ R1.1 := RR (by rw [← he1]; assumption)
  rw [R6 (by omega)] at he1
  have hEn2 := MW bc e1 R1.2.1 fn R.2.2.vars (l.take ((l.length : Int) - 1).toNat) R.2.2.res c1.how c1.pan c1.exd (byP bb b) (pv :: iv :: xv) (T.Funcs p.funcs :: T.ints inp :: xt)
  refine rG (eK 2 Z (nB ?_));refine AC Z (fun h5 => ?_) (fun h5 => ?_)
  ·
   simp only [HS] at h5;refine kY [0,10,13,14,15,16,90,91,92,93,94,95,96,97,98,99,100,101,102,103,104,105,106,107,108,109,110,111,112,113,114,115,116,117,118,119,120,121,122,123,124,125,126,127,128] Z (rG (eK 3 Z (AB (Le.close (u := 60) 1060 Z Z Z) (nZ Z ?_))));refine cP [60] (hm := (hEn2)) (k := ?_);refine nZ Z (AB (Le.open (u := 60) 1060 Z Z Z Z) (nZ Z (oN (bN ?_))));refine lQ ((l.take ((l.length : Int) - 1).toNat), _, _) ?_ ?_
   ·dsimp only
    subst he1; first | exact ofI_next hl0 hin hlen hex hb1 hb2 hle hd1 hR1 hto1 hc1 hr5 rfl rfl (by rw [if_pos (show R1.1 = 1 from by omega)]; rfl) | exact ofI_next hl0 hin hlen hex hb1 hb2 hle hd1 hR1 hto1 hc1 hr5 rfl rfl (by rw [if_neg (show ¬ R1.1 = 1 from by omega)]; rfl)
   ·(try dsimp only); simp only [Sm]; omega
  simp only [HS] at h5;refine AD (bN ?_);refine lQ ((l.take ((l.length : Int) - 1).toNat), _, _) ?_ ?_
  ·dsimp only
   subst he1; first | exact ofI_next hl0 hin hlen hex hb1 hb2 hle hd1 hR1 hto1 hc1 hr5 rfl rfl (by rw [if_pos (show R1.1 = 1 from by omega)]; rfl) | exact ofI_next hl0 hin hlen hex hb1 hb2 hle hd1 hR1 hto1 hc1 hr5 rfl rfl (by rw [if_neg (show ¬ R1.1 = 1 from by omega)]; rfl)
  ·(try dsimp only); simp only [Sm]; omega
 simp only [HS] at h3;refine AS (tE (AP (AK (tN (sQ ?_)))))
 have hQ := Ru (by omega) hex
 have hout : lvC p inp most (k + 1) fn args b m = (b1.how, if b1.how = 2 then b1.pan else R.2.2.res, R.2.2.by', ⟨m1.used, m1.fuel, m1.deep - 1, m1.trace⟩) := ca_f hfz hdz hfd hR hr4 hQ (by show ¬ (4 : Int) ≤ 0; omega)
 have hdd : (m1.deep : Int) - 1 = ((m1.deep - 1 : Nat) : Int) := by omega
 refine rG (eZ Z (AJ rfl Z (AA Z) Z Z Z (eZ Z (kZ [10,133,135] Z (eZ Z (evI ?_))))));refine AJ rfl Z (AA Z) Z Z Z (eZ Z (sT Z (nZ Z (nB (sQ (sG (eZ Z (AJ rfl Z (AA Z) Z Z Z (eK 2 Z (kZ [10,143] Z (eZ Z (nB ?_))))))))))));refine AC Z (fun h4 => ?_) (fun h4 => ?_)
 ·
  simp only [HS] at h4;refine sQ (Ag Ai (by kernel_rfl) (evQ ?_));refine A0 rfl Z (AA Z) Z Z Z (evQ ?_);refine evQ ?_;refine evQ ?_;refine AU Z (evQ ?_);refine A8 (tN (AN (Le.close (u := 101) 1101 Z Z Z) (nY Z (rT (tR ?_)))));refine eP [_, _] ?_ ?_
  ·first
   | exact GV (by rw [hout]; show 2 = haH b1.how; rw [show b1.how = 2 from by assumption]; rfl) (by rw [hout]; exact (if_pos (by assumption)).symm)
  ·first
   | (rw [hout]; simp only [KR hb2, Kd hb2]; rw [hdd]; rfl)
 simp only [HS] at h4;refine AD (tN (sQ (Ag Ai (by kernel_rfl) (evQ ?_))));refine A0 rfl Z (AA Z) Z Z Z (evQ ?_);refine evQ ?_;refine evQ ?_;refine AU Z (A0 rfl Z (AA Z) Z Z Z (evQ ?_));refine evQ ?_;refine evQ ?_;refine evQ ?_;refine A8 (tN (AN (Le.close (u := 101) 1101 Z Z Z) (nY Z (rT ?_))));refine eP [_, _] ?_ ?_
 ·first
  | exact GV (by rw [hout]; exact (R6 hb2).symm) (by rw [hout]; exact (if_neg (by assumption)).symm)
 ·first
  | (rw [hout]; simp only [KR hb2, Kd hb2]; rw [hdd]; rfl)
open Go.Eng
theorem levC {p : Prog} {inp : List Int} {most : Nat} (hg : AZ p = true) (hp : p.ok 1048576) (hi : inp.length ≤ 1048576) (hmost : most ≤ 1048576) : ∀ n, Ld p inp most n (lev p inp most n) ∧ Lb p inp most n (lev p inp most n)
 | 0 => by
  have hL := HA (inp := inp) hg most 0
  constructor
  ·intro fn args b m bm bb pv iv xv xt h0 h1 ha hu hd hn hn2 hti
   have hz : m.fuel = 0 := by omega
   have h := Kf p inp most 0 (lev p inp most 0) hL (fun k hk => by omega) (fun k hk => by omega) hg hp hi hmost fn args b m bm bb pv iv xv xt h0 h1 ha hu hd hn hn2 hti
   rw [ca_0 hz, IB hz] at h;exact h
  ·intro f t s bm bc bb pv iv fbv fsv xv xt hf ht hs hn hn2 hti hof hdm
   have hz : s.m.fuel = 0 := by omega
   have h := JP p inp most 0 (lev p inp most 0) hL (fun k hk => by omega) (fun k hk => by omega) hg hp hi hmost f t s bm bc bb pv iv fbv fsv xv xt hf ht hs hn hn2 hti hof hdm
   rw [st_0 hz, IB hz] at h;exact h
 | n + 1 => by
  obtain ⟨hC, hS⟩ := levC (inp := inp) hg hp hi hmost n
  have hL := HA (inp := inp) hg most n
  exact ⟨NP hL (fun k hk => by cases hk; exact hC) (fun k hk => by cases hk; exact hS) hg hp hi hmost _ rfl, stmtC_next hL (fun k hk => by cases hk; exact hC) (fun k hk => by cases hk; exact hS) hg hp hi hmost _ rfl⟩
def FY (p : Prog) (inp : List Int) (most fuel : Nat) : Int × Int × Option By × Ms := (lev p inp most fuel).call 0 [] none ⟨0, fuel, 0, []⟩
def Ng (h v : Int) : Int := if h = 1 then v else if h = 2 then v else 0
theorem EB {p : Prog} (hg : AZ p = true) : (0 : Int) < p.funcs.length ∧ atI (paramsL p) 0 = 0 := by
 have h1 := Dq hg
 refine ⟨by omega, ?_⟩;unfold AZ at hg;simp only [Si, decide_eq_true_eq] at hg;exact hg.2.2.1
theorem N5 {p : Prog} {inp : List Int} (hg : AZ p = true) (most fuel : Nat) : Ms.to inp (FY p inp most fuel).1 none (FY p inp most fuel).2.2.1 ⟨0, fuel, 0, []⟩ (FY p inp most fuel).2.2.2 :=
 (HA hg most fuel).call 0 [] none ⟨0, fuel, 0, []⟩ (by omega) (EB hg).1 (by rw [(EB hg).2]; rfl) (Nat.zero_le _)
theorem Rn {a a' b b' c c' : Int} {t t' : List T} (h1 : a = a') (h2 : b = b') (h3 : t = t') (h4 : c = c') : [D.agg [D.t (T.v (Value.int .i64 a)), D.t (T.v (Value.int .i64 b)), D.own (T.list 1 t), D.t (T.v (Value.int .i64 c))]] = [D.agg [D.t (T.int a'), D.t (T.int b'), D.own (T.list 1 t'), D.t (T.int c')]] := by rw [h1, h2, h3, h4]
theorem KD (p : Prog) (inp : List Int) (most fuel : Nat) (hg : AZ p = true) (hp : p.ok 1048576) (hi : inp.length ≤ 1048576) (hmost : most ≤ 1048576) (hfu : fuel ≤ 1048576) : Fun Tryz.prog 104 [.t p.tt, .t (T.ints inp), .t (.int most), .t (.int fuel)] (Av [.agg [.t (.int (FY p inp most fuel).1), .t (.int (Ng (FY p inp most fuel).1 (FY p inp most fuel).2.1)), .own (T.ints (FY p inp most fuel).2.2.2.trace), .t (.int (FY p inp most fuel).2.2.2.used)]]) := by
 have hto := N5 (inp := inp) hg most fuel
 have hC := (levC (inp := inp) hg hp hi hmost fuel).1
 have hm := EB hg
 obtain ⟨R, hR⟩ : ∃ R, R = FY p inp most fuel := ⟨_, rfl⟩
 rw [← hR] at hto ⊢;refine Fun.begin tys Tryz.func104 Z Z (N := 49) [(0, .t p.tt), (1, .t (T.ints inp)), (2, .t (.int most)), (3, .t (.int fuel))] Z Z (fun w0 G F0 => ?_);refine sG (AV Z Z (AA Z) Z Z (nZ Z (AG tys Z Z (AA Z) Z Z Z (nZ Z (nA (eZ Z ?_))))))
 try refine AB (Le.freeze (u := 13) rfl) ?_
 refine nZ Z (eK 3 Z (EK (pl := [(0, 1), (1, 1), (2, 1), (3, 1), (4, 1), (5, 1)]) tys Z Z (AA Z) Z Z Z (by kernel_rfl) Z Z Z Z Z (AV Z Z (AA Z) Z Z (nZ Z (eZ Z (kZ [8,9] Z (nB (sQ ?_))))))));refine DK (u := 18) (j := 0) 99 Z Z Z (fun pv => ?_);refine nY Z ?_;refine DK (u := 18) (j := 1) 98 Z Z Z (fun iv => ?_);refine nY Z (AN (Le.roJoin 99 98 Z Z) (nY Z (AN (Le.nilBox (u := 18) (j := 5) 1 Z Z) (nY Z ?_))));refine Na (u := 18) (pid := 1018) Z Z (fun bm => ?_);refine nY Z (rG (eZ Z (EK (pl := [(0, 2), (2, 1)]) tys Z Z (AA Z) Z Z Z (by kernel_rfl) Z Z Z Z Z (AV Z Z (AA Z) Z Z (nZ Z ?_)))));refine Kk (u := 22) (pid := 1022) Z Z (fun bx => ?_);refine nZ Z ?_
 have hCa := hC 0 [] none ⟨0, fuel, 0, []⟩ bm bx pv iv [] [] (by omega) hm.1 (by rw [hm.2]; rfl) (Nat.zero_le _) (Nat.zero_le _) (S3 _) hfu (by simpa using hfu)
 rw [show (lev p inp most fuel).call 0 [] none ⟨0, fuel, 0, []⟩ = R from hR.symm] at hCa;refine nZ Z (AB (Le.close (u := 22) 1022 Z Z Z) (nZ Z (AB (Le.close (u := 18) 1018 Z Z Z) (nZ Z ?_))));refine cP [22,18] (hm := (hCa)) (k := ?_);refine nZ Z (AB (Le.open (u := 22) 1022 Z Z Z Z) (nZ Z (AB (Le.open (u := 18) 1018 Z Z Z Z) (nZ Z (eZ Z (WO_evF tys Z Z (AA Z) (d := .t _) Z (nZ Z (AW Z Z (AA Z) Z Z Z Z ?_))))))))
 first | refine AB (Le.adoptE (u := 25) 25 rfl (by first | exact Ec | exact rfl)) ?_ | skip
 refine nZ Z (AG tys Z Z (AA Z) Z Z Z (nZ Z (eZ Z (kZ [8,9,10,11,25] Z (sT Z (nZ Z (nB (sQ (AN (Le.adoptBox (u := 18) (j := 5) (id := 195) Z Z Z) (nY Z (BZ 12 Ai Z (by kernel_rfl) (by kernel_rfl) ?_)))))))))))
 iterate 3 (refine QG_ev tys rfl rfl (AA rfl) rfl ?_)
 refine Ax rfl Z (AA Z) Z Z Z (QG_ev tys Z Z (AA Z) Z (BB Z (QG_ev tys Z Z (AA Z) Z (QG_ev tys Z Z (AA Z) Z (Ax rfl Z (AA Z) Z Z Z (QG_ev tys Z Z (AA Z) Z (QG_ev tys Z Z (AA Z) Z (Cs tys Z Z (AA Z) Z Z Z (by kernel_rfl) Z Z Z Z Z Z (BB Z (EN tys Z Z (AA Z) Z Z Z Z (AE ?_)))))))))));refine ⟨by kernel_rfl, ?_⟩;refine nZ Z (sT Z (nZ Z (nB (sQ (sQ (AN (Le.gatherBox (u := 12) (j := 2) (id := 195) Z Z Z (by simp) Z) ?_))))));refine nY Z (rG (eK 2 Z (nB (AF (sG (eK 2 Z (nB ?_)))))));refine AC Z (fun h1 => ?_) (fun h1 => ?_)
 ·
  simp only [HS] at h1;refine rG (eK 2 Z (sT Z (nZ Z (oN (bN (tN (sQ (kY [8,12] Z (rG (Ad tys Z Z (AA Z) Z Z Z Z Z Z (nZ Z (sT Z (nZ Z (nB (rT ?_)))))))))))))));refine eR ?_
  ·exact Rn rfl (by grind [Ng, xV, eV]) (by simp [Sh]) rfl
 simp only [HS] at h1;refine sG (eK 2 Z (nB ?_));refine AC Z (fun h2 => ?_) (fun h2 => ?_)
 ·
  simp only [HS] at h2;refine kY [8,11,12] Z (rG (eK 3 Z (sT Z (nZ Z (oN (bN (tN (sG (Ad tys Z Z (AA Z) Z Z Z Z Z Z (nZ Z (sT Z (nZ Z (nB (rT (eR ?_)))))))))))))))
  ·exact Rn rfl (by grind [Ng, xV, eV]) (by simp [Sh]) rfl
 simp only [HS] at h2;refine AD (bN (tN (sQ (kY [8,12] Z (rG (Ad tys Z Z (AA Z) Z Z Z Z Z Z (nZ Z (sT Z (nZ Z (nB (rT (eR ?_))))))))))))
 ·exact Rn rfl (by grind [Ng, xV, eV]) (by simp [Sh]) rfl
def ER (p : Prog) (inp : List Int) (code value : Int) : Bool := decide ((FY p inp 12 600).1 = code) && decide (Ng (FY p inp 12 600).1 (FY p inp 12 600).2.1 = value)
theorem HJ (p : Prog) (inp : List Int) (code value : Int) (hg : AZ p = true) (hp : p.ok 1048576) (hi : inp.length ≤ 1048576) : Fun Tryz.prog 67 [.t p.tt, .t (T.ints inp), .t (.int code), .t (.int value)] (Av [.t (.bool (ER p inp code value))]) := by
 refine Fun.begin tys Tryz.func67 Z Z (N := 23) [(0, .t p.tt), (1, .t (T.ints inp)), (2, .t (.int code)), (3, .t (.int value))] Z Z (fun w0 G F0 => ?_);refine sG (AV Z Z (AA Z) Z Z (nZ Z (eZ Z (nA (eZ Z ?_)))))
 try refine AB (Le.freeze (u := 10) rfl) ?_
 refine nZ Z (eZ Z (AL ?_));refine ⟨_, KD p inp 12 600 hg hp hi (by omega) (by omega), rfl, ?_⟩;refine AG tys Z Z (AA Z) Z Z Z (nZ Z (sT Z (nZ Z (nB (sQ (kY [2,3,8,9] Z (rG (eK 5 Z ?_))))))));refine gB (fun h1 => ?_) (fun h1 => ?_)
 ·
  simp only [HS] at h1;refine xK 4 Z (kZ [8,22] Z (eZ Z (nB (rT (eR ?_)))))
  ·exact retB (by grind [ER])
 simp only [HS] at h1;refine xK 4 Z (kZ [8,17,21] Z (eK 2 Z (nB (rT (eR ?_)))))
 ·exact retB (by grind [ER])
def Be (p : Prog) (inp : List Int) (most : Int) : Bool := AZ p && (decide ((inp.length : Int) ≤ 10) && (Cv inp (-2147483648) 2147483647 && decide (1 ≤ most ∧ most ≤ 12)))
theorem HC (p : Prog) (inp : List Int) (most : Int) (hp : p.ok 1048576) (hi : inp.length ≤ 1048576) : Fun Tryz.prog 65 [.t p.tt, .t (T.ints inp), .t (.int most)] (Av [.t (.bool (Be p inp most))]) := by
 refine Fun.begin tys Tryz.func65 Z Z (N := 22) [(0, .t p.tt), (1, .t (T.ints inp)), (2, .t (.int most))] Z Z (fun w0 G F0 => ?_);refine sG (AV Z Z (AA Z) Z Z (nZ Z (eZ Z (nA (eZ Z ?_)))))
 try refine AB (Le.freeze (u := 7) rfl) ?_
 refine nZ Z (AL ?_);refine ⟨_, C0 p hp, rfl, ?_⟩;refine eZ Z ?_;refine gB (fun h1 => ?_) (fun h1 => ?_)
 ·
  simp only [HS] at h1;refine xK 4 Z (kZ [1,2,6,14] Z (xK 8 Z (nB (rT (eR ?_)))))
  ·exact retB (by grind [Be])
 refine eZ Z (gY Z (evE ?_));refine xK 2 Z (kZ [1,2,6,13] Z (eZ Z ?_));refine gB (fun h2 => ?_) (fun h2 => ?_)
 ·
  simp only [HS] at h2;refine xK 7 Z (nB (rT (eR ?_)))
  ·exact retB (by grind [Be])
 simp only [HS] at h2;refine eZ Z (gY Z (AL ?_));refine ⟨_, HG _ _ _ (by omega), rfl, ?_⟩;refine eK 2 Z ?_;refine gB (fun h3 => ?_) (fun h3 => ?_)
 ·
  simp only [HS] at h3;refine xK 3 Z (nB (rT (eR ?_)))
  ·exact retB (by grind [Be])
 refine eZ Z (gY Z (AL ?_));refine ⟨_, Ar _ _ _, rfl, ?_⟩;refine eK 2 Z (kZ [6] Z (nB (rT (eR ?_))))
 ·exact retB (by grind [Be])
def A3 (p : Prog) (inp : List Int) (code value : Int) : Bool := Be p inp 12 && (decide (1 ≤ code ∧ code ≤ 4) && decide (-2147483648 ≤ value ∧ value ≤ 2147483647))
theorem CY {p : Prog} {inp : List Int} {code value : Int} (h : A3 p inp code value = true) : AZ p = true := by
 unfold A3 Be at h;simp only [Si] at h;exact h.1.1
theorem C6 (p : Prog) (inp : List Int) (code value : Int) (hp : p.ok 1048576) (hi : inp.length ≤ 1048576) : Fun Tryz.prog 30 [.t p.tt, .t (T.ints inp), .t (.int code), .t (.int value)] (Av [.t (.bool (A3 p inp code value && ER p inp code value)), .t (.bool (A3 p inp code value))]) := by
 refine Fun.begin tys Tryz.func30 Z Z (N := 29) [(0, .t p.tt), (1, .t (T.ints inp)), (2, .t (.int code)), (3, .t (.int value))] Z Z (fun w0 G F0 => ?_);refine sG (AV Z Z (AA Z) Z Z (nZ Z (eK 2 Z (nB (sQ (sG (eZ Z ?_)))))))
 try refine AB (Le.freeze (u := 10) rfl) ?_
 refine nZ Z (eZ Z (AL ?_));refine ⟨_, HC p inp 12 hp hi, rfl, ?_⟩;refine eK 2 Z ?_;refine gB (fun h1 => ?_) (fun h1 => ?_)
 ·
  simp only [HS] at h1;refine xZ Z (kZ [1,2,3,4,8,9,14,16] Z (xK 7 Z (nB (Af Z (sQ (kY [1,2,3,4,8,9] Z (rG (eK 2 Z (nB (rT (tR (eR ?_))))))))))))
  ·(have hno : A3 p inp code value = false := (by grind [A3]); exact GM (by rw [hno]; rfl) hno.symm)
 simp only [HS] at h1;refine eZ Z (gY Z (AL ?_));refine ⟨_, Ar _ _ _, rfl, ?_⟩;refine kZ [1,2,3,4,8,9,14,16] Z (xK 3 Z ?_);refine gB (fun h2 => ?_) (fun h2 => ?_)
 ·
  simp only [HS] at h2;refine xK 3 Z (nB (Af Z (sG (eK 2 Z (nB (rT (tR (eR ?_))))))))
  ·(have hno : A3 p inp code value = false := (by grind [A3]); exact GM (by rw [hno]; rfl) hno.symm)
 simp only [HS] at h2;refine eZ Z (gY Z (AL ?_));refine ⟨_, HF _, rfl, ?_⟩;refine xK 2 Z (nB ?_);refine AC Z (fun h3 => ?_) (fun h3 => ?_)
 ·
  simp only [HS] at h3;refine sQ (kY [1,2,3,4,8,9] Z (rG (eK 2 Z (nB (rT (tR (eR ?_)))))))
  ·(have hno : A3 p inp code value = false := (by grind [A3]); exact GM (by rw [hno]; rfl) hno.symm)
 simp only [HS] at h3;refine AD (tN (sQ (kY [1,2,3,4,8,9] Z (rG ?_))))
 have hok : A3 p inp code value = true := by grind [A3]
 refine eZ Z ?_
 try refine AB (Le.freeze (u := 24) rfl) ?_
 refine nZ Z (eK 3 Z (AL ?_));refine ⟨_, HJ p inp code value (CY hok) hp hi, rfl, ?_⟩;refine eK 2 Z (nB (rT (eR ?_)))
 ·exact GM (by rw [hok]; rfl) hok.symm
open Go.Eng
theorem levI {p : Prog} {inp : List Int} {most : Nat} (hg : AZ p = true) (hp : p.ok 1048576) (hi : inp.length ≤ 1048576) (hmost : most ≤ 1048576) (n : Nat) : Pk p inp most n (lev p inp most n) ∧ Pd p inp most n (lev p inp most n) := by
 induction n using Nat.strongRecOn with
 | _ n hI =>
  constructor
  ·intro fn args b m bm bb q pv iv xv xt h0 h1 ha hu hd hn hn2 hti
   by_cases hz : m.fuel = 0
   ·exact NR p inp most n hI hg hp hi hmost fn args b m bm bb q pv iv xv xt h0 h1 ha hu hd hn hz hn2 hti
   ·exact NQ p inp most n hI hg hp hi hmost fn args b m bm bb q pv iv xv xt h0 h1 ha hu hd hn hz hn2 hti
  ·intro fn f t s bm bc bb q pv iv xv xt h0 h1 hfd ht hs hn hn2 hti hof hdm
   exact Nr p inp most n hI hg hp hi hmost fn f t s bm bc bb q pv iv xv xt h0 h1 hfd ht hs hn hn2 hti hof hdm
theorem haH_2 {h : Int} (e : haH h = 2) : h = 2 := by unfold haH at e; split at e <;> omega
theorem haH_3 {h : Int} (e : haH h = 3) : h = 3 := by unfold haH at e; split at e <;> omega
theorem RX {h : Int} (h1 : 1 ≤ h) (a : ¬ haH h = 1) (b : ¬ haH h = 2) (c : ¬ haH h = 3) : 4 ≤ h ∧ coH h = h := by
 unfold haH at a b c
 by_cases h4 : 4 ≤ h
 ·exact ⟨h4, by unfold coH; rw [if_pos h4]⟩
 ·rw [if_neg h4] at a b c; omega
theorem Mn (p : Prog) (inp : List Int) (most fuel : Nat) (hg : AZ p = true) (hp : p.ok 1048576) (hi : inp.length ≤ 1048576) (hmost : most ≤ 1048576) (hfu : fuel ≤ 1048576) : Fun Tryz.prog 51 [.t p.tt, .t (T.ints inp), .t (.int most), .t (.int fuel)] (Av [.agg [.t (.int (FY p inp most fuel).1), .t (.int (Ng (FY p inp most fuel).1 (FY p inp most fuel).2.1)), .own (T.ints (FY p inp most fuel).2.2.2.trace), .t (.int (FY p inp most fuel).2.2.2.used)]]) := by
 have hto := N5 (inp := inp) hg most fuel
 have hC := (levI (inp := inp) hg hp hi hmost fuel).1
 have hm := EB hg
 obtain ⟨R, hR⟩ : ∃ R, R = FY p inp most fuel := ⟨_, rfl⟩
 rw [← hR] at hto ⊢
 have hr1 := hto.h1
 refine Fun.begin tys Tryz.func51 Z Z (N := 56) [(0, .t p.tt), (1, .t (T.ints inp)), (2, .t (.int most)), (3, .t (.int fuel))] Z Z (fun w0 G F0 => ?_);refine sG (AV Z Z (AA Z) Z Z (nZ Z (AG tys Z Z (AA Z) Z Z Z (nZ Z (nA (eZ Z ?_))))))
 try refine AB (Le.freeze (u := 12) rfl) ?_
 refine nZ Z (eK 3 Z (EK (pl := [(0, 1), (1, 1), (2, 1), (3, 1), (4, 1), (5, 4)]) tys Z Z (AA Z) Z Z Z (by kernel_rfl) Z Z Z Z Z (AV Z Z (AA Z) Z Z (nZ Z (eZ Z (kZ [8,9] Z (nB (sQ ?_))))))));refine DK (u := 17) (j := 0) 99 Z Z Z (fun pv => ?_);refine nY Z ?_;refine DK (u := 17) (j := 1) 98 Z Z Z (fun iv => ?_);refine nY Z (AN (Le.roJoin 99 98 Z Z) (nY Z (AN (Le.nilBox (u := 17) (j := 7) 1 Z Z) (nY Z ?_))));refine Na (u := 17) (pid := 1017) Z Z (fun bm => ?_);refine nY Z (AN (Le.noBox 150 (gC 0 [] [] 0 0 0 false (.pointer none)) Z) (nY Z ?_))
 have hCa := hC 0 [] none ⟨0, fuel, 0, []⟩ bm 0 ⟨0, [], [], 0, .pointer none⟩ pv iv [] [] (by omega) hm.1 (by rw [hm.2]; rfl) (Nat.zero_le _) (Nat.zero_le _) (S3 _) hfu (by simpa using hfu)
 rw [show (lev p inp most fuel).call 0 [] none ⟨0, fuel, 0, []⟩ = R from hR.symm] at hCa;refine rG (eZ Z (AB (Le.close (u := 17) 1017 Z Z Z) (nZ Z ?_)));refine cP [150,17] (hm := (hCa)) (k := ?_);refine nZ Z (AB (Le.open (u := 17) 1017 Z Z Z Z) (nZ Z (eZ Z (WO_evF tys Z Z (AA Z) (d := .t _) Z (nZ Z (WO_evF tys Z Z (AA Z) (d := .t _) Z (nZ Z (eK 2 Z (nB (sQ (sQ (kY [8,9,10,11] Z (rG (eZ Z (nB ?_)))))))))))))));refine AF (sG (eK 2 Z (nB ?_)));refine AC Z (fun h1 => ?_) (fun h1 => ?_)
 ·
  simp only [HS] at h1;refine rG (eK 3 Z (AJ rfl Z (AA Z) Z Z Z (eK 2 Z (kZ [8,9,27,28,31] Z (sT Z (nZ Z (AJ rfl Z (AA Z) Z Z Z (eK 2 Z (sT Z (nZ Z (oN (bN (tN (sQ (AN (Le.adoptBox (u := 17) (j := 7) (id := 195) Z Z Z) ?_)))))))))))))));refine nY Z (rG (eZ Z (AJ rfl Z (AA Z) Z Z Z (eK 2 Z ?_))))
  try refine AB (Le.freeze (u := 55) rfl) ?_
  refine nZ Z (kZ [8,55] Z (sT Z (nZ Z (AB (Le.gatherBox (u := 8) (j := 2) (id := 195) Z Z Z (by simp) Z) ?_))));refine nZ Z (nZ Z (nB (rT (eR ?_))))
  ·first
   | (have e := R7 (by assumption); exact Rn e.symm (by rw [Ng, if_pos e]) (by simp [Sh]) rfl)
 simp only [HS] at h1;refine sG (eK 2 Z (nB ?_));refine AC Z (fun h2 => ?_) (fun h2 => ?_)
 ·
  simp only [HS] at h2;refine rG (eK 3 Z (AJ rfl Z (AA Z) Z Z Z (kZ [8,9,38,39,40] Z (eK 2 Z (sT Z (nZ Z (AJ rfl Z (AA Z) Z Z Z (eK 2 Z (sT Z (nZ Z (oN (bN (tN (sQ (AN (Le.adoptBox (u := 17) (j := 7) (id := 195) Z Z Z) ?_)))))))))))))));refine nY Z (kY [8,9] Z (rG (eZ Z (AJ rfl Z (AA Z) Z Z Z (eK 2 Z ?_)))))
  try refine AB (Le.freeze (u := 55) rfl) ?_
  refine nZ Z (sT Z (nZ Z (AB (Le.gatherBox (u := 8) (j := 2) (id := 195) Z Z Z (by simp) Z) ?_)));refine nZ Z (nZ Z (nB (rT (eR ?_))))
  ·first
   | (have e := haH_2 (by assumption); exact Rn e.symm (by rw [Ng, if_neg (by omega), if_pos e]) (by simp [Sh]) rfl)
 simp only [HS] at h2;refine sG (eK 2 Z (nB ?_));refine AC Z (fun h3 => ?_) (fun h3 => ?_)
 ·
  simp only [HS] at h3;refine kY [8,9] Z (rG (eZ Z (AJ rfl Z (AA Z) Z Z Z (eK 2 Z (sT Z (nZ Z (oN (bN (tN (sQ (AN (Le.adoptBox (u := 17) (j := 7) (id := 195) Z Z Z) (nY Z (rG (eZ Z (AJ rfl Z (AA Z) Z Z Z ?_)))))))))))))));refine eK 2 Z ?_
  try refine AB (Le.freeze (u := 55) rfl) ?_
  refine nZ Z (kZ [8,55] Z (sT Z (nZ Z (AB (Le.gatherBox (u := 8) (j := 2) (id := 195) Z Z Z (by simp) Z) ?_))));refine nZ Z (nZ Z (nB (rT (eR ?_))))
  ·first
   | (have e := haH_3 (by assumption); exact Rn e.symm (by rw [Ng, if_neg (by omega), if_neg (by omega)]) (by simp [Sh]) rfl)
 simp only [HS] at h3;refine AD (bN (tN (sQ (AN (Le.adoptBox (u := 17) (j := 7) (id := 195) Z Z Z) (nY Z (kY [8,9] Z (rG (eZ Z (AJ rfl Z (AA Z) Z Z Z (eK 2 Z ?_))))))))))
 try refine AB (Le.freeze (u := 55) rfl) ?_
 refine nZ Z (sT Z (nZ Z (AB (Le.gatherBox (u := 8) (j := 2) (id := 195) Z Z Z (by simp) Z) ?_)));refine nZ Z (nZ Z (nB (rT (eR ?_))))
 ·first
  | exact Rn (RX hr1 (by assumption) (by assumption) (by assumption)).2 (by have h := (RX hr1 (by assumption) (by assumption) (by assumption)).1; rw [Ng, if_neg (by omega), if_neg (by omega)]) (by simp [Sh]) rfl
theorem FH (p : Prog) (inp : List Int) (code value : Int) (hg : AZ p = true) (hp : p.ok 1048576) (hi : inp.length ≤ 1048576) : Fun Tryz.prog 58 [.t p.tt, .t (T.ints inp), .t (.int code), .t (.int value)] (Av [.t (.bool (ER p inp code value))]) := by
 refine Fun.begin tys Tryz.func58 Z Z (N := 23) [(0, .t p.tt), (1, .t (T.ints inp)), (2, .t (.int code)), (3, .t (.int value))] Z Z (fun w0 G F0 => ?_);refine sG (AV Z Z (AA Z) Z Z (nZ Z (eZ Z (nA (eZ Z ?_)))))
 try refine AB (Le.freeze (u := 10) rfl) ?_
 refine nZ Z (eZ Z (AL ?_));refine ⟨_, Mn p inp 12 600 hg hp hi (by omega) (by omega), rfl, ?_⟩;refine AG tys Z Z (AA Z) Z Z Z (nZ Z (sT Z (nZ Z (nB (sQ (kY [2,3,8,9] Z (rG (eK 5 Z ?_))))))));refine gB (fun h1 => ?_) (fun h1 => ?_)
 ·
  simp only [HS] at h1;refine xK 4 Z (kZ [8,22] Z (eZ Z (nB (rT (eR ?_)))))
  ·exact retB (by grind [ER])
 simp only [HS] at h1;refine xK 4 Z (kZ [8,17,21] Z (eK 2 Z (nB (rT (eR ?_)))))
 ·exact retB (by grind [ER])
theorem LY (n : Int) : Fun Tryz.prog 92 [.t (.int n)] (Av [.t (.bool (!decide (-2147483648 ≤ n ∧ n ≤ 2147483647)))]) := by
 refine Fun.begin tys Tryz.func92 Z Z (N := 6) [(0, .t (.int n))] Z Z (fun w0 G F0 => ?_);refine sG (eZ Z (nA (eZ Z (AL ?_))));refine ⟨_, Ef _, rfl, ?_⟩;refine eK 2 Z (nB (rT (eR ?_)))
 ·rfl
theorem Ca {l : List Int} : (l.any fun n => !decide (-2147483648 ≤ n ∧ n ≤ 2147483647)) = !Cv l (-2147483648) 2147483647 := by
 rw [Cv, List.not_all_eq_any_not]
theorem NV (p : Prog) (inp : List Int) (most : Int) (hp : p.ok 1048576) (hi : inp.length ≤ 1048576) : Fun Tryz.prog 49 [.t p.tt, .t (T.ints inp), .t (.int most)] (Av [.t (.bool (Be p inp most))]) := by
 refine Fun.begin tys Tryz.func49 Z Z (N := 23) [(0, .t p.tt), (1, .t (T.ints inp)), (2, .t (.int most))] Z Z (fun w0 G F0 => ?_);refine sG (AV Z Z (AA Z) Z Z (nZ Z (eZ Z (nA (eZ Z ?_)))))
 try refine AB (Le.freeze (u := 7) rfl) ?_
 refine nZ Z (AL ?_);refine ⟨_, EA p hp, rfl, ?_⟩;refine eZ Z ?_;refine gB (fun h1 => ?_) (fun h1 => ?_)
 ·
  simp only [HS] at h1;refine xK 4 Z (kZ [1,2,6,14] Z (xK 9 Z (kZ [6] Z (nB (rT (eR ?_))))))
  ·exact retB (by first | grind [Be] | (rw [Ca]; grind [Be]))
 refine eZ Z (gY Z (evE ?_));refine xK 2 Z (kZ [1,2,6,13] Z (eZ Z ?_));refine gB (fun h2 => ?_) (fun h2 => ?_)
 ·
  simp only [HS] at h2;refine xK 8 Z (kZ [6] Z (nB (rT (eR ?_))))
  ·exact retB (by first | grind [Be] | (rw [Ca]; grind [Be]))
 simp only [HS] at h2;refine eZ Z (gY Z (AL ?_));refine ⟨_, Ah _ _ _, rfl, ?_⟩;refine eK 2 Z ?_;refine gB (fun h3 => ?_) (fun h3 => ?_)
 ·
  simp only [HS] at h3;refine xK 4 Z (kZ [6] Z (nB (rT (eR ?_))))
  ·exact retB (by first | grind [Be] | (rw [Ca]; grind [Be]))
 simp only [HS] at h3;refine eZ Z (gY Z (AL ?_));refine ⟨_, Gg inp (fun n => !decide (-2147483648 ≤ n ∧ n ≤ 2147483647)) _ [] Z (by omega) (fun x _ => LY x), rfl, ?_⟩;refine xK 2 Z (kZ [6,22] Z (eZ Z (nB (rT (eR ?_)))))
 ·exact retB (by first | grind [Be] | (rw [Ca]; grind [Be]))
theorem Eg (p : Prog) (inp : List Int) (code value : Int) (hp : p.ok 1048576) (hi : inp.length ≤ 1048576) : Fun Tryz.prog 57 [.t p.tt, .t (T.ints inp), .t (.int code), .t (.int value)] (Av [.t (.bool (A3 p inp code value))]) := by
 refine Fun.begin tys Tryz.func57 Z Z (N := 20) [(0, .t p.tt), (1, .t (T.ints inp)), (2, .t (.int code)), (3, .t (.int value))] Z Z (fun w0 G F0 => ?_);refine sG (AV Z Z (AA Z) Z Z (nZ Z (eZ Z (nA (eZ Z ?_)))))
 try refine AB (Le.freeze (u := 9) rfl) ?_
 refine nZ Z (eZ Z (AL ?_));refine ⟨_, NV p inp 12 hp hi, rfl, ?_⟩;refine eZ Z ?_;refine gB (fun h1 => ?_) (fun h1 => ?_)
 ·
  simp only [HS] at h1;refine xK 3 Z (kZ [3,8,16] Z (xK 4 Z (nB (rT (eR ?_)))))
  ·exact retB (by grind [A3])
 refine eZ Z (gY Z (AL ?_));refine ⟨_, Ah _ _ _, rfl, ?_⟩;refine eZ Z (kZ [3,8,15] Z (eZ Z ?_));refine gB (fun h2 => ?_) (fun h2 => ?_)
 ·
  simp only [HS] at h2;refine xK 3 Z (nB (rT (eR ?_)))
  ·exact retB (by grind [A3])
 simp only [HS] at h2;refine eZ Z (gY Z (AL ?_));refine ⟨_, Ef _, rfl, ?_⟩;refine eK 2 Z (nB (rT (eR ?_)))
 ·exact retB (by grind [A3])
theorem ES (p : Prog) (inp : List Int) (code value : Int) (hp : p.ok 1048576) (hi : inp.length ≤ 1048576) : Fun Tryz.prog 25 [.t p.tt, .t (T.ints inp), .t (.int code), .t (.int value)] (Av [.t (.bool (A3 p inp code value && ER p inp code value)), .t (.bool (A3 p inp code value))]) := by
 refine Fun.begin tys Tryz.func25 Z Z (N := 21) [(0, .t p.tt), (1, .t (T.ints inp)), (2, .t (.int code)), (3, .t (.int value))] Z Z (fun w0 G F0 => ?_);refine sG (AV Z Z (AA Z) Z Z (nZ Z (eK 2 Z (nB (sQ (sG (eZ Z ?_)))))))
 try refine AB (Le.freeze (u := 10) rfl) ?_
 refine nZ Z (eK 3 Z (AL ?_));refine ⟨_, Eg p inp code value hp hi, rfl, ?_⟩;refine eZ Z (kZ [1,2,3,4,8,9,15] Z (nB ?_));refine AC Z (fun h1 => ?_) (fun h1 => ?_)
 ·
  simp only [HS] at h1;refine sG (eK 2 Z (nB (rT (tR (eR ?_)))))
  ·(have hno : A3 p inp code value = false := (by simp_all); exact GM (by rw [hno]; rfl) hno.symm)
 simp only [HS] at h1;refine AD (tN (sG ?_))
 have hok : A3 p inp code value = true := by simp_all
 refine eZ Z ?_
 try refine AB (Le.freeze (u := 16) rfl) ?_
 refine nZ Z (eK 3 Z (AL ?_));refine ⟨_, FH p inp code value (CY hok) hp hi, rfl, ?_⟩;refine eK 2 Z (nB (rT (eR ?_)))
 ·exact GM (by rw [hok]; rfl) hok.symm
open Go.Eng
theorem Fu (l : List Int) (hl : l.length ≤ 1073741824) : Fun Tryz.prog 98 [.t (T.ints l)] (Av [.own (T.ints l)]) := by
 refine Fun.begin tys Tryz.func98 Z Z (N := 8) [(0, .t (T.ints l))] Z Z (fun w0 G F0 => ?_);refine sG (eZ Z (nB (sQ (sG (eZ Z ?_)))));refine Mb (e := 3) Z Z (AA Z) Z (by kernel_rfl) Z Z (fun b hb => ?_);refine nB ?_;refine AC Z (fun h1 => ?_) (fun h1 => ?_)
 ·
  refine sG (eZ Z (nB (AN (Le.nilOwn (u := 2) 1 Z) (rT (tR (eR ?_))))))
  ·have e := List.map_eq_nil_iff.1 (hb h1)
   rw [e];rfl
 refine AD (tN (sG (bZ [] ?_)));refine nZ Z (eZ Z (AH tys Z Z (AA Z) Z Z Z Z Z (.own Z (by first | omega | (simp only [Sk]; omega))) Z (.read (Mq _)) (by decide) (by simp; omega) (by decide) Z ?_));refine nZ Z (eZ Z (nB (AN (Le.gather (u := 2) (id := 5) Z Z (by simp)) ?_)));refine rT (eR ?_)
 ·show [D.own (.list 1 _)] = [D.own (.list 1 _)]
  simp only [Sr, Th, Sj];rw [Sh (by simp)]
theorem Fe (l : List Tok) : ∀ x, x ∈ l.map Tok.tt → (T.cells x).length = 2 ∧ ∀ y, y ∈ T.cells x → ∃ v, y = .v v := by
 intro x hx
 obtain ⟨t, _, rfl⟩ := TM.1 hx
 refine ⟨rfl, fun y hy => ?_⟩
 have : T.cells (Tok.tt t) = [T.int t.op, T.int t.n] := rfl
 rw [this] at hy
 rcases Su.1 hy with rfl | hy
 ·exact ⟨_, rfl⟩
 ·rw [TB] at hy; exact ⟨_, hy⟩
theorem Ke (l : List Tok) (hl : l.length ≤ 1073741824) : Fun Tryz.prog 99 [.t (T.Toks l)] (Av [.own (T.Toks l)]) := by
 refine Fun.begin tys Tryz.func99 Z Z (N := 8) [(0, .t (T.Toks l))] Z Z (fun w0 G F0 => ?_);refine sG (eZ Z (nB (sQ (sG (eZ Z ?_)))));refine Mb (e := 88) Z Z (AA Z) Z (by kernel_rfl) Z Z (fun b hb => ?_);refine nB ?_;refine AC Z (fun h1 => ?_) (fun h1 => ?_)
 ·
  refine sG (eZ Z (nB (AN (Le.nilOwn (u := 2) 2 Z) (rT (tR (eR ?_))))))
  ·have e := List.map_eq_nil_iff.1 (hb h1)
   rw [e];rfl
 refine AD (tN (sG (bZ [] ?_)));refine nZ Z (eZ Z (AH tys Z Z (AA Z) Z Z Z Z Z (.own Z (by first | omega | (simp only [Sk]; omega))) Z (.read (Fe _)) (by decide) (by simp; omega) (by decide) Z ?_));refine nZ Z (eZ Z (nB (AN (Le.gather (u := 2) (id := 5) Z Z (by simp)) ?_)));refine rT (eR ?_)
 ·show [D.own (.list 2 _)] = [D.own (.list 2 _)]
  simp only [Sr, Th, Sj];rw [Sh (by simp)]
theorem FK (p : Prog) (hp : p.ok 1048576) : Fun Tryz.prog 59 [.t p.tt] (Av [.agg [.own (T.Funcs p.funcs)]]) := by
  have hpl : p.funcs.length ≤ 1048576 := hp.1.1
  refine Fun.begin tys Tryz.func59 Z Z (N := 59) [(0, .t p.tt)] Z Z (fun w0 G F0 => ?_);refine sG (AV Z Z (AA Z) Z Z (nZ Z (AG tys Z Z (AA Z) Z Z Z (nZ Z (nA (AG tys Z Z (AA Z) Z Z Z (nZ Z (nB (sQ (sG (nZ Z (AB (Le.nilBox (u := 3) (j := 0) 4 Z Z) (nZ Z (AB (Le.adoptBox (u := 3) (j := 0) (id := 190) Z Z Z) (nZ Z ?_)))))))))))))));refine eK 2 Z (evE ?_);refine eZ Z (nB (AF ?_));refine lK (α := Int × Nat × List T) [2, 3, 10, 11] [2] (fun x => [(12, .t (.int (x.1)))]) (fun x => [(3, .box [.sl 190 0 (x.2.1)]), (190, .L 4 (x.2.2))]) (fun x => 0 ≤ (x.1) ∧ (x.1) ≤ p.funcs.length ∧ (x.2.1) = (x.2.2).length ∧ (x.2.2) = (p.funcs.take (x.1).toNat).map Func.tt) (fun x => Int.toNat (p.funcs.length - (x.1))) (0, 0, []) ?_ (fun x hx => ?_)
  · exact ⟨by omega, by omega, rfl, rfl⟩
  obtain ⟨k, m, xs⟩ := x
  obtain ⟨hk0, hk1, hm, hxs⟩ := hx
  dsimp only at hk0 hk1 hm hxs ⊢;refine nY Z (sG (eZ Z (nB (sQ ?_))));refine AC Z (fun h1 => ?_) (fun h1 => ?_)
  ·
    simp only [HS] at h1;refine AD (tN (sQ (AF (sG ?_))));refine iY (k := ?_)
    have hf := Bk hp (n := k.toNat) (by omega)
    have hl : (p.funcs[k.toNat]'(by omega)).stmts.length ≤ 1048576 := hf.2.1.1
    have hbl : (p.funcs[k.toNat]'(by omega)).body.length ≤ 1048576 := hf.1
    refine eZ Z ?_
    try refine AB (Le.freeze (u := 15) rfl) ?_
    refine nZ Z (AG tys Z Z (AA Z) Z Z Z (nZ Z (sT Z (nZ Z (nB (sQ (BZ 9 Ai Z (by kernel_rfl) (by kernel_rfl) (QG_ev tys Z Z (AA Z) Z (BB Z ?_)))))))))
    iterate 5 (refine QG_ev tys rfl rfl (AA rfl) rfl ?_)
    refine Dx ?_;refine ⟨_, Fu _ (by omega), rfl, ?_⟩;refine BB Z (Cs tys Z Z (AA Z) Z Z Z (by kernel_rfl) Z Z Z Z Z Z (EN tys Z Z (AA Z) Z Z Z Z (AE ?_)));refine ⟨by kernel_rfl, ?_⟩;refine nZ Z (sT Z (nZ Z (nB (sQ (sG (nZ Z (AB (Le.nilBox (u := 6) (j := 3) 5 Z Z) (nZ Z (AB (Le.adoptBox (u := 6) (j := 3) (id := 180) Z Z Z) (nZ Z (eK 2 Z (evE ?_))))))))))));refine eZ Z (nB (AF ?_));refine lK (α := Int × Nat × List T) [2, 3, 6, 10, 11, 12, 25, 26] [2, 3, 190] (fun x => [(27, .t (.int (x.1)))]) (fun x => [(6, .box [.t (T.int (p.funcs[k.toNat]'(by omega)).params), .t (T.int (p.funcs[k.toNat]'(by omega)).vars), .own (T.ints (p.funcs[k.toNat]'(by omega)).body), .sl 180 0 (x.2.1)]), (180, .L 5 (x.2.2))]) (fun x => 0 ≤ (x.1) ∧ (x.1) ≤ (p.funcs[k.toNat]'(by omega)).stmts.length ∧ (x.2.1) = (x.2.2).length ∧ (x.2.2) = ((p.funcs[k.toNat]'(by omega)).stmts.take (x.1).toNat).map Stmt.tt) (fun x => Int.toNat ((p.funcs[k.toNat]'(by omega)).stmts.length - (x.1))) (0, 0, []) ?_ (fun x hx => ?_)
    · exact ⟨by omega, by omega, rfl, rfl⟩
    obtain ⟨j, m2, ys⟩ := x
    obtain ⟨hj0, hj1, hm2, hys⟩ := hx
    dsimp only at hj0 hj1 hm2 hys ⊢;refine nY Z (sG (eZ Z (nB (sQ ?_))));refine AC Z (fun h2 => ?_) (fun h2 => ?_)
    ·
      simp only [HS] at h2;refine AD (tN (sQ (AF (sG ?_))));refine iY (k := ?_)
      have hso := Br hf (n := j.toNat) (by omega)
      refine eZ Z ?_
      try refine AB (Le.freeze (u := 30) rfl) ?_
      refine nZ Z (AG tys Z Z (AA Z) Z Z Z (nZ Z (sT Z (nZ Z (nB (BZ 17 Ai Z (by kernel_rfl) (by kernel_rfl) (QG_ev tys Z Z (AA Z) Z (BB Z ?_))))))))
      iterate 6 (refine QG_ev tys rfl rfl (AA rfl) rfl ?_)
      refine BB Z (QG_ev tys Z Z (AA Z) Z (Dx ?_));refine ⟨_, Ke _ (by omega), rfl, ?_⟩;refine QG_ev tys Z Z (AA Z) Z (QG_ev tys Z Z (AA Z) Z (Dx ?_));refine ⟨_, Fu _ (by omega), rfl, ?_⟩;refine QG_ev tys Z Z (AA Z) Z (BB Z (QG_ev tys Z Z (AA Z) Z (Dx ?_)));refine ⟨_, Fu _ (by omega), rfl, ?_⟩;refine Cs tys Z Z (AA Z) Z Z Z (by kernel_rfl) Z Z Z Z Z Z ?_;refine BV tys [(((p.funcs[k.toNat]'(by omega)).stmts)[j.toNat]'(by omega)).tt] Z Z (AA Z) Z Z Z Z Z (AA Z) (by repeat (first | exact PartsOk.nil' | refine PartsOk.cons' rfl (by repeat (first | exact AbsL.nil' | refine AbsL.v' ?_ | refine AbsL.own' ?_ | refine AbsL.none' ?_)) Z ?_)) Z Z Z (by decide) ?_;refine AE ?_;refine ⟨by kernel_rfl, ?_⟩;refine nZ Z (AB (Le.adoptE (u := 47) 47 Z Z) (nZ Z (AH tys Z Z (AA Z) Z Z Z Z Z (.own Z (by first | omega | (simp only [Sk]; omega))) Z (.own Z (by first | decide | omega)) (by decide) (by simp only [Sm, Sl, List.length_nil]; rw [hys, Sj, Sm]; omega) (by decide) Z ?_)));refine nZ Z (eZ Z (sT Z (nZ Z (oN (bN (tN (rG (evI ?_))))))));refine eZ Z (oN ?_);refine lQ (_, _, _) ?_ ?_
      · dsimp only
        subst hm2;refine ⟨by omega, by omega, by simp, ?_⟩;rw [Sr, hys, Bi hj0 (by omega), S1]
        all_goals rfl
      · (show Int.toNat _ < Int.toNat _); omega
    simp only [HS] at h2;refine AS (tE (AP (AK (tN (rG (eK 2 Z (nZ Z (AB (Le.gatherBox (u := 6) (j := 3) (id := 180) Z Z Z (by omega) Z) (nZ Z (Ad tys Z Z (AA Z) Z Z Z Z Z Z (nZ Z (bZ [.agg [T.int (p.funcs[k.toNat]'(by omega)).params, T.int (p.funcs[k.toNat]'(by omega)).vars, T.ints (p.funcs[k.toNat]'(by omega)).body, .list 5 (ys.take m2)]] ?_))))))))))));refine nZ Z (AH tys Z Z (AA Z) Z Z Z Z Z (.own Z (by first | omega | (simp only [Sk]; omega))) Z (.own Z (by first | decide | omega)) (by decide) (by simp only [Sm, Sl, List.length_nil]; rw [hxs, Sj, Sm]; omega) (by decide) Z ?_);refine nZ Z (eZ Z (sT Z (nZ Z (oN (bN (tN (kY [2,3,6,10,11,12,25,26,27,28,51,52,53,54,55,56] Z (rG (evI ?_)))))))));refine eZ Z (oN ?_);refine lQ (_, _, _) ?_ ?_
    · dsimp only
      have e : (p.funcs[k.toNat]'(by omega)).tt = .agg [T.int (p.funcs[k.toNat]'(by omega)).params, T.int (p.funcs[k.toNat]'(by omega)).vars, T.ints (p.funcs[k.toNat]'(by omega)).body, .list 5 (ys.take m2)] := by
       rw [hm2, Sr, hys, BL (l := (p.funcs[k.toNat]'(by omega)).stmts) (k := j) (by omega)]
       all_goals rfl
      subst hm;refine ⟨by omega, by omega, by simp, ?_⟩;rw [Sr, hxs, Bi hk0 (by omega), S1, S8, List.map_nil, e]
      all_goals rfl
    · (show Int.toNat _ < Int.toNat _); omega
  simp only [HS] at h1;refine AS (tE (AP (AK (tN (sG (nZ Z (AB (Le.gatherBox (u := 3) (j := 0) (id := 190) Z Z Z (by omega) Z) (nZ Z (Ad tys Z Z (AA Z) Z Z Z Z Z Z (nZ Z (sT Z (nZ Z (nB (rT (eR ?_)))))))))))))))
  · rw [hm, Sr, hxs, BL (by omega)]
    all_goals rfl
end Go.Proofs.YtddfnpiikkilhaaGreat
