/- Walks and laws of the claim. -/
import Derived.Test.YtddfnpiikkilhaaGf
import Derived.Test.YtddfnpiikkilhaaMe
import Derived.Test.YtddfnpiikkilhaaGb
import Derived.Test.YtddfnpiikkilhaaFa
import Derived.Test.YtddfnpiikkilhaaMb
import Derived.Test.YtddfnpiikkilhaaMc
import Derived.Test.YtddfnpiikkilhaaMd
import Derived.Test.YtddfnpiikkilhaaUj
set_option linter.unusedVariables false
set_option linter.unusedSimpArgs false
set_option maxRecDepth 10000
set_option maxHeartbeats 4000000
namespace Go.Proofs.Ytddfnpiikkilhaa
open Go.Eng
open Go.Eng
def lvS (p : Prog) (inp : List Int) (most n : Nat) (f : Func) (t : Stmt) (s : Sx) : Int × Int × Sx := (lev p inp most n).stmt f t s
theorem lv_0 {p : Prog} {inp : List Int} {most n : Nat} {f : Func} {t : Stmt} {s : Sx} (h : s.m.fuel = 0) : lvS p inp most n f t s = (5, 0, ⟨A7 s.m, s.vars, s.off, s.res, s.by'⟩) := by
 cases n with
 | zero => show (5, 0, s) = _; rw [KP h]
 | succ n => exact st_0 h
def StI (p : Prog) (inp : List Int) (f : Func) (t : Stmt) (s : Sx) (pv iv bp bpv : Value) (q : Kp) (most n : Nat) (fn : Int) (fu : Int) (b1 b2 b3 : Blk) : Prop :=
 ∃ (n1 : Nat) (s1 : Sx), n1 ≤ n ∧ s1.m.fuel ≤ n1 ∧ fu = s1.m.fuel ∧ Sx.to p inp f 0 s s1 ∧ lvS p inp most n f t s = lvS p inp most n1 f t s1 ∧
  b1 = .box (rS pv iv most s1.m.fuel 0 s1.m) ∧ b2 = .box (gC fn s1.vars s1.off s1.res 0 0 false bp) ∧ b3 = .obox bpv (gC q.fn q.vars q.off q.res (hH s1.by') (nH s1.by') (xH s1.by') q.bp)
theorem Lf (p : Prog) (inp : List Int) (most n : Nat) (hI : ∀ k, k < n → NN p inp most k (lev p inp most k) ∧ NF p inp most k (lev p inp most k)) (hg : AZ p = true) (hp : p.ok 1048576) (hi : inp.length ≤ 1048576) (hmost : most ≤ 1048576) (fn : Int) (f : Func) (t : Stmt) (s : Sx) (bm bc bb : Nat) (q : Kp) (pv iv : Value) (xv : List Value) (xt : List T) (h0 : 0 ≤ fn) (h1' : fn < p.funcs.length) (hfd : f = funcAt p fn) (ht : t ∈ f.stmts) (hs : s.ok p inp f) (hn : s.m.fuel ≤ n) (hn2 : s.m.fuel ≤ 1048576) (hti : s.m.trace.length + s.m.fuel ≤ 1048576) (hof : s.off.length + s.m.fuel ≤ 1048576) (hdm : s.m.deep ≤ most) : Proc Try.prog 112 [.t (.v (.pointer (some ⟨bm, 0, none⟩))), .t (.v (.pointer (some ⟨bc, 0, none⟩))), .t t.tt] ((pv :: iv :: xv)) ((T.Funcs p.funcs :: T.ints inp :: xt)) [.obox (.pointer (some ⟨bm, 0, none⟩)) (rS pv iv most s.m.fuel 0 s.m), .obox (.pointer (some ⟨bc, 0, none⟩)) (gC fn s.vars s.off s.res 0 0 false (byP bb s.by')), byK bb q s.by'] (.tup [.t (.int (haH (lvS p inp most n f t s).1)), .t (.int (lvS p inp most n f t s).2.1)]) [.obox (.pointer (some ⟨bm, 0, none⟩)) (rS pv iv most (fuH (lvS p inp most n f t s).1 (lvS p inp most n f t s).2.2.m) (coH (lvS p inp most n f t s).1) (lvS p inp most n f t s).2.2.m), .obox (.pointer (some ⟨bc, 0, none⟩)) (gC fn (lvS p inp most n f t s).2.2.vars (lvS p inp most n f t s).2.2.off (lvS p inp most n f t s).2.2.res 0 0 false (byP bb s.by')), .obox (byP bb s.by') (gC q.fn q.vars q.off q.res (hH (lvS p inp most n f t s).2.2.by') (nH (lvS p inp most n f t s).2.2.by') (xH (lvS p inp most n f t s).2.2.by') q.bp)] := by
 have hf : f ∈ p.funcs := hfd ▸ BB h0 h1'
 have hgv := CK hg hf
 have hsh := hgv.2.2.2.2.1
 have hst : A6 f.vars (paramsL p) t = true := by clear hfd hs; obtain ⟨q, hq, rfl⟩ := Qs hf; obtain ⟨i, hi, rfl⟩ := Qs ht; exact D8 (DL hg hq) hi
 obtain ⟨hk1, hk2, _⟩ := Gz hsh ht
 have hfo : f.ok 1048576 := hp.1.2 f hf
 have htok : t.ok 1048576 := hfo.2.1.2 t ht
 have hl1 : t.thn.length ≤ 1048576 := htok.2.1
 have hl2 : t.els.length ≤ 1048576 := htok.2.2.1
 have hfl : f.stmts.length ≤ 1048576 := hfo.2.1.1
 refine Proc.intro tys Try.func112 Z Z (N := 113) [100, 101, 102] 99 ([(0, .t (.v (.pointer (some ⟨bm, 0, none⟩)))), (1, .t (.v (.pointer (some ⟨bc, 0, none⟩)))), (2, .t t.tt)]) ([(100, .obox (.pointer (some ⟨bm, 0, none⟩)) (rS pv iv most s.m.fuel 0 s.m)), (101, .obox (.pointer (some ⟨bc, 0, none⟩)) (gC fn s.vars s.off s.res 0 0 false (byP bb s.by'))), (102, byK bb q s.by'), (99, .ro (pv :: iv :: xv) (T.Funcs p.funcs :: T.ints inp :: xt))]) Z Z Z Z (by decide) (by decide) Z (fun w0 G F0 => ?_);refine nY Z (AO (Le.openNew (u := 100) 1100 Z Z Z Z Z) (nY Z (AO (Le.named (t := 0) (u := 100) 1100 Z Z) (nY Z (AO (Le.openNew (u := 101) 1101 Z Z Z Z Z) (nY Z (AO (Le.named (t := 1) (u := 101) 1101 Z Z) (nY Z (sG (AU Z Z (AA Z) Z Z (nZ Z (eK 2 Z (nB (AD ?_))))))))))))));refine lK (α := Int × Blk × Blk × Blk) [0, 1, 5] [5, 99, 1100, 1101] (fun x => []) (fun x => [(100, (x.2.1)), (101, (x.2.2.1)), (102, (x.2.2.2))]) (fun x => StI p inp f t s pv iv (byP bb s.by') (byP bb s.by') q most n fn (x.1) (x.2.1) (x.2.2.1) (x.2.2.2)) (fun x => Int.toNat ((x.1))) (s.m.fuel, .box (rS pv iv most s.m.fuel 0 s.m), .box (gC fn s.vars s.off s.res 0 0 false (byP bb s.by')), .obox (byP bb s.by') (gC q.fn q.vars q.off q.res (hH s.by') (nH s.by') (xH s.by') q.bp)) ?_ (fun x hx => ?_)
 ·exact ⟨n, s, Qm _, hn, rfl, Sx.to.refl hs (by omega) (by omega), rfl, rfl, rfl, rfl⟩
 obtain ⟨fu, b1, b2, b3⟩ := x
 obtain ⟨n1, s1, hn1, hfn, hfuE, hto, hex, hb1, hb2, hb3⟩ := hx
 dsimp only at hn1 hfn hfuE hto hex hb1 hb2 hb3 ⊢;subst hb1 hb2 hb3 hfuE;refine nY Z (AD (sQ (sG ?_)))
 have hfu : s1.m.fuel ≤ s.m.fuel := hto.le.1
 have hft : s1.m.trace.length + s1.m.fuel ≤ s.m.trace.length + s.m.fuel := hto.le.2.1
 have hofs : s1.off.length + s1.m.fuel ≤ s.off.length + s.m.fuel := hto.offl
 have hdp : s1.m.deep = s.m.deep := hto.deep (by omega)
 have hBu := Fo bm pv iv most s1.m (pv :: iv :: xv) (T.Funcs p.funcs :: T.ints inp :: xt) (by omega)
 obtain ⟨co, hco⟩ : ∃ co : Int, co = if s1.m.fuel = 0 then 5 else 0 := ⟨_, rfl⟩
 rw [← hco] at hBu;refine eZ Z (WO_le (Le.close (u := 100) 1100 Z Z Z) (nZ Z ?_));refine cP [100] (hm := (hBu)) (k := ?_);refine nZ Z (WO_le (Le.open (u := 100) 1100 Z Z Z Z) (nZ Z (eZ Z (nB ?_))));refine AB Z (fun h1 => ?_) (fun h1 => ?_)
 ·
  simp only [HS] at h1;refine sG (eK 2 Z (nB (AO (Le.close (u := 100) 1100 Z Z Z) (nY Z (AO (Le.close (u := 101) 1101 Z Z Z) (nY Z (rT (tR (bR (AN (bR ?_)))))))))));refine eP [_, _, _] ?_ ?_
  ·(have hout := hex.trans (lv_0 (n := n1) (f := f) (t := t) (by omega)); exact Ev (by rw [hout] <;> rfl) (by rw [hout] <;> rfl))
  ·(have hout := hex.trans (lv_0 (n := n1) (f := f) (t := t) (by omega)); rw [if_pos (by omega)] at hco; subst hco; rw [hout]; rfl)
 simp only [HS] at h1;refine AC (tN (sQ (sG ?_)))
 have hfz : s1.m.fuel ≠ 0 := by simp_all
 rw [if_neg hfz] at hco;subst hco
 obtain ⟨k, hk⟩ : ∃ k, n1 = k + 1 := ⟨n1 - 1, by omega⟩
 subst hk
 have hex' : lvS p inp most n f t s = stS p inp (lev p inp most k) f t s1 := hex
 refine eK 2 Z (nB (AD (sG (eK 2 Z (nB ?_)))));refine AB Z (fun h2 => ?_) (fun h2 => ?_)
 ·
  simp only [HS] at h2;refine sQ ?_
  have hout := hex'.trans (st_3 hfz (by assumption))
  refine kY [0,1,5,12,13,14,15,16,17,18] Z (Bd [[101], [], [], [], [], [101], [101], [101], [], [], [], []] BO (by kernel_rfl) (DS (QG_ev tys Z Z (AA Z) Z (AG (AY (QG_ev tys Z Z (AA Z) Z (AG (AY (Bz rfl Z (AA Z) Z Z Z (AG (AY (QG_ev tys Z Z (AA Z) Z (AG (Ah Z (Gi tys Z Z (AA Z) Z Z Z Z Z Z ?_)))))))))))))));refine DS (QG_ev tys Z Z (AA Z) Z (AG (DS (QG_ev tys Z Z (AA Z) Z (AG (DS ?_))))));refine F3 tys [T.int t.n] Z Z (AA Z) Z Z Z Z Z (AA Z) (by repeat (first | exact PartsOk.nil' | refine PartsOk.cons' rfl (by repeat (first | exact AbsL.nil' | refine AbsL.v' ?_ | refine AbsL.own' ?_ | refine AbsL.none' ?_)) Z ?_)) Z Z Z (by decide) ?_;refine AG (Ah Z (AY (Ed tys Z Z (AA Z) Z Z Z Z Z Z Z Z Z ((fun x hx => by rw [Qf] at hx; subst hx; exact ⟨rfl, fun z hz => ⟨_, by simpa [T.cells] using hz⟩⟩)) (by simp; omega) (by decide) Z ?_)));refine AG (AY (Bz rfl Z (AA Z) Z Z Z (AG (AY (QG_ev tys Z Z (AA Z) Z (AG (F1 tys Z Z Z Z Z Z Z Z Z (Q3 Z) (Ah Z (EL ?_)))))))));refine ⟨by kernel_rfl, ?_⟩;refine nZ Z (nA (eK 2 Z (nB (AO (Le.close (u := 100) 1100 Z Z Z) (nY Z (AO (Le.close (u := 101) 1101 Z Z Z) (nY Z (rT (bR (tR (bR (AN (bR ?_)))))))))))));refine eP [_, _, _] ?_ ?_
  ·exact Ev (by rw [hout] <;> rfl) (by rw [hout] <;> rfl)
  ·rw [hout]
   simp [rS, gC, T.ints, putI, QU, A7, fuH, coH]
   done
 simp only [HS] at h2;refine sQ (kY [0,1,5,12,13,14,15,16,17,18] Z (rG (eK 2 Z (nB ?_))));refine AB Z (fun h3 => ?_) (fun h3 => ?_)
 ·
  simp only [HS] at h3;refine sG (eK 2 Z (nB (AO (Le.close (u := 100) 1100 Z Z Z) (nY Z (AO (Le.close (u := 101) 1101 Z Z Z) (nY Z (rT (bR (tR (bR (AN (bR ?_))))))))))));refine eP [_, _, _] ?_ ?_
  ·(have hout := hex'.trans (st_6 (f := f) hfz (by assumption)); exact Ev (by rw [hout] <;> rfl) (by rw [hout] <;> rfl))
  ·(have hout := hex'.trans (st_6 (f := f) hfz (by assumption)); rw [hout]; rfl)
 simp only [HS] at h3;refine AC (bN (tN (sG ?_)))
 have hk3 : t.kind ≠ 3 := by assumption
 have hk6 : t.kind ≠ 6 := by assumption
 have hL := FY (inp := inp) hg most k
 obtain ⟨hIc, hIs⟩ := hI k (by omega)
 have hb := hto.ok.burn hfz
 obtain ⟨mx, hru⟩ := FF hst hk3 hk6
 obtain ⟨R, hR⟩ : ∃ R, R = exS p inp (lev p inp most k) t.ex ⟨A7 s1.m, s1.vars, s1.off, s1.res, s1.by'⟩ := ⟨_, rfl⟩
 have he := E5 hL hg (pile := []) hb.ok (l := t.ex) (mx := 0) (by simpa using hru)
 have hbf : (A7 s1.m).fuel = s1.m.fuel - 1 := rfl
 have hbt : (A7 s1.m).trace.length = s1.m.trace.length := rfl
 have hbd : (A7 s1.m).deep = s1.m.deep := rfl
 have hE := Mh p inp most k (lev p inp most k) hL hIc hg hp hi f hf fn t.ex (Li hst) ⟨mx, hru⟩ ⟨A7 s1.m, s1.vars, s1.off, s1.res, s1.by'⟩ hb.ok (by dsimp only; omega) (by dsimp only; omega) (by dsimp only; omega) (by dsimp only; omega) hmost bm bc bb q pv iv xv xt
 change Sx.to p inp f (exS p inp (lev p inp most k) t.ex ⟨A7 s1.m, s1.vars, s1.off, s1.res, s1.by'⟩).1 _ (exS p inp (lev p inp most k) t.ex ⟨A7 s1.m, s1.vars, s1.off, s1.res, s1.by'⟩).2.2 at he;unfold byK at hE;dsimp only at hE;rw [← hR] at he;rw [← hR, Fn (bb := bb) hto.by'] at hE
 have he0 := he.h0
 obtain ⟨fu1, hfu1⟩ : ∃ fu1, fu1 = fuH R.1 R.2.2.m := ⟨_, rfl⟩
 obtain ⟨co1, hco1⟩ : ∃ co1, co1 = coH R.1 := ⟨_, rfl⟩
 rw [← hfu1, ← hco1] at hE;refine eK 4 Z (WO_le (Le.close (u := 100) 1100 Z Z Z) (nZ Z (WO_le (Le.close (u := 101) 1101 Z Z Z) (nZ Z ?_))));refine cP [100,101,102] (hm := (hE)) (k := ?_);refine nZ Z (WO_le (Le.open (u := 100) 1100 Z Z Z Z) (nZ Z (WO_le (Le.open (u := 101) 1101 Z Z Z Z) (nZ Z (eZ Z (WO_evF tys Z Z (AA Z) (d := .t _) Z (nZ Z (kZ [0,1,5,12,13,14,15,16,17,18,30,31,32,33,34,35,36,37,38] Z (WO_evF tys Z Z (AA Z) (d := .t _) Z (nZ Z (eK 2 Z (nB (sQ (sG (eK 2 Z ?_)))))))))))))));refine nB ?_;refine AB Z (fun h4 => ?_) (fun h4 => ?_)
 ·
  simp only [HS] at h4;refine sG ?_
  have hout := hex'.trans (st_e (f := f) hfz hk3 hk6 hR (KE (by assumption)))
  subst hfu1 hco1;refine eK 4 Z (kZ [0,1,5,6,7,8,9,12,13,14,15,16,17,18,30,31,32,33,34,35,36,37,38,39,40,41,42,43] Z (nB (AO (Le.close (u := 100) 1100 Z Z Z) (nY Z (AO (Le.close (u := 101) 1101 Z Z Z) (nY Z (rT (tR (bR (AN (bR ?_)))))))))));refine eP [_, _, _] ?_ ?_
  ·exact Ev (by rw [hout] <;> rfl) (by rw [hout] <;> rfl)
  ·rw [hout]
   rfl
 simp only [HS] at h4;refine AC (tN (sQ (sG ?_)))
 have hz : R.1 = 0 := Pq (by assumption)
 rw [hz, IU (by omega)] at hfu1;rw [hz, IY (by omega)] at hco1;subst hfu1 hco1
 have hok2 := he.ok
 have hf2 : R.2.2.m.fuel ≤ s1.m.fuel - 1 := he.le.1
 have ht2 : R.2.2.m.trace.length + R.2.2.m.fuel ≤ s1.m.trace.length + (s1.m.fuel - 1) := he.le.2.1
 have ho2 : R.2.2.off.length + R.2.2.m.fuel ≤ s1.off.length + (s1.m.fuel - 1) := he.offl
 have hd2 : R.2.2.m.deep = s.m.deep := (he.deep (by omega)).trans hdp
 have hvl : R.2.2.vars.length = f.vars.toNat := hok2.vars
 have hby2 : R.2.2.by'.isSome = s.by'.isSome := he.by'.trans hto.by'
 have h1B : Sx.to p inp f R.1 s1 R.2.2 := hb.trans he (by omega)
 refine eK 2 Z (nB (AD (sQ (kY [0,1,5,8,9,12,13,14,15,16,17,18,30,31,32,33,34,35,36,37,38,39,40,41,44,45] Z (rG (eK 2 Z (nB ?_)))))));refine AB Z (fun h5 => ?_) (fun h5 => ?_)
 ·
  simp only [HS] at h5
  have hk1' : t.kind = 1 := by assumption
  have hn1 : 0 ≤ t.n ∧ t.n ≤ f.vars - 1 := by have := hst; grind [A6, Af]
  have hout := hex'.trans ((LP (f := f) hfz hk3 hk6 hR hz).trans (do_1 hk1'))
  refine AO (Le.adoptBox (u := 101) (j := 1) (id := 191) Z Z Z) (nY Z (Bd [[], [], [], [], [], [], [], [], []] BO (by kernel_rfl) (AY (QG_ev tys Z Z (AA Z) Z (AG (AY (Bz rfl Z (AA Z) Z Z Z (AG (AY (QG_ev tys Z Z (AA Z) Z (AG (AY (QG_ev tys Z Z (AA Z) Z (AG (Ah Z ?_)))))))))))))));refine AY (QG_ev tys Z Z (AA Z) Z (AG (AY (QG_ev tys Z Z (AA Z) Z (AG (AY (QG_ev tys Z Z (AA Z) Z (AG (DS (Jb tys Z Z (AA Z) Z Z Z Z Z Z Z Z hn1.1 (by rw [QT, hvl]; omega) ?_))))))))));refine AG (Ah Z ?_);refine LN tys 10008 [T.int R.2.1] Z Z Z Z Z Z (Dc _ _ hn1.1 (by rw [hvl]; omega)) Z Z (by repeat (first | exact AbsL.nil' | refine AbsL.v' ?_)) Z (by decide) (Q3 Z) ?_;refine EL ?_;refine ⟨by kernel_rfl, ?_⟩;refine nZ Z (WO_le (Le.gatherBox (u := 101) (j := 1) (id := 191) Z Z Z (by simp) Z) ?_);refine nZ Z (oN (bN (tN (sG (eK 2 Z (nB (AO (Le.close (u := 100) 1100 Z Z Z) (nY Z (AO (Le.close (u := 101) 1101 Z Z Z) (nY Z (rT (bR (AN (bR ?_))))))))))))));refine eP [_, _, _] ?_ ?_
  ·exact Ev (by rw [hout] <;> rfl) (by rw [hout] <;> rfl)
  ·rw [hout]
   simp [rS, gC, T.ints, putI, QU, A7, fuH, coH]
   done
 simp only [HS] at h5;refine sG (eK 2 Z (nB ?_));refine AB Z (fun h6 => ?_) (fun h6 => ?_)
 ·
  simp only [HS] at h6;refine rG ?_
  have hout := hex'.trans ((LP (f := f) hfz hk3 hk6 hR hz).trans (do_2 (by assumption)))
  refine eK 2 Z (AE rfl Z (AA Z) Z Z Z (eK 2 Z (kZ [0,1,5,8,9,12,13,14,15,16,17,18,30,31,32,33,34,35,36,37,38,39,40,41,44,45,46,47,56,57,58,59,60,61,62] Z (WO_loadOwn tys Z Z (AA Z) Z Z Z Z Z Z (WO_le (Le.adoptE (u := 63) 63 Z Z) (nZ Z (eZ Z (bZ [T.int R.2.1] ?_))))))));refine nZ Z (AF tys Z Z (AA Z) Z Z Z Z Z (.own Z (by first | omega | (simp only [QS]; omega))) Z (.own Z (by first | decide | omega)) (by decide) (by simp; omega) (by decide) Z ?_);refine nZ Z (WO_le (Le.gather (u := 66) (id := 63) Z Z (by first | (simp; done) | (simp; omega) | omega)) ?_);refine nZ Z (AE rfl Z (AA Z) Z Z Z (eK 2 Z (sT Z (nZ Z (oN (bN (tN (sQ (kY [0,1,5,8,9,12,13,14,15,16,17,18,30,31,32,33,34,35,36,37,38,39,40,41,44,45,46,47,56,57,58,59,60,61,62,63,64,65,66,67,68,69] Z (rG (eK 2 Z (nB (AO (Le.close (u := 100) 1100 Z Z Z) (nY Z (AO (Le.close (u := 101) 1101 Z Z Z) ?_)))))))))))))));refine nY Z (rT (bR (AN (bR ?_))));refine eP [_, _, _] ?_ ?_
  ·exact Ev (by rw [hout] <;> rfl) (by rw [hout] <;> rfl)
  ·rw [hout]
   simp [rS, gC, T.ints, putI, QU, A7, fuH, coH]
   done
 simp only [HS] at h6;refine sG (eK 2 Z (nB ?_));refine AB Z (fun h7 => ?_) (fun h7 => ?_)
 ·
  simp only [HS] at h7;refine sG ?_
  have hout := hex'.trans ((LP (f := f) hfz hk3 hk6 hR hz).trans (do_4 (by assumption)))
  refine eK 3 Z (kZ [0,1,5,6,7,8,9,12,13,14,15,16,17,18,30,31,32,33,34,35,36,37,38,39,40,41,44,45,46,47,56,57,70,71,72] Z (nB (AO (Le.close (u := 100) 1100 Z Z Z) (nY Z (AO (Le.close (u := 101) 1101 Z Z Z) (nY Z (rT (bR (tR (bR (AN (bR ?_))))))))))));refine eP [_, _, _] ?_ ?_
  ·exact Ev (by rw [hout] <;> rfl) (by rw [hout] <;> rfl)
  ·rw [hout]
   rfl
 simp only [HS] at h7;refine sG (eK 2 Z (nB ?_));refine AB Z (fun h8 => ?_) (fun h8 => ?_)
 ·
  simp only [HS] at h8;refine sQ (kY [0,1,5,8,9,12,13,14,15,16,17,18,30,31,32,33,34,35,36,37,38,39,40,41,44,45,46,47,56,57,70,71,73,74] Z (rG ?_))
  have hout := hex'.trans ((LP (f := f) hfz hk3 hk6 hR hz).trans (do_5 (by assumption)))
  refine eK 2 Z (AE rfl Z (AA Z) Z Z Z (eZ Z (sT Z (nZ Z (nA (eK 2 Z (nB (AO (Le.close (u := 100) 1100 Z Z Z) (nY Z (AO (Le.close (u := 101) 1101 Z Z Z) (nY Z (rT (bR (tR (bR ?_)))))))))))))));refine AN (bR ?_);refine eP [_, _, _] ?_ ?_
  ·exact Ev (by rw [hout] <;> rfl) (by rw [hout] <;> rfl)
  ·rw [hout]
   rfl
 simp only [HS] at h8;refine sQ (kY [0,1,5,8,9,12,13,14,15,16,17,18,30,31,32,33,34,35,36,37,38,39,40,41,44,45,46,47,56,57,70,71,73,74] Z (rG (eK 2 Z (nB ?_))));refine AB Z (fun h9 => ?_) (fun h9 => ?_)
 ·
  simp only [HS] at h9;refine sQ (sG (eK 2 Z (nB ?_)));refine AB Z (fun h10 => ?_) (fun h10 => ?_)
  ·
   simp only [HS] at h10;refine sG ?_
   have hout := hex'.trans ((LP (f := f) hfz hk3 hk6 hR hz).trans (do_7t (by assumption) (by omega)))
   have hB := DN p inp most k (lev p inp most k) hL hIs fn f h0 h1' hfd hfl t.thn hk1 hl1 R.2.2 hok2 (by omega) (by omega) (by omega) (by omega) (by omega) bm bc bb q pv iv xv xt
   unfold byK at hB;rw [Fn (bb := bb) hby2] at hB;refine eK 4 Z (WO_le (Le.close (u := 100) 1100 Z Z Z) (nZ Z (WO_le (Le.close (u := 101) 1101 Z Z Z) (nZ Z ?_))));refine cP [100,101,102] (hm := (hB)) (k := ?_);refine nZ Z (WO_le (Le.open (u := 100) 1100 Z Z Z Z) (nZ Z (WO_le (Le.open (u := 101) 1101 Z Z Z Z) (nZ Z (kZ [0,1,5,8,9,12,13,14,15,16,17,18,30,31,32,33,34,35,36,37,38,39,40,41,44,45,46,47,56,57,70,71,73,74,79,80,81,82,83,84,85,86,87] Z (WO_evF tys Z Z (AA Z) (d := .t _) Z (nZ Z (WO_evF tys Z Z (AA Z) (d := .t _) Z (nZ Z (eK 2 Z (nB (AO (Le.close (u := 100) 1100 Z Z Z) (nY Z (AO (Le.close (u := 101) 1101 Z Z Z) (nY Z ?_)))))))))))))));refine rT (tR (bR (tR (bR (AN (bR ?_))))));refine eP [_, _, _] ?_ ?_
   ·exact Ev (by rw [hout] <;> rfl) (by rw [hout] <;> rfl)
   ·rw [hout]
    rfl
  simp only [HS] at h10;refine AC (tN (sG ?_))
  have hout := hex'.trans ((LP (f := f) hfz hk3 hk6 hR hz).trans (do_7e (by assumption) (by omega)))
  have hB := DN p inp most k (lev p inp most k) hL hIs fn f h0 h1' hfd hfl t.els hk2 hl2 R.2.2 hok2 (by omega) (by omega) (by omega) (by omega) (by omega) bm bc bb q pv iv xv xt
  unfold byK at hB;rw [Fn (bb := bb) hby2] at hB;refine eK 4 Z (WO_le (Le.close (u := 100) 1100 Z Z Z) (nZ Z (WO_le (Le.close (u := 101) 1101 Z Z Z) (nZ Z ?_))));refine cP [100,101,102] (hm := (hB)) (k := ?_);refine nZ Z (WO_le (Le.open (u := 100) 1100 Z Z Z Z) (nZ Z (WO_le (Le.open (u := 101) 1101 Z Z Z Z) (nZ Z (kZ [0,1,5,8,9,12,13,14,15,16,17,18,30,31,32,33,34,35,36,37,38,39,40,41,44,45,46,47,56,57,70,71,73,74,79,80,81,82,90,91,92,93,94] Z (WO_evF tys Z Z (AA Z) (d := .t _) Z (nZ Z (WO_evF tys Z Z (AA Z) (d := .t _) Z (nZ Z (eK 2 Z (nB (AO (Le.close (u := 100) 1100 Z Z Z) (nY Z (AO (Le.close (u := 101) 1101 Z Z Z) (nY Z ?_)))))))))))))));refine rT (bR (tR (bR (AN (bR ?_)))));refine eP [_, _, _] ?_ ?_
  ·exact Ev (by rw [hout] <;> rfl) (by rw [hout] <;> rfl)
  ·rw [hout]
   rfl
 simp only [HS] at h9;refine sG (eK 2 Z (nB ?_));refine AB Z (fun h10 => ?_) (fun h10 => ?_)
 ·
  simp only [HS] at h10;refine sG (eK 2 Z (nB ?_));refine AB Z (fun h11 => ?_) (fun h11 => ?_)
  ·
   simp only [HS] at h11;refine sQ (sG ?_)
   have hB := DN p inp most k (lev p inp most k) hL hIs fn f h0 h1' hfd hfl t.thn hk1 hl1 R.2.2 hok2 (by omega) (by omega) (by omega) (by omega) (by omega) bm bc bb q pv iv xv xt
   have hb2o := Bb (hL.stmt _ hf) hk1 hok2
   obtain ⟨B, hBd⟩ : ∃ B, B = blS (lev p inp most k) f t.thn R.2.2 := ⟨_, rfl⟩
   change Sx.to p inp f (blS (lev p inp most k) f t.thn R.2.2).1 _ (blS (lev p inp most k) f t.thn R.2.2).2.2 at hb2o;unfold byK at hB;rw [Fn (bb := bb) hby2, ← hBd] at hB;rw [← hBd] at hb2o
   have hB0 := hb2o.h0
   have hf3 : B.2.2.m.fuel ≤ R.2.2.m.fuel := hb2o.le.1
   refine eK 3 Z (kZ [0,1,5,8,9,12,13,14,15,16,17,18,30,31,32,33,34,35,36,37,38,39,40,41,44,45,46,47,56,57,70,71,73,74,79,80,97,98,99,100,102,103,104] Z (eZ Z (WO_le (Le.close (u := 100) 1100 Z Z Z) (nZ Z (WO_le (Le.close (u := 101) 1101 Z Z Z) (nZ Z ?_))))));refine cP [100,101,102] (hm := (hB)) (k := ?_);refine nZ Z (WO_le (Le.open (u := 100) 1100 Z Z Z Z) (nZ Z (WO_le (Le.open (u := 101) 1101 Z Z Z Z) (nZ Z (eZ Z (WO_evF tys Z Z (AA Z) (d := .t _) Z (nZ Z (WO_evF tys Z Z (AA Z) (d := .t _) Z (nZ Z (eK 2 Z (nB (sQ (kY [0,1,5,8,9,10,11,12,13,14,15,16,17,18,30,31,32,33,34,35,36,37,38,39,40,41,44,45,46,47,56,57,70,71,73,74,79,80,97,98,99,100,101,102,103,104,105,106,107,108] Z (rG (eK 2 Z ?_)))))))))))))));refine nB ?_;refine AB Z (fun h12 => ?_) (fun h12 => ?_)
   ·
    simp only [HS] at h12;refine sG ?_
    have hout := hex'.trans ((LP (f := f) hfz hk3 hk6 hR hz).trans (do_8b (by assumption) (by omega) hBd (KE (by assumption))))
    refine eK 4 Z (nB (AO (Le.close (u := 100) 1100 Z Z Z) (nY Z (AO (Le.close (u := 101) 1101 Z Z Z) (nY Z (rT (tR (bR (tR (bR (AN (bR ?_))))))))))));refine eP [_, _, _] ?_ ?_
    ·exact Ev (by rw [hout] <;> rfl) (by rw [hout] <;> rfl)
    ·rw [hout]
     rfl
   simp only [HS] at h12;refine AC (tN (AP (MV Z (tE (AK ?_)))));refine lQ ((B.2.2.m.fuel : Int), _, _, _) ?_ ?_
   ·dsimp only
    have hB1 : B.1 = 0 := Pq (by assumption); refine ⟨k, B.2.2, by omega, by omega, rfl, (hto.trans h1B (by omega)).trans (by rw [hB1] at hb2o; exact hb2o) (by omega), hex'.trans ((LP (f := f) hfz hk3 hk6 hR hz).trans (do_8s (by assumption) (by omega) hBd hB1)), ?_, rfl, rfl⟩; rw [hB1, IU (by omega), IY (by omega)]; rfl
   ·(show Int.toNat _ < Int.toNat _); omega
  simp only [HS] at h11;refine AC (bN (tN (sG (eK 2 Z (nB (AO (Le.close (u := 100) 1100 Z Z Z) (nY Z (AO (Le.close (u := 101) 1101 Z Z Z) (nY Z (rT (bR (AN (bR ?_)))))))))))));refine eP [_, _, _] ?_ ?_
  ·(have hout := hex'.trans ((LP (f := f) hfz hk3 hk6 hR hz).trans (do_8z (by assumption) (by omega))); exact Ev (by rw [hout] <;> rfl) (by rw [hout] <;> rfl))
  ·(have hout := hex'.trans ((LP (f := f) hfz hk3 hk6 hR hz).trans (do_8z (by assumption) (by omega))); rw [hout]; rfl)
 simp only [HS] at h10;refine AC (bN (tN (sG (eK 2 Z (nB (AO (Le.close (u := 100) 1100 Z Z Z) (nY Z (AO (Le.close (u := 101) 1101 Z Z Z) (nY Z (rT (bR (AN (bR ?_)))))))))))));refine eP [_, _, _] ?_ ?_
 ·(have hout := hex'.trans ((LP (f := f) hfz hk3 hk6 hR hz).trans (do_9 (by assumption) (by assumption) (by assumption) (by assumption) (by assumption) (by assumption))); exact Ev (by rw [hout] <;> rfl) (by rw [hout] <;> rfl))
 ·(have hout := hex'.trans ((LP (f := f) hfz hk3 hk6 hR hz).trans (do_9 (by assumption) (by assumption) (by assumption) (by assumption) (by assumption) (by assumption))); rw [hout]; rfl)
open Go.Eng
def caS (p : Prog) (L : Lev) (most : Nat) (fn : Int) (args : List Int) (b : Option By) (m : Ms) : Int × Int × Option By × Ms := EE L p most fn args b m
def J0 (L : Lev) (k : Int) (b : Option By) (m : Ms) : Int × Int × Option By × Ms := L.call k [] b m
section
variable {p : Prog} {inp : List Int} {f : Func} {L : Lev} {most : Nat} {fn : Int} {args : List Int} {b : Option By} {m : Ms} {R : Int × Int × Sx} {Q : Int × By × Ms}
theorem ca_0 (h : m.fuel = 0) : caS p L most fn args b m = (5, 0, b, A7 m) := by rw [caS, EE, if_pos h, KP h]
theorem ca_d (hf : m.fuel ≠ 0) (h : m.deep = most) : caS p L most fn args b m = (4, 0, b, A7 m) := by rw [caS, EE, if_neg hf, if_pos h]
theorem ca_e (hf : m.fuel ≠ 0) (h : m.deep ≠ most) (hfd : f = funcAt p fn) (hR : R = blS L f f.body (startS f args b m)) (h4 : 4 ≤ R.1) : caS p L most fn args b m = (R.1, 0, R.2.2.by', R.2.2.m) := by
 subst hfd;rw [caS, EE, if_neg hf, if_neg h]
 have e : blockS (L.stmt (funcAt p fn)) (funcAt p fn) (funcAt p fn).body (startS (funcAt p fn) args b m) = R := hR.symm
 simp only [e, if_pos h4]
theorem ca_o (hf : m.fuel ≠ 0) (h : m.deep ≠ most) (hfd : f = funcAt p fn) (hR : R = blS L f f.body (startS f args b m)) (h4 : ¬ 4 ≤ R.1) (hQ : offR (J0 L) R.2.2.off.reverse (endS R.1 R.2.1) R.2.2.m = Q) (h5 : 4 ≤ Q.1) : caS p L most fn args b m = (Q.1, 0, R.2.2.by', Q.2.2) := by
 subst hfd;rw [caS, EE, if_neg hf, if_neg h]
 have e : blockS (L.stmt (funcAt p fn)) (funcAt p fn) (funcAt p fn).body (startS (funcAt p fn) args b m) = R := hR.symm
 have e2 : offR (fun k b m => L.call k [] b m) R.2.2.off.reverse (endS R.1 R.2.1) R.2.2.m = Q := hQ
 simp only [e, if_neg h4, e2, if_pos h5]
theorem ca_f (hf : m.fuel ≠ 0) (h : m.deep ≠ most) (hfd : f = funcAt p fn) (hR : R = blS L f f.body (startS f args b m)) (h4 : ¬ 4 ≤ R.1) (hQ : offR (J0 L) R.2.2.off.reverse (endS R.1 R.2.1) R.2.2.m = Q) (h5 : ¬ 4 ≤ Q.1) : caS p L most fn args b m = (Q.2.1.how, if Q.2.1.how = 2 then Q.2.1.pan else R.2.2.res, R.2.2.by', ⟨Q.2.2.used, Q.2.2.fuel, Q.2.2.deep - 1, Q.2.2.trace⟩) := by
 subst hfd;rw [caS, EE, if_neg hf, if_neg h]
 have e : blockS (L.stmt (funcAt p fn)) (funcAt p fn) (funcAt p fn).body (startS (funcAt p fn) args b m) = R := hR.symm
 have e2 : offR (fun k b m => L.call k [] b m) R.2.2.off.reverse (endS R.1 R.2.1) R.2.2.m = Q := hQ
 simp only [e, if_neg h4, e2, if_neg h5]
end
section
variable {p : Prog} {inp : List Int} {L : Lev} {off : List Int} {b0 b1 : By} {m0 m1 : Ms} {pv iv : Value} {most : Int} {k : Int} {R : Int × Int × Option By × Ms} {c : By}
theorem Na (h0 : 0 ≤ k) (h1 : k < off.length) : (off.take (k + 1).toNat).reverse = off[k.toNat]'(by omega) :: (off.take (k - 1 + 1).toNat).reverse := by
 rw [show (k + 1).toNat = k.toNat + 1 from by omega, show (k - 1 + 1).toNat = k.toNat from by omega, List.take_succ_eq_append_getElem (by omega), List.reverse_append];rfl
end
open Go.Eng
def lvC (p : Prog) (inp : List Int) (most n : Nat) (fn : Int) (args : List Int) (b : Option By) (m : Ms) : Int × Int × Option By × Ms := (lev p inp most n).call fn args b m
theorem lc_0 {p : Prog} {inp : List Int} {most n : Nat} {fn : Int} {args : List Int} {b : Option By} {m : Ms} (h : m.fuel = 0) : lvC p inp most n fn args b m = (5, 0, b, A7 m) := by
 cases n with
 | zero => show (5, 0, b, m) = _; rw [KP h]
 | succ n => exact ca_0 h
def OfI (inp : List Int) (L : Lev) (off : List Int) (b0 : By) (m0 : Ms) (pv iv : Value) (most fn : Int) (vars : List Int) (res : Int) (bp : Value) (l : List Int) (B1 B2 : Blk) : Prop :=
 ∃ (b1 : By) (m1 : Ms), (∀ x, x ∈ l → x ∈ off) ∧ l.length ≤ off.length ∧ offR (J0 L) off.reverse b0 m0 = offR (J0 L) l.reverse b1 m1 ∧ 1 ≤ b1.how ∧ b1.how < 4 ∧ m0.le inp m1 ∧ m1.deep = m0.deep ∧ B1 = .box (rS pv iv most m1.fuel 0 m1) ∧ B2 = .box (gC fn vars l res b1.how b1.pan b1.exd bp)
section
variable {p : Prog} {inp : List Int} {L : Lev} {off l : List Int} {b0 b1 : By} {m0 m1 : Ms} {pv iv bp : Value} {most fn res x : Int} {vars : List Int} {R : Int × Int × Option By × Ms} {c : By}
theorem revL (h : 0 < (l.length : Int)) : l.reverse = l[((l.length : Int) - 1).toNat]'(by omega) :: (l.take ((l.length : Int) - 1).toNat).reverse := by
 have := Na (off := l) (k := (l.length : Int) - 1) (by omega) (by omega)
 rw [show ((l.length : Int) - 1 + 1).toNat = l.length from by omega, Qj, show ((l.length : Int) - 1 - 1 + 1).toNat = ((l.length : Int) - 1).toNat from by omega] at this;exact this
theorem Jz (h : 0 < (l.length : Int)) (hex : offR (J0 L) off.reverse b0 m0 = offR (J0 L) l.reverse b1 m1) (hR : R = L.call (l[((l.length : Int) - 1).toNat]'(by omega)) [] (some b1) m1) (hc : R.2.2.1 = some c) (h4 : 4 ≤ R.1) : offR (J0 L) off.reverse b0 m0 = (R.1, c, R.2.2.2) := by
 have e : J0 L (l[((l.length : Int) - 1).toNat]'(by omega)) (some b1) m1 = R := hR.symm
 rw [hex, revL h, offR];simp only [e, if_pos h4, hc, Option.getD_some]
theorem ofI_next (h : 0 < (l.length : Int)) (hin : ∀ x, x ∈ l → x ∈ off) (hlen : l.length ≤ off.length) (hex : offR (J0 L) off.reverse b0 m0 = offR (J0 L) l.reverse b1 m1) (hb1 : 1 ≤ b1.how) (hb2 : b1.how < 4) (hle : m0.le inp m1) (hd : m1.deep = m0.deep) (hR : R = L.call (l[((l.length : Int) - 1).toNat]'(by omega)) [] (some b1) m1)
  (hto : Ms.to inp R.1 (some b1) R.2.2.1 m1 R.2.2.2) (hc : R.2.2.1 = some c) (h4 : ¬ 4 ≤ R.1) {b2 : By} (hb : b2 = if R.1 = 1 then c else ⟨R.1, if R.1 = 2 then R.2.1 else c.pan, c.exd || decide (R.1 = 3)⟩) {B1 B2 : Blk} (e1 : B1 = .box (rS pv iv most (fuH R.1 R.2.2.2) (coH R.1) R.2.2.2)) (e2 : B2 = .box (gC fn vars (l.take ((l.length : Int) - 1).toNat) res b2.how b2.pan b2.exd bp)) :
  OfI inp L off b0 m0 pv iv most fn vars res bp (l.take ((l.length : Int) - 1).toNat) B1 B2 := by
 have e : J0 L (l[((l.length : Int) - 1).toNat]'(by omega)) (some b1) m1 = R := hR.symm
 have hcb := hto.byk (fun x hx => by cases hx; exact ⟨hb1, hb2⟩) c hc
 have hh1 := hto.h1
 rw [IU (by omega), IY (by omega)] at e1;refine ⟨b2, R.2.2.2, fun x hx => hin x (RD hx), by rw [Qa]; omega, ?_, ?_, ?_, hle.trans hto.le, (hto.deep (by omega)).trans hd, e1, e2⟩
 ·rw [hex, revL h, offR]
  simp only [e, if_neg h4, hc, Option.getD_some];subst hb
  split <;> rfl
 ·subst hb
  split
  ·exact hcb.1
  ·exact hh1
 ·subst hb
  split
  ·exact hcb.2
  ·show R.1 < 4; omega
theorem Pb (h0 : ¬ 0 < (l.length : Int)) (hex : offR (J0 L) off.reverse b0 m0 = offR (J0 L) l.reverse b1 m1) : offR (J0 L) off.reverse b0 m0 = (0, b1, m1) := by
 rw [hex, show l = [] from Qy (by omega)];rfl
theorem OQ {h : Int} (e : haH h = 4) : 4 ≤ h := by unfold haH at e; split at e <;> omega
theorem O5 {h : Int} (e : ¬ haH h = 4) : ¬ 4 ≤ h := by intro h'; unfold haH at e; rw [if_pos h'] at e; exact e rfl
end
theorem K8 (p : Prog) (inp : List Int) (most n : Nat) (hI : ∀ k, k < n → NN p inp most k (lev p inp most k) ∧ NF p inp most k (lev p inp most k)) (hg : AZ p = true) (hp : p.ok 1048576) (hi : inp.length ≤ 1048576) (hmost : most ≤ 1048576) (fn : Int) (args : List Int) (b : Option By) (m : Ms) (bm bb : Nat) (q : Kp) (pv iv : Value) (xv : List Value) (xt : List T) (h0 : 0 ≤ fn) (h1' : fn < p.funcs.length) (hal : args.length = (atI (paramsL p) fn).toNat) (hu : m.used ≤ inp.length) (hdm : m.deep ≤ most) (hn : m.fuel ≤ n) (hz : m.fuel = 0) (hn2 : m.fuel ≤ 1048576) (hti : m.trace.length + m.fuel ≤ 1048576) : Proc Try.prog 65 [.t (.v (.pointer (some ⟨bm, 0, none⟩))), .t (.int fn), .t (T.ints args), .t (.v (byP bb b))] ((pv :: iv :: xv)) ((T.Funcs p.funcs :: T.ints inp :: xt)) [byK bb q b, .obox (.pointer (some ⟨bm, 0, none⟩)) (rS pv iv most m.fuel 0 m)] (.tup [.t (.int (haH (lvC p inp most n fn args b m).1)), .t (.int (lvC p inp most n fn args b m).2.1)]) [.obox (byP bb b) (gC q.fn q.vars q.off q.res (hH (lvC p inp most n fn args b m).2.2.1) (nH (lvC p inp most n fn args b m).2.2.1) (xH (lvC p inp most n fn args b m).2.2.1) q.bp), .obox (.pointer (some ⟨bm, 0, none⟩)) (rS pv iv most (fuH (lvC p inp most n fn args b m).1 (lvC p inp most n fn args b m).2.2.2) (coH (lvC p inp most n fn args b m).1) (lvC p inp most n fn args b m).2.2.2)] := by
 obtain ⟨f, hfd⟩ : ∃ f, f = funcAt p fn := ⟨_, rfl⟩
 have hfm : f ∈ p.funcs := hfd ▸ BB h0 h1'
 obtain ⟨g1, g2, g3, g4, hsh, g6⟩ := CK hg hfm
 have hpa : atI (paramsL p) fn = f.params := hfd ▸ B7 h0 h1'
 have hfa : p.funcs[fn.toNat]'(by omega) = f := by rw [hfd]; exact BC (by omega)
 have hget : (p.funcs.map Func.tt)[fn.toNat]? = some f.tt := by rw [G3 _ _ h0 h1', hfa]
 have hal2 : args.length ≤ f.vars.toNat := by omega
 have hfo : f.ok 1048576 := hp.1.2 f hfm
 have hBu := Fo bm pv iv most m (pv :: iv :: xv) (T.Funcs p.funcs :: T.ints inp :: xt) (by omega)
 obtain ⟨co, hco⟩ : ∃ co : Int, co = if m.fuel = 0 then 5 else 0 := ⟨_, rfl⟩
 rw [← hco] at hBu;refine Proc.intro tys Try.func65 Z Z (N := 157) [100, 101] 99 ([(0, .t (.v (.pointer (some ⟨bm, 0, none⟩)))), (1, .t (.int fn)), (2, .t (T.ints args)), (3, .t (.v (byP bb b)))]) ([(100, byK bb q b), (101, .obox (.pointer (some ⟨bm, 0, none⟩)) (rS pv iv most m.fuel 0 m)), (99, .ro (pv :: iv :: xv) (T.Funcs p.funcs :: T.ints inp :: xt))]) Z Z Z Z (by decide) (by decide) Z (fun w0 G F0 => ?_);refine nY Z (AO (Le.openNew (u := 101) 1101 Z Z Z Z Z) (nY Z (AO (Le.named (t := 0) (u := 101) 1101 Z Z) (nY Z (sG (eK 2 Z (nB (sQ (sQ (Am BO (by kernel_rfl) (evQ ?_)))))))))));refine Az rfl Z (AA Z) Z Z Z (evQ ?_);refine evQ ?_;refine AR Z (evQ ?_);refine KU (v := false) (by simp [hz]) ?_;refine evQ ?_
 iterate 9 (refine NG rfl rfl rfl rfl rfl (AA rfl) ?_)
 refine evQ ?_;refine BF (tN (Aq Z (AC (tN (sQ (sG (eZ Z (WO_le (Le.close (u := 101) 1101 Z Z Z) (nZ Z ?_)))))))));refine cP [101] (hm := (hBu)) (k := ?_);refine nZ Z (WO_le (Le.open (u := 101) 1101 Z Z Z Z) (nZ Z (WO_le (Le.known (t := 38) false Z (by simp [hz])) ?_)));refine eZ Z (nB (Ap Z (sG (eK 2 Z (nB (AO (Le.close (u := 101) 1101 Z Z Z) (nY Z (rT (tR ?_)))))))));refine eP [_, _] ?_ ?_
 ·exact Ev (by rw [lc_0 hz] <;> rfl) (by rw [lc_0 hz] <;> rfl)
 ·(rw [if_pos hz] at hco; subst hco; rw [lc_0 hz]; rfl)
theorem K7 (p : Prog) (inp : List Int) (most n : Nat) (hI : ∀ k, k < n → NN p inp most k (lev p inp most k) ∧ NF p inp most k (lev p inp most k)) (hg : AZ p = true) (hp : p.ok 1048576) (hi : inp.length ≤ 1048576) (hmost : most ≤ 1048576) (fn : Int) (args : List Int) (b : Option By) (m : Ms) (bm bb : Nat) (q : Kp) (pv iv : Value) (xv : List Value) (xt : List T) (h0 : 0 ≤ fn) (h1' : fn < p.funcs.length) (hal : args.length = (atI (paramsL p) fn).toNat) (hu : m.used ≤ inp.length) (hdm : m.deep ≤ most) (hn : m.fuel ≤ n) (hfz : m.fuel ≠ 0) (hn2 : m.fuel ≤ 1048576) (hti : m.trace.length + m.fuel ≤ 1048576) : Proc Try.prog 65 [.t (.v (.pointer (some ⟨bm, 0, none⟩))), .t (.int fn), .t (T.ints args), .t (.v (byP bb b))] ((pv :: iv :: xv)) ((T.Funcs p.funcs :: T.ints inp :: xt)) [byK bb q b, .obox (.pointer (some ⟨bm, 0, none⟩)) (rS pv iv most m.fuel 0 m)] (.tup [.t (.int (haH (lvC p inp most n fn args b m).1)), .t (.int (lvC p inp most n fn args b m).2.1)]) [.obox (byP bb b) (gC q.fn q.vars q.off q.res (hH (lvC p inp most n fn args b m).2.2.1) (nH (lvC p inp most n fn args b m).2.2.1) (xH (lvC p inp most n fn args b m).2.2.1) q.bp), .obox (.pointer (some ⟨bm, 0, none⟩)) (rS pv iv most (fuH (lvC p inp most n fn args b m).1 (lvC p inp most n fn args b m).2.2.2) (coH (lvC p inp most n fn args b m).1) (lvC p inp most n fn args b m).2.2.2)] := by
 obtain ⟨f, hfd⟩ : ∃ f, f = funcAt p fn := ⟨_, rfl⟩
 have hfm : f ∈ p.funcs := hfd ▸ BB h0 h1'
 obtain ⟨g1, g2, g3, g4, hsh, g6⟩ := CK hg hfm
 have hpa : atI (paramsL p) fn = f.params := hfd ▸ B7 h0 h1'
 have hfa : p.funcs[fn.toNat]'(by omega) = f := by rw [hfd]; exact BC (by omega)
 have hget : (p.funcs.map Func.tt)[fn.toNat]? = some f.tt := by rw [G3 _ _ h0 h1', hfa]
 have hal2 : args.length ≤ f.vars.toNat := by omega
 have hfo : f.ok 1048576 := hp.1.2 f hfm
 have hBu := Fo bm pv iv most m (pv :: iv :: xv) (T.Funcs p.funcs :: T.ints inp :: xt) (by omega)
 obtain ⟨co, hco⟩ : ∃ co : Int, co = if m.fuel = 0 then 5 else 0 := ⟨_, rfl⟩
 rw [← hco] at hBu;refine Proc.intro tys Try.func65 Z Z (N := 157) [100, 101] 99 ([(0, .t (.v (.pointer (some ⟨bm, 0, none⟩)))), (1, .t (.int fn)), (2, .t (T.ints args)), (3, .t (.v (byP bb b)))]) ([(100, byK bb q b), (101, .obox (.pointer (some ⟨bm, 0, none⟩)) (rS pv iv most m.fuel 0 m)), (99, .ro (pv :: iv :: xv) (T.Funcs p.funcs :: T.ints inp :: xt))]) Z Z Z Z (by decide) (by decide) Z (fun w0 G F0 => ?_);refine nY Z (AO (Le.openNew (u := 101) 1101 Z Z Z Z Z) (nY Z (AO (Le.named (t := 0) (u := 101) 1101 Z Z) (nY Z (sG (eK 2 Z (nB (sQ (sQ (Am BO (by kernel_rfl) (evQ ?_)))))))))));refine Az rfl Z (AA Z) Z Z Z (evQ ?_);refine evQ ?_;refine AR Z (evQ ?_);refine KU (v := true) (by simp; omega) ?_;refine evQ ?_;refine Be Z Z Z Z (AA Z) (evQ ?_);refine Be Z Z Z Z (AA Z) (Az rfl Z (AA Z) Z Z Z (Be Z Z Z Z (AA Z) (evQ ?_)));refine Be Z Z Z Z (AA Z) (evQ ?_);refine AR Z (Be Z Z Z Z (AA Z) (evQ ?_));refine Be Z Z Z Z (AA Z) (Az rfl Z (AA Z) Z Z Z (Be Z Z Z Z (AA Z) (evQ ?_)));refine Be Z Z Z Z (AA Z) (evQ ?_);refine Be Z Z Z Z (AA Z) (evQ ?_);refine evQ ?_;refine AR Z (BF (tN ?_));refine AB Z (fun h1 => ?_) (fun h1 => ?_)
 ·
  simp only [HS] at h1;refine sQ ?_
  obtain ⟨k, hk⟩ : ∃ k, n = k + 1 := ⟨n - 1, by omega⟩
  subst hk
  have hout : lvC p inp most (k + 1) fn args b m = (4, 0, b, A7 m) := ca_d hfz (by omega)
  refine rG (eZ Z (AE rfl Z (AA Z) Z Z Z (eK 2 Z (sT Z (nZ Z (nA (eK 2 Z (nB (AO (Le.close (u := 101) 1101 Z Z Z) (nY Z (rT (tR ?_))))))))))));refine eP [_, _] ?_ ?_
  ·first
   | exact Ev (by first | (rw [hout]; done) | (rw [hout]; rfl)) (by first | (rw [hout]; done) | (rw [hout]; rfl))
  ·first
   | (rw [hout]; have hq : fuH 4 (A7 m) = m.fuel := (by show ((m.fuel - 1 : Nat) : Int) + 1 = m.fuel; omega); simp only [hq]; rfl)
 simp only [HS] at h1;refine AC (tN (sQ (sG (eZ Z (WO_le (Le.close (u := 101) 1101 Z Z Z) (nZ Z ?_))))));refine cP [101] (hm := (hBu)) (k := ?_);refine nZ Z (WO_le (Le.open (u := 101) 1101 Z Z Z Z) (nZ Z (WO_le (Le.known (t := 38) true Z (by simp [hfz])) ?_)));refine eZ Z (nB (Aq Z (AC (tN (sQ ?_)))))
 have hdz : m.deep ≠ most := by omega
 have hbd : (A7 m).deep = m.deep := rfl
 rw [if_neg hfz] at hco;subst hco
 obtain ⟨k, hk⟩ : ∃ k, n = k + 1 := ⟨n - 1, by omega⟩
 subst hk
 have hL := FY (inp := inp) hg most k
 obtain ⟨hIc, hIs⟩ := hI k (by omega)
 refine rG (eZ Z (AE rfl Z (AA Z) Z Z Z (eK 2 Z (evI ?_))));refine AE rfl Z (AA Z) Z Z Z (kZ [0,1,2,3,8,9,44,45] Z (eZ Z (sT Z (nZ Z (nA (eK 2 Z (AE rfl Z (AA Z) Z Z Z (eK 2 Z (Ih tys 99 0 Z Z (AA Z) Z Z Z Z (eZ Z (kZ [0,1,2,3,8,9,47,52,53] Z ?_)))))))))));refine iX (h5 := h0) (h6 := hget) (k := ?_);refine eK 2 Z ?_;refine Ol tys (T.int 0) Z Z (AA Z) Z Z Z Z Z (by repeat (first | exact AbsL.nil' | refine AbsL.v' ?_ | refine AbsL.none' ?_)) Z (by omega) (by omega) (by decide) ?_;refine nZ Z (nZ Z (eZ Z (AL tys Z Z (AA Z) Z Z Z (by kernel_rfl) Z Z Z Z Z Z (AU Z Z (AA Z) Z Z (nZ Z (eZ Z (nB (sQ (AO (Le.nilBox (u := 60) (j := 3) 1 Z Z) (nY Z ?_))))))))));refine QD (u := 60) (pid := 1060) Z Z (fun bc => ?_);refine nY Z (AO (Le.eqK (id := 57) Z (k' := .L 1 ((List.replicate f.vars.toNat (0 : Int)).map T.int)) (by rw [List.map_replicate])) ?_);refine nY Z (kY [0,1,2,8,9,10] Z (rG (eZ Z (AE rfl Z (AA Z) Z Z Z (eK 3 Z (Om (e := 3) Z Z (AA Z) Z (by kernel_rfl) (by kernel_rfl) Z Z (by simp) Z (by simp; omega) ?_))))));refine nZ Z (WO_le (Le.gatherBox (u := 60) (j := 1) (id := 57) Z Z Z (by simp; omega) Z) ?_);refine nZ Z (WO_le (Le.eqK (id := 60) Z (k' := .box (gC fn (setL f.vars.toNat args) [] 0 0 0 false (byP bb b))) (by rw [QU (by simp; omega)]; rfl)) ?_);refine nZ Z (nB (sQ ?_))
 have hso := FG (p := p) (inp := inp) (f := f) (args := args) (b := b) (m := m) hal2 hu
 have hsf : (startS f args b m).m.fuel = m.fuel - 1 := rfl
 have hst : (startS f args b m).m.trace.length = m.trace.length := rfl
 have hsl : (startS f args b m).off.length = 0 := rfl
 have hsd : (startS f args b m).m.deep = m.deep + 1 := rfl
 have hB := DN p inp most k (lev p inp most k) hL hIs fn f h0 h1' hfd hfo.2.1.1 f.body (EF hsh) hfo.1 (startS f args b m) hso (by omega) (by omega) (by omega) (by omega) (by omega) bm bc bb q pv iv xv xt
 have hbo := Bb (hL.stmt _ hfm) (EF hsh) hso
 change Sx.to p inp f (blS (lev p inp most k) f f.body (startS f args b m)).1 _ (blS (lev p inp most k) f f.body (startS f args b m)).2.2 at hbo
 obtain ⟨R, hR⟩ : ∃ R, R = blS (lev p inp most k) f f.body (startS f args b m) := ⟨_, rfl⟩
 rw [← hR] at hB hbo
 obtain ⟨fu1, hfu1⟩ : ∃ fu1, fu1 = fuH R.1 R.2.2.m := ⟨_, rfl⟩
 obtain ⟨co1, hco1⟩ : ∃ co1, co1 = coH R.1 := ⟨_, rfl⟩
 obtain ⟨e0, he0⟩ : ∃ e0, e0 = haH R.1 := ⟨_, rfl⟩
 rw [← hfu1, ← hco1, ← he0] at hB
 have hR0 := hbo.h0
 have hR5 := hbo.h5
 have hf2 : R.2.2.m.fuel ≤ m.fuel - 1 := hbo.le.1
 have ht2 : R.2.2.m.trace.length + R.2.2.m.fuel ≤ m.trace.length + (m.fuel - 1) := hbo.le.2.1
 have ho2 : R.2.2.off.length + R.2.2.m.fuel ≤ 0 + (m.fuel - 1) := hbo.offl
 refine rG (eK 3 Z (kZ [0,1,8,9,10,68,69,70] Z (AE rfl Z (AA Z) Z Z Z (eK 2 Z (Ih tys 99 0 Z Z (AA Z) Z Z Z Z (eZ Z ?_))))));refine iX (h5 := h0) (h6 := hget) (k := ?_);refine eK 2 Z (WO_le (Le.close (u := 101) 1101 Z Z Z) (nZ Z (WO_le (Le.close (u := 60) 1060 Z Z Z) (nZ Z ?_))));refine cP [101,60,100] (hm := (hB)) (k := ?_);refine nZ Z (WO_le (Le.open (u := 101) 1101 Z Z Z Z) (nZ Z (WO_le (Le.open (u := 60) 1060 Z Z Z Z) (nZ Z (kZ [0,8,9,10,79] Z (eZ Z (WO_evF tys Z Z (AA Z) (d := .t _) Z (nZ Z (WO_evF tys Z Z (AA Z) (d := .t _) Z (nZ Z (eK 2 Z (nB (sQ (sG (eK 2 Z ?_)))))))))))))));refine nB ?_;refine AB Z (fun h2 => ?_) (fun h2 => ?_)
 ·
  simp only [HS] at h2;refine sQ (kY [0,8,9,10,11,12] Z (rG (eK 2 Z (nB (AO (Le.close (u := 101) 1101 Z Z Z) (nY Z (rT (tR ?_))))))));refine eP [_, _] ?_ ?_
  ·first
   | (subst hfu1 hco1; have hr4 := OQ (he0.symm.trans (by assumption)); have hout : lvC p inp most (k + 1) fn args b m = _ := ca_e hfz hdz hfd hR hr4; exact Ev (by rw [hout]; show 4 = haH R.1; unfold haH; rw [if_pos hr4]) (by rw [hout]))
  ·first
   | (subst hfu1 hco1; have hr4 := OQ (he0.symm.trans (by assumption)); have hout : lvC p inp most (k + 1) fn args b m = _ := ca_e hfz hdz hfd hR hr4; rw [hout]; rfl)
 simp only [HS] at h2;refine AC (tN (sQ (sQ ?_)))
 have hr4 : ¬ 4 ≤ R.1 := O5 (by rw [← he0]; assumption)
 rw [Po (by omega)] at he0;rw [IU (by omega)] at hfu1;rw [IY (by omega)] at hco1;subst hfu1 hco1 he0
 have hd2 : R.2.2.m.deep = m.deep + 1 := hbo.deep (by omega)
 have hes := Mm (v := R.2.1) hR0 (by omega)
 refine kY [0,8,9,10,11,12] Z (rG (eK 2 Z (nB ?_)));refine Ar (α := Int) [0, 8, 9, 10, 12] [60, 99, 100, 101, 1101, 1060] (fun x => [(11, .t (.int x))]) (fun x => []) (fun x => x = (endS R.1 R.2.1).how) ?_ (fun e11 hx => ?_)
 ·
  refine AB Z (fun h3 => ?_) (fun h3 => ?_)
  ·
   simp only [HS] at h3;refine rG (eZ Z (oN (jQ _ ?_)))
   simp only [endS]; split <;> omega
  simp only [HS] at h3;refine AC (jQ _ ?_)
  simp only [endS]; split <;> omega
 have he11 := hx
 refine tN (sQ ?_);subst he11
 have hEn := KN bc (endS R.1 R.2.1).how R.2.1 fn R.2.2.vars R.2.2.off R.2.2.res 0 0 false (byP bb b) (pv :: iv :: xv) (T.Funcs p.funcs :: T.ints inp :: xt)
 rw [show (if (endS R.1 R.2.1).how = 2 then R.2.1 else 0) = (endS R.1 R.2.1).pan from by grind [endS], show (or false (decide ((endS R.1 R.2.1).how = 3))) = (endS R.1 R.2.1).exd from by grind [endS]] at hEn;refine kY [0,8,9,10,11,12] Z (rG (eK 3 Z (WO_le (Le.close (u := 60) 1060 Z Z Z) (nZ Z ?_))));refine cP [60] (hm := (hEn)) (k := ?_);refine nZ Z (WO_le (Le.open (u := 60) 1060 Z Z Z Z) (nZ Z (nB (sQ (AD ?_)))));refine lK (α := List Int × Blk × Blk) [0, 10] [99, 100, 1101, 1060] (fun x => []) (fun x => [(101, (x.2.1)), (60, (x.2.2))]) (fun x => OfI inp (lev p inp most k) R.2.2.off (endS R.1 R.2.1) R.2.2.m pv iv most fn R.2.2.vars R.2.2.res (byP bb b) (x.1) (x.2.1) (x.2.2)) (fun x => Int.toNat ((x.1).length)) (R.2.2.off, .box (rS pv iv most R.2.2.m.fuel 0 R.2.2.m), .box (gC fn R.2.2.vars R.2.2.off R.2.2.res (endS R.1 R.2.1).how (endS R.1 R.2.1).pan (endS R.1 R.2.1).exd (byP bb b))) ?_ (fun x hx => ?_)
 ·exact ⟨_, _, fun x hx => hx, Qm _, rfl, hes.1, hes.2, ⟨Qm _, Qm _, hbo.ok.used⟩, rfl, rfl, rfl⟩
 obtain ⟨l, B1, B2⟩ := x
 obtain ⟨b1, m1, hin, hlen, hex, hb1, hb2, hle, hd1, hB1, hB2⟩ := hx
 dsimp only at hin hlen hex hb1 hb2 hle hd1 hB1 hB2 ⊢;subst hB1 hB2;refine nY Z (sQ (sQ (AO (Le.adoptBoxI (u := 60) (j := 3) (id := 192) Z Z Z) (nY Z (rG (eZ Z (AE rfl Z (AA Z) Z Z Z (eK 2 Z (evE ?_)))))))));refine eZ Z (nB ?_);refine AB Z (fun h3 => ?_) (fun h3 => ?_)
 ·
  simp only [HS] at h3;refine AC (tN (AD (sQ ?_)))
  have hl0 : 0 < (l.length : Int) := by omega
  have hf3 : m1.fuel ≤ R.2.2.m.fuel := hle.1
  have ht3 : m1.trace.length + m1.fuel ≤ R.2.2.m.trace.length + R.2.2.m.fuel := hle.2.1
  obtain ⟨q0, q1, q2⟩ := hbo.ok.off (l[((l.length : Int) - 1).toNat]'(by omega)) (hin _ (Qb _))
  have hto1 := hL.call (l[((l.length : Int) - 1).toNat]'(by omega)) [] (some b1) m1 q0 q1 (by rw [q2]; rfl) hle.2.2
  have hCa := hIc (l[((l.length : Int) - 1).toNat]'(by omega)) [] (some b1) m1 bm bc ⟨fn, R.2.2.vars, l.take ((l.length : Int) - 1).toNat, R.2.2.res, byP bb b⟩ pv iv xv xt q0 q1 (by rw [q2]; rfl) hle.2.2 (by omega) (by omega) (by omega) (by omega)
  obtain ⟨R1, hR1⟩ : ∃ R1, R1 = (lev p inp most k).call (l[((l.length : Int) - 1).toNat]'(by omega)) [] (some b1) m1 := ⟨_, rfl⟩
  rw [← hR1] at hCa hto1
  obtain ⟨c1, hc1⟩ : ∃ c1, R1.2.2.1 = some c1 := by have := hto1.by'; cases h : R1.2.2.1 with | none => rw [h] at this; cases this | some c1 => exact ⟨c1, rfl⟩
  rw [hc1] at hCa
  have hh1 := hto1.h1
  have hh5 := hto1.h5
  obtain ⟨e1, he1⟩ : ∃ e1, e1 = haH R1.1 := ⟨_, rfl⟩
  rw [← he1] at hCa;refine rG (eZ Z (AE rfl Z (AA Z) Z Z Z (eZ Z (kZ [0,10,90,91,92,93,94,95,96,97,98] Z (eZ Z (evE ?_))))));refine evI ?_;refine eZ Z (nA (eZ Z (AE rfl Z (AA Z) Z Z Z (eK 3 Z (kZ [0,10,13,90,91,92,93,94,95,96,97,98,99,100,101,102,103,104,105,106] Z (Ag tys Z Z (AA Z) Z Z Z Z Z Z Z Z (by omega) (by omega) (AV tys Z Z (AA Z) Z Z Z Z (Dc _ _ (by omega) (by omega)) Z (eZ Z (nA (eK 2 Z (AE rfl Z (AA Z) Z Z Z (eK 3 Z (kZ [0,10,13,14,90,91,92,93,94,95,96,97,98,99,100,101,102,103,104,105,106,107,108,109,110,111,112,113,114] Z (DF tys Z Z (AA Z) Z Z Z Z Z Z Z Z Z (by omega) (by omega) (by omega) (AE rfl Z (AA Z) Z Z Z ?_)))))))))))))));refine eZ Z (sT Z (nZ Z (nB (sQ (AO (Le.gatherBox (u := 60) (j := 3) (id := 192) Z Z Z (by first | (simp; done) | (simp; omega)) Z) ?_)))));refine nY Z (AO (Le.eqK (id := 60) Z (k' := .box (gC fn R.2.2.vars (l.take ((l.length : Int) - 1).toNat) R.2.2.res b1.how b1.pan b1.exd (byP bb b))) (by rw [← List.map_take]; rfl)) ?_);refine nY Z (rG (eK 3 Z (WO_le (Le.close (u := 60) 1060 Z Z Z) (nZ Z (WO_le (Le.close (u := 101) 1101 Z Z Z) (nZ Z ?_))))));refine cP [60,101] (hm := (hCa)) (k := ?_);refine nZ Z (WO_le (Le.open (u := 60) 1060 Z Z Z Z) (nZ Z (WO_le (Le.open (u := 101) 1101 Z Z Z Z) (nZ Z (eZ Z (kZ [0,10,13,14,90,91,92,93,94,95,96,97,98,99,100,101,102,103,104,105,106,107,108,109,110,111,112,113,114,115,116,117,118,119,120,121,122] Z (WO_evF tys Z Z (AA Z) (d := .t _) Z (nZ Z (WO_evF tys Z Z (AA Z) (d := .t _) Z (nZ Z (eK 2 Z (nB (sQ (sG (eK 2 Z ?_)))))))))))))));refine nB ?_;refine AB Z (fun h4 => ?_) (fun h4 => ?_)
  ·
   simp only [HS] at h4;refine sG (eK 2 Z (nB (AO (Le.close (u := 101) 1101 Z Z Z) (nY Z (rT (tR (bR (AN (bR (tR ?_))))))))));refine eP [_, _] ?_ ?_
   ·first
    | (have hr5 := OQ (he1.symm.trans (by assumption)); have hout : lvC p inp most (k + 1) fn args b m = _ := ca_o hfz hdz hfd hR hr4 (Jz hl0 hex hR1 hc1 hr5) hr5; exact Ev (by rw [hout]; show 4 = haH R1.1; unfold haH; rw [if_pos hr5]) (by rw [hout]))
   ·first
    | (have hr5 := OQ (he1.symm.trans (by assumption)); have hout : lvC p inp most (k + 1) fn args b m = _ := ca_o hfz hdz hfd hR hr4 (Jz hl0 hex hR1 hc1 hr5) hr5; rw [hout]; rfl)
  simp only [HS] at h4;refine AC (tN (sQ ?_))
  have hr5 : ¬ 4 ≤ R1.1 := O5 (by rw [← he1]; assumption)
  rw [Po (by omega)] at he1
  have hEn2 := KN bc e1 R1.2.1 fn R.2.2.vars (l.take ((l.length : Int) - 1).toNat) R.2.2.res c1.how c1.pan c1.exd (byP bb b) (pv :: iv :: xv) (T.Funcs p.funcs :: T.ints inp :: xt)
  refine rG (eK 2 Z (nB ?_));refine AB Z (fun h5 => ?_) (fun h5 => ?_)
  ·
   simp only [HS] at h5;refine kY [0,10,13,14,15,16,90,91,92,93,94,95,96,97,98,99,100,101,102,103,104,105,106,107,108,109,110,111,112,113,114,115,116,117,118,119,120,121,122,123,124,125,126,127,128] Z (rG (eK 3 Z (WO_le (Le.close (u := 60) 1060 Z Z Z) (nZ Z ?_))));refine cP [60] (hm := (hEn2)) (k := ?_);refine nZ Z (WO_le (Le.open (u := 60) 1060 Z Z Z Z) (nZ Z (oN (bN ?_))));refine lQ ((l.take ((l.length : Int) - 1).toNat), _, _) ?_ ?_
   ·dsimp only
    subst he1; first | exact ofI_next hl0 hin hlen hex hb1 hb2 hle hd1 hR1 hto1 hc1 hr5 rfl rfl (by rw [if_pos (show R1.1 = 1 from by omega)]; rfl) | exact ofI_next hl0 hin hlen hex hb1 hb2 hle hd1 hR1 hto1 hc1 hr5 rfl rfl (by rw [if_neg (show ¬ R1.1 = 1 from by omega)]; rfl)
   ·(try dsimp only); simp only [Qa]; omega
  simp only [HS] at h5;refine AC (bN ?_);refine lQ ((l.take ((l.length : Int) - 1).toNat), _, _) ?_ ?_
  ·dsimp only
   subst he1; first | exact ofI_next hl0 hin hlen hex hb1 hb2 hle hd1 hR1 hto1 hc1 hr5 rfl rfl (by rw [if_pos (show R1.1 = 1 from by omega)]; rfl) | exact ofI_next hl0 hin hlen hex hb1 hb2 hle hd1 hR1 hto1 hc1 hr5 rfl rfl (by rw [if_neg (show ¬ R1.1 = 1 from by omega)]; rfl)
  ·(try dsimp only); simp only [Qa]; omega
 simp only [HS] at h3;refine AP (tE (AM (AK (tN (sQ ?_)))))
 have hQ := Pb (by omega) hex
 have hout : lvC p inp most (k + 1) fn args b m = (b1.how, if b1.how = 2 then b1.pan else R.2.2.res, R.2.2.by', ⟨m1.used, m1.fuel, m1.deep - 1, m1.trace⟩) := ca_f hfz hdz hfd hR hr4 hQ (by show ¬ (4 : Int) ≤ 0; omega)
 have hdd : (m1.deep : Int) - 1 = ((m1.deep - 1 : Nat) : Int) := by omega
 refine rG (eZ Z (AE rfl Z (AA Z) Z Z Z (eZ Z (kZ [10,133,135] Z (eZ Z (evI ?_))))));refine AE rfl Z (AA Z) Z Z Z (eZ Z (sT Z (nZ Z (nB (sQ (sG (eZ Z (AE rfl Z (AA Z) Z Z Z (eK 2 Z (kZ [10,143] Z (eZ Z (nB ?_))))))))))));refine AB Z (fun h4 => ?_) (fun h4 => ?_)
 ·
  simp only [HS] at h4;refine sQ (Am BO (by kernel_rfl) (evQ ?_));refine Az rfl Z (AA Z) Z Z Z (evQ ?_);refine evQ ?_;refine evQ ?_;refine AR Z (evQ ?_);refine BF (tN (AO (Le.close (u := 101) 1101 Z Z Z) (nY Z (rT (tR ?_)))));refine eP [_, _] ?_ ?_
  ·first
   | exact Ev (by rw [hout]; show 2 = haH b1.how; rw [show b1.how = 2 from by assumption]; rfl) (by rw [hout]; exact (if_pos (by assumption)).symm)
  ·first
   | (rw [hout]; simp only [IU hb2, IY hb2]; rw [hdd]; rfl)
 simp only [HS] at h4;refine AC (tN (sQ (Am BO (by kernel_rfl) (evQ ?_))));refine Az rfl Z (AA Z) Z Z Z (evQ ?_);refine evQ ?_;refine evQ ?_;refine AR Z (Az rfl Z (AA Z) Z Z Z (evQ ?_));refine evQ ?_;refine evQ ?_;refine evQ ?_;refine BF (tN (AO (Le.close (u := 101) 1101 Z Z Z) (nY Z (rT ?_))));refine eP [_, _] ?_ ?_
 ·first
  | exact Ev (by rw [hout]; exact (Po hb2).symm) (by rw [hout]; exact (if_neg (by assumption)).symm)
 ·first
  | (rw [hout]; simp only [IU hb2, IY hb2]; rw [hdd]; rfl)
open Go.Eng
def F5 (p : Prog) (inp : List Int) (most fuel : Nat) : Int × Int × Option By × Ms := (lev p inp most fuel).call 0 [] none ⟨0, fuel, 0, []⟩
def PZ (h v : Int) : Int := if h = 1 then v else if h = 2 then v else 0
theorem Ck {p : Prog} (hg : AZ p = true) : (0 : Int) < p.funcs.length ∧ atI (paramsL p) 0 = 0 := by
 have h1 := BZ hg
 refine ⟨by omega, ?_⟩;unfold AZ at hg;simp only [QR, decide_eq_true_eq] at hg;exact hg.2.2.1
theorem PT {p : Prog} {inp : List Int} (hg : AZ p = true) (most fuel : Nat) : Ms.to inp (F5 p inp most fuel).1 none (F5 p inp most fuel).2.2.1 ⟨0, fuel, 0, []⟩ (F5 p inp most fuel).2.2.2 :=
 (FY hg most fuel).call 0 [] none ⟨0, fuel, 0, []⟩ (by omega) (Ck hg).1 (by rw [(Ck hg).2]; rfl) (Nat.zero_le _)
theorem retO {a a' b b' c c' : Int} {t t' : List T} (h1 : a = a') (h2 : b = b') (h3 : t = t') (h4 : c = c') : [D.agg [D.t (T.v (Value.int .i64 a)), D.t (T.v (Value.int .i64 b)), D.own (T.list 1 t), D.t (T.v (Value.int .i64 c))]] = [D.agg [D.t (T.int a'), D.t (T.int b'), D.own (T.list 1 t'), D.t (T.int c')]] := by rw [h1, h2, h3, h4]
def Co (p : Prog) (inp : List Int) (most : Int) : Bool := AZ p && (decide ((inp.length : Int) ≤ 10) && (CS inp (-2147483648) 2147483647 && decide (1 ≤ most ∧ most ≤ 12)))
open Go.Eng
theorem levI {p : Prog} {inp : List Int} {most : Nat} (hg : AZ p = true) (hp : p.ok 1048576) (hi : inp.length ≤ 1048576) (hmost : most ≤ 1048576) (n : Nat) : NN p inp most n (lev p inp most n) ∧ NF p inp most n (lev p inp most n) := by
 induction n using Nat.strongRecOn with
 | _ n hI =>
  constructor
  ·intro fn args b m bm bb q pv iv xv xt h0 h1 ha hu hd hn hn2 hti
   by_cases hz : m.fuel = 0
   ·exact K8 p inp most n hI hg hp hi hmost fn args b m bm bb q pv iv xv xt h0 h1 ha hu hd hn hz hn2 hti
   ·exact K7 p inp most n hI hg hp hi hmost fn args b m bm bb q pv iv xv xt h0 h1 ha hu hd hn hz hn2 hti
  ·intro fn f t s bm bc bb q pv iv xv xt h0 h1 hfd ht hs hn hn2 hti hof hdm
   exact Lf p inp most n hI hg hp hi hmost fn f t s bm bc bb q pv iv xv xt h0 h1 hfd ht hs hn hn2 hti hof hdm
theorem haH_2 {h : Int} (e : haH h = 2) : h = 2 := by unfold haH at e; split at e <;> omega
theorem haH_3 {h : Int} (e : haH h = 3) : h = 3 := by unfold haH at e; split at e <;> omega
theorem PA {h : Int} (h1 : 1 ≤ h) (a : ¬ haH h = 1) (b : ¬ haH h = 2) (c : ¬ haH h = 3) : 4 ≤ h ∧ coH h = h := by
 unfold haH at a b c
 by_cases h4 : 4 ≤ h
 ·exact ⟨h4, by unfold coH; rw [if_pos h4]⟩
 ·rw [if_neg h4] at a b c; omega
theorem Ke (p : Prog) (inp : List Int) (most fuel : Nat) (hg : AZ p = true) (hp : p.ok 1048576) (hi : inp.length ≤ 1048576) (hmost : most ≤ 1048576) (hfu : fuel ≤ 1048576) : Fun Try.prog 38 [.t p.tt, .t (T.ints inp), .t (.int most), .t (.int fuel)] (Aw [.agg [.t (.int (F5 p inp most fuel).1), .t (.int (PZ (F5 p inp most fuel).1 (F5 p inp most fuel).2.1)), .own (T.ints (F5 p inp most fuel).2.2.2.trace), .t (.int (F5 p inp most fuel).2.2.2.used)]]) := by
 have hto := PT (inp := inp) hg most fuel
 have hC := (levI (inp := inp) hg hp hi hmost fuel).1
 have hm := Ck hg
 obtain ⟨R, hR⟩ : ∃ R, R = F5 p inp most fuel := ⟨_, rfl⟩
 rw [← hR] at hto ⊢
 have hr1 := hto.h1
 refine Fun.begin tys Try.func38 Z Z (N := 56) [(0, .t p.tt), (1, .t (T.ints inp)), (2, .t (.int most)), (3, .t (.int fuel))] Z Z (fun w0 G F0 => ?_);refine sG (AU Z Z (AA Z) Z Z (nZ Z (AJ tys Z Z (AA Z) Z Z Z (nZ Z (nA (eZ Z ?_))))))
 try refine WO_le (Le.freeze (u := 12) rfl) ?_
 refine nZ Z (eK 3 Z (LI (pl := [(0, 1), (1, 1), (2, 1), (3, 1), (4, 1), (5, 4)]) tys Z Z (AA Z) Z Z Z (by kernel_rfl) Z Z Z Z Z (AU Z Z (AA Z) Z Z (nZ Z (eZ Z (kZ [8,9] Z (nB (sQ ?_))))))));refine Ig (u := 17) (j := 0) 99 Z Z Z (fun pv => ?_);refine nY Z ?_;refine Ig (u := 17) (j := 1) 98 Z Z Z (fun iv => ?_);refine nY Z (AO (Le.roJoin 99 98 Z Z) (nY Z (AO (Le.nilBox (u := 17) (j := 7) 1 Z Z) (nY Z ?_))));refine QD (u := 17) (pid := 1017) Z Z (fun bm => ?_);refine nY Z (AO (Le.noBox 150 (gC 0 [] [] 0 0 0 false (.pointer none)) Z) (nY Z ?_))
 have hCa := hC 0 [] none ⟨0, fuel, 0, []⟩ bm 0 ⟨0, [], [], 0, .pointer none⟩ pv iv [] [] (by omega) hm.1 (by rw [hm.2]; rfl) (Nat.zero_le _) (Nat.zero_le _) (Qm _) hfu (by simpa using hfu)
 rw [show (lev p inp most fuel).call 0 [] none ⟨0, fuel, 0, []⟩ = R from hR.symm] at hCa;refine rG (eZ Z (WO_le (Le.close (u := 17) 1017 Z Z Z) (nZ Z ?_)));refine cP [150,17] (hm := (hCa)) (k := ?_);refine nZ Z (WO_le (Le.open (u := 17) 1017 Z Z Z Z) (nZ Z (eZ Z (WO_evF tys Z Z (AA Z) (d := .t _) Z (nZ Z (WO_evF tys Z Z (AA Z) (d := .t _) Z (nZ Z (eK 2 Z (nB (sQ (sQ (kY [8,9,10,11] Z (rG (eZ Z (nB ?_)))))))))))))));refine AD (sG (eK 2 Z (nB ?_)));refine AB Z (fun h1 => ?_) (fun h1 => ?_)
 ·
  simp only [HS] at h1;refine rG (eK 3 Z (AE rfl Z (AA Z) Z Z Z (eK 2 Z (kZ [8,9,27,28,31] Z (sT Z (nZ Z (AE rfl Z (AA Z) Z Z Z (eK 2 Z (sT Z (nZ Z (oN (bN (tN (sQ (AO (Le.adoptBox (u := 17) (j := 7) (id := 195) Z Z Z) ?_)))))))))))))));refine nY Z (rG (eZ Z (AE rfl Z (AA Z) Z Z Z (eK 2 Z ?_))))
  try refine WO_le (Le.freeze (u := 55) rfl) ?_
  refine nZ Z (kZ [8,55] Z (sT Z (nZ Z (WO_le (Le.gatherBox (u := 8) (j := 2) (id := 195) Z Z Z (by simp) Z) ?_))));refine nZ Z (nZ Z (nB (rT (eR ?_))))
  ·first
   | (have e := Pp (by assumption); exact retO e.symm (by rw [PZ, if_pos e]) (by simp [QU]) rfl)
 simp only [HS] at h1;refine sG (eK 2 Z (nB ?_));refine AB Z (fun h2 => ?_) (fun h2 => ?_)
 ·
  simp only [HS] at h2;refine rG (eK 3 Z (AE rfl Z (AA Z) Z Z Z (kZ [8,9,38,39,40] Z (eK 2 Z (sT Z (nZ Z (AE rfl Z (AA Z) Z Z Z (eK 2 Z (sT Z (nZ Z (oN (bN (tN (sQ (AO (Le.adoptBox (u := 17) (j := 7) (id := 195) Z Z Z) ?_)))))))))))))));refine nY Z (kY [8,9] Z (rG (eZ Z (AE rfl Z (AA Z) Z Z Z (eK 2 Z ?_)))))
  try refine WO_le (Le.freeze (u := 55) rfl) ?_
  refine nZ Z (sT Z (nZ Z (WO_le (Le.gatherBox (u := 8) (j := 2) (id := 195) Z Z Z (by simp) Z) ?_)));refine nZ Z (nZ Z (nB (rT (eR ?_))))
  ·first
   | (have e := haH_2 (by assumption); exact retO e.symm (by rw [PZ, if_neg (by omega), if_pos e]) (by simp [QU]) rfl)
 simp only [HS] at h2;refine sG (eK 2 Z (nB ?_));refine AB Z (fun h3 => ?_) (fun h3 => ?_)
 ·
  simp only [HS] at h3;refine kY [8,9] Z (rG (eZ Z (AE rfl Z (AA Z) Z Z Z (eK 2 Z (sT Z (nZ Z (oN (bN (tN (sQ (AO (Le.adoptBox (u := 17) (j := 7) (id := 195) Z Z Z) (nY Z (rG (eZ Z (AE rfl Z (AA Z) Z Z Z ?_)))))))))))))));refine eK 2 Z ?_
  try refine WO_le (Le.freeze (u := 55) rfl) ?_
  refine nZ Z (kZ [8,55] Z (sT Z (nZ Z (WO_le (Le.gatherBox (u := 8) (j := 2) (id := 195) Z Z Z (by simp) Z) ?_))));refine nZ Z (nZ Z (nB (rT (eR ?_))))
  ·first
   | (have e := haH_3 (by assumption); exact retO e.symm (by rw [PZ, if_neg (by omega), if_neg (by omega)]) (by simp [QU]) rfl)
 simp only [HS] at h3;refine AC (bN (tN (sQ (AO (Le.adoptBox (u := 17) (j := 7) (id := 195) Z Z Z) (nY Z (kY [8,9] Z (rG (eZ Z (AE rfl Z (AA Z) Z Z Z (eK 2 Z ?_))))))))))
 try refine WO_le (Le.freeze (u := 55) rfl) ?_
 refine nZ Z (sT Z (nZ Z (WO_le (Le.gatherBox (u := 8) (j := 2) (id := 195) Z Z Z (by simp) Z) ?_)));refine nZ Z (nZ Z (nB (rT (eR ?_))))
 ·first
  | exact retO (PA hr1 (by assumption) (by assumption) (by assumption)).2 (by have h := (PA hr1 (by assumption) (by assumption) (by assumption)).1; rw [PZ, if_neg (by omega), if_neg (by omega)]) (by simp [QU]) rfl
theorem JV (n : Int) : Fun Try.prog 63 [.t (.int n)] (Aw [.t (.bool (!decide (-2147483648 ≤ n ∧ n ≤ 2147483647)))]) := by
 refine Fun.begin tys Try.func63 Z Z (N := 6) [(0, .t (.int n))] Z Z (fun w0 G F0 => ?_);refine sG (eZ Z (nA (eZ Z (AI ?_))));refine ⟨_, Fd _, rfl, ?_⟩;refine eK 2 Z (nB (rT (eR ?_)))
 ·rfl
theorem B9 {l : List Int} : (l.any fun n => !decide (-2147483648 ≤ n ∧ n ≤ 2147483647)) = !CS l (-2147483648) 2147483647 := by
 rw [CS, List.not_all_eq_any_not]
theorem LC (p : Prog) (inp : List Int) (most : Int) (hp : p.ok 1048576) (hi : inp.length ≤ 1048576) : Fun Try.prog 36 [.t p.tt, .t (T.ints inp), .t (.int most)] (Aw [.t (.bool (Co p inp most))]) := by
 refine Fun.begin tys Try.func36 Z Z (N := 23) [(0, .t p.tt), (1, .t (T.ints inp)), (2, .t (.int most))] Z Z (fun w0 G F0 => ?_);refine sG (AU Z Z (AA Z) Z Z (nZ Z (eZ Z (nA (eZ Z ?_)))))
 try refine WO_le (Le.freeze (u := 7) rfl) ?_
 refine nZ Z (AI ?_);refine ⟨_, Ea p hp, rfl, ?_⟩;refine eZ Z ?_;refine gB (fun h1 => ?_) (fun h1 => ?_)
 ·
  simp only [HS] at h1;refine xK 4 Z (kZ [1,2,6,14] Z (xK 9 Z (kZ [6] Z (nB (rT (eR ?_))))))
  ·exact retB (by first | grind [Co] | (rw [B9]; grind [Co]))
 refine eZ Z (gY Z (evE ?_));refine xK 2 Z (kZ [1,2,6,13] Z (eZ Z ?_));refine gB (fun h2 => ?_) (fun h2 => ?_)
 ·
  simp only [HS] at h2;refine xK 8 Z (kZ [6] Z (nB (rT (eR ?_))))
  ·exact retB (by first | grind [Co] | (rw [B9]; grind [Co]))
 simp only [HS] at h2;refine eZ Z (gY Z (AI ?_));refine ⟨_, Ab _ _ _, rfl, ?_⟩;refine eK 2 Z ?_;refine gB (fun h3 => ?_) (fun h3 => ?_)
 ·
  simp only [HS] at h3;refine xK 4 Z (kZ [6] Z (nB (rT (eR ?_))))
  ·exact retB (by first | grind [Co] | (rw [B9]; grind [Co]))
 simp only [HS] at h3;refine eZ Z (gY Z (AI ?_));refine ⟨_, D7 inp (fun n => !decide (-2147483648 ≤ n ∧ n ≤ 2147483647)) _ [] Z (by omega) (fun x _ => JV x), rfl, ?_⟩;refine xK 2 Z (kZ [6,22] Z (eZ Z (nB (rT (eR ?_)))))
 ·exact retB (by first | grind [Co] | (rw [B9]; grind [Co]))
open Go.Eng
def run (m : Int) (g : Nat) : List Int := (List.range g).map fun i : Nat => m + i
theorem Gr (m : Int) (g : Nat) : (run m g).length = g := by simp [run]
theorem Jn (m : Int) (g : Nat) : run m (g + 1) = run m g ++ [m + g] := by simp [run, List.range_succ]
theorem mem_run {m x : Int} {g : Nat} : x ∈ run m g ↔ m ≤ x ∧ x < m + g := by
 simp only [run, RN, Q9]
 constructor
 ·rintro ⟨i, hi, rfl⟩; omega
 ·intro h; exact ⟨(x - m).toNat, by omega, by omega⟩
theorem PS (m : Int) (g h : Nat) : run m (g + h) = run m g ++ run (m + g) h := by
 induction h with
 | zero => simp [run]
 | succ h ih => rw [← RT, Jn, ih, Jn, Qh]; congr 3; simp; omega
theorem Lu {m : Int} {g : Nat} {a b : List Int} (h : run m g = a ++ b) : a = run m a.length ∧ b = run (m + a.length) b.length := by
 have hl := congrArg List.length h
 rw [Gr, QS] at hl;rw [hl, PS] at h;exact ⟨(List.append_inj_left h (by rw [Gr])).symm, (List.append_inj_right h (by rw [Gr])).symm⟩
theorem NU (N : Nat) : CP N = run 0 N := by simp [CP, run]
theorem N7 {N : Int} {kids : Int → List Int × List Int} (hd : BT N kids) {b : List Int} (hb : inB N 0 b) (m : Int) (hm : m ∈ ord N kids b) : ∃ l r, ord N kids b = l ++ ord N kids [m] ++ r :=
 Dx hd (p := fun b o => m ∈ o → ∃ l r, o = l ++ ord N kids [m] ++ r) (fun h => by cases h) (fun n b h1 h2 _ i1 i2 i3 hm => by
  simp only [RI, QZ, QV] at hm ⊢
  rcases hm with rfl | (hm | hm) | hm
  ·refine ⟨[], ord N kids b, ?_⟩
   rw [Dy hd (by intro x hx; rw [Qf] at hx; subst hx; exact ⟨h1, h2⟩), EX]
   simp
  ·obtain ⟨l, r, e⟩ := i1 hm; exact ⟨n :: l, r ++ (ord N kids (kids n).2 ++ ord N kids b), by rw [e]; simp⟩
  ·obtain ⟨l, r, e⟩ := i2 hm; exact ⟨n :: (ord N kids (kids n).1 ++ l), r ++ ord N kids b, by rw [e]; simp⟩
  ·obtain ⟨l, r, e⟩ := i3 hm; exact ⟨n :: (ord N kids (kids n).1 ++ (ord N kids (kids n).2 ++ l)), r, by rw [e]; simp⟩) hb hm
theorem GQ {f : Func} (h : Ai f = true) : BT f.stmts.length (kids f.stmts) ∧ inB f.stmts.length 0 f.body ∧ ord f.stmts.length (kids f.stmts) f.body = CP f.stmts.length := by
 unfold Ai at h;simp only [QR] at h;exact shapeB_iff.1 h.2.2.1
def GD (f : Func) (s : Int) : Nat := (A2 f [s]).length
theorem OT {f : Func} (h : Ai f = true) {s : Int} (h0 : 0 ≤ s) (h1 : s < f.stmts.length) : A2 f [s] = run s (GD f s) ∧ 1 ≤ GD f s ∧ s + GD f s ≤ f.stmts.length := by
 obtain ⟨hd, hb, ho⟩ := GQ h
 have hm : s ∈ ord f.stmts.length (kids f.stmts) f.body := by rw [ho]; exact mem_upto.2 ⟨h0, h1⟩
 obtain ⟨l, r, e⟩ := N7 hd hb s hm
 rw [ho, NU, Qh] at e
 have hs : A2 f [s] = s :: (A2 f (kids f.stmts s).1 ++ A2 f (kids f.stmts s).2) := by
  unfold A2;rw [Dy hd (by intro x hx; rw [Qf] at hx; subst hx; exact ⟨h0, h1⟩), EX]
  simp
 have hl := congrArg List.length e
 rw [Gr, QS, QS] at hl
 obtain ⟨e1, e2⟩ := Lu e
 obtain ⟨e3, e4⟩ := Lu e2.symm
 have e5 : A2 f [s] = run (0 + (l.length : Int)) (GD f s) := e3
 have hg : 1 ≤ GD f s := by unfold GD; rw [hs]; simp
 have e6 : s = 0 + (l.length : Int) := by
  have h2 : (A2 f [s]).head? = some s := by rw [hs]; rfl
  rw [e5] at h2
  obtain ⟨g, hg'⟩ : ∃ g, GD f s = g + 1 := ⟨GD f s - 1, by omega⟩
  rw [hg'] at h2
  simp [run, List.range_succ_eq_map] at h2
  omega
 rw [← e6] at e5;refine ⟨e5, hg, ?_⟩
 have : (ord (f.stmts.length : Int) (kids f.stmts) [s]).length = GD f s := rfl
 omega
open Go.Eng
section
variable {f : Func} {s : Int} {g : Nat}
theorem Mq {l : List Int} {F : Int → List Int} {x n m : Int} (hn : n ∈ l) (hm : m ∈ l) (hne : n ≠ m) (h1 : x ∈ F n) (h2 : x ∈ F m) : 2 ≤ (l.flatMap F).count x := by
 induction l with
 | nil => simp at hn
 | cons y l ih =>
  rw [Qq, List.count_append]
  have pos : ∀ k, k ∈ l → x ∈ F k → 1 ≤ (l.flatMap F).count x := fun k hk hx => List.count_pos_iff.2 (Qr.2 ⟨k, hk, hx⟩)
  rcases QZ.1 hn with e | hn'
  ·subst e
   have hm' := (QZ.1 hm).resolve_left (Ne.symm hne)
   have := pos m hm' h2
   have := List.count_pos_iff.2 h1
   omega
  ·rcases QZ.1 hm with e | hm'
   ·subst e
    have := pos n hn' h1
    have := List.count_pos_iff.2 h2
    omega
   ·have := ih hn' hm'
    omega
theorem enter (hsh : Ai f = true) (h0 : 0 ≤ s) (h1 : s < f.stmts.length) (hg : g = GD f s) : (∀ n : Int, 0 ≤ n → n < f.stmts.length → (n < s ∨ s + g ≤ n) → ∀ x, x ∈ HM (kids f.stmts) n → s ≤ x → x < s + g → x = s) ∧ ∀ x, x ∈ f.body → s ≤ x → x < s + g → x = s := by
 obtain ⟨hd, hb, ho⟩ := GQ hsh
 obtain ⟨g1, g2, g3⟩ := OT hsh h0 h1
 rw [← hg] at g1 g3
 obtain ⟨o1, _, _⟩ := DX hd hb ho
 have hin1 : inB f.stmts.length 0 [s] := fun x hx => by rw [Qf] at hx; subst hx; exact ⟨h0, h1⟩
 have par : ∀ x, s ≤ x → x < s + g → ¬ x = s → ∃ m, (s ≤ m ∧ m < s + g) ∧ x ∈ HM (kids f.stmts) m := fun x hx1 hx2 hne => by
  have hc := FU hd hin1 x
  have e : ord f.stmts.length (kids f.stmts) [s] = run s g := g1
  rw [e] at hc
  have hx : 1 ≤ (run s g).count x := List.count_pos_iff.2 (mem_run.2 ⟨hx1, hx2⟩)
  have hz : [s].count x = 0 := RA (by simpa using hne)
  have hp : 0 < ((run s g).flatMap (HM (kids f.stmts))).count x := by omega
  obtain ⟨m, hm, hxm⟩ := Qr.1 (List.count_pos_iff.1 hp)
  exact ⟨m, mem_run.1 hm, hxm⟩
 refine ⟨fun n hn0 hn1 hn x hx hx1 hx2 => Classical.byContradiction fun hne => ?_, fun x hx hx1 hx2 => Classical.byContradiction fun hne => ?_⟩
 ·obtain ⟨m, hm, hxm⟩ := par x hx1 hx2 hne
  have h2 := o1 x (by omega) (by omega)
  unfold LV at h2;rw [List.count_append] at h2
  have h3 := Mq (l := CP f.stmts.length) (F := HM (kids f.stmts)) (x := x) (n := n) (m := m) (mem_upto.2 ⟨hn0, hn1⟩) (mem_upto.2 ⟨by omega, by omega⟩) (by omega) hx hxm
  omega
 ·obtain ⟨m, hm, hxm⟩ := par x hx1 hx2 hne
  have h2 := o1 x (by omega) (by omega)
  unfold LV at h2;rw [List.count_append] at h2
  have h3 : 1 ≤ f.body.count x := List.count_pos_iff.2 hx
  have h4 : 1 ≤ ((CP f.stmts.length).flatMap (HM (kids f.stmts))).count x := List.count_pos_iff.2 (Qr.2 ⟨m, mem_upto.2 ⟨by omega, by omega⟩, hxm⟩)
  omega
end
open Go.Eng
structure Ou where
 code : Int
 value : Int
 trace : List Int
 used : Int
def Dm (p : Prog) (inp : List Int) (most fuel : Nat) : Bool := Co p inp most && decide (fuel ≤ 600)
def outP (p : Prog) (inp : List Int) (most fuel : Nat) : Ou := ⟨(F5 p inp most fuel).1, PZ (F5 p inp most fuel).1 (F5 p inp most fuel).2.1, (F5 p inp most fuel).2.2.2.trace, (F5 p inp most fuel).2.2.2.used⟩
def N5 (p : Prog) (inp : List Int) (most fuel : Nat) : Ou := if Dm p inp most fuel = true then outP p inp most fuel else ⟨0, 0, [], 0⟩
def Ou.dd (o : Ou) : D := .agg [.t (.int o.code), .t (.int o.value), .own (T.ints o.trace), .t (.int o.used)]
theorem M2 {p : Prog} {inp : List Int} {most : Int} (h : Co p inp most = true) : AZ p = true := by
 unfold Co at h;simp only [QR] at h;exact h.1
theorem PY {p : Prog} {inp : List Int} {most fuel : Nat} (h : Dm p inp most fuel = true) : [D.agg [.t (T.v (.int .i64 (F5 p inp most fuel).1)), .t (T.v (.int .i64 (PZ (F5 p inp most fuel).1 (F5 p inp most fuel).2.1))), .own (T.ints (F5 p inp most fuel).2.2.2.trace), .t (T.v (.int .i64 (F5 p inp most fuel).2.2.2.used))], D.t (T.v (.bool true))] = [(N5 p inp most fuel).dd, D.t (T.bool (Dm p inp most fuel))] := by
 rw [N5, h]; rfl
theorem Oz {p : Prog} {inp : List Int} {most fuel : Nat} (h : Dm p inp most fuel = false) : [D.agg [.t (T.v (.int .i64 0)), .t (T.v (.int .i64 0)), .own (T.list 1 []), .t (T.v (.int .i64 0))], D.t (T.v (.bool false))] = [(N5 p inp most fuel).dd, D.t (T.bool (Dm p inp most fuel))] := by
 rw [N5, h]; rfl
theorem Bl (p : Prog) (inp : List Int) (most fuel : Nat) (hp : p.ok 1048576) (hi : inp.length ≤ 1048576) (hm : most ≤ 1048576) (hf : fuel ≤ 1048576) : Fun Try.prog 8 [.t p.tt, .t (T.ints inp), .t (.int most), .t (.int fuel)] (Aw [(N5 p inp most fuel).dd, .t (.bool (Dm p inp most fuel))]) := by
 refine Fun.begin tys Try.func8 Z Z (N := 26) [(0, .t p.tt), (1, .t (T.ints inp)), (2, .t (.int most)), (3, .t (.int fuel))] Z Z (fun w0 G F0 => ?_);refine sG (AU Z Z (AA Z) Z Z (nZ Z (AJ tys Z Z (AA Z) Z Z Z (nZ Z (eZ Z (nB (sQ (sG (eZ Z ?_)))))))))
 try refine WO_le (Le.freeze (u := 10) rfl) ?_
 refine nZ Z (eK 2 Z (AI ?_));refine ⟨_, LC p inp most hp hi, rfl, ?_⟩;refine eK 2 Z (kZ [1,2,3,4,8,9,15] Z ?_);refine gB (fun h1 => ?_) (fun h1 => ?_)
 ·
  simp only [HS] at h1;refine xK 3 Z (nB (Ap Z (sG (AL tys Z Z (AA Z) Z Z Z (by kernel_rfl) Z Z Z Z Z Z (sT Z (nZ Z (eZ Z (nB ?_))))))))
  try (refine AO (Le.nilBox (u := 8) (j := 2) 1 rfl rfl) ?_; refine Ae rfl ?_)
  refine rT (tR (eR ?_))
  ·first
   | (refine Oz ?_; unfold Dm; rw [← Bool.not_eq_true]; simp only [QR, decide_eq_true_eq]; rintro ⟨g1, g2⟩; first | omega | (simp_all; done) | (simp_all; omega))
 simp only [HS] at h1;refine eZ Z (gY Z (AI ?_));refine ⟨_, Ab _ _ _, rfl, ?_⟩;refine xK 2 Z (nB ?_);refine AB Z (fun h2 => ?_) (fun h2 => ?_)
 ·
  simp only [HS] at h2;refine sG (AL tys Z Z (AA Z) Z Z Z (by kernel_rfl) Z Z Z Z Z Z (sT Z (nZ Z (eZ Z (nB ?_)))))
  try (refine AO (Le.nilBox (u := 8) (j := 2) 1 rfl rfl) ?_; refine Ae rfl ?_)
  refine rT (tR (eR ?_))
  ·first
   | (refine Oz ?_; unfold Dm; rw [← Bool.not_eq_true]; simp only [QR, decide_eq_true_eq]; rintro ⟨g1, g2⟩; first | omega | (simp_all; done) | (simp_all; omega))
 simp only [HS] at h2;refine AC (tN (sG (eZ Z ?_)))
 try refine WO_le (Le.freeze (u := 21) rfl) ?_
 refine nZ Z (eK 3 Z ?_)
 have hok : Dm p inp most fuel = true := by unfold Dm; simp_all <;> omega
 have hasked : Co p inp most = true := by unfold Dm at hok; simp only [QR] at hok; exact hok.1
 refine AI ?_;refine ⟨_, Ke p inp most fuel (M2 hasked) hp hi hm hf, rfl, ?_⟩;refine kZ [8,9,25] Z (sT Z (nZ Z (eZ Z (nB ?_))))
 try (refine AO (Le.nilBox (u := 8) (j := 2) 1 rfl rfl) ?_; refine Ae rfl ?_)
 refine rT (eR ?_)
 ·first
  | exact PY hok
open Go.Eng
def PD (fn : Int) : List Tok → Int → Option Int
 | [], _ => none
 | t :: l, i => if t.op = 11 ∧ t.n ≤ fn then some i else PD fn l (i + 1)
def layE (fn : Int) (l : List Tok) : List Tok := match PD fn l 0 with
 | some i => [⟨1, i⟩]
 | none => l
def O4 (fn : Int) (s : Stmt) : Stmt := ⟨s.kind, s.n, layE fn s.ex, s.thn, s.els⟩
def Kn (fn : Int) (s : Stmt) : Stmt := if (O4 fn s).kind = 3 ∧ (O4 fn s).n ≤ fn then ⟨2, 0, [⟨1, 8⟩], [], []⟩ else O4 fn s
def J6 (cd : List Int) (fn : Int) (s : Stmt) (c : Cu) : Stmt × Cu :=
 if (Kn fn s).kind = 8 then
  (if pickV cd 2 c = 0 then (⟨7, (Kn fn s).n, (Kn fn s).ex, (Kn fn s).thn, (Kn fn s).els⟩, curC cd 2 c) else (Kn fn s, curC cd 2 c))
 else (Kn fn s, c)
def Iq (cd : List Int) (fn : Int) : List Stmt → Cu → List Stmt × Cu
 | [], c => ([], c)
 | s :: l, c => ((J6 cd fn s c).1 :: (Iq cd fn l (J6 cd fn s c).2).1, (Iq cd fn l (J6 cd fn s c).2).2)
def OH (cd : List Int) (fn : Int) (f : Func) (c : Cu) : Func × Cu := (⟨f.params, f.vars, f.body, (Iq cd fn f.stmts c).1⟩, (Iq cd fn f.stmts c).2)
def HL (cd : List Int) : Int → List Func → Cu → List Func × Cu
 | _, [], c => ([], c)
 | fn, f :: l, c => ((OH cd fn f c).1 :: (HL cd (fn + 1) l (OH cd fn f c).2).1, (HL cd (fn + 1) l (OH cd fn f c).2).2)
def layR (cd : List Int) (c : Cu) : Prog × Cu := (⟨(HL cd 0 (programR cd c).1.funcs (programR cd c).2).1⟩, (HL cd 0 (programR cd c).1.funcs (programR cd c).2).2)
theorem MI {cd : List Int} {fn : Int} {s : Stmt} {c : Cu} : c.1 ≤ (J6 cd fn s c).2.1 ∧ (J6 cd fn s c).2.1 ≤ c.1 + 2 := by
 have p := AH (cd := cd) (n := 2) (c := c)
 unfold J6
 repeat' split
 all_goals (simp only; omega)
theorem Pj {fn : Int} {l : List Tok} (h : l.length ≤ 13) : (layE fn l).length ≤ 13 := by
 unfold layE;split
 ·simp
 ·exact h
theorem Ph {cd : List Int} {fn : Int} {s : Stmt} {c : Cu} (h : Ip s) : Ip (J6 cd fn s c).1 := by
 have h2 : Ip (Kn fn s) := by
  unfold Kn;split
  ·exact ⟨by simp, by simp, by simp⟩
  ·exact ⟨Pj h.1, h.2.1, h.2.2⟩
 unfold J6
 repeat' split
 all_goals exact h2
theorem MJ {cd : List Int} {fn : Int} : ∀ (l : List Stmt) (c : Cu), c.1 ≤ (Iq cd fn l c).2.1 ∧ (Iq cd fn l c).2.1 ≤ c.1 + 2 * l.length ∧ (Iq cd fn l c).1.length = l.length ∧ ((∀ s, s ∈ l → Ip s) → ∀ s, s ∈ (Iq cd fn l c).1 → Ip s)
 | [], c => by simp [Iq]
 | s :: l, c => by
  have h1 := MI (cd := cd) (fn := fn) (s := s) (c := c)
  have ih := MJ (cd := cd) (fn := fn) l (J6 cd fn s c).2
  rw [Iq];simp only [QW];refine ⟨by omega, by omega, by omega, fun h x hx => ?_⟩
  rcases QZ.1 hx with rfl | hx
  ·exact Ph (h s (by simp))
  ·exact ih.2.2.2 (fun y hy => h y (by simp [hy])) x hx
theorem OG {cd : List Int} {fn : Int} {f : Func} {c : Cu} (h : Dfn f) : Dfn (OH cd fn f c).1 ∧ c.1 ≤ (OH cd fn f c).2.1 ∧ (OH cd fn f c).2.1 ≤ c.1 + 24 := by
 have hl := MJ (cd := cd) (fn := fn) f.stmts c
 have h1 := h.s12
 unfold OH;exact ⟨⟨h.b1, h.b3, by simp only; rw [hl.2.2.1]; exact h.s1, by simp only; rw [hl.2.2.1]; exact h.s12, hl.2.2.2 h.st⟩, hl.1, by simp only; omega⟩
theorem J7 {cd : List Int} : ∀ (fn : Int) (l : List Func) (c : Cu), (∀ f, f ∈ l → Dfn f) → (∀ f, f ∈ (HL cd fn l c).1 → Dfn f) ∧ (HL cd fn l c).1.length = l.length ∧ c.1 ≤ (HL cd fn l c).2.1 ∧ (HL cd fn l c).2.1 ≤ c.1 + 24 * l.length
 | fn, [], c, _ => by simp [HL]
 | fn, f :: l, c, h => by
  have h1 := OG (cd := cd) (fn := fn) (c := c) (h f (by simp))
  have ih := J7 (cd := cd) (fn + 1) l (OH cd fn f c).2 fun g hg => h g (by simp [hg])
  rw [HL];simp only [QW];refine ⟨fun g hg => ?_, by omega, by omega, by omega⟩
  rcases QZ.1 hg with rfl | hg
  ·exact h1.1
  ·exact ih.1 g hg
open Go.Eng
theorem KW : ∀ (l : List Stmt) (x : T), x ∈ l.map Stmt.tt → (T.cells x).length = 5 := fun l x h => by
 obtain ⟨z, _, rfl⟩ := RN.1 h
 rfl
theorem KR {α : Type} (a : List α) (x : α) (b : List α) {n : Int} (h : n = a.length) : (a ++ x :: b)[n.toNat]? = some x := by
 rw [List.getElem?_append_right (by omega), show n.toNat - a.length = 0 from by omega]; rfl
theorem I7 {uu v2 : List Stmt} {s s1 : Stmt} {z : T} {k : Int} (h : k = uu.length) : (((uu ++ s :: v2).map Stmt.tt).set k.toNat z).set k.toNat (Stmt.tt s1) = (uu ++ s1 :: v2).map Stmt.tt := by
 rw [List.set_set, ← RB, List.set_append_right _ _ (by omega), show k.toNat - uu.length = 0 from by omega];rfl
theorem Jm {uu v2 : List Stmt} {s s1 : Stmt} {k : Int} (h : k = uu.length) : ((uu ++ s :: v2).map Stmt.tt).set k.toNat (Stmt.tt s1) = (uu ++ s1 :: v2).map Stmt.tt := by
 rw [← RB, List.set_append_right _ _ (by omega), show k.toNat - uu.length = 0 from by omega];rfl
theorem Nk {a b : List Func} {f f' : Func} {z : T} {n : Int} (h : n = a.length) : (((a ++ f :: b).map Func.tt).set n.toNat z).set n.toNat (Func.tt f') = ((a ++ [f']) ++ b).map Func.tt := by
 rw [List.set_set, ← RB, List.set_append_right _ _ (by omega), show n.toNat - a.length = 0 from by omega]
 simp
theorem H9 {n : Int} {s : Stmt} (h : PD n s.ex 0 = none) : s = O4 n s := by unfold O4 layE; rw [h]
theorem ML {n i : Int} {s : Stmt} (h : PD n s.ex 0 = some i) : ⟨s.kind, s.n, [⟨1, i⟩], s.thn, s.els⟩ = O4 n s := by unfold O4 layE; rw [h]
theorem JG (cd : List Int) (c : Cu) (bw : Nat) (pv : Value) (hcd : B3 cd) (h0 : 0 ≤ c.1) (h1 : c.1 ≤ 524280) : Proc Try.prog 76 [.t (.v (.pointer (some ⟨bw, 0, none⟩)))] ([pv]) ([T.bytes cd]) [.obox (.pointer (some ⟨bw, 0, none⟩)) (cuC pv c)] (.agg [.own (T.Funcs (layR cd c).1.funcs)]) [.obox (.pointer (some ⟨bw, 0, none⟩)) (cuC pv (layR cd c).2)] := by
  have hpa := Cy (c := c) hcd h0
  have hpd := CU (c := c) hcd h0
  obtain ⟨hq1, hq4, hqd⟩ := hpd
  obtain ⟨c1, hc1⟩ : ∃ z, z = (programR cd c).2 := ⟨_, rfl⟩
  obtain ⟨fs, hfs⟩ : ∃ z, z = (programR cd c).1.funcs := ⟨_, rfl⟩
  have hprog := FS cd c bw pv hcd h0 h1
  have hR : layR cd c = (⟨(HL cd 0 fs c1).1⟩, (HL cd 0 fs c1).2) := by rw [layR, ← hc1, ← hfs]
  rw [← hc1, ← hfs] at hprog;rw [← hc1] at hpa;rw [← hfs] at hq1 hq4 hqd
  have hml : (List.map Func.tt fs).length = fs.length := QT ..
  refine Proc.intro tys Try.func76 Z Z (N := 94) [100] 99 ([(0, .t (.v (.pointer (some ⟨bw, 0, none⟩))))]) ([(100, .obox (.pointer (some ⟨bw, 0, none⟩)) (cuC pv c)), (99, .ro [pv] [T.bytes cd])]) Z Z Z Z (by decide) (by decide) Z (fun w0 G F0 => ?_);refine nY Z (sG (AJ tys Z Z (AA Z) Z Z Z (nZ Z (nA (eZ Z ?_)))));refine cP [100] (hm := (hprog)) (k := ?_);refine nZ Z (AJ tys Z Z (AA Z) Z Z Z (nZ Z (sT Z (nZ Z (nB (sQ (sQ (AO (Le.adoptBox (u := 3) (j := 0) (id := 101) Z Z Z) (nY Z (rG (eK 2 Z (evE ?_))))))))))));refine eZ Z (kZ [0,2,3,13,14] Z (nB (AD ?_)));refine lK (α := Int × List Func × List Func × Cu) [0, 1, 2, 13, 3] [99, 2, 3] (fun x => [(14, .t (.int (x.1)))]) (fun x => [(101, .L 4 (((x.2.1) ++ (x.2.2.1)).map Func.tt)), (100, .obox (.pointer (some ⟨bw, 0, none⟩)) (cuC pv (x.2.2.2)))]) (fun x => 0 ≤ (x.1) ∧ (x.1) = (x.2.1).length ∧ (x.2.1).length + (x.2.2.1).length = fs.length ∧ (∀ g, g ∈ (x.2.2.1) → Dfn g) ∧ c1.1 ≤ (x.2.2.2).1 ∧ (x.2.2.2).1 ≤ c1.1 + 24 * (x.2.1).length ∧ HL cd 0 fs c1 = ((x.2.1) ++ (HL cd (x.1) (x.2.2.1) (x.2.2.2)).1, (HL cd (x.1) (x.2.2.1) (x.2.2.2)).2)) (fun x => Int.toNat (fs.length - (x.1))) (0, [], fs, c1) ?_ (fun x hx => ?_)
  · dsimp only
    exact ⟨by omega, by simp, by simp, hqd, by omega, by simp, by simp⟩
  obtain ⟨n, a, b, c'⟩ := x
  obtain ⟨hn0, hn, hab, had, hca, hcb, hre⟩ := hx
  dsimp only at hn0 hn hab had hca hcb hre ⊢;refine nY Z (sG (eZ Z (nB (sQ ?_))));refine AB Z (fun h1 => ?_) (fun h1 => ?_)
  ·
    simp only [HS] at h1;refine AC (tN (sQ (AD (sQ ?_))))
    obtain ⟨f, b', rfl⟩ : ∃ f b', b = f :: b' := by
     cases b with
     | nil => simp at hab; omega
     | cons f b' => exact ⟨f, b', rfl⟩
    have hfd := had f (by simp)
    obtain ⟨b1, b3, s1, s12, st⟩ := hfd
    have hzf : ((a ++ f :: b').map Func.tt)[n.toNat]? = some f.tt := by rw [List.getElem?_map, KR a f b' hn]; rfl
    have hnl : n.toNat < ((a ++ f :: b').map Func.tt).length := by rw [QT, QS, QW]; omega
    refine HF (id := 101) (i := n.toNat) (off := 3) (z := f.tt) 102 1102 133 Z (fns_cells _) hzf Z (by intro h; have := congrArg List.length h; rw [QT, List.length_nil] at this; omega) Z Z Z Z Z Z (fun b4 cap4 hcap4 => ?_);refine nY Z (rG (eK 2 Z (nA (eK 3 Z (Ag tys Z Z (AA Z) Z Z Z Z Z Z Z Z (by omega) (by omega) (eZ Z ?_))))));refine AV tys Z Z (AA Z) Z Z Z Z (by rw [Qg]; exact List.getElem?_set_self hnl) Z ?_;refine WO_le (Le.namedS (t := 22) 1102 Z Z hcap4) (nZ Z (kZ [0,1,2,3,4,13,14,15,16,17,18,19,20,21,22] Z (evE ?_)));refine eZ Z (nB (AD ?_));refine lK (α := Int × List Stmt × List Stmt × Cu) [0, 1, 2, 13, 14, 4, 23, 3] [99, 2, 3, 101, 1102] (fun x => [(24, .t (.int (x.1)))]) (fun x => [(102, .L 5 (((x.2.1) ++ (x.2.2.1)).map Stmt.tt)), (100, .obox (.pointer (some ⟨bw, 0, none⟩)) (cuC pv (x.2.2.2)))]) (fun x => 0 ≤ (x.1) ∧ (x.1) = (x.2.1).length ∧ (x.2.1).length + (x.2.2.1).length = f.stmts.length ∧ (∀ g, g ∈ (x.2.2.1) → Ip g) ∧ c'.1 ≤ (x.2.2.2).1 ∧ (x.2.2.2).1 ≤ c'.1 + 2 * (x.2.1).length ∧ Iq cd n f.stmts c' = ((x.2.1) ++ (Iq cd n (x.2.2.1) (x.2.2.2)).1, (Iq cd n (x.2.2.1) (x.2.2.2)).2)) (fun x => Int.toNat (f.stmts.length - (x.1))) (0, [], f.stmts, c') ?_ (fun x hx => ?_)
    · dsimp only
      exact ⟨by omega, by simp, by simp, st, by omega, by simp, by simp⟩
    obtain ⟨k, uu, vv, c''⟩ := x
    obtain ⟨hk0, hk, hxy, hyd, hcc, hcd', hrs⟩ := hx
    dsimp only at hk0 hk hxy hyd hcc hcd' hrs ⊢;refine nY Z (sG (eZ Z (nB (sQ ?_))));refine AB Z (fun h2 => ?_) (fun h2 => ?_)
    ·
      simp only [HS] at h2;refine AC (tN (sQ (AD (sQ ?_))))
      obtain ⟨s, v2, rfl⟩ : ∃ s v2, vv = s :: v2 := by
       cases vv with
       | nil => simp at hxy; omega
       | cons s v2 => exact ⟨s, v2, rfl⟩
      have hkl : k.toNat < ((uu ++ s :: v2).map Stmt.tt).length := by rw [QT, QS, QW]; omega
      have hmk : (List.map Stmt.tt f.stmts).length = f.stmts.length := QT ..
      have hzs : ((uu ++ s :: v2).map Stmt.tt)[k.toNat]? = some s.tt := by rw [List.getElem?_map, KR uu s v2 hk]; rfl
      refine rG (eK 2 Z (nA (eK 3 Z (Ag tys Z Z (AA Z) Z Z Z Z Z Z Z Z (by omega) (by omega) (eZ Z ?_)))));refine AV tys Z Z (AA Z) Z Z Z Z (by rw [Qg]; exact List.getElem?_set_self hnl) Z ?_;refine WO_le (Le.namedS (t := 32) 1102 Z Z hcap4) (nZ Z (kZ [0,1,2,3,4,5,13,14,23,24,25,26,27,28,29,30,31,32] Z (eZ Z (Ag tys Z Z (AA Z) Z Z Z Z Z Z Z Z (by omega) (by omega) (eZ Z (nB (sQ ?_)))))));refine Ar (α := Stmt) [0, 1, 2, 13, 14, 4, 23, 24, 5, 6, 3] [99, 2, 3, 101, 1102, 100] (fun x => []) (fun x => [(102, .L 5 ((uu ++ x :: v2).map Stmt.tt))]) (fun x => x = O4 n s) ?_ (fun s1 hx => ?_)
      ·
        rcases (Classical.em (s.ex = [])) with hE | hE
        ·
          refine sQ ?_;refine M7 (id := 102) (i := k.toNat) (off := 2) 107 Z hzs Z Z Z (fun ad cp => ?_);refine nY Z (rG (eZ Z (AE rfl Z (AA Z) Z Z Z (eZ Z ?_))));refine AV tys Z Z (AA Z) Z Z Z Z (by rw [Qg]; exact List.getElem?_set_self hkl) Z ?_;refine QJ Z Z (AA Z) Z ⟨_, rfl⟩ rfl (eZ Z (kZ [0,1,2,3,4,5,6,13,14,23,24,25,26,27,28,29,30,31,32,33,34,35,36,37,38,39,40] Z (nB (AD ?_))));refine lK (α := Int) [0, 1, 2, 13, 14, 4, 23, 24, 5, 6, 38, 39, 3] [99, 2, 3, 101, 1102, 102, 107, 100] (fun x => [(40, .t (.int x))]) (fun x => []) (fun x => 0 ≤ x) (fun x => Int.toNat (13 - x)) 0 ?_ (fun i hx => ?_)
          · trivial
          have hx := hx
          refine nY Z (sG (eZ Z (nB (sQ ?_))));refine AB Z (fun h3 => ?_) (fun h3 => ?_)
          ·
            simp only [HS] at h3
            exfalso; rw [hE] at h3; simp at h3; omega
          simp only [HS] at h3;refine AO (Le.putBack (id := 102) (idq := 107) (i := k.toNat) (off := 2) s.tt Z Z (List.getElem?_set_self hkl) Z Z Z) ?_;refine nY Z (AO (Le.eqK (id := 102) Z (k' := .L 5 ((uu ++ s :: v2).map Stmt.tt)) (congrArg (Blk.L 5) (I7 hk))) (nY Z (AP (tE (AM (AK (jQ _ ?_)))))))
          first
          | exact H9 (by rw [hE]; rfl)
        ·
          refine sQ ?_;refine HF (id := 102) (i := k.toNat) (off := 2) (z := s.tt) 103 1103 134 Z (KW _) hzs Z (by intro h; exact hE (List.map_eq_nil_iff.1 h)) Z Z Z Z Z Z (fun b5 cap5 hcap5 => ?_);refine nY Z (rG (eZ Z (AE rfl Z (AA Z) Z Z Z (eZ Z ?_))));refine AV tys Z Z (AA Z) Z Z Z Z (by rw [Qg]; exact List.getElem?_set_self hkl) Z ?_;refine WO_le (Le.namedS (t := 38) 1103 Z Z hcap5) (nZ Z (evE ?_));refine eZ Z (kZ [0,1,2,3,4,5,6,13,14,23,24,25,26,27,28,29,30,31,32,33,34,35,36,37,38,39,40] Z (nB (AD ?_)));refine lK (α := Int) [0, 1, 2, 13, 14, 4, 23, 24, 5, 6, 38, 39, 3] [99, 2, 3, 101, 1102, 102, 103, 1103, 100] (fun x => [(40, .t (.int x))]) (fun x => []) (fun x => 0 ≤ x ∧ x ≤ s.ex.length ∧ PD n (s.ex.drop x.toNat) x = PD n s.ex 0) (fun x => Int.toNat (s.ex.length - x)) 0 ?_ (fun i hx => ?_)
          · skip
            exact ⟨by omega, by omega, by simp⟩
          obtain ⟨hi0, hi1, hib⟩ := hx
          refine nY Z (sG (eZ Z (nB (sQ ?_))));refine AB Z (fun h3 => ?_) (fun h3 => ?_)
          ·
            simp only [HS] at h3;refine AC (tN (sQ (AD (sQ ?_))))
            have hs13 := (hyd s (by simp)).1
            have hlt : i.toNat < s.ex.length := by omega
            have hdr : PD n (s.ex.drop i.toNat) i = if (s.ex[i.toNat]'hlt).op = 11 ∧ (s.ex[i.toNat]'hlt).n ≤ n then some i else PD n (s.ex.drop (i.toNat + 1)) (i + 1) := by rw [Q7 hlt]; rfl
            have hil : (List.map Tok.tt s.ex).length = s.ex.length := QT ..
            refine rG (eZ Z (Ag tys Z Z (AA Z) Z Z Z Z Z Z Z Z (by omega) (by omega) (AV tys Z Z (AA Z) Z Z Z Z (Dc _ _ (by omega) (by omega)) Z (nZ Z (AJ tys Z Z (AA Z) Z Z Z (nZ Z (eZ Z (sT Z (nZ Z (nB (sQ (kY [0,1,2,3,4,5,6,7,8,13,14,23,24,38,39,40,41,42,43,44] Z (rG (eK 4 Z ?_))))))))))))));refine gB (fun h4 => ?_) (fun h4 => ?_)
            ·
              simp only [HS] at h4;refine xK 4 Z (nB (Aq Z (AC (bN (tN (kY [0,1,2,3,4,5,6,7,8,13,14,23,24,38,39,40,41,42,43,44,45,46,47,48,49,50,51,52,53] Z (rG (evI ?_))))))));refine eZ Z (oN ?_);refine lQ _ ?_ ?_
              · skip
                refine ⟨by omega, by omega, ?_⟩;rw [show (i + 1).toNat = i.toNat + 1 from by omega, ← hib, hdr, if_neg];intro hq;exact absurd hq.1 (by assumption)
              · (show Int.toNat _ < Int.toNat _); omega
            simp only [HS] at h4;refine xK 5 Z (kZ [0,1,2,3,4,5,6,7,8,13,14,23,24,38,39,40,41,42,43,44,45,46,47,48,49,50,51,52,53] Z (nB ?_));refine AB Z (fun h5 => ?_) (fun h5 => ?_)
            ·
              simp only [HS] at h5;refine sG (eK 2 Z (AL tys Z Z (AA Z) Z Z Z (by kernel_rfl) Z Z Z Z Z Z (bZ [(Tok.mk 1 i).tt] ?_)));refine nZ Z (WO_le (Le.gather (u := 57) (id := 57) Z Z (by first | (simp; done) | (simp; omega) | omega)) ?_);refine nZ Z (AE rfl Z (AA Z) Z Z Z (eZ Z ?_));refine BK tys [T.Toks [⟨1, i⟩]] Z Z Z Z Z Z (by rw [Qg]; exact List.getElem?_set_self hkl) Z (by repeat (first | exact AbsL.nil' | refine AbsL.v' ?_ | refine AbsL.own' ?_)) Z (by decide) (Q3 Z) ?_;refine nZ Z (nZ Z (nB ?_))
              first
              | (refine AO (Le.eqK (id := 102) rfl (k' := .L 5 ((uu ++ ⟨s.kind, s.n, [⟨1, i⟩], s.thn, s.els⟩ :: v2).map Stmt.tt)) (by rw [Qg]; exact congrArg (Blk.L 5) (I7 (s1 := ⟨s.kind, s.n, [⟨1, i⟩], s.thn, s.els⟩) hk))) ?_
                 refine Ae Z ?_)
              refine AP (MV Z (tE (AM (AK (jQ _ ?_)))))
              first
              | exact ML (by rw [← hib, hdr, if_pos ⟨by assumption, by assumption⟩])
            simp only [HS] at h5;refine AC (bN (tN (rG (evI ?_))));refine eZ Z (oN ?_);refine lQ _ ?_ ?_
            · skip
              refine ⟨by omega, by omega, ?_⟩;rw [show (i + 1).toNat = i.toNat + 1 from by omega, ← hib, hdr, if_neg];intro hq
              obtain ⟨q1, q2⟩ := hq
              simp_all
              omega
            · (show Int.toNat _ < Int.toNat _); omega
          simp only [HS] at h3
          first
          | (refine AO (Le.claimL (id := 102) (id2 := 103) (pid := 1103) (i := k.toNat) (off := 2) rfl rfl rfl (List.getElem?_set_self hkl) rfl (by simp) rfl) ?_
             refine nY Z (AO (Le.eqK (id := 102) Z (k' := .L 5 ((uu ++ s :: v2).map Stmt.tt)) (congrArg (Blk.L 5) (I7 hk))) ?_)
             refine Ae Z ?_)
          refine AP (tE (AM (AK (jQ _ ?_))))
          first
          | exact H9 (by rw [← hib, List.drop_eq_nil_of_le (by first | omega | (rw [QT] at h3; omega))]; rfl)
      have hs1 := hx
      refine tN (sQ ?_);refine Ar (α := Stmt) [0, 1, 2, 13, 14, 4, 23, 24, 5, 6, 3] [99, 2, 3, 101, 1102, 100] (fun x => []) (fun x => [(102, .L 5 ((uu ++ x :: v2).map Stmt.tt))]) (fun x => x = Kn n s) ?_ (fun s2 hx => ?_)
      ·
        refine sQ ?_
        have hz1 : ((uu ++ s1 :: v2).map Stmt.tt)[0 + k.toNat]? = some s1.tt := by rw [Qg, List.getElem?_map, KR uu s1 v2 hk]; rfl
        refine kY [0,1,2,3,4,5,6,13,14,23,24] Z (rG (eZ Z (AE rfl Z (AA Z) Z Z Z (eZ Z (AV tys Z Z (AA Z) Z Z Z Z hz1 Z (eK 2 Z ?_))))));refine gB (fun h3 => ?_) (fun h3 => ?_)
        ·
          simp only [HS] at h3;refine xK 3 Z (kZ [0,1,2,3,4,5,6,13,14,23,24,61,62,63,64,65,66,67,68,69,70] Z (xK 3 Z (nB (Aq Z (AC (jQ _ ?_))))));unfold Kn;rw [← hs1]
          split <;> first | rfl | (exfalso; simp_all; omega) | (exfalso; simp_all; done)
        simp only [HS] at h3;refine eZ Z (gY Z (AE rfl Z (AA Z) Z Z Z (xZ Z (kZ [0,1,2,3,4,5,6,13,14,23,24,61,62,63,64,65,66,67,68,69] Z (gY Z (AV tys Z Z (AA Z) Z Z Z Z hz1 Z (xK 3 Z (nB ?_))))))));refine AB Z (fun h4 => ?_) (fun h4 => ?_)
        ·
          simp only [HS] at h4;refine rG (eZ Z (AL tys Z Z (AA Z) Z Z Z (by kernel_rfl) Z Z Z Z Z Z (bZ [(Tok.mk 1 8).tt] ?_)));refine nZ Z (WO_le (Le.gather (u := 76) (id := 76) Z Z (by first | (simp; done) | (simp; omega) | omega)) ?_);refine nZ Z (AL tys Z Z (AA Z) Z Z Z (by kernel_rfl) Z Z Z Z Z Z (AE rfl Z (AA Z) Z Z Z (kZ [0,1,2,3,4,5,6,13,14,23,24,61,62,63,64,65,66,67,68,69,70,71,72,73,74,75,76,77,78] Z ?_)));refine BK tys [T.int 2, T.int 0, T.Toks [⟨1, 8⟩], .list 1 [], .list 1 []] Z Z Z Z Z Z hz1 Z (by repeat (first | exact AbsL.nil' | refine AbsL.v' ?_ | refine AbsL.own' ?_ | refine AbsL.none' ?_)) Z (by decide) (Q3 Z) ?_;refine nZ Z (WO_le (Le.eqK (id := 102) Z (k' := .L 5 ((uu ++ ⟨2, 0, [⟨1, 8⟩], [], []⟩ :: v2).map Stmt.tt)) (by rw [Qg]; exact congrArg (Blk.L 5) (Jm (s1 := ⟨2, 0, [⟨1, 8⟩], [], []⟩) hk))) ?_);refine nZ Z (nZ Z (oN (jQ _ ?_)));unfold Kn;rw [← hs1]
          split <;> first | rfl | (exfalso; simp_all; omega) | (exfalso; simp_all; done)
        simp only [HS] at h4;refine AC (jQ _ ?_);unfold Kn;rw [← hs1]
        split <;> first | rfl | (exfalso; simp_all; omega) | (exfalso; simp_all; done)
      have hs2 := hx
      refine tN ?_;refine Ar (α := Stmt × Cu) [0, 1, 2, 13, 14, 4, 23, 24, 3] [99, 2, 3, 101, 1102] (fun x => []) (fun x => [(102, .L 5 ((uu ++ (x.1) :: v2).map Stmt.tt)), (100, .obox (.pointer (some ⟨bw, 0, none⟩)) (cuC pv (x.2)))]) (fun x => (x.1) = (J6 cd n s c'').1 ∧ (x.2) = (J6 cd n s c'').2) ?_ (fun x hx => ?_)
      ·
        refine sQ ?_
        have hz2 : ((uu ++ s2 :: v2).map Stmt.tt)[0 + k.toNat]? = some s2.tt := by rw [Qg, List.getElem?_map, KR uu s2 v2 hk]; rfl
        refine kY [0,1,2,3,4,5,6,13,14,23,24] Z (rG (eZ Z (AE rfl Z (AA Z) Z Z Z (eZ Z (AV tys Z Z (AA Z) Z Z Z Z hz2 Z (eK 2 Z ?_))))));refine gB (fun h3 => ?_) (fun h3 => ?_)
        ·
          simp only [HS] at h3;refine xK 2 Z (nB (Aq Z (AC (jQ (_, _) ?_))));dsimp only;unfold J6;rw [← hs2]
          repeat' split
          all_goals first | exact ⟨rfl, rfl⟩ | (exfalso; simp_all; done) | (exfalso; simp_all; omega)
        simp only [HS] at h3;refine eZ Z (gY Z ?_);refine cP [100] (hm := (CF cd 2 c'' bw pv hcd (by omega) (by omega))) (k := ?_);refine nZ Z (eZ Z (kZ [0,1,2,3,4,5,6,13,14,23,24,79,80,81,82,83,84,85,86,87] Z (nB ?_)));refine AB Z (fun h4 => ?_) (fun h4 => ?_)
        ·
          simp only [HS] at h4;refine rG (eZ Z (AE rfl Z (AA Z) Z Z Z (eZ Z ?_)));refine BK tys [T.int 7] Z Z Z Z Z Z hz2 Z (by repeat (first | exact AbsL.nil' | refine AbsL.v' ?_ | refine AbsL.own' ?_)) Z (by decide) (Q3 Z) ?_;refine nZ Z (WO_le (Le.eqK (id := 102) Z (k' := .L 5 ((uu ++ ⟨7, s2.n, s2.ex, s2.thn, s2.els⟩ :: v2).map Stmt.tt)) (by rw [Qg]; exact congrArg (Blk.L 5) (Jm (s1 := ⟨7, s2.n, s2.ex, s2.thn, s2.els⟩) hk))) ?_);refine nZ Z (nZ Z (oN (jQ (_, _) ?_)));dsimp only;unfold J6;rw [← hs2]
          repeat' split
          all_goals first | exact ⟨rfl, rfl⟩ | (exfalso; simp_all; done) | (exfalso; simp_all; omega)
        simp only [HS] at h4;refine AC (jQ (_, _) ?_);dsimp only;unfold J6;rw [← hs2]
        repeat' split
        all_goals first | exact ⟨rfl, rfl⟩ | (exfalso; simp_all; done) | (exfalso; simp_all; omega)
      obtain ⟨s3, c3⟩ := x
      obtain ⟨hs3, hc3⟩ := hx
      dsimp only at hs3 hc3 ⊢;refine bN (tN (AO (Le.eqK (id := 102) Z (k' := .L 5 (((uu ++ [s3]) ++ v2).map Stmt.tt)) (by simp)) ?_));refine nY Z ?_
      have hS := MI (cd := cd) (fn := n) (s := s) (c := c'')
      refine kY [0,1,2,3,4,13,14,23,24] Z (rG (evI ?_));refine eZ Z (oN ?_);refine lQ (_, uu ++ [s3], v2, _) ?_ ?_
      · dsimp only
        refine ⟨by omega, by simp; omega, by simp at hxy ⊢; omega, fun g hg => hyd g (by simp [hg]), by rw [hc3]; omega, by rw [hc3]; simp; omega, ?_⟩;rw [hrs, Iq, hs3, hc3]
        simp
      · (show Int.toNat _ < Int.toNat _); omega
    simp only [HS] at h2;refine AP (tE (AM (AK (bN (tN ?_)))))
    obtain rfl : vv = [] := Qy (by omega)
    refine AO (Le.claimL (id := 101) (id2 := 102) (pid := 1102) (i := n.toNat) (off := 3) Z Z Z (List.getElem?_set_self hnl) Z (by simp; omega) Z) ?_;refine nY Z (AO (Le.eqK (id := 101) Z (k' := .L 4 (((a ++ [Func.mk f.params f.vars f.body uu]) ++ b').map Func.tt)) (congrArg (Blk.L 4) (by rw [Qo]; exact Nk (f' := Func.mk f.params f.vars f.body uu) hn))) ?_);refine nY Z (rG (evI ?_));refine eZ Z (oN ?_);refine lQ (_, a ++ [Func.mk f.params f.vars f.body uu], b', _) ?_ ?_
    · dsimp only
      have hrs2 : Iq cd n f.stmts c' = (uu, c'') := by rw [hrs, Iq]; simp
      refine ⟨by omega, by simp; omega, by simp at hab ⊢; omega, fun g hg => had g (by simp [hg]), by omega, by simp at hxy ⊢; omega, ?_⟩;rw [hre, HL, OH, hrs2]
      simp
    · (show Int.toNat _ < Int.toNat _); omega
  simp only [HS] at h1;refine AP (tE (AM (AK (tN (sQ ?_)))))
  obtain rfl : b = [] := Qy (by omega)
  have hre2 : HL cd 0 fs c1 = (a, c') := by rw [hre, HL]; simp
  refine AO (Le.gatherBox (u := 3) (j := 0) (id := 101) Z Z Z (by simp; omega) Z) ?_;refine nY Z (rG (Bn tys Z Z (AA Z) Z Z Z Z Z Z (nZ Z (sT Z (nZ Z (nB (rT ?_)))))));refine eP [_] ?_ ?_
  · rw [hR, hre2, QU (by simp at hab ⊢; omega), Qo]; rfl
  · rw [hR, hre2]
open Go.Eng
def dpP (cd : List Int) : Prog := if pickV cd 2 cu0 = 0 then (layR cd (curC cd 2 cu0)).1 else (F6 cd (curC cd 2 cu0)).1
theorem G8 (cd : List Int) (hcd : B3 cd) : Fun Try.prog 44 [.t (T.bytes cd)] (Aw [.agg [.t (T.Funcs (dpP cd).funcs)]]) := by
 have p1 := AH (cd := cd) (n := 2) (c := cu0)
 have p0 : cu0.1 = 0 := rfl
 refine Fun.begin tys Try.func44 Z Z (N := 13) [(0, .t (T.bytes cd))] Z Z (fun w0 G F0 => ?_);refine sG (AJ tys Z Z (AA Z) Z Z Z (nZ Z (nA (eZ Z ?_))));refine Fs (u := 4) 99 Z (fun pv => ?_);refine nZ Z (AL tys Z Z (AA Z) Z Z Z (by kernel_rfl) Z Z Z Z Z Z (AU Z Z (AA Z) Z Z (nZ Z (eZ Z (nB (sQ (sG ?_)))))));refine PG (u := 6) (pid := 1006) Z Z (fun bw => ?_);refine nZ Z (eZ Z (WO_le (Le.close (u := 6) 1006 Z Z Z) (nZ Z ?_)));refine cP [6] (hm := (CF cd 2 cu0 bw pv hcd (by decide) (by decide))) (k := ?_);refine nZ Z (WO_le (Le.open (u := 6) 1006 Z Z Z Z) (nZ Z (nB ?_)));refine AB Z (fun h1 => ?_) (fun h1 => ?_)
 ·
  simp only [HS] at h1;refine sQ (kY [2,3] Z (rG (eZ Z (WO_le (Le.close (u := 6) 1006 Z Z Z) (nZ Z ?_)))));refine cP [6] (hm := (JG cd (curC cd 2 cu0) bw pv hcd (by omega) (by omega))) (k := ?_);refine nZ Z (WO_le (Le.open (u := 6) 1006 Z Z Z Z) (nZ Z (WO_le (Le.freeze (u := 10) Z) (nZ Z (sT Z (nZ Z (nB (rT (tR (eR ?_))))))))))
  ·unfold dpP
   (rw [if_pos (by assumption)]; done)
 simp only [HS] at h1;refine AC (tN (sQ (kY [2,3] Z (rG (eZ Z (WO_le (Le.close (u := 6) 1006 Z Z Z) (nZ Z ?_)))))));refine Im (rid := 99) [6] Z Z (AA Z) Z Z (by repeat (first | exact ResQ.done | refine ResQ.pin0 1006 Z ?_ | refine ResQ.t ?_ | refine ResQ.nil 1 ?_)) Z (by repeat (first | exact trivial | refine ⟨rfl, rfl, ?_⟩)) (by decide) (Fr cd (curC cd 2 cu0) bw pv hcd (by omega) (by omega)) Z Z Z ?_;refine nZ Z (WO_le (Le.open (u := 6) 1006 Z Z Z Z) (nZ Z (sT Z (nZ Z (nB (rT (eR ?_)))))))
 ·unfold dpP
  (rw [if_neg (by assumption)]; done)
end Go.Proofs.Ytddfnpiikkilhaa
