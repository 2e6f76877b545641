/- Walks and laws of the claim. -/
import Derived.Test.YtddfnpiikkilhaaGf
import Derived.Test.YtddfnpiikkilhaaMe
import Derived.Test.YtddfnpiikkilhaaGb
import Derived.Test.YtddfnpiikkilhaaMd
import Derived.Test.YtddfnpiikkilhaaMc
set_option linter.unusedVariables false
set_option linter.unusedSimpArgs false
set_option maxRecDepth 10000
set_option maxHeartbeats 1000000
namespace Go.Proofs.Ytddfnpiikkilhaa
open Go.Eng
open Go.Eng
def blS (L : Lev) (f : Func) (b : List Int) (s : Sx) : Int × Int × Sx := blockS (L.stmt f) f b s
def BlInv (p : Prog) (inp : List Int) (f : Func) (L : Lev) (b : List Int) (s : Sx) (pv iv fbv fsv : Value) (most dp : Int) (bm bb : Nat) (k : Int) (b1 b2 b3 : Blk) : Prop :=
 ∃ (s1 : Sx), 0 ≤ k ∧ k ≤ b.length ∧ Sx.to p inp f 0 s s1 ∧ blS L f b s = blockS (L.stmt f) f (b.drop k.toNat) s1 ∧
  b1 = .obox (.pointer (some ⟨bm, 0, none⟩)) (mS pv iv most s1.m) ∧ b2 = .box (cS f fbv fsv s1.vars s1.off s1.res dp bb) ∧ b3 = .obox (.pointer (some ⟨bb, 0, none⟩)) (bS s1.by')
section
variable {p : Prog} {inp : List Int} {f : Func} {L : Lev} {b : List Int} {s s1 : Sx} {pv iv fbv fsv : Value} {most dp : Int} {bm bb : Nat} {k : Int} {R : Int × Int × Sx}
theorem BlInv.next (h0 : 0 ≤ k) (h1 : k < b.length) (hto : Sx.to p inp f 0 s s1) (hex : blS L f b s = blockS (L.stmt f) f (b.drop k.toNat) s1) (hR : R = L.stmt f (stmtAt f (b[k.toNat]'(by omega))) s1) (hok : Sx.to p inp f R.1 s1 R.2.2) (hz : R.1 = 0) {k' : Int} (hk : k' = k + 1) {b1 b2 b3 : Blk}
  (e3 : b1 = .obox (.pointer (some ⟨bm, 0, none⟩)) (mS pv iv most R.2.2.m)) (e4 : b2 = .box (cS f fbv fsv R.2.2.vars R.2.2.off R.2.2.res dp bb)) (e5 : b3 = .obox (.pointer (some ⟨bb, 0, none⟩)) (bS R.2.2.by')) :
  BlInv p inp f L b s pv iv fbv fsv most dp bm bb k' b1 b2 b3 := by
 subst hk;rw [hz] at hok;refine ⟨R.2.2, by omega, by omega, hto.trans hok (by omega), ?_, e3, e4, e5⟩;rw [hex, Cx h0 h1, blockS];rw [← hR, if_pos hz]
theorem PK (h0 : 0 ≤ k) (h1 : k < b.length) (hex : blS L f b s = blockS (L.stmt f) f (b.drop k.toNat) s1) (hR : R = L.stmt f (stmtAt f (b[k.toNat]'(by omega))) s1) (hz : ¬ R.1 = 0) : blS L f b s = R := by
 rw [hex, Cx h0 h1, blockS];rw [← hR, if_neg hz]
theorem Rg (h1 : (b.length : Int) ≤ k) (hex : blS L f b s = blockS (L.stmt f) f (b.drop k.toNat) s1) : blS L f b s = (0, 0, s1) := by
 rw [hex, BC h1, blockS]
end
open Go.Eng
def Pe (p : Prog) (inp : List Int) (most n : Nat) (L : Lev) : Prop :=
 ∀ (fn : Int) (f : Func) (t : Stmt) (s : Sx) (bm bc bb : Nat) (q : Kp) (pv iv : Value) (xv : List Value) (xt : List T), 0 ≤ fn → fn < p.funcs.length → f = funcAt p fn → t ∈ f.stmts → s.ok p inp f → s.m.fuel ≤ n → s.m.fuel ≤ 1048576 → s.m.trace.length + s.m.fuel ≤ 1048576 → s.off.length + s.m.fuel ≤ 1048576 → s.m.deep ≤ most →
  Proc Try.prog 112 [.t (.v (.pointer (some ⟨bm, 0, none⟩))), .t (.v (.pointer (some ⟨bc, 0, none⟩))), .t t.tt] (pv :: iv :: xv) (T.Funcs p.funcs :: T.ints inp :: xt)
   [.obox (.pointer (some ⟨bm, 0, none⟩)) (rS pv iv most s.m.fuel 0 s.m), .obox (.pointer (some ⟨bc, 0, none⟩)) (gC fn s.vars s.off s.res 0 0 false (byP bb s.by')), byK bb q s.by']
   (.tup [.t (.int (haH (L.stmt f t s).1)), .t (.int (L.stmt f t s).2.1)])
   [.obox (.pointer (some ⟨bm, 0, none⟩)) (rS pv iv most (fuH (L.stmt f t s).1 (L.stmt f t s).2.2.m) (coH (L.stmt f t s).1) (L.stmt f t s).2.2.m), .obox (.pointer (some ⟨bc, 0, none⟩)) (gC fn (L.stmt f t s).2.2.vars (L.stmt f t s).2.2.off (L.stmt f t s).2.2.res 0 0 false (byP bb s.by')), .obox (byP bb s.by') (gC q.fn q.vars q.off q.res (hH (L.stmt f t s).2.2.by') (nH (L.stmt f t s).2.2.by') (xH (L.stmt f t s).2.2.by') q.bp)]
def BlI (p : Prog) (inp : List Int) (f : Func) (L : Lev) (b : List Int) (s : Sx) (pv iv bp bpv : Value) (q : Kp) (most fn : Int) (k : Int) (b1 b2 b3 : Blk) : Prop :=
 ∃ (s1 : Sx), 0 ≤ k ∧ k ≤ b.length ∧ Sx.to p inp f 0 s s1 ∧ blS L f b s = blockS (L.stmt f) f (b.drop k.toNat) s1 ∧
  b1 = .box (rS pv iv most s1.m.fuel 0 s1.m) ∧ b2 = .box (gC fn s1.vars s1.off s1.res 0 0 false bp) ∧ b3 = .obox bpv (gC q.fn q.vars q.off q.res (hH s1.by') (nH s1.by') (xH s1.by') q.bp)
section
variable {p : Prog} {inp : List Int} {f : Func} {L : Lev} {b : List Int} {s s1 : Sx} {pv iv bp bpv : Value} {most fn : Int} {q : Kp} {k : Int} {R : Int × Int × Sx}
theorem BlI.next (h0 : 0 ≤ k) (h1 : k < b.length) (hto : Sx.to p inp f 0 s s1) (hex : blS L f b s = blockS (L.stmt f) f (b.drop k.toNat) s1) (hR : R = L.stmt f (stmtAt f (b[k.toNat]'(by omega))) s1) (hok : Sx.to p inp f R.1 s1 R.2.2) (hz : R.1 = 0) {k' : Int} (hk : k' = k + 1) {b1 b2 b3 : Blk}
  (e3 : b1 = .box (rS pv iv most (fuH R.1 R.2.2.m) (coH R.1) R.2.2.m)) (e4 : b2 = .box (gC fn R.2.2.vars R.2.2.off R.2.2.res 0 0 false bp)) (e5 : b3 = .obox bpv (gC q.fn q.vars q.off q.res (hH R.2.2.by') (nH R.2.2.by') (xH R.2.2.by') q.bp)) :
  BlI p inp f L b s pv iv bp bpv q most fn k' b1 b2 b3 := by
 subst hk;rw [hz] at hok;rw [hz, Jz (by omega), J9 (by omega)] at e3;refine ⟨R.2.2, by omega, by omega, hto.trans hok (by omega), ?_, e3, e4, e5⟩;rw [hex, Cx h0 h1, blockS];rw [← hR, if_pos hz]
theorem SE {h : Int} (e : haH h = 0) : h = 0 := by unfold haH at e; split at e <;> omega
theorem L6 {h : Int} (e : ¬ haH h = 0) : ¬ h = 0 := by intro h; subst h; exact e rfl
end
theorem Dw (p : Prog) (inp : List Int) (most n : Nat) (L : Lev) (hL : KU p inp L) (hC : Pe p inp most n L) (fn : Int) (f : Func) (h0 : 0 ≤ fn) (h1' : fn < p.funcs.length) (hfd : f = funcAt p fn) (hfl : f.stmts.length ≤ 1048576) (b : List Int) (hb : inF' f b) (hbl : b.length ≤ 1048576) (s : Sx) (hs : s.ok p inp f) (hn : s.m.fuel ≤ n) (hn2 : s.m.fuel ≤ 1048576) (hti : s.m.trace.length + s.m.fuel ≤ 1048576) (hof : s.off.length + s.m.fuel ≤ 1048576) (hdm : s.m.deep ≤ most) (bm bc bb : Nat) (q : Kp) (pv iv : Value) (xv : List Value) (xt : List T) : Proc Try.prog 95 [.t (.v (.pointer (some ⟨bm, 0, none⟩))), .t (.v (.pointer (some ⟨bc, 0, none⟩))), .t (T.ints b)] ((pv :: iv :: xv)) ((T.Funcs p.funcs :: T.ints inp :: xt)) [.obox (.pointer (some ⟨bm, 0, none⟩)) (rS pv iv most s.m.fuel 0 s.m), .obox (.pointer (some ⟨bc, 0, none⟩)) (gC fn s.vars s.off s.res 0 0 false (byP bb s.by')), byK bb q s.by'] (.tup [.t (.int (haH (blS L f b s).1)), .t (.int (blS L f b s).2.1)]) [.obox (.pointer (some ⟨bm, 0, none⟩)) (rS pv iv most (fuH (blS L f b s).1 (blS L f b s).2.2.m) (coH (blS L f b s).1) (blS L f b s).2.2.m), .obox (.pointer (some ⟨bc, 0, none⟩)) (gC fn (blS L f b s).2.2.vars (blS L f b s).2.2.off (blS L f b s).2.2.res 0 0 false (byP bb s.by')), .obox (byP bb s.by') (gC q.fn q.vars q.off q.res (hH (blS L f b s).2.2.by') (nH (blS L f b s).2.2.by') (xH (blS L f b s).2.2.by') q.bp)] := by
 have hfa : p.funcs[fn.toNat]'(by omega) = f := by rw [hfd]; exact Ax (by omega)
 have hfm : f ∈ p.funcs := hfd ▸ Cc h0 h1'
 have hget : (p.funcs.map Func.tt)[fn.toNat]? = some f.tt := by rw [EK _ _ h0 h1', hfa]
 refine Proc.intro tys Try.func95 Z Z (N := 44) [100, 101, 102] 99 ([(0, .t (.v (.pointer (some ⟨bm, 0, none⟩)))), (1, .t (.v (.pointer (some ⟨bc, 0, none⟩)))), (2, .t (T.ints b))]) ([(100, .obox (.pointer (some ⟨bm, 0, none⟩)) (rS pv iv most s.m.fuel 0 s.m)), (101, .obox (.pointer (some ⟨bc, 0, none⟩)) (gC fn s.vars s.off s.res 0 0 false (byP bb s.by'))), (102, byK bb q s.by'), (99, .ro (pv :: iv :: xv) (T.Funcs p.funcs :: T.ints inp :: xt))]) Z Z Z Z (by decide) (by decide) Z (fun w0 G F0 => ?_);refine nY Z (AQ (Le.openNew (u := 100) 1100 Z Z Z Z Z) (nY Z (AQ (Le.named (t := 0) (u := 100) 1100 Z Z) (nY Z (AQ (Le.openNew (u := 101) 1101 Z Z Z Z Z) (nY Z (AQ (Le.named (t := 1) (u := 101) 1101 Z Z) (nY Z (sG (eK 2 Z (nB (sQ (sG (eZ Z (evE ?_)))))))))))))));refine eZ Z (nB (AD ?_));refine lK (α := Int × Blk × Blk × Blk) [0, 1, 12, 13] [99, 1100, 1101] (fun x => [(14, .t (.int (x.1)))]) (fun x => [(100, (x.2.1)), (101, (x.2.2.1)), (102, (x.2.2.2))]) (fun x => BlI p inp f L b s pv iv (byP bb s.by') (byP bb s.by') q most fn (x.1) (x.2.1) (x.2.2.1) (x.2.2.2)) (fun x => Int.toNat (b.length - (x.1))) (0, .box (rS pv iv most s.m.fuel 0 s.m), .box (gC fn s.vars s.off s.res 0 0 false (byP bb s.by')), .obox (byP bb s.by') (gC q.fn q.vars q.off q.res (hH s.by') (nH s.by') (xH s.by') q.bp)) ?_ (fun x hx => ?_)
 ·exact ⟨s, by omega, by omega, Sx.to.refl hs (by omega) (by omega), rfl, rfl, rfl, rfl⟩
 obtain ⟨k, b1, b2, b3⟩ := x
 obtain ⟨s1, hk0, hk1, hto, hex, hb1, hb2, hb3⟩ := hx
 dsimp only at hk0 hk1 hto hex hb1 hb2 hb3 ⊢;subst hb1 hb2 hb3;refine nY Z (sG (eZ Z (nB (sQ ?_))));refine AB Z (fun h1 => ?_) (fun h1 => ?_)
 ·
  simp only [HS] at h1;refine AC (tN (sQ (AD (sG ?_))))
  have hkl : k < b.length := by omega
  have hbk := hb (b[k.toNat]'(by omega)) (Ss _)
  have hmem : stmtAt f (b[k.toNat]'(by omega)) ∈ f.stmts := by rw [← GK (by omega)]; exact Ss _
  have hfu : s1.m.fuel ≤ s.m.fuel := hto.le.1
  have hft : s1.m.trace.length + s1.m.fuel ≤ s.m.trace.length + s.m.fuel := hto.le.2.1
  have hfo : s1.off.length + s1.m.fuel ≤ s.off.length + s.m.fuel := hto.offl
  have hdp : s1.m.deep = s.m.deep := hto.deep (by omega)
  obtain ⟨R, hR⟩ : ∃ R, R = L.stmt f (stmtAt f (b[k.toNat]'(by omega))) s1 := ⟨_, rfl⟩
  have hok1 := hL.stmt f hfm _ hmem s1 hto.ok
  rw [← hR] at hok1
  have hh0 := hok1.h0
  have hCa := hC fn f (stmtAt f (b[k.toNat]'(by omega))) s1 bm bc bb q pv iv xv xt h0 h1' hfd hmem hto.ok (by omega) (by omega) (by omega) (by omega) (by omega)
  unfold byK at hCa;rw [← hR, ← GK (f := f) (n := b[k.toNat]'(by omega)) (by omega), Gy (bb := bb) hto.by'] at hCa;refine iY (k := ?_);refine eK 2 Z (nB (sQ (Br [[100, 101], [100, 101], [], [], [], [], [], [], [], [], [], [], [], [], [], [], [], [], [], [], [], [], []] BE (by kernel_rfl) (D3 (QG_ev tys Z Z (AA Z) Z (AG (D3 (QG_ev tys Z Z (AA Z) Z (AG (Ac (QG_ev tys Z Z (AA Z) Z (AG (Ac (CP rfl Z (AA Z) Z Z Z (AG ?_)))))))))))))));refine Aq Z (Ac (QG_ev tys Z Z (AA Z) Z (AG (Ac (QG_ev tys Z Z (AA Z) Z (AG (Ac (Pl tys 99 0 Z Z (AA Z) Z Z Z Z (AG (Ac (QG_ev tys Z Z (AA Z) Z (AG (Aq Z (Ac (CP rfl Z (AA Z) Z Z Z ?_)))))))))))))));refine AG (Ac (QG_ev tys Z Z (AA Z) Z (AG (Ac (QG_ev tys Z Z (AA Z) Z (AG (D3 (LM tys Z Z (AA Z) Z Z Z Z Z Z Z h0 _ hget (AG (Aq Z (Ac (QG_ev tys Z Z (AA Z) Z (AG (Ac (QG_ev tys Z Z (AA Z) Z ?_)))))))))))))));refine AG (Ac (QG_ev tys Z Z (AA Z) Z (AG (D3 (LM tys Z Z (AA Z) Z Z Z Z Z Z Z (by omega) _ (EK _ _ (by omega) (by omega)) (AG (Aq Z (QH_ev2 tys (u1 := 100) (u2 := 101) 1100 1101 Z Z (AA Z) Z Z Z Z Z Z Z Z Z (Aq Z ?_)))))))));refine Cr (rid := 99) [100, 101, 102] Z Z (AA Z) Z Z (by repeat (first | exact ResP.done | refine ResP.pin0 1100 Z ?_ | refine ResP.pin0 1101 Z ?_ | refine ResP.pin0 1102 Z ?_ | refine ResP.t ?_ | refine ResP.nil 1 ?_ | refine ResP.nil' ?_ | refine ResP.own ?_ | refine ResP.sl Z Z (by first | omega | (simp; omega)) ?_ | refine ResP.aggT (by repeat (first | exact ResP.done | refine ResP.t ?_)) ?_)) Z (by repeat (first | exact trivial | refine ⟨rfl, rfl, ?_⟩)) (by decide) (hCa) Z Z Z ?_;refine Ac (QG_ev tys Z Z (AA Z) Z (AG (Ac (QG_ev tys Z Z (AA Z) Z (AG (Aq Z (Ac (QG_ev tys Z Z (AA Z) Z (AG (Ac (QG_ev tys Z Z (AA Z) Z (AG (Ac (QG_ev tys Z Z (AA Z) Z (AG ?_)))))))))))))));refine E6 ?_;refine ⟨by kernel_rfl, ?_⟩;refine nZ Z (WO_le (Le.open (u := 100) 1100 Z Z Z Z) (nZ Z (WO_le (Le.open (u := 101) 1101 Z Z Z Z) (nZ Z (nA (eK 2 Z (nB ?_)))))));refine AB Z (fun h2 => ?_) (fun h2 => ?_)
  ·
   simp only [HS] at h2;refine sG (eK 4 Z (nB (AQ (Le.close (u := 100) 1100 Z Z Z) (nY Z (AQ (Le.close (u := 101) 1101 Z Z Z) (nY Z (rT (bR (tR (AP (bR (tR ?_))))))))))));refine eP [_, _, _] ?_ ?_
   ·(have he := PK hk0 hkl hex hR (L6 (by assumption)); exact Fu (by rw [he]) (by rw [he]))
   ·(have he := PK hk0 hkl hex hR (L6 (by assumption)); rw [he]; rfl)
  simp only [HS] at h2;refine AC (bN (tN (rG (evI ?_))));refine eZ Z (oN ?_);refine lQ (_, _, _, _) ?_ ?_
  ·dsimp only
   exact BlI.next hk0 (by omega) hto hex hR hok1 (SE (by assumption)) rfl rfl rfl rfl
  ·(show Int.toNat _ < Int.toNat _); omega
 simp only [HS] at h1;refine AN (tE (AJ (AI (tN (sG (eK 2 Z (nB (AQ (Le.close (u := 100) 1100 Z Z Z) (nY Z (AQ (Le.close (u := 101) 1101 Z Z Z) (nY Z (rT ?_))))))))))));refine eP [_, _, _] ?_ ?_
 ·(have he := Rg (by omega) hex; exact Fu (by rw [he]; rfl) (by rw [he]))
 ·(have he := Rg (by omega) hex; rw [he]; rfl)
open Go.Eng
def stS (p : Prog) (inp : List Int) (L : Lev) (f : Func) (t : Stmt) (s : Sx) : Int × Int × Sx := FC L (paramsL p) inp f t s
section
variable {p : Prog} {inp : List Int} {f : Func} {L : Lev} {t : Stmt} {s : Sx} {R B : Int × Int × Sx} {v : Int}
theorem ML {m : Ms} (h : m.fuel = 0) : A6 m = m := by
 obtain ⟨u, fu, d, tr⟩ := m
 cases h;rfl
theorem st_0 (h : s.m.fuel = 0) : stS p inp L f t s = (5, 0, ⟨A6 s.m, s.vars, s.off, s.res, s.by'⟩) := by rw [stS, FC, if_pos h, ML h]
theorem st_3 (hf : s.m.fuel ≠ 0) (h : t.kind = 3) : stS p inp L f t s = (0, 0, ⟨A6 s.m, s.vars, s.off ++ [t.n], s.res, s.by'⟩) := by rw [stS, FC, if_neg hf, if_pos h]
theorem st_6 (hf : s.m.fuel ≠ 0) (h : t.kind = 6) : stS p inp L f t s = (3, 0, ⟨A6 s.m, s.vars, s.off, s.res, s.by'⟩) := by rw [stS, FC, if_neg hf, if_neg (by omega), if_pos h]
theorem st_e (hf : s.m.fuel ≠ 0) (h3 : t.kind ≠ 3) (h6 : t.kind ≠ 6) (hR : R = exS p inp L t.ex ⟨A6 s.m, s.vars, s.off, s.res, s.by'⟩) (h0 : ¬ R.1 = 0) : stS p inp L f t s = R := by
 rw [stS, FC, if_neg hf, if_neg h3, if_neg h6]
 have e : exprS L.cal (paramsL p) inp t.ex [] { s with m := A6 s.m } = R := hR.symm
 simp only [e, if_neg h0]
theorem NP (hf : s.m.fuel ≠ 0) (h3 : t.kind ≠ 3) (h6 : t.kind ≠ 6) (hR : R = exS p inp L t.ex ⟨A6 s.m, s.vars, s.off, s.res, s.by'⟩) (h0 : R.1 = 0) : stS p inp L f t s = doS L f t R.2.1 R.2.2 := by
 rw [stS, FC, if_neg hf, if_neg h3, if_neg h6]
 have e : exprS L.cal (paramsL p) inp t.ex [] { s with m := A6 s.m } = R := hR.symm
 simp only [e, if_pos h0]
theorem do_1 (h : t.kind = 1) : doS L f t v s = (0, 0, ⟨s.m, s.vars.set t.n.toNat v, s.off, s.res, s.by'⟩) := by rw [doS, if_pos h]
theorem do_2 (h : t.kind = 2) : doS L f t v s = (0, 0, ⟨⟨s.m.used, s.m.fuel, s.m.deep, s.m.trace ++ [v]⟩, s.vars, s.off, s.res, s.by'⟩) := by rw [doS, if_neg (by omega), if_pos h]
theorem do_4 (h : t.kind = 4) : doS L f t v s = (2, v, s) := by rw [doS, if_neg (by omega), if_neg (by omega), if_pos h]
theorem do_5 (h : t.kind = 5) : doS L f t v s = (1, 0, ⟨s.m, s.vars, s.off, v, s.by'⟩) := by rw [doS, if_neg (by omega), if_neg (by omega), if_neg (by omega), if_pos h]
theorem do_7t (h : t.kind = 7) (hv : v ≠ 0) : doS L f t v s = blS L f t.thn s := by rw [doS, if_neg (by omega), if_neg (by omega), if_neg (by omega), if_neg (by omega), if_pos h, if_pos hv]; rfl
theorem do_7e (h : t.kind = 7) (hv : ¬ v ≠ 0) : doS L f t v s = blS L f t.els s := by rw [doS, if_neg (by omega), if_neg (by omega), if_neg (by omega), if_neg (by omega), if_pos h, if_neg hv]; rfl
theorem do_8z (h : t.kind = 8) (hv : v = 0) : doS L f t v s = (0, 0, s) := by rw [doS, if_neg (by omega), if_neg (by omega), if_neg (by omega), if_neg (by omega), if_neg (by omega), if_pos h, if_pos hv]
theorem do_8b (h : t.kind = 8) (hv : ¬ v = 0) (hB : B = blS L f t.thn s) (h0 : ¬ B.1 = 0) : doS L f t v s = B := by
 rw [doS, if_neg (by omega), if_neg (by omega), if_neg (by omega), if_neg (by omega), if_neg (by omega), if_pos h, if_neg hv]
 have e : blockS (L.stmt f) f t.thn s = B := hB.symm
 simp only [e, if_neg h0]
theorem do_8s (h : t.kind = 8) (hv : ¬ v = 0) (hB : B = blS L f t.thn s) (h0 : B.1 = 0) : doS L f t v s = L.stmt f t B.2.2 := by
 rw [doS, if_neg (by omega), if_neg (by omega), if_neg (by omega), if_neg (by omega), if_neg (by omega), if_pos h, if_neg hv]
 have e : blockS (L.stmt f) f t.thn s = B := hB.symm
 simp only [e, if_pos h0]
theorem do_9 (h1 : ¬ t.kind = 1) (h2 : ¬ t.kind = 2) (h4 : ¬ t.kind = 4) (h5 : ¬ t.kind = 5) (h7 : ¬ t.kind = 7) (h8 : ¬ t.kind = 8) : doS L f t v s = (0, 0, s) := by rw [doS, if_neg h1, if_neg h2, if_neg h4, if_neg h5, if_neg h7, if_neg h8]
end
theorem putI (x v : Int) : (T.int x).put 0 [T.int v] = T.int v := rfl
open Go.Eng
def lvS (p : Prog) (inp : List Int) (most n : Nat) (f : Func) (t : Stmt) (s : Sx) : Int × Int × Sx := (lev p inp most n).stmt f t s
theorem lv_0 {p : Prog} {inp : List Int} {most n : Nat} {f : Func} {t : Stmt} {s : Sx} (h : s.m.fuel = 0) : lvS p inp most n f t s = (5, 0, ⟨A6 s.m, s.vars, s.off, s.res, s.by'⟩) := by
 cases n with
 | zero => show (5, 0, s) = _; rw [ML h]
 | succ n => exact st_0 h
def StI (p : Prog) (inp : List Int) (f : Func) (t : Stmt) (s : Sx) (pv iv bp bpv : Value) (q : Kp) (most n : Nat) (fn : Int) (fu : Int) (b1 b2 b3 : Blk) : Prop :=
 ∃ (n1 : Nat) (s1 : Sx), n1 ≤ n ∧ s1.m.fuel ≤ n1 ∧ fu = s1.m.fuel ∧ Sx.to p inp f 0 s s1 ∧ lvS p inp most n f t s = lvS p inp most n1 f t s1 ∧
  b1 = .box (rS pv iv most s1.m.fuel 0 s1.m) ∧ b2 = .box (gC fn s1.vars s1.off s1.res 0 0 false bp) ∧ b3 = .obox bpv (gC q.fn q.vars q.off q.res (hH s1.by') (nH s1.by') (xH s1.by') q.bp)
theorem Nh (p : Prog) (inp : List Int) (most n : Nat) (hI : ∀ k, k < n → Po p inp most k (lev p inp most k) ∧ Pe p inp most k (lev p inp most k)) (hg : AS p = true) (hp : p.ok 1048576) (hi : inp.length ≤ 1048576) (hmost : most ≤ 1048576) (fn : Int) (f : Func) (t : Stmt) (s : Sx) (bm bc bb : Nat) (q : Kp) (pv iv : Value) (xv : List Value) (xt : List T) (h0 : 0 ≤ fn) (h1' : fn < p.funcs.length) (hfd : f = funcAt p fn) (ht : t ∈ f.stmts) (hs : s.ok p inp f) (hn : s.m.fuel ≤ n) (hn2 : s.m.fuel ≤ 1048576) (hti : s.m.trace.length + s.m.fuel ≤ 1048576) (hof : s.off.length + s.m.fuel ≤ 1048576) (hdm : s.m.deep ≤ most) : Proc Try.prog 112 [.t (.v (.pointer (some ⟨bm, 0, none⟩))), .t (.v (.pointer (some ⟨bc, 0, none⟩))), .t t.tt] ((pv :: iv :: xv)) ((T.Funcs p.funcs :: T.ints inp :: xt)) [.obox (.pointer (some ⟨bm, 0, none⟩)) (rS pv iv most s.m.fuel 0 s.m), .obox (.pointer (some ⟨bc, 0, none⟩)) (gC fn s.vars s.off s.res 0 0 false (byP bb s.by')), byK bb q s.by'] (.tup [.t (.int (haH (lvS p inp most n f t s).1)), .t (.int (lvS p inp most n f t s).2.1)]) [.obox (.pointer (some ⟨bm, 0, none⟩)) (rS pv iv most (fuH (lvS p inp most n f t s).1 (lvS p inp most n f t s).2.2.m) (coH (lvS p inp most n f t s).1) (lvS p inp most n f t s).2.2.m), .obox (.pointer (some ⟨bc, 0, none⟩)) (gC fn (lvS p inp most n f t s).2.2.vars (lvS p inp most n f t s).2.2.off (lvS p inp most n f t s).2.2.res 0 0 false (byP bb s.by')), .obox (byP bb s.by') (gC q.fn q.vars q.off q.res (hH (lvS p inp most n f t s).2.2.by') (nH (lvS p inp most n f t s).2.2.by') (xH (lvS p inp most n f t s).2.2.by') q.bp)] := by
 have hf : f ∈ p.funcs := hfd ▸ Cc h0 h1'
 have hgv := Dc hg hf
 have hsh := hgv.2.2.2.2.1
 have hst : BJ f.vars (paramsL p) t = true := by clear hfd hs; obtain ⟨q, hq, rfl⟩ := TH hf; obtain ⟨i, hi, rfl⟩ := TH ht; exact IP (DP hg hq) hi
 obtain ⟨hk1, hk2, _⟩ := L2 hsh ht
 have hfo : f.ok 1048576 := hp.1.2 f hf
 have htok : t.ok 1048576 := hfo.2.1.2 t ht
 have hl1 : t.thn.length ≤ 1048576 := htok.2.1
 have hl2 : t.els.length ≤ 1048576 := htok.2.2.1
 have hfl : f.stmts.length ≤ 1048576 := hfo.2.1.1
 refine Proc.intro tys Try.func112 Z Z (N := 113) [100, 101, 102] 99 ([(0, .t (.v (.pointer (some ⟨bm, 0, none⟩)))), (1, .t (.v (.pointer (some ⟨bc, 0, none⟩)))), (2, .t t.tt)]) ([(100, .obox (.pointer (some ⟨bm, 0, none⟩)) (rS pv iv most s.m.fuel 0 s.m)), (101, .obox (.pointer (some ⟨bc, 0, none⟩)) (gC fn s.vars s.off s.res 0 0 false (byP bb s.by'))), (102, byK bb q s.by'), (99, .ro (pv :: iv :: xv) (T.Funcs p.funcs :: T.ints inp :: xt))]) Z Z Z Z (by decide) (by decide) Z (fun w0 G F0 => ?_);refine nY Z (AQ (Le.openNew (u := 100) 1100 Z Z Z Z Z) (nY Z (AQ (Le.named (t := 0) (u := 100) 1100 Z Z) (nY Z (AQ (Le.openNew (u := 101) 1101 Z Z Z Z Z) (nY Z (AQ (Le.named (t := 1) (u := 101) 1101 Z Z) (nY Z (sG (AV Z Z (AA Z) Z Z (nZ Z (eK 2 Z (nB (AD ?_))))))))))))));refine lK (α := Int × Blk × Blk × Blk) [0, 1, 5] [5, 99, 1100, 1101] (fun x => []) (fun x => [(100, (x.2.1)), (101, (x.2.2.1)), (102, (x.2.2.2))]) (fun x => StI p inp f t s pv iv (byP bb s.by') (byP bb s.by') q most n fn (x.1) (x.2.1) (x.2.2.1) (x.2.2.2)) (fun x => Int.toNat ((x.1))) (s.m.fuel, .box (rS pv iv most s.m.fuel 0 s.m), .box (gC fn s.vars s.off s.res 0 0 false (byP bb s.by')), .obox (byP bb s.by') (gC q.fn q.vars q.off q.res (hH s.by') (nH s.by') (xH s.by') q.bp)) ?_ (fun x hx => ?_)
 ·exact ⟨n, s, S2 _, hn, rfl, Sx.to.refl hs (by omega) (by omega), rfl, rfl, rfl, rfl⟩
 obtain ⟨fu, b1, b2, b3⟩ := x
 obtain ⟨n1, s1, hn1, hfn, hfuE, hto, hex, hb1, hb2, hb3⟩ := hx
 dsimp only at hn1 hfn hfuE hto hex hb1 hb2 hb3 ⊢;subst hb1 hb2 hb3 hfuE;refine nY Z (AD (sQ (sG ?_)))
 have hfu : s1.m.fuel ≤ s.m.fuel := hto.le.1
 have hft : s1.m.trace.length + s1.m.fuel ≤ s.m.trace.length + s.m.fuel := hto.le.2.1
 have hofs : s1.off.length + s1.m.fuel ≤ s.off.length + s.m.fuel := hto.offl
 have hdp : s1.m.deep = s.m.deep := hto.deep (by omega)
 have hBu := Gz bm pv iv most s1.m (pv :: iv :: xv) (T.Funcs p.funcs :: T.ints inp :: xt) (by omega)
 obtain ⟨co, hco⟩ : ∃ co : Int, co = if s1.m.fuel = 0 then 5 else 0 := ⟨_, rfl⟩
 rw [← hco] at hBu;refine eZ Z (WO_le (Le.close (u := 100) 1100 Z Z Z) (nZ Z ?_));refine cP [100] (hm := (hBu)) (k := ?_);refine nZ Z (WO_le (Le.open (u := 100) 1100 Z Z Z Z) (nZ Z (eZ Z (nB ?_))));refine AB Z (fun h1 => ?_) (fun h1 => ?_)
 ·
  simp only [HS] at h1;refine sG (eK 2 Z (nB (AQ (Le.close (u := 100) 1100 Z Z Z) (nY Z (AQ (Le.close (u := 101) 1101 Z Z Z) (nY Z (rT (tR (bR (AP (bR ?_)))))))))));refine eP [_, _, _] ?_ ?_
  ·(have hout := hex.trans (lv_0 (n := n1) (f := f) (t := t) (by omega)); exact Fu (by rw [hout] <;> rfl) (by rw [hout] <;> rfl))
  ·(have hout := hex.trans (lv_0 (n := n1) (f := f) (t := t) (by omega)); rw [if_pos (by omega)] at hco; subst hco; rw [hout]; rfl)
 simp only [HS] at h1;refine AC (tN (sQ (sG ?_)))
 have hfz : s1.m.fuel ≠ 0 := by simp_all
 rw [if_neg hfz] at hco;subst hco
 obtain ⟨k, hk⟩ : ∃ k, n1 = k + 1 := ⟨n1 - 1, by omega⟩
 subst hk
 have hex' : lvS p inp most n f t s = stS p inp (lev p inp most k) f t s1 := hex
 refine eK 2 Z (nB (AD (sG (eK 2 Z (nB ?_)))));refine AB Z (fun h2 => ?_) (fun h2 => ?_)
 ·
  simp only [HS] at h2;refine sQ ?_
  have hout := hex'.trans (st_3 hfz (by assumption))
  refine kY [0,1,5,12,13,14,15,16,17,18] Z (Br [[101], [], [], [], [], [101], [101], [101], [], [], [], []] BE (by kernel_rfl) (D3 (QG_ev tys Z Z (AA Z) Z (AG (Ac (QG_ev tys Z Z (AA Z) Z (AG (Ac (CP rfl Z (AA Z) Z Z Z (AG (Ac (QG_ev tys Z Z (AA Z) Z (AG (Aq Z (Hw tys Z Z (AA Z) Z Z Z Z Z Z ?_)))))))))))))));refine D3 (QG_ev tys Z Z (AA Z) Z (AG (D3 (QG_ev tys Z Z (AA Z) Z (AG (D3 ?_))))));refine Dh tys [T.int t.n] Z Z (AA Z) Z Z Z Z Z (AA Z) (by repeat (first | exact PartsOk.nil' | refine PartsOk.cons' rfl (by repeat (first | exact AbsL.nil' | refine AbsL.v' ?_ | refine AbsL.own' ?_ | refine AbsL.none' ?_)) Z ?_)) Z Z Z (by decide) ?_;refine AG (Aq Z (Ac (FU tys Z Z (AA Z) Z Z Z Z Z Z Z Z Z ((fun x hx => by rw [S1] at hx; subst hx; exact ⟨rfl, fun z hz => ⟨_, by simpa [T.cells] using hz⟩⟩)) (by simp; omega) (by decide) Z ?_)));refine AG (Ac (CP rfl Z (AA Z) Z Z Z (AG (Ac (QG_ev tys Z Z (AA Z) Z (AG (HA tys Z Z Z Z Z Z Z Z Z (Tb Z) (Aq Z (E6 ?_)))))))));refine ⟨by kernel_rfl, ?_⟩;refine nZ Z (nA (eK 2 Z (nB (AQ (Le.close (u := 100) 1100 Z Z Z) (nY Z (AQ (Le.close (u := 101) 1101 Z Z Z) (nY Z (rT (bR (tR (bR (AP (bR ?_)))))))))))));refine eP [_, _, _] ?_ ?_
  ·exact Fu (by rw [hout] <;> rfl) (by rw [hout] <;> rfl)
  ·rw [hout]
   simp [rS, gC, T.ints, putI, Sn, A6, fuH, coH]
   done
 simp only [HS] at h2;refine sQ (kY [0,1,5,12,13,14,15,16,17,18] Z (rG (eK 2 Z (nB ?_))));refine AB Z (fun h3 => ?_) (fun h3 => ?_)
 ·
  simp only [HS] at h3;refine sG (eK 2 Z (nB (AQ (Le.close (u := 100) 1100 Z Z Z) (nY Z (AQ (Le.close (u := 101) 1101 Z Z Z) (nY Z (rT (bR (tR (bR (AP (bR ?_))))))))))));refine eP [_, _, _] ?_ ?_
  ·(have hout := hex'.trans (st_6 (f := f) hfz (by assumption)); exact Fu (by rw [hout] <;> rfl) (by rw [hout] <;> rfl))
  ·(have hout := hex'.trans (st_6 (f := f) hfz (by assumption)); rw [hout]; rfl)
 simp only [HS] at h3;refine AC (bN (tN (sG ?_)))
 have hk3 : t.kind ≠ 3 := by assumption
 have hk6 : t.kind ≠ 6 := by assumption
 have hL := Hm (inp := inp) hg most k
 obtain ⟨hIc, hIs⟩ := hI k (by omega)
 have hb := hto.ok.burn hfz
 obtain ⟨mx, hru⟩ := I2 hst hk3 hk6
 obtain ⟨R, hR⟩ : ∃ R, R = exS p inp (lev p inp most k) t.ex ⟨A6 s1.m, s1.vars, s1.off, s1.res, s1.by'⟩ := ⟨_, rfl⟩
 have he := IU hL hg (pile := []) hb.ok (l := t.ex) (mx := 0) (by simpa using hru)
 have hbf : (A6 s1.m).fuel = s1.m.fuel - 1 := rfl
 have hbt : (A6 s1.m).trace.length = s1.m.trace.length := rfl
 have hbd : (A6 s1.m).deep = s1.m.deep := rfl
 have hE := O0 p inp most k (lev p inp most k) hL hIc hg hp hi f hf fn t.ex (Nl hst) ⟨mx, hru⟩ ⟨A6 s1.m, s1.vars, s1.off, s1.res, s1.by'⟩ hb.ok (by dsimp only; omega) (by dsimp only; omega) (by dsimp only; omega) (by dsimp only; omega) hmost bm bc bb q pv iv xv xt
 change Sx.to p inp f (exS p inp (lev p inp most k) t.ex ⟨A6 s1.m, s1.vars, s1.off, s1.res, s1.by'⟩).1 _ (exS p inp (lev p inp most k) t.ex ⟨A6 s1.m, s1.vars, s1.off, s1.res, s1.by'⟩).2.2 at he;unfold byK at hE;dsimp only at hE;rw [← hR] at he;rw [← hR, Gy (bb := bb) hto.by'] at hE
 have he0 := he.h0
 obtain ⟨fu1, hfu1⟩ : ∃ fu1, fu1 = fuH R.1 R.2.2.m := ⟨_, rfl⟩
 obtain ⟨co1, hco1⟩ : ∃ co1, co1 = coH R.1 := ⟨_, rfl⟩
 rw [← hfu1, ← hco1] at hE;refine eK 4 Z (WO_le (Le.close (u := 100) 1100 Z Z Z) (nZ Z (WO_le (Le.close (u := 101) 1101 Z Z Z) (nZ Z ?_))));refine cP [100,101,102] (hm := (hE)) (k := ?_);refine nZ Z (WO_le (Le.open (u := 100) 1100 Z Z Z Z) (nZ Z (WO_le (Le.open (u := 101) 1101 Z Z Z Z) (nZ Z (eZ Z (WO_evF tys Z Z (AA Z) (d := .t _) Z (nZ Z (kZ [0,1,5,12,13,14,15,16,17,18,30,31,32,33,34,35,36,37,38] Z (WO_evF tys Z Z (AA Z) (d := .t _) Z (nZ Z (eK 2 Z (nB (sQ (sG (eK 2 Z ?_)))))))))))))));refine nB ?_;refine AB Z (fun h4 => ?_) (fun h4 => ?_)
 ·
  simp only [HS] at h4;refine sG ?_
  have hout := hex'.trans (st_e (f := f) hfz hk3 hk6 hR (L6 (by assumption)))
  subst hfu1 hco1;refine eK 4 Z (kZ [0,1,5,6,7,8,9,12,13,14,15,16,17,18,30,31,32,33,34,35,36,37,38,39,40,41,42,43] Z (nB (AQ (Le.close (u := 100) 1100 Z Z Z) (nY Z (AQ (Le.close (u := 101) 1101 Z Z Z) (nY Z (rT (tR (bR (AP (bR ?_)))))))))));refine eP [_, _, _] ?_ ?_
  ·exact Fu (by rw [hout] <;> rfl) (by rw [hout] <;> rfl)
  ·rw [hout]
   rfl
 simp only [HS] at h4;refine AC (tN (sQ (sG ?_)))
 have hz : R.1 = 0 := SE (by assumption)
 rw [hz, Jz (by omega)] at hfu1;rw [hz, J9 (by omega)] at hco1;subst hfu1 hco1
 have hok2 := he.ok
 have hf2 : R.2.2.m.fuel ≤ s1.m.fuel - 1 := he.le.1
 have ht2 : R.2.2.m.trace.length + R.2.2.m.fuel ≤ s1.m.trace.length + (s1.m.fuel - 1) := he.le.2.1
 have ho2 : R.2.2.off.length + R.2.2.m.fuel ≤ s1.off.length + (s1.m.fuel - 1) := he.offl
 have hd2 : R.2.2.m.deep = s.m.deep := (he.deep (by omega)).trans hdp
 have hvl : R.2.2.vars.length = f.vars.toNat := hok2.vars
 have hby2 : R.2.2.by'.isSome = s.by'.isSome := he.by'.trans hto.by'
 have h1B : Sx.to p inp f R.1 s1 R.2.2 := hb.trans he (by omega)
 refine eK 2 Z (nB (AD (sQ (kY [0,1,5,8,9,12,13,14,15,16,17,18,30,31,32,33,34,35,36,37,38,39,40,41,44,45] Z (rG (eK 2 Z (nB ?_)))))));refine AB Z (fun h5 => ?_) (fun h5 => ?_)
 ·
  simp only [HS] at h5
  have hk1' : t.kind = 1 := by assumption
  have hn1 : 0 ≤ t.n ∧ t.n ≤ f.vars - 1 := by have := hst; grind [BJ, Ah]
  have hout := hex'.trans ((NP (f := f) hfz hk3 hk6 hR hz).trans (do_1 hk1'))
  refine AQ (Le.adoptBox (u := 101) (j := 1) (id := 191) Z Z Z) (nY Z (Br [[], [], [], [], [], [], [], [], []] BE (by kernel_rfl) (Ac (QG_ev tys Z Z (AA Z) Z (AG (Ac (CP rfl Z (AA Z) Z Z Z (AG (Ac (QG_ev tys Z Z (AA Z) Z (AG (Ac (QG_ev tys Z Z (AA Z) Z (AG (Aq Z ?_)))))))))))))));refine Ac (QG_ev tys Z Z (AA Z) Z (AG (Ac (QG_ev tys Z Z (AA Z) Z (AG (Ac (QG_ev tys Z Z (AA Z) Z (AG (D3 (LN tys Z Z (AA Z) Z Z Z Z Z Z Z Z hn1.1 (by rw [Sk, hvl]; omega) ?_))))))))));refine AG (Aq Z ?_);refine NN tys 10008 [T.int R.2.1] Z Z Z Z Z Z (D1 _ _ hn1.1 (by rw [hvl]; omega)) Z Z (by repeat (first | exact AbsL.nil' | refine AbsL.v' ?_)) Z (by decide) (Tb Z) ?_;refine E6 ?_;refine ⟨by kernel_rfl, ?_⟩;refine nZ Z (WO_le (Le.gatherBox (u := 101) (j := 1) (id := 191) Z Z Z (by simp) Z) ?_);refine nZ Z (oN (bN (tN (sG (eK 2 Z (nB (AQ (Le.close (u := 100) 1100 Z Z Z) (nY Z (AQ (Le.close (u := 101) 1101 Z Z Z) (nY Z (rT (bR (AP (bR ?_))))))))))))));refine eP [_, _, _] ?_ ?_
  ·exact Fu (by rw [hout] <;> rfl) (by rw [hout] <;> rfl)
  ·rw [hout]
   simp [rS, gC, T.ints, putI, Sn, A6, fuH, coH]
   done
 simp only [HS] at h5;refine sG (eK 2 Z (nB ?_));refine AB Z (fun h6 => ?_) (fun h6 => ?_)
 ·
  simp only [HS] at h6;refine rG ?_
  have hout := hex'.trans ((NP (f := f) hfz hk3 hk6 hR hz).trans (do_2 (by assumption)))
  refine eK 2 Z (AK rfl Z (AA Z) Z Z Z (eK 2 Z (kZ [0,1,5,8,9,12,13,14,15,16,17,18,30,31,32,33,34,35,36,37,38,39,40,41,44,45,46,47,56,57,58,59,60,61,62] Z (WO_loadOwn tys Z Z (AA Z) Z Z Z Z Z Z (WO_le (Le.adoptE (u := 63) 63 Z Z) (nZ Z (eZ Z (bZ [T.int R.2.1] ?_))))))));refine nZ Z (AE tys Z Z (AA Z) Z Z Z Z Z (.own Z (by first | omega | (simp only [Sm]; omega))) Z (.own Z (by first | decide | omega)) (by decide) (by simp; omega) (by decide) Z ?_);refine nZ Z (WO_le (Le.gather (u := 66) (id := 63) Z Z (by first | (simp; done) | (simp; omega) | omega)) ?_);refine nZ Z (AK rfl Z (AA Z) Z Z Z (eK 2 Z (sT Z (nZ Z (oN (bN (tN (sQ (kY [0,1,5,8,9,12,13,14,15,16,17,18,30,31,32,33,34,35,36,37,38,39,40,41,44,45,46,47,56,57,58,59,60,61,62,63,64,65,66,67,68,69] Z (rG (eK 2 Z (nB (AQ (Le.close (u := 100) 1100 Z Z Z) (nY Z (AQ (Le.close (u := 101) 1101 Z Z Z) ?_)))))))))))))));refine nY Z (rT (bR (AP (bR ?_))));refine eP [_, _, _] ?_ ?_
  ·exact Fu (by rw [hout] <;> rfl) (by rw [hout] <;> rfl)
  ·rw [hout]
   simp [rS, gC, T.ints, putI, Sn, A6, fuH, coH]
   done
 simp only [HS] at h6;refine sG (eK 2 Z (nB ?_));refine AB Z (fun h7 => ?_) (fun h7 => ?_)
 ·
  simp only [HS] at h7;refine sG ?_
  have hout := hex'.trans ((NP (f := f) hfz hk3 hk6 hR hz).trans (do_4 (by assumption)))
  refine eK 3 Z (kZ [0,1,5,6,7,8,9,12,13,14,15,16,17,18,30,31,32,33,34,35,36,37,38,39,40,41,44,45,46,47,56,57,70,71,72] Z (nB (AQ (Le.close (u := 100) 1100 Z Z Z) (nY Z (AQ (Le.close (u := 101) 1101 Z Z Z) (nY Z (rT (bR (tR (bR (AP (bR ?_))))))))))));refine eP [_, _, _] ?_ ?_
  ·exact Fu (by rw [hout] <;> rfl) (by rw [hout] <;> rfl)
  ·rw [hout]
   rfl
 simp only [HS] at h7;refine sG (eK 2 Z (nB ?_));refine AB Z (fun h8 => ?_) (fun h8 => ?_)
 ·
  simp only [HS] at h8;refine sQ (kY [0,1,5,8,9,12,13,14,15,16,17,18,30,31,32,33,34,35,36,37,38,39,40,41,44,45,46,47,56,57,70,71,73,74] Z (rG ?_))
  have hout := hex'.trans ((NP (f := f) hfz hk3 hk6 hR hz).trans (do_5 (by assumption)))
  refine eK 2 Z (AK rfl Z (AA Z) Z Z Z (eZ Z (sT Z (nZ Z (nA (eK 2 Z (nB (AQ (Le.close (u := 100) 1100 Z Z Z) (nY Z (AQ (Le.close (u := 101) 1101 Z Z Z) (nY Z (rT (bR (tR (bR ?_)))))))))))))));refine AP (bR ?_);refine eP [_, _, _] ?_ ?_
  ·exact Fu (by rw [hout] <;> rfl) (by rw [hout] <;> rfl)
  ·rw [hout]
   rfl
 simp only [HS] at h8;refine sQ (kY [0,1,5,8,9,12,13,14,15,16,17,18,30,31,32,33,34,35,36,37,38,39,40,41,44,45,46,47,56,57,70,71,73,74] Z (rG (eK 2 Z (nB ?_))));refine AB Z (fun h9 => ?_) (fun h9 => ?_)
 ·
  simp only [HS] at h9;refine sQ (sG (eK 2 Z (nB ?_)));refine AB Z (fun h10 => ?_) (fun h10 => ?_)
  ·
   simp only [HS] at h10;refine sG ?_
   have hout := hex'.trans ((NP (f := f) hfz hk3 hk6 hR hz).trans (do_7t (by assumption) (by omega)))
   have hB := Dw p inp most k (lev p inp most k) hL hIs fn f h0 h1' hfd hfl t.thn hk1 hl1 R.2.2 hok2 (by omega) (by omega) (by omega) (by omega) (by omega) bm bc bb q pv iv xv xt
   unfold byK at hB;rw [Gy (bb := bb) hby2] at hB;refine eK 4 Z (WO_le (Le.close (u := 100) 1100 Z Z Z) (nZ Z (WO_le (Le.close (u := 101) 1101 Z Z Z) (nZ Z ?_))));refine cP [100,101,102] (hm := (hB)) (k := ?_);refine nZ Z (WO_le (Le.open (u := 100) 1100 Z Z Z Z) (nZ Z (WO_le (Le.open (u := 101) 1101 Z Z Z Z) (nZ Z (kZ [0,1,5,8,9,12,13,14,15,16,17,18,30,31,32,33,34,35,36,37,38,39,40,41,44,45,46,47,56,57,70,71,73,74,79,80,81,82,83,84,85,86,87] Z (WO_evF tys Z Z (AA Z) (d := .t _) Z (nZ Z (WO_evF tys Z Z (AA Z) (d := .t _) Z (nZ Z (eK 2 Z (nB (AQ (Le.close (u := 100) 1100 Z Z Z) (nY Z (AQ (Le.close (u := 101) 1101 Z Z Z) (nY Z ?_)))))))))))))));refine rT (tR (bR (tR (bR (AP (bR ?_))))));refine eP [_, _, _] ?_ ?_
   ·exact Fu (by rw [hout] <;> rfl) (by rw [hout] <;> rfl)
   ·rw [hout]
    rfl
  simp only [HS] at h10;refine AC (tN (sG ?_))
  have hout := hex'.trans ((NP (f := f) hfz hk3 hk6 hR hz).trans (do_7e (by assumption) (by omega)))
  have hB := Dw p inp most k (lev p inp most k) hL hIs fn f h0 h1' hfd hfl t.els hk2 hl2 R.2.2 hok2 (by omega) (by omega) (by omega) (by omega) (by omega) bm bc bb q pv iv xv xt
  unfold byK at hB;rw [Gy (bb := bb) hby2] at hB;refine eK 4 Z (WO_le (Le.close (u := 100) 1100 Z Z Z) (nZ Z (WO_le (Le.close (u := 101) 1101 Z Z Z) (nZ Z ?_))));refine cP [100,101,102] (hm := (hB)) (k := ?_);refine nZ Z (WO_le (Le.open (u := 100) 1100 Z Z Z Z) (nZ Z (WO_le (Le.open (u := 101) 1101 Z Z Z Z) (nZ Z (kZ [0,1,5,8,9,12,13,14,15,16,17,18,30,31,32,33,34,35,36,37,38,39,40,41,44,45,46,47,56,57,70,71,73,74,79,80,81,82,90,91,92,93,94] Z (WO_evF tys Z Z (AA Z) (d := .t _) Z (nZ Z (WO_evF tys Z Z (AA Z) (d := .t _) Z (nZ Z (eK 2 Z (nB (AQ (Le.close (u := 100) 1100 Z Z Z) (nY Z (AQ (Le.close (u := 101) 1101 Z Z Z) (nY Z ?_)))))))))))))));refine rT (bR (tR (bR (AP (bR ?_)))));refine eP [_, _, _] ?_ ?_
  ·exact Fu (by rw [hout] <;> rfl) (by rw [hout] <;> rfl)
  ·rw [hout]
   rfl
 simp only [HS] at h9;refine sG (eK 2 Z (nB ?_));refine AB Z (fun h10 => ?_) (fun h10 => ?_)
 ·
  simp only [HS] at h10;refine sG (eK 2 Z (nB ?_));refine AB Z (fun h11 => ?_) (fun h11 => ?_)
  ·
   simp only [HS] at h11;refine sQ (sG ?_)
   have hB := Dw p inp most k (lev p inp most k) hL hIs fn f h0 h1' hfd hfl t.thn hk1 hl1 R.2.2 hok2 (by omega) (by omega) (by omega) (by omega) (by omega) bm bc bb q pv iv xv xt
   have hb2o := Cf (hL.stmt _ hf) hk1 hok2
   obtain ⟨B, hBd⟩ : ∃ B, B = blS (lev p inp most k) f t.thn R.2.2 := ⟨_, rfl⟩
   change Sx.to p inp f (blS (lev p inp most k) f t.thn R.2.2).1 _ (blS (lev p inp most k) f t.thn R.2.2).2.2 at hb2o;unfold byK at hB;rw [Gy (bb := bb) hby2, ← hBd] at hB;rw [← hBd] at hb2o
   have hB0 := hb2o.h0
   have hf3 : B.2.2.m.fuel ≤ R.2.2.m.fuel := hb2o.le.1
   refine eK 3 Z (kZ [0,1,5,8,9,12,13,14,15,16,17,18,30,31,32,33,34,35,36,37,38,39,40,41,44,45,46,47,56,57,70,71,73,74,79,80,97,98,99,100,102,103,104] Z (eZ Z (WO_le (Le.close (u := 100) 1100 Z Z Z) (nZ Z (WO_le (Le.close (u := 101) 1101 Z Z Z) (nZ Z ?_))))));refine cP [100,101,102] (hm := (hB)) (k := ?_);refine nZ Z (WO_le (Le.open (u := 100) 1100 Z Z Z Z) (nZ Z (WO_le (Le.open (u := 101) 1101 Z Z Z Z) (nZ Z (eZ Z (WO_evF tys Z Z (AA Z) (d := .t _) Z (nZ Z (WO_evF tys Z Z (AA Z) (d := .t _) Z (nZ Z (eK 2 Z (nB (sQ (kY [0,1,5,8,9,10,11,12,13,14,15,16,17,18,30,31,32,33,34,35,36,37,38,39,40,41,44,45,46,47,56,57,70,71,73,74,79,80,97,98,99,100,101,102,103,104,105,106,107,108] Z (rG (eK 2 Z ?_)))))))))))))));refine nB ?_;refine AB Z (fun h12 => ?_) (fun h12 => ?_)
   ·
    simp only [HS] at h12;refine sG ?_
    have hout := hex'.trans ((NP (f := f) hfz hk3 hk6 hR hz).trans (do_8b (by assumption) (by omega) hBd (L6 (by assumption))))
    refine eK 4 Z (nB (AQ (Le.close (u := 100) 1100 Z Z Z) (nY Z (AQ (Le.close (u := 101) 1101 Z Z Z) (nY Z (rT (tR (bR (tR (bR (AP (bR ?_))))))))))));refine eP [_, _, _] ?_ ?_
    ·exact Fu (by rw [hout] <;> rfl) (by rw [hout] <;> rfl)
    ·rw [hout]
     rfl
   simp only [HS] at h12;refine AC (tN (AN (SA Z (tE (AI ?_)))));refine lQ ((B.2.2.m.fuel : Int), _, _, _) ?_ ?_
   ·dsimp only
    have hB1 : B.1 = 0 := SE (by assumption); refine ⟨k, B.2.2, by omega, by omega, rfl, (hto.trans h1B (by omega)).trans (by rw [hB1] at hb2o; exact hb2o) (by omega), hex'.trans ((NP (f := f) hfz hk3 hk6 hR hz).trans (do_8s (by assumption) (by omega) hBd hB1)), ?_, rfl, rfl⟩; rw [hB1, Jz (by omega), J9 (by omega)]; rfl
   ·(show Int.toNat _ < Int.toNat _); omega
  simp only [HS] at h11;refine AC (bN (tN (sG (eK 2 Z (nB (AQ (Le.close (u := 100) 1100 Z Z Z) (nY Z (AQ (Le.close (u := 101) 1101 Z Z Z) (nY Z (rT (bR (AP (bR ?_)))))))))))));refine eP [_, _, _] ?_ ?_
  ·(have hout := hex'.trans ((NP (f := f) hfz hk3 hk6 hR hz).trans (do_8z (by assumption) (by omega))); exact Fu (by rw [hout] <;> rfl) (by rw [hout] <;> rfl))
  ·(have hout := hex'.trans ((NP (f := f) hfz hk3 hk6 hR hz).trans (do_8z (by assumption) (by omega))); rw [hout]; rfl)
 simp only [HS] at h10;refine AC (bN (tN (sG (eK 2 Z (nB (AQ (Le.close (u := 100) 1100 Z Z Z) (nY Z (AQ (Le.close (u := 101) 1101 Z Z Z) (nY Z (rT (bR (AP (bR ?_)))))))))))));refine eP [_, _, _] ?_ ?_
 ·(have hout := hex'.trans ((NP (f := f) hfz hk3 hk6 hR hz).trans (do_9 (by assumption) (by assumption) (by assumption) (by assumption) (by assumption) (by assumption))); exact Fu (by rw [hout] <;> rfl) (by rw [hout] <;> rfl))
 ·(have hout := hex'.trans ((NP (f := f) hfz hk3 hk6 hR hz).trans (do_9 (by assumption) (by assumption) (by assumption) (by assumption) (by assumption) (by assumption))); rw [hout]; rfl)
open Go.Eng
def caS (p : Prog) (L : Lev) (most : Nat) (fn : Int) (args : List Int) (b : Option By) (m : Ms) : Int × Int × Option By × Ms := Ez L p most fn args b m
def Lr (L : Lev) (k : Int) (b : Option By) (m : Ms) : Int × Int × Option By × Ms := L.call k [] b m
section
variable {p : Prog} {inp : List Int} {f : Func} {L : Lev} {most : Nat} {fn : Int} {args : List Int} {b : Option By} {m : Ms} {R : Int × Int × Sx} {Q : Int × By × Ms}
theorem ca_0 (h : m.fuel = 0) : caS p L most fn args b m = (5, 0, b, A6 m) := by rw [caS, Ez, if_pos h, ML h]
theorem ca_d (hf : m.fuel ≠ 0) (h : m.deep = most) : caS p L most fn args b m = (4, 0, b, A6 m) := by rw [caS, Ez, if_neg hf, if_pos h]
theorem ca_e (hf : m.fuel ≠ 0) (h : m.deep ≠ most) (hfd : f = funcAt p fn) (hR : R = blS L f f.body (startS f args b m)) (h4 : 4 ≤ R.1) : caS p L most fn args b m = (R.1, 0, R.2.2.by', R.2.2.m) := by
 subst hfd;rw [caS, Ez, if_neg hf, if_neg h]
 have e : blockS (L.stmt (funcAt p fn)) (funcAt p fn) (funcAt p fn).body (startS (funcAt p fn) args b m) = R := hR.symm
 simp only [e, if_pos h4]
theorem ca_o (hf : m.fuel ≠ 0) (h : m.deep ≠ most) (hfd : f = funcAt p fn) (hR : R = blS L f f.body (startS f args b m)) (h4 : ¬ 4 ≤ R.1) (hQ : offR (Lr L) R.2.2.off.reverse (endS R.1 R.2.1) R.2.2.m = Q) (h5 : 4 ≤ Q.1) : caS p L most fn args b m = (Q.1, 0, R.2.2.by', Q.2.2) := by
 subst hfd;rw [caS, Ez, if_neg hf, if_neg h]
 have e : blockS (L.stmt (funcAt p fn)) (funcAt p fn) (funcAt p fn).body (startS (funcAt p fn) args b m) = R := hR.symm
 have e2 : offR (fun k b m => L.call k [] b m) R.2.2.off.reverse (endS R.1 R.2.1) R.2.2.m = Q := hQ
 simp only [e, if_neg h4, e2, if_pos h5]
theorem ca_f (hf : m.fuel ≠ 0) (h : m.deep ≠ most) (hfd : f = funcAt p fn) (hR : R = blS L f f.body (startS f args b m)) (h4 : ¬ 4 ≤ R.1) (hQ : offR (Lr L) R.2.2.off.reverse (endS R.1 R.2.1) R.2.2.m = Q) (h5 : ¬ 4 ≤ Q.1) : caS p L most fn args b m = (Q.2.1.how, if Q.2.1.how = 2 then Q.2.1.pan else R.2.2.res, R.2.2.by', ⟨Q.2.2.used, Q.2.2.fuel, Q.2.2.deep - 1, Q.2.2.trace⟩) := by
 subst hfd;rw [caS, Ez, if_neg hf, if_neg h]
 have e : blockS (L.stmt (funcAt p fn)) (funcAt p fn) (funcAt p fn).body (startS (funcAt p fn) args b m) = R := hR.symm
 have e2 : offR (fun k b m => L.call k [] b m) R.2.2.off.reverse (endS R.1 R.2.1) R.2.2.m = Q := hQ
 simp only [e, if_neg h4, e2, if_neg h5]
end
section
variable {p : Prog} {inp : List Int} {L : Lev} {off : List Int} {b0 b1 : By} {m0 m1 : Ms} {pv iv : Value} {most : Int} {k : Int} {R : Int × Int × Option By × Ms} {c : By}
theorem P2 (h0 : 0 ≤ k) (h1 : k < off.length) : (off.take (k + 1).toNat).reverse = off[k.toNat]'(by omega) :: (off.take (k - 1 + 1).toNat).reverse := by
 rw [show (k + 1).toNat = k.toNat + 1 from by omega, show (k - 1 + 1).toNat = k.toNat from by omega, List.take_succ_eq_append_getElem (by omega), List.reverse_append];rfl
end
open Go.Eng
def lvC (p : Prog) (inp : List Int) (most n : Nat) (fn : Int) (args : List Int) (b : Option By) (m : Ms) : Int × Int × Option By × Ms := (lev p inp most n).call fn args b m
theorem lc_0 {p : Prog} {inp : List Int} {most n : Nat} {fn : Int} {args : List Int} {b : Option By} {m : Ms} (h : m.fuel = 0) : lvC p inp most n fn args b m = (5, 0, b, A6 m) := by
 cases n with
 | zero => show (5, 0, b, m) = _; rw [ML h]
 | succ n => exact ca_0 h
def OfI (inp : List Int) (L : Lev) (off : List Int) (b0 : By) (m0 : Ms) (pv iv : Value) (most fn : Int) (vars : List Int) (res : Int) (bp : Value) (l : List Int) (B1 B2 : Blk) : Prop :=
 ∃ (b1 : By) (m1 : Ms), (∀ x, x ∈ l → x ∈ off) ∧ l.length ≤ off.length ∧ offR (Lr L) off.reverse b0 m0 = offR (Lr L) l.reverse b1 m1 ∧ 1 ≤ b1.how ∧ b1.how < 4 ∧ m0.le inp m1 ∧ m1.deep = m0.deep ∧ B1 = .box (rS pv iv most m1.fuel 0 m1) ∧ B2 = .box (gC fn vars l res b1.how b1.pan b1.exd bp)
section
variable {p : Prog} {inp : List Int} {L : Lev} {off l : List Int} {b0 b1 : By} {m0 m1 : Ms} {pv iv bp : Value} {most fn res x : Int} {vars : List Int} {R : Int × Int × Option By × Ms} {c : By}
theorem revL (h : 0 < (l.length : Int)) : l.reverse = l[((l.length : Int) - 1).toNat]'(by omega) :: (l.take ((l.length : Int) - 1).toNat).reverse := by
 have := P2 (off := l) (k := (l.length : Int) - 1) (by omega) (by omega)
 rw [show ((l.length : Int) - 1 + 1).toNat = l.length from by omega, Sy, show ((l.length : Int) - 1 - 1 + 1).toNat = ((l.length : Int) - 1).toNat from by omega] at this;exact this
theorem Lq (h : 0 < (l.length : Int)) (hex : offR (Lr L) off.reverse b0 m0 = offR (Lr L) l.reverse b1 m1) (hR : R = L.call (l[((l.length : Int) - 1).toNat]'(by omega)) [] (some b1) m1) (hc : R.2.2.1 = some c) (h4 : 4 ≤ R.1) : offR (Lr L) off.reverse b0 m0 = (R.1, c, R.2.2.2) := by
 have e : Lr L (l[((l.length : Int) - 1).toNat]'(by omega)) (some b1) m1 = R := hR.symm
 rw [hex, revL h, offR];simp only [e, if_pos h4, hc, Option.getD_some]
theorem ofI_next (h : 0 < (l.length : Int)) (hin : ∀ x, x ∈ l → x ∈ off) (hlen : l.length ≤ off.length) (hex : offR (Lr L) off.reverse b0 m0 = offR (Lr L) l.reverse b1 m1) (hb1 : 1 ≤ b1.how) (hb2 : b1.how < 4) (hle : m0.le inp m1) (hd : m1.deep = m0.deep) (hR : R = L.call (l[((l.length : Int) - 1).toNat]'(by omega)) [] (some b1) m1)
  (hto : Ms.to inp R.1 (some b1) R.2.2.1 m1 R.2.2.2) (hc : R.2.2.1 = some c) (h4 : ¬ 4 ≤ R.1) {b2 : By} (hb : b2 = if R.1 = 1 then c else ⟨R.1, if R.1 = 2 then R.2.1 else c.pan, c.exd || decide (R.1 = 3)⟩) {B1 B2 : Blk} (e1 : B1 = .box (rS pv iv most (fuH R.1 R.2.2.2) (coH R.1) R.2.2.2)) (e2 : B2 = .box (gC fn vars (l.take ((l.length : Int) - 1).toNat) res b2.how b2.pan b2.exd bp)) :
  OfI inp L off b0 m0 pv iv most fn vars res bp (l.take ((l.length : Int) - 1).toNat) B1 B2 := by
 have e : Lr L (l[((l.length : Int) - 1).toNat]'(by omega)) (some b1) m1 = R := hR.symm
 have hcb := hto.byk (fun x hx => by cases hx; exact ⟨hb1, hb2⟩) c hc
 have hh1 := hto.h1
 rw [Jz (by omega), J9 (by omega)] at e1;refine ⟨b2, R.2.2.2, fun x hx => hin x (TW hx), by rw [Sq]; omega, ?_, ?_, ?_, hle.trans hto.le, (hto.deep (by omega)).trans hd, e1, e2⟩
 ·rw [hex, revL h, offR]
  simp only [e, if_neg h4, hc, Option.getD_some];subst hb
  split <;> rfl
 ·subst hb
  split
  ·exact hcb.1
  ·exact hh1
 ·subst hb
  split
  ·exact hcb.2
  ·show R.1 < 4; omega
theorem R5 (h0 : ¬ 0 < (l.length : Int)) (hex : offR (Lr L) off.reverse b0 m0 = offR (Lr L) l.reverse b1 m1) : offR (Lr L) off.reverse b0 m0 = (0, b1, m1) := by
 rw [hex, show l = [] from TM (by omega)];rfl
theorem Qq {h : Int} (e : haH h = 4) : 4 ≤ h := by unfold haH at e; split at e <;> omega
theorem RY {h : Int} (e : ¬ haH h = 4) : ¬ 4 ≤ h := by intro h'; unfold haH at e; rw [if_pos h'] at e; exact e rfl
end
theorem NA (p : Prog) (inp : List Int) (most n : Nat) (hI : ∀ k, k < n → Po p inp most k (lev p inp most k) ∧ Pe p inp most k (lev p inp most k)) (hg : AS p = true) (hp : p.ok 1048576) (hi : inp.length ≤ 1048576) (hmost : most ≤ 1048576) (fn : Int) (args : List Int) (b : Option By) (m : Ms) (bm bb : Nat) (q : Kp) (pv iv : Value) (xv : List Value) (xt : List T) (h0 : 0 ≤ fn) (h1' : fn < p.funcs.length) (hal : args.length = (atI (paramsL p) fn).toNat) (hu : m.used ≤ inp.length) (hdm : m.deep ≤ most) (hn : m.fuel ≤ n) (hz : m.fuel = 0) (hn2 : m.fuel ≤ 1048576) (hti : m.trace.length + m.fuel ≤ 1048576) : Proc Try.prog 65 [.t (.v (.pointer (some ⟨bm, 0, none⟩))), .t (.int fn), .t (T.ints args), .t (.v (byP bb b))] ((pv :: iv :: xv)) ((T.Funcs p.funcs :: T.ints inp :: xt)) [byK bb q b, .obox (.pointer (some ⟨bm, 0, none⟩)) (rS pv iv most m.fuel 0 m)] (.tup [.t (.int (haH (lvC p inp most n fn args b m).1)), .t (.int (lvC p inp most n fn args b m).2.1)]) [.obox (byP bb b) (gC q.fn q.vars q.off q.res (hH (lvC p inp most n fn args b m).2.2.1) (nH (lvC p inp most n fn args b m).2.2.1) (xH (lvC p inp most n fn args b m).2.2.1) q.bp), .obox (.pointer (some ⟨bm, 0, none⟩)) (rS pv iv most (fuH (lvC p inp most n fn args b m).1 (lvC p inp most n fn args b m).2.2.2) (coH (lvC p inp most n fn args b m).1) (lvC p inp most n fn args b m).2.2.2)] := by
 obtain ⟨f, hfd⟩ : ∃ f, f = funcAt p fn := ⟨_, rfl⟩
 have hfm : f ∈ p.funcs := hfd ▸ Cc h0 h1'
 obtain ⟨g1, g2, g3, g4, hsh, g6⟩ := Dc hg hfm
 have hpa : atI (paramsL p) fn = f.params := hfd ▸ BM h0 h1'
 have hfa : p.funcs[fn.toNat]'(by omega) = f := by rw [hfd]; exact Ax (by omega)
 have hget : (p.funcs.map Func.tt)[fn.toNat]? = some f.tt := by rw [EK _ _ h0 h1', hfa]
 have hal2 : args.length ≤ f.vars.toNat := by omega
 have hfo : f.ok 1048576 := hp.1.2 f hfm
 have hBu := Gz bm pv iv most m (pv :: iv :: xv) (T.Funcs p.funcs :: T.ints inp :: xt) (by omega)
 obtain ⟨co, hco⟩ : ∃ co : Int, co = if m.fuel = 0 then 5 else 0 := ⟨_, rfl⟩
 rw [← hco] at hBu;refine Proc.intro tys Try.func65 Z Z (N := 157) [100, 101] 99 ([(0, .t (.v (.pointer (some ⟨bm, 0, none⟩)))), (1, .t (.int fn)), (2, .t (T.ints args)), (3, .t (.v (byP bb b)))]) ([(100, byK bb q b), (101, .obox (.pointer (some ⟨bm, 0, none⟩)) (rS pv iv most m.fuel 0 m)), (99, .ro (pv :: iv :: xv) (T.Funcs p.funcs :: T.ints inp :: xt))]) Z Z Z Z (by decide) (by decide) Z (fun w0 G F0 => ?_);refine nY Z (AQ (Le.openNew (u := 101) 1101 Z Z Z Z Z) (nY Z (AQ (Le.named (t := 0) (u := 101) 1101 Z Z) (nY Z (sG (eK 2 Z (nB (sQ (sQ (Aj BE (by kernel_rfl) (evQ ?_)))))))))));refine BI rfl Z (AA Z) Z Z Z (evQ ?_);refine evQ ?_;refine AR Z (evQ ?_);refine E5 (v := false) (by simp [hz]) ?_;refine evQ ?_
 iterate 9 (refine KR rfl rfl rfl rfl rfl (AA rfl) ?_)
 refine evQ ?_;refine A7 (tN (A8 Z (AC (tN (sQ (sG (eZ Z (WO_le (Le.close (u := 101) 1101 Z Z Z) (nZ Z ?_)))))))));refine cP [101] (hm := (hBu)) (k := ?_);refine nZ Z (WO_le (Le.open (u := 101) 1101 Z Z Z Z) (nZ Z (WO_le (Le.known (t := 38) false Z (by simp [hz])) ?_)));refine eZ Z (nB (Ao Z (sG (eK 2 Z (nB (AQ (Le.close (u := 101) 1101 Z Z Z) (nY Z (rT (tR ?_)))))))));refine eP [_, _] ?_ ?_
 ·exact Fu (by rw [lc_0 hz] <;> rfl) (by rw [lc_0 hz] <;> rfl)
 ·(rw [if_pos hz] at hco; subst hco; rw [lc_0 hz]; rfl)
theorem M9 (p : Prog) (inp : List Int) (most n : Nat) (hI : ∀ k, k < n → Po p inp most k (lev p inp most k) ∧ Pe p inp most k (lev p inp most k)) (hg : AS p = true) (hp : p.ok 1048576) (hi : inp.length ≤ 1048576) (hmost : most ≤ 1048576) (fn : Int) (args : List Int) (b : Option By) (m : Ms) (bm bb : Nat) (q : Kp) (pv iv : Value) (xv : List Value) (xt : List T) (h0 : 0 ≤ fn) (h1' : fn < p.funcs.length) (hal : args.length = (atI (paramsL p) fn).toNat) (hu : m.used ≤ inp.length) (hdm : m.deep ≤ most) (hn : m.fuel ≤ n) (hfz : m.fuel ≠ 0) (hn2 : m.fuel ≤ 1048576) (hti : m.trace.length + m.fuel ≤ 1048576) : Proc Try.prog 65 [.t (.v (.pointer (some ⟨bm, 0, none⟩))), .t (.int fn), .t (T.ints args), .t (.v (byP bb b))] ((pv :: iv :: xv)) ((T.Funcs p.funcs :: T.ints inp :: xt)) [byK bb q b, .obox (.pointer (some ⟨bm, 0, none⟩)) (rS pv iv most m.fuel 0 m)] (.tup [.t (.int (haH (lvC p inp most n fn args b m).1)), .t (.int (lvC p inp most n fn args b m).2.1)]) [.obox (byP bb b) (gC q.fn q.vars q.off q.res (hH (lvC p inp most n fn args b m).2.2.1) (nH (lvC p inp most n fn args b m).2.2.1) (xH (lvC p inp most n fn args b m).2.2.1) q.bp), .obox (.pointer (some ⟨bm, 0, none⟩)) (rS pv iv most (fuH (lvC p inp most n fn args b m).1 (lvC p inp most n fn args b m).2.2.2) (coH (lvC p inp most n fn args b m).1) (lvC p inp most n fn args b m).2.2.2)] := by
 obtain ⟨f, hfd⟩ : ∃ f, f = funcAt p fn := ⟨_, rfl⟩
 have hfm : f ∈ p.funcs := hfd ▸ Cc h0 h1'
 obtain ⟨g1, g2, g3, g4, hsh, g6⟩ := Dc hg hfm
 have hpa : atI (paramsL p) fn = f.params := hfd ▸ BM h0 h1'
 have hfa : p.funcs[fn.toNat]'(by omega) = f := by rw [hfd]; exact Ax (by omega)
 have hget : (p.funcs.map Func.tt)[fn.toNat]? = some f.tt := by rw [EK _ _ h0 h1', hfa]
 have hal2 : args.length ≤ f.vars.toNat := by omega
 have hfo : f.ok 1048576 := hp.1.2 f hfm
 have hBu := Gz bm pv iv most m (pv :: iv :: xv) (T.Funcs p.funcs :: T.ints inp :: xt) (by omega)
 obtain ⟨co, hco⟩ : ∃ co : Int, co = if m.fuel = 0 then 5 else 0 := ⟨_, rfl⟩
 rw [← hco] at hBu;refine Proc.intro tys Try.func65 Z Z (N := 157) [100, 101] 99 ([(0, .t (.v (.pointer (some ⟨bm, 0, none⟩)))), (1, .t (.int fn)), (2, .t (T.ints args)), (3, .t (.v (byP bb b)))]) ([(100, byK bb q b), (101, .obox (.pointer (some ⟨bm, 0, none⟩)) (rS pv iv most m.fuel 0 m)), (99, .ro (pv :: iv :: xv) (T.Funcs p.funcs :: T.ints inp :: xt))]) Z Z Z Z (by decide) (by decide) Z (fun w0 G F0 => ?_);refine nY Z (AQ (Le.openNew (u := 101) 1101 Z Z Z Z Z) (nY Z (AQ (Le.named (t := 0) (u := 101) 1101 Z Z) (nY Z (sG (eK 2 Z (nB (sQ (sQ (Aj BE (by kernel_rfl) (evQ ?_)))))))))));refine BI rfl Z (AA Z) Z Z Z (evQ ?_);refine evQ ?_;refine AR Z (evQ ?_);refine E5 (v := true) (by simp; omega) ?_;refine evQ ?_;refine Au Z Z Z Z (AA Z) (evQ ?_);refine Au Z Z Z Z (AA Z) (BI rfl Z (AA Z) Z Z Z (Au Z Z Z Z (AA Z) (evQ ?_)));refine Au Z Z Z Z (AA Z) (evQ ?_);refine AR Z (Au Z Z Z Z (AA Z) (evQ ?_));refine Au Z Z Z Z (AA Z) (BI rfl Z (AA Z) Z Z Z (Au Z Z Z Z (AA Z) (evQ ?_)));refine Au Z Z Z Z (AA Z) (evQ ?_);refine Au Z Z Z Z (AA Z) (evQ ?_);refine evQ ?_;refine AR Z (A7 (tN ?_));refine AB Z (fun h1 => ?_) (fun h1 => ?_)
 ·
  simp only [HS] at h1;refine sQ ?_
  obtain ⟨k, hk⟩ : ∃ k, n = k + 1 := ⟨n - 1, by omega⟩
  subst hk
  have hout : lvC p inp most (k + 1) fn args b m = (4, 0, b, A6 m) := ca_d hfz (by omega)
  refine rG (eZ Z (AK rfl Z (AA Z) Z Z Z (eK 2 Z (sT Z (nZ Z (nA (eK 2 Z (nB (AQ (Le.close (u := 101) 1101 Z Z Z) (nY Z (rT (tR ?_))))))))))));refine eP [_, _] ?_ ?_
  ·first
   | exact Fu (by first | (rw [hout]; done) | (rw [hout]; rfl)) (by first | (rw [hout]; done) | (rw [hout]; rfl))
  ·first
   | (rw [hout]; have hq : fuH 4 (A6 m) = m.fuel := (by show ((m.fuel - 1 : Nat) : Int) + 1 = m.fuel; omega); simp only [hq]; rfl)
 simp only [HS] at h1;refine AC (tN (sQ (sG (eZ Z (WO_le (Le.close (u := 101) 1101 Z Z Z) (nZ Z ?_))))));refine cP [101] (hm := (hBu)) (k := ?_);refine nZ Z (WO_le (Le.open (u := 101) 1101 Z Z Z Z) (nZ Z (WO_le (Le.known (t := 38) true Z (by simp [hfz])) ?_)));refine eZ Z (nB (A8 Z (AC (tN (sQ ?_)))))
 have hdz : m.deep ≠ most := by omega
 have hbd : (A6 m).deep = m.deep := rfl
 rw [if_neg hfz] at hco;subst hco
 obtain ⟨k, hk⟩ : ∃ k, n = k + 1 := ⟨n - 1, by omega⟩
 subst hk
 have hL := Hm (inp := inp) hg most k
 obtain ⟨hIc, hIs⟩ := hI k (by omega)
 refine rG (eZ Z (AK rfl Z (AA Z) Z Z Z (eK 2 Z (evI ?_))));refine AK rfl Z (AA Z) Z Z Z (kZ [0,1,2,3,8,9,44,45] Z (eZ Z (sT Z (nZ Z (nA (eK 2 Z (AK rfl Z (AA Z) Z Z Z (eK 2 Z (KJ tys 99 0 Z Z (AA Z) Z Z Z Z (eZ Z (kZ [0,1,2,3,8,9,47,52,53] Z ?_)))))))))));refine iX (h5 := h0) (h6 := hget) (k := ?_);refine eK 2 Z ?_;refine RH tys (T.int 0) Z Z (AA Z) Z Z Z Z Z (by repeat (first | exact AbsL.nil' | refine AbsL.v' ?_ | refine AbsL.none' ?_)) Z (by omega) (by omega) (by decide) ?_;refine nZ Z (nZ Z (eZ Z (AH tys Z Z (AA Z) Z Z Z (by kernel_rfl) Z Z Z Z Z Z (AV Z Z (AA Z) Z Z (nZ Z (eZ Z (nB (sQ (AQ (Le.nilBox (u := 60) (j := 3) 1 Z Z) (nY Z ?_))))))))));refine Sc (u := 60) (pid := 1060) Z Z (fun bc => ?_);refine nY Z (AQ (Le.eqK (id := 57) Z (k' := .L 1 ((List.replicate f.vars.toNat (0 : Int)).map T.int)) (by rw [List.map_replicate])) ?_);refine nY Z (kY [0,1,2,8,9,10] Z (rG (eZ Z (AK rfl Z (AA Z) Z Z Z (eK 3 Z (RJ (e := 3) Z Z (AA Z) Z (by kernel_rfl) (by kernel_rfl) Z Z (by simp) Z (by simp; omega) ?_))))));refine nZ Z (WO_le (Le.gatherBox (u := 60) (j := 1) (id := 57) Z Z Z (by simp; omega) Z) ?_);refine nZ Z (WO_le (Le.eqK (id := 60) Z (k' := .box (gC fn (setL f.vars.toNat args) [] 0 0 0 false (byP bb b))) (by rw [Sn (by simp; omega)]; rfl)) ?_);refine nZ Z (nB (sQ ?_))
 have hso := I4 (p := p) (inp := inp) (f := f) (args := args) (b := b) (m := m) hal2 hu
 have hsf : (startS f args b m).m.fuel = m.fuel - 1 := rfl
 have hst : (startS f args b m).m.trace.length = m.trace.length := rfl
 have hsl : (startS f args b m).off.length = 0 := rfl
 have hsd : (startS f args b m).m.deep = m.deep + 1 := rfl
 have hB := Dw p inp most k (lev p inp most k) hL hIs fn f h0 h1' hfd hfo.2.1.1 f.body (IZ hsh) hfo.1 (startS f args b m) hso (by omega) (by omega) (by omega) (by omega) (by omega) bm bc bb q pv iv xv xt
 have hbo := Cf (hL.stmt _ hfm) (IZ hsh) hso
 change Sx.to p inp f (blS (lev p inp most k) f f.body (startS f args b m)).1 _ (blS (lev p inp most k) f f.body (startS f args b m)).2.2 at hbo
 obtain ⟨R, hR⟩ : ∃ R, R = blS (lev p inp most k) f f.body (startS f args b m) := ⟨_, rfl⟩
 rw [← hR] at hB hbo
 obtain ⟨fu1, hfu1⟩ : ∃ fu1, fu1 = fuH R.1 R.2.2.m := ⟨_, rfl⟩
 obtain ⟨co1, hco1⟩ : ∃ co1, co1 = coH R.1 := ⟨_, rfl⟩
 obtain ⟨e0, he0⟩ : ∃ e0, e0 = haH R.1 := ⟨_, rfl⟩
 rw [← hfu1, ← hco1, ← he0] at hB
 have hR0 := hbo.h0
 have hR5 := hbo.h5
 have hf2 : R.2.2.m.fuel ≤ m.fuel - 1 := hbo.le.1
 have ht2 : R.2.2.m.trace.length + R.2.2.m.fuel ≤ m.trace.length + (m.fuel - 1) := hbo.le.2.1
 have ho2 : R.2.2.off.length + R.2.2.m.fuel ≤ 0 + (m.fuel - 1) := hbo.offl
 refine rG (eK 3 Z (kZ [0,1,8,9,10,68,69,70] Z (AK rfl Z (AA Z) Z Z Z (eK 2 Z (KJ tys 99 0 Z Z (AA Z) Z Z Z Z (eZ Z ?_))))));refine iX (h5 := h0) (h6 := hget) (k := ?_);refine eK 2 Z (WO_le (Le.close (u := 101) 1101 Z Z Z) (nZ Z (WO_le (Le.close (u := 60) 1060 Z Z Z) (nZ Z ?_))));refine cP [101,60,100] (hm := (hB)) (k := ?_);refine nZ Z (WO_le (Le.open (u := 101) 1101 Z Z Z Z) (nZ Z (WO_le (Le.open (u := 60) 1060 Z Z Z Z) (nZ Z (kZ [0,8,9,10,79] Z (eZ Z (WO_evF tys Z Z (AA Z) (d := .t _) Z (nZ Z (WO_evF tys Z Z (AA Z) (d := .t _) Z (nZ Z (eK 2 Z (nB (sQ (sG (eK 2 Z ?_)))))))))))))));refine nB ?_;refine AB Z (fun h2 => ?_) (fun h2 => ?_)
 ·
  simp only [HS] at h2;refine sQ (kY [0,8,9,10,11,12] Z (rG (eK 2 Z (nB (AQ (Le.close (u := 101) 1101 Z Z Z) (nY Z (rT (tR ?_))))))));refine eP [_, _] ?_ ?_
  ·first
   | (subst hfu1 hco1; have hr4 := Qq (he0.symm.trans (by assumption)); have hout : lvC p inp most (k + 1) fn args b m = _ := ca_e hfz hdz hfd hR hr4; exact Fu (by rw [hout]; show 4 = haH R.1; unfold haH; rw [if_pos hr4]) (by rw [hout]))
  ·first
   | (subst hfu1 hco1; have hr4 := Qq (he0.symm.trans (by assumption)); have hout : lvC p inp most (k + 1) fn args b m = _ := ca_e hfz hdz hfd hR hr4; rw [hout]; rfl)
 simp only [HS] at h2;refine AC (tN (sQ (sQ ?_)))
 have hr4 : ¬ 4 ≤ R.1 := RY (by rw [← he0]; assumption)
 rw [SC (by omega)] at he0;rw [Jz (by omega)] at hfu1;rw [J9 (by omega)] at hco1;subst hfu1 hco1 he0
 have hd2 : R.2.2.m.deep = m.deep + 1 := hbo.deep (by omega)
 have hes := O4 (v := R.2.1) hR0 (by omega)
 refine kY [0,8,9,10,11,12] Z (rG (eK 2 Z (nB ?_)));refine A4 (α := Int) [0, 8, 9, 10, 12] [60, 99, 100, 101, 1101, 1060] (fun x => [(11, .t (.int x))]) (fun x => []) (fun x => x = (endS R.1 R.2.1).how) ?_ (fun e11 hx => ?_)
 ·
  refine AB Z (fun h3 => ?_) (fun h3 => ?_)
  ·
   simp only [HS] at h3;refine rG (eZ Z (oN (jQ _ ?_)))
   simp only [endS]; split <;> omega
  simp only [HS] at h3;refine AC (jQ _ ?_)
  simp only [endS]; split <;> omega
 have he11 := hx
 refine tN (sQ ?_);subst he11
 have hEn := MF bc (endS R.1 R.2.1).how R.2.1 fn R.2.2.vars R.2.2.off R.2.2.res 0 0 false (byP bb b) (pv :: iv :: xv) (T.Funcs p.funcs :: T.ints inp :: xt)
 rw [show (if (endS R.1 R.2.1).how = 2 then R.2.1 else 0) = (endS R.1 R.2.1).pan from by grind [endS], show (or false (decide ((endS R.1 R.2.1).how = 3))) = (endS R.1 R.2.1).exd from by grind [endS]] at hEn;refine kY [0,8,9,10,11,12] Z (rG (eK 3 Z (WO_le (Le.close (u := 60) 1060 Z Z Z) (nZ Z ?_))));refine cP [60] (hm := (hEn)) (k := ?_);refine nZ Z (WO_le (Le.open (u := 60) 1060 Z Z Z Z) (nZ Z (nB (sQ (AD ?_)))));refine lK (α := List Int × Blk × Blk) [0, 10] [99, 100, 1101, 1060] (fun x => []) (fun x => [(101, (x.2.1)), (60, (x.2.2))]) (fun x => OfI inp (lev p inp most k) R.2.2.off (endS R.1 R.2.1) R.2.2.m pv iv most fn R.2.2.vars R.2.2.res (byP bb b) (x.1) (x.2.1) (x.2.2)) (fun x => Int.toNat ((x.1).length)) (R.2.2.off, .box (rS pv iv most R.2.2.m.fuel 0 R.2.2.m), .box (gC fn R.2.2.vars R.2.2.off R.2.2.res (endS R.1 R.2.1).how (endS R.1 R.2.1).pan (endS R.1 R.2.1).exd (byP bb b))) ?_ (fun x hx => ?_)
 ·exact ⟨_, _, fun x hx => hx, S2 _, rfl, hes.1, hes.2, ⟨S2 _, S2 _, hbo.ok.used⟩, rfl, rfl, rfl⟩
 obtain ⟨l, B1, B2⟩ := x
 obtain ⟨b1, m1, hin, hlen, hex, hb1, hb2, hle, hd1, hB1, hB2⟩ := hx
 dsimp only at hin hlen hex hb1 hb2 hle hd1 hB1 hB2 ⊢;subst hB1 hB2;refine nY Z (sQ (sQ (AQ (Le.adoptBoxI (u := 60) (j := 3) (id := 192) Z Z Z) (nY Z (rG (eZ Z (AK rfl Z (AA Z) Z Z Z (eK 2 Z (evE ?_)))))))));refine eZ Z (nB ?_);refine AB Z (fun h3 => ?_) (fun h3 => ?_)
 ·
  simp only [HS] at h3;refine AC (tN (AD (sQ ?_)))
  have hl0 : 0 < (l.length : Int) := by omega
  have hf3 : m1.fuel ≤ R.2.2.m.fuel := hle.1
  have ht3 : m1.trace.length + m1.fuel ≤ R.2.2.m.trace.length + R.2.2.m.fuel := hle.2.1
  obtain ⟨q0, q1, q2⟩ := hbo.ok.off (l[((l.length : Int) - 1).toNat]'(by omega)) (hin _ (Ss _))
  have hto1 := hL.call (l[((l.length : Int) - 1).toNat]'(by omega)) [] (some b1) m1 q0 q1 (by rw [q2]; rfl) hle.2.2
  have hCa := hIc (l[((l.length : Int) - 1).toNat]'(by omega)) [] (some b1) m1 bm bc ⟨fn, R.2.2.vars, l.take ((l.length : Int) - 1).toNat, R.2.2.res, byP bb b⟩ pv iv xv xt q0 q1 (by rw [q2]; rfl) hle.2.2 (by omega) (by omega) (by omega) (by omega)
  obtain ⟨R1, hR1⟩ : ∃ R1, R1 = (lev p inp most k).call (l[((l.length : Int) - 1).toNat]'(by omega)) [] (some b1) m1 := ⟨_, rfl⟩
  rw [← hR1] at hCa hto1
  obtain ⟨c1, hc1⟩ : ∃ c1, R1.2.2.1 = some c1 := by have := hto1.by'; cases h : R1.2.2.1 with | none => rw [h] at this; cases this | some c1 => exact ⟨c1, rfl⟩
  rw [hc1] at hCa
  have hh1 := hto1.h1
  have hh5 := hto1.h5
  obtain ⟨e1, he1⟩ : ∃ e1, e1 = haH R1.1 := ⟨_, rfl⟩
  rw [← he1] at hCa;refine rG (eZ Z (AK rfl Z (AA Z) Z Z Z (eZ Z (kZ [0,10,90,91,92,93,94,95,96,97,98] Z (eZ Z (evE ?_))))));refine evI ?_;refine eZ Z (nA (eZ Z (AK rfl Z (AA Z) Z Z Z (eK 3 Z (kZ [0,10,13,90,91,92,93,94,95,96,97,98,99,100,101,102,103,104,105,106] Z (Ae tys Z Z (AA Z) Z Z Z Z Z Z Z Z (by omega) (by omega) (Al tys Z Z (AA Z) Z Z Z Z (D1 _ _ (by omega) (by omega)) Z (eZ Z (nA (eK 2 Z (AK rfl Z (AA Z) Z Z Z (eK 3 Z (kZ [0,10,13,14,90,91,92,93,94,95,96,97,98,99,100,101,102,103,104,105,106,107,108,109,110,111,112,113,114] Z (Dg tys Z Z (AA Z) Z Z Z Z Z Z Z Z Z (by omega) (by omega) (by omega) (AK rfl Z (AA Z) Z Z Z ?_)))))))))))))));refine eZ Z (sT Z (nZ Z (nB (sQ (AQ (Le.gatherBox (u := 60) (j := 3) (id := 192) Z Z Z (by first | (simp; done) | (simp; omega)) Z) ?_)))));refine nY Z (AQ (Le.eqK (id := 60) Z (k' := .box (gC fn R.2.2.vars (l.take ((l.length : Int) - 1).toNat) R.2.2.res b1.how b1.pan b1.exd (byP bb b))) (by rw [← List.map_take]; rfl)) ?_);refine nY Z (rG (eK 3 Z (WO_le (Le.close (u := 60) 1060 Z Z Z) (nZ Z (WO_le (Le.close (u := 101) 1101 Z Z Z) (nZ Z ?_))))));refine cP [60,101] (hm := (hCa)) (k := ?_);refine nZ Z (WO_le (Le.open (u := 60) 1060 Z Z Z Z) (nZ Z (WO_le (Le.open (u := 101) 1101 Z Z Z Z) (nZ Z (eZ Z (kZ [0,10,13,14,90,91,92,93,94,95,96,97,98,99,100,101,102,103,104,105,106,107,108,109,110,111,112,113,114,115,116,117,118,119,120,121,122] Z (WO_evF tys Z Z (AA Z) (d := .t _) Z (nZ Z (WO_evF tys Z Z (AA Z) (d := .t _) Z (nZ Z (eK 2 Z (nB (sQ (sG (eK 2 Z ?_)))))))))))))));refine nB ?_;refine AB Z (fun h4 => ?_) (fun h4 => ?_)
  ·
   simp only [HS] at h4;refine sG (eK 2 Z (nB (AQ (Le.close (u := 101) 1101 Z Z Z) (nY Z (rT (tR (bR (AP (bR (tR ?_))))))))));refine eP [_, _] ?_ ?_
   ·first
    | (have hr5 := Qq (he1.symm.trans (by assumption)); have hout : lvC p inp most (k + 1) fn args b m = _ := ca_o hfz hdz hfd hR hr4 (Lq hl0 hex hR1 hc1 hr5) hr5; exact Fu (by rw [hout]; show 4 = haH R1.1; unfold haH; rw [if_pos hr5]) (by rw [hout]))
   ·first
    | (have hr5 := Qq (he1.symm.trans (by assumption)); have hout : lvC p inp most (k + 1) fn args b m = _ := ca_o hfz hdz hfd hR hr4 (Lq hl0 hex hR1 hc1 hr5) hr5; rw [hout]; rfl)
  simp only [HS] at h4;refine AC (tN (sQ ?_))
  have hr5 : ¬ 4 ≤ R1.1 := RY (by rw [← he1]; assumption)
  rw [SC (by omega)] at he1
  have hEn2 := MF bc e1 R1.2.1 fn R.2.2.vars (l.take ((l.length : Int) - 1).toNat) R.2.2.res c1.how c1.pan c1.exd (byP bb b) (pv :: iv :: xv) (T.Funcs p.funcs :: T.ints inp :: xt)
  refine rG (eK 2 Z (nB ?_));refine AB Z (fun h5 => ?_) (fun h5 => ?_)
  ·
   simp only [HS] at h5;refine kY [0,10,13,14,15,16,90,91,92,93,94,95,96,97,98,99,100,101,102,103,104,105,106,107,108,109,110,111,112,113,114,115,116,117,118,119,120,121,122,123,124,125,126,127,128] Z (rG (eK 3 Z (WO_le (Le.close (u := 60) 1060 Z Z Z) (nZ Z ?_))));refine cP [60] (hm := (hEn2)) (k := ?_);refine nZ Z (WO_le (Le.open (u := 60) 1060 Z Z Z Z) (nZ Z (oN (bN ?_))));refine lQ ((l.take ((l.length : Int) - 1).toNat), _, _) ?_ ?_
   ·dsimp only
    subst he1; first | exact ofI_next hl0 hin hlen hex hb1 hb2 hle hd1 hR1 hto1 hc1 hr5 rfl rfl (by rw [if_pos (show R1.1 = 1 from by omega)]; rfl) | exact ofI_next hl0 hin hlen hex hb1 hb2 hle hd1 hR1 hto1 hc1 hr5 rfl rfl (by rw [if_neg (show ¬ R1.1 = 1 from by omega)]; rfl)
   ·(try dsimp only); simp only [Sq]; omega
  simp only [HS] at h5;refine AC (bN ?_);refine lQ ((l.take ((l.length : Int) - 1).toNat), _, _) ?_ ?_
  ·dsimp only
   subst he1; first | exact ofI_next hl0 hin hlen hex hb1 hb2 hle hd1 hR1 hto1 hc1 hr5 rfl rfl (by rw [if_pos (show R1.1 = 1 from by omega)]; rfl) | exact ofI_next hl0 hin hlen hex hb1 hb2 hle hd1 hR1 hto1 hc1 hr5 rfl rfl (by rw [if_neg (show ¬ R1.1 = 1 from by omega)]; rfl)
  ·(try dsimp only); simp only [Sq]; omega
 simp only [HS] at h3;refine AN (tE (AJ (AI (tN (sQ ?_)))))
 have hQ := R5 (by omega) hex
 have hout : lvC p inp most (k + 1) fn args b m = (b1.how, if b1.how = 2 then b1.pan else R.2.2.res, R.2.2.by', ⟨m1.used, m1.fuel, m1.deep - 1, m1.trace⟩) := ca_f hfz hdz hfd hR hr4 hQ (by show ¬ (4 : Int) ≤ 0; omega)
 have hdd : (m1.deep : Int) - 1 = ((m1.deep - 1 : Nat) : Int) := by omega
 refine rG (eZ Z (AK rfl Z (AA Z) Z Z Z (eZ Z (kZ [10,133,135] Z (eZ Z (evI ?_))))));refine AK rfl Z (AA Z) Z Z Z (eZ Z (sT Z (nZ Z (nB (sQ (sG (eZ Z (AK rfl Z (AA Z) Z Z Z (eK 2 Z (kZ [10,143] Z (eZ Z (nB ?_))))))))))));refine AB Z (fun h4 => ?_) (fun h4 => ?_)
 ·
  simp only [HS] at h4;refine sQ (Aj BE (by kernel_rfl) (evQ ?_));refine BI rfl Z (AA Z) Z Z Z (evQ ?_);refine evQ ?_;refine evQ ?_;refine AR Z (evQ ?_);refine A7 (tN (AQ (Le.close (u := 101) 1101 Z Z Z) (nY Z (rT (tR ?_)))));refine eP [_, _] ?_ ?_
  ·first
   | exact Fu (by rw [hout]; show 2 = haH b1.how; rw [show b1.how = 2 from by assumption]; rfl) (by rw [hout]; exact (if_pos (by assumption)).symm)
  ·first
   | (rw [hout]; simp only [Jz hb2, J9 hb2]; rw [hdd]; rfl)
 simp only [HS] at h4;refine AC (tN (sQ (Aj BE (by kernel_rfl) (evQ ?_))));refine BI rfl Z (AA Z) Z Z Z (evQ ?_);refine evQ ?_;refine evQ ?_;refine AR Z (BI rfl Z (AA Z) Z Z Z (evQ ?_));refine evQ ?_;refine evQ ?_;refine evQ ?_;refine A7 (tN (AQ (Le.close (u := 101) 1101 Z Z Z) (nY Z (rT ?_))));refine eP [_, _] ?_ ?_
 ·first
  | exact Fu (by rw [hout]; exact (SC hb2).symm) (by rw [hout]; exact (if_neg (by assumption)).symm)
 ·first
  | (rw [hout]; simp only [Jz hb2, J9 hb2]; rw [hdd]; rfl)
open Go.Eng
def Fn (p : Prog) (inp : List Int) (most fuel : Nat) : Int × Int × Option By × Ms := (lev p inp most fuel).call 0 [] none ⟨0, fuel, 0, []⟩
def R3 (h v : Int) : Int := if h = 1 then v else if h = 2 then v else 0
theorem CV {p : Prog} (hg : AS p = true) : (0 : Int) < p.funcs.length ∧ atI (paramsL p) 0 = 0 := by
 have h1 := AX hg
 refine ⟨by omega, ?_⟩;unfold AS at hg;simp only [Sl, decide_eq_true_eq] at hg;exact hg.2.2.1
theorem Ru {p : Prog} {inp : List Int} (hg : AS p = true) (most fuel : Nat) : Ms.to inp (Fn p inp most fuel).1 none (Fn p inp most fuel).2.2.1 ⟨0, fuel, 0, []⟩ (Fn p inp most fuel).2.2.2 :=
 (Hm hg most fuel).call 0 [] none ⟨0, fuel, 0, []⟩ (by omega) (CV hg).1 (by rw [(CV hg).2]; rfl) (Tm _)
theorem retO {a a' b b' c c' : Int} {t t' : List T} (h1 : a = a') (h2 : b = b') (h3 : t = t') (h4 : c = c') : [D.agg [D.t (T.v (Value.int .i64 a)), D.t (T.v (Value.int .i64 b)), D.own (T.list 1 t), D.t (T.v (Value.int .i64 c))]] = [D.agg [D.t (T.int a'), D.t (T.int b'), D.own (T.list 1 t'), D.t (T.int c')]] := by rw [h1, h2, h3, h4]
def Cq (p : Prog) (inp : List Int) (most : Int) : Bool := AS p && (decide ((inp.length : Int) ≤ 10) && (B7 inp (-2147483648) 2147483647 && decide (1 ≤ most ∧ most ≤ 12)))
open Go.Eng
theorem levI {p : Prog} {inp : List Int} {most : Nat} (hg : AS p = true) (hp : p.ok 1048576) (hi : inp.length ≤ 1048576) (hmost : most ≤ 1048576) (n : Nat) : Po p inp most n (lev p inp most n) ∧ Pe p inp most n (lev p inp most n) := by
 induction n using Nat.strongRecOn with
 | _ n hI =>
  constructor
  ·intro fn args b m bm bb q pv iv xv xt h0 h1 ha hu hd hn hn2 hti
   by_cases hz : m.fuel = 0
   ·exact NA p inp most n hI hg hp hi hmost fn args b m bm bb q pv iv xv xt h0 h1 ha hu hd hn hz hn2 hti
   ·exact M9 p inp most n hI hg hp hi hmost fn args b m bm bb q pv iv xv xt h0 h1 ha hu hd hn hz hn2 hti
  ·intro fn f t s bm bc bb q pv iv xv xt h0 h1 hfd ht hs hn hn2 hti hof hdm
   exact Nh p inp most n hI hg hp hi hmost fn f t s bm bc bb q pv iv xv xt h0 h1 hfd ht hs hn hn2 hti hof hdm
theorem haH_2 {h : Int} (e : haH h = 2) : h = 2 := by unfold haH at e; split at e <;> omega
theorem haH_3 {h : Int} (e : haH h = 3) : h = 3 := by unfold haH at e; split at e <;> omega
theorem Rf {h : Int} (h1 : 1 ≤ h) (a : ¬ haH h = 1) (b : ¬ haH h = 2) (c : ¬ haH h = 3) : 4 ≤ h ∧ coH h = h := by
 unfold haH at a b c
 by_cases h4 : 4 ≤ h
 ·exact ⟨h4, by unfold coH; rw [if_pos h4]⟩
 ·rw [if_neg h4] at a b c; omega
theorem Mf (p : Prog) (inp : List Int) (most fuel : Nat) (hg : AS p = true) (hp : p.ok 1048576) (hi : inp.length ≤ 1048576) (hmost : most ≤ 1048576) (hfu : fuel ≤ 1048576) : Fun Try.prog 38 [.t p.tt, .t (T.ints inp), .t (.int most), .t (.int fuel)] (A2 [.agg [.t (.int (Fn p inp most fuel).1), .t (.int (R3 (Fn p inp most fuel).1 (Fn p inp most fuel).2.1)), .own (T.ints (Fn p inp most fuel).2.2.2.trace), .t (.int (Fn p inp most fuel).2.2.2.used)]]) := by
 have hto := Ru (inp := inp) hg most fuel
 have hC := (levI (inp := inp) hg hp hi hmost fuel).1
 have hm := CV hg
 obtain ⟨R, hR⟩ : ∃ R, R = Fn p inp most fuel := ⟨_, rfl⟩
 rw [← hR] at hto ⊢
 have hr1 := hto.h1
 refine Fun.begin tys Try.func38 Z Z (N := 56) [(0, .t p.tt), (1, .t (T.ints inp)), (2, .t (.int most)), (3, .t (.int fuel))] Z Z (fun w0 G F0 => ?_);refine sG (AV Z Z (AA Z) Z Z (nZ Z (AF tys Z Z (AA Z) Z Z Z (nZ Z (nA (eZ Z ?_))))))
 try refine WO_le (Le.freeze (u := 12) rfl) ?_
 refine nZ Z (eK 3 Z (NK (pl := [(0, 1), (1, 1), (2, 1), (3, 1), (4, 1), (5, 4)]) tys Z Z (AA Z) Z Z Z (by kernel_rfl) Z Z Z Z Z (AV Z Z (AA Z) Z Z (nZ Z (eZ Z (kZ [8,9] Z (nB (sQ ?_))))))));refine KH (u := 17) (j := 0) 99 Z Z Z (fun pv => ?_);refine nY Z ?_;refine KH (u := 17) (j := 1) 98 Z Z Z (fun iv => ?_);refine nY Z (AQ (Le.roJoin 99 98 Z Z) (nY Z (AQ (Le.nilBox (u := 17) (j := 7) 1 Z Z) (nY Z ?_))));refine Sc (u := 17) (pid := 1017) Z Z (fun bm => ?_);refine nY Z (AQ (Le.noBox 150 (gC 0 [] [] 0 0 0 false (.pointer none)) Z) (nY Z ?_))
 have hCa := hC 0 [] none ⟨0, fuel, 0, []⟩ bm 0 ⟨0, [], [], 0, .pointer none⟩ pv iv [] [] (by omega) hm.1 (by rw [hm.2]; rfl) (Tm _) (Tm _) (S2 _) hfu (by simpa using hfu)
 rw [show (lev p inp most fuel).call 0 [] none ⟨0, fuel, 0, []⟩ = R from hR.symm] at hCa;refine rG (eZ Z (WO_le (Le.close (u := 17) 1017 Z Z Z) (nZ Z ?_)));refine cP [150,17] (hm := (hCa)) (k := ?_);refine nZ Z (WO_le (Le.open (u := 17) 1017 Z Z Z Z) (nZ Z (eZ Z (WO_evF tys Z Z (AA Z) (d := .t _) Z (nZ Z (WO_evF tys Z Z (AA Z) (d := .t _) Z (nZ Z (eK 2 Z (nB (sQ (sQ (kY [8,9,10,11] Z (rG (eZ Z (nB ?_)))))))))))))));refine AD (sG (eK 2 Z (nB ?_)));refine AB Z (fun h1 => ?_) (fun h1 => ?_)
 ·
  simp only [HS] at h1;refine rG (eK 3 Z (AK rfl Z (AA Z) Z Z Z (eK 2 Z (kZ [8,9,27,28,31] Z (sT Z (nZ Z (AK rfl Z (AA Z) Z Z Z (eK 2 Z (sT Z (nZ Z (oN (bN (tN (sQ (AQ (Le.adoptBox (u := 17) (j := 7) (id := 195) Z Z Z) ?_)))))))))))))));refine nY Z (rG (eZ Z (AK rfl Z (AA Z) Z Z Z (eK 2 Z ?_))))
  try refine WO_le (Le.freeze (u := 55) rfl) ?_
  refine nZ Z (kZ [8,55] Z (sT Z (nZ Z (WO_le (Le.gatherBox (u := 8) (j := 2) (id := 195) Z Z Z (by simp) Z) ?_))));refine nZ Z (nZ Z (nB (rT (eR ?_))))
  ·first
   | (have e := SD (by assumption); exact retO e.symm (by rw [R3, if_pos e]) (by simp [Sn]) rfl)
 simp only [HS] at h1;refine sG (eK 2 Z (nB ?_));refine AB Z (fun h2 => ?_) (fun h2 => ?_)
 ·
  simp only [HS] at h2;refine rG (eK 3 Z (AK rfl Z (AA Z) Z Z Z (kZ [8,9,38,39,40] Z (eK 2 Z (sT Z (nZ Z (AK rfl Z (AA Z) Z Z Z (eK 2 Z (sT Z (nZ Z (oN (bN (tN (sQ (AQ (Le.adoptBox (u := 17) (j := 7) (id := 195) Z Z Z) ?_)))))))))))))));refine nY Z (kY [8,9] Z (rG (eZ Z (AK rfl Z (AA Z) Z Z Z (eK 2 Z ?_)))))
  try refine WO_le (Le.freeze (u := 55) rfl) ?_
  refine nZ Z (sT Z (nZ Z (WO_le (Le.gatherBox (u := 8) (j := 2) (id := 195) Z Z Z (by simp) Z) ?_)));refine nZ Z (nZ Z (nB (rT (eR ?_))))
  ·first
   | (have e := haH_2 (by assumption); exact retO e.symm (by rw [R3, if_neg (by omega), if_pos e]) (by simp [Sn]) rfl)
 simp only [HS] at h2;refine sG (eK 2 Z (nB ?_));refine AB Z (fun h3 => ?_) (fun h3 => ?_)
 ·
  simp only [HS] at h3;refine kY [8,9] Z (rG (eZ Z (AK rfl Z (AA Z) Z Z Z (eK 2 Z (sT Z (nZ Z (oN (bN (tN (sQ (AQ (Le.adoptBox (u := 17) (j := 7) (id := 195) Z Z Z) (nY Z (rG (eZ Z (AK rfl Z (AA Z) Z Z Z ?_)))))))))))))));refine eK 2 Z ?_
  try refine WO_le (Le.freeze (u := 55) rfl) ?_
  refine nZ Z (kZ [8,55] Z (sT Z (nZ Z (WO_le (Le.gatherBox (u := 8) (j := 2) (id := 195) Z Z Z (by simp) Z) ?_))));refine nZ Z (nZ Z (nB (rT (eR ?_))))
  ·first
   | (have e := haH_3 (by assumption); exact retO e.symm (by rw [R3, if_neg (by omega), if_neg (by omega)]) (by simp [Sn]) rfl)
 simp only [HS] at h3;refine AC (bN (tN (sQ (AQ (Le.adoptBox (u := 17) (j := 7) (id := 195) Z Z Z) (nY Z (kY [8,9] Z (rG (eZ Z (AK rfl Z (AA Z) Z Z Z (eK 2 Z ?_))))))))))
 try refine WO_le (Le.freeze (u := 55) rfl) ?_
 refine nZ Z (sT Z (nZ Z (WO_le (Le.gatherBox (u := 8) (j := 2) (id := 195) Z Z Z (by simp) Z) ?_)));refine nZ Z (nZ Z (nB (rT (eR ?_))))
 ·first
  | exact retO (Rf hr1 (by assumption) (by assumption) (by assumption)).2 (by have h := (Rf hr1 (by assumption) (by assumption) (by assumption)).1; rw [R3, if_neg (by omega), if_neg (by omega)]) (by simp [Sn]) rfl
theorem LG (n : Int) : Fun Try.prog 63 [.t (.int n)] (A2 [.t (.bool (!decide (-2147483648 ≤ n ∧ n ≤ 2147483647)))]) := by
 refine Fun.begin tys Try.func63 Z Z (N := 6) [(0, .t (.int n))] Z Z (fun w0 G F0 => ?_);refine sG (eZ Z (nA (eZ Z (AM ?_))));refine ⟨_, Gp _, rfl, ?_⟩;refine eK 2 Z (nB (rT (eR ?_)))
 ·rfl
theorem CU {l : List Int} : (l.any fun n => !decide (-2147483648 ≤ n ∧ n ≤ 2147483647)) = !B7 l (-2147483648) 2147483647 := by
 rw [B7, List.not_all_eq_any_not]
theorem NE (p : Prog) (inp : List Int) (most : Int) (hp : p.ok 1048576) (hi : inp.length ≤ 1048576) : Fun Try.prog 36 [.t p.tt, .t (T.ints inp), .t (.int most)] (A2 [.t (.bool (Cq p inp most))]) := by
 refine Fun.begin tys Try.func36 Z Z (N := 23) [(0, .t p.tt), (1, .t (T.ints inp)), (2, .t (.int most))] Z Z (fun w0 G F0 => ?_);refine sG (AV Z Z (AA Z) Z Z (nZ Z (eZ Z (nA (eZ Z ?_)))))
 try refine WO_le (Le.freeze (u := 7) rfl) ?_
 refine nZ Z (AM ?_);refine ⟨_, DA p hp, rfl, ?_⟩;refine eZ Z ?_;refine gB (fun h1 => ?_) (fun h1 => ?_)
 ·
  simp only [HS] at h1;refine xK 4 Z (kZ [1,2,6,14] Z (xK 9 Z (kZ [6] Z (nB (rT (eR ?_))))))
  ·exact retB (by first | grind [Cq] | (rw [CU]; grind [Cq]))
 refine eZ Z (gY Z (evE ?_));refine xK 2 Z (kZ [1,2,6,13] Z (eZ Z ?_));refine gB (fun h2 => ?_) (fun h2 => ?_)
 ·
  simp only [HS] at h2;refine xK 8 Z (kZ [6] Z (nB (rT (eR ?_))))
  ·exact retB (by first | grind [Cq] | (rw [CU]; grind [Cq]))
 simp only [HS] at h2;refine eZ Z (gY Z (AM ?_));refine ⟨_, Af _ _ _, rfl, ?_⟩;refine eK 2 Z ?_;refine gB (fun h3 => ?_) (fun h3 => ?_)
 ·
  simp only [HS] at h3;refine xK 4 Z (kZ [6] Z (nB (rT (eR ?_))))
  ·exact retB (by first | grind [Cq] | (rw [CU]; grind [Cq]))
 simp only [HS] at h3;refine eZ Z (gY Z (AM ?_));refine ⟨_, Fz inp (fun n => !decide (-2147483648 ≤ n ∧ n ≤ 2147483647)) _ [] Z (by omega) (fun x _ => LG x), rfl, ?_⟩;refine xK 2 Z (kZ [6,22] Z (eZ Z (nB (rT (eR ?_)))))
 ·exact retB (by first | grind [Cq] | (rw [CU]; grind [Cq]))
open Go.Eng
theorem FS (l : List Int) (hl : l.length ≤ 1073741824) : Fun Try.prog 82 [.t (T.ints l)] (A2 [.own (T.ints l)]) := by
 refine Fun.begin tys Try.func82 Z Z (N := 8) [(0, .t (T.ints l))] Z Z (fun w0 G F0 => ?_);refine sG (eZ Z (nB (sQ (sG (eZ Z ?_)))));refine MR (e := 3) Z Z (AA Z) Z (by kernel_rfl) Z Z (fun b hb => ?_);refine nB ?_;refine AB Z (fun h1 => ?_) (fun h1 => ?_)
 ·
  refine sG (eZ Z (nB (AQ (Le.nilOwn (u := 2) 1 Z) (rT (tR (eR ?_))))))
  ·have e := List.map_eq_nil_iff.1 (hb h1)
   rw [e];rfl
 refine AC (tN (sG (bZ [] ?_)));refine nZ Z (eZ Z (AE tys Z Z (AA Z) Z Z Z Z Z (.own Z (by first | omega | (simp only [Sm]; omega))) Z (.read (N9 _)) (by decide) (by simp; omega) (by decide) Z ?_));refine nZ Z (eZ Z (nB (AQ (Le.gather (u := 2) (id := 5) Z Z (by simp)) ?_)));refine rT (eR ?_)
 ·show [D.own (.list 1 _)] = [D.own (.list 1 _)]
  simp only [Sy, Tp, Sk];rw [Sn (by simp)]
theorem Rx (l : List Tok) : ∀ x, x ∈ l.map Tok.tt → (T.cells x).length = 2 ∧ ∀ y, y ∈ T.cells x → ∃ v, y = .v v := by
 intro x hx
 obtain ⟨t, _, rfl⟩ := TE.1 hx
 refine ⟨rfl, fun y hy => ?_⟩
 have : T.cells (Tok.tt t) = [T.int t.op, T.int t.n] := rfl
 rw [this] at hy
 rcases Sw.1 hy with rfl | hy
 ·exact ⟨_, rfl⟩
 ·rw [S1] at hy; exact ⟨_, hy⟩
theorem KA (l : List Tok) (hl : l.length ≤ 1073741824) : Fun Try.prog 83 [.t (T.Toks l)] (A2 [.own (T.Toks l)]) := by
 refine Fun.begin tys Try.func83 Z Z (N := 8) [(0, .t (T.Toks l))] Z Z (fun w0 G F0 => ?_);refine sG (eZ Z (nB (sQ (sG (eZ Z ?_)))));refine MR (e := 69) Z Z (AA Z) Z (by kernel_rfl) Z Z (fun b hb => ?_);refine nB ?_;refine AB Z (fun h1 => ?_) (fun h1 => ?_)
 ·
  refine sG (eZ Z (nB (AQ (Le.nilOwn (u := 2) 2 Z) (rT (tR (eR ?_))))))
  ·have e := List.map_eq_nil_iff.1 (hb h1)
   rw [e];rfl
 refine AC (tN (sG (bZ [] ?_)));refine nZ Z (eZ Z (AE tys Z Z (AA Z) Z Z Z Z Z (.own Z (by first | omega | (simp only [Sm]; omega))) Z (.read (Rx _)) (by decide) (by simp; omega) (by decide) Z ?_));refine nZ Z (eZ Z (nB (AQ (Le.gather (u := 2) (id := 5) Z Z (by simp)) ?_)));refine rT (eR ?_)
 ·show [D.own (.list 2 _)] = [D.own (.list 2 _)]
  simp only [Sy, Tp, Sk];rw [Sn (by simp)]
theorem Ew (p : Prog) (hp : p.ok 1048576) : Fun Try.prog 48 [.t p.tt] (A2 [.agg [.own (T.Funcs p.funcs)]]) := by
  have hpl : p.funcs.length ≤ 1048576 := hp.1.1
  refine Fun.begin tys Try.func48 Z Z (N := 59) [(0, .t p.tt)] Z Z (fun w0 G F0 => ?_);refine sG (AV Z Z (AA Z) Z Z (nZ Z (AF tys Z Z (AA Z) Z Z Z (nZ Z (nA (AF tys Z Z (AA Z) Z Z Z (nZ Z (nB (sQ (sG (nZ Z (WO_le (Le.nilBox (u := 3) (j := 0) 4 Z Z) (nZ Z (WO_le (Le.adoptBox (u := 3) (j := 0) (id := 190) Z Z Z) (nZ Z ?_)))))))))))))));refine eK 2 Z (evE ?_);refine eZ Z (nB (AD ?_));refine lK (α := Int × Nat × List T) [2, 3, 10, 11] [2] (fun x => [(12, .t (.int (x.1)))]) (fun x => [(3, .box [.sl 190 0 (x.2.1)]), (190, .L 4 (x.2.2))]) (fun x => 0 ≤ (x.1) ∧ (x.1) ≤ p.funcs.length ∧ (x.2.1) = (x.2.2).length ∧ (x.2.2) = (p.funcs.take (x.1).toNat).map Func.tt) (fun x => Int.toNat (p.funcs.length - (x.1))) (0, 0, []) ?_ (fun x hx => ?_)
  · exact ⟨by omega, by omega, rfl, rfl⟩
  obtain ⟨k, m, xs⟩ := x
  obtain ⟨hk0, hk1, hm, hxs⟩ := hx
  dsimp only at hk0 hk1 hm hxs ⊢;refine nY Z (sG (eZ Z (nB (sQ ?_))));refine AB Z (fun h1 => ?_) (fun h1 => ?_)
  ·
    simp only [HS] at h1;refine AC (tN (sQ (AD (sG ?_))));refine iY (k := ?_)
    have hf := B5 hp (n := k.toNat) (by omega)
    have hl : (p.funcs[k.toNat]'(by omega)).stmts.length ≤ 1048576 := hf.2.1.1
    have hbl : (p.funcs[k.toNat]'(by omega)).body.length ≤ 1048576 := hf.1
    refine eZ Z ?_
    try refine WO_le (Le.freeze (u := 15) rfl) ?_
    refine nZ Z (AF tys Z Z (AA Z) Z Z Z (nZ Z (sT Z (nZ Z (nB (sQ (DF 9 BE Z (by kernel_rfl) (by kernel_rfl) (QG_ev tys Z Z (AA Z) Z (Cz Z ?_)))))))))
    iterate 5 (refine QG_ev tys rfl rfl (AA rfl) rfl ?_)
    refine Fj ?_;refine ⟨_, FS _ (by omega), rfl, ?_⟩;refine Cz Z (E7 tys Z Z (AA Z) Z Z Z (by kernel_rfl) Z Z Z Z Z Z (Im tys Z Z (AA Z) Z Z Z Z (AG ?_)));refine ⟨by kernel_rfl, ?_⟩;refine nZ Z (sT Z (nZ Z (nB (sQ (sG (nZ Z (WO_le (Le.nilBox (u := 6) (j := 3) 5 Z Z) (nZ Z (WO_le (Le.adoptBox (u := 6) (j := 3) (id := 180) Z Z Z) (nZ Z (eK 2 Z (evE ?_))))))))))));refine eZ Z (nB (AD ?_));refine lK (α := Int × Nat × List T) [2, 3, 6, 10, 11, 12, 25, 26] [2, 3, 190] (fun x => [(27, .t (.int (x.1)))]) (fun x => [(6, .box [.t (T.int (p.funcs[k.toNat]'(by omega)).params), .t (T.int (p.funcs[k.toNat]'(by omega)).vars), .own (T.ints (p.funcs[k.toNat]'(by omega)).body), .sl 180 0 (x.2.1)]), (180, .L 5 (x.2.2))]) (fun x => 0 ≤ (x.1) ∧ (x.1) ≤ (p.funcs[k.toNat]'(by omega)).stmts.length ∧ (x.2.1) = (x.2.2).length ∧ (x.2.2) = ((p.funcs[k.toNat]'(by omega)).stmts.take (x.1).toNat).map Stmt.tt) (fun x => Int.toNat ((p.funcs[k.toNat]'(by omega)).stmts.length - (x.1))) (0, 0, []) ?_ (fun x hx => ?_)
    · exact ⟨by omega, by omega, rfl, rfl⟩
    obtain ⟨j, m2, ys⟩ := x
    obtain ⟨hj0, hj1, hm2, hys⟩ := hx
    dsimp only at hj0 hj1 hm2 hys ⊢;refine nY Z (sG (eZ Z (nB (sQ ?_))));refine AB Z (fun h2 => ?_) (fun h2 => ?_)
    ·
      simp only [HS] at h2;refine AC (tN (sQ (AD (sG ?_))));refine iY (k := ?_)
      have hso := Bw hf (n := j.toNat) (by omega)
      refine eZ Z ?_
      try refine WO_le (Le.freeze (u := 30) rfl) ?_
      refine nZ Z (AF tys Z Z (AA Z) Z Z Z (nZ Z (sT Z (nZ Z (nB (DF 17 BE Z (by kernel_rfl) (by kernel_rfl) (QG_ev tys Z Z (AA Z) Z (Cz Z ?_))))))))
      iterate 6 (refine QG_ev tys rfl rfl (AA rfl) rfl ?_)
      refine Cz Z (QG_ev tys Z Z (AA Z) Z (Fj ?_));refine ⟨_, KA _ (by omega), rfl, ?_⟩;refine QG_ev tys Z Z (AA Z) Z (QG_ev tys Z Z (AA Z) Z (Fj ?_));refine ⟨_, FS _ (by omega), rfl, ?_⟩;refine QG_ev tys Z Z (AA Z) Z (Cz Z (QG_ev tys Z Z (AA Z) Z (Fj ?_)));refine ⟨_, FS _ (by omega), rfl, ?_⟩;refine E7 tys Z Z (AA Z) Z Z Z (by kernel_rfl) Z Z Z Z Z Z ?_;refine Dh tys [(((p.funcs[k.toNat]'(by omega)).stmts)[j.toNat]'(by omega)).tt] Z Z (AA Z) Z Z Z Z Z (AA Z) (by repeat (first | exact PartsOk.nil' | refine PartsOk.cons' rfl (by repeat (first | exact AbsL.nil' | refine AbsL.v' ?_ | refine AbsL.own' ?_ | refine AbsL.none' ?_)) Z ?_)) Z Z Z (by decide) ?_;refine AG ?_;refine ⟨by kernel_rfl, ?_⟩;refine nZ Z (WO_le (Le.adoptE (u := 47) 47 Z Z) (nZ Z (AE tys Z Z (AA Z) Z Z Z Z Z (.own Z (by first | omega | (simp only [Sm]; omega))) Z (.own Z (by first | decide | omega)) (by decide) (by simp only [Sq, Sp, List.length_nil]; rw [hys, Sk, Sq]; omega) (by decide) Z ?_)));refine nZ Z (eZ Z (sT Z (nZ Z (oN (bN (tN (rG (evI ?_))))))));refine eZ Z (oN ?_);refine lQ (_, _, _) ?_ ?_
      · dsimp only
        subst hm2;refine ⟨by omega, by omega, by simp, ?_⟩;rw [Sy, hys, BO hj0 (by omega), S5]
        all_goals rfl
      · (show Int.toNat _ < Int.toNat _); omega
    simp only [HS] at h2;refine AN (tE (AJ (AI (tN (rG (eK 2 Z (nZ Z (WO_le (Le.gatherBox (u := 6) (j := 3) (id := 180) Z Z Z (by omega) Z) (nZ Z (Ap tys Z Z (AA Z) Z Z Z Z Z Z (nZ Z (bZ [.agg [T.int (p.funcs[k.toNat]'(by omega)).params, T.int (p.funcs[k.toNat]'(by omega)).vars, T.ints (p.funcs[k.toNat]'(by omega)).body, .list 5 (ys.take m2)]] ?_))))))))))));refine nZ Z (AE tys Z Z (AA Z) Z Z Z Z Z (.own Z (by first | omega | (simp only [Sm]; omega))) Z (.own Z (by first | decide | omega)) (by decide) (by simp only [Sq, Sp, List.length_nil]; rw [hxs, Sk, Sq]; omega) (by decide) Z ?_);refine nZ Z (eZ Z (sT Z (nZ Z (oN (bN (tN (kY [2,3,6,10,11,12,25,26,27,28,51,52,53,54,55,56] Z (rG (evI ?_)))))))));refine eZ Z (oN ?_);refine lQ (_, _, _) ?_ ?_
    · dsimp only
      have e : (p.funcs[k.toNat]'(by omega)).tt = .agg [T.int (p.funcs[k.toNat]'(by omega)).params, T.int (p.funcs[k.toNat]'(by omega)).vars, T.ints (p.funcs[k.toNat]'(by omega)).body, .list 5 (ys.take m2)] := by
       rw [hm2, Sy, hys, A5 (l := (p.funcs[k.toNat]'(by omega)).stmts) (k := j) (by omega)]
       all_goals rfl
      subst hm;refine ⟨by omega, by omega, by simp, ?_⟩;rw [Sy, hxs, BO hk0 (by omega), S5, TA, List.map_nil, e]
      all_goals rfl
    · (show Int.toNat _ < Int.toNat _); omega
  simp only [HS] at h1;refine AN (tE (AJ (AI (tN (sG (nZ Z (WO_le (Le.gatherBox (u := 3) (j := 0) (id := 190) Z Z Z (by omega) Z) (nZ Z (Ap tys Z Z (AA Z) Z Z Z Z Z Z (nZ Z (sT Z (nZ Z (nB (rT (eR ?_)))))))))))))))
  · rw [hm, Sy, hxs, A5 (by omega)]
    all_goals rfl
open Go.Eng
def run (m : Int) (g : Nat) : List Int := (List.range g).map fun i : Nat => m + i
theorem H7 (m : Int) (g : Nat) : (run m g).length = g := by simp [run]
theorem La (m : Int) (g : Nat) : run m (g + 1) = run m g ++ [m + g] := by simp [run, List.range_succ]
theorem mem_run {m x : Int} {g : Nat} : x ∈ run m g ↔ m ≤ x ∧ x < m + g := by
 simp only [run, TE, TP]
 constructor
 ·rintro ⟨i, hi, rfl⟩; omega
 ·intro h; exact ⟨(x - m).toNat, by omega, by omega⟩
theorem Rt (m : Int) (g h : Nat) : run m (g + h) = run m g ++ run (m + g) h := by
 induction h with
 | zero => simp [run]
 | succ h ih => rw [← Ts, La, ih, La, S4]; congr 3; simp; omega
theorem N0 {m : Int} {g : Nat} {a b : List Int} (h : run m g = a ++ b) : a = run m a.length ∧ b = run (m + a.length) b.length := by
 have hl := congrArg List.length h
 rw [H7, Sm] at hl;rw [hl, Rt] at h;exact ⟨(List.append_inj_left h (by rw [H7])).symm, (List.append_inj_right h (by rw [H7])).symm⟩
theorem Px (N : Nat) : Bs N = run 0 N := by simp [Bs, run]
theorem QX {N : Int} {kids : Int → List Int × List Int} (hd : Bm N kids) {b : List Int} (hb : inB N 0 b) (m : Int) (hm : m ∈ ord N kids b) : ∃ l r, ord N kids b = l ++ ord N kids [m] ++ r :=
 Ej hd (p := fun b o => m ∈ o → ∃ l r, o = l ++ ord N kids [m] ++ r) (fun h => by cases h) (fun n b h1 h2 _ i1 i2 i3 hm => by
  simp only [TZ, Sw, So] at hm ⊢
  rcases hm with rfl | (hm | hm) | hm
  ·refine ⟨[], ord N kids b, ?_⟩
   rw [Ek hd (by intro x hx; rw [S1] at hx; subst hx; exact ⟨h1, h2⟩), FL]
   simp
  ·obtain ⟨l, r, e⟩ := i1 hm; exact ⟨n :: l, r ++ (ord N kids (kids n).2 ++ ord N kids b), by rw [e]; simp⟩
  ·obtain ⟨l, r, e⟩ := i2 hm; exact ⟨n :: (ord N kids (kids n).1 ++ l), r ++ ord N kids b, by rw [e]; simp⟩
  ·obtain ⟨l, r, e⟩ := i3 hm; exact ⟨n :: (ord N kids (kids n).1 ++ (ord N kids (kids n).2 ++ l)), r, by rw [e]; simp⟩) hb hm
theorem Ha {f : Func} (h : Ag f = true) : Bm f.stmts.length (kids f.stmts) ∧ inB f.stmts.length 0 f.body ∧ ord f.stmts.length (kids f.stmts) f.body = Bs f.stmts.length := by
 unfold Ag at h;simp only [Sl] at h;exact shapeB_iff.1 h.2.2.1
def HL (f : Func) (s : Int) : Nat := (BK f [s]).length
theorem Qs {f : Func} (h : Ag f = true) {s : Int} (h0 : 0 ≤ s) (h1 : s < f.stmts.length) : BK f [s] = run s (HL f s) ∧ 1 ≤ HL f s ∧ s + HL f s ≤ f.stmts.length := by
 obtain ⟨hd, hb, ho⟩ := Ha h
 have hm : s ∈ ord f.stmts.length (kids f.stmts) f.body := by rw [ho]; exact mem_upto.2 ⟨h0, h1⟩
 obtain ⟨l, r, e⟩ := QX hd hb s hm
 rw [ho, Px, S4] at e
 have hs : BK f [s] = s :: (BK f (kids f.stmts s).1 ++ BK f (kids f.stmts s).2) := by
  unfold BK;rw [Ek hd (by intro x hx; rw [S1] at hx; subst hx; exact ⟨h0, h1⟩), FL]
  simp
 have hl := congrArg List.length e
 rw [H7, Sm, Sm] at hl
 obtain ⟨e1, e2⟩ := N0 e
 obtain ⟨e3, e4⟩ := N0 e2.symm
 have e5 : BK f [s] = run (0 + (l.length : Int)) (HL f s) := e3
 have hg : 1 ≤ HL f s := by unfold HL; rw [hs]; simp
 have e6 : s = 0 + (l.length : Int) := by
  have h2 : (BK f [s]).head? = some s := by rw [hs]; rfl
  rw [e5] at h2
  obtain ⟨g, hg'⟩ : ∃ g, HL f s = g + 1 := ⟨HL f s - 1, by omega⟩
  rw [hg'] at h2
  simp [run, List.range_succ_eq_map] at h2
  omega
 rw [← e6] at e5;refine ⟨e5, hg, ?_⟩
 have : (ord (f.stmts.length : Int) (kids f.stmts) [s]).length = HL f s := rfl
 omega
open Go.Eng
theorem Hs (l : List Func) : ∀ x, x ∈ l.map Func.tt → (T.cells x).length = 4 := by
 intro x hx; obtain ⟨t, _, rfl⟩ := TE.1 hx; rfl
theorem KB (l : List Stmt) : ∀ x, x ∈ l.map Stmt.tt → (T.cells x).length = 5 := by
 intro x hx; obtain ⟨t, _, rfl⟩ := TE.1 hx; rfl
theorem MJ (l : List Tok) : ∀ x, x ∈ l.map Tok.tt → (T.cells x).length = 2 := by
 intro x hx; obtain ⟨t, _, rfl⟩ := TE.1 hx; rfl
def flF (to : List Int) (l : List Func) (k : Nat) : List T := ((mixL (movF to) l k).map Func.tt).flatMap T.cells
def flS (to : List Int) (l : List Stmt) (k : Nat) : List T := ((mixL (movS to) l k).map Stmt.tt).flatMap T.cells
def flT (to : List Int) (l : List Tok) (k : Nat) : List T := ((mixL (movT to) l k).map Tok.tt).flatMap T.cells
theorem Ox (to : List Int) (l : List Func) (k : Nat) : (flF to l k).length = l.length * 4 := by rw [flF, AZ (Hs _), Sk, DL]
theorem Ow (to : List Int) (l : List Stmt) (k : Nat) : (flS to l k).length = l.length * 5 := by rw [flS, AZ (KB _), Sk, DL]
theorem SG (to : List Int) (l : List Tok) (k : Nat) : (flT to l k).length = l.length * 2 := by rw [flT, AZ (MJ _), Sk, DL]
theorem Ky {α β : Type} {f : α → β} {l : List α} {k : Nat} {x : α} (h : l[k]? = some x) : (l.map f)[k]? = some (f x) := by rw [List.getElem?_map, h]; rfl
theorem flF_at (to : List Int) (l : List Func) {k : Nat} (h : k < l.length) {j : Nat} (hj : j < 4) : (flF to l k)[k * 4 + j]? = (T.cells (l[k]).tt)[j]? := Du (Hs _) (Ky (EF _ _ h)) hj
theorem J0 (to : List Int) (l : List Stmt) {k : Nat} (h : k < l.length) {j : Nat} (hj : j < 5) : (flS to l k)[k * 5 + j]? = (T.cells (l[k]).tt)[j]? := Du (KB _) (Ky (EF _ _ h)) hj
theorem Ov (to : List Int) (l : List Tok) {k : Nat} (h : k < l.length) {j : Nat} (hj : j < 2) : (flT to l k)[k * 2 + j]? = (T.cells (l[k]).tt)[j]? := Du (MJ _) (Ky (EF _ _ h)) hj
theorem Qy (to : List Int) (l : List Func) {k : Nat} (h : k < l.length) : (flF to l k).set (k * 4 + 3) (T.Stmts ((l[k]).stmts.map (movS to))) = flF to l (k + 1) := by
 unfold flF;rw [← Fx _ _ h, Tj];exact CH (Hs _) (Ky (EF _ _ h)) (by decide) rfl
theorem Qw (to : List Int) (l : List Stmt) {k : Nat} (h : k < l.length) : ((flS to l k).set (k * 5 + 1) (T.int (movN to l[k]))).set (k * 5 + 2) (T.Toks ((l[k]).ex.map (movT to))) = flS to l (k + 1) := by
 unfold flS;rw [← Fx _ _ h, Tj]
 have h1 := CH (KB (mixL (movS to) l k)) (Ky (EF _ _ h)) (j := 1) (y := .agg [T.int (l[k]).kind, T.int (movN to l[k]), T.Toks (l[k]).ex, T.ints (l[k]).thn, T.ints (l[k]).els]) (t := T.int (movN to l[k])) (by decide) rfl
 rw [h1]
 have hw : ∀ x, x ∈ ((mixL (movS to) l k).map Stmt.tt).set k (.agg [T.int (l[k]).kind, T.int (movN to l[k]), T.Toks (l[k]).ex, T.ints (l[k]).thn, T.ints (l[k]).els]) → (T.cells x).length = 5 := by
  intro x hx
  rcases Th hx with hx | rfl
  ·exact KB _ x hx
  ·rfl
 have hk : k < ((mixL (movS to) l k).map Stmt.tt).length := by rw [Sk, DL]; exact h
 rw [CH hw (x := .agg [T.int (l[k]).kind, T.int (movN to l[k]), T.Toks (l[k]).ex, T.ints (l[k]).thn, T.ints (l[k]).els]) (y := (movS to l[k]).tt) (List.getElem?_set_self hk) (by decide) rfl, List.set_set]
theorem Qv (to : List Int) (l : List Tok) {k : Nat} (h : k < l.length) (h11 : (l[k]).op = 11) : (flT to l k).set (k * 2 + 1) (T.int (atI to (l[k]).n)) = flT to l (k + 1) := by
 unfold flT;rw [← Fx _ _ h, Tj];exact CH (MJ _) (Ky (EF _ _ h)) (by decide) (by rw [movT, if_pos h11]; rfl)
theorem Qu (to : List Int) (l : List Tok) {k : Nat} (h : k < l.length) (h11 : ¬ (l[k]).op = 11) : flT to l k = flT to l (k + 1) := by
 unfold flT;rw [← Fx _ _ h, Tj, movT, if_neg h11]
 congr 1
 exact (LY (Ky (EF _ _ h))).symm
theorem He (p : Prog) (to : List Int) (hp : p.ok 1048576) (hs : ∀ f, f ∈ p.funcs → ∀ x, x ∈ ET f.stmts → 0 ≤ x ∧ x < to.length) (ht : to.length ≤ 1048576) : WriteF Try.prog 49 ([T.Funcs p.funcs]) (.t (T.ints to)) none ([T.Funcs (p.funcs.map (movF to))]) := by
  have hpl : p.funcs.length ≤ 1048576 := hp.1.1
  refine WriteF.intro Try.func49 Z Z (N := 62) Z (fun vs hvs w0 G F0 => ?_)
  obtain ⟨a0, rfl⟩ : ∃ a0, vs = [a0] := by
    match vs, hvs with
    | [a0], _ => exact ⟨_, rfl⟩
  refine PU (sG (AV Z Z (AA Z) Z Z (Ak Z (nA (eK 2 Z (Ak Z ?_))))));refine Dz (id := 62) (j := 0) (id2 := 101) (n := 4) (u := a0) (xs := p.funcs.map Func.tt) Z Z Z Z Z (fun e ad b cap ws hu hb he hlc hcm hn => ?_);rw [Sk] at hu hlc;subst hu;refine Ak Z (LK Z Z (AA Z) Z ⟨72, by kernel_rfl⟩ rfl (eZ Z (nB (AD ?_))));refine lK (α := Int × List T) [1, 11, 12] [62] (fun x => [(13, .t (.int (x.1)))]) (fun x => [(101, rb e b (cap * 4) ws (x.2))]) (fun x => 0 ≤ (x.1) ∧ (x.1) ≤ p.funcs.length ∧ (x.2) = flF to p.funcs (x.1).toNat) (fun x => Int.toNat (p.funcs.length - (x.1))) (0, flF to p.funcs 0) ?_ (fun x hx => ?_)
  · exact ⟨by omega, by omega, rfl⟩
  obtain ⟨k, ts1⟩ := x
  obtain ⟨hk0, hk1, hts1⟩ := hx
  dsimp only at hk0 hk1 hts1 ⊢;refine Ih Z (sG (eZ Z (nB (sQ ?_))));refine AB Z (fun h1 => ?_) (fun h1 => ?_)
  ·
    simp only [HS] at h1;refine AC (tN (sQ (AD (sG ?_))))
    have hkl : k.toNat < p.funcs.length := by omega
    have he0 : e = false := by cases e with | false => rfl | true => have := congrArg List.length (he rfl); rw [Sk, List.length_nil] at this; omega
    subst he0
    obtain rfl : ad = some ⟨b, 0, none⟩ := hb rfl
    have hf := B5 hp (n := k.toNat) hkl
    have hsf := hs _ (Ss hkl)
    have hsl : (p.funcs[k.toNat]).stmts.length ≤ 1048576 := hf.2.1.1
    refine Ij tys Z Z (AA Z) Z Z Z Z Z Z (by omega) (by omega) ?_;refine G3 101 Z Z (fun hl1 => ?_);refine G4 (id := 101) (off := k.toNat * 4) (m := 4) tys Z Z (AA Z) Z Z Z Z Z Z (by rw [hl1, hts1, Ox]; omega) (fun us hus1 hus2 => ?_)
    obtain ⟨c0, c1, c2, c3, rfl⟩ : ∃ c0 c1 c2 c3, us = [c0, c1, c2, c3] := by
     match us, hus1 with
     | [c0, c1, c2, c3], _ => exact ⟨_, _, _, _, rfl⟩
    refine Ak Z (AF tys Z Z (AA Z) Z Z Z (Ak Z (sT Z (Ak Z (nA (eK 2 Z (Ak Z ?_)))))));refine Dz (id := 101) (j := k.toNat * 4 + 3) (id2 := 102) (n := 5) (u := c3) (xs := (p.funcs[k.toNat]).stmts.map Stmt.tt) Z Z (hus2 3 (by decide)) (by rw [hts1, flF_at to p.funcs hkl (by decide)]; rfl) Z (fun e2 ad2 b2 cap2 ws2 hu2 hb2 he2 hlc2 hcm2 hn2 => ?_);rw [Sk] at hu2 hlc2;subst hu2;refine Ak Z (LK Z Z (AA Z) Z ⟨62, by kernel_rfl⟩ rfl (eZ Z (RI [1, 5, 11, 12, 13, 14, 15, 16, 17, 18, 19, 20] Z (nB (AD ?_)))));refine lK (α := Int × List Value × List T) [1, 5, 11, 12, 13, 18, 19] [62, 101, 5] (fun x => [(20, .t (.int (x.1)))]) (fun x => [(102, rb e2 b2 (cap2 * 5) (x.2.1) (x.2.2))]) (fun x => 0 ≤ (x.1) ∧ (x.1) ≤ (p.funcs[k.toNat]).stmts.length ∧ (x.2.2) = flS to (p.funcs[k.toNat]).stmts (x.1).toNat) (fun x => Int.toNat ((p.funcs[k.toNat]).stmts.length - (x.1))) (0, ws2, flS to (p.funcs[k.toNat]).stmts 0) ?_ (fun x hx => ?_)
    · exact ⟨by omega, by omega, rfl⟩
    obtain ⟨j, w2, t2⟩ := x
    obtain ⟨hj0, hj1, ht2⟩ := hx
    dsimp only at hj0 hj1 ht2 ⊢;refine Ih Z (sG (eZ Z (nB (sQ ?_))));refine AB Z (fun h2 => ?_) (fun h2 => ?_)
    ·
      simp only [HS] at h2;refine AC (tN (sQ (AD (sG ?_))))
      have hjl : j.toNat < (p.funcs[k.toNat]).stmts.length := by omega
      have he0 : e2 = false := by cases e2 with | false => rfl | true => have := congrArg List.length (he2 rfl); rw [Sk, List.length_nil] at this; omega
      subst he0
      obtain rfl : ad2 = some ⟨b2, 0, none⟩ := hb2 rfl
      have hso := Bw hf (n := j.toNat) hjl
      refine eZ Z (Ij tys Z Z (AA Z) Z Z Z Z Z Z (by omega) (by omega) ?_);refine G3 102 Z Z (fun hl2 => ?_);refine G4 (id := 102) (off := j.toNat * 5) (m := 5) tys Z Z (AA Z) Z Z Z Z Z Z (by rw [hl2, ht2, Ow]; omega) (fun us hus1 hus3 => ?_)
      obtain ⟨d0, d1, d2, d3, d4, rfl⟩ : ∃ d0 d1 d2 d3 d4, us = [d0, d1, d2, d3, d4] := by
       match us, hus1 with
       | [d0, d1, d2, d3, d4], _ => exact ⟨_, _, _, _, _, rfl⟩
      refine Ii 102 (j.toNat * 5 + 0) Z Z (x := .int .i64 ((p.funcs[k.toNat]).stmts[j.toNat]).kind) (by rw [ht2, J0 to _ hjl (by decide)]; rfl) (hus3 0 (by decide)) (fun hd0 => ?_);refine Ii 102 (j.toNat * 5 + 1) Z Z (x := .int .i64 ((p.funcs[k.toNat]).stmts[j.toNat]).n) (by rw [ht2, J0 to _ hjl (by decide)]; rfl) (hus3 1 (by decide)) (fun hd1 => ?_);subst hd0 hd1;refine Ak Z (AF tys Z Z (AA Z) Z Z Z (Ak Z (eZ Z (sT Z (Ak Z (nB (sQ (sQ (LI [1, 5, 6, 7, 11, 12, 13, 18, 19, 20, 21, 22, 23, 24] Z (rG (eK 3 Z (nB ?_))))))))))));refine A4 (α := List Value × List T) [1, 5, 6, 7, 11, 12, 13, 18, 19, 20, 21, 22, 23, 24, 25, 26, 27] [62, 101, 5, 7] (fun x => []) (fun x => [(102, .raw b2 (cap2 * 5) (x.1) (x.2))]) (fun x => (x.2) = t2.set (j.toNat * 5 + 1) (T.int (movN to (p.funcs[k.toNat]).stmts[j.toNat])) ∧ (x.1)[j.toNat * 5 + 2]? = some d2) ?_ (fun x hx => ?_)
      ·
        refine AB Z (fun h3 => ?_) (fun h3 => ?_)
        ·
          simp only [HS] at h3;refine BW 10 BE Z (by kernel_rfl) (by kernel_rfl) ?_
          have hn := H6 hsf hjl (by assumption)
          refine evQ ?_;refine evQ ?_;refine evQ ?_;refine F9 Z (evQ ?_);refine evQ ?_;refine evQ ?_;refine A9 tys Z Z (AA Z) Z Z Z Z Z Z Z (by omega) _ (EK _ _ (by omega) (by omega)) (evQ ?_);refine Ph tys Z Z (AA Z) Z Z Z Z Z Z (by omega) (by omega) (F9 Z (KS tys Z Z (AA Z) Z Z Z Z Z (A7 (KK (off := j.toNat * 5 + 1) tys (id := 102) Z Z Z Z Z Z Z (u0 := .int .i64 ((p.funcs[k.toNat]).stmts[j.toNat]).n) (by rw [ht2, J0 to _ hjl (by decide)]; rfl) Z Z Z ?_))));refine Ak Z (oN (jQ (_, _) ?_));dsimp only
          first
          | (rw [movN, if_pos (by assumption), Ay hn.1 hn.2]; refine ⟨rfl, ?_⟩; rw [List.getElem?_set_ne (by omega)]; exact hus3 2 (by decide))
        simp only [HS] at h3;refine AC (jQ (_, _) ?_);dsimp only
        first
        | (refine ⟨?_, hus3 2 (by decide)⟩; rw [movN, if_neg (by assumption)]; exact (LY (by rw [ht2, J0 to _ hjl (by decide)]; rfl)).symm)
      obtain ⟨w3, t3⟩ := x
      obtain ⟨ht3, hw3⟩ := hx
      dsimp only at ht3 hw3 ⊢;refine tN (sQ (LI [1, 5, 6, 7, 11, 12, 13, 18, 19, 20, 21, 22, 23, 24, 25, 26, 27] Z (rG (eK 2 Z (Ak Z ?_)))));refine Dz (id := 102) (j := j.toNat * 5 + 2) (id2 := 103) (n := 2) (u := d2) (xs := ((p.funcs[k.toNat]).stmts[j.toNat]).ex.map Tok.tt) Z Z hw3 (by rw [ht3, List.getElem?_set_ne (by omega), ht2, J0 to _ hjl (by decide)]; rfl) Z (fun e3 ad3 b3 cap3 ws3 hu3 hb3 he3 hlc3 hcm3 hn3 => ?_);rw [Sk] at hu3 hlc3;subst hu3;refine Ak Z (LK Z Z (AA Z) Z ⟨69, by kernel_rfl⟩ rfl (eZ Z (nB (AD ?_))));refine lK (α := Int × List Value × List T) [1, 5, 7, 11, 12, 13, 18, 19, 20, 39, 40] [62, 101, 102, 5, 7] (fun x => [(41, .t (.int (x.1)))]) (fun x => [(103, rb e3 b3 (cap3 * 2) (x.2.1) (x.2.2))]) (fun x => 0 ≤ (x.1) ∧ (x.1) ≤ ((p.funcs[k.toNat]).stmts[j.toNat]).ex.length ∧ (x.2.2) = flT to ((p.funcs[k.toNat]).stmts[j.toNat]).ex (x.1).toNat) (fun x => Int.toNat (((p.funcs[k.toNat]).stmts[j.toNat]).ex.length - (x.1))) (0, ws3, flT to ((p.funcs[k.toNat]).stmts[j.toNat]).ex 0) ?_ (fun x hx => ?_)
      · exact ⟨by omega, by omega, rfl⟩
      obtain ⟨i, w4, t4⟩ := x
      obtain ⟨hi0, hi1, ht4⟩ := hx
      dsimp only at hi0 hi1 ht4 ⊢;refine Ih Z (sG (eZ Z (nB (sQ ?_))));refine AB Z (fun h3 => ?_) (fun h3 => ?_)
      ·
        simp only [HS] at h3;refine AC (tN (sQ (AD (sG ?_))))
        have hil : i.toNat < ((p.funcs[k.toNat]).stmts[j.toNat]).ex.length := by omega
        have he0 : e3 = false := by cases e3 with | false => rfl | true => have := congrArg List.length (he3 rfl); rw [Sk, List.length_nil] at this; omega
        subst he0
        obtain rfl : ad3 = some ⟨b3, 0, none⟩ := hb3 rfl
        refine eZ Z (Ij tys Z Z (AA Z) Z Z Z Z Z Z (by omega) (by omega) ?_);refine G3 103 Z Z (fun hl3 => ?_);refine G4 (id := 103) (off := i.toNat * 2) (m := 2) tys Z Z (AA Z) Z Z Z Z Z Z (by rw [hl3, ht4, SG]; omega) (fun us hus1 hus4 => ?_)
        obtain ⟨f0, f1, rfl⟩ : ∃ f0 f1, us = [f0, f1] := by
         match us, hus1 with
         | [f0, f1], _ => exact ⟨_, _, rfl⟩
        refine Ii 103 (i.toNat * 2 + 0) Z Z (x := .int .i64 (((p.funcs[k.toNat]).stmts[j.toNat]).ex[i.toNat]).op) (by rw [ht4, Ov to _ hil (by decide)]; rfl) (hus4 0 (by decide)) (fun hd0 => ?_);refine Ii 103 (i.toNat * 2 + 1) Z Z (x := .int .i64 (((p.funcs[k.toNat]).stmts[j.toNat]).ex[i.toNat]).n) (by rw [ht4, Ov to _ hil (by decide)]; rfl) (hus4 1 (by decide)) (fun hd1 => ?_);subst hd0 hd1;refine Ak Z (AF tys Z Z (AA Z) Z Z Z (Ak Z (eZ Z (sT Z (Ak Z (nB (sQ (LI [1, 5, 7, 8, 9, 11, 12, 13, 18, 19, 20, 39, 40, 41, 42, 43, 44, 45] Z (rG (eK 3 Z (nB ?_)))))))))));refine AB Z (fun h4 => ?_) (fun h4 => ?_)
        ·
          simp only [HS] at h4;refine BW 10 BE Z (by kernel_rfl) (by kernel_rfl) ?_
          have hm := H5 hsf hjl hil (by assumption)
          refine evQ ?_;refine evQ ?_;refine evQ ?_;refine F9 Z (evQ ?_);refine evQ ?_;refine evQ ?_;refine A9 tys Z Z (AA Z) Z Z Z Z Z Z Z (by omega) _ (EK _ _ (by omega) (by omega)) (evQ ?_);refine Ph tys Z Z (AA Z) Z Z Z Z Z Z (by omega) (by omega) (F9 Z (KS tys Z Z (AA Z) Z Z Z Z Z (A7 (KK (off := i.toNat * 2 + 1) tys (id := 103) Z Z Z Z Z Z Z (u0 := .int .i64 (((p.funcs[k.toNat]).stmts[j.toNat]).ex[i.toNat]).n) (by rw [ht4, Ov to _ hil (by decide)]; rfl) Z Z Z ?_))));refine Ak Z (oN (bN (tN (rG (evI ?_)))));refine eZ Z (oN ?_);refine lQ (_, _, _) ?_ ?_
          · dsimp only
            refine ⟨by omega, by omega, ?_⟩;rw [ht4, show (i + 1).toNat = i.toNat + 1 from by omega]
            first
            | (refine Eq.trans ?_ (Qv to _ hil (by assumption)); rw [Ay hm.1 hm.2]; done)
          · (show Int.toNat _ < Int.toNat _); omega
        simp only [HS] at h4;refine AC (bN (tN (rG (evI ?_))));refine eZ Z (oN ?_);refine lQ (_, _, _) ?_ ?_
        · dsimp only
          refine ⟨by omega, by omega, ?_⟩;rw [ht4, show (i + 1).toNat = i.toNat + 1 from by omega]
          first
          | exact Qu to _ hil (by assumption)
        · (show Int.toNat _ < Int.toNat _); omega
      simp only [HS] at h3;refine AN (tE (AJ (AI (bN (tN (rG ?_))))))
      have e4 : t4 = ((((p.funcs[k.toNat]).stmts[j.toNat]).ex.map (movT to)).map Tok.tt).flatMap T.cells := by rw [ht4, flT, II _ _ (by omega)]
      subst e4;refine Ak Z ?_;refine WO_le (Le.implode (id := 102) (id2 := 103) (j := j.toNat * 5 + 2) (n := 2) (e := e3) (b := b3) (cap := cap3) (ad := ad3) (len := ((p.funcs[k.toNat]).stmts[j.toNat]).ex.length) (u := .slice ad3 ((p.funcs[k.toNat]).stmts[j.toNat]).ex.length cap3) (ys := (((p.funcs[k.toNat]).stmts[j.toNat]).ex.map (movT to)).map Tok.tt) Z Z hw3 (List.getElem?_set_self (by rw [ht3, TN, ht2, Ow]; omega)) Z Z hb3 (fun h => by rw [List.map_eq_nil_iff.1 (he3 h)]; rfl) (by simp) hlc3 hcm3 (MJ _) Z) ?_;refine Ak Z (evI ?_);refine eZ Z (oN ?_);refine lQ (_, _, _) ?_ ?_
      · dsimp only
        refine ⟨by omega, by omega, ?_⟩;rw [ht3, ht2, List.set_set, show (j + 1).toNat = j.toNat + 1 from by omega];exact Qw to _ (by omega)
      · (show Int.toNat _ < Int.toNat _); omega
    simp only [HS] at h2;refine AN (tE (AJ (AI (bN (tN (rG ?_))))))
    have e2' : t2 = (((p.funcs[k.toNat]).stmts.map (movS to)).map Stmt.tt).flatMap T.cells := by rw [ht2, flS, II _ _ (by omega)]
    subst e2';refine Ak Z ?_;refine WO_le (Le.implode (id := 101) (id2 := 102) (j := k.toNat * 4 + 3) (n := 5) (e := e2) (b := b2) (cap := cap2) (ad := ad2) (len := (p.funcs[k.toNat]).stmts.length) (u := .slice ad2 (p.funcs[k.toNat]).stmts.length cap2) (ys := ((p.funcs[k.toNat]).stmts.map (movS to)).map Stmt.tt) Z Z (hus2 3 (by decide)) (List.getElem?_set_self (by rw [hts1, Ox]; omega)) Z Z hb2 (fun h => by rw [List.map_eq_nil_iff.1 (he2 h)]; rfl) (by simp) hlc2 hcm2 (KB _) Z) ?_;refine Ak Z (evI ?_);refine eZ Z (oN ?_);refine lQ (_, _) ?_ ?_
    · dsimp only
      refine ⟨by omega, by omega, ?_⟩;rw [hts1, List.set_set, show (k + 1).toNat = k.toNat + 1 from by omega];exact Qy to p.funcs (by omega)
    · (show Int.toNat _ < Int.toNat _); omega
  simp only [HS] at h1;refine AN (tE (AJ (AI ?_)))
  have e1 : ts1 = ((p.funcs.map (movF to)).map Func.tt).flatMap T.cells := by rw [hts1, flF, II _ _ (by omega)]
  subst e1;refine ⟨_, Le.implode (id := 62) (id2 := 101) (j := 0) (n := 4) (e := e) (b := b) (cap := cap) (ad := ad) (len := p.funcs.length) (u := .slice ad p.funcs.length cap) (ys := (p.funcs.map (movF to)).map Func.tt) Z Z Z Z Z Z hb (fun h => by rw [List.map_eq_nil_iff.1 (he h)]; rfl) (by simp) hlc hcm (Hs _) rfl, KV (.inl Z) Z Z rfl⟩
end Go.Proofs.Ytddfnpiikkilhaa
