/- Walks and laws of the claim. -/
import Derived.Test.YtddfnpiikkilhaaGreatGf
import Derived.Test.YtddfnpiikkilhaaGreatMe
import Derived.Test.YtddfnpiikkilhaaGreatGb
import Derived.Test.YtddfnpiikkilhaaGreatFa
import Derived.Test.YtddfnpiikkilhaaGreatMb
import Derived.Test.YtddfnpiikkilhaaGreatMc
import Derived.Test.YtddfnpiikkilhaaGreatMd
import Derived.Test.YtddfnpiikkilhaaGreatUj
set_option linter.unusedVariables false
set_option linter.unusedSimpArgs false
set_option maxRecDepth 10000
set_option maxHeartbeats 4000000
namespace Go.Proofs.YtddfnpiikkilhaaGreat
open Go.Eng
open Go.Eng
def Oq (p : Prog) (inp : List Int) (most n : Nat) (L : Lev) : Prop :=
 ∀ (fn : Int) (f : Func) (t : Stmt) (s : Sx) (bm bc bb : Nat) (q : Kp) (pv iv : Value) (xv : List Value) (xt : List T), 0 ≤ fn → fn < p.funcs.length → f = funcAt p fn → t ∈ f.stmts → s.ok p inp f → s.m.fuel ≤ n → s.m.fuel ≤ 1048576 → s.m.trace.length + s.m.fuel ≤ 1048576 → s.off.length + s.m.fuel ≤ 1048576 → s.m.deep ≤ most →
  Proc Tryz.prog 138 [.t (.v (.pointer (some ⟨bm, 0, none⟩))), .t (.v (.pointer (some ⟨bc, 0, none⟩))), .t t.tt] (pv :: iv :: xv) (T.Funcs p.funcs :: T.ints inp :: xt)
   [.obox (.pointer (some ⟨bm, 0, none⟩)) (rS pv iv most s.m.fuel 0 s.m), .obox (.pointer (some ⟨bc, 0, none⟩)) (gC fn s.vars s.off s.res 0 0 false (byP bb s.by')), byK bb q s.by']
   (.tup [.t (.int (haH (L.stmt f t s).1)), .t (.int (L.stmt f t s).2.1)])
   [.obox (.pointer (some ⟨bm, 0, none⟩)) (rS pv iv most (fuH (L.stmt f t s).1 (L.stmt f t s).2.2.m) (coH (L.stmt f t s).1) (L.stmt f t s).2.2.m), .obox (.pointer (some ⟨bc, 0, none⟩)) (gC fn (L.stmt f t s).2.2.vars (L.stmt f t s).2.2.off (L.stmt f t s).2.2.res 0 0 false (byP bb s.by')), .obox (byP bb s.by') (gC q.fn q.vars q.off q.res (hH (L.stmt f t s).2.2.by') (nH (L.stmt f t s).2.2.by') (xH (L.stmt f t s).2.2.by') q.bp)]
def BlI (p : Prog) (inp : List Int) (f : Func) (L : Lev) (b : List Int) (s : Sx) (pv iv bp bpv : Value) (q : Kp) (most fn : Int) (k : Int) (b1 b2 b3 : Blk) : Prop :=
 ∃ (s1 : Sx), 0 ≤ k ∧ k ≤ b.length ∧ Sx.to p inp f 0 s s1 ∧ blS L f b s = blockS (L.stmt f) f (b.drop k.toNat) s1 ∧
  b1 = .box (rS pv iv most s1.m.fuel 0 s1.m) ∧ b2 = .box (gC fn s1.vars s1.off s1.res 0 0 false bp) ∧ b3 = .obox bpv (gC q.fn q.vars q.off q.res (hH s1.by') (nH s1.by') (xH s1.by') q.bp)
section
variable {p : Prog} {inp : List Int} {f : Func} {L : Lev} {b : List Int} {s s1 : Sx} {pv iv bp bpv : Value} {most fn : Int} {q : Kp} {k : Int} {R : Int × Int × Sx}
theorem BlI.next (h0 : 0 ≤ k) (h1 : k < b.length) (hto : Sx.to p inp f 0 s s1) (hex : blS L f b s = blockS (L.stmt f) f (b.drop k.toNat) s1) (hR : R = L.stmt f (stmtAt f (b[k.toNat]'(by omega))) s1) (hok : Sx.to p inp f R.1 s1 R.2.2) (hz : R.1 = 0) {k' : Int} (hk : k' = k + 1) {b1 b2 b3 : Blk}
  (e3 : b1 = .box (rS pv iv most (fuH R.1 R.2.2.m) (coH R.1) R.2.2.m)) (e4 : b2 = .box (gC fn R.2.2.vars R.2.2.off R.2.2.res 0 0 false bp)) (e5 : b3 = .obox bpv (gC q.fn q.vars q.off q.res (hH R.2.2.by') (nH R.2.2.by') (xH R.2.2.by') q.bp)) :
  BlI p inp f L b s pv iv bp bpv q most fn k' b1 b2 b3 := by
 subst hk;rw [hz] at hok;rw [hz, Jv (by omega), J2 (by omega)] at e3;refine ⟨R.2.2, by omega, by omega, hto.trans hok (by omega), ?_, e3, e4, e5⟩;rw [hex, Ct h0 h1, blockS];rw [← hR, if_pos hz]
theorem RZ {h : Int} (e : haH h = 0) : h = 0 := by unfold haH at e; split at e <;> omega
theorem Ll {h : Int} (e : ¬ haH h = 0) : ¬ h = 0 := by intro h; subst h; exact e rfl
end
theorem D4 (p : Prog) (inp : List Int) (most n : Nat) (L : Lev) (hL : Db p inp L) (hC : Oq p inp most n L) (fn : Int) (f : Func) (h0 : 0 ≤ fn) (h1' : fn < p.funcs.length) (hfd : f = funcAt p fn) (hfl : f.stmts.length ≤ 1048576) (b : List Int) (hb : RT f b) (hbl : b.length ≤ 1048576) (s : Sx) (hs : s.ok p inp f) (hn : s.m.fuel ≤ n) (hn2 : s.m.fuel ≤ 1048576) (hti : s.m.trace.length + s.m.fuel ≤ 1048576) (hof : s.off.length + s.m.fuel ≤ 1048576) (hdm : s.m.deep ≤ most) (bm bc bb : Nat) (q : Kp) (pv iv : Value) (xv : List Value) (xt : List T) : Proc Tryz.prog 124 [.t (.v (.pointer (some ⟨bm, 0, none⟩))), .t (.v (.pointer (some ⟨bc, 0, none⟩))), .t (T.ints b)] ((pv :: iv :: xv)) ((T.Funcs p.funcs :: T.ints inp :: xt)) [.obox (.pointer (some ⟨bm, 0, none⟩)) (rS pv iv most s.m.fuel 0 s.m), .obox (.pointer (some ⟨bc, 0, none⟩)) (gC fn s.vars s.off s.res 0 0 false (byP bb s.by')), byK bb q s.by'] (.tup [.t (.int (haH (blS L f b s).1)), .t (.int (blS L f b s).2.1)]) [.obox (.pointer (some ⟨bm, 0, none⟩)) (rS pv iv most (fuH (blS L f b s).1 (blS L f b s).2.2.m) (coH (blS L f b s).1) (blS L f b s).2.2.m), .obox (.pointer (some ⟨bc, 0, none⟩)) (gC fn (blS L f b s).2.2.vars (blS L f b s).2.2.off (blS L f b s).2.2.res 0 0 false (byP bb s.by')), .obox (byP bb s.by') (gC q.fn q.vars q.off q.res (hH (blS L f b s).2.2.by') (nH (blS L f b s).2.2.by') (xH (blS L f b s).2.2.by') q.bp)] := by
 have hfa : p.funcs[fn.toNat]'(by omega) = f := by rw [hfd]; exact Ay (by omega)
 have hfm : f ∈ p.funcs := hfd ▸ Ao h0 h1'
 have hget : (p.funcs.map Func.tt)[fn.toNat]? = some f.tt := by rw [HE _ _ h0 h1', hfa]
 refine Proc.intro tys Tryz.func124 Z Z (N := 44) [100, 101, 102] 99 ([(0, .t (.v (.pointer (some ⟨bm, 0, none⟩)))), (1, .t (.v (.pointer (some ⟨bc, 0, none⟩)))), (2, .t (T.ints b))]) ([(100, .obox (.pointer (some ⟨bm, 0, none⟩)) (rS pv iv most s.m.fuel 0 s.m)), (101, .obox (.pointer (some ⟨bc, 0, none⟩)) (gC fn s.vars s.off s.res 0 0 false (byP bb s.by'))), (102, byK bb q s.by'), (99, .ro (pv :: iv :: xv) (T.Funcs p.funcs :: T.ints inp :: xt))]) Z Z Z Z (by decide) (by decide) Z (fun w0 G F0 => ?_);refine nY Z (AQ (Le.openNew (u := 100) 1100 Z Z Z Z Z) (nY Z (AQ (Le.named (t := 0) (u := 100) 1100 Z Z) (nY Z (AQ (Le.openNew (u := 101) 1101 Z Z Z Z Z) (nY Z (AQ (Le.named (t := 1) (u := 101) 1101 Z Z) (nY Z (sG (eK 2 Z (nB (sQ (sG (eZ Z (evE ?_)))))))))))))));refine eZ Z (nB (AD ?_));refine lK (α := Int × Blk × Blk × Blk) [0, 1, 12, 13] [99, 1100, 1101] (fun x => [(14, .t (.int (x.1)))]) (fun x => [(100, (x.2.1)), (101, (x.2.2.1)), (102, (x.2.2.2))]) (fun x => BlI p inp f L b s pv iv (byP bb s.by') (byP bb s.by') q most fn (x.1) (x.2.1) (x.2.2.1) (x.2.2.2)) (fun x => Int.toNat (b.length - (x.1))) (0, .box (rS pv iv most s.m.fuel 0 s.m), .box (gC fn s.vars s.off s.res 0 0 false (byP bb s.by')), .obox (byP bb s.by') (gC q.fn q.vars q.off q.res (hH s.by') (nH s.by') (xH s.by') q.bp)) ?_ (fun x hx => ?_)
 ·exact ⟨s, by omega, by omega, Sx.to.refl hs (by omega) (by omega), rfl, rfl, rfl, rfl⟩
 obtain ⟨k, b1, b2, b3⟩ := x
 obtain ⟨s1, hk0, hk1, hto, hex, hb1, hb2, hb3⟩ := hx
 dsimp only at hk0 hk1 hto hex hb1 hb2 hb3 ⊢;subst hb1 hb2 hb3;refine nY Z (sG (eZ Z (nB (sQ ?_))));refine AB Z (fun h1 => ?_) (fun h1 => ?_)
 ·
  simp only [HS] at h1;refine AC (tN (sQ (AD (sG ?_))))
  have hkl : k < b.length := by omega
  have hbk := hb (b[k.toNat]'(by omega)) (SJ _)
  have hmem : stmtAt f (b[k.toNat]'(by omega)) ∈ f.stmts := by rw [← Bv (by omega)]; exact SJ _
  have hfu : s1.m.fuel ≤ s.m.fuel := hto.le.1
  have hft : s1.m.trace.length + s1.m.fuel ≤ s.m.trace.length + s.m.fuel := hto.le.2.1
  have hfo : s1.off.length + s1.m.fuel ≤ s.off.length + s.m.fuel := hto.offl
  have hdp : s1.m.deep = s.m.deep := hto.deep (by omega)
  obtain ⟨R, hR⟩ : ∃ R, R = L.stmt f (stmtAt f (b[k.toNat]'(by omega))) s1 := ⟨_, rfl⟩
  have hok1 := hL.stmt f hfm _ hmem s1 hto.ok
  rw [← hR] at hok1
  have hh0 := hok1.h0
  have hCa := hC fn f (stmtAt f (b[k.toNat]'(by omega))) s1 bm bc bb q pv iv xv xt h0 h1' hfd hmem hto.ok (by omega) (by omega) (by omega) (by omega) (by omega)
  unfold byK at hCa;rw [← hR, ← Bv (f := f) (n := b[k.toNat]'(by omega)) (by omega), Gp (bb := bb) hto.by'] at hCa;refine iY (k := ?_);refine eK 2 Z (nB (sQ (BQ [[100, 101], [100, 101], [], [], [], [], [], [], [], [], [], [], [], [], [], [], [], [], [], [], [], [], []] BJ (by kernel_rfl) (Da (QG_ev tys Z Z (AA Z) Z (AF (Da (QG_ev tys Z Z (AA Z) Z (AF (AW (QG_ev tys Z Z (AA Z) Z (AF (AW (CA rfl Z (AA Z) Z Z Z (AF ?_)))))))))))))));refine Ae Z (AW (QG_ev tys Z Z (AA Z) Z (AF (AW (QG_ev tys Z Z (AA Z) Z (AF (AW (Ox tys 99 0 Z Z (AA Z) Z Z Z Z (AF (AW (QG_ev tys Z Z (AA Z) Z (AF (Ae Z (AW (CA rfl Z (AA Z) Z Z Z ?_)))))))))))))));refine AF (AW (QG_ev tys Z Z (AA Z) Z (AF (AW (QG_ev tys Z Z (AA Z) Z (AF (Da (O0 tys Z Z (AA Z) Z Z Z Z Z Z Z h0 _ hget (AF (Ae Z (AW (QG_ev tys Z Z (AA Z) Z (AF (AW (QG_ev tys Z Z (AA Z) Z ?_)))))))))))))));refine AF (AW (QG_ev tys Z Z (AA Z) Z (AF (Da (O0 tys Z Z (AA Z) Z Z Z Z Z Z Z (by omega) _ (HE _ _ (by omega) (by omega)) (AF (Ae Z (QH_ev2 tys (u1 := 100) (u2 := 101) 1100 1101 Z Z (AA Z) Z Z Z Z Z Z Z Z Z (Ae Z ?_)))))))));refine Bu (rid := 99) [100, 101, 102] Z Z (AA Z) Z Z (by repeat (first | exact ResP.done | refine ResP.pin0 1100 Z ?_ | refine ResP.pin0 1101 Z ?_ | refine ResP.pin0 1102 Z ?_ | refine ResP.t ?_ | refine ResP.nil 1 ?_ | refine ResP.nil' ?_ | refine ResP.own ?_ | refine ResP.sl Z Z (by first | omega | (simp; omega)) ?_ | refine ResP.aggT (by repeat (first | exact ResP.done | refine ResP.t ?_)) ?_)) Z (by repeat (first | exact trivial | refine ⟨rfl, rfl, ?_⟩)) (by decide) (hCa) Z Z Z ?_;refine AW (QG_ev tys Z Z (AA Z) Z (AF (AW (QG_ev tys Z Z (AA Z) Z (AF (Ae Z (AW (QG_ev tys Z Z (AA Z) Z (AF (AW (QG_ev tys Z Z (AA Z) Z (AF (AW (QG_ev tys Z Z (AA Z) Z (AF ?_)))))))))))))));refine ED ?_;refine ⟨by kernel_rfl, ?_⟩;refine nZ Z (WO_le (Le.open (u := 100) 1100 Z Z Z Z) (nZ Z (WO_le (Le.open (u := 101) 1101 Z Z Z Z) (nZ Z (nA (eK 2 Z (nB ?_)))))));refine AB Z (fun h2 => ?_) (fun h2 => ?_)
  ·
   simp only [HS] at h2;refine sG (eK 4 Z (nB (AQ (Le.close (u := 100) 1100 Z Z Z) (nY Z (AQ (Le.close (u := 101) 1101 Z Z Z) (nY Z (rT (bR (tR (AO (bR (tR ?_))))))))))));refine eP [_, _, _] ?_ ?_
   ·(have he := Oc hk0 hkl hex hR (Ll (by assumption)); exact Fn (by rw [he]) (by rw [he]))
   ·(have he := Oc hk0 hkl hex hR (Ll (by assumption)); rw [he]; rfl)
  simp only [HS] at h2;refine AC (bN (tN (rG (evI ?_))));refine eZ Z (oN ?_);refine lQ (_, _, _, _) ?_ ?_
  ·dsimp only
   exact BlI.next hk0 (by omega) hto hex hR hok1 (RZ (by assumption)) rfl rfl rfl rfl
  ·(show Int.toNat _ < Int.toNat _); omega
 simp only [HS] at h1;refine AP (tE (AK (AI (tN (sG (eK 2 Z (nB (AQ (Le.close (u := 100) 1100 Z Z Z) (nY Z (AQ (Le.close (u := 101) 1101 Z Z Z) (nY Z (rT ?_))))))))))));refine eP [_, _, _] ?_ ?_
 ·(have he := Qq (by omega) hex; exact Fn (by rw [he]; rfl) (by rw [he]))
 ·(have he := Qq (by omega) hex; rw [he]; rfl)
open Go.Eng
def stS (p : Prog) (inp : List Int) (L : Lev) (f : Func) (t : Stmt) (s : Sx) : Int × Int × Sx := Dd L (paramsL p) inp f t s
section
variable {p : Prog} {inp : List Int} {f : Func} {L : Lev} {t : Stmt} {s : Sx} {R B : Int × Int × Sx} {v : Int}
theorem Lx {m : Ms} (h : m.fuel = 0) : A8 m = m := by
 obtain ⟨u, fu, d, tr⟩ := m
 cases h;rfl
theorem st_0 (h : s.m.fuel = 0) : stS p inp L f t s = (5, 0, ⟨A8 s.m, s.vars, s.off, s.res, s.by'⟩) := by rw [stS, Dd, if_pos h, Lx h]
theorem st_3 (hf : s.m.fuel ≠ 0) (h : t.kind = 3) : stS p inp L f t s = (0, 0, ⟨A8 s.m, s.vars, s.off ++ [t.n], s.res, s.by'⟩) := by rw [stS, Dd, if_neg hf, if_pos h]
theorem st_6 (hf : s.m.fuel ≠ 0) (h : t.kind = 6) : stS p inp L f t s = (3, 0, ⟨A8 s.m, s.vars, s.off, s.res, s.by'⟩) := by rw [stS, Dd, if_neg hf, if_neg (by omega), if_pos h]
theorem st_e (hf : s.m.fuel ≠ 0) (h3 : t.kind ≠ 3) (h6 : t.kind ≠ 6) (hR : R = exS p inp L t.ex ⟨A8 s.m, s.vars, s.off, s.res, s.by'⟩) (h0 : ¬ R.1 = 0) : stS p inp L f t s = R := by
 rw [stS, Dd, if_neg hf, if_neg h3, if_neg h6]
 have e : exprS L.cal (paramsL p) inp t.ex [] { s with m := A8 s.m } = R := hR.symm
 simp only [e, if_neg h0]
theorem Mv (hf : s.m.fuel ≠ 0) (h3 : t.kind ≠ 3) (h6 : t.kind ≠ 6) (hR : R = exS p inp L t.ex ⟨A8 s.m, s.vars, s.off, s.res, s.by'⟩) (h0 : R.1 = 0) : stS p inp L f t s = doS L f t R.2.1 R.2.2 := by
 rw [stS, Dd, if_neg hf, if_neg h3, if_neg h6]
 have e : exprS L.cal (paramsL p) inp t.ex [] { s with m := A8 s.m } = R := hR.symm
 simp only [e, if_pos h0]
theorem do_1 (h : t.kind = 1) : doS L f t v s = (0, 0, ⟨s.m, s.vars.set t.n.toNat v, s.off, s.res, s.by'⟩) := by rw [doS, if_pos h]
theorem do_2 (h : t.kind = 2) : doS L f t v s = (0, 0, ⟨⟨s.m.used, s.m.fuel, s.m.deep, s.m.trace ++ [v]⟩, s.vars, s.off, s.res, s.by'⟩) := by rw [doS, if_neg (by omega), if_pos h]
theorem do_4 (h : t.kind = 4) : doS L f t v s = (2, v, s) := by rw [doS, if_neg (by omega), if_neg (by omega), if_pos h]
theorem do_5 (h : t.kind = 5) : doS L f t v s = (1, 0, ⟨s.m, s.vars, s.off, v, s.by'⟩) := by rw [doS, if_neg (by omega), if_neg (by omega), if_neg (by omega), if_pos h]
theorem do_7t (h : t.kind = 7) (hv : v ≠ 0) : doS L f t v s = blS L f t.thn s := by rw [doS, if_neg (by omega), if_neg (by omega), if_neg (by omega), if_neg (by omega), if_pos h, if_pos hv]; rfl
theorem do_7e (h : t.kind = 7) (hv : ¬ v ≠ 0) : doS L f t v s = blS L f t.els s := by rw [doS, if_neg (by omega), if_neg (by omega), if_neg (by omega), if_neg (by omega), if_pos h, if_neg hv]; rfl
theorem do_8z (h : t.kind = 8) (hv : v = 0) : doS L f t v s = (0, 0, s) := by rw [doS, if_neg (by omega), if_neg (by omega), if_neg (by omega), if_neg (by omega), if_neg (by omega), if_pos h, if_pos hv]
theorem do_8b (h : t.kind = 8) (hv : ¬ v = 0) (hB : B = blS L f t.thn s) (h0 : ¬ B.1 = 0) : doS L f t v s = B := by
 rw [doS, if_neg (by omega), if_neg (by omega), if_neg (by omega), if_neg (by omega), if_neg (by omega), if_pos h, if_neg hv]
 have e : blockS (L.stmt f) f t.thn s = B := hB.symm
 simp only [e, if_neg h0]
theorem do_8s (h : t.kind = 8) (hv : ¬ v = 0) (hB : B = blS L f t.thn s) (h0 : B.1 = 0) : doS L f t v s = L.stmt f t B.2.2 := by
 rw [doS, if_neg (by omega), if_neg (by omega), if_neg (by omega), if_neg (by omega), if_neg (by omega), if_pos h, if_neg hv]
 have e : blockS (L.stmt f) f t.thn s = B := hB.symm
 simp only [e, if_pos h0]
theorem do_9 (h1 : ¬ t.kind = 1) (h2 : ¬ t.kind = 2) (h4 : ¬ t.kind = 4) (h5 : ¬ t.kind = 5) (h7 : ¬ t.kind = 7) (h8 : ¬ t.kind = 8) : doS L f t v s = (0, 0, s) := by rw [doS, if_neg h1, if_neg h2, if_neg h4, if_neg h5, if_neg h7, if_neg h8]
end
theorem putI (x v : Int) : (T.int x).put 0 [T.int v] = T.int v := rfl
open Go.Eng
def lvS (p : Prog) (inp : List Int) (most n : Nat) (f : Func) (t : Stmt) (s : Sx) : Int × Int × Sx := (lev p inp most n).stmt f t s
theorem lv_0 {p : Prog} {inp : List Int} {most n : Nat} {f : Func} {t : Stmt} {s : Sx} (h : s.m.fuel = 0) : lvS p inp most n f t s = (5, 0, ⟨A8 s.m, s.vars, s.off, s.res, s.by'⟩) := by
 cases n with
 | zero => show (5, 0, s) = _; rw [Lx h]
 | succ n => exact st_0 h
def StI (p : Prog) (inp : List Int) (f : Func) (t : Stmt) (s : Sx) (pv iv bp bpv : Value) (q : Kp) (most n : Nat) (fn : Int) (fu : Int) (b1 b2 b3 : Blk) : Prop :=
 ∃ (n1 : Nat) (s1 : Sx), n1 ≤ n ∧ s1.m.fuel ≤ n1 ∧ fu = s1.m.fuel ∧ Sx.to p inp f 0 s s1 ∧ lvS p inp most n f t s = lvS p inp most n1 f t s1 ∧
  b1 = .box (rS pv iv most s1.m.fuel 0 s1.m) ∧ b2 = .box (gC fn s1.vars s1.off s1.res 0 0 false bp) ∧ b3 = .obox bpv (gC q.fn q.vars q.off q.res (hH s1.by') (nH s1.by') (xH s1.by') q.bp)
theorem NA (p : Prog) (inp : List Int) (most n : Nat) (hI : ∀ k, k < n → O3 p inp most k (lev p inp most k) ∧ Oq p inp most k (lev p inp most k)) (hg : goodP p = true) (hp : p.ok 1048576) (hi : inp.length ≤ 1048576) (hmost : most ≤ 1048576) (fn : Int) (f : Func) (t : Stmt) (s : Sx) (bm bc bb : Nat) (q : Kp) (pv iv : Value) (xv : List Value) (xt : List T) (h0 : 0 ≤ fn) (h1' : fn < p.funcs.length) (hfd : f = funcAt p fn) (ht : t ∈ f.stmts) (hs : s.ok p inp f) (hn : s.m.fuel ≤ n) (hn2 : s.m.fuel ≤ 1048576) (hti : s.m.trace.length + s.m.fuel ≤ 1048576) (hof : s.off.length + s.m.fuel ≤ 1048576) (hdm : s.m.deep ≤ most) : Proc Tryz.prog 138 [.t (.v (.pointer (some ⟨bm, 0, none⟩))), .t (.v (.pointer (some ⟨bc, 0, none⟩))), .t t.tt] ((pv :: iv :: xv)) ((T.Funcs p.funcs :: T.ints inp :: xt)) [.obox (.pointer (some ⟨bm, 0, none⟩)) (rS pv iv most s.m.fuel 0 s.m), .obox (.pointer (some ⟨bc, 0, none⟩)) (gC fn s.vars s.off s.res 0 0 false (byP bb s.by')), byK bb q s.by'] (.tup [.t (.int (haH (lvS p inp most n f t s).1)), .t (.int (lvS p inp most n f t s).2.1)]) [.obox (.pointer (some ⟨bm, 0, none⟩)) (rS pv iv most (fuH (lvS p inp most n f t s).1 (lvS p inp most n f t s).2.2.m) (coH (lvS p inp most n f t s).1) (lvS p inp most n f t s).2.2.m), .obox (.pointer (some ⟨bc, 0, none⟩)) (gC fn (lvS p inp most n f t s).2.2.vars (lvS p inp most n f t s).2.2.off (lvS p inp most n f t s).2.2.res 0 0 false (byP bb s.by')), .obox (byP bb s.by') (gC q.fn q.vars q.off q.res (hH (lvS p inp most n f t s).2.2.by') (nH (lvS p inp most n f t s).2.2.by') (xH (lvS p inp most n f t s).2.2.by') q.bp)] := by
 have hf : f ∈ p.funcs := hfd ▸ Ao h0 h1'
 have hgv := BI hg hf
 have hsh := hgv.2.2.2.2.1
 have hst : BD f.vars (paramsL p) t = true := by clear hfd hs; obtain ⟨q, hq, rfl⟩ := Se hf; obtain ⟨i, hi, rfl⟩ := Se ht; exact Cn (CH hg hq) hi
 obtain ⟨hk1, hk2, _⟩ := H1 hsh ht
 have hfo : f.ok 1048576 := hp.1.2 f hf
 have htok : t.ok 1048576 := hfo.2.1.2 t ht
 have hl1 : t.thn.length ≤ 1048576 := htok.2.1
 have hl2 : t.els.length ≤ 1048576 := htok.2.2.1
 have hfl : f.stmts.length ≤ 1048576 := hfo.2.1.1
 refine Proc.intro tys Tryz.func138 Z Z (N := 113) [100, 101, 102] 99 ([(0, .t (.v (.pointer (some ⟨bm, 0, none⟩)))), (1, .t (.v (.pointer (some ⟨bc, 0, none⟩)))), (2, .t t.tt)]) ([(100, .obox (.pointer (some ⟨bm, 0, none⟩)) (rS pv iv most s.m.fuel 0 s.m)), (101, .obox (.pointer (some ⟨bc, 0, none⟩)) (gC fn s.vars s.off s.res 0 0 false (byP bb s.by'))), (102, byK bb q s.by'), (99, .ro (pv :: iv :: xv) (T.Funcs p.funcs :: T.ints inp :: xt))]) Z Z Z Z (by decide) (by decide) Z (fun w0 G F0 => ?_);refine nY Z (AQ (Le.openNew (u := 100) 1100 Z Z Z Z Z) (nY Z (AQ (Le.named (t := 0) (u := 100) 1100 Z Z) (nY Z (AQ (Le.openNew (u := 101) 1101 Z Z Z Z Z) (nY Z (AQ (Le.named (t := 1) (u := 101) 1101 Z Z) (nY Z (sG (AR Z Z (AA Z) Z Z (nZ Z (eK 2 Z (nB (AD ?_))))))))))))));refine lK (α := Int × Blk × Blk × Blk) [0, 1, 5] [5, 99, 1100, 1101] (fun x => []) (fun x => [(100, (x.2.1)), (101, (x.2.2.1)), (102, (x.2.2.2))]) (fun x => StI p inp f t s pv iv (byP bb s.by') (byP bb s.by') q most n fn (x.1) (x.2.1) (x.2.2.1) (x.2.2.2)) (fun x => Int.toNat ((x.1))) (s.m.fuel, .box (rS pv iv most s.m.fuel 0 s.m), .box (gC fn s.vars s.off s.res 0 0 false (byP bb s.by')), .obox (byP bb s.by') (gC q.fn q.vars q.off q.res (hH s.by') (nH s.by') (xH s.by') q.bp)) ?_ (fun x hx => ?_)
 ·exact ⟨n, s, SR _, hn, rfl, Sx.to.refl hs (by omega) (by omega), rfl, rfl, rfl, rfl⟩
 obtain ⟨fu, b1, b2, b3⟩ := x
 obtain ⟨n1, s1, hn1, hfn, hfuE, hto, hex, hb1, hb2, hb3⟩ := hx
 dsimp only at hn1 hfn hfuE hto hex hb1 hb2 hb3 ⊢;subst hb1 hb2 hb3 hfuE;refine nY Z (AD (sQ (sG ?_)))
 have hfu : s1.m.fuel ≤ s.m.fuel := hto.le.1
 have hft : s1.m.trace.length + s1.m.fuel ≤ s.m.trace.length + s.m.fuel := hto.le.2.1
 have hofs : s1.off.length + s1.m.fuel ≤ s.off.length + s.m.fuel := hto.offl
 have hdp : s1.m.deep = s.m.deep := hto.deep (by omega)
 have hBu := Gq bm pv iv most s1.m (pv :: iv :: xv) (T.Funcs p.funcs :: T.ints inp :: xt) (by omega)
 obtain ⟨co, hco⟩ : ∃ co : Int, co = if s1.m.fuel = 0 then 5 else 0 := ⟨_, rfl⟩
 rw [← hco] at hBu;refine eZ Z (WO_le (Le.close (u := 100) 1100 Z Z Z) (nZ Z ?_));refine cP [100] (hm := (hBu)) (k := ?_);refine nZ Z (WO_le (Le.open (u := 100) 1100 Z Z Z Z) (nZ Z (eZ Z (nB ?_))));refine AB Z (fun h1 => ?_) (fun h1 => ?_)
 ·
  simp only [HS] at h1;refine sG (eK 2 Z (nB (AQ (Le.close (u := 100) 1100 Z Z Z) (nY Z (AQ (Le.close (u := 101) 1101 Z Z Z) (nY Z (rT (tR (bR (AO (bR ?_)))))))))));refine eP [_, _, _] ?_ ?_
  ·(have hout := hex.trans (lv_0 (n := n1) (f := f) (t := t) (by omega)); exact Fn (by rw [hout] <;> rfl) (by rw [hout] <;> rfl))
  ·(have hout := hex.trans (lv_0 (n := n1) (f := f) (t := t) (by omega)); rw [if_pos (by omega)] at hco; subst hco; rw [hout]; rfl)
 simp only [HS] at h1;refine AC (tN (sQ (sG ?_)))
 have hfz : s1.m.fuel ≠ 0 := by simp_all
 rw [if_neg hfz] at hco;subst hco
 obtain ⟨k, hk⟩ : ∃ k, n1 = k + 1 := ⟨n1 - 1, by omega⟩
 subst hk
 have hex' : lvS p inp most n f t s = stS p inp (lev p inp most k) f t s1 := hex
 refine eK 2 Z (nB (AD (sG (eK 2 Z (nB ?_)))));refine AB Z (fun h2 => ?_) (fun h2 => ?_)
 ·
  simp only [HS] at h2;refine sQ ?_
  have hout := hex'.trans (st_3 hfz (by assumption))
  refine kY [0,1,5,12,13,14,15,16,17,18] Z (BQ [[101], [], [], [], [], [101], [101], [101], [], [], [], []] BJ (by kernel_rfl) (Da (QG_ev tys Z Z (AA Z) Z (AF (AW (QG_ev tys Z Z (AA Z) Z (AF (AW (CA rfl Z (AA Z) Z Z Z (AF (AW (QG_ev tys Z Z (AA Z) Z (AF (Ae Z (Hi tys Z Z (AA Z) Z Z Z Z Z Z ?_)))))))))))))));refine Da (QG_ev tys Z Z (AA Z) Z (AF (Da (QG_ev tys Z Z (AA Z) Z (AF (Da ?_))))));refine G1 tys [T.int t.n] Z Z (AA Z) Z Z Z Z Z (AA Z) (by repeat (first | exact PartsOk.nil' | refine PartsOk.cons' rfl (by repeat (first | exact AbsL.nil' | refine AbsL.v' ?_ | refine AbsL.own' ?_ | refine AbsL.none' ?_)) Z ?_)) Z Z Z (by decide) ?_;refine AF (Ae Z (AW (FR tys Z Z (AA Z) Z Z Z Z Z Z Z Z Z ((fun x hx => by rw [SN] at hx; subst hx; exact ⟨rfl, fun z hz => ⟨_, by simpa [T.cells] using hz⟩⟩)) (by simp; omega) (by decide) Z ?_)));refine AF (AW (CA rfl Z (AA Z) Z Z Z (AF (AW (QG_ev tys Z Z (AA Z) Z (AF (G0 tys Z Z Z Z Z Z Z Z Z (So Z) (Ae Z (ED ?_)))))))));refine ⟨by kernel_rfl, ?_⟩;refine nZ Z (nA (eK 2 Z (nB (AQ (Le.close (u := 100) 1100 Z Z Z) (nY Z (AQ (Le.close (u := 101) 1101 Z Z Z) (nY Z (rT (bR (tR (bR (AO (bR ?_)))))))))))));refine eP [_, _, _] ?_ ?_
  ·exact Fn (by rw [hout] <;> rfl) (by rw [hout] <;> rfl)
  ·rw [hout]
   simp [rS, gC, T.ints, putI, SH, A8, fuH, coH]
   done
 simp only [HS] at h2;refine sQ (kY [0,1,5,12,13,14,15,16,17,18] Z (rG (eK 2 Z (nB ?_))));refine AB Z (fun h3 => ?_) (fun h3 => ?_)
 ·
  simp only [HS] at h3;refine sG (eK 2 Z (nB (AQ (Le.close (u := 100) 1100 Z Z Z) (nY Z (AQ (Le.close (u := 101) 1101 Z Z Z) (nY Z (rT (bR (tR (bR (AO (bR ?_))))))))))));refine eP [_, _, _] ?_ ?_
  ·(have hout := hex'.trans (st_6 (f := f) hfz (by assumption)); exact Fn (by rw [hout] <;> rfl) (by rw [hout] <;> rfl))
  ·(have hout := hex'.trans (st_6 (f := f) hfz (by assumption)); rw [hout]; rfl)
 simp only [HS] at h3;refine AC (bN (tN (sG ?_)))
 have hk3 : t.kind ≠ 3 := by assumption
 have hk6 : t.kind ≠ 6 := by assumption
 have hL := El (inp := inp) hg most k
 obtain ⟨hIc, hIs⟩ := hI k (by omega)
 have hb := hto.ok.burn hfz
 obtain ⟨mx, hru⟩ := ES hst hk3 hk6
 obtain ⟨R, hR⟩ : ∃ R, R = exS p inp (lev p inp most k) t.ex ⟨A8 s1.m, s1.vars, s1.off, s1.res, s1.by'⟩ := ⟨_, rfl⟩
 have he := Eu hL hg (pile := []) hb.ok (l := t.ex) (mx := 0) (by simpa using hru)
 have hbf : (A8 s1.m).fuel = s1.m.fuel - 1 := rfl
 have hbt : (A8 s1.m).trace.length = s1.m.trace.length := rfl
 have hbd : (A8 s1.m).deep = s1.m.deep := rfl
 have hE := OK p inp most k (lev p inp most k) hL hIc hg hp hi f hf fn t.ex (GC hst) ⟨mx, hru⟩ ⟨A8 s1.m, s1.vars, s1.off, s1.res, s1.by'⟩ hb.ok (by dsimp only; omega) (by dsimp only; omega) (by dsimp only; omega) (by dsimp only; omega) hmost bm bc bb q pv iv xv xt
 change Sx.to p inp f (exS p inp (lev p inp most k) t.ex ⟨A8 s1.m, s1.vars, s1.off, s1.res, s1.by'⟩).1 _ (exS p inp (lev p inp most k) t.ex ⟨A8 s1.m, s1.vars, s1.off, s1.res, s1.by'⟩).2.2 at he;unfold byK at hE;dsimp only at hE;rw [← hR] at he;rw [← hR, Gp (bb := bb) hto.by'] at hE
 have he0 := he.h0
 obtain ⟨fu1, hfu1⟩ : ∃ fu1, fu1 = fuH R.1 R.2.2.m := ⟨_, rfl⟩
 obtain ⟨co1, hco1⟩ : ∃ co1, co1 = coH R.1 := ⟨_, rfl⟩
 rw [← hfu1, ← hco1] at hE;refine eK 4 Z (WO_le (Le.close (u := 100) 1100 Z Z Z) (nZ Z (WO_le (Le.close (u := 101) 1101 Z Z Z) (nZ Z ?_))));refine cP [100,101,102] (hm := (hE)) (k := ?_);refine nZ Z (WO_le (Le.open (u := 100) 1100 Z Z Z Z) (nZ Z (WO_le (Le.open (u := 101) 1101 Z Z Z Z) (nZ Z (eZ Z (WO_evF tys Z Z (AA Z) (d := .t _) Z (nZ Z (kZ [0,1,5,12,13,14,15,16,17,18,30,31,32,33,34,35,36,37,38] Z (WO_evF tys Z Z (AA Z) (d := .t _) Z (nZ Z (eK 2 Z (nB (sQ (sG (eK 2 Z ?_)))))))))))))));refine nB ?_;refine AB Z (fun h4 => ?_) (fun h4 => ?_)
 ·
  simp only [HS] at h4;refine sG ?_
  have hout := hex'.trans (st_e (f := f) hfz hk3 hk6 hR (Ll (by assumption)))
  subst hfu1 hco1;refine eK 4 Z (kZ [0,1,5,6,7,8,9,12,13,14,15,16,17,18,30,31,32,33,34,35,36,37,38,39,40,41,42,43] Z (nB (AQ (Le.close (u := 100) 1100 Z Z Z) (nY Z (AQ (Le.close (u := 101) 1101 Z Z Z) (nY Z (rT (tR (bR (AO (bR ?_)))))))))));refine eP [_, _, _] ?_ ?_
  ·exact Fn (by rw [hout] <;> rfl) (by rw [hout] <;> rfl)
  ·rw [hout]
   rfl
 simp only [HS] at h4;refine AC (tN (sQ (sG ?_)))
 have hz : R.1 = 0 := RZ (by assumption)
 rw [hz, Jv (by omega)] at hfu1;rw [hz, J2 (by omega)] at hco1;subst hfu1 hco1
 have hok2 := he.ok
 have hf2 : R.2.2.m.fuel ≤ s1.m.fuel - 1 := he.le.1
 have ht2 : R.2.2.m.trace.length + R.2.2.m.fuel ≤ s1.m.trace.length + (s1.m.fuel - 1) := he.le.2.1
 have ho2 : R.2.2.off.length + R.2.2.m.fuel ≤ s1.off.length + (s1.m.fuel - 1) := he.offl
 have hd2 : R.2.2.m.deep = s.m.deep := (he.deep (by omega)).trans hdp
 have hvl : R.2.2.vars.length = f.vars.toNat := hok2.vars
 have hby2 : R.2.2.by'.isSome = s.by'.isSome := he.by'.trans hto.by'
 have h1B : Sx.to p inp f R.1 s1 R.2.2 := hb.trans he (by omega)
 refine eK 2 Z (nB (AD (sQ (kY [0,1,5,8,9,12,13,14,15,16,17,18,30,31,32,33,34,35,36,37,38,39,40,41,44,45] Z (rG (eK 2 Z (nB ?_)))))));refine AB Z (fun h5 => ?_) (fun h5 => ?_)
 ·
  simp only [HS] at h5
  have hk1' : t.kind = 1 := by assumption
  have hn1 : 0 ≤ t.n ∧ t.n ≤ f.vars - 1 := by have := hst; grind [BD, Ak]
  have hout := hex'.trans ((Mv (f := f) hfz hk3 hk6 hR hz).trans (do_1 hk1'))
  refine AQ (Le.adoptBox (u := 101) (j := 1) (id := 191) Z Z Z) (nY Z (BQ [[], [], [], [], [], [], [], [], []] BJ (by kernel_rfl) (AW (QG_ev tys Z Z (AA Z) Z (AF (AW (CA rfl Z (AA Z) Z Z Z (AF (AW (QG_ev tys Z Z (AA Z) Z (AF (AW (QG_ev tys Z Z (AA Z) Z (AF (Ae Z ?_)))))))))))))));refine AW (QG_ev tys Z Z (AA Z) Z (AF (AW (QG_ev tys Z Z (AA Z) Z (AF (AW (QG_ev tys Z Z (AA Z) Z (AF (Da (K2 tys Z Z (AA Z) Z Z Z Z Z Z Z Z hn1.1 (by rw [SE, hvl]; omega) ?_))))))))));refine AF (Ae Z ?_);refine Mt tys 10008 [T.int R.2.1] Z Z Z Z Z Z (Dk _ _ hn1.1 (by rw [hvl]; omega)) Z Z (by repeat (first | exact AbsL.nil' | refine AbsL.v' ?_)) Z (by decide) (So Z) ?_;refine ED ?_;refine ⟨by kernel_rfl, ?_⟩;refine nZ Z (WO_le (Le.gatherBox (u := 101) (j := 1) (id := 191) Z Z Z (by simp) Z) ?_);refine nZ Z (oN (bN (tN (sG (eK 2 Z (nB (AQ (Le.close (u := 100) 1100 Z Z Z) (nY Z (AQ (Le.close (u := 101) 1101 Z Z Z) (nY Z (rT (bR (AO (bR ?_))))))))))))));refine eP [_, _, _] ?_ ?_
  ·exact Fn (by rw [hout] <;> rfl) (by rw [hout] <;> rfl)
  ·rw [hout]
   simp [rS, gC, T.ints, putI, SH, A8, fuH, coH]
   done
 simp only [HS] at h5;refine sG (eK 2 Z (nB ?_));refine AB Z (fun h6 => ?_) (fun h6 => ?_)
 ·
  simp only [HS] at h6;refine rG ?_
  have hout := hex'.trans ((Mv (f := f) hfz hk3 hk6 hR hz).trans (do_2 (by assumption)))
  refine eK 2 Z (AG rfl Z (AA Z) Z Z Z (eK 2 Z (kZ [0,1,5,8,9,12,13,14,15,16,17,18,30,31,32,33,34,35,36,37,38,39,40,41,44,45,46,47,56,57,58,59,60,61,62] Z (WO_loadOwn tys Z Z (AA Z) Z Z Z Z Z Z (WO_le (Le.adoptE (u := 63) 63 Z Z) (nZ Z (eZ Z (bZ [T.int R.2.1] ?_))))))));refine nZ Z (AH tys Z Z (AA Z) Z Z Z Z Z (.own Z (by first | omega | (simp only [SD]; omega))) Z (.own Z (by first | decide | omega)) (by decide) (by simp; omega) (by decide) Z ?_);refine nZ Z (WO_le (Le.gather (u := 66) (id := 63) Z Z (by first | (simp; done) | (simp; omega) | omega)) ?_);refine nZ Z (AG rfl Z (AA Z) Z Z Z (eK 2 Z (sT Z (nZ Z (oN (bN (tN (sQ (kY [0,1,5,8,9,12,13,14,15,16,17,18,30,31,32,33,34,35,36,37,38,39,40,41,44,45,46,47,56,57,58,59,60,61,62,63,64,65,66,67,68,69] Z (rG (eK 2 Z (nB (AQ (Le.close (u := 100) 1100 Z Z Z) (nY Z (AQ (Le.close (u := 101) 1101 Z Z Z) ?_)))))))))))))));refine nY Z (rT (bR (AO (bR ?_))));refine eP [_, _, _] ?_ ?_
  ·exact Fn (by rw [hout] <;> rfl) (by rw [hout] <;> rfl)
  ·rw [hout]
   simp [rS, gC, T.ints, putI, SH, A8, fuH, coH]
   done
 simp only [HS] at h6;refine sG (eK 2 Z (nB ?_));refine AB Z (fun h7 => ?_) (fun h7 => ?_)
 ·
  simp only [HS] at h7;refine sG ?_
  have hout := hex'.trans ((Mv (f := f) hfz hk3 hk6 hR hz).trans (do_4 (by assumption)))
  refine eK 3 Z (kZ [0,1,5,6,7,8,9,12,13,14,15,16,17,18,30,31,32,33,34,35,36,37,38,39,40,41,44,45,46,47,56,57,70,71,72] Z (nB (AQ (Le.close (u := 100) 1100 Z Z Z) (nY Z (AQ (Le.close (u := 101) 1101 Z Z Z) (nY Z (rT (bR (tR (bR (AO (bR ?_))))))))))));refine eP [_, _, _] ?_ ?_
  ·exact Fn (by rw [hout] <;> rfl) (by rw [hout] <;> rfl)
  ·rw [hout]
   rfl
 simp only [HS] at h7;refine sG (eK 2 Z (nB ?_));refine AB Z (fun h8 => ?_) (fun h8 => ?_)
 ·
  simp only [HS] at h8;refine sQ (kY [0,1,5,8,9,12,13,14,15,16,17,18,30,31,32,33,34,35,36,37,38,39,40,41,44,45,46,47,56,57,70,71,73,74] Z (rG ?_))
  have hout := hex'.trans ((Mv (f := f) hfz hk3 hk6 hR hz).trans (do_5 (by assumption)))
  refine eK 2 Z (AG rfl Z (AA Z) Z Z Z (eZ Z (sT Z (nZ Z (nA (eK 2 Z (nB (AQ (Le.close (u := 100) 1100 Z Z Z) (nY Z (AQ (Le.close (u := 101) 1101 Z Z Z) (nY Z (rT (bR (tR (bR ?_)))))))))))))));refine AO (bR ?_);refine eP [_, _, _] ?_ ?_
  ·exact Fn (by rw [hout] <;> rfl) (by rw [hout] <;> rfl)
  ·rw [hout]
   rfl
 simp only [HS] at h8;refine sQ (kY [0,1,5,8,9,12,13,14,15,16,17,18,30,31,32,33,34,35,36,37,38,39,40,41,44,45,46,47,56,57,70,71,73,74] Z (rG (eK 2 Z (nB ?_))));refine AB Z (fun h9 => ?_) (fun h9 => ?_)
 ·
  simp only [HS] at h9;refine sQ (sG (eK 2 Z (nB ?_)));refine AB Z (fun h10 => ?_) (fun h10 => ?_)
  ·
   simp only [HS] at h10;refine sG ?_
   have hout := hex'.trans ((Mv (f := f) hfz hk3 hk6 hR hz).trans (do_7t (by assumption) (by omega)))
   have hB := D4 p inp most k (lev p inp most k) hL hIs fn f h0 h1' hfd hfl t.thn hk1 hl1 R.2.2 hok2 (by omega) (by omega) (by omega) (by omega) (by omega) bm bc bb q pv iv xv xt
   unfold byK at hB;rw [Gp (bb := bb) hby2] at hB;refine eK 4 Z (WO_le (Le.close (u := 100) 1100 Z Z Z) (nZ Z (WO_le (Le.close (u := 101) 1101 Z Z Z) (nZ Z ?_))));refine cP [100,101,102] (hm := (hB)) (k := ?_);refine nZ Z (WO_le (Le.open (u := 100) 1100 Z Z Z Z) (nZ Z (WO_le (Le.open (u := 101) 1101 Z Z Z Z) (nZ Z (kZ [0,1,5,8,9,12,13,14,15,16,17,18,30,31,32,33,34,35,36,37,38,39,40,41,44,45,46,47,56,57,70,71,73,74,79,80,81,82,83,84,85,86,87] Z (WO_evF tys Z Z (AA Z) (d := .t _) Z (nZ Z (WO_evF tys Z Z (AA Z) (d := .t _) Z (nZ Z (eK 2 Z (nB (AQ (Le.close (u := 100) 1100 Z Z Z) (nY Z (AQ (Le.close (u := 101) 1101 Z Z Z) (nY Z ?_)))))))))))))));refine rT (tR (bR (tR (bR (AO (bR ?_))))));refine eP [_, _, _] ?_ ?_
   ·exact Fn (by rw [hout] <;> rfl) (by rw [hout] <;> rfl)
   ·rw [hout]
    rfl
  simp only [HS] at h10;refine AC (tN (sG ?_))
  have hout := hex'.trans ((Mv (f := f) hfz hk3 hk6 hR hz).trans (do_7e (by assumption) (by omega)))
  have hB := D4 p inp most k (lev p inp most k) hL hIs fn f h0 h1' hfd hfl t.els hk2 hl2 R.2.2 hok2 (by omega) (by omega) (by omega) (by omega) (by omega) bm bc bb q pv iv xv xt
  unfold byK at hB;rw [Gp (bb := bb) hby2] at hB;refine eK 4 Z (WO_le (Le.close (u := 100) 1100 Z Z Z) (nZ Z (WO_le (Le.close (u := 101) 1101 Z Z Z) (nZ Z ?_))));refine cP [100,101,102] (hm := (hB)) (k := ?_);refine nZ Z (WO_le (Le.open (u := 100) 1100 Z Z Z Z) (nZ Z (WO_le (Le.open (u := 101) 1101 Z Z Z Z) (nZ Z (kZ [0,1,5,8,9,12,13,14,15,16,17,18,30,31,32,33,34,35,36,37,38,39,40,41,44,45,46,47,56,57,70,71,73,74,79,80,81,82,90,91,92,93,94] Z (WO_evF tys Z Z (AA Z) (d := .t _) Z (nZ Z (WO_evF tys Z Z (AA Z) (d := .t _) Z (nZ Z (eK 2 Z (nB (AQ (Le.close (u := 100) 1100 Z Z Z) (nY Z (AQ (Le.close (u := 101) 1101 Z Z Z) (nY Z ?_)))))))))))))));refine rT (bR (tR (bR (AO (bR ?_)))));refine eP [_, _, _] ?_ ?_
  ·exact Fn (by rw [hout] <;> rfl) (by rw [hout] <;> rfl)
  ·rw [hout]
   rfl
 simp only [HS] at h9;refine sG (eK 2 Z (nB ?_));refine AB Z (fun h10 => ?_) (fun h10 => ?_)
 ·
  simp only [HS] at h10;refine sG (eK 2 Z (nB ?_));refine AB Z (fun h11 => ?_) (fun h11 => ?_)
  ·
   simp only [HS] at h11;refine sQ (sG ?_)
   have hB := D4 p inp most k (lev p inp most k) hL hIs fn f h0 h1' hfd hfl t.thn hk1 hl1 R.2.2 hok2 (by omega) (by omega) (by omega) (by omega) (by omega) bm bc bb q pv iv xv xt
   have hb2o := BP (hL.stmt _ hf) hk1 hok2
   obtain ⟨B, hBd⟩ : ∃ B, B = blS (lev p inp most k) f t.thn R.2.2 := ⟨_, rfl⟩
   change Sx.to p inp f (blS (lev p inp most k) f t.thn R.2.2).1 _ (blS (lev p inp most k) f t.thn R.2.2).2.2 at hb2o;unfold byK at hB;rw [Gp (bb := bb) hby2, ← hBd] at hB;rw [← hBd] at hb2o
   have hB0 := hb2o.h0
   have hf3 : B.2.2.m.fuel ≤ R.2.2.m.fuel := hb2o.le.1
   refine eK 3 Z (kZ [0,1,5,8,9,12,13,14,15,16,17,18,30,31,32,33,34,35,36,37,38,39,40,41,44,45,46,47,56,57,70,71,73,74,79,80,97,98,99,100,102,103,104] Z (eZ Z (WO_le (Le.close (u := 100) 1100 Z Z Z) (nZ Z (WO_le (Le.close (u := 101) 1101 Z Z Z) (nZ Z ?_))))));refine cP [100,101,102] (hm := (hB)) (k := ?_);refine nZ Z (WO_le (Le.open (u := 100) 1100 Z Z Z Z) (nZ Z (WO_le (Le.open (u := 101) 1101 Z Z Z Z) (nZ Z (eZ Z (WO_evF tys Z Z (AA Z) (d := .t _) Z (nZ Z (WO_evF tys Z Z (AA Z) (d := .t _) Z (nZ Z (eK 2 Z (nB (sQ (kY [0,1,5,8,9,10,11,12,13,14,15,16,17,18,30,31,32,33,34,35,36,37,38,39,40,41,44,45,46,47,56,57,70,71,73,74,79,80,97,98,99,100,101,102,103,104,105,106,107,108] Z (rG (eK 2 Z ?_)))))))))))))));refine nB ?_;refine AB Z (fun h12 => ?_) (fun h12 => ?_)
   ·
    simp only [HS] at h12;refine sG ?_
    have hout := hex'.trans ((Mv (f := f) hfz hk3 hk6 hR hz).trans (do_8b (by assumption) (by omega) hBd (Ll (by assumption))))
    refine eK 4 Z (nB (AQ (Le.close (u := 100) 1100 Z Z Z) (nY Z (AQ (Le.close (u := 101) 1101 Z Z Z) (nY Z (rT (tR (bR (tR (bR (AO (bR ?_))))))))))));refine eP [_, _, _] ?_ ?_
    ·exact Fn (by rw [hout] <;> rfl) (by rw [hout] <;> rfl)
    ·rw [hout]
     rfl
   simp only [HS] at h12;refine AC (tN (AP (N7 Z (tE (AI ?_)))));refine lQ ((B.2.2.m.fuel : Int), _, _, _) ?_ ?_
   ·dsimp only
    have hB1 : B.1 = 0 := RZ (by assumption); refine ⟨k, B.2.2, by omega, by omega, rfl, (hto.trans h1B (by omega)).trans (by rw [hB1] at hb2o; exact hb2o) (by omega), hex'.trans ((Mv (f := f) hfz hk3 hk6 hR hz).trans (do_8s (by assumption) (by omega) hBd hB1)), ?_, rfl, rfl⟩; rw [hB1, Jv (by omega), J2 (by omega)]; rfl
   ·(show Int.toNat _ < Int.toNat _); omega
  simp only [HS] at h11;refine AC (bN (tN (sG (eK 2 Z (nB (AQ (Le.close (u := 100) 1100 Z Z Z) (nY Z (AQ (Le.close (u := 101) 1101 Z Z Z) (nY Z (rT (bR (AO (bR ?_)))))))))))));refine eP [_, _, _] ?_ ?_
  ·(have hout := hex'.trans ((Mv (f := f) hfz hk3 hk6 hR hz).trans (do_8z (by assumption) (by omega))); exact Fn (by rw [hout] <;> rfl) (by rw [hout] <;> rfl))
  ·(have hout := hex'.trans ((Mv (f := f) hfz hk3 hk6 hR hz).trans (do_8z (by assumption) (by omega))); rw [hout]; rfl)
 simp only [HS] at h10;refine AC (bN (tN (sG (eK 2 Z (nB (AQ (Le.close (u := 100) 1100 Z Z Z) (nY Z (AQ (Le.close (u := 101) 1101 Z Z Z) (nY Z (rT (bR (AO (bR ?_)))))))))))));refine eP [_, _, _] ?_ ?_
 ·(have hout := hex'.trans ((Mv (f := f) hfz hk3 hk6 hR hz).trans (do_9 (by assumption) (by assumption) (by assumption) (by assumption) (by assumption) (by assumption))); exact Fn (by rw [hout] <;> rfl) (by rw [hout] <;> rfl))
 ·(have hout := hex'.trans ((Mv (f := f) hfz hk3 hk6 hR hz).trans (do_9 (by assumption) (by assumption) (by assumption) (by assumption) (by assumption) (by assumption))); rw [hout]; rfl)
open Go.Eng
def caS (p : Prog) (L : Lev) (most : Nat) (fn : Int) (args : List Int) (b : Option By) (m : Ms) : Int × Int × Option By × Ms := DZ L p most fn args b m
def LW (L : Lev) (k : Int) (b : Option By) (m : Ms) : Int × Int × Option By × Ms := L.call k [] b m
section
variable {p : Prog} {inp : List Int} {f : Func} {L : Lev} {most : Nat} {fn : Int} {args : List Int} {b : Option By} {m : Ms} {R : Int × Int × Sx} {Q : Int × By × Ms}
theorem ca_0 (h : m.fuel = 0) : caS p L most fn args b m = (5, 0, b, A8 m) := by rw [caS, DZ, if_pos h, Lx h]
theorem ca_d (hf : m.fuel ≠ 0) (h : m.deep = most) : caS p L most fn args b m = (4, 0, b, A8 m) := by rw [caS, DZ, if_neg hf, if_pos h]
theorem ca_e (hf : m.fuel ≠ 0) (h : m.deep ≠ most) (hfd : f = funcAt p fn) (hR : R = blS L f f.body (startS f args b m)) (h4 : 4 ≤ R.1) : caS p L most fn args b m = (R.1, 0, R.2.2.by', R.2.2.m) := by
 subst hfd;rw [caS, DZ, if_neg hf, if_neg h]
 have e : blockS (L.stmt (funcAt p fn)) (funcAt p fn) (funcAt p fn).body (startS (funcAt p fn) args b m) = R := hR.symm
 simp only [e, if_pos h4]
theorem ca_o (hf : m.fuel ≠ 0) (h : m.deep ≠ most) (hfd : f = funcAt p fn) (hR : R = blS L f f.body (startS f args b m)) (h4 : ¬ 4 ≤ R.1) (hQ : offR (LW L) R.2.2.off.reverse (endS R.1 R.2.1) R.2.2.m = Q) (h5 : 4 ≤ Q.1) : caS p L most fn args b m = (Q.1, 0, R.2.2.by', Q.2.2) := by
 subst hfd;rw [caS, DZ, if_neg hf, if_neg h]
 have e : blockS (L.stmt (funcAt p fn)) (funcAt p fn) (funcAt p fn).body (startS (funcAt p fn) args b m) = R := hR.symm
 have e2 : offR (fun k b m => L.call k [] b m) R.2.2.off.reverse (endS R.1 R.2.1) R.2.2.m = Q := hQ
 simp only [e, if_neg h4, e2, if_pos h5]
theorem ca_f (hf : m.fuel ≠ 0) (h : m.deep ≠ most) (hfd : f = funcAt p fn) (hR : R = blS L f f.body (startS f args b m)) (h4 : ¬ 4 ≤ R.1) (hQ : offR (LW L) R.2.2.off.reverse (endS R.1 R.2.1) R.2.2.m = Q) (h5 : ¬ 4 ≤ Q.1) : caS p L most fn args b m = (Q.2.1.how, if Q.2.1.how = 2 then Q.2.1.pan else R.2.2.res, R.2.2.by', ⟨Q.2.2.used, Q.2.2.fuel, Q.2.2.deep - 1, Q.2.2.trace⟩) := by
 subst hfd;rw [caS, DZ, if_neg hf, if_neg h]
 have e : blockS (L.stmt (funcAt p fn)) (funcAt p fn) (funcAt p fn).body (startS (funcAt p fn) args b m) = R := hR.symm
 have e2 : offR (fun k b m => L.call k [] b m) R.2.2.off.reverse (endS R.1 R.2.1) R.2.2.m = Q := hQ
 simp only [e, if_neg h4, e2, if_neg h5]
end
section
variable {p : Prog} {inp : List Int} {L : Lev} {off : List Int} {b0 b1 : By} {m0 m1 : Ms} {pv iv : Value} {most : Int} {k : Int} {R : Int × Int × Option By × Ms} {c : By}
theorem PF (h0 : 0 ≤ k) (h1 : k < off.length) : (off.take (k + 1).toNat).reverse = off[k.toNat]'(by omega) :: (off.take (k - 1 + 1).toNat).reverse := by
 rw [show (k + 1).toNat = k.toNat + 1 from by omega, show (k - 1 + 1).toNat = k.toNat from by omega, List.take_succ_eq_append_getElem (by omega), List.reverse_append];rfl
end
open Go.Eng
def lvC (p : Prog) (inp : List Int) (most n : Nat) (fn : Int) (args : List Int) (b : Option By) (m : Ms) : Int × Int × Option By × Ms := (lev p inp most n).call fn args b m
theorem lc_0 {p : Prog} {inp : List Int} {most n : Nat} {fn : Int} {args : List Int} {b : Option By} {m : Ms} (h : m.fuel = 0) : lvC p inp most n fn args b m = (5, 0, b, A8 m) := by
 cases n with
 | zero => show (5, 0, b, m) = _; rw [Lx h]
 | succ n => exact ca_0 h
def OfI (inp : List Int) (L : Lev) (off : List Int) (b0 : By) (m0 : Ms) (pv iv : Value) (most fn : Int) (vars : List Int) (res : Int) (bp : Value) (l : List Int) (B1 B2 : Blk) : Prop :=
 ∃ (b1 : By) (m1 : Ms), (∀ x, x ∈ l → x ∈ off) ∧ l.length ≤ off.length ∧ offR (LW L) off.reverse b0 m0 = offR (LW L) l.reverse b1 m1 ∧ 1 ≤ b1.how ∧ b1.how < 4 ∧ m0.le inp m1 ∧ m1.deep = m0.deep ∧ B1 = .box (rS pv iv most m1.fuel 0 m1) ∧ B2 = .box (gC fn vars l res b1.how b1.pan b1.exd bp)
section
variable {p : Prog} {inp : List Int} {L : Lev} {off l : List Int} {b0 b1 : By} {m0 m1 : Ms} {pv iv bp : Value} {most fn res x : Int} {vars : List Int} {R : Int × Int × Option By × Ms} {c : By}
theorem revL (h : 0 < (l.length : Int)) : l.reverse = l[((l.length : Int) - 1).toNat]'(by omega) :: (l.take ((l.length : Int) - 1).toNat).reverse := by
 have := PF (off := l) (k := (l.length : Int) - 1) (by omega) (by omega)
 rw [show ((l.length : Int) - 1 + 1).toNat = l.length from by omega, SY, show ((l.length : Int) - 1 - 1 + 1).toNat = ((l.length : Int) - 1).toNat from by omega] at this;exact this
theorem LV (h : 0 < (l.length : Int)) (hex : offR (LW L) off.reverse b0 m0 = offR (LW L) l.reverse b1 m1) (hR : R = L.call (l[((l.length : Int) - 1).toNat]'(by omega)) [] (some b1) m1) (hc : R.2.2.1 = some c) (h4 : 4 ≤ R.1) : offR (LW L) off.reverse b0 m0 = (R.1, c, R.2.2.2) := by
 have e : LW L (l[((l.length : Int) - 1).toNat]'(by omega)) (some b1) m1 = R := hR.symm
 rw [hex, revL h, offR];simp only [e, if_pos h4, hc, Option.getD_some]
theorem ofI_next (h : 0 < (l.length : Int)) (hin : ∀ x, x ∈ l → x ∈ off) (hlen : l.length ≤ off.length) (hex : offR (LW L) off.reverse b0 m0 = offR (LW L) l.reverse b1 m1) (hb1 : 1 ≤ b1.how) (hb2 : b1.how < 4) (hle : m0.le inp m1) (hd : m1.deep = m0.deep) (hR : R = L.call (l[((l.length : Int) - 1).toNat]'(by omega)) [] (some b1) m1)
  (hto : Ms.to inp R.1 (some b1) R.2.2.1 m1 R.2.2.2) (hc : R.2.2.1 = some c) (h4 : ¬ 4 ≤ R.1) {b2 : By} (hb : b2 = if R.1 = 1 then c else ⟨R.1, if R.1 = 2 then R.2.1 else c.pan, c.exd || decide (R.1 = 3)⟩) {B1 B2 : Blk} (e1 : B1 = .box (rS pv iv most (fuH R.1 R.2.2.2) (coH R.1) R.2.2.2)) (e2 : B2 = .box (gC fn vars (l.take ((l.length : Int) - 1).toNat) res b2.how b2.pan b2.exd bp)) :
  OfI inp L off b0 m0 pv iv most fn vars res bp (l.take ((l.length : Int) - 1).toNat) B1 B2 := by
 have e : LW L (l[((l.length : Int) - 1).toNat]'(by omega)) (some b1) m1 = R := hR.symm
 have hcb := hto.byk (fun x hx => by cases hx; exact ⟨hb1, hb2⟩) c hc
 have hh1 := hto.h1
 rw [Jv (by omega), J2 (by omega)] at e1;refine ⟨b2, R.2.2.2, fun x hx => hin x (S3 hx), by rw [SM]; omega, ?_, ?_, ?_, hle.trans hto.le, (hto.deep (by omega)).trans hd, e1, e2⟩
 ·rw [hex, revL h, offR]
  simp only [e, if_neg h4, hc, Option.getD_some];subst hb
  split <;> rfl
 ·subst hb
  split
  ·exact hcb.1
  ·exact hh1
 ·subst hb
  split
  ·exact hcb.2
  ·show R.1 < 4; omega
theorem RK (h0 : ¬ 0 < (l.length : Int)) (hex : offR (LW L) off.reverse b0 m0 = offR (LW L) l.reverse b1 m1) : offR (LW L) off.reverse b0 m0 = (0, b1, m1) := by
 rw [hex, show l = [] from Sm (by omega)];rfl
theorem P1 {h : Int} (e : haH h = 4) : 4 ≤ h := by unfold haH at e; split at e <;> omega
theorem Qk {h : Int} (e : ¬ haH h = 4) : ¬ 4 ≤ h := by intro h'; unfold haH at e; rw [if_pos h'] at e; exact e rfl
end
theorem Mb (p : Prog) (inp : List Int) (most n : Nat) (hI : ∀ k, k < n → O3 p inp most k (lev p inp most k) ∧ Oq p inp most k (lev p inp most k)) (hg : goodP p = true) (hp : p.ok 1048576) (hi : inp.length ≤ 1048576) (hmost : most ≤ 1048576) (fn : Int) (args : List Int) (b : Option By) (m : Ms) (bm bb : Nat) (q : Kp) (pv iv : Value) (xv : List Value) (xt : List T) (h0 : 0 ≤ fn) (h1' : fn < p.funcs.length) (hal : args.length = (atI (paramsL p) fn).toNat) (hu : m.used ≤ inp.length) (hdm : m.deep ≤ most) (hn : m.fuel ≤ n) (hz : m.fuel = 0) (hn2 : m.fuel ≤ 1048576) (hti : m.trace.length + m.fuel ≤ 1048576) : Proc Tryz.prog 94 [.t (.v (.pointer (some ⟨bm, 0, none⟩))), .t (.int fn), .t (T.ints args), .t (.v (byP bb b))] ((pv :: iv :: xv)) ((T.Funcs p.funcs :: T.ints inp :: xt)) [byK bb q b, .obox (.pointer (some ⟨bm, 0, none⟩)) (rS pv iv most m.fuel 0 m)] (.tup [.t (.int (haH (lvC p inp most n fn args b m).1)), .t (.int (lvC p inp most n fn args b m).2.1)]) [.obox (byP bb b) (gC q.fn q.vars q.off q.res (hH (lvC p inp most n fn args b m).2.2.1) (nH (lvC p inp most n fn args b m).2.2.1) (xH (lvC p inp most n fn args b m).2.2.1) q.bp), .obox (.pointer (some ⟨bm, 0, none⟩)) (rS pv iv most (fuH (lvC p inp most n fn args b m).1 (lvC p inp most n fn args b m).2.2.2) (coH (lvC p inp most n fn args b m).1) (lvC p inp most n fn args b m).2.2.2)] := by
 obtain ⟨f, hfd⟩ : ∃ f, f = funcAt p fn := ⟨_, rfl⟩
 have hfm : f ∈ p.funcs := hfd ▸ Ao h0 h1'
 obtain ⟨g1, g2, g3, g4, hsh, g6⟩ := BI hg hfm
 have hpa : atI (paramsL p) fn = f.params := hfd ▸ Bf h0 h1'
 have hfa : p.funcs[fn.toNat]'(by omega) = f := by rw [hfd]; exact Ay (by omega)
 have hget : (p.funcs.map Func.tt)[fn.toNat]? = some f.tt := by rw [HE _ _ h0 h1', hfa]
 have hal2 : args.length ≤ f.vars.toNat := by omega
 have hfo : f.ok 1048576 := hp.1.2 f hfm
 have hBu := Gq bm pv iv most m (pv :: iv :: xv) (T.Funcs p.funcs :: T.ints inp :: xt) (by omega)
 obtain ⟨co, hco⟩ : ∃ co : Int, co = if m.fuel = 0 then 5 else 0 := ⟨_, rfl⟩
 rw [← hco] at hBu;refine Proc.intro tys Tryz.func94 Z Z (N := 157) [100, 101] 99 ([(0, .t (.v (.pointer (some ⟨bm, 0, none⟩)))), (1, .t (.int fn)), (2, .t (T.ints args)), (3, .t (.v (byP bb b)))]) ([(100, byK bb q b), (101, .obox (.pointer (some ⟨bm, 0, none⟩)) (rS pv iv most m.fuel 0 m)), (99, .ro (pv :: iv :: xv) (T.Funcs p.funcs :: T.ints inp :: xt))]) Z Z Z Z (by decide) (by decide) Z (fun w0 G F0 => ?_);refine nY Z (AQ (Le.openNew (u := 101) 1101 Z Z Z Z Z) (nY Z (AQ (Le.named (t := 0) (u := 101) 1101 Z Z) (nY Z (sG (eK 2 Z (nB (sQ (sQ (Am BJ (by kernel_rfl) (evQ ?_)))))))))));refine A5 rfl Z (AA Z) Z Z Z (evQ ?_);refine evQ ?_;refine AU Z (evQ ?_);refine IW (v := false) (by simp [hz]) ?_;refine evQ ?_
 iterate 9 (refine Ot rfl rfl rfl rfl rfl (AA rfl) ?_)
 refine evQ ?_;refine BE (tN (BA Z (AC (tN (sQ (sG (eZ Z (WO_le (Le.close (u := 101) 1101 Z Z Z) (nZ Z ?_)))))))));refine cP [101] (hm := (hBu)) (k := ?_);refine nZ Z (WO_le (Le.open (u := 101) 1101 Z Z Z Z) (nZ Z (WO_le (Le.known (t := 38) false Z (by simp [hz])) ?_)));refine eZ Z (nB (Ab Z (sG (eK 2 Z (nB (AQ (Le.close (u := 101) 1101 Z Z Z) (nY Z (rT (tR ?_)))))))));refine eP [_, _] ?_ ?_
 ·exact Fn (by rw [lc_0 hz] <;> rfl) (by rw [lc_0 hz] <;> rfl)
 ·(rw [if_pos hz] at hco; subst hco; rw [lc_0 hz]; rfl)
theorem Ma (p : Prog) (inp : List Int) (most n : Nat) (hI : ∀ k, k < n → O3 p inp most k (lev p inp most k) ∧ Oq p inp most k (lev p inp most k)) (hg : goodP p = true) (hp : p.ok 1048576) (hi : inp.length ≤ 1048576) (hmost : most ≤ 1048576) (fn : Int) (args : List Int) (b : Option By) (m : Ms) (bm bb : Nat) (q : Kp) (pv iv : Value) (xv : List Value) (xt : List T) (h0 : 0 ≤ fn) (h1' : fn < p.funcs.length) (hal : args.length = (atI (paramsL p) fn).toNat) (hu : m.used ≤ inp.length) (hdm : m.deep ≤ most) (hn : m.fuel ≤ n) (hfz : m.fuel ≠ 0) (hn2 : m.fuel ≤ 1048576) (hti : m.trace.length + m.fuel ≤ 1048576) : Proc Tryz.prog 94 [.t (.v (.pointer (some ⟨bm, 0, none⟩))), .t (.int fn), .t (T.ints args), .t (.v (byP bb b))] ((pv :: iv :: xv)) ((T.Funcs p.funcs :: T.ints inp :: xt)) [byK bb q b, .obox (.pointer (some ⟨bm, 0, none⟩)) (rS pv iv most m.fuel 0 m)] (.tup [.t (.int (haH (lvC p inp most n fn args b m).1)), .t (.int (lvC p inp most n fn args b m).2.1)]) [.obox (byP bb b) (gC q.fn q.vars q.off q.res (hH (lvC p inp most n fn args b m).2.2.1) (nH (lvC p inp most n fn args b m).2.2.1) (xH (lvC p inp most n fn args b m).2.2.1) q.bp), .obox (.pointer (some ⟨bm, 0, none⟩)) (rS pv iv most (fuH (lvC p inp most n fn args b m).1 (lvC p inp most n fn args b m).2.2.2) (coH (lvC p inp most n fn args b m).1) (lvC p inp most n fn args b m).2.2.2)] := by
 obtain ⟨f, hfd⟩ : ∃ f, f = funcAt p fn := ⟨_, rfl⟩
 have hfm : f ∈ p.funcs := hfd ▸ Ao h0 h1'
 obtain ⟨g1, g2, g3, g4, hsh, g6⟩ := BI hg hfm
 have hpa : atI (paramsL p) fn = f.params := hfd ▸ Bf h0 h1'
 have hfa : p.funcs[fn.toNat]'(by omega) = f := by rw [hfd]; exact Ay (by omega)
 have hget : (p.funcs.map Func.tt)[fn.toNat]? = some f.tt := by rw [HE _ _ h0 h1', hfa]
 have hal2 : args.length ≤ f.vars.toNat := by omega
 have hfo : f.ok 1048576 := hp.1.2 f hfm
 have hBu := Gq bm pv iv most m (pv :: iv :: xv) (T.Funcs p.funcs :: T.ints inp :: xt) (by omega)
 obtain ⟨co, hco⟩ : ∃ co : Int, co = if m.fuel = 0 then 5 else 0 := ⟨_, rfl⟩
 rw [← hco] at hBu;refine Proc.intro tys Tryz.func94 Z Z (N := 157) [100, 101] 99 ([(0, .t (.v (.pointer (some ⟨bm, 0, none⟩)))), (1, .t (.int fn)), (2, .t (T.ints args)), (3, .t (.v (byP bb b)))]) ([(100, byK bb q b), (101, .obox (.pointer (some ⟨bm, 0, none⟩)) (rS pv iv most m.fuel 0 m)), (99, .ro (pv :: iv :: xv) (T.Funcs p.funcs :: T.ints inp :: xt))]) Z Z Z Z (by decide) (by decide) Z (fun w0 G F0 => ?_);refine nY Z (AQ (Le.openNew (u := 101) 1101 Z Z Z Z Z) (nY Z (AQ (Le.named (t := 0) (u := 101) 1101 Z Z) (nY Z (sG (eK 2 Z (nB (sQ (sQ (Am BJ (by kernel_rfl) (evQ ?_)))))))))));refine A5 rfl Z (AA Z) Z Z Z (evQ ?_);refine evQ ?_;refine AU Z (evQ ?_);refine IW (v := true) (by simp; omega) ?_;refine evQ ?_;refine Bh Z Z Z Z (AA Z) (evQ ?_);refine Bh Z Z Z Z (AA Z) (A5 rfl Z (AA Z) Z Z Z (Bh Z Z Z Z (AA Z) (evQ ?_)));refine Bh Z Z Z Z (AA Z) (evQ ?_);refine AU Z (Bh Z Z Z Z (AA Z) (evQ ?_));refine Bh Z Z Z Z (AA Z) (A5 rfl Z (AA Z) Z Z Z (Bh Z Z Z Z (AA Z) (evQ ?_)));refine Bh Z Z Z Z (AA Z) (evQ ?_);refine Bh Z Z Z Z (AA Z) (evQ ?_);refine evQ ?_;refine AU Z (BE (tN ?_));refine AB Z (fun h1 => ?_) (fun h1 => ?_)
 ·
  simp only [HS] at h1;refine sQ ?_
  obtain ⟨k, hk⟩ : ∃ k, n = k + 1 := ⟨n - 1, by omega⟩
  subst hk
  have hout : lvC p inp most (k + 1) fn args b m = (4, 0, b, A8 m) := ca_d hfz (by omega)
  refine rG (eZ Z (AG rfl Z (AA Z) Z Z Z (eK 2 Z (sT Z (nZ Z (nA (eK 2 Z (nB (AQ (Le.close (u := 101) 1101 Z Z Z) (nY Z (rT (tR ?_))))))))))));refine eP [_, _] ?_ ?_
  ·first
   | exact Fn (by first | (rw [hout]; done) | (rw [hout]; rfl)) (by first | (rw [hout]; done) | (rw [hout]; rfl))
  ·first
   | (rw [hout]; have hq : fuH 4 (A8 m) = m.fuel := (by show ((m.fuel - 1 : Nat) : Int) + 1 = m.fuel; omega); simp only [hq]; rfl)
 simp only [HS] at h1;refine AC (tN (sQ (sG (eZ Z (WO_le (Le.close (u := 101) 1101 Z Z Z) (nZ Z ?_))))));refine cP [101] (hm := (hBu)) (k := ?_);refine nZ Z (WO_le (Le.open (u := 101) 1101 Z Z Z Z) (nZ Z (WO_le (Le.known (t := 38) true Z (by simp [hfz])) ?_)));refine eZ Z (nB (BA Z (AC (tN (sQ ?_)))))
 have hdz : m.deep ≠ most := by omega
 have hbd : (A8 m).deep = m.deep := rfl
 rw [if_neg hfz] at hco;subst hco
 obtain ⟨k, hk⟩ : ∃ k, n = k + 1 := ⟨n - 1, by omega⟩
 subst hk
 have hL := El (inp := inp) hg most k
 obtain ⟨hIc, hIs⟩ := hI k (by omega)
 refine rG (eZ Z (AG rfl Z (AA Z) Z Z Z (eK 2 Z (evI ?_))));refine AG rfl Z (AA Z) Z Z Z (kZ [0,1,2,3,8,9,44,45] Z (eZ Z (sT Z (nZ Z (nA (eK 2 Z (AG rfl Z (AA Z) Z Z Z (eK 2 Z (KB tys 99 0 Z Z (AA Z) Z Z Z Z (eZ Z (kZ [0,1,2,3,8,9,47,52,53] Z ?_)))))))))));refine iX (h5 := h0) (h6 := hget) (k := ?_);refine eK 2 Z ?_;refine QP tys (T.int 0) Z Z (AA Z) Z Z Z Z Z (by repeat (first | exact AbsL.nil' | refine AbsL.v' ?_ | refine AbsL.none' ?_)) Z (by omega) (by omega) (by decide) ?_;refine nZ Z (nZ Z (eZ Z (AN tys Z Z (AA Z) Z Z Z (by kernel_rfl) Z Z Z Z Z Z (AR Z Z (AA Z) Z Z (nZ Z (eZ Z (nB (sQ (AQ (Le.nilBox (u := 60) (j := 3) 1 Z Z) (nY Z ?_))))))))));refine R0 (u := 60) (pid := 1060) Z Z (fun bc => ?_);refine nY Z (AQ (Le.eqK (id := 57) Z (k' := .L 1 ((List.replicate f.vars.toNat (0 : Int)).map T.int)) (by rw [List.map_replicate])) ?_);refine nY Z (kY [0,1,2,8,9,10] Z (rG (eZ Z (AG rfl Z (AA Z) Z Z Z (eK 3 Z (QQ (e := 3) Z Z (AA Z) Z (by kernel_rfl) (by kernel_rfl) Z Z (by simp) Z (by simp; omega) ?_))))));refine nZ Z (WO_le (Le.gatherBox (u := 60) (j := 1) (id := 57) Z Z Z (by simp; omega) Z) ?_);refine nZ Z (WO_le (Le.eqK (id := 60) Z (k' := .box (gC fn (setL f.vars.toNat args) [] 0 0 0 false (byP bb b))) (by rw [SH (by simp; omega)]; rfl)) ?_);refine nZ Z (nB (sQ ?_))
 have hso := ET (p := p) (inp := inp) (f := f) (args := args) (b := b) (m := m) hal2 hu
 have hsf : (startS f args b m).m.fuel = m.fuel - 1 := rfl
 have hst : (startS f args b m).m.trace.length = m.trace.length := rfl
 have hsl : (startS f args b m).off.length = 0 := rfl
 have hsd : (startS f args b m).m.deep = m.deep + 1 := rfl
 have hB := D4 p inp most k (lev p inp most k) hL hIs fn f h0 h1' hfd hfo.2.1.1 f.body (DQ hsh) hfo.1 (startS f args b m) hso (by omega) (by omega) (by omega) (by omega) (by omega) bm bc bb q pv iv xv xt
 have hbo := BP (hL.stmt _ hfm) (DQ hsh) hso
 change Sx.to p inp f (blS (lev p inp most k) f f.body (startS f args b m)).1 _ (blS (lev p inp most k) f f.body (startS f args b m)).2.2 at hbo
 obtain ⟨R, hR⟩ : ∃ R, R = blS (lev p inp most k) f f.body (startS f args b m) := ⟨_, rfl⟩
 rw [← hR] at hB hbo
 obtain ⟨fu1, hfu1⟩ : ∃ fu1, fu1 = fuH R.1 R.2.2.m := ⟨_, rfl⟩
 obtain ⟨co1, hco1⟩ : ∃ co1, co1 = coH R.1 := ⟨_, rfl⟩
 obtain ⟨e0, he0⟩ : ∃ e0, e0 = haH R.1 := ⟨_, rfl⟩
 rw [← hfu1, ← hco1, ← he0] at hB
 have hR0 := hbo.h0
 have hR5 := hbo.h5
 have hf2 : R.2.2.m.fuel ≤ m.fuel - 1 := hbo.le.1
 have ht2 : R.2.2.m.trace.length + R.2.2.m.fuel ≤ m.trace.length + (m.fuel - 1) := hbo.le.2.1
 have ho2 : R.2.2.off.length + R.2.2.m.fuel ≤ 0 + (m.fuel - 1) := hbo.offl
 refine rG (eK 3 Z (kZ [0,1,8,9,10,68,69,70] Z (AG rfl Z (AA Z) Z Z Z (eK 2 Z (KB tys 99 0 Z Z (AA Z) Z Z Z Z (eZ Z ?_))))));refine iX (h5 := h0) (h6 := hget) (k := ?_);refine eK 2 Z (WO_le (Le.close (u := 101) 1101 Z Z Z) (nZ Z (WO_le (Le.close (u := 60) 1060 Z Z Z) (nZ Z ?_))));refine cP [101,60,100] (hm := (hB)) (k := ?_);refine nZ Z (WO_le (Le.open (u := 101) 1101 Z Z Z Z) (nZ Z (WO_le (Le.open (u := 60) 1060 Z Z Z Z) (nZ Z (kZ [0,8,9,10,79] Z (eZ Z (WO_evF tys Z Z (AA Z) (d := .t _) Z (nZ Z (WO_evF tys Z Z (AA Z) (d := .t _) Z (nZ Z (eK 2 Z (nB (sQ (sG (eK 2 Z ?_)))))))))))))));refine nB ?_;refine AB Z (fun h2 => ?_) (fun h2 => ?_)
 ·
  simp only [HS] at h2;refine sQ (kY [0,8,9,10,11,12] Z (rG (eK 2 Z (nB (AQ (Le.close (u := 101) 1101 Z Z Z) (nY Z (rT (tR ?_))))))));refine eP [_, _] ?_ ?_
  ·first
   | (subst hfu1 hco1; have hr4 := P1 (he0.symm.trans (by assumption)); have hout : lvC p inp most (k + 1) fn args b m = _ := ca_e hfz hdz hfd hR hr4; exact Fn (by rw [hout]; show 4 = haH R.1; unfold haH; rw [if_pos hr4]) (by rw [hout]))
  ·first
   | (subst hfu1 hco1; have hr4 := P1 (he0.symm.trans (by assumption)); have hout : lvC p inp most (k + 1) fn args b m = _ := ca_e hfz hdz hfd hR hr4; rw [hout]; rfl)
 simp only [HS] at h2;refine AC (tN (sQ (sQ ?_)))
 have hr4 : ¬ 4 ≤ R.1 := Qk (by rw [← he0]; assumption)
 rw [RX (by omega)] at he0;rw [Jv (by omega)] at hfu1;rw [J2 (by omega)] at hco1;subst hfu1 hco1 he0
 have hd2 : R.2.2.m.deep = m.deep + 1 := hbo.deep (by omega)
 have hes := Kr (v := R.2.1) hR0 (by omega)
 refine kY [0,8,9,10,11,12] Z (rG (eK 2 Z (nB ?_)));refine As (α := Int) [0, 8, 9, 10, 12] [60, 99, 100, 101, 1101, 1060] (fun x => [(11, .t (.int x))]) (fun x => []) (fun x => x = (endS R.1 R.2.1).how) ?_ (fun e11 hx => ?_)
 ·
  refine AB Z (fun h3 => ?_) (fun h3 => ?_)
  ·
   simp only [HS] at h3;refine rG (eZ Z (oN (jQ _ ?_)))
   simp only [endS]; split <;> omega
  simp only [HS] at h3;refine AC (jQ _ ?_)
  simp only [endS]; split <;> omega
 have he11 := hx
 refine tN (sQ ?_);subst he11
 have hEn := Lu bc (endS R.1 R.2.1).how R.2.1 fn R.2.2.vars R.2.2.off R.2.2.res 0 0 false (byP bb b) (pv :: iv :: xv) (T.Funcs p.funcs :: T.ints inp :: xt)
 rw [show (if (endS R.1 R.2.1).how = 2 then R.2.1 else 0) = (endS R.1 R.2.1).pan from by grind [endS], show (or false (decide ((endS R.1 R.2.1).how = 3))) = (endS R.1 R.2.1).exd from by grind [endS]] at hEn;refine kY [0,8,9,10,11,12] Z (rG (eK 3 Z (WO_le (Le.close (u := 60) 1060 Z Z Z) (nZ Z ?_))));refine cP [60] (hm := (hEn)) (k := ?_);refine nZ Z (WO_le (Le.open (u := 60) 1060 Z Z Z Z) (nZ Z (nB (sQ (AD ?_)))));refine lK (α := List Int × Blk × Blk) [0, 10] [99, 100, 1101, 1060] (fun x => []) (fun x => [(101, (x.2.1)), (60, (x.2.2))]) (fun x => OfI inp (lev p inp most k) R.2.2.off (endS R.1 R.2.1) R.2.2.m pv iv most fn R.2.2.vars R.2.2.res (byP bb b) (x.1) (x.2.1) (x.2.2)) (fun x => Int.toNat ((x.1).length)) (R.2.2.off, .box (rS pv iv most R.2.2.m.fuel 0 R.2.2.m), .box (gC fn R.2.2.vars R.2.2.off R.2.2.res (endS R.1 R.2.1).how (endS R.1 R.2.1).pan (endS R.1 R.2.1).exd (byP bb b))) ?_ (fun x hx => ?_)
 ·exact ⟨_, _, fun x hx => hx, SR _, rfl, hes.1, hes.2, ⟨SR _, SR _, hbo.ok.used⟩, rfl, rfl, rfl⟩
 obtain ⟨l, B1, B2⟩ := x
 obtain ⟨b1, m1, hin, hlen, hex, hb1, hb2, hle, hd1, hB1, hB2⟩ := hx
 dsimp only at hin hlen hex hb1 hb2 hle hd1 hB1 hB2 ⊢;subst hB1 hB2;refine nY Z (sQ (sQ (AQ (Le.adoptBoxI (u := 60) (j := 3) (id := 192) Z Z Z) (nY Z (rG (eZ Z (AG rfl Z (AA Z) Z Z Z (eK 2 Z (evE ?_)))))))));refine eZ Z (nB ?_);refine AB Z (fun h3 => ?_) (fun h3 => ?_)
 ·
  simp only [HS] at h3;refine AC (tN (AD (sQ ?_)))
  have hl0 : 0 < (l.length : Int) := by omega
  have hf3 : m1.fuel ≤ R.2.2.m.fuel := hle.1
  have ht3 : m1.trace.length + m1.fuel ≤ R.2.2.m.trace.length + R.2.2.m.fuel := hle.2.1
  obtain ⟨q0, q1, q2⟩ := hbo.ok.off (l[((l.length : Int) - 1).toNat]'(by omega)) (hin _ (SJ _))
  have hto1 := hL.call (l[((l.length : Int) - 1).toNat]'(by omega)) [] (some b1) m1 q0 q1 (by rw [q2]; rfl) hle.2.2
  have hCa := hIc (l[((l.length : Int) - 1).toNat]'(by omega)) [] (some b1) m1 bm bc ⟨fn, R.2.2.vars, l.take ((l.length : Int) - 1).toNat, R.2.2.res, byP bb b⟩ pv iv xv xt q0 q1 (by rw [q2]; rfl) hle.2.2 (by omega) (by omega) (by omega) (by omega)
  obtain ⟨R1, hR1⟩ : ∃ R1, R1 = (lev p inp most k).call (l[((l.length : Int) - 1).toNat]'(by omega)) [] (some b1) m1 := ⟨_, rfl⟩
  rw [← hR1] at hCa hto1
  obtain ⟨c1, hc1⟩ : ∃ c1, R1.2.2.1 = some c1 := by have := hto1.by'; cases h : R1.2.2.1 with | none => rw [h] at this; cases this | some c1 => exact ⟨c1, rfl⟩
  rw [hc1] at hCa
  have hh1 := hto1.h1
  have hh5 := hto1.h5
  obtain ⟨e1, he1⟩ : ∃ e1, e1 = haH R1.1 := ⟨_, rfl⟩
  rw [← he1] at hCa;refine rG (eZ Z (AG rfl Z (AA Z) Z Z Z (eZ Z (kZ [0,10,90,91,92,93,94,95,96,97,98] Z (eZ Z (evE ?_))))));refine evI ?_;refine eZ Z (nA (eZ Z (AG rfl Z (AA Z) Z Z Z (eK 3 Z (kZ [0,10,13,90,91,92,93,94,95,96,97,98,99,100,101,102,103,104,105,106] Z (Ac tys Z Z (AA Z) Z Z Z Z Z Z Z Z (by omega) (by omega) (AS tys Z Z (AA Z) Z Z Z Z (Dk _ _ (by omega) (by omega)) Z (eZ Z (nA (eK 2 Z (AG rfl Z (AA Z) Z Z Z (eK 3 Z (kZ [0,10,13,14,90,91,92,93,94,95,96,97,98,99,100,101,102,103,104,105,106,107,108,109,110,111,112,113,114] Z (Dt tys Z Z (AA Z) Z Z Z Z Z Z Z Z Z (by omega) (by omega) (by omega) (AG rfl Z (AA Z) Z Z Z ?_)))))))))))))));refine eZ Z (sT Z (nZ Z (nB (sQ (AQ (Le.gatherBox (u := 60) (j := 3) (id := 192) Z Z Z (by first | (simp; done) | (simp; omega)) Z) ?_)))));refine nY Z (AQ (Le.eqK (id := 60) Z (k' := .box (gC fn R.2.2.vars (l.take ((l.length : Int) - 1).toNat) R.2.2.res b1.how b1.pan b1.exd (byP bb b))) (by rw [← List.map_take]; rfl)) ?_);refine nY Z (rG (eK 3 Z (WO_le (Le.close (u := 60) 1060 Z Z Z) (nZ Z (WO_le (Le.close (u := 101) 1101 Z Z Z) (nZ Z ?_))))));refine cP [60,101] (hm := (hCa)) (k := ?_);refine nZ Z (WO_le (Le.open (u := 60) 1060 Z Z Z Z) (nZ Z (WO_le (Le.open (u := 101) 1101 Z Z Z Z) (nZ Z (eZ Z (kZ [0,10,13,14,90,91,92,93,94,95,96,97,98,99,100,101,102,103,104,105,106,107,108,109,110,111,112,113,114,115,116,117,118,119,120,121,122] Z (WO_evF tys Z Z (AA Z) (d := .t _) Z (nZ Z (WO_evF tys Z Z (AA Z) (d := .t _) Z (nZ Z (eK 2 Z (nB (sQ (sG (eK 2 Z ?_)))))))))))))));refine nB ?_;refine AB Z (fun h4 => ?_) (fun h4 => ?_)
  ·
   simp only [HS] at h4;refine sG (eK 2 Z (nB (AQ (Le.close (u := 101) 1101 Z Z Z) (nY Z (rT (tR (bR (AO (bR (tR ?_))))))))));refine eP [_, _] ?_ ?_
   ·first
    | (have hr5 := P1 (he1.symm.trans (by assumption)); have hout : lvC p inp most (k + 1) fn args b m = _ := ca_o hfz hdz hfd hR hr4 (LV hl0 hex hR1 hc1 hr5) hr5; exact Fn (by rw [hout]; show 4 = haH R1.1; unfold haH; rw [if_pos hr5]) (by rw [hout]))
   ·first
    | (have hr5 := P1 (he1.symm.trans (by assumption)); have hout : lvC p inp most (k + 1) fn args b m = _ := ca_o hfz hdz hfd hR hr4 (LV hl0 hex hR1 hc1 hr5) hr5; rw [hout]; rfl)
  simp only [HS] at h4;refine AC (tN (sQ ?_))
  have hr5 : ¬ 4 ≤ R1.1 := Qk (by rw [← he1]; assumption)
  rw [RX (by omega)] at he1
  have hEn2 := Lu bc e1 R1.2.1 fn R.2.2.vars (l.take ((l.length : Int) - 1).toNat) R.2.2.res c1.how c1.pan c1.exd (byP bb b) (pv :: iv :: xv) (T.Funcs p.funcs :: T.ints inp :: xt)
  refine rG (eK 2 Z (nB ?_));refine AB Z (fun h5 => ?_) (fun h5 => ?_)
  ·
   simp only [HS] at h5;refine kY [0,10,13,14,15,16,90,91,92,93,94,95,96,97,98,99,100,101,102,103,104,105,106,107,108,109,110,111,112,113,114,115,116,117,118,119,120,121,122,123,124,125,126,127,128] Z (rG (eK 3 Z (WO_le (Le.close (u := 60) 1060 Z Z Z) (nZ Z ?_))));refine cP [60] (hm := (hEn2)) (k := ?_);refine nZ Z (WO_le (Le.open (u := 60) 1060 Z Z Z Z) (nZ Z (oN (bN ?_))));refine lQ ((l.take ((l.length : Int) - 1).toNat), _, _) ?_ ?_
   ·dsimp only
    subst he1; first | exact ofI_next hl0 hin hlen hex hb1 hb2 hle hd1 hR1 hto1 hc1 hr5 rfl rfl (by rw [if_pos (show R1.1 = 1 from by omega)]; rfl) | exact ofI_next hl0 hin hlen hex hb1 hb2 hle hd1 hR1 hto1 hc1 hr5 rfl rfl (by rw [if_neg (show ¬ R1.1 = 1 from by omega)]; rfl)
   ·(try dsimp only); simp only [SM]; omega
  simp only [HS] at h5;refine AC (bN ?_);refine lQ ((l.take ((l.length : Int) - 1).toNat), _, _) ?_ ?_
  ·dsimp only
   subst he1; first | exact ofI_next hl0 hin hlen hex hb1 hb2 hle hd1 hR1 hto1 hc1 hr5 rfl rfl (by rw [if_pos (show R1.1 = 1 from by omega)]; rfl) | exact ofI_next hl0 hin hlen hex hb1 hb2 hle hd1 hR1 hto1 hc1 hr5 rfl rfl (by rw [if_neg (show ¬ R1.1 = 1 from by omega)]; rfl)
  ·(try dsimp only); simp only [SM]; omega
 simp only [HS] at h3;refine AP (tE (AK (AI (tN (sQ ?_)))))
 have hQ := RK (by omega) hex
 have hout : lvC p inp most (k + 1) fn args b m = (b1.how, if b1.how = 2 then b1.pan else R.2.2.res, R.2.2.by', ⟨m1.used, m1.fuel, m1.deep - 1, m1.trace⟩) := ca_f hfz hdz hfd hR hr4 hQ (by show ¬ (4 : Int) ≤ 0; omega)
 have hdd : (m1.deep : Int) - 1 = ((m1.deep - 1 : Nat) : Int) := by omega
 refine rG (eZ Z (AG rfl Z (AA Z) Z Z Z (eZ Z (kZ [10,133,135] Z (eZ Z (evI ?_))))));refine AG rfl Z (AA Z) Z Z Z (eZ Z (sT Z (nZ Z (nB (sQ (sG (eZ Z (AG rfl Z (AA Z) Z Z Z (eK 2 Z (kZ [10,143] Z (eZ Z (nB ?_))))))))))));refine AB Z (fun h4 => ?_) (fun h4 => ?_)
 ·
  simp only [HS] at h4;refine sQ (Am BJ (by kernel_rfl) (evQ ?_));refine A5 rfl Z (AA Z) Z Z Z (evQ ?_);refine evQ ?_;refine evQ ?_;refine AU Z (evQ ?_);refine BE (tN (AQ (Le.close (u := 101) 1101 Z Z Z) (nY Z (rT (tR ?_)))));refine eP [_, _] ?_ ?_
  ·first
   | exact Fn (by rw [hout]; show 2 = haH b1.how; rw [show b1.how = 2 from by assumption]; rfl) (by rw [hout]; exact (if_pos (by assumption)).symm)
  ·first
   | (rw [hout]; simp only [Jv hb2, J2 hb2]; rw [hdd]; rfl)
 simp only [HS] at h4;refine AC (tN (sQ (Am BJ (by kernel_rfl) (evQ ?_))));refine A5 rfl Z (AA Z) Z Z Z (evQ ?_);refine evQ ?_;refine evQ ?_;refine AU Z (A5 rfl Z (AA Z) Z Z Z (evQ ?_));refine evQ ?_;refine evQ ?_;refine evQ ?_;refine BE (tN (AQ (Le.close (u := 101) 1101 Z Z Z) (nY Z (rT ?_))));refine eP [_, _] ?_ ?_
 ·first
  | exact Fn (by rw [hout]; exact (RX hb2).symm) (by rw [hout]; exact (if_neg (by assumption)).symm)
 ·first
  | (rw [hout]; simp only [Jv hb2, J2 hb2]; rw [hdd]; rfl)
open Go.Eng
def G6 (p : Prog) (inp : List Int) (most fuel : Nat) : Int × Int × Option By × Ms := (lev p inp most fuel).call 0 [] none ⟨0, fuel, 0, []⟩
def RI (h v : Int) : Int := if h = 1 then v else if h = 2 then v else 0
theorem BK {p : Prog} (hg : goodP p = true) : (0 : Int) < p.funcs.length ∧ atI (paramsL p) 0 = 0 := by
 have h1 := AV hg
 refine ⟨by omega, ?_⟩;unfold goodP at hg;simp only [SC, decide_eq_true_eq] at hg;exact hg.2.2.1
theorem RD {p : Prog} {inp : List Int} (hg : goodP p = true) (most fuel : Nat) : Ms.to inp (G6 p inp most fuel).1 none (G6 p inp most fuel).2.2.1 ⟨0, fuel, 0, []⟩ (G6 p inp most fuel).2.2.2 :=
 (El hg most fuel).call 0 [] none ⟨0, fuel, 0, []⟩ (by omega) (BK hg).1 (by rw [(BK hg).2]; rfl) (Nat.zero_le _)
theorem retO {a a' b b' c c' : Int} {t t' : List T} (h1 : a = a') (h2 : b = b') (h3 : t = t') (h4 : c = c') : [D.agg [D.t (T.v (Value.int .i64 a)), D.t (T.v (Value.int .i64 b)), D.own (T.list 1 t), D.t (T.v (Value.int .i64 c))]] = [D.agg [D.t (T.int a'), D.t (T.int b'), D.own (T.list 1 t'), D.t (T.int c')]] := by rw [h1, h2, h3, h4]
def Cb (p : Prog) (inp : List Int) (most : Int) : Bool := goodP p && (decide ((inp.length : Int) ≤ 10) && (Cd inp (-2147483648) 2147483647 && decide (1 ≤ most ∧ most ≤ 12)))
open Go.Eng
theorem levI {p : Prog} {inp : List Int} {most : Nat} (hg : goodP p = true) (hp : p.ok 1048576) (hi : inp.length ≤ 1048576) (hmost : most ≤ 1048576) (n : Nat) : O3 p inp most n (lev p inp most n) ∧ Oq p inp most n (lev p inp most n) := by
 induction n using Nat.strongRecOn with
 | _ n hI =>
  constructor
  ·intro fn args b m bm bb q pv iv xv xt h0 h1 ha hu hd hn hn2 hti
   by_cases hz : m.fuel = 0
   ·exact Mb p inp most n hI hg hp hi hmost fn args b m bm bb q pv iv xv xt h0 h1 ha hu hd hn hz hn2 hti
   ·exact Ma p inp most n hI hg hp hi hmost fn args b m bm bb q pv iv xv xt h0 h1 ha hu hd hn hz hn2 hti
  ·intro fn f t s bm bc bb q pv iv xv xt h0 h1 hfd ht hs hn hn2 hti hof hdm
   exact NA p inp most n hI hg hp hi hmost fn f t s bm bc bb q pv iv xv xt h0 h1 hfd ht hs hn hn2 hti hof hdm
theorem haH_2 {h : Int} (e : haH h = 2) : h = 2 := by unfold haH at e; split at e <;> omega
theorem haH_3 {h : Int} (e : haH h = 3) : h = 3 := by unfold haH at e; split at e <;> omega
theorem Qp {h : Int} (h1 : 1 ≤ h) (a : ¬ haH h = 1) (b : ¬ haH h = 2) (c : ¬ haH h = 3) : 4 ≤ h ∧ coH h = h := by
 unfold haH at a b c
 by_cases h4 : 4 ≤ h
 ·exact ⟨h4, by unfold coH; rw [if_pos h4]⟩
 ·rw [if_neg h4] at a b c; omega
theorem MA (p : Prog) (inp : List Int) (most fuel : Nat) (hg : goodP p = true) (hp : p.ok 1048576) (hi : inp.length ≤ 1048576) (hmost : most ≤ 1048576) (hfu : fuel ≤ 1048576) : Fun Tryz.prog 51 [.t p.tt, .t (T.ints inp), .t (.int most), .t (.int fuel)] (Av [.agg [.t (.int (G6 p inp most fuel).1), .t (.int (RI (G6 p inp most fuel).1 (G6 p inp most fuel).2.1)), .own (T.ints (G6 p inp most fuel).2.2.2.trace), .t (.int (G6 p inp most fuel).2.2.2.used)]]) := by
 have hto := RD (inp := inp) hg most fuel
 have hC := (levI (inp := inp) hg hp hi hmost fuel).1
 have hm := BK hg
 obtain ⟨R, hR⟩ : ∃ R, R = G6 p inp most fuel := ⟨_, rfl⟩
 rw [← hR] at hto ⊢
 have hr1 := hto.h1
 refine Fun.begin tys Tryz.func51 Z Z (N := 56) [(0, .t p.tt), (1, .t (T.ints inp)), (2, .t (.int most)), (3, .t (.int fuel))] Z Z (fun w0 G F0 => ?_);refine sG (AR Z Z (AA Z) Z Z (nZ Z (AL tys Z Z (AA Z) Z Z Z (nZ Z (nA (eZ Z ?_))))))
 try refine WO_le (Le.freeze (u := 12) rfl) ?_
 refine nZ Z (eK 3 Z (Mn (pl := [(0, 1), (1, 1), (2, 1), (3, 1), (4, 1), (5, 4)]) tys Z Z (AA Z) Z Z Z (by kernel_rfl) Z Z Z Z Z (AR Z Z (AA Z) Z Z (nZ Z (eZ Z (kZ [8,9] Z (nB (sQ ?_))))))));refine KA (u := 17) (j := 0) 99 Z Z Z (fun pv => ?_);refine nY Z ?_;refine KA (u := 17) (j := 1) 98 Z Z Z (fun iv => ?_);refine nY Z (AQ (Le.roJoin 99 98 Z Z) (nY Z (AQ (Le.nilBox (u := 17) (j := 7) 1 Z Z) (nY Z ?_))));refine R0 (u := 17) (pid := 1017) Z Z (fun bm => ?_);refine nY Z (AQ (Le.noBox 150 (gC 0 [] [] 0 0 0 false (.pointer none)) Z) (nY Z ?_))
 have hCa := hC 0 [] none ⟨0, fuel, 0, []⟩ bm 0 ⟨0, [], [], 0, .pointer none⟩ pv iv [] [] (by omega) hm.1 (by rw [hm.2]; rfl) (Nat.zero_le _) (Nat.zero_le _) (SR _) hfu (by simpa using hfu)
 rw [show (lev p inp most fuel).call 0 [] none ⟨0, fuel, 0, []⟩ = R from hR.symm] at hCa;refine rG (eZ Z (WO_le (Le.close (u := 17) 1017 Z Z Z) (nZ Z ?_)));refine cP [150,17] (hm := (hCa)) (k := ?_);refine nZ Z (WO_le (Le.open (u := 17) 1017 Z Z Z Z) (nZ Z (eZ Z (WO_evF tys Z Z (AA Z) (d := .t _) Z (nZ Z (WO_evF tys Z Z (AA Z) (d := .t _) Z (nZ Z (eK 2 Z (nB (sQ (sQ (kY [8,9,10,11] Z (rG (eZ Z (nB ?_)))))))))))))));refine AD (sG (eK 2 Z (nB ?_)));refine AB Z (fun h1 => ?_) (fun h1 => ?_)
 ·
  simp only [HS] at h1;refine rG (eK 3 Z (AG rfl Z (AA Z) Z Z Z (eK 2 Z (kZ [8,9,27,28,31] Z (sT Z (nZ Z (AG rfl Z (AA Z) Z Z Z (eK 2 Z (sT Z (nZ Z (oN (bN (tN (sQ (AQ (Le.adoptBox (u := 17) (j := 7) (id := 195) Z Z Z) ?_)))))))))))))));refine nY Z (rG (eZ Z (AG rfl Z (AA Z) Z Z Z (eK 2 Z ?_))))
  try refine WO_le (Le.freeze (u := 55) rfl) ?_
  refine nZ Z (kZ [8,55] Z (sT Z (nZ Z (WO_le (Le.gatherBox (u := 8) (j := 2) (id := 195) Z Z Z (by simp) Z) ?_))));refine nZ Z (nZ Z (nB (rT (eR ?_))))
  ·first
   | (have e := RY (by assumption); exact retO e.symm (by rw [RI, if_pos e]) (by simp [SH]) rfl)
 simp only [HS] at h1;refine sG (eK 2 Z (nB ?_));refine AB Z (fun h2 => ?_) (fun h2 => ?_)
 ·
  simp only [HS] at h2;refine rG (eK 3 Z (AG rfl Z (AA Z) Z Z Z (kZ [8,9,38,39,40] Z (eK 2 Z (sT Z (nZ Z (AG rfl Z (AA Z) Z Z Z (eK 2 Z (sT Z (nZ Z (oN (bN (tN (sQ (AQ (Le.adoptBox (u := 17) (j := 7) (id := 195) Z Z Z) ?_)))))))))))))));refine nY Z (kY [8,9] Z (rG (eZ Z (AG rfl Z (AA Z) Z Z Z (eK 2 Z ?_)))))
  try refine WO_le (Le.freeze (u := 55) rfl) ?_
  refine nZ Z (sT Z (nZ Z (WO_le (Le.gatherBox (u := 8) (j := 2) (id := 195) Z Z Z (by simp) Z) ?_)));refine nZ Z (nZ Z (nB (rT (eR ?_))))
  ·first
   | (have e := haH_2 (by assumption); exact retO e.symm (by rw [RI, if_neg (by omega), if_pos e]) (by simp [SH]) rfl)
 simp only [HS] at h2;refine sG (eK 2 Z (nB ?_));refine AB Z (fun h3 => ?_) (fun h3 => ?_)
 ·
  simp only [HS] at h3;refine kY [8,9] Z (rG (eZ Z (AG rfl Z (AA Z) Z Z Z (eK 2 Z (sT Z (nZ Z (oN (bN (tN (sQ (AQ (Le.adoptBox (u := 17) (j := 7) (id := 195) Z Z Z) (nY Z (rG (eZ Z (AG rfl Z (AA Z) Z Z Z ?_)))))))))))))));refine eK 2 Z ?_
  try refine WO_le (Le.freeze (u := 55) rfl) ?_
  refine nZ Z (kZ [8,55] Z (sT Z (nZ Z (WO_le (Le.gatherBox (u := 8) (j := 2) (id := 195) Z Z Z (by simp) Z) ?_))));refine nZ Z (nZ Z (nB (rT (eR ?_))))
  ·first
   | (have e := haH_3 (by assumption); exact retO e.symm (by rw [RI, if_neg (by omega), if_neg (by omega)]) (by simp [SH]) rfl)
 simp only [HS] at h3;refine AC (bN (tN (sQ (AQ (Le.adoptBox (u := 17) (j := 7) (id := 195) Z Z Z) (nY Z (kY [8,9] Z (rG (eZ Z (AG rfl Z (AA Z) Z Z Z (eK 2 Z ?_))))))))))
 try refine WO_le (Le.freeze (u := 55) rfl) ?_
 refine nZ Z (sT Z (nZ Z (WO_le (Le.gatherBox (u := 8) (j := 2) (id := 195) Z Z Z (by simp) Z) ?_)));refine nZ Z (nZ Z (nB (rT (eR ?_))))
 ·first
  | exact retO (Qp hr1 (by assumption) (by assumption) (by assumption)).2 (by have h := (Qp hr1 (by assumption) (by assumption) (by assumption)).1; rw [RI, if_neg (by omega), if_neg (by omega)]) (by simp [SH]) rfl
theorem Kw (n : Int) : Fun Tryz.prog 92 [.t (.int n)] (Av [.t (.bool (!decide (-2147483648 ≤ n ∧ n ≤ 2147483647)))]) := by
 refine Fun.begin tys Tryz.func92 Z Z (N := 6) [(0, .t (.int n))] Z Z (fun w0 G F0 => ?_);refine sG (eZ Z (nA (eZ Z (AJ ?_))));refine ⟨_, Ga _, rfl, ?_⟩;refine eK 2 Z (nB (rT (eR ?_)))
 ·rfl
theorem CK {l : List Int} : (l.any fun n => !decide (-2147483648 ≤ n ∧ n ≤ 2147483647)) = !Cd l (-2147483648) 2147483647 := by
 rw [Cd, List.not_all_eq_any_not]
theorem Mf (p : Prog) (inp : List Int) (most : Int) (hp : p.ok 1048576) (hi : inp.length ≤ 1048576) : Fun Tryz.prog 49 [.t p.tt, .t (T.ints inp), .t (.int most)] (Av [.t (.bool (Cb p inp most))]) := by
 refine Fun.begin tys Tryz.func49 Z Z (N := 23) [(0, .t p.tt), (1, .t (T.ints inp)), (2, .t (.int most))] Z Z (fun w0 G F0 => ?_);refine sG (AR Z Z (AA Z) Z Z (nZ Z (eZ Z (nA (eZ Z ?_)))))
 try refine WO_le (Le.freeze (u := 7) rfl) ?_
 refine nZ Z (AJ ?_);refine ⟨_, CP p hp, rfl, ?_⟩;refine eZ Z ?_;refine gB (fun h1 => ?_) (fun h1 => ?_)
 ·
  simp only [HS] at h1;refine xK 4 Z (kZ [1,2,6,14] Z (xK 9 Z (kZ [6] Z (nB (rT (eR ?_))))))
  ·exact retB (by first | grind [Cb] | (rw [CK]; grind [Cb]))
 refine eZ Z (gY Z (evE ?_));refine xK 2 Z (kZ [1,2,6,13] Z (eZ Z ?_));refine gB (fun h2 => ?_) (fun h2 => ?_)
 ·
  simp only [HS] at h2;refine xK 8 Z (kZ [6] Z (nB (rT (eR ?_))))
  ·exact retB (by first | grind [Cb] | (rw [CK]; grind [Cb]))
 simp only [HS] at h2;refine eZ Z (gY Z (AJ ?_));refine ⟨_, Ad _ _ _, rfl, ?_⟩;refine eK 2 Z ?_;refine gB (fun h3 => ?_) (fun h3 => ?_)
 ·
  simp only [HS] at h3;refine xK 4 Z (kZ [6] Z (nB (rT (eR ?_))))
  ·exact retB (by first | grind [Cb] | (rw [CK]; grind [Cb]))
 simp only [HS] at h3;refine eZ Z (gY Z (AJ ?_));refine ⟨_, DM inp (fun n => !decide (-2147483648 ≤ n ∧ n ≤ 2147483647)) _ [] Z (by omega) (fun x _ => Kw x), rfl, ?_⟩;refine xK 2 Z (kZ [6,22] Z (eZ Z (nB (rT (eR ?_)))))
 ·exact retB (by first | grind [Cb] | (rw [CK]; grind [Cb]))
open Go.Eng
def run (m : Int) (g : Nat) : List Int := (List.range g).map fun i : Nat => m + i
theorem Hs (m : Int) (g : Nat) : (run m g).length = g := by simp [run]
theorem LH (m : Int) (g : Nat) : run m (g + 1) = run m g ++ [m + g] := by simp [run, List.range_succ]
theorem mem_run {m x : Int} {g : Nat} : x ∈ run m g ↔ m ≤ x ∧ x < m + g := by
 simp only [run, Sq, Sy]
 constructor
 ·rintro ⟨i, hi, rfl⟩; omega
 ·intro h; exact ⟨(x - m).toNat, by omega, by omega⟩
theorem RC (m : Int) (g h : Nat) : run m (g + h) = run m g ++ run (m + g) h := by
 induction h with
 | zero => simp [run]
 | succ h ih => rw [← TG, LH, ih, LH, SX]; congr 3; simp; omega
theorem NN {m : Int} {g : Nat} {a b : List Int} (h : run m g = a ++ b) : a = run m a.length ∧ b = run (m + a.length) b.length := by
 have hl := congrArg List.length h
 rw [Hs, SD] at hl;rw [hl, RC] at h;exact ⟨(List.append_inj_left h (by rw [Hs])).symm, (List.append_inj_right h (by rw [Hs])).symm⟩
theorem PB (N : Nat) : CL N = run 0 N := by simp [CL, run]
theorem Pn {N : Int} {kids : Int → List Int × List Int} (hd : BM N kids) {b : List Int} (hb : inB N 0 b) (m : Int) (hm : m ∈ ord N kids b) : ∃ l r, ord N kids b = l ++ ord N kids [m] ++ r :=
 Eg hd (p := fun b o => m ∈ o → ∃ l r, o = l ++ ord N kids [m] ++ r) (fun h => by cases h) (fun n b h1 h2 _ i1 i2 i3 hm => by
  simp only [S7, SL, SF] at hm ⊢
  rcases hm with rfl | (hm | hm) | hm
  ·refine ⟨[], ord N kids b, ?_⟩
   rw [Dz hd (by intro x hx; rw [SN] at hx; subst hx; exact ⟨h1, h2⟩), EH]
   simp
  ·obtain ⟨l, r, e⟩ := i1 hm; exact ⟨n :: l, r ++ (ord N kids (kids n).2 ++ ord N kids b), by rw [e]; simp⟩
  ·obtain ⟨l, r, e⟩ := i2 hm; exact ⟨n :: (ord N kids (kids n).1 ++ l), r ++ ord N kids b, by rw [e]; simp⟩
  ·obtain ⟨l, r, e⟩ := i3 hm; exact ⟨n :: (ord N kids (kids n).1 ++ (ord N kids (kids n).2 ++ l)), r, by rw [e]; simp⟩) hb hm
theorem HR {f : Func} (h : Ap f = true) : BM f.stmts.length (kids f.stmts) ∧ inB f.stmts.length 0 f.body ∧ ord f.stmts.length (kids f.stmts) f.body = CL f.stmts.length := by
 unfold Ap at h;simp only [SC] at h;exact shapeB_iff.1 h.2.2.1
def HD (f : Func) (s : Int) : Nat := (BC f [s]).length
theorem P3 {f : Func} (h : Ap f = true) {s : Int} (h0 : 0 ≤ s) (h1 : s < f.stmts.length) : BC f [s] = run s (HD f s) ∧ 1 ≤ HD f s ∧ s + HD f s ≤ f.stmts.length := by
 obtain ⟨hd, hb, ho⟩ := HR h
 have hm : s ∈ ord f.stmts.length (kids f.stmts) f.body := by rw [ho]; exact mem_upto.2 ⟨h0, h1⟩
 obtain ⟨l, r, e⟩ := Pn hd hb s hm
 rw [ho, PB, SX] at e
 have hs : BC f [s] = s :: (BC f (kids f.stmts s).1 ++ BC f (kids f.stmts s).2) := by
  unfold BC;rw [Dz hd (by intro x hx; rw [SN] at hx; subst hx; exact ⟨h0, h1⟩), EH]
  simp
 have hl := congrArg List.length e
 rw [Hs, SD, SD] at hl
 obtain ⟨e1, e2⟩ := NN e
 obtain ⟨e3, e4⟩ := NN e2.symm
 have e5 : BC f [s] = run (0 + (l.length : Int)) (HD f s) := e3
 have hg : 1 ≤ HD f s := by unfold HD; rw [hs]; simp
 have e6 : s = 0 + (l.length : Int) := by
  have h2 : (BC f [s]).head? = some s := by rw [hs]; rfl
  rw [e5] at h2
  obtain ⟨g, hg'⟩ : ∃ g, HD f s = g + 1 := ⟨HD f s - 1, by omega⟩
  rw [hg'] at h2
  simp [run, List.range_succ_eq_map] at h2
  omega
 rw [← e6] at e5;refine ⟨e5, hg, ?_⟩
 have : (ord (f.stmts.length : Int) (kids f.stmts) [s]).length = HD f s := rfl
 omega
open Go.Eng
section
variable {f : Func} {s : Int} {g : Nat}
theorem OT {l : List Int} {F : Int → List Int} {x n m : Int} (hn : n ∈ l) (hm : m ∈ l) (hne : n ≠ m) (h1 : x ∈ F n) (h2 : x ∈ F m) : 2 ≤ (l.flatMap F).count x := by
 induction l with
 | nil => simp at hn
 | cons y l ih =>
  rw [Sd, List.count_append]
  have pos : ∀ k, k ∈ l → x ∈ F k → 1 ≤ (l.flatMap F).count x := fun k hk hx => List.count_pos_iff.2 (Sc.2 ⟨k, hk, hx⟩)
  rcases SL.1 hn with e | hn'
  ·subst e
   have hm' := (SL.1 hm).resolve_left (Ne.symm hne)
   have := pos m hm' h2
   have := List.count_pos_iff.2 h1
   omega
  ·rcases SL.1 hm with e | hm'
   ·subst e
    have := pos n hn' h1
    have := List.count_pos_iff.2 h2
    omega
   ·have := ih hn' hm'
    omega
theorem enter (hsh : Ap f = true) (h0 : 0 ≤ s) (h1 : s < f.stmts.length) (hg : g = HD f s) : (∀ n : Int, 0 ≤ n → n < f.stmts.length → (n < s ∨ s + g ≤ n) → ∀ x, x ∈ Ic (kids f.stmts) n → s ≤ x → x < s + g → x = s) ∧ ∀ x, x ∈ f.body → s ≤ x → x < s + g → x = s := by
 obtain ⟨hd, hb, ho⟩ := HR hsh
 obtain ⟨g1, g2, g3⟩ := P3 hsh h0 h1
 rw [← hg] at g1 g3
 obtain ⟨o1, _, _⟩ := EI hd hb ho
 have hin1 : inB f.stmts.length 0 [s] := fun x hx => by rw [SN] at hx; subst hx; exact ⟨h0, h1⟩
 have par : ∀ x, s ≤ x → x < s + g → ¬ x = s → ∃ m, (s ≤ m ∧ m < s + g) ∧ x ∈ Ic (kids f.stmts) m := fun x hx1 hx2 hne => by
  have hc := GQ hd hin1 x
  have e : ord f.stmts.length (kids f.stmts) [s] = run s g := g1
  rw [e] at hc
  have hx : 1 ≤ (run s g).count x := List.count_pos_iff.2 (mem_run.2 ⟨hx1, hx2⟩)
  have hz : [s].count x = 0 := Sz (by simpa using hne)
  have hp : 0 < ((run s g).flatMap (Ic (kids f.stmts))).count x := by omega
  obtain ⟨m, hm, hxm⟩ := Sc.1 (List.count_pos_iff.1 hp)
  exact ⟨m, mem_run.1 hm, hxm⟩
 refine ⟨fun n hn0 hn1 hn x hx hx1 hx2 => Classical.byContradiction fun hne => ?_, fun x hx hx1 hx2 => Classical.byContradiction fun hne => ?_⟩
 ·obtain ⟨m, hm, hxm⟩ := par x hx1 hx2 hne
  have h2 := o1 x (by omega) (by omega)
  unfold Mz at h2;rw [List.count_append] at h2
  have h3 := OT (l := CL f.stmts.length) (F := Ic (kids f.stmts)) (x := x) (n := n) (m := m) (mem_upto.2 ⟨hn0, hn1⟩) (mem_upto.2 ⟨by omega, by omega⟩) (by omega) hx hxm
  omega
 ·obtain ⟨m, hm, hxm⟩ := par x hx1 hx2 hne
  have h2 := o1 x (by omega) (by omega)
  unfold Mz at h2;rw [List.count_append] at h2
  have h3 : 1 ≤ f.body.count x := List.count_pos_iff.2 hx
  have h4 : 1 ≤ ((CL f.stmts.length).flatMap (Ic (kids f.stmts))).count x := List.count_pos_iff.2 (Sc.2 ⟨m, mem_upto.2 ⟨by omega, by omega⟩, hxm⟩)
  omega
end
open Go.Eng
structure Ou where
 code : Int
 value : Int
 trace : List Int
 used : Int
def DJ (p : Prog) (inp : List Int) (most fuel : Nat) : Bool := Cb p inp most && decide (fuel ≤ 600)
def outP (p : Prog) (inp : List Int) (most fuel : Nat) : Ou := ⟨(G6 p inp most fuel).1, RI (G6 p inp most fuel).1 (G6 p inp most fuel).2.1, (G6 p inp most fuel).2.2.2.trace, (G6 p inp most fuel).2.2.2.used⟩
def Nf (p : Prog) (inp : List Int) (most fuel : Nat) : Ou := if DJ p inp most fuel = true then outP p inp most fuel else ⟨0, 0, [], 0⟩
def Ou.dd (o : Ou) : D := .agg [.t (.int o.code), .t (.int o.value), .own (T.ints o.trace), .t (.int o.used)]
theorem Ru {p : Prog} {inp : List Int} {most : Int} (h : Cb p inp most = true) : goodP p = true := by
 unfold Cb at h;simp only [SC] at h;exact h.1
theorem Kb {p : Prog} {inp : List Int} {most fuel : Nat} (h : DJ p inp most fuel = true) : [D.agg [.t (T.v (.int .i64 (G6 p inp most fuel).1)), .t (T.v (.int .i64 (RI (G6 p inp most fuel).1 (G6 p inp most fuel).2.1))), .own (T.ints (G6 p inp most fuel).2.2.2.trace), .t (T.v (.int .i64 (G6 p inp most fuel).2.2.2.used))], D.t (T.v (.bool true))] = [(Nf p inp most fuel).dd, D.t (T.bool (DJ p inp most fuel))] := by
 rw [Nf, h]; rfl
theorem Qc {p : Prog} {inp : List Int} {most fuel : Nat} (h : DJ p inp most fuel = false) : [D.agg [.t (T.v (.int .i64 0)), .t (T.v (.int .i64 0)), .own (T.list 1 []), .t (T.v (.int .i64 0))], D.t (T.v (.bool false))] = [(Nf p inp most fuel).dd, D.t (T.bool (DJ p inp most fuel))] := by
 rw [Nf, h]; rfl
theorem Gb (p : Prog) (inp : List Int) (most fuel : Nat) (hp : p.ok 1048576) (hi : inp.length ≤ 1048576) (hm : most ≤ 1048576) (hf : fuel ≤ 1048576) : Fun Tryz.prog 15 [.t p.tt, .t (T.ints inp), .t (.int most), .t (.int fuel)] (Av [(Nf p inp most fuel).dd, .t (.bool (DJ p inp most fuel))]) := by
 refine Fun.begin tys Tryz.func15 Z Z (N := 26) [(0, .t p.tt), (1, .t (T.ints inp)), (2, .t (.int most)), (3, .t (.int fuel))] Z Z (fun w0 G F0 => ?_);refine sG (AR Z Z (AA Z) Z Z (nZ Z (AL tys Z Z (AA Z) Z Z Z (nZ Z (eZ Z (nB (sQ (sG (eZ Z ?_)))))))))
 try refine WO_le (Le.freeze (u := 10) rfl) ?_
 refine nZ Z (eK 2 Z (AJ ?_));refine ⟨_, Mf p inp most hp hi, rfl, ?_⟩;refine eK 2 Z (kZ [1,2,3,4,8,9,15] Z ?_);refine gB (fun h1 => ?_) (fun h1 => ?_)
 ·
  simp only [HS] at h1;refine xK 3 Z (nB (Ab Z (sG (AN tys Z Z (AA Z) Z Z Z (by kernel_rfl) Z Z Z Z Z Z (sT Z (nZ Z (eZ Z (nB ?_))))))))
  try (refine AQ (Le.nilBox (u := 8) (j := 2) 1 rfl rfl) ?_; refine Aj rfl ?_)
  refine rT (tR (eR ?_))
  ·first
   | exact Kb hok
   | (refine Qc ?_; unfold DJ; rw [← Bool.not_eq_true]; simp only [SC, decide_eq_true_eq]; rintro ⟨g1, g2⟩; first | omega | (simp_all; done) | (simp_all; omega))
 simp only [HS] at h1;refine eZ Z (gY Z (AJ ?_));refine ⟨_, Ad _ _ _, rfl, ?_⟩;refine xK 2 Z (nB ?_);refine AB Z (fun h2 => ?_) (fun h2 => ?_)
 ·
  simp only [HS] at h2;refine sG (AN tys Z Z (AA Z) Z Z Z (by kernel_rfl) Z Z Z Z Z Z (sT Z (nZ Z (eZ Z (nB ?_)))))
  try (refine AQ (Le.nilBox (u := 8) (j := 2) 1 rfl rfl) ?_; refine Aj rfl ?_)
  refine rT (tR (eR ?_))
  ·first
   | exact Kb hok
   | (refine Qc ?_; unfold DJ; rw [← Bool.not_eq_true]; simp only [SC, decide_eq_true_eq]; rintro ⟨g1, g2⟩; first | omega | (simp_all; done) | (simp_all; omega))
 simp only [HS] at h2;refine AC (tN (sG (eZ Z ?_)))
 try refine WO_le (Le.freeze (u := 21) rfl) ?_
 refine nZ Z (eK 3 Z ?_)
 have hok : DJ p inp most fuel = true := by unfold DJ; simp_all <;> omega
 have hasked : Cb p inp most = true := by unfold DJ at hok; simp only [SC] at hok; exact hok.1
 refine AJ ?_;refine ⟨_, MA p inp most fuel (Ru hasked) hp hi hm hf, rfl, ?_⟩;refine kZ [8,9,25] Z (sT Z (nZ Z (eZ Z (nB ?_))))
 try (refine AQ (Le.nilBox (u := 8) (j := 2) 1 rfl rfl) ?_; refine Aj rfl ?_)
 refine rT (eR ?_)
 ·first
  | exact Kb hok
open Go.Eng
def Qs (fn : Int) : List Tok → Int → Option Int
 | [], _ => none
 | t :: l, i => if t.op = 11 ∧ t.n ≤ fn then some i else Qs fn l (i + 1)
def layE (fn : Int) (l : List Tok) : List Tok := match Qs fn l 0 with
 | some i => [⟨1, i⟩]
 | none => l
def Qi (fn : Int) (s : Stmt) : Stmt := ⟨s.kind, s.n, layE fn s.ex, s.thn, s.els⟩
def MJ (fn : Int) (s : Stmt) : Stmt := if (Qi fn s).kind = 3 ∧ (Qi fn s).n ≤ fn then ⟨2, 0, [⟨1, 8⟩], [], []⟩ else Qi fn s
def Lc (cd : List Int) (fn : Int) (s : Stmt) (c : Cu) : Stmt × Cu :=
 if (MJ fn s).kind = 8 then
  (if pickV cd 2 c = 0 then (⟨7, (MJ fn s).n, (MJ fn s).ex, (MJ fn s).thn, (MJ fn s).els⟩, curC cd 2 c) else (MJ fn s, curC cd 2 c))
 else (MJ fn s, c)
def KJ (cd : List Int) (fn : Int) : List Stmt → Cu → List Stmt × Cu
 | [], c => ([], c)
 | s :: l, c => ((Lc cd fn s c).1 :: (KJ cd fn l (Lc cd fn s c).2).1, (KJ cd fn l (Lc cd fn s c).2).2)
def Ps (cd : List Int) (fn : Int) (f : Func) (c : Cu) : Func × Cu := (⟨f.params, f.vars, f.body, (KJ cd fn f.stmts c).1⟩, (KJ cd fn f.stmts c).2)
def Ib (cd : List Int) : Int → List Func → Cu → List Func × Cu
 | _, [], c => ([], c)
 | fn, f :: l, c => ((Ps cd fn f c).1 :: (Ib cd (fn + 1) l (Ps cd fn f c).2).1, (Ib cd (fn + 1) l (Ps cd fn f c).2).2)
def layR (cd : List Int) (c : Cu) : Prog × Cu := (⟨(Ib cd 0 (programR cd c).1.funcs (programR cd c).2).1⟩, (Ib cd 0 (programR cd c).1.funcs (programR cd c).2).2)
theorem Nv {cd : List Int} {fn : Int} {s : Stmt} {c : Cu} : c.1 ≤ (Lc cd fn s c).2.1 ∧ (Lc cd fn s c).2.1 ≤ c.1 + 2 := by
 have p := AM (cd := cd) (n := 2) (c := c)
 unfold Lc
 repeat' split
 all_goals (simp only; omega)
theorem RR {fn : Int} {l : List Tok} (h : l.length ≤ 13) : (layE fn l).length ≤ 13 := by
 unfold layE;split
 ·simp
 ·exact h
theorem RQ {cd : List Int} {fn : Int} {s : Stmt} {c : Cu} (h : KI s) : KI (Lc cd fn s c).1 := by
 have h2 : KI (MJ fn s) := by
  unfold MJ;split
  ·exact ⟨by simp, by simp, by simp⟩
  ·exact ⟨RR h.1, h.2.1, h.2.2⟩
 unfold Lc
 repeat' split
 all_goals exact h2
theorem Nw {cd : List Int} {fn : Int} : ∀ (l : List Stmt) (c : Cu), c.1 ≤ (KJ cd fn l c).2.1 ∧ (KJ cd fn l c).2.1 ≤ c.1 + 2 * l.length ∧ (KJ cd fn l c).1.length = l.length ∧ ((∀ s, s ∈ l → KI s) → ∀ s, s ∈ (KJ cd fn l c).1 → KI s)
 | [], c => by simp [KJ]
 | s :: l, c => by
  have h1 := Nv (cd := cd) (fn := fn) (s := s) (c := c)
  have ih := Nw (cd := cd) (fn := fn) l (Lc cd fn s c).2
  rw [KJ];simp only [SG];refine ⟨by omega, by omega, by omega, fun h x hx => ?_⟩
  rcases SL.1 hx with rfl | hx
  ·exact RQ (h s (by simp))
  ·exact ih.2.2.2 (fun y hy => h y (by simp [hy])) x hx
theorem Pr {cd : List Int} {fn : Int} {f : Func} {c : Cu} (h : Dfn f) : Dfn (Ps cd fn f c).1 ∧ c.1 ≤ (Ps cd fn f c).2.1 ∧ (Ps cd fn f c).2.1 ≤ c.1 + 24 := by
 have hl := Nw (cd := cd) (fn := fn) f.stmts c
 have h1 := h.s12
 unfold Ps;exact ⟨⟨h.b1, h.b3, by simp only; rw [hl.2.2.1]; exact h.s1, by simp only; rw [hl.2.2.1]; exact h.s12, hl.2.2.2 h.st⟩, hl.1, by simp only; omega⟩
theorem Ld {cd : List Int} : ∀ (fn : Int) (l : List Func) (c : Cu), (∀ f, f ∈ l → Dfn f) → (∀ f, f ∈ (Ib cd fn l c).1 → Dfn f) ∧ (Ib cd fn l c).1.length = l.length ∧ c.1 ≤ (Ib cd fn l c).2.1 ∧ (Ib cd fn l c).2.1 ≤ c.1 + 24 * l.length
 | fn, [], c, _ => by simp [Ib]
 | fn, f :: l, c, h => by
  have h1 := Pr (cd := cd) (fn := fn) (c := c) (h f (by simp))
  have ih := Ld (cd := cd) (fn + 1) l (Ps cd fn f c).2 fun g hg => h g (by simp [hg])
  rw [Ib];simp only [SG];refine ⟨fun g hg => ?_, by omega, by omega, by omega⟩
  rcases SL.1 hg with rfl | hg
  ·exact h1.1
  ·exact ih.1 g hg
open Go.Eng
theorem L2 : ∀ (l : List Stmt) (x : T), x ∈ l.map Stmt.tt → (T.cells x).length = 5 := fun l x h => by
 obtain ⟨z, _, rfl⟩ := Sq.1 h
 rfl
theorem Lz {α : Type} (a : List α) (x : α) (b : List α) {n : Int} (h : n = a.length) : (a ++ x :: b)[n.toNat]? = some x := by
 rw [List.getElem?_append_right (by omega), show n.toNat - a.length = 0 from by omega]; rfl
theorem KX {uu v2 : List Stmt} {s s1 : Stmt} {z : T} {k : Int} (h : k = uu.length) : (((uu ++ s :: v2).map Stmt.tt).set k.toNat z).set k.toNat (Stmt.tt s1) = (uu ++ s1 :: v2).map Stmt.tt := by
 rw [List.set_set, ← List.map_set, List.set_append_right _ _ (by omega), show k.toNat - uu.length = 0 from by omega];rfl
theorem LG {uu v2 : List Stmt} {s s1 : Stmt} {k : Int} (h : k = uu.length) : ((uu ++ s :: v2).map Stmt.tt).set k.toNat (Stmt.tt s1) = (uu ++ s1 :: v2).map Stmt.tt := by
 rw [← List.map_set, List.set_append_right _ _ (by omega), show k.toNat - uu.length = 0 from by omega];rfl
theorem PQ {a b : List Func} {f f' : Func} {z : T} {n : Int} (h : n = a.length) : (((a ++ f :: b).map Func.tt).set n.toNat z).set n.toNat (Func.tt f') = ((a ++ [f']) ++ b).map Func.tt := by
 rw [List.set_set, ← List.map_set, List.set_append_right _ _ (by omega), show n.toNat - a.length = 0 from by omega]
 simp
theorem JZ {n : Int} {s : Stmt} (h : Qs n s.ex 0 = none) : s = Qi n s := by unfold Qi layE; rw [h]
theorem Nx {n i : Int} {s : Stmt} (h : Qs n s.ex 0 = some i) : ⟨s.kind, s.n, [⟨1, i⟩], s.thn, s.els⟩ = Qi n s := by unfold Qi layE; rw [h]
theorem Kf (cd : List Int) (c : Cu) (bw : Nat) (pv : Value) (hcd : CU cd) (h0 : 0 ≤ c.1) (h1 : c.1 ≤ 524280) : Proc Tryz.prog 71 [.t (.v (.pointer (some ⟨bw, 0, none⟩)))] ([pv]) ([T.bytes cd]) [.obox (.pointer (some ⟨bw, 0, none⟩)) (cuC pv c)] (.agg [.own (T.Funcs (layR cd c).1.funcs)]) [.obox (.pointer (some ⟨bw, 0, none⟩)) (cuC pv (layR cd c).2)] := by
  have hpa := DL (c := c) hcd h0
  have hpd := Ch (c := c) hcd h0
  obtain ⟨hq1, hq4, hqd⟩ := hpd
  obtain ⟨c1, hc1⟩ : ∃ z, z = (programR cd c).2 := ⟨_, rfl⟩
  obtain ⟨fs, hfs⟩ : ∃ z, z = (programR cd c).1.funcs := ⟨_, rfl⟩
  have hprog := GO cd c bw pv hcd h0 h1
  have hR : layR cd c = (⟨(Ib cd 0 fs c1).1⟩, (Ib cd 0 fs c1).2) := by rw [layR, ← hc1, ← hfs]
  rw [← hc1, ← hfs] at hprog;rw [← hc1] at hpa;rw [← hfs] at hq1 hq4 hqd
  have hml : (List.map Func.tt fs).length = fs.length := SE ..
  refine Proc.intro tys Tryz.func71 Z Z (N := 94) [100] 99 ([(0, .t (.v (.pointer (some ⟨bw, 0, none⟩))))]) ([(100, .obox (.pointer (some ⟨bw, 0, none⟩)) (cuC pv c)), (99, .ro [pv] [T.bytes cd])]) Z Z Z Z (by decide) (by decide) Z (fun w0 G F0 => ?_);refine nY Z (sG (AL tys Z Z (AA Z) Z Z Z (nZ Z (nA (eZ Z ?_)))));refine cP [100] (hm := (hprog)) (k := ?_);refine nZ Z (AL tys Z Z (AA Z) Z Z Z (nZ Z (sT Z (nZ Z (nB (sQ (sQ (AQ (Le.adoptBox (u := 3) (j := 0) (id := 101) Z Z Z) (nY Z (rG (eK 2 Z (evE ?_))))))))))));refine eZ Z (kZ [0,2,3,13,14] Z (nB (AD ?_)));refine lK (α := Int × List Func × List Func × Cu) [0, 1, 2, 13, 3] [99, 2, 3] (fun x => [(14, .t (.int (x.1)))]) (fun x => [(101, .L 4 (((x.2.1) ++ (x.2.2.1)).map Func.tt)), (100, .obox (.pointer (some ⟨bw, 0, none⟩)) (cuC pv (x.2.2.2)))]) (fun x => 0 ≤ (x.1) ∧ (x.1) = (x.2.1).length ∧ (x.2.1).length + (x.2.2.1).length = fs.length ∧ (∀ g, g ∈ (x.2.2.1) → Dfn g) ∧ c1.1 ≤ (x.2.2.2).1 ∧ (x.2.2.2).1 ≤ c1.1 + 24 * (x.2.1).length ∧ Ib cd 0 fs c1 = ((x.2.1) ++ (Ib cd (x.1) (x.2.2.1) (x.2.2.2)).1, (Ib cd (x.1) (x.2.2.1) (x.2.2.2)).2)) (fun x => Int.toNat (fs.length - (x.1))) (0, [], fs, c1) ?_ (fun x hx => ?_)
  · dsimp only
    exact ⟨by omega, by simp, by simp, hqd, by omega, by simp, by simp⟩
  obtain ⟨n, a, b, c'⟩ := x
  obtain ⟨hn0, hn, hab, had, hca, hcb, hre⟩ := hx
  dsimp only at hn0 hn hab had hca hcb hre ⊢;refine nY Z (sG (eZ Z (nB (sQ ?_))));refine AB Z (fun h1 => ?_) (fun h1 => ?_)
  ·
    simp only [HS] at h1;refine AC (tN (sQ (AD (sQ ?_))))
    obtain ⟨f, b', rfl⟩ : ∃ f b', b = f :: b' := by
     cases b with
     | nil => simp at hab; omega
     | cons f b' => exact ⟨f, b', rfl⟩
    have hfd := had f (by simp)
    obtain ⟨b1, b3, s1, s12, st⟩ := hfd
    have hzf : ((a ++ f :: b').map Func.tt)[n.toNat]? = some f.tt := by rw [List.getElem?_map, Lz a f b' hn]; rfl
    have hnl : n.toNat < ((a ++ f :: b').map Func.tt).length := by rw [SE, SD, SG]; omega
    refine IT (id := 101) (i := n.toNat) (off := 3) (z := f.tt) 102 1102 133 Z (fns_cells _) hzf Z (by intro h; have := congrArg List.length h; rw [SE, List.length_nil] at this; omega) Z Z Z Z Z Z (fun b4 cap4 hcap4 => ?_);refine nY Z (rG (eK 2 Z (nA (eK 3 Z (Ac tys Z Z (AA Z) Z Z Z Z Z Z Z Z (by omega) (by omega) (eZ Z ?_))))));refine AS tys Z Z (AA Z) Z Z Z Z (by rw [SS]; exact List.getElem?_set_self hnl) Z ?_;refine WO_le (Le.namedS (t := 22) 1102 Z Z hcap4) (nZ Z (kZ [0,1,2,3,4,13,14,15,16,17,18,19,20,21,22] Z (evE ?_)));refine eZ Z (nB (AD ?_));refine lK (α := Int × List Stmt × List Stmt × Cu) [0, 1, 2, 13, 14, 4, 23, 3] [99, 2, 3, 101, 1102] (fun x => [(24, .t (.int (x.1)))]) (fun x => [(102, .L 5 (((x.2.1) ++ (x.2.2.1)).map Stmt.tt)), (100, .obox (.pointer (some ⟨bw, 0, none⟩)) (cuC pv (x.2.2.2)))]) (fun x => 0 ≤ (x.1) ∧ (x.1) = (x.2.1).length ∧ (x.2.1).length + (x.2.2.1).length = f.stmts.length ∧ (∀ g, g ∈ (x.2.2.1) → KI g) ∧ c'.1 ≤ (x.2.2.2).1 ∧ (x.2.2.2).1 ≤ c'.1 + 2 * (x.2.1).length ∧ KJ cd n f.stmts c' = ((x.2.1) ++ (KJ cd n (x.2.2.1) (x.2.2.2)).1, (KJ cd n (x.2.2.1) (x.2.2.2)).2)) (fun x => Int.toNat (f.stmts.length - (x.1))) (0, [], f.stmts, c') ?_ (fun x hx => ?_)
    · dsimp only
      exact ⟨by omega, by simp, by simp, st, by omega, by simp, by simp⟩
    obtain ⟨k, uu, vv, c''⟩ := x
    obtain ⟨hk0, hk, hxy, hyd, hcc, hcd', hrs⟩ := hx
    dsimp only at hk0 hk hxy hyd hcc hcd' hrs ⊢;refine nY Z (sG (eZ Z (nB (sQ ?_))));refine AB Z (fun h2 => ?_) (fun h2 => ?_)
    ·
      simp only [HS] at h2;refine AC (tN (sQ (AD (sQ ?_))))
      obtain ⟨s, v2, rfl⟩ : ∃ s v2, vv = s :: v2 := by
       cases vv with
       | nil => simp at hxy; omega
       | cons s v2 => exact ⟨s, v2, rfl⟩
      have hkl : k.toNat < ((uu ++ s :: v2).map Stmt.tt).length := by rw [SE, SD, SG]; omega
      have hmk : (List.map Stmt.tt f.stmts).length = f.stmts.length := SE ..
      have hzs : ((uu ++ s :: v2).map Stmt.tt)[k.toNat]? = some s.tt := by rw [List.getElem?_map, Lz uu s v2 hk]; rfl
      refine rG (eK 2 Z (nA (eK 3 Z (Ac tys Z Z (AA Z) Z Z Z Z Z Z Z Z (by omega) (by omega) (eZ Z ?_)))));refine AS tys Z Z (AA Z) Z Z Z Z (by rw [SS]; exact List.getElem?_set_self hnl) Z ?_;refine WO_le (Le.namedS (t := 32) 1102 Z Z hcap4) (nZ Z (kZ [0,1,2,3,4,5,13,14,23,24,25,26,27,28,29,30,31,32] Z (eZ Z (Ac tys Z Z (AA Z) Z Z Z Z Z Z Z Z (by omega) (by omega) (eZ Z (nB (sQ ?_)))))));refine As (α := Stmt) [0, 1, 2, 13, 14, 4, 23, 24, 5, 6, 3] [99, 2, 3, 101, 1102, 100] (fun x => []) (fun x => [(102, .L 5 ((uu ++ x :: v2).map Stmt.tt))]) (fun x => x = Qi n s) ?_ (fun s1 hx => ?_)
      ·
        rcases (Classical.em (s.ex = [])) with hE | hE
        ·
          refine sQ ?_;refine Oh (id := 102) (i := k.toNat) (off := 2) 107 Z hzs Z Z Z (fun ad cp => ?_);refine nY Z (rG (eZ Z (AG rfl Z (AA Z) Z Z Z (eZ Z ?_))));refine AS tys Z Z (AA Z) Z Z Z Z (by rw [SS]; exact List.getElem?_set_self hkl) Z ?_;refine R5 Z Z (AA Z) Z ⟨_, rfl⟩ rfl (eZ Z (kZ [0,1,2,3,4,5,6,13,14,23,24,25,26,27,28,29,30,31,32,33,34,35,36,37,38,39,40] Z (nB (AD ?_))));refine lK (α := Int) [0, 1, 2, 13, 14, 4, 23, 24, 5, 6, 38, 39, 3] [99, 2, 3, 101, 1102, 102, 107, 100] (fun x => [(40, .t (.int x))]) (fun x => []) (fun x => 0 ≤ x) (fun x => Int.toNat (13 - x)) 0 ?_ (fun i hx => ?_)
          · trivial
          have hx := hx
          refine nY Z (sG (eZ Z (nB (sQ ?_))));refine AB Z (fun h3 => ?_) (fun h3 => ?_)
          ·
            simp only [HS] at h3
            exfalso; rw [hE] at h3; simp at h3; omega
          simp only [HS] at h3;refine AQ (Le.putBack (id := 102) (idq := 107) (i := k.toNat) (off := 2) s.tt Z Z (List.getElem?_set_self hkl) Z Z Z) ?_;refine nY Z (AQ (Le.eqK (id := 102) Z (k' := .L 5 ((uu ++ s :: v2).map Stmt.tt)) (congrArg (Blk.L 5) (KX hk))) (nY Z (AP (tE (AK (AI (jQ _ ?_)))))))
          first
          | exact JZ (by rw [hE]; rfl)
        ·
          refine sQ ?_;refine IT (id := 102) (i := k.toNat) (off := 2) (z := s.tt) 103 1103 134 Z (L2 _) hzs Z (by intro h; exact hE (List.map_eq_nil_iff.1 h)) Z Z Z Z Z Z (fun b5 cap5 hcap5 => ?_);refine nY Z (rG (eZ Z (AG rfl Z (AA Z) Z Z Z (eZ Z ?_))));refine AS tys Z Z (AA Z) Z Z Z Z (by rw [SS]; exact List.getElem?_set_self hkl) Z ?_;refine WO_le (Le.namedS (t := 38) 1103 Z Z hcap5) (nZ Z (evE ?_));refine eZ Z (kZ [0,1,2,3,4,5,6,13,14,23,24,25,26,27,28,29,30,31,32,33,34,35,36,37,38,39,40] Z (nB (AD ?_)));refine lK (α := Int) [0, 1, 2, 13, 14, 4, 23, 24, 5, 6, 38, 39, 3] [99, 2, 3, 101, 1102, 102, 103, 1103, 100] (fun x => [(40, .t (.int x))]) (fun x => []) (fun x => 0 ≤ x ∧ x ≤ s.ex.length ∧ Qs n (s.ex.drop x.toNat) x = Qs n s.ex 0) (fun x => Int.toNat (s.ex.length - x)) 0 ?_ (fun i hx => ?_)
          · skip
            exact ⟨by omega, by omega, by simp⟩
          obtain ⟨hi0, hi1, hib⟩ := hx
          refine nY Z (sG (eZ Z (nB (sQ ?_))));refine AB Z (fun h3 => ?_) (fun h3 => ?_)
          ·
            simp only [HS] at h3;refine AC (tN (sQ (AD (sQ ?_))))
            have hs13 := (hyd s (by simp)).1
            have hlt : i.toNat < s.ex.length := by omega
            have hdr : Qs n (s.ex.drop i.toNat) i = if (s.ex[i.toNat]'hlt).op = 11 ∧ (s.ex[i.toNat]'hlt).n ≤ n then some i else Qs n (s.ex.drop (i.toNat + 1)) (i + 1) := by rw [Sr hlt]; rfl
            have hil : (List.map Tok.tt s.ex).length = s.ex.length := SE ..
            refine rG (eZ Z (Ac tys Z Z (AA Z) Z Z Z Z Z Z Z Z (by omega) (by omega) (AS tys Z Z (AA Z) Z Z Z Z (Dk _ _ (by omega) (by omega)) Z (nZ Z (AL tys Z Z (AA Z) Z Z Z (nZ Z (eZ Z (sT Z (nZ Z (nB (sQ (kY [0,1,2,3,4,5,6,7,8,13,14,23,24,38,39,40,41,42,43,44] Z (rG (eK 4 Z ?_))))))))))))));refine gB (fun h4 => ?_) (fun h4 => ?_)
            ·
              simp only [HS] at h4;refine xK 4 Z (nB (BA Z (AC (bN (tN (kY [0,1,2,3,4,5,6,7,8,13,14,23,24,38,39,40,41,42,43,44,45,46,47,48,49,50,51,52,53] Z (rG (evI ?_))))))));refine eZ Z (oN ?_);refine lQ _ ?_ ?_
              · skip
                refine ⟨by omega, by omega, ?_⟩;rw [show (i + 1).toNat = i.toNat + 1 from by omega, ← hib, hdr, if_neg];intro hq;exact absurd hq.1 (by assumption)
              · (show Int.toNat _ < Int.toNat _); omega
            simp only [HS] at h4;refine xK 5 Z (kZ [0,1,2,3,4,5,6,7,8,13,14,23,24,38,39,40,41,42,43,44,45,46,47,48,49,50,51,52,53] Z (nB ?_));refine AB Z (fun h5 => ?_) (fun h5 => ?_)
            ·
              simp only [HS] at h5;refine sG (eK 2 Z (AN tys Z Z (AA Z) Z Z Z (by kernel_rfl) Z Z Z Z Z Z (bZ [(Tok.mk 1 i).tt] ?_)));refine nZ Z (WO_le (Le.gather (u := 57) (id := 57) Z Z (by first | (simp; done) | (simp; omega) | omega)) ?_);refine nZ Z (AG rfl Z (AA Z) Z Z Z (eZ Z ?_));refine BR tys [T.Toks [⟨1, i⟩]] Z Z Z Z Z Z (by rw [SS]; exact List.getElem?_set_self hkl) Z (by repeat (first | exact AbsL.nil' | refine AbsL.v' ?_ | refine AbsL.own' ?_)) Z (by decide) (So Z) ?_;refine nZ Z (nZ Z (nB ?_))
              first
              | (refine AQ (Le.eqK (id := 102) rfl (k' := .L 5 ((uu ++ ⟨s.kind, s.n, [⟨1, i⟩], s.thn, s.els⟩ :: v2).map Stmt.tt)) (by rw [SS]; exact congrArg (Blk.L 5) (KX (s1 := ⟨s.kind, s.n, [⟨1, i⟩], s.thn, s.els⟩) hk))) ?_
                 refine Aj Z ?_)
              refine AP (N7 Z (tE (AK (AI (jQ _ ?_)))))
              first
              | exact Nx (by rw [← hib, hdr, if_pos ⟨by assumption, by assumption⟩])
            simp only [HS] at h5;refine AC (bN (tN (rG (evI ?_))));refine eZ Z (oN ?_);refine lQ _ ?_ ?_
            · skip
              refine ⟨by omega, by omega, ?_⟩;rw [show (i + 1).toNat = i.toNat + 1 from by omega, ← hib, hdr, if_neg];intro hq
              obtain ⟨q1, q2⟩ := hq
              simp_all
              omega
            · (show Int.toNat _ < Int.toNat _); omega
          simp only [HS] at h3
          first
          | (refine AQ (Le.claimL (id := 102) (id2 := 103) (pid := 1103) (i := k.toNat) (off := 2) rfl rfl rfl (List.getElem?_set_self hkl) rfl (by simp) rfl) ?_
             refine nY Z (AQ (Le.eqK (id := 102) Z (k' := .L 5 ((uu ++ s :: v2).map Stmt.tt)) (congrArg (Blk.L 5) (KX hk))) ?_)
             refine Aj Z ?_)
          refine AP (tE (AK (AI (jQ _ ?_))))
          first
          | exact JZ (by rw [← hib, List.drop_eq_nil_of_le (by first | omega | (rw [SE] at h3; omega))]; rfl)
      have hs1 := hx
      refine tN (sQ ?_);refine As (α := Stmt) [0, 1, 2, 13, 14, 4, 23, 24, 5, 6, 3] [99, 2, 3, 101, 1102, 100] (fun x => []) (fun x => [(102, .L 5 ((uu ++ x :: v2).map Stmt.tt))]) (fun x => x = MJ n s) ?_ (fun s2 hx => ?_)
      ·
        refine sQ ?_
        have hz1 : ((uu ++ s1 :: v2).map Stmt.tt)[0 + k.toNat]? = some s1.tt := by rw [SS, List.getElem?_map, Lz uu s1 v2 hk]; rfl
        refine kY [0,1,2,3,4,5,6,13,14,23,24] Z (rG (eZ Z (AG rfl Z (AA Z) Z Z Z (eZ Z (AS tys Z Z (AA Z) Z Z Z Z hz1 Z (eK 2 Z ?_))))));refine gB (fun h3 => ?_) (fun h3 => ?_)
        ·
          simp only [HS] at h3;refine xK 3 Z (kZ [0,1,2,3,4,5,6,13,14,23,24,61,62,63,64,65,66,67,68,69,70] Z (xK 3 Z (nB (BA Z (AC (jQ _ ?_))))));unfold MJ;rw [← hs1]
          split <;> first | rfl | (exfalso; simp_all; omega) | (exfalso; simp_all; done)
        simp only [HS] at h3;refine eZ Z (gY Z (AG rfl Z (AA Z) Z Z Z (xZ Z (kZ [0,1,2,3,4,5,6,13,14,23,24,61,62,63,64,65,66,67,68,69] Z (gY Z (AS tys Z Z (AA Z) Z Z Z Z hz1 Z (xK 3 Z (nB ?_))))))));refine AB Z (fun h4 => ?_) (fun h4 => ?_)
        ·
          simp only [HS] at h4;refine rG (eZ Z (AN tys Z Z (AA Z) Z Z Z (by kernel_rfl) Z Z Z Z Z Z (bZ [(Tok.mk 1 8).tt] ?_)));refine nZ Z (WO_le (Le.gather (u := 76) (id := 76) Z Z (by first | (simp; done) | (simp; omega) | omega)) ?_);refine nZ Z (AN tys Z Z (AA Z) Z Z Z (by kernel_rfl) Z Z Z Z Z Z (AG rfl Z (AA Z) Z Z Z (kZ [0,1,2,3,4,5,6,13,14,23,24,61,62,63,64,65,66,67,68,69,70,71,72,73,74,75,76,77,78] Z ?_)));refine BR tys [T.int 2, T.int 0, T.Toks [⟨1, 8⟩], .list 1 [], .list 1 []] Z Z Z Z Z Z hz1 Z (by repeat (first | exact AbsL.nil' | refine AbsL.v' ?_ | refine AbsL.own' ?_ | refine AbsL.none' ?_)) Z (by decide) (So Z) ?_;refine nZ Z (WO_le (Le.eqK (id := 102) Z (k' := .L 5 ((uu ++ ⟨2, 0, [⟨1, 8⟩], [], []⟩ :: v2).map Stmt.tt)) (by rw [SS]; exact congrArg (Blk.L 5) (LG (s1 := ⟨2, 0, [⟨1, 8⟩], [], []⟩) hk))) ?_);refine nZ Z (nZ Z (oN (jQ _ ?_)));unfold MJ;rw [← hs1]
          split <;> first | rfl | (exfalso; simp_all; omega) | (exfalso; simp_all; done)
        simp only [HS] at h4;refine AC (jQ _ ?_);unfold MJ;rw [← hs1]
        split <;> first | rfl | (exfalso; simp_all; omega) | (exfalso; simp_all; done)
      have hs2 := hx
      refine tN ?_;refine As (α := Stmt × Cu) [0, 1, 2, 13, 14, 4, 23, 24, 3] [99, 2, 3, 101, 1102] (fun x => []) (fun x => [(102, .L 5 ((uu ++ (x.1) :: v2).map Stmt.tt)), (100, .obox (.pointer (some ⟨bw, 0, none⟩)) (cuC pv (x.2)))]) (fun x => (x.1) = (Lc cd n s c'').1 ∧ (x.2) = (Lc cd n s c'').2) ?_ (fun x hx => ?_)
      ·
        refine sQ ?_
        have hz2 : ((uu ++ s2 :: v2).map Stmt.tt)[0 + k.toNat]? = some s2.tt := by rw [SS, List.getElem?_map, Lz uu s2 v2 hk]; rfl
        refine kY [0,1,2,3,4,5,6,13,14,23,24] Z (rG (eZ Z (AG rfl Z (AA Z) Z Z Z (eZ Z (AS tys Z Z (AA Z) Z Z Z Z hz2 Z (eK 2 Z ?_))))));refine gB (fun h3 => ?_) (fun h3 => ?_)
        ·
          simp only [HS] at h3;refine xK 2 Z (nB (BA Z (AC (jQ (_, _) ?_))));dsimp only;unfold Lc;rw [← hs2]
          repeat' split
          all_goals first | exact ⟨rfl, rfl⟩ | (exfalso; simp_all; done) | (exfalso; simp_all; omega)
        simp only [HS] at h3;refine eZ Z (gY Z ?_);refine cP [100] (hm := (Cq cd 2 c'' bw pv hcd (by omega) (by omega))) (k := ?_);refine nZ Z (eZ Z (kZ [0,1,2,3,4,5,6,13,14,23,24,79,80,81,82,83,84,85,86,87] Z (nB ?_)));refine AB Z (fun h4 => ?_) (fun h4 => ?_)
        ·
          simp only [HS] at h4;refine rG (eZ Z (AG rfl Z (AA Z) Z Z Z (eZ Z ?_)));refine BR tys [T.int 7] Z Z Z Z Z Z hz2 Z (by repeat (first | exact AbsL.nil' | refine AbsL.v' ?_ | refine AbsL.own' ?_)) Z (by decide) (So Z) ?_;refine nZ Z (WO_le (Le.eqK (id := 102) Z (k' := .L 5 ((uu ++ ⟨7, s2.n, s2.ex, s2.thn, s2.els⟩ :: v2).map Stmt.tt)) (by rw [SS]; exact congrArg (Blk.L 5) (LG (s1 := ⟨7, s2.n, s2.ex, s2.thn, s2.els⟩) hk))) ?_);refine nZ Z (nZ Z (oN (jQ (_, _) ?_)));dsimp only;unfold Lc;rw [← hs2]
          repeat' split
          all_goals first | exact ⟨rfl, rfl⟩ | (exfalso; simp_all; done) | (exfalso; simp_all; omega)
        simp only [HS] at h4;refine AC (jQ (_, _) ?_);dsimp only;unfold Lc;rw [← hs2]
        repeat' split
        all_goals first | exact ⟨rfl, rfl⟩ | (exfalso; simp_all; done) | (exfalso; simp_all; omega)
      obtain ⟨s3, c3⟩ := x
      obtain ⟨hs3, hc3⟩ := hx
      dsimp only at hs3 hc3 ⊢;refine bN (tN (AQ (Le.eqK (id := 102) Z (k' := .L 5 (((uu ++ [s3]) ++ v2).map Stmt.tt)) (by simp)) ?_));refine nY Z ?_
      have hS := Nv (cd := cd) (fn := n) (s := s) (c := c'')
      refine kY [0,1,2,3,4,13,14,23,24] Z (rG (evI ?_));refine eZ Z (oN ?_);refine lQ (_, uu ++ [s3], v2, _) ?_ ?_
      · dsimp only
        refine ⟨by omega, by simp; omega, by simp at hxy ⊢; omega, fun g hg => hyd g (by simp [hg]), by rw [hc3]; omega, by rw [hc3]; simp; omega, ?_⟩;rw [hrs, KJ, hs3, hc3]
        simp
      · (show Int.toNat _ < Int.toNat _); omega
    simp only [HS] at h2;refine AP (tE (AK (AI (bN (tN ?_)))))
    obtain rfl : vv = [] := Sm (by omega)
    refine AQ (Le.claimL (id := 101) (id2 := 102) (pid := 1102) (i := n.toNat) (off := 3) Z Z Z (List.getElem?_set_self hnl) Z (by simp; omega) Z) ?_;refine nY Z (AQ (Le.eqK (id := 101) Z (k' := .L 4 (((a ++ [Func.mk f.params f.vars f.body uu]) ++ b').map Func.tt)) (congrArg (Blk.L 4) (by rw [SW]; exact PQ (f' := Func.mk f.params f.vars f.body uu) hn))) ?_);refine nY Z (rG (evI ?_));refine eZ Z (oN ?_);refine lQ (_, a ++ [Func.mk f.params f.vars f.body uu], b', _) ?_ ?_
    · dsimp only
      have hrs2 : KJ cd n f.stmts c' = (uu, c'') := by rw [hrs, KJ]; simp
      refine ⟨by omega, by simp; omega, by simp at hab ⊢; omega, fun g hg => had g (by simp [hg]), by omega, by simp at hxy ⊢; omega, ?_⟩;rw [hre, Ib, Ps, hrs2]
      simp
    · (show Int.toNat _ < Int.toNat _); omega
  simp only [HS] at h1;refine AP (tE (AK (AI (tN (sQ ?_)))))
  obtain rfl : b = [] := Sm (by omega)
  have hre2 : Ib cd 0 fs c1 = (a, c') := by rw [hre, Ib]; simp
  refine AQ (Le.gatherBox (u := 3) (j := 0) (id := 101) Z Z Z (by simp; omega) Z) ?_;refine nY Z (rG (Bp tys Z Z (AA Z) Z Z Z Z Z Z (nZ Z (sT Z (nZ Z (nB (rT ?_)))))));refine eP [_] ?_ ?_
  · rw [hR, hre2, SH (by simp at hab ⊢; omega), SW]; rfl
  · rw [hR, hre2]
end Go.Proofs.YtddfnpiikkilhaaGreat
