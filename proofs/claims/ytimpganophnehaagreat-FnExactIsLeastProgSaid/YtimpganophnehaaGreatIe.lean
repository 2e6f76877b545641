/- The walk of how the reference's machine does a statement. -/
import Derived.Test.YtimpganophnehaaGreatId
set_option linter.unusedVariables false
set_option linter.unusedSimpArgs false
set_option maxRecDepth 10000
set_option maxHeartbeats 1000000
namespace Go.Proofs.YtimpganophnehaaGreat
open Go.Eng

def stS (p : Prog) (inp : List Int) (L : Lev) (f : Func) (t : Stmt) (s : Sx) : Int × Int × Sx := stmtS L (paramsL p) inp f t s
section
variable {p : Prog} {inp : List Int} {f : Func} {L : Lev} {t : Stmt} {s : Sx} {R B : Int × Int × Sx} {v : Int}
theorem burn_0 {m : Ms} (h : m.fuel = 0) : burnM m = m := by
 obtain ⟨u, fu, d, tr⟩ := m
 cases h
 rfl
theorem st_0 (h : s.m.fuel = 0) : stS p inp L f t s = (5, 0, ⟨burnM s.m, s.vars, s.off, s.res, s.by'⟩) := by rw [stS, stmtS, if_pos h, burn_0 h]
theorem st_3 (hf : s.m.fuel ≠ 0) (h : t.kind = 3) : stS p inp L f t s = (0, 0, ⟨burnM s.m, s.vars, s.off ++ [t.n], s.res, s.by'⟩) := by rw [stS, stmtS, if_neg hf, if_pos h]
theorem st_6 (hf : s.m.fuel ≠ 0) (h : t.kind = 6) : stS p inp L f t s = (3, 0, ⟨burnM s.m, s.vars, s.off, s.res, s.by'⟩) := by rw [stS, stmtS, if_neg hf, if_neg (by omega), if_pos h]
theorem st_e (hf : s.m.fuel ≠ 0) (h3 : t.kind ≠ 3) (h6 : t.kind ≠ 6) (hR : R = exS p inp L t.ex ⟨burnM s.m, s.vars, s.off, s.res, s.by'⟩) (h0 : ¬ R.1 = 0) : stS p inp L f t s = R := by
 rw [stS, stmtS, if_neg hf, if_neg h3, if_neg h6]
 have e : exprS L.cal (paramsL p) inp t.ex [] { s with m := burnM s.m } = R := hR.symm
 simp only [e, if_neg h0]
theorem st_d (hf : s.m.fuel ≠ 0) (h3 : t.kind ≠ 3) (h6 : t.kind ≠ 6) (hR : R = exS p inp L t.ex ⟨burnM s.m, s.vars, s.off, s.res, s.by'⟩) (h0 : R.1 = 0) : stS p inp L f t s = doS L f t R.2.1 R.2.2 := by
 rw [stS, stmtS, if_neg hf, if_neg h3, if_neg h6]
 have e : exprS L.cal (paramsL p) inp t.ex [] { s with m := burnM s.m } = R := hR.symm
 simp only [e, if_pos h0]
theorem do_1 (h : t.kind = 1) : doS L f t v s = (0, 0, ⟨s.m, s.vars.set t.n.toNat v, s.off, s.res, s.by'⟩) := by rw [doS, if_pos h]
theorem do_2 (h : t.kind = 2) : doS L f t v s = (0, 0, ⟨⟨s.m.used, s.m.fuel, s.m.deep, s.m.trace ++ [v]⟩, s.vars, s.off, s.res, s.by'⟩) := by rw [doS, if_neg (by omega), if_pos h]
theorem do_4 (h : t.kind = 4) : doS L f t v s = (2, v, s) := by rw [doS, if_neg (by omega), if_neg (by omega), if_pos h]
theorem do_5 (h : t.kind = 5) : doS L f t v s = (1, 0, ⟨s.m, s.vars, s.off, v, s.by'⟩) := by rw [doS, if_neg (by omega), if_neg (by omega), if_neg (by omega), if_pos h]
theorem do_7t (h : t.kind = 7) (hv : v ≠ 0) : doS L f t v s = blS L f t.thn s := by rw [doS, if_neg (by omega), if_neg (by omega), if_neg (by omega), if_neg (by omega), if_pos h, if_pos hv]; rfl
theorem do_7e (h : t.kind = 7) (hv : ¬ v ≠ 0) : doS L f t v s = blS L f t.els s := by rw [doS, if_neg (by omega), if_neg (by omega), if_neg (by omega), if_neg (by omega), if_pos h, if_neg hv]; rfl
theorem do_8z (h : t.kind = 8) (hv : v = 0) : doS L f t v s = (0, 0, s) := by rw [doS, if_neg (by omega), if_neg (by omega), if_neg (by omega), if_neg (by omega), if_neg (by omega), if_pos h, if_pos hv]
theorem do_8b (h : t.kind = 8) (hv : ¬ v = 0) (hB : B = blS L f t.thn s) (h0 : ¬ B.1 = 0) : doS L f t v s = B := by
 rw [doS, if_neg (by omega), if_neg (by omega), if_neg (by omega), if_neg (by omega), if_neg (by omega), if_pos h, if_neg hv]
 have e : blockS (L.stmt f) f t.thn s = B := hB.symm
 simp only [e, if_neg h0]
theorem do_8s (h : t.kind = 8) (hv : ¬ v = 0) (hB : B = blS L f t.thn s) (h0 : B.1 = 0) : doS L f t v s = L.stmt f t B.2.2 := by
 rw [doS, if_neg (by omega), if_neg (by omega), if_neg (by omega), if_neg (by omega), if_neg (by omega), if_pos h, if_neg hv]
 have e : blockS (L.stmt f) f t.thn s = B := hB.symm
 simp only [e, if_pos h0]
theorem do_9 (h1 : ¬ t.kind = 1) (h2 : ¬ t.kind = 2) (h4 : ¬ t.kind = 4) (h5 : ¬ t.kind = 5) (h7 : ¬ t.kind = 7) (h8 : ¬ t.kind = 8) : doS L f t v s = (0, 0, s) := by rw [doS, if_neg h1, if_neg h2, if_neg h4, if_neg h5, if_neg h7, if_neg h8]
end

theorem putI (x v : Int) : (T.int x).put 0 [T.int v] = T.int v := rfl

theorem stmtP_fun (p : Prog) (inp : List Int) (most n : Nat) (L : Lev) (hL : LevOk p inp L) (hC : ∀ k, n = k + 1 → CallS p inp most k L) (hS : ∀ k, n = k + 1 → StmtC p inp most k L) (hg : goodP p = true) (hp : p.ok 1048576) (hi : inp.length ≤ 1048576) (hmost : most ≤ 1048576) (f : Func) (t : Stmt) (s : Sx) (bm bc bb : Nat) (pv iv fbv fsv : Value) (xv : List Value) (xt : List T) (hf : f ∈ p.funcs) (ht : t ∈ f.stmts) (hs : s.ok p inp f) (hn : s.m.fuel ≤ n) (hn2 : s.m.fuel ≤ 1048576) (hti : s.m.trace.length + s.m.fuel ≤ 1048576) (hof : s.off.length + s.m.fuel ≤ 1048576) (hdm : s.m.deep ≤ most) : Proc Tryz.prog 226 [.t (.v (.pointer (some ⟨bm, 0, none⟩))), .t (.v (.pointer (some ⟨bc, 0, none⟩))), .t t.tt] ((pv :: iv :: fsv :: xv)) ((T.Funcs p.funcs :: T.ints inp :: T.Stmts f.stmts :: xt)) [.obox (.pointer (some ⟨bm, 0, none⟩)) (mS pv iv most s.m), .obox (.pointer (some ⟨bc, 0, none⟩)) (cS f fbv fsv s.vars s.off s.res s.m.deep bb), .obox (.pointer (some ⟨bb, 0, none⟩)) (bS s.by')] (.agg [.t (.int (stS p inp L f t s).1), .t (.int (eV (stS p inp L f t s).1 (stS p inp L f t s).2.1))]) [.obox (.pointer (some ⟨bm, 0, none⟩)) (mS pv iv most (stS p inp L f t s).2.2.m), .obox (.pointer (some ⟨bc, 0, none⟩)) (cS f fbv fsv (stS p inp L f t s).2.2.vars (stS p inp L f t s).2.2.off (stS p inp L f t s).2.2.res s.m.deep bb), .obox (.pointer (some ⟨bb, 0, none⟩)) (bS (stS p inp L f t s).2.2.by')] := by
 have hgv := good_vars hg hf
 have hsh := hgv.2.2.2.2.1
 have hst : stmtG f.vars (paramsL p) t = true := by obtain ⟨q, hq, rfl⟩ := List.getElem_of_mem hf; obtain ⟨i, hi, rfl⟩ := List.getElem_of_mem ht; exact goodF_at (goodP_fn hg hq) hi
 obtain ⟨hk1, hk2, _⟩ := kids_inF hsh ht
 have hfo : f.ok 1048576 := hp.1.2 f hf
 have hto : t.ok 1048576 := hfo.2.1.2 t ht
 have hl1 : t.thn.length ≤ 1048576 := hto.2.1
 have hl2 : t.els.length ≤ 1048576 := hto.2.2.1
 have hfl : f.stmts.length ≤ 1048576 := hfo.2.1.1
 refine Proc.intro tys Tryz.func226 rfl rfl (N := 113) [100, 101, 102] 99 ([(0, .t (.v (.pointer (some ⟨bm, 0, none⟩)))), (1, .t (.v (.pointer (some ⟨bc, 0, none⟩)))), (2, .t t.tt)]) ([(100, .obox (.pointer (some ⟨bm, 0, none⟩)) (mS pv iv most s.m)), (101, .obox (.pointer (some ⟨bc, 0, none⟩)) (cS f fbv fsv s.vars s.off s.res s.m.deep bb)), (102, .obox (.pointer (some ⟨bb, 0, none⟩)) (bS s.by')), (99, .ro (pv :: iv :: fsv :: xv) (T.Funcs p.funcs :: T.ints inp :: T.Stmts f.stmts :: xt))]) rfl rfl rfl rfl (by decide) (by decide) rfl (fun w0 G F0 => ?_)
 refine nY rfl (W_le (Le.openNew (u := 100) 1100 rfl rfl rfl rfl rfl) (nY rfl (W_le (Le.named (t := 0) (u := 100) 1100 rfl rfl) (nY rfl (W_le (Le.openNew (u := 101) 1101 rfl rfl rfl rfl rfl) (nY rfl (W_le (Le.named (t := 1) (u := 101) 1101 rfl rfl) (nY rfl (sQ (rG (WO_box rfl rfl (lt_of rfl) rfl rfl (nZ rfl (WO_alloc tys rfl rfl (lt_of rfl) rfl rfl rfl (nZ rfl (oN ?_)))))))))))))))
 refine tN (sQ (sQ (rG (eZ rfl (WO_le (Le.close (u := 100) 1100 rfl rfl rfl) (nZ rfl ?_))))))
 refine WO_callP (rid := 99) [100] rfl rfl (lt_of rfl) rfl rfl (by repeat (first | exact ResP.done | refine ResP.pin0 1100 rfl ?_ | refine ResP.t ?_ | refine ResP.nil 1 ?_ | refine ResP.nil' ?_ | refine ResP.own ?_ | refine ResP.sl rfl rfl (by first | omega | (simp; omega)) ?_ | refine ResP.aggT (by repeat (first | exact ResP.done | refine ResP.t ?_)) ?_)) rfl (by repeat (first | exact trivial | refine ⟨rfl, rfl, ?_⟩)) (by decide) (costS_fun bm pv iv most s.m (pv :: iv :: fsv :: xv) (T.Funcs p.funcs :: T.ints inp :: T.Stmts f.stmts :: xt) hn2) rfl rfl rfl ?_
 refine nZ rfl (WO_le (Le.open (u := 100) 1100 rfl rfl rfl rfl) (nZ rfl (eZ rfl (oN (tN ?_)))))
 refine W_cond rfl (fun h1 => ?_) (fun h1 => ?_)
 ·
  simp only [HS] at h1
  refine sQ (rG ?_)
  have hout := st_0 (p := p) (inp := inp) (L := L) (f := f) (t := t) (s := s) (by simp_all)
  refine WO_struct tys rfl rfl (lt_of rfl) rfl rfl rfl (by kernel_rfl) rfl rfl rfl rfl rfl rfl (sT rfl (nZ rfl (oN (tN (W_le (Le.close (u := 100) 1100 rfl rfl rfl) (nY rfl (W_le (Le.close (u := 101) 1101 rfl rfl rfl) (nY rfl (rT (tR ?_))))))))))
  refine EndsP_of (ks := [_, _, _]) (.inr rfl) (ret_okF rfl) (by decide) rfl (noR_spec rfl) (by repeat (first | exact trivial | refine ⟨rfl, rfl, ?_⟩)) ?_ ?_
  ·exact retE (by rw [hout] <;> rfl) (by rw [hout] <;> rfl)
  ·rw [hout]
   rfl
 simp only [HS] at h1
 refine W_skip (tN (sQ (sQ (rG ?_))))
 have hfz : s.m.fuel ≠ 0 := by simp_all
 refine eK 2 rfl (oN (tN (W_block (sQ (kY [0,1,5,6,15] rfl (rG (eK 2 rfl (oN (tN ?_)))))))))
 refine W_cond rfl (fun h2 => ?_) (fun h2 => ?_)
 ·
  simp only [HS] at h2
  refine sQ ?_
  have hout := st_3 (p := p) (inp := inp) (L := L) (f := f) hfz (by assumption)
  refine W_regionH [[101], [], [], [], [], [101], [101], [101], [], [], [], []] mixed (by kernel_rfl) (QH_G (QG_ev tys rfl rfl (lt_of rfl) rfl (QG_nil (QH_G0 (QG_ev tys rfl rfl (lt_of rfl) rfl (QG_nil (QH_G0 (QG_nil' rfl rfl (lt_of rfl) rfl rfl rfl (QG_nil (QH_G0 (QG_ev tys rfl rfl (lt_of rfl) rfl (QG_nil (QH_norm rfl (QH_loadOwn tys rfl rfl (lt_of rfl) rfl rfl rfl rfl rfl rfl (QH_G ?_)))))))))))))))
  refine QG_ev tys rfl rfl (lt_of rfl) rfl (QG_nil (QH_G (QG_ev tys rfl rfl (lt_of rfl) rfl (QG_nil (QH_G ?_)))))
  refine QG_buildS tys [T.int t.n] rfl rfl (lt_of rfl) rfl rfl rfl rfl rfl (lt_of rfl) (by repeat (first | exact PartsOk.nil' | refine PartsOk.cons' rfl (by repeat (first | exact AbsL.nil' | refine AbsL.v' ?_ | refine AbsL.own' ?_ | refine AbsL.none' ?_)) rfl ?_)) rfl rfl rfl (by decide) ?_
  refine QG_nil (QH_norm rfl (QH_G0 (QG_appendO tys rfl rfl (lt_of rfl) rfl rfl rfl rfl rfl rfl rfl rfl rfl ((fun x hx => by rw [List.mem_singleton] at hx; subst hx; exact ⟨rfl, fun z hz => ⟨_, by simpa [T.cells] using hz⟩⟩)) (by simp; omega) (by decide) rfl ?_)))
  refine QG_nil (QH_G0 (QG_nil' rfl rfl (lt_of rfl) rfl rfl rfl (QG_nil (QH_G0 (QG_ev tys rfl rfl (lt_of rfl) rfl (QG_nil (QH_storeM tys rfl rfl rfl rfl rfl rfl rfl rfl rfl (Nat.le_of_ble_eq_true rfl) (QH_norm rfl (QH_nil ?_)))))))))
  refine ⟨by kernel_rfl, ?_⟩
  refine nZ rfl (oN (tN (sQ (rG (WO_struct tys rfl rfl (lt_of rfl) rfl rfl rfl (by kernel_rfl) rfl rfl rfl rfl rfl rfl (sT rfl (nZ rfl (oN (tN (W_le (Le.close (u := 100) 1100 rfl rfl rfl) (nY rfl (W_le (Le.close (u := 101) 1101 rfl rfl rfl) (nY rfl (rT (bR ?_)))))))))))))))
  refine tR ?_
  refine EndsP_of (ks := [_, _, _]) (.inr rfl) (ret_okF rfl) (by decide) rfl (noR_spec rfl) (by repeat (first | exact trivial | refine ⟨rfl, rfl, ?_⟩)) ?_ ?_
  ·exact retE (by rw [hout] <;> rfl) (by rw [hout] <;> rfl)
  ·rw [hout]
   simp [mS, cS, bS, T.ints, putI, List.take_of_length_le, burnM]
   done
 simp only [HS] at h2
 refine sQ (rG (eK 2 rfl (oN (tN ?_))))
 refine W_cond rfl (fun h3 => ?_) (fun h3 => ?_)
 ·
  simp only [HS] at h3
  refine sQ (rG ?_)
  have hout := st_6 (p := p) (inp := inp) (L := L) (f := f) hfz (by assumption)
  refine WO_struct tys rfl rfl (lt_of rfl) rfl rfl rfl (by kernel_rfl) rfl rfl rfl rfl rfl rfl (sT rfl (nZ rfl (oN (tN (W_le (Le.close (u := 100) 1100 rfl rfl rfl) (nY rfl (W_le (Le.close (u := 101) 1101 rfl rfl rfl) (nY rfl (rT (bR (tR ?_)))))))))))
  refine EndsP_of (ks := [_, _, _]) (.inr rfl) (ret_okF rfl) (by decide) rfl (noR_spec rfl) (by repeat (first | exact trivial | refine ⟨rfl, rfl, ?_⟩)) ?_ ?_
  ·exact retE (by rw [hout] <;> rfl) (by rw [hout] <;> rfl)
  ·rw [hout]
   rfl
 simp only [HS] at h3
 refine W_skip (bN (tN (sQ (rG ?_))))
 have hk3 : t.kind ≠ 3 := by assumption
 have hk6 : t.kind ≠ 6 := by assumption
 obtain ⟨k, hk⟩ : ∃ k, n = k + 1 := ⟨n - 1, by omega⟩
 have hb := hs.burn hfz
 obtain ⟨mx, hru⟩ := stmtG_run hst hk3 hk6
 obtain ⟨R, hR⟩ : ∃ R, R = exS p inp L t.ex ⟨burnM s.m, s.vars, s.off, s.res, s.by'⟩ := ⟨_, rfl⟩
 have he := exprS_ok hL hg (pile := []) hb.ok (l := t.ex) (mx := 0) (by simpa using hru)
 have hbf : (burnM s.m).fuel = s.m.fuel - 1 := rfl
 have hbt : (burnM s.m).trace.length = s.m.trace.length := rfl
 have hbd : (burnM s.m).deep = s.m.deep := rfl
 have hE := exprP_fun p inp most k L hL (hC k hk) hg hp hi f hf t.ex (stmtG_len hst) ⟨mx, hru⟩ ⟨burnM s.m, s.vars, s.off, s.res, s.by'⟩ hb.ok (by dsimp only; omega) (by dsimp only; omega) (by dsimp only; omega) (by dsimp only; omega) hmost bm bc bb pv iv fbv fsv (fsv :: xv) (T.Stmts f.stmts :: xt)
 change Sx.to p inp f (exS p inp L t.ex ⟨burnM s.m, s.vars, s.off, s.res, s.by'⟩).1 _ (exS p inp L t.ex ⟨burnM s.m, s.vars, s.off, s.res, s.by'⟩).2.2 at he
 rw [← hR] at hE he
 have he0 := he.h0
 obtain ⟨v, hv⟩ : ∃ v, v = if R.1 = 0 then R.2.1 else 0 := ⟨_, rfl⟩
 rw [← hv] at hE
 refine eK 4 rfl (WO_le (Le.close (u := 100) 1100 rfl rfl rfl) (nZ rfl (WO_le (Le.close (u := 101) 1101 rfl rfl rfl) (nZ rfl ?_))))
 refine WO_callP (rid := 99) [100, 101, 102] rfl rfl (lt_of rfl) rfl rfl (by repeat (first | exact ResP.done | refine ResP.pin0 1100 rfl ?_ | refine ResP.pin0 1101 rfl ?_ | refine ResP.pin0 1102 rfl ?_ | refine ResP.t ?_ | refine ResP.nil 1 ?_ | refine ResP.nil' ?_ | refine ResP.own ?_ | refine ResP.sl rfl rfl (by first | omega | (simp; omega)) ?_ | refine ResP.aggT (by repeat (first | exact ResP.done | refine ResP.t ?_)) ?_)) rfl (by repeat (first | exact trivial | refine ⟨rfl, rfl, ?_⟩)) (by decide) (hE) rfl rfl rfl ?_
 refine nZ rfl (WO_le (Le.open (u := 100) 1100 rfl rfl rfl rfl) (nZ rfl (WO_le (Le.open (u := 101) 1101 rfl rfl rfl rfl) (nZ rfl (kZ [0,1,5,6,38] rfl (eZ rfl (WO_evF tys rfl rfl (lt_of rfl) (d := .t _) rfl (nZ rfl (WO_extract rfl rfl (lt_of rfl) rfl rfl rfl rfl ?_)))))))))
 first | refine WO_le (Le.adoptE (u := 40) 40 rfl (by first | exact lenN | exact rfl)) ?_ | skip
 refine nZ rfl (WO_alloc tys rfl rfl (lt_of rfl) rfl rfl rfl (nZ rfl (eZ rfl (sT rfl (nZ rfl (oN (tN (sQ (sQ (rG (eK 3 rfl (kZ [0,1,5,6,7,8,43] rfl (oN (tN ?_))))))))))))))
 refine W_cond rfl (fun h4 => ?_) (fun h4 => ?_)
 ·
  simp only [HS] at h4
  refine sQ (rG ?_)
  have hout := st_e (p := p) (inp := inp) (L := L) (f := f) hfz hk3 hk6 hR (by omega)
  refine eZ rfl ?_
  try refine WO_le (Le.freeze (u := 44) rfl) ?_
  refine nZ rfl (sT rfl (nZ rfl (oN (tN (W_le (Le.close (u := 100) 1100 rfl rfl rfl) (nY rfl (W_le (Le.close (u := 101) 1101 rfl rfl rfl) (nY rfl (rT (tR ?_))))))))))
  refine EndsP_of (ks := [_, _, _]) (.inr rfl) (ret_okF rfl) (by decide) rfl (noR_spec rfl) (by repeat (first | exact trivial | refine ⟨rfl, rfl, ?_⟩)) ?_ ?_
  ·exact retE (by rw [hout] <;> rfl) (by rw [hout] <;> rfl)
  ·rw [hout]
   rfl
 simp only [HS] at h4
 refine W_skip (tN (sQ (sQ (rG ?_))))
 have hz : R.1 = 0 := by omega
 have hv : v = R.2.1 := by rw [hv, if_pos hz]
 subst hv
 have hok2 := he.ok
 have hf2 : R.2.2.m.fuel ≤ s.m.fuel - 1 := he.le.1
 have ht2 : R.2.2.m.trace.length + R.2.2.m.fuel ≤ s.m.trace.length + (s.m.fuel - 1) := he.le.2.1
 have ho2 : R.2.2.off.length + R.2.2.m.fuel ≤ s.off.length + (s.m.fuel - 1) := he.offl
 have hd2 : R.2.2.m.deep = s.m.deep := he.deep (by omega)
 have hvl : R.2.2.vars.length = f.vars.toNat := hok2.vars
 refine eK 2 rfl (oN (tN (W_block (sQ (rG (eK 2 rfl (oN (tN ?_))))))))
 refine W_cond rfl (fun h5 => ?_) (fun h5 => ?_)
 ·
  simp only [HS] at h5
  have hk1' : t.kind = 1 := by assumption
  have hn1 : 0 ≤ t.n ∧ t.n ≤ f.vars - 1 := by have := hst; grind [stmtG, stmtW]
  have hout := (st_d (f := f) hfz hk3 hk6 hR hz).trans (do_1 hk1')
  refine W_le (Le.adoptBox (u := 101) (j := 4) (id := 191) rfl rfl rfl) (nY rfl (W_regionH [[], [], [], [], [], [], [], [], []] mixed (by kernel_rfl) (QH_G0 (QG_ev tys rfl rfl (lt_of rfl) rfl (QG_nil (QH_G0 (QG_nil' rfl rfl (lt_of rfl) rfl rfl rfl (QG_nil (QH_G0 (QG_ev tys rfl rfl (lt_of rfl) rfl (QG_nil (QH_G0 (QG_ev tys rfl rfl (lt_of rfl) rfl (QG_nil (QH_norm rfl ?_)))))))))))))))
  refine QH_G0 (QG_ev tys rfl rfl (lt_of rfl) rfl (QG_nil (QH_G0 (QG_ev tys rfl rfl (lt_of rfl) rfl (QG_nil (QH_G0 (QG_ev tys rfl rfl (lt_of rfl) rfl (QG_nil (QH_G (QG_idxS tys rfl rfl (lt_of rfl) rfl rfl rfl rfl rfl rfl rfl rfl hn1.1 (by rw [List.length_map, hvl]; omega) ?_))))))))))
  refine QG_nil (QH_norm rfl ?_)
  refine QH_storeLv tys 10008 [T.int R.2.1] rfl rfl rfl rfl rfl rfl (getT0 _ _ hn1.1 (by rw [hvl]; omega)) rfl rfl (by repeat (first | exact AbsL.nil' | refine AbsL.v' ?_)) rfl (by decide) (Nat.le_of_ble_eq_true rfl) ?_
  refine QH_nil ?_
  refine ⟨by kernel_rfl, ?_⟩
  refine nZ rfl (WO_le (Le.gatherBox (u := 101) (j := 4) (id := 191) rfl rfl rfl (by simp) rfl) ?_)
  refine nZ rfl (oN (bN (tN (sQ (rG (WO_struct tys rfl rfl (lt_of rfl) rfl rfl rfl (by kernel_rfl) rfl rfl rfl rfl rfl rfl (sT rfl (nZ rfl (oN (tN (W_le (Le.close (u := 100) 1100 rfl rfl rfl) (nY rfl (W_le (Le.close (u := 101) 1101 rfl rfl rfl) (nY rfl (rT ?_)))))))))))))))
  refine EndsP_of (ks := [_, _, _]) (.inr rfl) (ret_okF rfl) (by decide) rfl (noR_spec rfl) (by repeat (first | exact trivial | refine ⟨rfl, rfl, ?_⟩)) ?_ ?_
  ·exact retE (by rw [hout] <;> rfl) (by rw [hout] <;> rfl)
  ·rw [hout]
   simp [mS, cS, bS, T.ints, putI, List.take_of_length_le, burnM]
   done
 simp only [HS] at h5
 refine sQ (rG (eK 2 rfl (oN (tN ?_))))
 refine W_cond rfl (fun h6 => ?_) (fun h6 => ?_)
 ·
  simp only [HS] at h6
  refine rG ?_
  have hout := (st_d (f := f) hfz hk3 hk6 hR hz).trans (do_2 (by assumption))
  refine eK 2 rfl (WO_nil' rfl rfl (lt_of rfl) rfl rfl rfl (kZ [6,7,59,61] rfl (eZ rfl (WO_loadOwn tys rfl rfl (lt_of rfl) rfl rfl rfl rfl rfl rfl (WO_le (Le.adoptE (u := 63) 63 rfl rfl) (nZ rfl (eZ rfl ?_)))))))
  refine WO_buildSlice tys [T.int R.2.1] rfl rfl (lt_of rfl) rfl rfl rfl rfl rfl (lt_of rfl) (by repeat (first | exact PartsOk.nil' | refine PartsOk.cons' rfl (by repeat (first | exact AbsL.nil' | refine AbsL.v' ?_ | refine AbsL.own' ?_ | refine AbsL.none' ?_)) rfl ?_)) (by first | exact List.nodup_nil | exact nodup1 _ | decide | exact nodupB_sound rfl) rfl (by decide) ?_
  refine nZ rfl (WO_append tys rfl rfl (lt_of rfl) rfl rfl rfl rfl rfl (.own rfl (by first | omega | (simp only [List.length_append]; omega))) rfl (.own rfl (by first | decide | omega)) (by decide) (by simp; omega) (by decide) rfl ?_)
  refine nZ rfl (WO_le (Le.gather (u := 66) (id := 63) rfl rfl (by first | (simp; done) | (simp; omega) | omega)) ?_)
  refine nZ rfl (WO_nil' rfl rfl (lt_of rfl) rfl rfl rfl (eZ rfl (sT rfl (nZ rfl (oN (bN (tN (sQ (kY [6] rfl (rG (WO_struct tys rfl rfl (lt_of rfl) rfl rfl rfl (by kernel_rfl) rfl rfl rfl rfl rfl rfl (sT rfl (nZ rfl (oN (tN ?_)))))))))))))))
  refine W_le (Le.close (u := 100) 1100 rfl rfl rfl) (nY rfl (W_le (Le.close (u := 101) 1101 rfl rfl rfl) (nY rfl (rT ?_))))
  refine EndsP_of (ks := [_, _, _]) (.inr rfl) (ret_okF rfl) (by decide) rfl (noR_spec rfl) (by repeat (first | exact trivial | refine ⟨rfl, rfl, ?_⟩)) ?_ ?_
  ·exact retE (by rw [hout] <;> rfl) (by rw [hout] <;> rfl)
  ·rw [hout]
   simp [mS, cS, bS, T.ints, putI, List.take_of_length_le, burnM]
   done
 simp only [HS] at h6
 refine sQ (rG (eK 2 rfl (oN (tN ?_))))
 refine W_cond rfl (fun h7 => ?_) (fun h7 => ?_)
 ·
  simp only [HS] at h7
  refine sQ (kY [6,7] rfl (rG ?_))
  have hout := (st_d (f := f) hfz hk3 hk6 hR hz).trans (do_4 (by assumption))
  refine eZ rfl (WO_struct tys rfl rfl (lt_of rfl) rfl rfl rfl (by kernel_rfl) rfl rfl rfl rfl rfl rfl (sT rfl (nZ rfl (oN (tN (W_le (Le.close (u := 100) 1100 rfl rfl rfl) (nY rfl (W_le (Le.close (u := 101) 1101 rfl rfl rfl) (nY rfl (rT (bR (tR ?_))))))))))))
  refine EndsP_of (ks := [_, _, _]) (.inr rfl) (ret_okF rfl) (by decide) rfl (noR_spec rfl) (by repeat (first | exact trivial | refine ⟨rfl, rfl, ?_⟩)) ?_ ?_
  ·exact retE (by rw [hout] <;> rfl) (by rw [hout] <;> rfl)
  ·rw [hout]
   rfl
 simp only [HS] at h7
 refine sQ (kY [0,1,5,6,7,46] rfl (rG (eK 2 rfl (oN (tN ?_)))))
 refine W_cond rfl (fun h8 => ?_) (fun h8 => ?_)
 ·
  simp only [HS] at h8
  refine sQ (rG ?_)
  have hout := (st_d (f := f) hfz hk3 hk6 hR hz).trans (do_5 (by assumption))
  refine eK 2 rfl (WO_nil' rfl rfl (lt_of rfl) rfl rfl rfl (eZ rfl (sT rfl (nZ rfl (oN (tN (sQ (kY [6] rfl (rG (WO_struct tys rfl rfl (lt_of rfl) rfl rfl rfl (by kernel_rfl) rfl rfl rfl rfl rfl rfl (sT rfl (nZ rfl (oN (tN (W_le (Le.close (u := 100) 1100 rfl rfl rfl) ?_)))))))))))))))
  refine nY rfl (W_le (Le.close (u := 101) 1101 rfl rfl rfl) (nY rfl (rT (bR (tR ?_)))))
  refine EndsP_of (ks := [_, _, _]) (.inr rfl) (ret_okF rfl) (by decide) rfl (noR_spec rfl) (by repeat (first | exact trivial | refine ⟨rfl, rfl, ?_⟩)) ?_ ?_
  ·exact retE (by rw [hout] <;> rfl) (by rw [hout] <;> rfl)
  ·rw [hout]
   rfl
 simp only [HS] at h8
 refine sQ (rG (eK 2 rfl (oN (tN ?_))))
 refine W_cond rfl (fun h9 => ?_) (fun h9 => ?_)
 ·
  simp only [HS] at h9
  refine sQ (sQ (rG (eK 2 rfl (oN (tN ?_)))))
  refine W_cond rfl (fun h10 => ?_) (fun h10 => ?_)
  ·
   simp only [HS] at h10
   refine sQ (rG ?_)
   have hout := (st_d (f := f) hfz hk3 hk6 hR hz).trans (do_7t (by assumption) (by omega))
   have hB := blockP_fun p inp most k L hL (hS k hk) f hf hfl t.thn hk1 hl1 R.2.2 hok2 (by omega) (by omega) (by omega) (by omega) (by omega) bm bc bb pv iv fbv fsv xv xt
   rw [hd2] at hB
   refine eK 3 rfl (kZ [0,1,5,6,84,85,86] rfl (eZ rfl (WO_le (Le.close (u := 100) 1100 rfl rfl rfl) (nZ rfl (WO_le (Le.close (u := 101) 1101 rfl rfl rfl) (nZ rfl ?_))))))
   refine WO_callP (rid := 99) [100, 101, 102] rfl rfl (lt_of rfl) rfl rfl (by repeat (first | exact ResP.done | refine ResP.pin0 1100 rfl ?_ | refine ResP.pin0 1101 rfl ?_ | refine ResP.pin0 1102 rfl ?_ | refine ResP.t ?_ | refine ResP.nil 1 ?_ | refine ResP.nil' ?_ | refine ResP.own ?_ | refine ResP.sl rfl rfl (by first | omega | (simp; omega)) ?_ | refine ResP.aggT (by repeat (first | exact ResP.done | refine ResP.t ?_)) ?_)) rfl (by repeat (first | exact trivial | refine ⟨rfl, rfl, ?_⟩)) (by decide) (hB) rfl rfl rfl ?_
   refine nZ rfl (WO_le (Le.open (u := 100) 1100 rfl rfl rfl rfl) (nZ rfl (WO_le (Le.open (u := 101) 1101 rfl rfl rfl rfl) (nZ rfl (sT rfl (nZ rfl (oN (tN (W_le (Le.close (u := 100) 1100 rfl rfl rfl) (nY rfl (W_le (Le.close (u := 101) 1101 rfl rfl rfl) (nY rfl (rT (tR (bR ?_)))))))))))))))
   refine tR ?_
   refine EndsP_of (ks := [_, _, _]) (.inr rfl) (ret_okF rfl) (by decide) rfl (noR_spec rfl) (by repeat (first | exact trivial | refine ⟨rfl, rfl, ?_⟩)) ?_ ?_
   ·exact retE (by rw [hout] <;> rfl) (by rw [hout] <;> rfl)
   ·rw [hout]
    rfl
  simp only [HS] at h10
  refine W_skip (tN (sQ (rG ?_)))
  have hout := (st_d (f := f) hfz hk3 hk6 hR hz).trans (do_7e (by assumption) (by omega))
  have hB := blockP_fun p inp most k L hL (hS k hk) f hf hfl t.els hk2 hl2 R.2.2 hok2 (by omega) (by omega) (by omega) (by omega) (by omega) bm bc bb pv iv fbv fsv xv xt
  rw [hd2] at hB
  refine eK 3 rfl (kZ [6,89,90,91] rfl (eZ rfl (WO_le (Le.close (u := 100) 1100 rfl rfl rfl) (nZ rfl (WO_le (Le.close (u := 101) 1101 rfl rfl rfl) (nZ rfl ?_))))))
  refine WO_callP (rid := 99) [100, 101, 102] rfl rfl (lt_of rfl) rfl rfl (by repeat (first | exact ResP.done | refine ResP.pin0 1100 rfl ?_ | refine ResP.pin0 1101 rfl ?_ | refine ResP.pin0 1102 rfl ?_ | refine ResP.t ?_ | refine ResP.nil 1 ?_ | refine ResP.nil' ?_ | refine ResP.own ?_ | refine ResP.sl rfl rfl (by first | omega | (simp; omega)) ?_ | refine ResP.aggT (by repeat (first | exact ResP.done | refine ResP.t ?_)) ?_)) rfl (by repeat (first | exact trivial | refine ⟨rfl, rfl, ?_⟩)) (by decide) (hB) rfl rfl rfl ?_
  refine nZ rfl (WO_le (Le.open (u := 100) 1100 rfl rfl rfl rfl) (nZ rfl (WO_le (Le.open (u := 101) 1101 rfl rfl rfl rfl) (nZ rfl (sT rfl (nZ rfl (oN (tN (W_le (Le.close (u := 100) 1100 rfl rfl rfl) (nY rfl (W_le (Le.close (u := 101) 1101 rfl rfl rfl) (nY rfl (rT (bR (tR ?_)))))))))))))))
  refine EndsP_of (ks := [_, _, _]) (.inr rfl) (ret_okF rfl) (by decide) rfl (noR_spec rfl) (by repeat (first | exact trivial | refine ⟨rfl, rfl, ?_⟩)) ?_ ?_
  ·exact retE (by rw [hout] <;> rfl) (by rw [hout] <;> rfl)
  ·rw [hout]
   rfl
 simp only [HS] at h9
 refine sQ (rG (eK 2 rfl (oN (tN ?_))))
 refine W_cond rfl (fun h10 => ?_) (fun h10 => ?_)
 ·
  simp only [HS] at h10
  refine sQ (sQ (rG (eK 2 rfl (oN (tN ?_)))))
  refine W_cond rfl (fun h11 => ?_) (fun h11 => ?_)
  ·
   simp only [HS] at h11
   refine sQ (kY [0,1,5,6] rfl (rG ?_))
   have hout := (st_d (f := f) hfz hk3 hk6 hR hz).trans (do_8z (by assumption) (by omega))
   refine WO_struct tys rfl rfl (lt_of rfl) rfl rfl rfl (by kernel_rfl) rfl rfl rfl rfl rfl rfl (sT rfl (nZ rfl (oN (tN (W_le (Le.close (u := 100) 1100 rfl rfl rfl) (nY rfl (W_le (Le.close (u := 101) 1101 rfl rfl rfl) (nY rfl (rT (tR (bR (tR ?_))))))))))))
   refine EndsP_of (ks := [_, _, _]) (.inr rfl) (ret_okF rfl) (by decide) rfl (noR_spec rfl) (by repeat (first | exact trivial | refine ⟨rfl, rfl, ?_⟩)) ?_ ?_
   ·exact retE (by rw [hout] <;> rfl) (by rw [hout] <;> rfl)
   ·rw [hout]
    rfl
  simp only [HS] at h11
  refine W_skip (tN (sQ (sQ (kY [0,1,5,6] rfl (rG ?_)))))
  have hB := blockP_fun p inp most k L hL (hS k hk) f hf hfl t.thn hk1 hl1 R.2.2 hok2 (by omega) (by omega) (by omega) (by omega) (by omega) bm bc bb pv iv fbv fsv xv xt
  have hb2 := blockS_ok (hL.stmt _ hf) hk1 hok2
  obtain ⟨B, hBd⟩ : ∃ B, B = blS L f t.thn R.2.2 := ⟨_, rfl⟩
  change Sx.to p inp f (blS L f t.thn R.2.2).1 _ (blS L f t.thn R.2.2).2.2 at hb2
  rw [hd2, ← hBd] at hB
  rw [← hBd] at hb2
  have hB0 := hb2.h0
  refine eK 4 rfl (WO_le (Le.close (u := 100) 1100 rfl rfl rfl) (nZ rfl (WO_le (Le.close (u := 101) 1101 rfl rfl rfl) (nZ rfl ?_))))
  refine WO_callP (rid := 99) [100, 101, 102] rfl rfl (lt_of rfl) rfl rfl (by repeat (first | exact ResP.done | refine ResP.pin0 1100 rfl ?_ | refine ResP.pin0 1101 rfl ?_ | refine ResP.pin0 1102 rfl ?_ | refine ResP.t ?_ | refine ResP.nil 1 ?_ | refine ResP.nil' ?_ | refine ResP.own ?_ | refine ResP.sl rfl rfl (by first | omega | (simp; omega)) ?_ | refine ResP.aggT (by repeat (first | exact ResP.done | refine ResP.t ?_)) ?_)) rfl (by repeat (first | exact trivial | refine ⟨rfl, rfl, ?_⟩)) (by decide) (hB) rfl rfl rfl ?_
  refine nZ rfl (WO_le (Le.open (u := 100) 1100 rfl rfl rfl rfl) (nZ rfl (WO_le (Le.open (u := 101) 1101 rfl rfl rfl rfl) (nZ rfl (WO_alloc tys rfl rfl (lt_of rfl) rfl rfl rfl (nZ rfl (sT rfl (nZ rfl (oN (tN (sQ (kY [0,1,5,6,9] rfl (rG (eK 3 rfl (oN ?_)))))))))))))))
  refine tN ?_
  refine W_cond rfl (fun h12 => ?_) (fun h12 => ?_)
  ·
   simp only [HS] at h12
   refine sQ (rG ?_)
   have hout := (st_d (f := f) hfz hk3 hk6 hR hz).trans (do_8b (by assumption) (by omega) hBd (by omega))
   refine eZ rfl ?_
   try refine WO_le (Le.freeze (u := 107) rfl) ?_
   refine nZ rfl (sT rfl (nZ rfl (oN (tN (W_le (Le.close (u := 100) 1100 rfl rfl rfl) (nY rfl (W_le (Le.close (u := 101) 1101 rfl rfl rfl) (nY rfl (rT (tR (bR (tR ?_))))))))))))
   refine EndsP_of (ks := [_, _, _]) (.inr rfl) (ret_okF rfl) (by decide) rfl (noR_spec rfl) (by repeat (first | exact trivial | refine ⟨rfl, rfl, ?_⟩)) ?_ ?_
   ·exact retE (by rw [hout] <;> rfl) (by rw [hout] <;> rfl)
   ·rw [hout]
    rfl
  simp only [HS] at h12
  refine W_skip (tN (sQ (rG ?_)))
  have hB1 : B.1 = 0 := by omega
  have hout := (st_d (f := f) hfz hk3 hk6 hR hz).trans (do_8s (by assumption) (by omega) hBd hB1)
  have hd3 : B.2.2.m.deep = s.m.deep := (hb2.deep (by omega)).trans hd2
  have hf3 : B.2.2.m.fuel ≤ R.2.2.m.fuel := hb2.le.1
  have ht3 : B.2.2.m.trace.length + B.2.2.m.fuel ≤ R.2.2.m.trace.length + R.2.2.m.fuel := hb2.le.2.1
  have ho3 : B.2.2.off.length + B.2.2.m.fuel ≤ R.2.2.off.length + R.2.2.m.fuel := hb2.offl
  have hW := hS k hk f t B.2.2 bm bc bb pv iv fbv fsv xv xt hf ht hb2.ok (by omega) (by omega) (by omega) (by omega) (by omega)
  rw [hd3] at hW
  refine eK 3 rfl ?_
  try refine WO_le (Le.freeze (u := 110) rfl) ?_
  refine nZ rfl (WO_le (Le.close (u := 100) 1100 rfl rfl rfl) (nZ rfl (WO_le (Le.close (u := 101) 1101 rfl rfl rfl) (nZ rfl ?_))))
  refine WO_callP (rid := 99) [100, 101, 102] rfl rfl (lt_of rfl) rfl rfl (by repeat (first | exact ResP.done | refine ResP.pin0 1100 rfl ?_ | refine ResP.pin0 1101 rfl ?_ | refine ResP.pin0 1102 rfl ?_ | refine ResP.t ?_ | refine ResP.nil 1 ?_ | refine ResP.nil' ?_ | refine ResP.own ?_ | refine ResP.sl rfl rfl (by first | omega | (simp; omega)) ?_ | refine ResP.aggT (by repeat (first | exact ResP.done | refine ResP.t ?_)) ?_)) rfl (by repeat (first | exact trivial | refine ⟨rfl, rfl, ?_⟩)) (by decide) (hW) rfl rfl rfl ?_
  refine nZ rfl (WO_le (Le.open (u := 100) 1100 rfl rfl rfl rfl) (nZ rfl (WO_le (Le.open (u := 101) 1101 rfl rfl rfl rfl) (nZ rfl (sT rfl (nZ rfl (oN (tN (W_le (Le.close (u := 100) 1100 rfl rfl rfl) (nY rfl (W_le (Le.close (u := 101) 1101 rfl rfl rfl) (nY rfl (rT (bR (tR ?_)))))))))))))))
  refine EndsP_of (ks := [_, _, _]) (.inr rfl) (ret_okF rfl) (by decide) rfl (noR_spec rfl) (by repeat (first | exact trivial | refine ⟨rfl, rfl, ?_⟩)) ?_ ?_
  ·exact retE (by rw [hout] <;> rfl) (by rw [hout] <;> rfl)
  ·rw [hout]
   rfl
 simp only [HS] at h10
 refine W_skip (bN (tN (sQ (rG (WO_struct tys rfl rfl (lt_of rfl) rfl rfl rfl (by kernel_rfl) rfl rfl rfl rfl rfl rfl (sT rfl (nZ rfl (oN (tN (W_le (Le.close (u := 100) 1100 rfl rfl rfl) (nY rfl (W_le (Le.close (u := 101) 1101 rfl rfl rfl) (nY rfl (rT ?_))))))))))))))
 refine EndsP_of (ks := [_, _, _]) (.inr rfl) (ret_okF rfl) (by decide) rfl (noR_spec rfl) (by repeat (first | exact trivial | refine ⟨rfl, rfl, ?_⟩)) ?_ ?_
 ·(have hout := (st_d (f := f) hfz hk3 hk6 hR hz).trans (do_9 (by assumption) (by assumption) (by assumption) (by assumption) (by assumption) (by assumption)); exact retE (by rw [hout] <;> rfl) (by rw [hout] <;> rfl))
 ·(have hout := (st_d (f := f) hfz hk3 hk6 hR hz).trans (do_9 (by assumption) (by assumption) (by assumption) (by assumption) (by assumption) (by assumption)); rw [hout]; rfl)

theorem stmtC_next {p : Prog} {inp : List Int} {most n : Nat} {L : Lev} (hL : LevOk p inp L) (hC : ∀ k, n = k + 1 → CallS p inp most k L) (hS : ∀ k, n = k + 1 → StmtC p inp most k L) (hg : goodP p = true) (hp : p.ok 1048576) (hi : inp.length ≤ 1048576) (hmost : most ≤ 1048576) (L' : Lev) (hl : L'.stmt = stmtS L (paramsL p) inp) : StmtC p inp most n L' := by
 intro f t s bm bc bb pv iv fbv fsv xv xt hf ht hs hn hn2 hti hof hdm
 rw [hl]
 exact stmtP_fun p inp most n L hL hC hS hg hp hi hmost f t s bm bc bb pv iv fbv fsv xv xt hf ht hs hn hn2 hti hof hdm

end Go.Proofs.YtimpganophnehaaGreat
