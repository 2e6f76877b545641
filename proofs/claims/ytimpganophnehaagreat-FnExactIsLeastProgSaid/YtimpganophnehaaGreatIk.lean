/- The walk of how the program's machine does a statement. -/
import Derived.Test.YtimpganophnehaaGreatIj
import Derived.Test.YtimpganophnehaaGreatIe
set_option linter.unusedVariables false
set_option linter.unusedSimpArgs false
set_option maxRecDepth 10000
set_option maxHeartbeats 1000000
namespace Go.Proofs.YtimpganophnehaaGreat
open Go.Eng

def lvS (p : Prog) (inp : List Int) (most n : Nat) (f : Func) (t : Stmt) (s : Sx) : Int × Int × Sx := (lev p inp most n).stmt f t s
theorem lv_0 {p : Prog} {inp : List Int} {most n : Nat} {f : Func} {t : Stmt} {s : Sx} (h : s.m.fuel = 0) : lvS p inp most n f t s = (5, 0, ⟨burnM s.m, s.vars, s.off, s.res, s.by'⟩) := by
 cases n with
 | zero => show (5, 0, s) = _; rw [burn_0 h]
 | succ n => exact st_0 h
def StI (p : Prog) (inp : List Int) (f : Func) (t : Stmt) (s : Sx) (pv iv bp bpv : Value) (q : Kp) (most n : Nat) (fn : Int) (fu : Int) (b1 b2 b3 : Blk) : Prop :=
 ∃ (n1 : Nat) (s1 : Sx), n1 ≤ n ∧ s1.m.fuel ≤ n1 ∧ fu = s1.m.fuel ∧ Sx.to p inp f 0 s s1 ∧ lvS p inp most n f t s = lvS p inp most n1 f t s1 ∧
  b1 = .box (rS pv iv most s1.m.fuel 0 s1.m) ∧ b2 = .box (gC fn s1.vars s1.off s1.res 0 0 false bp) ∧ b3 = .obox bpv (gC q.fn q.vars q.off q.res (hH s1.by') (nH s1.by') (xH s1.by') q.bp)

theorem stmtI_fun (p : Prog) (inp : List Int) (most n : Nat) (hI : ∀ k, k < n → CallI p inp most k (lev p inp most k) ∧ StmtI p inp most k (lev p inp most k)) (hg : goodP p = true) (hp : p.ok 1048576) (hi : inp.length ≤ 1048576) (hmost : most ≤ 1048576) (fn : Int) (f : Func) (t : Stmt) (s : Sx) (bm bc bb : Nat) (q : Kp) (pv iv : Value) (xv : List Value) (xt : List T) (h0 : 0 ≤ fn) (h1' : fn < p.funcs.length) (hfd : f = funcAt p fn) (ht : t ∈ f.stmts) (hs : s.ok p inp f) (hn : s.m.fuel ≤ n) (hn2 : s.m.fuel ≤ 1048576) (hti : s.m.trace.length + s.m.fuel ≤ 1048576) (hof : s.off.length + s.m.fuel ≤ 1048576) (hdm : s.m.deep ≤ most) : Proc Tryz.prog 214 [.t (.v (.pointer (some ⟨bm, 0, none⟩))), .t (.v (.pointer (some ⟨bc, 0, none⟩))), .t t.tt] ((pv :: iv :: xv)) ((T.Funcs p.funcs :: T.ints inp :: xt)) [.obox (.pointer (some ⟨bm, 0, none⟩)) (rS pv iv most s.m.fuel 0 s.m), .obox (.pointer (some ⟨bc, 0, none⟩)) (gC fn s.vars s.off s.res 0 0 false (byP bb s.by')), byK bb q s.by'] (.tup [.t (.int (haH (lvS p inp most n f t s).1)), .t (.int (lvS p inp most n f t s).2.1)]) [.obox (.pointer (some ⟨bm, 0, none⟩)) (rS pv iv most (fuH (lvS p inp most n f t s).1 (lvS p inp most n f t s).2.2.m) (coH (lvS p inp most n f t s).1) (lvS p inp most n f t s).2.2.m), .obox (.pointer (some ⟨bc, 0, none⟩)) (gC fn (lvS p inp most n f t s).2.2.vars (lvS p inp most n f t s).2.2.off (lvS p inp most n f t s).2.2.res 0 0 false (byP bb s.by')), .obox (byP bb s.by') (gC q.fn q.vars q.off q.res (hH (lvS p inp most n f t s).2.2.by') (nH (lvS p inp most n f t s).2.2.by') (xH (lvS p inp most n f t s).2.2.by') q.bp)] := by
 have hf : f ∈ p.funcs := hfd ▸ funcAt_memI h0 h1'
 have hgv := good_vars hg hf
 have hsh := hgv.2.2.2.2.1
 have hst : stmtG f.vars (paramsL p) t = true := by clear hfd hs; obtain ⟨q, hq, rfl⟩ := List.getElem_of_mem hf; obtain ⟨i, hi, rfl⟩ := List.getElem_of_mem ht; exact goodF_at (goodP_fn hg hq) hi
 obtain ⟨hk1, hk2, _⟩ := kids_inF hsh ht
 have hfo : f.ok 1048576 := hp.1.2 f hf
 have htok : t.ok 1048576 := hfo.2.1.2 t ht
 have hl1 : t.thn.length ≤ 1048576 := htok.2.1
 have hl2 : t.els.length ≤ 1048576 := htok.2.2.1
 have hfl : f.stmts.length ≤ 1048576 := hfo.2.1.1
 refine Proc.intro tys Tryz.func214 rfl rfl (N := 113) [100, 101, 102] 99 ([(0, .t (.v (.pointer (some ⟨bm, 0, none⟩)))), (1, .t (.v (.pointer (some ⟨bc, 0, none⟩)))), (2, .t t.tt)]) ([(100, .obox (.pointer (some ⟨bm, 0, none⟩)) (rS pv iv most s.m.fuel 0 s.m)), (101, .obox (.pointer (some ⟨bc, 0, none⟩)) (gC fn s.vars s.off s.res 0 0 false (byP bb s.by'))), (102, byK bb q s.by'), (99, .ro (pv :: iv :: xv) (T.Funcs p.funcs :: T.ints inp :: xt))]) rfl rfl rfl rfl (by decide) (by decide) rfl (fun w0 G F0 => ?_)
 refine nY rfl (W_le (Le.openNew (u := 100) 1100 rfl rfl rfl rfl rfl) (nY rfl (W_le (Le.named (t := 0) (u := 100) 1100 rfl rfl) (nY rfl (W_le (Le.openNew (u := 101) 1101 rfl rfl rfl rfl rfl) (nY rfl (W_le (Le.named (t := 1) (u := 101) 1101 rfl rfl) (nY rfl (sQ (rG (WO_box rfl rfl (lt_of rfl) rfl rfl (nZ rfl (eK 2 rfl (oN (tN ?_)))))))))))))))
 refine W_block ?_
 refine lK (α := Int × Blk × Blk × Blk) [0, 1, 5] [5, 99, 1100, 1101] (fun x => []) (fun x => [(100, (x.2.1)), (101, (x.2.2.1)), (102, (x.2.2.2))]) (fun x => StI p inp f t s pv iv (byP bb s.by') (byP bb s.by') q most n fn (x.1) (x.2.1) (x.2.2.1) (x.2.2.2)) (fun x => Int.toNat ((x.1))) (s.m.fuel, .box (rS pv iv most s.m.fuel 0 s.m), .box (gC fn s.vars s.off s.res 0 0 false (byP bb s.by')), .obox (byP bb s.by') (gC q.fn q.vars q.off q.res (hH s.by') (nH s.by') (xH s.by') q.bp)) ?_ (fun x hx => ?_)
 ·exact ⟨n, s, Nat.le_refl _, hn, rfl, Sx.to.refl hs (by omega) (by omega), rfl, rfl, rfl, rfl⟩
 obtain ⟨fu, b1, b2, b3⟩ := x
 obtain ⟨n1, s1, hn1, hfn, hfuE, hto, hex, hb1, hb2, hb3⟩ := hx
 dsimp only at hn1 hfn hfuE hto hex hb1 hb2 hb3 ⊢
 subst hb1 hb2 hb3 hfuE
 refine nY rfl (W_block (sQ (sQ (rG ?_))))
 have hfu : s1.m.fuel ≤ s.m.fuel := hto.le.1
 have hft : s1.m.trace.length + s1.m.fuel ≤ s.m.trace.length + s.m.fuel := hto.le.2.1
 have hofs : s1.off.length + s1.m.fuel ≤ s.off.length + s.m.fuel := hto.offl
 have hdp : s1.m.deep = s.m.deep := hto.deep (by omega)
 have hBu := burnI_fun bm pv iv most s1.m (pv :: iv :: xv) (T.Funcs p.funcs :: T.ints inp :: xt) (by omega)
 obtain ⟨co, hco⟩ : ∃ co : Int, co = if s1.m.fuel = 0 then 5 else 0 := ⟨_, rfl⟩
 rw [← hco] at hBu
 refine eZ rfl (WO_le (Le.close (u := 100) 1100 rfl rfl rfl) (nZ rfl ?_))
 refine WO_callP (rid := 99) [100] rfl rfl (lt_of rfl) rfl rfl (by repeat (first | exact ResP.done | refine ResP.pin0 1100 rfl ?_ | refine ResP.t ?_ | refine ResP.nil 1 ?_ | refine ResP.nil' ?_ | refine ResP.own ?_ | refine ResP.sl rfl rfl (by first | omega | (simp; omega)) ?_ | refine ResP.aggT (by repeat (first | exact ResP.done | refine ResP.t ?_)) ?_)) rfl (by repeat (first | exact trivial | refine ⟨rfl, rfl, ?_⟩)) (by decide) (hBu) rfl rfl rfl ?_
 refine nZ rfl (WO_le (Le.open (u := 100) 1100 rfl rfl rfl rfl) (nZ rfl (eZ rfl (oN (tN ?_)))))
 refine W_cond rfl (fun h1 => ?_) (fun h1 => ?_)
 ·
  simp only [HS] at h1
  refine sQ (rG (eK 2 rfl (oN (tN (W_le (Le.close (u := 100) 1100 rfl rfl rfl) (nY rfl (W_le (Le.close (u := 101) 1101 rfl rfl rfl) (nY rfl (rT (tR (bR (loopQ_r (bR ?_)))))))))))))
  refine EndsP_of (ks := [_, _, _]) (.inr rfl) (ret_okF rfl) (by decide) rfl (noR_spec rfl) (by repeat (first | exact trivial | refine ⟨rfl, rfl, ?_⟩)) ?_ ?_
  ·(have hout := hex.trans (lv_0 (n := n1) (f := f) (t := t) (by omega)); exact retT (by rw [hout] <;> rfl) (by rw [hout] <;> rfl))
  ·(have hout := hex.trans (lv_0 (n := n1) (f := f) (t := t) (by omega)); rw [if_pos (by omega)] at hco; subst hco; rw [hout]; rfl)
 simp only [HS] at h1
 refine W_skip (tN (sQ (sQ (rG ?_))))
 have hfz : s1.m.fuel ≠ 0 := by simp_all
 rw [if_neg hfz] at hco
 subst hco
 obtain ⟨k, hk⟩ : ∃ k, n1 = k + 1 := ⟨n1 - 1, by omega⟩
 subst hk
 have hex' : lvS p inp most n f t s = stS p inp (lev p inp most k) f t s1 := hex
 refine eK 2 rfl (oN (tN (W_block (sQ (rG (eK 2 rfl (oN (tN ?_))))))))
 refine W_cond rfl (fun h2 => ?_) (fun h2 => ?_)
 ·
  simp only [HS] at h2
  refine sQ ?_
  have hout := hex'.trans (st_3 hfz (by assumption))
  refine kY [0,1,5,12,13,14,15,16,17,18] rfl (W_regionH [[101], [], [], [], [], [101], [101], [101], [], [], [], []] mixed (by kernel_rfl) (QH_G (QG_ev tys rfl rfl (lt_of rfl) rfl (QG_nil (QH_G0 (QG_ev tys rfl rfl (lt_of rfl) rfl (QG_nil (QH_G0 (QG_nil' rfl rfl (lt_of rfl) rfl rfl rfl (QG_nil (QH_G0 (QG_ev tys rfl rfl (lt_of rfl) rfl (QG_nil (QH_norm rfl (QH_loadOwn tys rfl rfl (lt_of rfl) rfl rfl rfl rfl rfl rfl ?_)))))))))))))))
  refine QH_G (QG_ev tys rfl rfl (lt_of rfl) rfl (QG_nil (QH_G (QG_ev tys rfl rfl (lt_of rfl) rfl (QG_nil (QH_G ?_))))))
  refine QG_buildS tys [T.int t.n] rfl rfl (lt_of rfl) rfl rfl rfl rfl rfl (lt_of rfl) (by repeat (first | exact PartsOk.nil' | refine PartsOk.cons' rfl (by repeat (first | exact AbsL.nil' | refine AbsL.v' ?_ | refine AbsL.own' ?_ | refine AbsL.none' ?_)) rfl ?_)) rfl rfl rfl (by decide) ?_
  refine QG_nil (QH_norm rfl (QH_G0 (QG_appendO tys rfl rfl (lt_of rfl) rfl rfl rfl rfl rfl rfl rfl rfl rfl ((fun x hx => by rw [List.mem_singleton] at hx; subst hx; exact ⟨rfl, fun z hz => ⟨_, by simpa [T.cells] using hz⟩⟩)) (by simp; omega) (by decide) rfl ?_)))
  refine QG_nil (QH_G0 (QG_nil' rfl rfl (lt_of rfl) rfl rfl rfl (QG_nil (QH_G0 (QG_ev tys rfl rfl (lt_of rfl) rfl (QG_nil (QH_storeM tys rfl rfl rfl rfl rfl rfl rfl rfl rfl (Nat.le_of_ble_eq_true rfl) (QH_norm rfl (QH_nil ?_)))))))))
  refine ⟨by kernel_rfl, ?_⟩
  refine nZ rfl (oN (tN (sQ (rG (eK 2 rfl (oN (tN (W_le (Le.close (u := 100) 1100 rfl rfl rfl) (nY rfl (W_le (Le.close (u := 101) 1101 rfl rfl rfl) (nY rfl (rT (bR (tR (bR ?_)))))))))))))))
  refine loopQ_r (bR ?_)
  refine EndsP_of (ks := [_, _, _]) (.inr rfl) (ret_okF rfl) (by decide) rfl (noR_spec rfl) (by repeat (first | exact trivial | refine ⟨rfl, rfl, ?_⟩)) ?_ ?_
  ·exact retT (by rw [hout] <;> rfl) (by rw [hout] <;> rfl)
  ·rw [hout]
   simp [rS, gC, T.ints, putI, List.take_of_length_le, burnM, fuH, coH]
   done
 simp only [HS] at h2
 refine sQ (kY [0,1,5,12,13,14,15,16,17,18] rfl (rG (eK 2 rfl (oN (tN ?_)))))
 refine W_cond rfl (fun h3 => ?_) (fun h3 => ?_)
 ·
  simp only [HS] at h3
  refine sQ (rG (eK 2 rfl (oN (tN (W_le (Le.close (u := 100) 1100 rfl rfl rfl) (nY rfl (W_le (Le.close (u := 101) 1101 rfl rfl rfl) (nY rfl (rT (bR (tR (bR (loopQ_r (bR ?_))))))))))))))
  refine EndsP_of (ks := [_, _, _]) (.inr rfl) (ret_okF rfl) (by decide) rfl (noR_spec rfl) (by repeat (first | exact trivial | refine ⟨rfl, rfl, ?_⟩)) ?_ ?_
  ·(have hout := hex'.trans (st_6 (f := f) hfz (by assumption)); exact retT (by rw [hout] <;> rfl) (by rw [hout] <;> rfl))
  ·(have hout := hex'.trans (st_6 (f := f) hfz (by assumption)); rw [hout]; rfl)
 simp only [HS] at h3
 refine W_skip (bN (tN (sQ (rG ?_))))
 have hk3 : t.kind ≠ 3 := by assumption
 have hk6 : t.kind ≠ 6 := by assumption
 have hL := lev_ok (inp := inp) hg most k
 obtain ⟨hIc, hIs⟩ := hI k (by omega)
 have hb := hto.ok.burn hfz
 obtain ⟨mx, hru⟩ := stmtG_run hst hk3 hk6
 obtain ⟨R, hR⟩ : ∃ R, R = exS p inp (lev p inp most k) t.ex ⟨burnM s1.m, s1.vars, s1.off, s1.res, s1.by'⟩ := ⟨_, rfl⟩
 have he := exprS_ok hL hg (pile := []) hb.ok (l := t.ex) (mx := 0) (by simpa using hru)
 have hbf : (burnM s1.m).fuel = s1.m.fuel - 1 := rfl
 have hbt : (burnM s1.m).trace.length = s1.m.trace.length := rfl
 have hbd : (burnM s1.m).deep = s1.m.deep := rfl
 have hE := exprI_fun p inp most k (lev p inp most k) hL hIc hg hp hi f hf fn t.ex (stmtG_len hst) ⟨mx, hru⟩ ⟨burnM s1.m, s1.vars, s1.off, s1.res, s1.by'⟩ hb.ok (by dsimp only; omega) (by dsimp only; omega) (by dsimp only; omega) (by dsimp only; omega) hmost bm bc bb q pv iv xv xt
 change Sx.to p inp f (exS p inp (lev p inp most k) t.ex ⟨burnM s1.m, s1.vars, s1.off, s1.res, s1.by'⟩).1 _ (exS p inp (lev p inp most k) t.ex ⟨burnM s1.m, s1.vars, s1.off, s1.res, s1.by'⟩).2.2 at he
 unfold byK at hE
 dsimp only at hE
 rw [← hR] at he
 rw [← hR, byP_eq (bb := bb) hto.by'] at hE
 have he0 := he.h0
 obtain ⟨fu1, hfu1⟩ : ∃ fu1, fu1 = fuH R.1 R.2.2.m := ⟨_, rfl⟩
 obtain ⟨co1, hco1⟩ : ∃ co1, co1 = coH R.1 := ⟨_, rfl⟩
 rw [← hfu1, ← hco1] at hE
 refine eK 4 rfl (WO_le (Le.close (u := 100) 1100 rfl rfl rfl) (nZ rfl (WO_le (Le.close (u := 101) 1101 rfl rfl rfl) (nZ rfl ?_))))
 refine WO_callP (rid := 99) [100, 101, 102] rfl rfl (lt_of rfl) rfl rfl (by repeat (first | exact ResP.done | refine ResP.pin0 1100 rfl ?_ | refine ResP.pin0 1101 rfl ?_ | refine ResP.pin0 1102 rfl ?_ | refine ResP.t ?_ | refine ResP.nil 1 ?_ | refine ResP.nil' ?_ | refine ResP.own ?_ | refine ResP.sl rfl rfl (by first | omega | (simp; omega)) ?_ | refine ResP.aggT (by repeat (first | exact ResP.done | refine ResP.t ?_)) ?_)) rfl (by repeat (first | exact trivial | refine ⟨rfl, rfl, ?_⟩)) (by decide) (hE) rfl rfl rfl ?_
 refine nZ rfl (WO_le (Le.open (u := 100) 1100 rfl rfl rfl rfl) (nZ rfl (WO_le (Le.open (u := 101) 1101 rfl rfl rfl rfl) (nZ rfl (eZ rfl (WO_evF tys rfl rfl (lt_of rfl) (d := .t _) rfl (nZ rfl (kZ [0,1,5,12,13,14,15,16,17,18,30,31,32,33,34,35,36,37,38] rfl (WO_evF tys rfl rfl (lt_of rfl) (d := .t _) rfl (nZ rfl (eK 2 rfl (oN (tN (sQ (sQ ?_)))))))))))))))
 refine rG (eK 2 rfl (oN (tN ?_)))
 refine W_cond rfl (fun h4 => ?_) (fun h4 => ?_)
 ·
  simp only [HS] at h4
  refine sQ (rG ?_)
  have hout := hex'.trans (st_e (f := f) hfz hk3 hk6 hR (haH_n0 (by assumption)))
  subst hfu1 hco1
  refine eK 4 rfl (kZ [0,1,5,6,7,8,9,12,13,14,15,16,17,18,30,31,32,33,34,35,36,37,38,39,40,41,42,43] rfl (oN (tN (W_le (Le.close (u := 100) 1100 rfl rfl rfl) (nY rfl (W_le (Le.close (u := 101) 1101 rfl rfl rfl) (nY rfl (rT (tR (bR (loopQ_r (bR ?_))))))))))))
  refine EndsP_of (ks := [_, _, _]) (.inr rfl) (ret_okF rfl) (by decide) rfl (noR_spec rfl) (by repeat (first | exact trivial | refine ⟨rfl, rfl, ?_⟩)) ?_ ?_
  ·exact retT (by rw [hout] <;> rfl) (by rw [hout] <;> rfl)
  ·rw [hout]
   rfl
 simp only [HS] at h4
 refine W_skip (tN (sQ (sQ (rG ?_))))
 have hz : R.1 = 0 := haH_0 (by assumption)
 rw [hz, fuH_1 (by omega)] at hfu1
 rw [hz, coH_1 (by omega)] at hco1
 subst hfu1 hco1
 have hok2 := he.ok
 have hf2 : R.2.2.m.fuel ≤ s1.m.fuel - 1 := he.le.1
 have ht2 : R.2.2.m.trace.length + R.2.2.m.fuel ≤ s1.m.trace.length + (s1.m.fuel - 1) := he.le.2.1
 have ho2 : R.2.2.off.length + R.2.2.m.fuel ≤ s1.off.length + (s1.m.fuel - 1) := he.offl
 have hd2 : R.2.2.m.deep = s.m.deep := (he.deep (by omega)).trans hdp
 have hvl : R.2.2.vars.length = f.vars.toNat := hok2.vars
 have hby2 : R.2.2.by'.isSome = s.by'.isSome := he.by'.trans hto.by'
 have h1B : Sx.to p inp f R.1 s1 R.2.2 := hb.trans he (by omega)
 refine eK 2 rfl (oN (tN (W_block (sQ (kY [0,1,5,8,9,12,13,14,15,16,17,18,30,31,32,33,34,35,36,37,38,39,40,41,44,45] rfl (rG (eK 2 rfl (oN (tN ?_)))))))))
 refine W_cond rfl (fun h5 => ?_) (fun h5 => ?_)
 ·
  simp only [HS] at h5
  have hk1' : t.kind = 1 := by assumption
  have hn1 : 0 ≤ t.n ∧ t.n ≤ f.vars - 1 := by have := hst; grind [stmtG, stmtW]
  have hout := hex'.trans ((st_d (f := f) hfz hk3 hk6 hR hz).trans (do_1 hk1'))
  refine W_le (Le.adoptBox (u := 101) (j := 1) (id := 191) rfl rfl rfl) (nY rfl (W_regionH [[], [], [], [], [], [], [], [], []] mixed (by kernel_rfl) (QH_G0 (QG_ev tys rfl rfl (lt_of rfl) rfl (QG_nil (QH_G0 (QG_nil' rfl rfl (lt_of rfl) rfl rfl rfl (QG_nil (QH_G0 (QG_ev tys rfl rfl (lt_of rfl) rfl (QG_nil (QH_G0 (QG_ev tys rfl rfl (lt_of rfl) rfl (QG_nil (QH_norm rfl ?_)))))))))))))))
  refine QH_G0 (QG_ev tys rfl rfl (lt_of rfl) rfl (QG_nil (QH_G0 (QG_ev tys rfl rfl (lt_of rfl) rfl (QG_nil (QH_G0 (QG_ev tys rfl rfl (lt_of rfl) rfl (QG_nil (QH_G (QG_idxS tys rfl rfl (lt_of rfl) rfl rfl rfl rfl rfl rfl rfl rfl hn1.1 (by rw [List.length_map, hvl]; omega) ?_))))))))))
  refine QG_nil (QH_norm rfl ?_)
  refine QH_storeLv tys 10008 [T.int R.2.1] rfl rfl rfl rfl rfl rfl (getT0 _ _ hn1.1 (by rw [hvl]; omega)) rfl rfl (by repeat (first | exact AbsL.nil' | refine AbsL.v' ?_)) rfl (by decide) (Nat.le_of_ble_eq_true rfl) ?_
  refine QH_nil ?_
  refine ⟨by kernel_rfl, ?_⟩
  refine nZ rfl (WO_le (Le.gatherBox (u := 101) (j := 1) (id := 191) rfl rfl rfl (by simp) rfl) ?_)
  refine nZ rfl (oN (bN (tN (sQ (rG (eK 2 rfl (oN (tN (W_le (Le.close (u := 100) 1100 rfl rfl rfl) (nY rfl (W_le (Le.close (u := 101) 1101 rfl rfl rfl) (nY rfl (rT (bR (loopQ_r ?_)))))))))))))))
  refine bR ?_
  refine EndsP_of (ks := [_, _, _]) (.inr rfl) (ret_okF rfl) (by decide) rfl (noR_spec rfl) (by repeat (first | exact trivial | refine ⟨rfl, rfl, ?_⟩)) ?_ ?_
  ·exact retT (by rw [hout] <;> rfl) (by rw [hout] <;> rfl)
  ·rw [hout]
   simp [rS, gC, T.ints, putI, List.take_of_length_le, burnM, fuH, coH]
   done
 simp only [HS] at h5
 refine sQ (rG (eK 2 rfl (oN (tN ?_))))
 refine W_cond rfl (fun h6 => ?_) (fun h6 => ?_)
 ·
  simp only [HS] at h6
  refine rG ?_
  have hout := hex'.trans ((st_d (f := f) hfz hk3 hk6 hR hz).trans (do_2 (by assumption)))
  refine eK 2 rfl (WO_nil' rfl rfl (lt_of rfl) rfl rfl rfl (eK 2 rfl (kZ [0,1,5,8,9,12,13,14,15,16,17,18,30,31,32,33,34,35,36,37,38,39,40,41,44,45,46,47,56,57,58,59,60,61,62] rfl (WO_loadOwn tys rfl rfl (lt_of rfl) rfl rfl rfl rfl rfl rfl (WO_le (Le.adoptE (u := 63) 63 rfl rfl) (nZ rfl (eZ rfl ?_)))))))
  refine WO_buildSlice tys [T.int R.2.1] rfl rfl (lt_of rfl) rfl rfl rfl rfl rfl (lt_of rfl) (by repeat (first | exact PartsOk.nil' | refine PartsOk.cons' rfl (by repeat (first | exact AbsL.nil' | refine AbsL.v' ?_ | refine AbsL.own' ?_ | refine AbsL.none' ?_)) rfl ?_)) (by first | exact List.nodup_nil | exact nodup1 _ | decide | exact nodupB_sound rfl) rfl (by decide) ?_
  refine nZ rfl (WO_append tys rfl rfl (lt_of rfl) rfl rfl rfl rfl rfl (.own rfl (by first | omega | (simp only [List.length_append]; omega))) rfl (.own rfl (by first | decide | omega)) (by decide) (by simp; omega) (by decide) rfl ?_)
  refine nZ rfl (WO_le (Le.gather (u := 66) (id := 63) rfl rfl (by first | (simp; done) | (simp; omega) | omega)) ?_)
  refine nZ rfl (WO_nil' rfl rfl (lt_of rfl) rfl rfl rfl (eK 2 rfl (sT rfl (nZ rfl (oN (bN (tN (sQ (kY [0,1,5,8,9,12,13,14,15,16,17,18,30,31,32,33,34,35,36,37,38,39,40,41,44,45,46,47,56,57,58,59,60,61,62,63,64,65,66,67,68,69] rfl (rG (eK 2 rfl (oN (tN (W_le (Le.close (u := 100) 1100 rfl rfl rfl) (nY rfl ?_)))))))))))))))
  refine W_le (Le.close (u := 101) 1101 rfl rfl rfl) (nY rfl (rT (bR (loopQ_r (bR ?_)))))
  refine EndsP_of (ks := [_, _, _]) (.inr rfl) (ret_okF rfl) (by decide) rfl (noR_spec rfl) (by repeat (first | exact trivial | refine ⟨rfl, rfl, ?_⟩)) ?_ ?_
  ·exact retT (by rw [hout] <;> rfl) (by rw [hout] <;> rfl)
  ·rw [hout]
   simp [rS, gC, T.ints, putI, List.take_of_length_le, burnM, fuH, coH]
   done
 simp only [HS] at h6
 refine sQ (rG (eK 2 rfl (oN (tN ?_))))
 refine W_cond rfl (fun h7 => ?_) (fun h7 => ?_)
 ·
  simp only [HS] at h7
  refine sQ (rG ?_)
  have hout := hex'.trans ((st_d (f := f) hfz hk3 hk6 hR hz).trans (do_4 (by assumption)))
  refine eK 3 rfl (kZ [0,1,5,6,7,8,9,12,13,14,15,16,17,18,30,31,32,33,34,35,36,37,38,39,40,41,44,45,46,47,56,57,70,71,72] rfl (oN (tN (W_le (Le.close (u := 100) 1100 rfl rfl rfl) (nY rfl (W_le (Le.close (u := 101) 1101 rfl rfl rfl) (nY rfl (rT (bR (tR (bR (loopQ_r (bR ?_)))))))))))))
  refine EndsP_of (ks := [_, _, _]) (.inr rfl) (ret_okF rfl) (by decide) rfl (noR_spec rfl) (by repeat (first | exact trivial | refine ⟨rfl, rfl, ?_⟩)) ?_ ?_
  ·exact retT (by rw [hout] <;> rfl) (by rw [hout] <;> rfl)
  ·rw [hout]
   rfl
 simp only [HS] at h7
 refine sQ (rG (eK 2 rfl (oN (tN ?_))))
 refine W_cond rfl (fun h8 => ?_) (fun h8 => ?_)
 ·
  simp only [HS] at h8
  refine sQ (kY [0,1,5,8,9,12,13,14,15,16,17,18,30,31,32,33,34,35,36,37,38,39,40,41,44,45,46,47,56,57,70,71,73,74] rfl (rG ?_))
  have hout := hex'.trans ((st_d (f := f) hfz hk3 hk6 hR hz).trans (do_5 (by assumption)))
  refine eK 2 rfl (WO_nil' rfl rfl (lt_of rfl) rfl rfl rfl (eZ rfl (sT rfl (nZ rfl (oN (tN (sQ (rG (eK 2 rfl (oN (tN (W_le (Le.close (u := 100) 1100 rfl rfl rfl) (nY rfl (W_le (Le.close (u := 101) 1101 rfl rfl rfl) (nY rfl ?_)))))))))))))))
  refine rT (bR (tR (bR (loopQ_r (bR ?_)))))
  refine EndsP_of (ks := [_, _, _]) (.inr rfl) (ret_okF rfl) (by decide) rfl (noR_spec rfl) (by repeat (first | exact trivial | refine ⟨rfl, rfl, ?_⟩)) ?_ ?_
  ·exact retT (by rw [hout] <;> rfl) (by rw [hout] <;> rfl)
  ·rw [hout]
   rfl
 simp only [HS] at h8
 refine sQ (kY [0,1,5,8,9,12,13,14,15,16,17,18,30,31,32,33,34,35,36,37,38,39,40,41,44,45,46,47,56,57,70,71,73,74] rfl (rG (eK 2 rfl (oN (tN ?_)))))
 refine W_cond rfl (fun h9 => ?_) (fun h9 => ?_)
 ·
  simp only [HS] at h9
  refine sQ (sQ (rG (eK 2 rfl (oN (tN ?_)))))
  refine W_cond rfl (fun h10 => ?_) (fun h10 => ?_)
  ·
   simp only [HS] at h10
   refine sQ (rG ?_)
   have hout := hex'.trans ((st_d (f := f) hfz hk3 hk6 hR hz).trans (do_7t (by assumption) (by omega)))
   have hB := blockI_fun p inp most k (lev p inp most k) hL hIs fn f h0 h1' hfd hfl t.thn hk1 hl1 R.2.2 hok2 (by omega) (by omega) (by omega) (by omega) (by omega) bm bc bb q pv iv xv xt
   unfold byK at hB
   rw [byP_eq (bb := bb) hby2] at hB
   refine eK 4 rfl (WO_le (Le.close (u := 100) 1100 rfl rfl rfl) (nZ rfl (WO_le (Le.close (u := 101) 1101 rfl rfl rfl) (nZ rfl ?_))))
   refine WO_callP (rid := 99) [100, 101, 102] rfl rfl (lt_of rfl) rfl rfl (by repeat (first | exact ResP.done | refine ResP.pin0 1100 rfl ?_ | refine ResP.pin0 1101 rfl ?_ | refine ResP.pin0 1102 rfl ?_ | refine ResP.t ?_ | refine ResP.nil 1 ?_ | refine ResP.nil' ?_ | refine ResP.own ?_ | refine ResP.sl rfl rfl (by first | omega | (simp; omega)) ?_ | refine ResP.aggT (by repeat (first | exact ResP.done | refine ResP.t ?_)) ?_)) rfl (by repeat (first | exact trivial | refine ⟨rfl, rfl, ?_⟩)) (by decide) (hB) rfl rfl rfl ?_
   refine nZ rfl (WO_le (Le.open (u := 100) 1100 rfl rfl rfl rfl) (nZ rfl (WO_le (Le.open (u := 101) 1101 rfl rfl rfl rfl) (nZ rfl (kZ [0,1,5,8,9,12,13,14,15,16,17,18,30,31,32,33,34,35,36,37,38,39,40,41,44,45,46,47,56,57,70,71,73,74,79,80,81,82,83,84,85,86,87] rfl (WO_evF tys rfl rfl (lt_of rfl) (d := .t _) rfl (nZ rfl (WO_evF tys rfl rfl (lt_of rfl) (d := .t _) rfl (nZ rfl (eK 2 rfl (oN (tN (W_le (Le.close (u := 100) 1100 rfl rfl rfl) (nY rfl (W_le (Le.close (u := 101) 1101 rfl rfl rfl) ?_)))))))))))))))
   refine nY rfl (rT (tR (bR (tR (bR (loopQ_r (bR ?_)))))))
   refine EndsP_of (ks := [_, _, _]) (.inr rfl) (ret_okF rfl) (by decide) rfl (noR_spec rfl) (by repeat (first | exact trivial | refine ⟨rfl, rfl, ?_⟩)) ?_ ?_
   ·exact retT (by rw [hout] <;> rfl) (by rw [hout] <;> rfl)
   ·rw [hout]
    rfl
  simp only [HS] at h10
  refine W_skip (tN (sQ (rG ?_)))
  have hout := hex'.trans ((st_d (f := f) hfz hk3 hk6 hR hz).trans (do_7e (by assumption) (by omega)))
  have hB := blockI_fun p inp most k (lev p inp most k) hL hIs fn f h0 h1' hfd hfl t.els hk2 hl2 R.2.2 hok2 (by omega) (by omega) (by omega) (by omega) (by omega) bm bc bb q pv iv xv xt
  unfold byK at hB
  rw [byP_eq (bb := bb) hby2] at hB
  refine eK 4 rfl (WO_le (Le.close (u := 100) 1100 rfl rfl rfl) (nZ rfl (WO_le (Le.close (u := 101) 1101 rfl rfl rfl) (nZ rfl ?_))))
  refine WO_callP (rid := 99) [100, 101, 102] rfl rfl (lt_of rfl) rfl rfl (by repeat (first | exact ResP.done | refine ResP.pin0 1100 rfl ?_ | refine ResP.pin0 1101 rfl ?_ | refine ResP.pin0 1102 rfl ?_ | refine ResP.t ?_ | refine ResP.nil 1 ?_ | refine ResP.nil' ?_ | refine ResP.own ?_ | refine ResP.sl rfl rfl (by first | omega | (simp; omega)) ?_ | refine ResP.aggT (by repeat (first | exact ResP.done | refine ResP.t ?_)) ?_)) rfl (by repeat (first | exact trivial | refine ⟨rfl, rfl, ?_⟩)) (by decide) (hB) rfl rfl rfl ?_
  refine nZ rfl (WO_le (Le.open (u := 100) 1100 rfl rfl rfl rfl) (nZ rfl (WO_le (Le.open (u := 101) 1101 rfl rfl rfl rfl) (nZ rfl (kZ [0,1,5,8,9,12,13,14,15,16,17,18,30,31,32,33,34,35,36,37,38,39,40,41,44,45,46,47,56,57,70,71,73,74,79,80,81,82,90,91,92,93,94] rfl (WO_evF tys rfl rfl (lt_of rfl) (d := .t _) rfl (nZ rfl (WO_evF tys rfl rfl (lt_of rfl) (d := .t _) rfl (nZ rfl (eK 2 rfl (oN (tN (W_le (Le.close (u := 100) 1100 rfl rfl rfl) (nY rfl (W_le (Le.close (u := 101) 1101 rfl rfl rfl) ?_)))))))))))))))
  refine nY rfl (rT (bR (tR (bR (loopQ_r (bR ?_))))))
  refine EndsP_of (ks := [_, _, _]) (.inr rfl) (ret_okF rfl) (by decide) rfl (noR_spec rfl) (by repeat (first | exact trivial | refine ⟨rfl, rfl, ?_⟩)) ?_ ?_
  ·exact retT (by rw [hout] <;> rfl) (by rw [hout] <;> rfl)
  ·rw [hout]
   rfl
 simp only [HS] at h9
 refine sQ (rG (eK 2 rfl (oN (tN ?_))))
 refine W_cond rfl (fun h10 => ?_) (fun h10 => ?_)
 ·
  simp only [HS] at h10
  refine sQ (rG (eK 2 rfl (oN (tN ?_))))
  refine W_cond rfl (fun h11 => ?_) (fun h11 => ?_)
  ·
   simp only [HS] at h11
   refine sQ (sQ (rG ?_))
   have hB := blockI_fun p inp most k (lev p inp most k) hL hIs fn f h0 h1' hfd hfl t.thn hk1 hl1 R.2.2 hok2 (by omega) (by omega) (by omega) (by omega) (by omega) bm bc bb q pv iv xv xt
   have hb2o := blockS_ok (hL.stmt _ hf) hk1 hok2
   obtain ⟨B, hBd⟩ : ∃ B, B = blS (lev p inp most k) f t.thn R.2.2 := ⟨_, rfl⟩
   change Sx.to p inp f (blS (lev p inp most k) f t.thn R.2.2).1 _ (blS (lev p inp most k) f t.thn R.2.2).2.2 at hb2o
   unfold byK at hB
   rw [byP_eq (bb := bb) hby2, ← hBd] at hB
   rw [← hBd] at hb2o
   have hB0 := hb2o.h0
   have hf3 : B.2.2.m.fuel ≤ R.2.2.m.fuel := hb2o.le.1
   refine eK 3 rfl (kZ [0,1,5,8,9,12,13,14,15,16,17,18,30,31,32,33,34,35,36,37,38,39,40,41,44,45,46,47,56,57,70,71,73,74,79,80,97,98,99,100,102,103,104] rfl (eZ rfl (WO_le (Le.close (u := 100) 1100 rfl rfl rfl) (nZ rfl (WO_le (Le.close (u := 101) 1101 rfl rfl rfl) (nZ rfl ?_))))))
   refine WO_callP (rid := 99) [100, 101, 102] rfl rfl (lt_of rfl) rfl rfl (by repeat (first | exact ResP.done | refine ResP.pin0 1100 rfl ?_ | refine ResP.pin0 1101 rfl ?_ | refine ResP.pin0 1102 rfl ?_ | refine ResP.t ?_ | refine ResP.nil 1 ?_ | refine ResP.nil' ?_ | refine ResP.own ?_ | refine ResP.sl rfl rfl (by first | omega | (simp; omega)) ?_ | refine ResP.aggT (by repeat (first | exact ResP.done | refine ResP.t ?_)) ?_)) rfl (by repeat (first | exact trivial | refine ⟨rfl, rfl, ?_⟩)) (by decide) (hB) rfl rfl rfl ?_
   refine nZ rfl (WO_le (Le.open (u := 100) 1100 rfl rfl rfl rfl) (nZ rfl (WO_le (Le.open (u := 101) 1101 rfl rfl rfl rfl) (nZ rfl (eZ rfl (WO_evF tys rfl rfl (lt_of rfl) (d := .t _) rfl (nZ rfl (WO_evF tys rfl rfl (lt_of rfl) (d := .t _) rfl (nZ rfl (eK 2 rfl (oN (tN (sQ (kY [0,1,5,8,9,10,11,12,13,14,15,16,17,18,30,31,32,33,34,35,36,37,38,39,40,41,44,45,46,47,56,57,70,71,73,74,79,80,97,98,99,100,101,102,103,104,105,106,107,108] rfl (rG ?_)))))))))))))))
   refine eK 2 rfl (oN (tN ?_))
   refine W_cond rfl (fun h12 => ?_) (fun h12 => ?_)
   ·
    simp only [HS] at h12
    refine sQ (rG ?_)
    have hout := hex'.trans ((st_d (f := f) hfz hk3 hk6 hR hz).trans (do_8b (by assumption) (by omega) hBd (haH_n0 (by assumption))))
    refine eK 4 rfl (oN (tN (W_le (Le.close (u := 100) 1100 rfl rfl rfl) (nY rfl (W_le (Le.close (u := 101) 1101 rfl rfl rfl) (nY rfl (rT (tR (bR (tR (bR (loopQ_r (bR ?_)))))))))))))
    refine EndsP_of (ks := [_, _, _]) (.inr rfl) (ret_okF rfl) (by decide) rfl (noR_spec rfl) (by repeat (first | exact trivial | refine ⟨rfl, rfl, ?_⟩)) ?_ ?_
    ·exact retT (by rw [hout] <;> rfl) (by rw [hout] <;> rfl)
    ·rw [hout]
     rfl
   simp only [HS] at h12
   refine W_skip (tN (W_exit (inBlk_e rfl (tE (inBlk_y ?_)))))
   refine lQ ((B.2.2.m.fuel : Int), _, _, _) ?_ ?_
   ·dsimp only
    have hB1 : B.1 = 0 := haH_0 (by assumption); refine ⟨k, B.2.2, by omega, by omega, rfl, (hto.trans h1B (by omega)).trans (by rw [hB1] at hb2o; exact hb2o) (by omega), hex'.trans ((st_d (f := f) hfz hk3 hk6 hR hz).trans (do_8s (by assumption) (by omega) hBd hB1)), ?_, rfl, rfl⟩; rw [hB1, fuH_1 (by omega), coH_1 (by omega)]; rfl
   ·(show Int.toNat _ < Int.toNat _); omega
  simp only [HS] at h11
  refine W_skip (bN (tN (sQ (rG (eK 2 rfl (oN (tN (W_le (Le.close (u := 100) 1100 rfl rfl rfl) (nY rfl (W_le (Le.close (u := 101) 1101 rfl rfl rfl) (nY rfl (rT (bR (loopQ_r (bR ?_)))))))))))))))
  refine EndsP_of (ks := [_, _, _]) (.inr rfl) (ret_okF rfl) (by decide) rfl (noR_spec rfl) (by repeat (first | exact trivial | refine ⟨rfl, rfl, ?_⟩)) ?_ ?_
  ·(have hout := hex'.trans ((st_d (f := f) hfz hk3 hk6 hR hz).trans (do_8z (by assumption) (by omega))); exact retT (by rw [hout] <;> rfl) (by rw [hout] <;> rfl))
  ·(have hout := hex'.trans ((st_d (f := f) hfz hk3 hk6 hR hz).trans (do_8z (by assumption) (by omega))); rw [hout]; rfl)
 simp only [HS] at h10
 refine W_skip (bN (tN (sQ (rG (eK 2 rfl (oN (tN (W_le (Le.close (u := 100) 1100 rfl rfl rfl) (nY rfl (W_le (Le.close (u := 101) 1101 rfl rfl rfl) (nY rfl (rT (bR (loopQ_r (bR ?_)))))))))))))))
 refine EndsP_of (ks := [_, _, _]) (.inr rfl) (ret_okF rfl) (by decide) rfl (noR_spec rfl) (by repeat (first | exact trivial | refine ⟨rfl, rfl, ?_⟩)) ?_ ?_
 ·(have hout := hex'.trans ((st_d (f := f) hfz hk3 hk6 hR hz).trans (do_9 (by assumption) (by assumption) (by assumption) (by assumption) (by assumption) (by assumption))); exact retT (by rw [hout] <;> rfl) (by rw [hout] <;> rfl))
 ·(have hout := hex'.trans ((st_d (f := f) hfz hk3 hk6 hR hz).trans (do_9 (by assumption) (by assumption) (by assumption) (by assumption) (by assumption) (by assumption))); rw [hout]; rfl)

end Go.Proofs.YtimpganophnehaaGreat
