/- The walk of how the reference's machine does a block. -/
import Derived.Test.YtimpganophnehaaGreatIc
import Derived.Test.YtimpganophnehaaGreatMe
set_option linter.unusedVariables false
set_option linter.unusedSimpArgs false
set_option maxRecDepth 10000
set_option maxHeartbeats 1000000
namespace Go.Proofs.YtimpganophnehaaGreat
open Go.Eng

def StmtC (p : Prog) (inp : List Int) (most n : Nat) (L : Lev) : Prop :=
 ∀ (f : Func) (t : Stmt) (s : Sx) (bm bc bb : Nat) (pv iv fbv fsv : Value) (xv : List Value) (xt : List T), f ∈ p.funcs → t ∈ f.stmts → s.ok p inp f → s.m.fuel ≤ n → s.m.fuel ≤ 1048576 → s.m.trace.length + s.m.fuel ≤ 1048576 → s.off.length + s.m.fuel ≤ 1048576 → s.m.deep ≤ most →
  Proc Tryz.prog 226 [.t (.v (.pointer (some ⟨bm, 0, none⟩))), .t (.v (.pointer (some ⟨bc, 0, none⟩))), .t t.tt] (pv :: iv :: fsv :: xv) (T.Funcs p.funcs :: T.ints inp :: T.Stmts f.stmts :: xt)
   [.obox (.pointer (some ⟨bm, 0, none⟩)) (mS pv iv most s.m), .obox (.pointer (some ⟨bc, 0, none⟩)) (cS f fbv fsv s.vars s.off s.res s.m.deep bb), .obox (.pointer (some ⟨bb, 0, none⟩)) (bS s.by')]
   (.agg [.t (.int (L.stmt f t s).1), .t (.int (eV (L.stmt f t s).1 (L.stmt f t s).2.1))])
   [.obox (.pointer (some ⟨bm, 0, none⟩)) (mS pv iv most (L.stmt f t s).2.2.m), .obox (.pointer (some ⟨bc, 0, none⟩)) (cS f fbv fsv (L.stmt f t s).2.2.vars (L.stmt f t s).2.2.off (L.stmt f t s).2.2.res s.m.deep bb), .obox (.pointer (some ⟨bb, 0, none⟩)) (bS (L.stmt f t s).2.2.by')]

def blS (L : Lev) (f : Func) (b : List Int) (s : Sx) : Int × Int × Sx := blockS (L.stmt f) f b s
def BlInv (p : Prog) (inp : List Int) (f : Func) (L : Lev) (b : List Int) (s : Sx) (pv iv fbv fsv : Value) (most dp : Int) (bm bb : Nat) (k : Int) (b1 b2 b3 : Blk) : Prop :=
 ∃ (s1 : Sx), 0 ≤ k ∧ k ≤ b.length ∧ Sx.to p inp f 0 s s1 ∧ blS L f b s = blockS (L.stmt f) f (b.drop k.toNat) s1 ∧
  b1 = .obox (.pointer (some ⟨bm, 0, none⟩)) (mS pv iv most s1.m) ∧ b2 = .box (cS f fbv fsv s1.vars s1.off s1.res dp bb) ∧ b3 = .obox (.pointer (some ⟨bb, 0, none⟩)) (bS s1.by')
section
variable {p : Prog} {inp : List Int} {f : Func} {L : Lev} {b : List Int} {s s1 : Sx} {pv iv fbv fsv : Value} {most dp : Int} {bm bb : Nat} {k : Int} {R : Int × Int × Sx}
theorem BlInv.next (h0 : 0 ≤ k) (h1 : k < b.length) (hto : Sx.to p inp f 0 s s1) (hex : blS L f b s = blockS (L.stmt f) f (b.drop k.toNat) s1) (hR : R = L.stmt f (stmtAt f (b[k.toNat]'(by omega))) s1) (hok : Sx.to p inp f R.1 s1 R.2.2) (hz : R.1 = 0) {k' : Int} (hk : k' = k + 1) {b1 b2 b3 : Blk}
  (e3 : b1 = .obox (.pointer (some ⟨bm, 0, none⟩)) (mS pv iv most R.2.2.m)) (e4 : b2 = .box (cS f fbv fsv R.2.2.vars R.2.2.off R.2.2.res dp bb)) (e5 : b3 = .obox (.pointer (some ⟨bb, 0, none⟩)) (bS R.2.2.by')) :
  BlInv p inp f L b s pv iv fbv fsv most dp bm bb k' b1 b2 b3 := by
 subst hk
 rw [hz] at hok
 refine ⟨R.2.2, by omega, by omega, hto.trans hok (by omega), ?_, e3, e4, e5⟩
 rw [hex, drop_at h0 h1, blockS]
 rw [← hR, if_pos hz]
theorem bl_stop (h0 : 0 ≤ k) (h1 : k < b.length) (hex : blS L f b s = blockS (L.stmt f) f (b.drop k.toNat) s1) (hR : R = L.stmt f (stmtAt f (b[k.toNat]'(by omega))) s1) (hz : ¬ R.1 = 0) : blS L f b s = R := by
 rw [hex, drop_at h0 h1, blockS]
 rw [← hR, if_neg hz]
theorem bl_end (h1 : (b.length : Int) ≤ k) (hex : blS L f b s = blockS (L.stmt f) f (b.drop k.toNat) s1) : blS L f b s = (0, 0, s1) := by
 rw [hex, drop_end h1, blockS]
end
theorem retE {b b' c c' : Int} (h2 : b = b') (h3 : c = c') : tupD [D.agg [D.t (T.v (Value.int .i64 b)), D.t (T.v (Value.int .i64 c))]] = D.agg [D.t (T.int b'), D.t (T.int c')] := by rw [h2, h3]; rfl

theorem blockP_fun (p : Prog) (inp : List Int) (most n : Nat) (L : Lev) (hL : LevOk p inp L) (hC : StmtC p inp most n L) (f : Func) (hf : f ∈ p.funcs) (hfl : f.stmts.length ≤ 1048576) (b : List Int) (hb : inF' f b) (hbl : b.length ≤ 1048576) (s : Sx) (hs : s.ok p inp f) (hn : s.m.fuel ≤ n) (hn2 : s.m.fuel ≤ 1048576) (hti : s.m.trace.length + s.m.fuel ≤ 1048576) (hof : s.off.length + s.m.fuel ≤ 1048576) (hdm : s.m.deep ≤ most) (bm bc bb : Nat) (pv iv fbv fsv : Value) (xv : List Value) (xt : List T) : Proc Tryz.prog 206 [.t (.v (.pointer (some ⟨bm, 0, none⟩))), .t (.v (.pointer (some ⟨bc, 0, none⟩))), .t (T.ints b)] ((pv :: iv :: fsv :: xv)) ((T.Funcs p.funcs :: T.ints inp :: T.Stmts f.stmts :: xt)) [.obox (.pointer (some ⟨bm, 0, none⟩)) (mS pv iv most s.m), .obox (.pointer (some ⟨bc, 0, none⟩)) (cS f fbv fsv s.vars s.off s.res s.m.deep bb), .obox (.pointer (some ⟨bb, 0, none⟩)) (bS s.by')] (.agg [.t (.int (blS L f b s).1), .t (.int (eV (blS L f b s).1 (blS L f b s).2.1))]) [.obox (.pointer (some ⟨bm, 0, none⟩)) (mS pv iv most (blS L f b s).2.2.m), .obox (.pointer (some ⟨bc, 0, none⟩)) (cS f fbv fsv (blS L f b s).2.2.vars (blS L f b s).2.2.off (blS L f b s).2.2.res s.m.deep bb), .obox (.pointer (some ⟨bb, 0, none⟩)) (bS (blS L f b s).2.2.by')] := by
 refine Proc.intro tys Tryz.func206 rfl rfl (N := 33) [100, 101, 102] 99 ([(0, .t (.v (.pointer (some ⟨bm, 0, none⟩)))), (1, .t (.v (.pointer (some ⟨bc, 0, none⟩)))), (2, .t (T.ints b))]) ([(100, .obox (.pointer (some ⟨bm, 0, none⟩)) (mS pv iv most s.m)), (101, .obox (.pointer (some ⟨bc, 0, none⟩)) (cS f fbv fsv s.vars s.off s.res s.m.deep bb)), (102, .obox (.pointer (some ⟨bb, 0, none⟩)) (bS s.by')), (99, .ro (pv :: iv :: fsv :: xv) (T.Funcs p.funcs :: T.ints inp :: T.Stmts f.stmts :: xt))]) rfl rfl rfl rfl (by decide) (by decide) rfl (fun w0 G F0 => ?_)
 refine nY rfl (W_le (Le.openNew (u := 101) 1101 rfl rfl rfl rfl rfl) (nY rfl (W_le (Le.named (t := 1) (u := 101) 1101 rfl rfl) (nY rfl (sQ (rG (WO_alloc tys rfl rfl (lt_of rfl) rfl rfl rfl (nZ rfl (oN (tN (sQ (sQ (rG (eZ rfl (evE ?_)))))))))))))))
 refine eZ rfl (oN (tN (W_block ?_)))
 refine lK (α := Int × Blk × Blk × Blk) [0, 1, 6, 10, 11] [6, 99, 1101] (fun x => [(12, .t (.int (x.1)))]) (fun x => [(100, (x.2.1)), (101, (x.2.2.1)), (102, (x.2.2.2))]) (fun x => BlInv p inp f L b s pv iv fbv fsv most s.m.deep bm bb (x.1) (x.2.1) (x.2.2.1) (x.2.2.2)) (fun x => Int.toNat (b.length - (x.1))) (0, .obox (.pointer (some ⟨bm, 0, none⟩)) (mS pv iv most s.m), .box (cS f fbv fsv s.vars s.off s.res s.m.deep bb), .obox (.pointer (some ⟨bb, 0, none⟩)) (bS s.by')) ?_ (fun x hx => ?_)
 ·exact ⟨s, by omega, by omega, Sx.to.refl hs (by omega) (by omega), rfl, rfl, rfl, rfl⟩
 obtain ⟨k, b1, b2, b3⟩ := x
 obtain ⟨s1, hk0, hk1, hto, hex, hb1, hb2, hb3⟩ := hx
 dsimp only at hk0 hk1 hto hex hb1 hb2 hb3 ⊢
 subst hb1 hb2 hb3
 refine nY rfl (sQ (rG (eZ rfl (oN (tN (sQ ?_))))))
 refine W_cond rfl (fun h1 => ?_) (fun h1 => ?_)
 ·
  simp only [HS] at h1
  refine W_skip (tN (sQ (W_block (sQ (rG ?_)))))
  have hkl : k < b.length := by omega
  have hbk := hb (b[k.toNat]'(by omega)) (List.getElem_mem _)
  have hmem : stmtAt f (b[k.toNat]'(by omega)) ∈ f.stmts := by rw [← stmtAt_at (by omega)]; exact List.getElem_mem _
  have hfu : s1.m.fuel ≤ s.m.fuel := hto.le.1
  have hft : s1.m.trace.length + s1.m.fuel ≤ s.m.trace.length + s.m.fuel := hto.le.2.1
  have hfo : s1.off.length + s1.m.fuel ≤ s.off.length + s.m.fuel := hto.offl
  have hdp : s1.m.deep = s.m.deep := hto.deep (by omega)
  obtain ⟨R, hR⟩ : ∃ R, R = L.stmt f (stmtAt f (b[k.toNat]'(by omega))) s1 := ⟨_, rfl⟩
  have hok1 := hL.stmt f hf _ hmem s1 hto.ok
  rw [← hR] at hok1
  have hh0 := hok1.h0
  have hCa := hC f (stmtAt f (b[k.toNat]'(by omega))) s1 bm bc bb pv iv fbv fsv xv xt hf hmem hto.ok (by omega) (by omega) (by omega) (by omega) (by omega)
  rw [hdp, ← hR, ← stmtAt_at (f := f) (n := b[k.toNat]'(by omega)) (by omega)] at hCa
  refine WO_idxT tys rfl rfl (lt_of rfl) rfl rfl rfl rfl rfl rfl rfl (by omega) _ (getT _ _ (by omega) (by omega)) (eK 2 rfl (oN (tN (sQ (rG (eK 3 rfl (WO_nil' rfl rfl (lt_of rfl) rfl rfl rfl (eZ rfl (kZ [0,1,6,8,10,11,12,13,14,15,16,17,18,19,20] rfl (eZ rfl (WO_untell tys 99 2 rfl rfl (lt_of rfl) rfl rfl rfl rfl (eZ rfl (WO_idxT tys rfl rfl (lt_of rfl) rfl rfl rfl rfl rfl rfl rfl (by omega) _ (getT _ _ (by omega) (by omega)) (eZ rfl ?_))))))))))))))
  try refine WO_le (Le.freeze (u := 25) rfl) ?_
  refine nZ rfl (WO_le (Le.close (u := 101) 1101 rfl rfl rfl) (nZ rfl ?_))
  refine WO_callP (rid := 99) [100, 101, 102] rfl rfl (lt_of rfl) rfl rfl (by repeat (first | exact ResP.done | refine ResP.pin0 1100 rfl ?_ | refine ResP.pin0 1101 rfl ?_ | refine ResP.pin0 1102 rfl ?_ | refine ResP.t ?_ | refine ResP.nil 1 ?_ | refine ResP.nil' ?_ | refine ResP.own ?_ | refine ResP.sl rfl rfl (by first | omega | (simp; omega)) ?_ | refine ResP.aggT (by repeat (first | exact ResP.done | refine ResP.t ?_)) ?_)) rfl (by repeat (first | exact trivial | refine ⟨rfl, rfl, ?_⟩)) (by decide) (hCa) rfl rfl rfl ?_
  refine nZ rfl (WO_le (Le.open (u := 101) 1101 rfl rfl rfl rfl) (nZ rfl (WO_alloc tys rfl rfl (lt_of rfl) rfl rfl rfl (nZ rfl (sT rfl (nZ rfl (oN (tN (sQ (kY [0,1,6,8,9,10,11,12,13,14,15,16,17,18,19,20,21,22,23,24,25,26] rfl (rG (eK 3 rfl (oN (tN ?_))))))))))))))
  refine W_cond rfl (fun h2 => ?_) (fun h2 => ?_)
  ·
   simp only [HS] at h2
   refine sQ (rG (eZ rfl ?_))
   try refine WO_le (Le.freeze (u := 30) rfl) ?_
   refine nZ rfl (sT rfl (nZ rfl (oN (tN (W_le (Le.close (u := 101) 1101 rfl rfl rfl) (nY rfl (rT (bR (tR (loopQ_r (bR (tR ?_))))))))))))
   refine EndsP_of (ks := [_, _, _]) (.inr rfl) (ret_okF rfl) (by decide) rfl (noR_spec rfl) (by repeat (first | exact trivial | refine ⟨rfl, rfl, ?_⟩)) ?_ ?_
   ·(have he := bl_stop hk0 hkl hex hR (by omega); exact retE (by rw [he]) (by rw [he]))
   ·(have he := bl_stop hk0 hkl hex hR (by omega); rw [he]; rfl)
  simp only [HS] at h2
  refine W_skip (bN (tN (rG (evI ?_))))
  refine eZ rfl (oN ?_)
  refine lQ (_, _, _, _) ?_ ?_
  ·dsimp only
   exact BlInv.next hk0 (by omega) hto hex hR hok1 (by omega) rfl rfl rfl rfl
  ·(show Int.toNat _ < Int.toNat _); omega
 simp only [HS] at h1
 refine W_exit (tE (loopQ_e (inBlk_y (tN (sQ (rG (WO_struct tys rfl rfl (lt_of rfl) rfl rfl rfl (by kernel_rfl) rfl rfl rfl rfl rfl rfl (sT rfl (nZ rfl (oN (tN (W_le (Le.close (u := 101) 1101 rfl rfl rfl) (nY rfl (rT ?_))))))))))))))
 refine EndsP_of (ks := [_, _, _]) (.inr rfl) (ret_okF rfl) (by decide) rfl (noR_spec rfl) (by repeat (first | exact trivial | refine ⟨rfl, rfl, ?_⟩)) ?_ ?_
 ·(have he := bl_end (by omega) hex; exact retE (by rw [he]) (by rw [he]; rfl))
 ·(have he := bl_end (by omega) hex; rw [he]; rfl)

end Go.Proofs.YtimpganophnehaaGreat
