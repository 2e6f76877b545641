/- The walk of how the program's machine does a block. -/
import Derived.Test.YtimpganophnehaaGreatIi
import Derived.Test.YtimpganophnehaaGreatId
import Derived.Test.YtimpganophnehaaGreatMe
set_option linter.unusedVariables false
set_option linter.unusedSimpArgs false
set_option maxRecDepth 10000
set_option maxHeartbeats 1000000
namespace Go.Proofs.YtimpganophnehaaGreat
open Go.Eng

def StmtI (p : Prog) (inp : List Int) (most n : Nat) (L : Lev) : Prop :=
 ∀ (fn : Int) (f : Func) (t : Stmt) (s : Sx) (bm bc bb : Nat) (q : Kp) (pv iv : Value) (xv : List Value) (xt : List T), 0 ≤ fn → fn < p.funcs.length → f = funcAt p fn → t ∈ f.stmts → s.ok p inp f → s.m.fuel ≤ n → s.m.fuel ≤ 1048576 → s.m.trace.length + s.m.fuel ≤ 1048576 → s.off.length + s.m.fuel ≤ 1048576 → s.m.deep ≤ most →
  Proc Tryz.prog 214 [.t (.v (.pointer (some ⟨bm, 0, none⟩))), .t (.v (.pointer (some ⟨bc, 0, none⟩))), .t t.tt] (pv :: iv :: xv) (T.Funcs p.funcs :: T.ints inp :: xt)
   [.obox (.pointer (some ⟨bm, 0, none⟩)) (rS pv iv most s.m.fuel 0 s.m), .obox (.pointer (some ⟨bc, 0, none⟩)) (gC fn s.vars s.off s.res 0 0 false (byP bb s.by')), byK bb q s.by']
   (.tup [.t (.int (haH (L.stmt f t s).1)), .t (.int (L.stmt f t s).2.1)])
   [.obox (.pointer (some ⟨bm, 0, none⟩)) (rS pv iv most (fuH (L.stmt f t s).1 (L.stmt f t s).2.2.m) (coH (L.stmt f t s).1) (L.stmt f t s).2.2.m), .obox (.pointer (some ⟨bc, 0, none⟩)) (gC fn (L.stmt f t s).2.2.vars (L.stmt f t s).2.2.off (L.stmt f t s).2.2.res 0 0 false (byP bb s.by')), .obox (byP bb s.by') (gC q.fn q.vars q.off q.res (hH (L.stmt f t s).2.2.by') (nH (L.stmt f t s).2.2.by') (xH (L.stmt f t s).2.2.by') q.bp)]

def BlI (p : Prog) (inp : List Int) (f : Func) (L : Lev) (b : List Int) (s : Sx) (pv iv bp bpv : Value) (q : Kp) (most fn : Int) (k : Int) (b1 b2 b3 : Blk) : Prop :=
 ∃ (s1 : Sx), 0 ≤ k ∧ k ≤ b.length ∧ Sx.to p inp f 0 s s1 ∧ blS L f b s = blockS (L.stmt f) f (b.drop k.toNat) s1 ∧
  b1 = .box (rS pv iv most s1.m.fuel 0 s1.m) ∧ b2 = .box (gC fn s1.vars s1.off s1.res 0 0 false bp) ∧ b3 = .obox bpv (gC q.fn q.vars q.off q.res (hH s1.by') (nH s1.by') (xH s1.by') q.bp)
section
variable {p : Prog} {inp : List Int} {f : Func} {L : Lev} {b : List Int} {s s1 : Sx} {pv iv bp bpv : Value} {most fn : Int} {q : Kp} {k : Int} {R : Int × Int × Sx}
theorem BlI.next (h0 : 0 ≤ k) (h1 : k < b.length) (hto : Sx.to p inp f 0 s s1) (hex : blS L f b s = blockS (L.stmt f) f (b.drop k.toNat) s1) (hR : R = L.stmt f (stmtAt f (b[k.toNat]'(by omega))) s1) (hok : Sx.to p inp f R.1 s1 R.2.2) (hz : R.1 = 0) {k' : Int} (hk : k' = k + 1) {b1 b2 b3 : Blk}
  (e3 : b1 = .box (rS pv iv most (fuH R.1 R.2.2.m) (coH R.1) R.2.2.m)) (e4 : b2 = .box (gC fn R.2.2.vars R.2.2.off R.2.2.res 0 0 false bp)) (e5 : b3 = .obox bpv (gC q.fn q.vars q.off q.res (hH R.2.2.by') (nH R.2.2.by') (xH R.2.2.by') q.bp)) :
  BlI p inp f L b s pv iv bp bpv q most fn k' b1 b2 b3 := by
 subst hk
 rw [hz] at hok
 rw [hz, fuH_1 (by omega), coH_1 (by omega)] at e3
 refine ⟨R.2.2, by omega, by omega, hto.trans hok (by omega), ?_, e3, e4, e5⟩
 rw [hex, drop_at h0 h1, blockS]
 rw [← hR, if_pos hz]
theorem haH_0 {h : Int} (e : haH h = 0) : h = 0 := by unfold haH at e; split at e <;> omega
theorem haH_n0 {h : Int} (e : ¬ haH h = 0) : ¬ h = 0 := by intro h; subst h; exact e rfl
end

theorem blockI_fun (p : Prog) (inp : List Int) (most n : Nat) (L : Lev) (hL : LevOk p inp L) (hC : StmtI p inp most n L) (fn : Int) (f : Func) (h0 : 0 ≤ fn) (h1' : fn < p.funcs.length) (hfd : f = funcAt p fn) (hfl : f.stmts.length ≤ 1048576) (b : List Int) (hb : inF' f b) (hbl : b.length ≤ 1048576) (s : Sx) (hs : s.ok p inp f) (hn : s.m.fuel ≤ n) (hn2 : s.m.fuel ≤ 1048576) (hti : s.m.trace.length + s.m.fuel ≤ 1048576) (hof : s.off.length + s.m.fuel ≤ 1048576) (hdm : s.m.deep ≤ most) (bm bc bb : Nat) (q : Kp) (pv iv : Value) (xv : List Value) (xt : List T) : Proc Tryz.prog 176 [.t (.v (.pointer (some ⟨bm, 0, none⟩))), .t (.v (.pointer (some ⟨bc, 0, none⟩))), .t (T.ints b)] ((pv :: iv :: xv)) ((T.Funcs p.funcs :: T.ints inp :: xt)) [.obox (.pointer (some ⟨bm, 0, none⟩)) (rS pv iv most s.m.fuel 0 s.m), .obox (.pointer (some ⟨bc, 0, none⟩)) (gC fn s.vars s.off s.res 0 0 false (byP bb s.by')), byK bb q s.by'] (.tup [.t (.int (haH (blS L f b s).1)), .t (.int (blS L f b s).2.1)]) [.obox (.pointer (some ⟨bm, 0, none⟩)) (rS pv iv most (fuH (blS L f b s).1 (blS L f b s).2.2.m) (coH (blS L f b s).1) (blS L f b s).2.2.m), .obox (.pointer (some ⟨bc, 0, none⟩)) (gC fn (blS L f b s).2.2.vars (blS L f b s).2.2.off (blS L f b s).2.2.res 0 0 false (byP bb s.by')), .obox (byP bb s.by') (gC q.fn q.vars q.off q.res (hH (blS L f b s).2.2.by') (nH (blS L f b s).2.2.by') (xH (blS L f b s).2.2.by') q.bp)] := by
 have hfa : p.funcs[fn.toNat]'(by omega) = f := by rw [hfd]; exact funcAt_at (by omega)
 have hfm : f ∈ p.funcs := hfd ▸ funcAt_memI h0 h1'
 have hget : (p.funcs.map Func.tt)[fn.toNat]? = some f.tt := by rw [getT _ _ h0 h1', hfa]
 refine Proc.intro tys Tryz.func176 rfl rfl (N := 44) [100, 101, 102] 99 ([(0, .t (.v (.pointer (some ⟨bm, 0, none⟩)))), (1, .t (.v (.pointer (some ⟨bc, 0, none⟩)))), (2, .t (T.ints b))]) ([(100, .obox (.pointer (some ⟨bm, 0, none⟩)) (rS pv iv most s.m.fuel 0 s.m)), (101, .obox (.pointer (some ⟨bc, 0, none⟩)) (gC fn s.vars s.off s.res 0 0 false (byP bb s.by'))), (102, byK bb q s.by'), (99, .ro (pv :: iv :: xv) (T.Funcs p.funcs :: T.ints inp :: xt))]) rfl rfl rfl rfl (by decide) (by decide) rfl (fun w0 G F0 => ?_)
 refine nY rfl (W_le (Le.openNew (u := 100) 1100 rfl rfl rfl rfl rfl) (nY rfl (W_le (Le.named (t := 0) (u := 100) 1100 rfl rfl) (nY rfl (W_le (Le.openNew (u := 101) 1101 rfl rfl rfl rfl rfl) (nY rfl (W_le (Le.named (t := 1) (u := 101) 1101 rfl rfl) (nY rfl (sQ (rG (eK 2 rfl (oN (tN (sQ (sQ ?_)))))))))))))))
 refine rG (eZ rfl (evE ?_))
 refine eZ rfl (oN (tN (W_block ?_)))
 refine lK (α := Int × Blk × Blk × Blk) [0, 1, 12, 13] [99, 1100, 1101] (fun x => [(14, .t (.int (x.1)))]) (fun x => [(100, (x.2.1)), (101, (x.2.2.1)), (102, (x.2.2.2))]) (fun x => BlI p inp f L b s pv iv (byP bb s.by') (byP bb s.by') q most fn (x.1) (x.2.1) (x.2.2.1) (x.2.2.2)) (fun x => Int.toNat (b.length - (x.1))) (0, .box (rS pv iv most s.m.fuel 0 s.m), .box (gC fn s.vars s.off s.res 0 0 false (byP bb s.by')), .obox (byP bb s.by') (gC q.fn q.vars q.off q.res (hH s.by') (nH s.by') (xH s.by') q.bp)) ?_ (fun x hx => ?_)
 ·exact ⟨s, by omega, by omega, Sx.to.refl hs (by omega) (by omega), rfl, rfl, rfl, rfl⟩
 obtain ⟨k, b1, b2, b3⟩ := x
 obtain ⟨s1, hk0, hk1, hto, hex, hb1, hb2, hb3⟩ := hx
 dsimp only at hk0 hk1 hto hex hb1 hb2 hb3 ⊢
 subst hb1 hb2 hb3
 refine nY rfl (sQ (rG (eZ rfl (oN (tN (sQ ?_))))))
 refine W_cond rfl (fun h1 => ?_) (fun h1 => ?_)
 ·
  simp only [HS] at h1
  refine W_skip (tN (sQ (W_block (sQ (rG ?_)))))
  have hkl : k < b.length := by omega
  have hbk := hb (b[k.toNat]'(by omega)) (List.getElem_mem _)
  have hmem : stmtAt f (b[k.toNat]'(by omega)) ∈ f.stmts := by rw [← stmtAt_at (by omega)]; exact List.getElem_mem _
  have hfu : s1.m.fuel ≤ s.m.fuel := hto.le.1
  have hft : s1.m.trace.length + s1.m.fuel ≤ s.m.trace.length + s.m.fuel := hto.le.2.1
  have hfo : s1.off.length + s1.m.fuel ≤ s.off.length + s.m.fuel := hto.offl
  have hdp : s1.m.deep = s.m.deep := hto.deep (by omega)
  obtain ⟨R, hR⟩ : ∃ R, R = L.stmt f (stmtAt f (b[k.toNat]'(by omega))) s1 := ⟨_, rfl⟩
  have hok1 := hL.stmt f hfm _ hmem s1 hto.ok
  rw [← hR] at hok1
  have hh0 := hok1.h0
  have hCa := hC fn f (stmtAt f (b[k.toNat]'(by omega))) s1 bm bc bb q pv iv xv xt h0 h1' hfd hmem hto.ok (by omega) (by omega) (by omega) (by omega) (by omega)
  unfold byK at hCa
  rw [← hR, ← stmtAt_at (f := f) (n := b[k.toNat]'(by omega)) (by omega), byP_eq (bb := bb) hto.by'] at hCa
  refine WO_idxT tys rfl rfl (lt_of rfl) rfl rfl rfl rfl rfl rfl rfl (by omega) _ (getT _ _ (by omega) (by omega)) (eK 2 rfl (oN (tN (sQ (W_regionH [[100, 101], [100, 101], [], [], [], [], [], [], [], [], [], [], [], [], [], [], [], [], [], [], [], [], []] mixed (by kernel_rfl) (QH_G (QG_ev tys rfl rfl (lt_of rfl) rfl (QG_nil (QH_G (QG_ev tys rfl rfl (lt_of rfl) rfl (QG_nil (QH_G0 (QG_ev tys rfl rfl (lt_of rfl) rfl (QG_nil (QH_G0 ?_)))))))))))))))
  refine QG_nil' rfl rfl (lt_of rfl) rfl rfl rfl (QG_nil (QH_norm rfl (QH_G0 (QG_ev tys rfl rfl (lt_of rfl) rfl (QG_nil (QH_G0 (QG_ev tys rfl rfl (lt_of rfl) rfl (QG_nil (QH_G0 (QG_untell tys 99 0 rfl rfl (lt_of rfl) rfl rfl rfl rfl (QG_nil (QH_G0 (QG_ev tys rfl rfl (lt_of rfl) rfl (QG_nil (QH_norm rfl ?_)))))))))))))))
  refine QH_G0 (QG_nil' rfl rfl (lt_of rfl) rfl rfl rfl (QG_nil (QH_G0 (QG_ev tys rfl rfl (lt_of rfl) rfl (QG_nil (QH_G0 (QG_ev tys rfl rfl (lt_of rfl) rfl (QG_nil (QH_G (QG_idxT tys rfl rfl (lt_of rfl) rfl rfl rfl rfl rfl rfl rfl h0 _ hget (QG_nil (QH_norm rfl (QH_G0 (QG_ev tys rfl rfl (lt_of rfl) rfl (QG_nil ?_)))))))))))))))
  refine QH_G0 (QG_ev tys rfl rfl (lt_of rfl) rfl (QG_nil (QH_G0 (QG_ev tys rfl rfl (lt_of rfl) rfl (QG_nil (QH_G (QG_idxT tys rfl rfl (lt_of rfl) rfl rfl rfl rfl rfl rfl rfl (by omega) _ (getT _ _ (by omega) (by omega)) (QG_nil (QH_norm rfl (QH_ev2 tys (u1 := 100) (u2 := 101) 1100 1101 rfl rfl (lt_of rfl) rfl rfl rfl rfl rfl rfl rfl rfl rfl (QH_norm rfl ?_)))))))))))
  refine QH_callP (rid := 99) [100, 101, 102] rfl rfl (lt_of rfl) rfl rfl (by repeat (first | exact ResP.done | refine ResP.pin0 1100 rfl ?_ | refine ResP.pin0 1101 rfl ?_ | refine ResP.pin0 1102 rfl ?_ | refine ResP.t ?_ | refine ResP.nil 1 ?_ | refine ResP.nil' ?_ | refine ResP.own ?_ | refine ResP.sl rfl rfl (by first | omega | (simp; omega)) ?_ | refine ResP.aggT (by repeat (first | exact ResP.done | refine ResP.t ?_)) ?_)) rfl (by repeat (first | exact trivial | refine ⟨rfl, rfl, ?_⟩)) (by decide) (hCa) rfl rfl rfl ?_
  refine QH_G0 (QG_ev tys rfl rfl (lt_of rfl) rfl (QG_nil (QH_G0 (QG_ev tys rfl rfl (lt_of rfl) rfl (QG_nil (QH_norm rfl (QH_G0 (QG_ev tys rfl rfl (lt_of rfl) rfl (QG_nil (QH_G0 (QG_ev tys rfl rfl (lt_of rfl) rfl (QG_nil (QH_G0 (QG_ev tys rfl rfl (lt_of rfl) rfl (QG_nil ?_)))))))))))))))
  refine QH_nil ?_
  refine ⟨by kernel_rfl, ?_⟩
  refine nZ rfl (WO_le (Le.open (u := 100) 1100 rfl rfl rfl rfl) (nZ rfl (WO_le (Le.open (u := 101) 1101 rfl rfl rfl rfl) (nZ rfl (oN (tN (sQ (rG (eK 2 rfl (oN (tN ?_)))))))))))
  refine W_cond rfl (fun h2 => ?_) (fun h2 => ?_)
  ·
   simp only [HS] at h2
   refine sQ (rG (eK 4 rfl (oN (tN (W_le (Le.close (u := 100) 1100 rfl rfl rfl) (nY rfl (W_le (Le.close (u := 101) 1101 rfl rfl rfl) (nY rfl (rT (bR (tR (loopQ_r (bR (tR ?_))))))))))))))
   refine EndsP_of (ks := [_, _, _]) (.inr rfl) (ret_okF rfl) (by decide) rfl (noR_spec rfl) (by repeat (first | exact trivial | refine ⟨rfl, rfl, ?_⟩)) ?_ ?_
   ·(have he := bl_stop hk0 hkl hex hR (haH_n0 (by assumption)); exact retT (by rw [he]) (by rw [he]))
   ·(have he := bl_stop hk0 hkl hex hR (haH_n0 (by assumption)); rw [he]; rfl)
  simp only [HS] at h2
  refine W_skip (bN (tN (rG (evI ?_))))
  refine eZ rfl (oN ?_)
  refine lQ (_, _, _, _) ?_ ?_
  ·dsimp only
   exact BlI.next hk0 (by omega) hto hex hR hok1 (haH_0 (by assumption)) rfl rfl rfl rfl
  ·(show Int.toNat _ < Int.toNat _); omega
 simp only [HS] at h1
 refine W_exit (tE (loopQ_e (inBlk_y (tN (sQ (rG (eK 2 rfl (oN (tN (W_le (Le.close (u := 100) 1100 rfl rfl rfl) (nY rfl (W_le (Le.close (u := 101) 1101 rfl rfl rfl) (nY rfl (rT ?_))))))))))))))
 refine EndsP_of (ks := [_, _, _]) (.inr rfl) (ret_okF rfl) (by decide) rfl (noR_spec rfl) (by repeat (first | exact trivial | refine ⟨rfl, rfl, ?_⟩)) ?_ ?_
 ·(have he := bl_end (by omega) hex; exact retT (by rw [he]; rfl) (by rw [he]))
 ·(have he := bl_end (by omega) hex; rw [he]; rfl)

end Go.Proofs.YtimpganophnehaaGreat
