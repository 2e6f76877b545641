/- The walk of how the reference's machine does a call. -/
import Derived.Test.YtimpganophnehaaGreatIe
import Derived.Test.YtimpganophnehaaGreatMe
set_option linter.unusedVariables false
set_option linter.unusedSimpArgs false
set_option maxRecDepth 10000
set_option maxHeartbeats 1000000
namespace Go.Proofs.YtimpganophnehaaGreat
open Go.Eng

def caS (p : Prog) (L : Lev) (most : Nat) (fn : Int) (args : List Int) (b : Option By) (m : Ms) : Int × Int × Option By × Ms := callS L p most fn args b m
def oCal (L : Lev) (k : Int) (b : Option By) (m : Ms) : Int × Int × Option By × Ms := L.call k [] b m
section
variable {p : Prog} {inp : List Int} {f : Func} {L : Lev} {most : Nat} {fn : Int} {args : List Int} {b : Option By} {m : Ms} {R : Int × Int × Sx} {Q : Int × By × Ms}
theorem ca_0 (h : m.fuel = 0) : caS p L most fn args b m = (5, 0, b, burnM m) := by rw [caS, callS, if_pos h, burn_0 h]
theorem ca_d (hf : m.fuel ≠ 0) (h : m.deep = most) : caS p L most fn args b m = (4, 0, b, burnM m) := by rw [caS, callS, if_neg hf, if_pos h]
theorem ca_e (hf : m.fuel ≠ 0) (h : m.deep ≠ most) (hfd : f = funcAt p fn) (hR : R = blS L f f.body (startS f args b m)) (h4 : 4 ≤ R.1) : caS p L most fn args b m = (R.1, 0, R.2.2.by', R.2.2.m) := by
 subst hfd
 rw [caS, callS, if_neg hf, if_neg h]
 have e : blockS (L.stmt (funcAt p fn)) (funcAt p fn) (funcAt p fn).body (startS (funcAt p fn) args b m) = R := hR.symm
 simp only [e, if_pos h4]
theorem ca_o (hf : m.fuel ≠ 0) (h : m.deep ≠ most) (hfd : f = funcAt p fn) (hR : R = blS L f f.body (startS f args b m)) (h4 : ¬ 4 ≤ R.1) (hQ : offR (oCal L) R.2.2.off.reverse (endS R.1 R.2.1) R.2.2.m = Q) (h5 : 4 ≤ Q.1) : caS p L most fn args b m = (Q.1, 0, R.2.2.by', Q.2.2) := by
 subst hfd
 rw [caS, callS, if_neg hf, if_neg h]
 have e : blockS (L.stmt (funcAt p fn)) (funcAt p fn) (funcAt p fn).body (startS (funcAt p fn) args b m) = R := hR.symm
 have e2 : offR (fun k b m => L.call k [] b m) R.2.2.off.reverse (endS R.1 R.2.1) R.2.2.m = Q := hQ
 simp only [e, if_neg h4, e2, if_pos h5]
theorem ca_f (hf : m.fuel ≠ 0) (h : m.deep ≠ most) (hfd : f = funcAt p fn) (hR : R = blS L f f.body (startS f args b m)) (h4 : ¬ 4 ≤ R.1) (hQ : offR (oCal L) R.2.2.off.reverse (endS R.1 R.2.1) R.2.2.m = Q) (h5 : ¬ 4 ≤ Q.1) : caS p L most fn args b m = (Q.2.1.how, if Q.2.1.how = 2 then Q.2.1.pan else R.2.2.res, R.2.2.by', ⟨Q.2.2.used, Q.2.2.fuel, Q.2.2.deep - 1, Q.2.2.trace⟩) := by
 subst hfd
 rw [caS, callS, if_neg hf, if_neg h]
 have e : blockS (L.stmt (funcAt p fn)) (funcAt p fn) (funcAt p fn).body (startS (funcAt p fn) args b m) = R := hR.symm
 have e2 : offR (fun k b m => L.call k [] b m) R.2.2.off.reverse (endS R.1 R.2.1) R.2.2.m = Q := hQ
 simp only [e, if_neg h4, e2, if_neg h5]
end

def OfInv (inp : List Int) (L : Lev) (off : List Int) (b0 : By) (m0 : Ms) (pv iv : Value) (most : Int) (k : Int) (B1 B2 : Blk) : Prop :=
 ∃ (b1 : By) (m1 : Ms), -1 ≤ k ∧ k < off.length ∧ offR (oCal L) off.reverse b0 m0 = offR (oCal L) (off.take (k + 1).toNat).reverse b1 m1 ∧ 1 ≤ b1.how ∧ b1.how < 4 ∧ m0.le inp m1 ∧ m1.deep = m0.deep ∧ B1 = .box (mS pv iv most m1) ∧ B2 = .box (bS (some b1))
section
variable {p : Prog} {inp : List Int} {L : Lev} {off : List Int} {b0 b1 : By} {m0 m1 : Ms} {pv iv : Value} {most : Int} {k : Int} {R : Int × Int × Option By × Ms} {c : By}
theorem take_rev (h0 : 0 ≤ k) (h1 : k < off.length) : (off.take (k + 1).toNat).reverse = off[k.toNat]'(by omega) :: (off.take (k - 1 + 1).toNat).reverse := by
 rw [show (k + 1).toNat = k.toNat + 1 from by omega, show (k - 1 + 1).toNat = k.toNat from by omega, List.take_succ_eq_append_getElem (by omega), List.reverse_append]
 rfl
theorem of_stop (h0 : 0 ≤ k) (h1 : k < off.length) (hex : offR (oCal L) off.reverse b0 m0 = offR (oCal L) (off.take (k + 1).toNat).reverse b1 m1) (hR : R = L.call (off[k.toNat]'(by omega)) [] (some b1) m1) (hc : R.2.2.1 = some c) (h4 : 4 ≤ R.1) :
  offR (oCal L) off.reverse b0 m0 = (R.1, c, R.2.2.2) := by
 have e : oCal L (off[k.toNat]'(by omega)) (some b1) m1 = R := hR.symm
 rw [hex, take_rev h0 h1, offR]
 simp only [e, if_pos h4, hc, Option.getD_some]
theorem of_next (h0 : 0 ≤ k) (h1 : k < off.length) (hex : offR (oCal L) off.reverse b0 m0 = offR (oCal L) (off.take (k + 1).toNat).reverse b1 m1) (hb1 : 1 ≤ b1.how) (hb2 : b1.how < 4) (hle : m0.le inp m1) (hd : m1.deep = m0.deep) (hR : R = L.call (off[k.toNat]'(by omega)) [] (some b1) m1)
  (hto : Ms.to inp R.1 (some b1) R.2.2.1 m1 R.2.2.2) (hc : R.2.2.1 = some c) (h4 : ¬ 4 ≤ R.1) {b2 : By} (hb : b2 = if R.1 = 1 then c else ⟨R.1, if R.1 = 2 then R.2.1 else c.pan, c.exd || decide (R.1 = 3)⟩) {B1 B2 : Blk} (e1 : B1 = .box (mS pv iv most R.2.2.2)) (e2 : B2 = .box (bS (some b2))) :
  OfInv inp L off b0 m0 pv iv most (k - 1) B1 B2 := by
 have e : oCal L (off[k.toNat]'(by omega)) (some b1) m1 = R := hR.symm
 have hcb := hto.byk (fun x hx => by cases hx; exact ⟨hb1, hb2⟩) c hc
 have hh1 := hto.h1
 refine ⟨b2, R.2.2.2, by omega, by omega, ?_, ?_, ?_, hle.trans hto.le, (hto.deep (by omega)).trans hd, e1, e2⟩
 ·rw [hex, take_rev h0 h1, offR]
  simp only [e, if_neg h4, hc, Option.getD_some]
  subst hb
  split <;> rfl
 ·subst hb
  split
  ·exact hcb.1
  ·exact hh1
 ·subst hb
  split
  ·exact hcb.2
  ·show R.1 < 4; omega
theorem of_end (h0 : ¬ 0 ≤ k) (hex : offR (oCal L) off.reverse b0 m0 = offR (oCal L) (off.take (k + 1).toNat).reverse b1 m1) : offR (oCal L) off.reverse b0 m0 = (0, b1, m1) := by
 rw [hex, show (k + 1).toNat = 0 from by omega]
 rfl
end
theorem retC {a a' b b' c c' : Int} (h1 : a = a') (h2 : b = b') (h3 : c = c') : tupD [D.t (T.v (Value.int .i64 a)), D.agg [D.t (T.v (Value.int .i64 b)), D.t (T.v (Value.int .i64 c))]] = D.tup [D.t (T.int a'), D.agg [D.t (T.int b'), D.t (T.int c')]] := by rw [h1, h2, h3]; rfl

theorem callP_fun (p : Prog) (inp : List Int) (most n : Nat) (L : Lev) (hL : LevOk p inp L) (hC : ∀ k, n = k + 1 → CallS p inp most k L) (hS : ∀ k, n = k + 1 → StmtC p inp most k L) (hg : goodP p = true) (hp : p.ok 1048576) (hi : inp.length ≤ 1048576) (hmost : most ≤ 1048576) (fn : Int) (args : List Int) (b : Option By) (m : Ms) (bm bb : Nat) (pv iv : Value) (xv : List Value) (xt : List T) (h0 : 0 ≤ fn) (h1' : fn < p.funcs.length) (hal : args.length = (atI (paramsL p) fn).toNat) (hu : m.used ≤ inp.length) (hdm : m.deep ≤ most) (hn : m.fuel ≤ n) (hn2 : m.fuel ≤ 1048576) (hti : m.trace.length + m.fuel ≤ 1048576) : Proc Tryz.prog 167 [.t (.v (.pointer (some ⟨bm, 0, none⟩))), .t (.int fn), .t (T.ints args), .t (.int ((m.deep : Int) + 1)), .t (.v (.pointer (some ⟨bb, 0, none⟩)))] ((pv :: iv :: xv)) ((T.Funcs p.funcs :: T.ints inp :: xt)) [.obox (.pointer (some ⟨bb, 0, none⟩)) (bS b), .obox (.pointer (some ⟨bm, 0, none⟩)) (mS pv iv most m)] (.tup [.t (.int (xV (caS p L most fn args b m).1 (caS p L most fn args b m).2.1)), .agg [.t (.int (caS p L most fn args b m).1), .t (.int (eV (caS p L most fn args b m).1 (caS p L most fn args b m).2.1))]]) [.obox (.pointer (some ⟨bb, 0, none⟩)) (bS (caS p L most fn args b m).2.2.1), .obox (.pointer (some ⟨bm, 0, none⟩)) (mS pv iv most (caS p L most fn args b m).2.2.2)] := by
 obtain ⟨f, hfd⟩ : ∃ f, f = funcAt p fn := ⟨_, rfl⟩
 have hfm : f ∈ p.funcs := hfd ▸ funcAt_memI h0 h1'
 obtain ⟨g1, g2, g3, g4, hsh, g6⟩ := good_vars hg hfm
 have hpa : atI (paramsL p) fn = f.params := hfd ▸ funcAt_params h0 h1'
 have hfa : p.funcs[fn.toNat]'(by omega) = f := by rw [hfd]; exact funcAt_at (by omega)
 have hal2 : args.length ≤ f.vars.toNat := by omega
 have hfo : f.ok 1048576 := hp.1.2 f hfm
 refine Proc.intro tys Tryz.func167 rfl rfl (N := 138) [100, 101] 99 ([(0, .t (.v (.pointer (some ⟨bm, 0, none⟩)))), (1, .t (.int fn)), (2, .t (T.ints args)), (3, .t (.int ((m.deep : Int) + 1))), (4, .t (.v (.pointer (some ⟨bb, 0, none⟩))))]) ([(100, .obox (.pointer (some ⟨bb, 0, none⟩)) (bS b)), (101, .obox (.pointer (some ⟨bm, 0, none⟩)) (mS pv iv most m)), (99, .ro (pv :: iv :: xv) (T.Funcs p.funcs :: T.ints inp :: xt))]) rfl rfl rfl rfl (by decide) (by decide) rfl (fun w0 G F0 => ?_)
 refine nY rfl (W_le (Le.openNew (u := 101) 1101 rfl rfl rfl rfl rfl) (nY rfl (W_le (Le.named (t := 0) (u := 101) 1101 rfl rfl) (nY rfl (sQ (rG (eZ rfl (WO_alloc tys rfl rfl (lt_of rfl) rfl rfl rfl (nZ rfl (oN (tN (sQ (sQ (rG (eZ rfl ?_)))))))))))))))
 refine WO_le (Le.close (u := 101) 1101 rfl rfl rfl) (nZ rfl ?_)
 refine WO_callP (rid := 99) [101] rfl rfl (lt_of rfl) rfl rfl (by repeat (first | exact ResP.done | refine ResP.pin0 1101 rfl ?_ | refine ResP.t ?_ | refine ResP.nil 1 ?_ | refine ResP.nil' ?_ | refine ResP.own ?_ | refine ResP.sl rfl rfl (by first | omega | (simp; omega)) ?_ | refine ResP.aggT (by repeat (first | exact ResP.done | refine ResP.t ?_)) ?_)) rfl (by repeat (first | exact trivial | refine ⟨rfl, rfl, ?_⟩)) (by decide) (costS_fun bm pv iv most m (pv :: iv :: xv) (T.Funcs p.funcs :: T.ints inp :: xt) hn2) rfl rfl rfl ?_
 refine nZ rfl (WO_le (Le.open (u := 101) 1101 rfl rfl rfl rfl) (nZ rfl (eZ rfl (oN (tN ?_)))))
 refine W_cond rfl (fun h1 => ?_) (fun h1 => ?_)
 ·
  simp only [HS] at h1
  refine sQ (rG ?_)
  have hout := ca_0 (p := p) (L := L) (most := most) (fn := fn) (args := args) (b := b) (m := m) (by simp_all)
  refine WO_struct tys rfl rfl (lt_of rfl) rfl rfl rfl (by kernel_rfl) rfl rfl rfl rfl rfl rfl (eZ rfl (sT rfl (nZ rfl (oN (tN (W_le (Le.close (u := 101) 1101 rfl rfl rfl) (nY rfl (rT (tR ?_)))))))))
  refine EndsP_of (ks := [_, _]) (.inr rfl) (ret_okF rfl) (by decide) rfl (noR_spec rfl) (by repeat (first | exact trivial | refine ⟨rfl, rfl, ?_⟩)) ?_ ?_
  ·exact retC (by rw [hout] <;> first | rfl | grind [xV, byH]) (by rw [hout] <;> first | rfl | grind) (by rw [hout] <;> first | rfl | grind [eV, byV, byH])
  ·rw [hout]
   rfl
 simp only [HS] at h1
 refine W_skip (tN (sQ (sQ (rG ?_))))
 have hfz : m.fuel ≠ 0 := by simp_all
 refine eK 2 rfl (WO_nil' rfl rfl (lt_of rfl) rfl rfl rfl (eZ rfl (kZ [0,1,2,3,4,10,11,23,26] rfl (eK 2 rfl (oN (tN ?_))))))
 refine W_cond rfl (fun h2 => ?_) (fun h2 => ?_)
 ·
  simp only [HS] at h2
  refine sQ (rG ?_)
  have hout := ca_d (p := p) (L := L) (most := most) (fn := fn) (args := args) (b := b) (m := m) hfz (by omega)
  refine WO_struct tys rfl rfl (lt_of rfl) rfl rfl rfl (by kernel_rfl) rfl rfl rfl rfl rfl rfl (eZ rfl (sT rfl (nZ rfl (oN (tN (W_le (Le.close (u := 101) 1101 rfl rfl rfl) (nY rfl (rT (tR ?_)))))))))
  refine EndsP_of (ks := [_, _]) (.inr rfl) (ret_okF rfl) (by decide) rfl (noR_spec rfl) (by repeat (first | exact trivial | refine ⟨rfl, rfl, ?_⟩)) ?_ ?_
  ·exact retC (by rw [hout] <;> first | rfl | grind [xV, byH]) (by rw [hout] <;> first | rfl | grind) (by rw [hout] <;> first | rfl | grind [eV, byV, byH])
  ·rw [hout]
   rfl
 simp only [HS] at h2
 refine W_skip (tN (sQ (rG ?_)))
 have hdz : m.deep ≠ most := by omega
 obtain ⟨k, hk⟩ : ∃ k, n = k + 1 := ⟨n - 1, by omega⟩
 refine eZ rfl (WO_nil' rfl rfl (lt_of rfl) rfl rfl rfl (eK 2 rfl (WO_untell tys 99 0 rfl rfl (lt_of rfl) rfl rfl rfl rfl (eZ rfl (WO_idxT tys rfl rfl (lt_of rfl) rfl rfl rfl rfl rfl rfl rfl (by omega) _ (getT _ _ (by omega) (by omega)) (kZ [0,2,3,4,10,11,36] rfl (eZ rfl ?_)))))))
 rw [hfa]
 refine nZ rfl (WO_alloc tys rfl rfl (lt_of rfl) rfl rfl rfl (nZ rfl (sT rfl (nZ rfl (oN (tN (sQ ?_)))))))
 refine W_tellBox (u := 12) (j := 2) 98 rfl rfl rfl (fun fbv => ?_)
 refine nY rfl ?_
 refine W_tellBox (u := 12) (j := 3) 97 rfl rfl rfl (fun fsv => ?_)
 refine nY rfl (W_le (Le.roIn 99 97 rfl rfl) (nY rfl (W_regionH [[], [], [], [], [], [], [], [], []] mixed (by kernel_rfl) (QH_G0 (QG_evZ tys rfl rfl (lt_of rfl) rfl rfl (QG_nil (QH_G0 (QG_ev tys rfl rfl (lt_of rfl) rfl (QG_nil (QH_G0 (QG_ev tys rfl rfl (lt_of rfl) rfl (QG_nil (QH_G ?_)))))))))))))
 refine QG_makeI tys (T.int 0) rfl rfl (lt_of rfl) rfl rfl rfl rfl rfl (by repeat (first | exact AbsL.nil' | refine AbsL.v' ?_ | refine AbsL.none' ?_)) rfl (by omega) (by omega) (by decide) ?_
 refine QG_nil (QH_norm rfl (QH_G0 (QG_ev tys rfl rfl (lt_of rfl) rfl (QG_nil (QH_G0 (QG_ev tys rfl rfl (lt_of rfl) rfl (QG_nil (QH_G0 (QG_structW (pl := [(0, 4), (4, 1), (5, 1), (6, 1), (7, 1), (8, 1)]) tys rfl rfl (lt_of rfl) rfl rfl rfl (by kernel_rfl) rfl rfl rfl rfl rfl (QG_nil (QH_boxM rfl rfl (lt_of rfl) rfl rfl rfl rfl rfl (QH_norm rfl (QH_G0 (QG_ev tys rfl rfl (lt_of rfl) rfl (QG_nil ?_)))))))))))))))
 refine QH_nil ?_
 refine ⟨by kernel_rfl, ?_⟩
 refine nZ rfl ?_
 refine WO_pin (u := 45) (pid := 1045) rfl rfl (fun bc => ?_)
 refine nZ rfl (oN (tN (sQ (W_le (Le.nilBox (u := 45) (j := 5) 1 rfl rfl) (nY rfl (W_le (Le.adoptBox (u := 45) (j := 4) (id := 191) rfl rfl rfl) (nY rfl (W_le (Le.eqK (id := 191) rfl (k' := .L 1 ((List.replicate f.vars.toNat (0 : Int)).map T.int)) (by rw [List.map_replicate])) ?_))))))))
 refine nY rfl (rG (eZ rfl (WO_nil' rfl rfl (lt_of rfl) rfl rfl rfl (eK 3 rfl (WO_copyI (e := 3) rfl rfl (lt_of rfl) rfl (by kernel_rfl) (by kernel_rfl) rfl rfl (by simp) rfl (by simp; omega) ?_)))))
 refine nZ rfl (WO_le (Le.gatherBox (u := 45) (j := 4) (id := 191) rfl rfl rfl (by simp; omega) rfl) ?_)
 refine nZ rfl (WO_le (Le.eqK (id := 45) rfl (k' := .box (cS f fbv fsv (setL f.vars.toNat args) [] 0 ((m.deep : Int) + 1) bb)) (by rw [List.take_of_length_le (by simp; omega)]; rfl)) ?_)
 refine nZ rfl (oN (tN (sQ ?_)))
 have hso := startS_ok (p := p) (inp := inp) (f := f) (args := args) (b := b) (m := m) hal2 hu
 have hsf : (startS f args b m).m.fuel = m.fuel - 1 := rfl
 have hst : (startS f args b m).m.trace.length = m.trace.length := rfl
 have hsl : (startS f args b m).off.length = 0 := rfl
 have hsd : (startS f args b m).m.deep = m.deep + 1 := rfl
 have hB := blockP_fun p inp most k L hL (hS k hk) f hfm hfo.2.1.1 f.body (body_inF hsh) hfo.1 (startS f args b m) hso (by omega) (by omega) (by omega) (by omega) (by omega) bm bc bb pv iv fbv fsv xv xt
 have hbo := blockS_ok (hL.stmt _ hfm) (body_inF hsh) hso
 change Sx.to p inp f (blS L f f.body (startS f args b m)).1 _ (blS L f f.body (startS f args b m)).2.2 at hbo
 obtain ⟨R, hR⟩ : ∃ R, R = blS L f f.body (startS f args b m) := ⟨_, rfl⟩
 rw [← hR] at hB hbo
 rw [hsd, Int.natCast_add, Int.natCast_one] at hB
 have hR0 := hbo.h0
 have hR5 := hbo.h5
 have hf2 : R.2.2.m.fuel ≤ m.fuel - 1 := hbo.le.1
 have ht2 : R.2.2.m.trace.length + R.2.2.m.fuel ≤ m.trace.length + (m.fuel - 1) := hbo.le.2.1
 have ho2 : R.2.2.off.length + R.2.2.m.fuel ≤ 0 + (m.fuel - 1) := hbo.offl
 refine rG (eK 3 rfl (kZ [0,3,10,11,13,52,53,54] rfl (WO_untell tys 98 0 rfl rfl (lt_of rfl) rfl rfl rfl rfl (WO_le (Le.close (u := 101) 1101 rfl rfl rfl) (nZ rfl (WO_le (Le.close (u := 45) 1045 rfl rfl rfl) (nZ rfl ?_)))))))
 refine WO_callP (rid := 99) [101, 45, 100] rfl rfl (lt_of rfl) rfl rfl (by repeat (first | exact ResP.done | refine ResP.pin0 1101 rfl ?_ | refine ResP.pin0 1045 rfl ?_ | refine ResP.pin0 1100 rfl ?_ | refine ResP.t ?_ | refine ResP.nil 1 ?_ | refine ResP.nil' ?_ | refine ResP.own ?_ | refine ResP.sl rfl rfl (by first | omega | (simp; omega)) ?_ | refine ResP.aggT (by repeat (first | exact ResP.done | refine ResP.t ?_)) ?_)) rfl (by repeat (first | exact trivial | refine ⟨rfl, rfl, ?_⟩)) (by decide) (hB) rfl rfl rfl ?_
 refine nZ rfl (WO_le (Le.open (u := 101) 1101 rfl rfl rfl rfl) (nZ rfl (WO_le (Le.open (u := 45) 1045 rfl rfl rfl rfl) (nZ rfl (WO_alloc tys rfl rfl (lt_of rfl) rfl rfl rfl (nZ rfl (sT rfl (nZ rfl (oN (tN (sQ (sQ (rG (eK 3 rfl (oN ?_)))))))))))))))
 refine tN ?_
 refine W_joinN (α := Blk) [0, 3, 10, 11, 13, 14] [11, 45, 99, 100, 101, 1101, 1045] (fun x => []) (fun x => [(14, x)]) (fun x => x = .box [.t (.int (endS R.1 R.2.1).how), .t (.int (eV R.1 R.2.1))]) ?_ (fun b14 hx => ?_)
 ·
  refine W_cond rfl (fun h3 => ?_) (fun h3 => ?_)
  ·
   simp only [HS] at h3
   refine kY [0,3,10,11,13,14] rfl (rG (eZ rfl (sT rfl (nZ rfl (oN ?_)))))
   refine joinQ_n _ (by (try dsimp only); repeat (first | exact Sub.nil' | refine Sub.cons' rfl ?_)) (by (try dsimp only); repeat (first | exact SubM.nil' | refine SubM.cons' rfl ?_)) ?_
   (rw [show (endS R.1 R.2.1).how = 1 from by simp only [endS]; split <;> omega] <;> rfl)
  simp only [HS] at h3
  refine W_skip ?_
  refine joinQ_n _ (by (try dsimp only); repeat (first | exact Sub.nil' | refine Sub.cons' rfl ?_)) (by (try dsimp only); repeat (first | exact SubM.nil' | refine SubM.cons' rfl ?_)) ?_
  (rw [show (endS R.1 R.2.1).how = R.1 from by simp only [endS]; split <;> omega] <;> rfl)
 have hb14 := hx
 refine tN (sQ (sQ ?_))
 subst hb14
 have hew : (endS R.1 R.2.1).how = if R.1 = 0 then 1 else R.1 := rfl
 refine kY [0,3,10,11,13,14] rfl (rG (eK 3 rfl (oN (tN ?_))))
 refine W_cond rfl (fun h3 => ?_) (fun h3 => ?_)
 ·
  simp only [HS] at h3
  refine sQ ?_
  have hr4 : 4 ≤ R.1 := by split at hew <;> omega
  have hew2 : (endS R.1 R.2.1).how = R.1 := by rw [hew, if_neg (by omega)]
  have hout := ca_e hfz hdz hfd hR hr4
  refine W_regionH [[], [], []] mixed (by kernel_rfl) (QH_G0 (QG_evZ tys rfl rfl (lt_of rfl) rfl rfl (QG_nil (QH_G0 (QG_ev tys rfl rfl (lt_of rfl) rfl (QG_nil (QH_store tys 10002 rfl rfl rfl rfl rfl rfl rfl rfl rfl (Nat.le_of_ble_eq_true rfl) (QH_nil ?_))))))))
  refine ⟨by kernel_rfl, ?_⟩
  refine nZ rfl (oN (tN (W_le (Le.close (u := 101) 1101 rfl rfl rfl) (nY rfl (rT (tR ?_))))))
  refine EndsP_of (ks := [_, _]) (.inr rfl) (ret_okF rfl) (by decide) rfl (noR_spec rfl) (by repeat (first | exact trivial | refine ⟨rfl, rfl, ?_⟩)) ?_ ?_
  ·exact retC (by rw [hout] <;> first | rfl | grind [xV, byH]) (by rw [hout] <;> first | rfl | grind) (by rw [hout] <;> first | rfl | grind [eV, byV, byH])
  ·rw [hout]
   rfl
 simp only [HS] at h3
 refine W_skip (tN (sQ ?_))
 have hr4 : ¬ 4 ≤ R.1 := by split at hew <;> omega
 have hd2 : R.2.2.m.deep = m.deep + 1 := hbo.deep (by omega)
 have hes := endS_ok (v := R.2.1) hR0 (by omega)
 refine rG (eZ rfl ?_)
 try refine WO_le (Le.freeze (u := 65) rfl) ?_
 refine nZ rfl (WO_structW (pl := [(0, 2), (2, 1)]) tys rfl rfl (lt_of rfl) rfl rfl rfl (by kernel_rfl) rfl rfl rfl rfl rfl (WO_box rfl rfl (lt_of rfl) rfl rfl (nZ rfl (eZ rfl (oN (tN (sQ (sQ ?_))))))))
 refine W_pin (u := 67) (pid := 1067) rfl rfl (fun bx => ?_)
 refine nY rfl (kY [0,3,10,11,13,14,15] rfl (rG (eK 3 rfl (oN (tN ?_)))))
 refine W_joinN (α := Blk) [0, 3, 10, 11, 13, 15] [11, 45, 99, 100, 101, 1101, 1045, 1067] (fun x => []) (fun x => [(67, x)]) (fun x => x = .box (bS (some (endS R.1 R.2.1)))) ?_ (fun b67 hx => ?_)
 ·
  refine W_cond rfl (fun h4 => ?_) (fun h4 => ?_)
  ·
   simp only [HS] at h4
   refine rG (eZ rfl (WO_nil' rfl rfl (lt_of rfl) rfl rfl rfl (eZ rfl (sT rfl (nZ rfl (oN ?_))))))
   refine joinQ_n _ (by (try dsimp only); repeat (first | exact Sub.nil' | refine Sub.cons' rfl ?_)) (by (try dsimp only); repeat (first | exact SubM.nil' | refine SubM.cons' rfl ?_)) ?_
   grind [endS, bS, byH, byV, byB, eV]
  simp only [HS] at h4
  refine W_skip ?_
  refine joinQ_n _ (by (try dsimp only); repeat (first | exact Sub.nil' | refine Sub.cons' rfl ?_)) (by (try dsimp only); repeat (first | exact SubM.nil' | refine SubM.cons' rfl ?_)) ?_
  grind [endS, bS, byH, byV, byB, eV]
 have hb67 := hx
 refine tN (sQ (sQ ?_))
 subst hb67
 refine W_le (Le.adoptBoxI (u := 45) (j := 5) (id := 192) rfl rfl rfl) (nY rfl (kY [0,3,10,11,13,15] rfl (rG (eZ rfl (WO_nil' rfl rfl (lt_of rfl) rfl rfl rfl (eK 2 rfl (evE ?_)))))))
 refine evI ?_
 refine eZ rfl (oN (tN (W_block ?_)))
 refine lK (α := Int × Blk × Blk) [0, 3, 11, 13, 15] [11, 45, 192, 99, 100, 1101, 1067] (fun x => [(16, .t (.int (x.1)))]) (fun x => [(101, (x.2.1)), (67, (x.2.2))]) (fun x => OfInv inp L R.2.2.off (endS R.1 R.2.1) R.2.2.m pv iv most (x.1) (x.2.1) (x.2.2)) (fun x => Int.toNat ((x.1) + 1)) ((R.2.2.off.length : Int) - 1, .box (mS pv iv most R.2.2.m), .box (bS (some (endS R.1 R.2.1)))) ?_ (fun x hx => ?_)
 ·exact ⟨_, _, by omega, by omega, by rw [List.take_of_length_le (by omega)], hes.1, hes.2, ⟨Nat.le_refl _, Nat.le_refl _, hbo.ok.used⟩, rfl, rfl, rfl⟩
 obtain ⟨k', B1, B2⟩ := x
 obtain ⟨b1, m1, hk0, hk1, hex, hb1, hb2, hle, hd1, hB1, hB2⟩ := hx
 dsimp only at hk0 hk1 hex hb1 hb2 hle hd1 hB1 hB2 ⊢
 subst hB1 hB2
 refine nY rfl (sQ (sQ (rG (eK 2 rfl (oN (tN ?_))))))
 refine W_cond rfl (fun h4 => ?_) (fun h4 => ?_)
 ·
  simp only [HS] at h4
  refine W_skip (tN (sQ (W_block (sQ ?_))))
  have hk0' : 0 ≤ k' := by omega
  have hf3 : m1.fuel ≤ R.2.2.m.fuel := hle.1
  have ht3 : m1.trace.length + m1.fuel ≤ R.2.2.m.trace.length + R.2.2.m.fuel := hle.2.1
  obtain ⟨q0, q1, q2⟩ := hbo.ok.off (R.2.2.off[k'.toNat]'(by omega)) (List.getElem_mem _)
  have hto1 := hL.call (R.2.2.off[k'.toNat]'(by omega)) [] (some b1) m1 q0 q1 (by rw [q2]; rfl) hle.2.2
  have hCa := hC k hk (R.2.2.off[k'.toNat]'(by omega)) [] (some b1) m1 bm bx pv iv (fsv :: xv) (T.Stmts f.stmts :: xt) q0 q1 (by rw [q2]; rfl) hle.2.2 (by omega) (by omega) (by omega) (by omega)
  obtain ⟨R1, hR1⟩ : ∃ R1, R1 = L.call (R.2.2.off[k'.toNat]'(by omega)) [] (some b1) m1 := ⟨_, rfl⟩
  rw [← hR1] at hCa hto1
  rw [hd1, hd2, Int.natCast_add, Int.natCast_one] at hCa
  obtain ⟨c1, hc1⟩ : ∃ c1, R1.2.2.1 = some c1 := by have := hto1.by'; cases h : R1.2.2.1 with | none => rw [h] at this; cases this | some c1 => exact ⟨c1, rfl⟩
  rw [hc1] at hCa
  have hh1 := hto1.h1
  have hh5 := hto1.h5
  refine rG (eK 2 rfl (WO_nil' rfl rfl (lt_of rfl) rfl rfl rfl (eK 3 rfl (WO_idxS tys rfl rfl (lt_of rfl) rfl rfl rfl rfl rfl rfl rfl rfl (by omega) (by omega) (kZ [0,3,11,13,15,16,80,81,85,86,87,88,89,90,91] rfl (WO_loadL tys rfl rfl (lt_of rfl) rfl rfl rfl rfl (getT0 _ _ (by omega) (by omega)) rfl (eZ rfl (evI ?_))))))))
  refine eZ rfl (WO_le (Le.close (u := 67) 1067 rfl rfl rfl) (nZ rfl (WO_le (Le.close (u := 101) 1101 rfl rfl rfl) (nZ rfl ?_))))
  refine WO_callP (rid := 99) [67, 101] rfl rfl (lt_of rfl) rfl rfl (by repeat (first | exact ResP.done | refine ResP.pin0 1067 rfl ?_ | refine ResP.pin0 1101 rfl ?_ | refine ResP.t ?_ | refine ResP.nil 1 ?_ | refine ResP.nil' ?_ | refine ResP.own ?_ | refine ResP.sl rfl rfl (by first | omega | (simp; omega)) ?_ | refine ResP.aggT (by repeat (first | exact ResP.done | refine ResP.t ?_)) ?_)) rfl (by repeat (first | exact trivial | refine ⟨rfl, rfl, ?_⟩)) (by decide) (hCa) rfl rfl rfl ?_
  refine nZ rfl (WO_le (Le.open (u := 67) 1067 rfl rfl rfl rfl) (nZ rfl (WO_le (Le.open (u := 101) 1101 rfl rfl rfl rfl) (nZ rfl (eZ rfl (WO_evF tys rfl rfl (lt_of rfl) (d := .t _) rfl (nZ rfl (WO_extract rfl rfl (lt_of rfl) rfl rfl rfl rfl ?_))))))))
  first | refine WO_le (Le.adoptE (u := 98) 98 rfl (by first | exact lenN | exact rfl)) ?_ | skip
  refine nZ rfl (WO_alloc tys rfl rfl (lt_of rfl) rfl rfl rfl (nZ rfl (kZ [0,3,11,13,15,16,18,80,81,84,85,86,87,88,89,90,91,92,93,94,95,96,97,98] rfl (eZ rfl (sT rfl (nZ rfl (oN (tN (sQ (rG (eK 2 rfl (oN (tN (W_block (sQ ?_)))))))))))))))
  refine sQ (rG (eK 2 rfl (oN (tN ?_))))
  refine W_cond rfl (fun h5 => ?_) (fun h5 => ?_)
  ·
   simp only [HS] at h5
   refine W_skip (tN ?_)
   refine W_cond rfl (fun h6 => ?_) (fun h6 => ?_)
   ·
    simp only [HS] at h6
    refine sQ ?_
    have hout := ca_o hfz hdz hfd hR hr4 (of_stop hk0' hk1 hex hR1 hc1 (by omega)) (by show 4 ≤ R1.1; omega)
    refine W_regionH [[], [], []] mixed (by kernel_rfl) (QH_G0 (QG_evZ tys rfl rfl (lt_of rfl) rfl rfl (QG_nil (QH_G0 (QG_ev tys rfl rfl (lt_of rfl) rfl (QG_nil (QH_store tys 10002 rfl rfl rfl rfl rfl rfl rfl rfl rfl (Nat.le_of_ble_eq_true rfl) (QH_nil ?_))))))))
    refine ⟨by kernel_rfl, ?_⟩
    refine nZ rfl (oN (tN (W_le (Le.close (u := 101) 1101 rfl rfl rfl) (nY rfl (rT (bR (bR (tR (loopQ_r (bR (tR ?_)))))))))))
    refine EndsP_of (ks := [_, _]) (.inr rfl) (ret_okF rfl) (by decide) rfl (noR_spec rfl) (by repeat (first | exact trivial | refine ⟨rfl, rfl, ?_⟩)) ?_ ?_
    ·exact retC (by rw [hout] <;> first | rfl | grind [xV, byH]) (by rw [hout] <;> first | rfl | grind) (by rw [hout] <;> first | rfl | grind [eV, byV, byH])
    ·rw [hout]
     rfl
   simp only [HS] at h6
   refine sQ (rG (eK 2 rfl (oN (tN ?_))))
   refine W_cond rfl (fun h7 => ?_) (fun h7 => ?_)
   ·
    simp only [HS] at h7
    refine kY [0,3,11,13,15,16,18,80,81,84,85,86,87,88,89,90,91,92,93,94,95,96,97,98,99,100,101,102,105,106] rfl (rG (eK 2 rfl ?_))
    try refine WO_le (Le.freeze (u := 108) rfl) ?_
    refine nZ rfl (WO_nil' rfl rfl (lt_of rfl) rfl rfl rfl (eZ rfl (sT rfl (nZ rfl (oN (bN (bN (tN (rG (eZ rfl (evI ?_)))))))))))
    refine eZ rfl (oN ?_)
    refine lQ (_, _, _) ?_ ?_
    ·dsimp only
     exact of_next hk0' hk1 hex hb1 hb2 hle hd1 hR1 hto1 hc1 (by omega) rfl rfl (by grind [bS, byH, byV, byB, eV])
    ·(show Int.toNat _ < Int.toNat _); omega
   simp only [HS] at h7
   refine sQ (kY [0,3,11,13,15,16,18,80,81,84,85,86,87,88,89,90,91,92,93,94,95,96,97,98,99,100,101,102,105,106] rfl (rG (eK 2 rfl (oN (tN ?_)))))
   refine W_cond rfl (fun h8 => ?_) (fun h8 => ?_)
   ·
    simp only [HS] at h8
    refine sQ (rG (eK 2 rfl ?_))
    try refine WO_le (Le.freeze (u := 114) rfl) ?_
    refine nZ rfl (WO_nil' rfl rfl (lt_of rfl) rfl rfl rfl (eZ rfl (sT rfl (nZ rfl (oN (tN (kY [0,3,11,13,15,16,18,80,81,84,85,86,87,88,89,90,91,92,93,94,95,96,97,98,99,100,101,102,105,106,111,112,113,114,115,116] rfl (rG (eZ rfl (WO_nil' rfl rfl (lt_of rfl) rfl rfl rfl (eZ rfl (sT rfl (nZ rfl (oN (bN ?_)))))))))))))))
    refine bN (tN (rG (eZ rfl (evI ?_))))
    refine eZ rfl (oN ?_)
    refine lQ (_, _, _) ?_ ?_
    ·dsimp only
     exact of_next hk0' hk1 hex hb1 hb2 hle hd1 hR1 hto1 hc1 (by omega) rfl rfl (by grind [bS, byH, byV, byB, eV])
    ·(show Int.toNat _ < Int.toNat _); omega
   simp only [HS] at h8
   refine W_skip (bN (bN (tN (rG (eZ rfl (evI ?_))))))
   refine eZ rfl (oN ?_)
   refine lQ (_, _, _) ?_ ?_
   ·dsimp only
    exact of_next hk0' hk1 hex hb1 hb2 hle hd1 hR1 hto1 hc1 (by omega) rfl rfl (by grind [bS, byH, byV, byB, eV])
   ·(show Int.toNat _ < Int.toNat _); omega
  simp only [HS] at h5
  refine rG (eK 2 rfl (oN (tN ?_)))
  refine W_cond rfl (fun h6 => ?_) (fun h6 => ?_)
  ·
   simp only [HS] at h6
   refine sQ ?_
   have hout := ca_o hfz hdz hfd hR hr4 (of_stop hk0' hk1 hex hR1 hc1 (by omega)) (by show 4 ≤ R1.1; omega)
   refine kY [0,3,11,13,15,16,18,80,81,84,85,86,87,88,89,90,91,92,93,94,95,96,97,98,99,100,101,102,103] rfl (W_regionH [[], [], []] mixed (by kernel_rfl) (QH_G0 (QG_evZ tys rfl rfl (lt_of rfl) rfl rfl (QG_nil (QH_G0 (QG_ev tys rfl rfl (lt_of rfl) rfl (QG_nil (QH_store tys 10002 rfl rfl rfl rfl rfl rfl rfl rfl rfl (Nat.le_of_ble_eq_true rfl) (QH_nil ?_)))))))))
   refine ⟨by kernel_rfl, ?_⟩
   refine nZ rfl (oN (tN (W_le (Le.close (u := 101) 1101 rfl rfl rfl) (nY rfl (rT (bR (bR (tR (loopQ_r (bR (tR ?_)))))))))))
   refine EndsP_of (ks := [_, _]) (.inr rfl) (ret_okF rfl) (by decide) rfl (noR_spec rfl) (by repeat (first | exact trivial | refine ⟨rfl, rfl, ?_⟩)) ?_ ?_
   ·exact retC (by rw [hout] <;> first | rfl | grind [xV, byH]) (by rw [hout] <;> first | rfl | grind) (by rw [hout] <;> first | rfl | grind [eV, byV, byH])
   ·rw [hout]
    rfl
  simp only [HS] at h6
  refine sQ (kY [0,3,11,13,15,16,18,80,81,84,85,86,87,88,89,90,91,92,93,94,95,96,97,98,99,100,101,102,103] rfl (rG (eK 2 rfl (oN (tN ?_)))))
  refine W_cond rfl (fun h7 => ?_) (fun h7 => ?_)
  ·
   simp only [HS] at h7
   refine rG (eK 2 rfl ?_)
   try refine WO_le (Le.freeze (u := 108) rfl) ?_
   refine nZ rfl (WO_nil' rfl rfl (lt_of rfl) rfl rfl rfl (eZ rfl (sT rfl (nZ rfl (oN (bN (bN (tN (kY [0,3,11,13,15,16,18,80,81,84,85,86,87,88,89,90,91,92,93,94,95,96,97,98,99,100,101,102,103,105,106,107,108,109,110] rfl (rG (eZ rfl (evI ?_))))))))))))
   refine eZ rfl (oN ?_)
   refine lQ (_, _, _) ?_ ?_
   ·dsimp only
    exact of_next hk0' hk1 hex hb1 hb2 hle hd1 hR1 hto1 hc1 (by omega) rfl rfl (by grind [bS, byH, byV, byB, eV])
   ·(show Int.toNat _ < Int.toNat _); omega
  simp only [HS] at h7
  refine sQ (rG (eK 2 rfl (oN (tN ?_))))
  refine W_cond rfl (fun h8 => ?_) (fun h8 => ?_)
  ·
   simp only [HS] at h8
   refine sQ (rG (eK 2 rfl ?_))
   try refine WO_le (Le.freeze (u := 114) rfl) ?_
   refine nZ rfl (WO_nil' rfl rfl (lt_of rfl) rfl rfl rfl (eZ rfl (sT rfl (nZ rfl (kZ [0,3,11,13,15,16,18,80,81,84,85,86,87,88,89,90,91,92,93,94,95,96,97,98,99,100,101,102,103,105,106,111,112,113,114,115,116] rfl (oN (tN (rG (eZ rfl (WO_nil' rfl rfl (lt_of rfl) rfl rfl rfl (eZ rfl (sT rfl (nZ rfl (oN (bN ?_)))))))))))))))
   refine bN (tN (rG (eZ rfl (evI ?_))))
   refine eZ rfl (oN ?_)
   refine lQ (_, _, _) ?_ ?_
   ·dsimp only
    exact of_next hk0' hk1 hex hb1 hb2 hle hd1 hR1 hto1 hc1 (by omega) rfl rfl (by grind [bS, byH, byV, byB, eV])
   ·(show Int.toNat _ < Int.toNat _); omega
  simp only [HS] at h8
  refine W_skip (bN (bN (tN (rG (eZ rfl (evI ?_))))))
  refine eZ rfl (oN ?_)
  refine lQ (_, _, _) ?_ ?_
  ·dsimp only
   exact of_next hk0' hk1 hex hb1 hb2 hle hd1 hR1 hto1 hc1 (by omega) rfl rfl (by grind [bS, byH, byV, byB, eV])
  ·(show Int.toNat _ < Int.toNat _); omega
 simp only [HS] at h4
 refine W_exit (tE (loopQ_e (inBlk_y (tN (sQ (sQ ?_))))))
 have hQ := of_end (by omega) hex
 have hout : caS p L most fn args b m = (b1.how, if b1.how = 2 then b1.pan else R.2.2.res, R.2.2.by', ⟨m1.used, m1.fuel, m1.deep - 1, m1.trace⟩) := ca_f hfz hdz hfd hR hr4 hQ (by show ¬ (4 : Int) ≤ 0; omega)
 refine rG (eZ rfl (WO_nil' rfl rfl (lt_of rfl) rfl rfl rfl (eK 4 rfl (oN (tN ?_)))))
 refine W_cond rfl (fun h5 => ?_) (fun h5 => ?_)
 ·
  simp only [HS] at h5
  refine sQ (kY [11,13,15] rfl (W_regionH [[], [], [], [], [], [], [], [], [], []] mixed (by kernel_rfl) (QH_G0 (QG_ev tys rfl rfl (lt_of rfl) rfl (QG_nil (QH_G0 (QG_nil' rfl rfl (lt_of rfl) rfl rfl rfl (QG_nil (QH_G0 (QG_ev tys rfl rfl (lt_of rfl) rfl (QG_nil (QH_G0 (QG_ev tys rfl rfl (lt_of rfl) rfl (QG_nil (QH_norm rfl ?_)))))))))))))))
  refine QH_G0 (QG_ev tys rfl rfl (lt_of rfl) rfl (QG_nil (QH_G0 (QG_nil' rfl rfl (lt_of rfl) rfl rfl rfl (QG_nil (QH_G0 (QG_ev tys rfl rfl (lt_of rfl) rfl (QG_nil (QH_G0 (QG_evZ tys rfl rfl (lt_of rfl) rfl rfl (QG_nil (QH_norm rfl (QH_G0 (QG_ev tys rfl rfl (lt_of rfl) rfl (QG_nil ?_)))))))))))))))
  refine QH_store tys 10009 rfl rfl rfl rfl rfl rfl rfl rfl rfl (Nat.le_of_ble_eq_true rfl) (QH_nil ?_)
  refine ⟨by kernel_rfl, ?_⟩
  refine nZ rfl (oN (tN (W_le (Le.close (u := 101) 1101 rfl rfl rfl) (nY rfl (rT (tR ?_))))))
  refine EndsP_of (ks := [_, _]) (.inr rfl) (ret_okF rfl) (by decide) rfl (noR_spec rfl) (by repeat (first | exact trivial | refine ⟨rfl, rfl, ?_⟩)) ?_ ?_
  ·exact retC (by rw [hout] <;> first | rfl | grind [xV, byH]) (by rw [hout] <;> first | rfl | grind) (by rw [hout] <;> first | rfl | grind [eV, byV, byH])
  ·rw [hout]
   rfl
 simp only [HS] at h5
 refine W_skip (tN (sQ (kY [11,15] rfl (W_regionH [[], [], [], [], [], []] mixed (by kernel_rfl) (QH_G0 (QG_ev tys rfl rfl (lt_of rfl) rfl (QG_nil (QH_G0 (QG_nil' rfl rfl (lt_of rfl) rfl rfl rfl (QG_nil (QH_G0 (QG_ev tys rfl rfl (lt_of rfl) rfl (QG_nil (QH_G0 (QG_evZ tys rfl rfl (lt_of rfl) rfl rfl ?_)))))))))))))))
 refine QG_nil (QH_norm rfl (QH_G0 (QG_ev tys rfl rfl (lt_of rfl) rfl (QG_nil (QH_store tys 10005 rfl rfl rfl rfl rfl rfl rfl rfl rfl (Nat.le_of_ble_eq_true rfl) (QH_nil ?_))))))
 refine ⟨by kernel_rfl, ?_⟩
 refine nZ rfl (oN (tN (W_le (Le.close (u := 101) 1101 rfl rfl rfl) (nY rfl (rT ?_)))))
 refine EndsP_of (ks := [_, _]) (.inr rfl) (ret_okF rfl) (by decide) rfl (noR_spec rfl) (by repeat (first | exact trivial | refine ⟨rfl, rfl, ?_⟩)) ?_ ?_
 ·exact retC (by rw [hout] <;> first | rfl | grind [xV, byH]) (by rw [hout] <;> first | rfl | grind) (by rw [hout] <;> first | rfl | grind [eV, byV, byH])
 ·rw [hout]
  rfl

theorem callS_next {p : Prog} {inp : List Int} {most n : Nat} {L : Lev} (hL : LevOk p inp L) (hC : ∀ k, n = k + 1 → CallS p inp most k L) (hS : ∀ k, n = k + 1 → StmtC p inp most k L) (hg : goodP p = true) (hp : p.ok 1048576) (hi : inp.length ≤ 1048576) (hmost : most ≤ 1048576) (L' : Lev) (hl : L'.call = callS L p most) : CallS p inp most n L' := by
 intro fn args b m bm bb pv iv xv xt h0 h1 ha hu hd hn hn2 hti
 rw [hl]
 exact callP_fun p inp most n L hL hC hS hg hp hi hmost fn args b m bm bb pv iv xv xt h0 h1 ha hu hd hn hn2 hti

end Go.Proofs.YtimpganophnehaaGreat
