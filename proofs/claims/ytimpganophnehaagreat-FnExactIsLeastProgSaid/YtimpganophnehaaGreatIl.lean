/- The walk of how the program's machine does a call. -/
import Derived.Test.YtimpganophnehaaGreatIk
import Derived.Test.YtimpganophnehaaGreatIf
set_option linter.unusedVariables false
set_option linter.unusedSimpArgs false
set_option maxRecDepth 10000
set_option maxHeartbeats 1000000
namespace Go.Proofs.YtimpganophnehaaGreat
open Go.Eng

def lvC (p : Prog) (inp : List Int) (most n : Nat) (fn : Int) (args : List Int) (b : Option By) (m : Ms) : Int × Int × Option By × Ms := (lev p inp most n).call fn args b m
theorem lc_0 {p : Prog} {inp : List Int} {most n : Nat} {fn : Int} {args : List Int} {b : Option By} {m : Ms} (h : m.fuel = 0) : lvC p inp most n fn args b m = (5, 0, b, burnM m) := by
 cases n with
 | zero => show (5, 0, b, m) = _; rw [burn_0 h]
 | succ n => exact ca_0 h
def OfI (inp : List Int) (L : Lev) (off : List Int) (b0 : By) (m0 : Ms) (pv iv : Value) (most fn : Int) (vars : List Int) (res : Int) (bp : Value) (l : List Int) (B1 B2 : Blk) : Prop :=
 ∃ (b1 : By) (m1 : Ms), (∀ x, x ∈ l → x ∈ off) ∧ l.length ≤ off.length ∧ offR (oCal L) off.reverse b0 m0 = offR (oCal L) l.reverse b1 m1 ∧ 1 ≤ b1.how ∧ b1.how < 4 ∧ m0.le inp m1 ∧ m1.deep = m0.deep ∧ B1 = .box (rS pv iv most m1.fuel 0 m1) ∧ B2 = .box (gC fn vars l res b1.how b1.pan b1.exd bp)
section
variable {p : Prog} {inp : List Int} {L : Lev} {off l : List Int} {b0 b1 : By} {m0 m1 : Ms} {pv iv bp : Value} {most fn res x : Int} {vars : List Int} {R : Int × Int × Option By × Ms} {c : By}
theorem revL (h : 0 < (l.length : Int)) : l.reverse = l[((l.length : Int) - 1).toNat]'(by omega) :: (l.take ((l.length : Int) - 1).toNat).reverse := by
 have := take_rev (off := l) (k := (l.length : Int) - 1) (by omega) (by omega)
 rw [show ((l.length : Int) - 1 + 1).toNat = l.length from by omega, List.take_length, show ((l.length : Int) - 1 - 1 + 1).toNat = ((l.length : Int) - 1).toNat from by omega] at this
 exact this
theorem ofI_stop (h : 0 < (l.length : Int)) (hex : offR (oCal L) off.reverse b0 m0 = offR (oCal L) l.reverse b1 m1) (hR : R = L.call (l[((l.length : Int) - 1).toNat]'(by omega)) [] (some b1) m1) (hc : R.2.2.1 = some c) (h4 : 4 ≤ R.1) : offR (oCal L) off.reverse b0 m0 = (R.1, c, R.2.2.2) := by
 have e : oCal L (l[((l.length : Int) - 1).toNat]'(by omega)) (some b1) m1 = R := hR.symm
 rw [hex, revL h, offR]
 simp only [e, if_pos h4, hc, Option.getD_some]
theorem ofI_next (h : 0 < (l.length : Int)) (hin : ∀ x, x ∈ l → x ∈ off) (hlen : l.length ≤ off.length) (hex : offR (oCal L) off.reverse b0 m0 = offR (oCal L) l.reverse b1 m1) (hb1 : 1 ≤ b1.how) (hb2 : b1.how < 4) (hle : m0.le inp m1) (hd : m1.deep = m0.deep) (hR : R = L.call (l[((l.length : Int) - 1).toNat]'(by omega)) [] (some b1) m1)
  (hto : Ms.to inp R.1 (some b1) R.2.2.1 m1 R.2.2.2) (hc : R.2.2.1 = some c) (h4 : ¬ 4 ≤ R.1) {b2 : By} (hb : b2 = if R.1 = 1 then c else ⟨R.1, if R.1 = 2 then R.2.1 else c.pan, c.exd || decide (R.1 = 3)⟩) {B1 B2 : Blk} (e1 : B1 = .box (rS pv iv most (fuH R.1 R.2.2.2) (coH R.1) R.2.2.2)) (e2 : B2 = .box (gC fn vars (l.take ((l.length : Int) - 1).toNat) res b2.how b2.pan b2.exd bp)) :
  OfI inp L off b0 m0 pv iv most fn vars res bp (l.take ((l.length : Int) - 1).toNat) B1 B2 := by
 have e : oCal L (l[((l.length : Int) - 1).toNat]'(by omega)) (some b1) m1 = R := hR.symm
 have hcb := hto.byk (fun x hx => by cases hx; exact ⟨hb1, hb2⟩) c hc
 have hh1 := hto.h1
 rw [fuH_1 (by omega), coH_1 (by omega)] at e1
 refine ⟨b2, R.2.2.2, fun x hx => hin x (List.mem_of_mem_take hx), by rw [List.length_take]; omega, ?_, ?_, ?_, hle.trans hto.le, (hto.deep (by omega)).trans hd, e1, e2⟩
 ·rw [hex, revL h, offR]
  simp only [e, if_neg h4, hc, Option.getD_some]
  subst hb
  split <;> rfl
 ·subst hb
  split
  ·exact hcb.1
  ·exact hh1
 ·subst hb
  split
  ·exact hcb.2
  ·show R.1 < 4; omega
theorem ofI_end (h0 : ¬ 0 < (l.length : Int)) (hex : offR (oCal L) off.reverse b0 m0 = offR (oCal L) l.reverse b1 m1) : offR (oCal L) off.reverse b0 m0 = (0, b1, m1) := by
 rw [hex, show l = [] from List.eq_nil_of_length_eq_zero (by omega)]
 rfl
theorem haH_4 {h : Int} (e : haH h = 4) : 4 ≤ h := by unfold haH at e; split at e <;> omega
theorem haH_n4 {h : Int} (e : ¬ haH h = 4) : ¬ 4 ≤ h := by intro h'; unfold haH at e; rw [if_pos h'] at e; exact e rfl
end

theorem callI0_fun (p : Prog) (inp : List Int) (most n : Nat) (hI : ∀ k, k < n → CallI p inp most k (lev p inp most k) ∧ StmtI p inp most k (lev p inp most k)) (hg : goodP p = true) (hp : p.ok 1048576) (hi : inp.length ≤ 1048576) (hmost : most ≤ 1048576) (fn : Int) (args : List Int) (b : Option By) (m : Ms) (bm bb : Nat) (q : Kp) (pv iv : Value) (xv : List Value) (xt : List T) (h0 : 0 ≤ fn) (h1' : fn < p.funcs.length) (hal : args.length = (atI (paramsL p) fn).toNat) (hu : m.used ≤ inp.length) (hdm : m.deep ≤ most) (hn : m.fuel ≤ n) (hz : m.fuel = 0) (hn2 : m.fuel ≤ 1048576) (hti : m.trace.length + m.fuel ≤ 1048576) : Proc Tryz.prog 127 [.t (.v (.pointer (some ⟨bm, 0, none⟩))), .t (.int fn), .t (T.ints args), .t (.v (byP bb b))] ((pv :: iv :: xv)) ((T.Funcs p.funcs :: T.ints inp :: xt)) [byK bb q b, .obox (.pointer (some ⟨bm, 0, none⟩)) (rS pv iv most m.fuel 0 m)] (.tup [.t (.int (haH (lvC p inp most n fn args b m).1)), .t (.int (lvC p inp most n fn args b m).2.1)]) [.obox (byP bb b) (gC q.fn q.vars q.off q.res (hH (lvC p inp most n fn args b m).2.2.1) (nH (lvC p inp most n fn args b m).2.2.1) (xH (lvC p inp most n fn args b m).2.2.1) q.bp), .obox (.pointer (some ⟨bm, 0, none⟩)) (rS pv iv most (fuH (lvC p inp most n fn args b m).1 (lvC p inp most n fn args b m).2.2.2) (coH (lvC p inp most n fn args b m).1) (lvC p inp most n fn args b m).2.2.2)] := by
 obtain ⟨f, hfd⟩ : ∃ f, f = funcAt p fn := ⟨_, rfl⟩
 have hfm : f ∈ p.funcs := hfd ▸ funcAt_memI h0 h1'
 obtain ⟨g1, g2, g3, g4, hsh, g6⟩ := good_vars hg hfm
 have hpa : atI (paramsL p) fn = f.params := hfd ▸ funcAt_params h0 h1'
 have hfa : p.funcs[fn.toNat]'(by omega) = f := by rw [hfd]; exact funcAt_at (by omega)
 have hget : (p.funcs.map Func.tt)[fn.toNat]? = some f.tt := by rw [getT _ _ h0 h1', hfa]
 have hal2 : args.length ≤ f.vars.toNat := by omega
 have hfo : f.ok 1048576 := hp.1.2 f hfm
 have hBu := burnI_fun bm pv iv most m (pv :: iv :: xv) (T.Funcs p.funcs :: T.ints inp :: xt) (by omega)
 obtain ⟨co, hco⟩ : ∃ co : Int, co = if m.fuel = 0 then 5 else 0 := ⟨_, rfl⟩
 rw [← hco] at hBu
 refine Proc.intro tys Tryz.func127 rfl rfl (N := 157) [100, 101] 99 ([(0, .t (.v (.pointer (some ⟨bm, 0, none⟩)))), (1, .t (.int fn)), (2, .t (T.ints args)), (3, .t (.v (byP bb b)))]) ([(100, byK bb q b), (101, .obox (.pointer (some ⟨bm, 0, none⟩)) (rS pv iv most m.fuel 0 m)), (99, .ro (pv :: iv :: xv) (T.Funcs p.funcs :: T.ints inp :: xt))]) rfl rfl rfl rfl (by decide) (by decide) rfl (fun w0 G F0 => ?_)
 refine nY rfl (W_le (Le.openNew (u := 101) 1101 rfl rfl rfl rfl rfl) (nY rfl (W_le (Le.named (t := 0) (u := 101) 1101 rfl rfl) (nY rfl (sQ (rG (eK 2 rfl (oN (tN (sQ (sQ (W_regionD mixed (by kernel_rfl) (evQ ?_)))))))))))))
 refine QL_nil' rfl rfl (lt_of rfl) rfl rfl rfl (evQ ?_)
 refine evQ ?_
 refine QL_norm rfl (evQ ?_)
 refine QL_known (v := false) (by simp [hz]) ?_
 refine evQ ?_
 iterate 9 (refine QL_guardN rfl rfl rfl rfl rfl (lt_of rfl) ?_)
 refine evQ ?_
 refine QL_nil (tN (W_condF rfl (W_skip (tN (sQ (sQ (rG (eZ rfl (WO_le (Le.close (u := 101) 1101 rfl rfl rfl) (nZ rfl ?_))))))))))
 refine WO_callP (rid := 99) [101] rfl rfl (lt_of rfl) rfl rfl (by repeat (first | exact ResP.done | refine ResP.pin0 1101 rfl ?_ | refine ResP.t ?_ | refine ResP.nil 1 ?_ | refine ResP.nil' ?_ | refine ResP.own ?_ | refine ResP.sl rfl rfl (by first | omega | (simp; omega)) ?_ | refine ResP.aggT (by repeat (first | exact ResP.done | refine ResP.t ?_)) ?_)) rfl (by repeat (first | exact trivial | refine ⟨rfl, rfl, ?_⟩)) (by decide) (hBu) rfl rfl rfl ?_
 refine nZ rfl (WO_le (Le.open (u := 101) 1101 rfl rfl rfl rfl) (nZ rfl (WO_le (Le.known (t := 38) false rfl (by simp [hz])) ?_)))
 refine eZ rfl (oN (tN (W_condT rfl (sQ (rG (eK 2 rfl (oN (tN (W_le (Le.close (u := 101) 1101 rfl rfl rfl) (nY rfl (rT (tR ?_))))))))))))
 refine EndsP_of (ks := [_, _]) (.inr rfl) (ret_okF rfl) (by decide) rfl (noR_spec rfl) (by repeat (first | exact trivial | refine ⟨rfl, rfl, ?_⟩)) ?_ ?_
 ·exact retT (by rw [lc_0 hz] <;> rfl) (by rw [lc_0 hz] <;> rfl)
 ·(rw [if_pos hz] at hco; subst hco; rw [lc_0 hz]; rfl)

theorem callI1_fun (p : Prog) (inp : List Int) (most n : Nat) (hI : ∀ k, k < n → CallI p inp most k (lev p inp most k) ∧ StmtI p inp most k (lev p inp most k)) (hg : goodP p = true) (hp : p.ok 1048576) (hi : inp.length ≤ 1048576) (hmost : most ≤ 1048576) (fn : Int) (args : List Int) (b : Option By) (m : Ms) (bm bb : Nat) (q : Kp) (pv iv : Value) (xv : List Value) (xt : List T) (h0 : 0 ≤ fn) (h1' : fn < p.funcs.length) (hal : args.length = (atI (paramsL p) fn).toNat) (hu : m.used ≤ inp.length) (hdm : m.deep ≤ most) (hn : m.fuel ≤ n) (hfz : m.fuel ≠ 0) (hn2 : m.fuel ≤ 1048576) (hti : m.trace.length + m.fuel ≤ 1048576) : Proc Tryz.prog 127 [.t (.v (.pointer (some ⟨bm, 0, none⟩))), .t (.int fn), .t (T.ints args), .t (.v (byP bb b))] ((pv :: iv :: xv)) ((T.Funcs p.funcs :: T.ints inp :: xt)) [byK bb q b, .obox (.pointer (some ⟨bm, 0, none⟩)) (rS pv iv most m.fuel 0 m)] (.tup [.t (.int (haH (lvC p inp most n fn args b m).1)), .t (.int (lvC p inp most n fn args b m).2.1)]) [.obox (byP bb b) (gC q.fn q.vars q.off q.res (hH (lvC p inp most n fn args b m).2.2.1) (nH (lvC p inp most n fn args b m).2.2.1) (xH (lvC p inp most n fn args b m).2.2.1) q.bp), .obox (.pointer (some ⟨bm, 0, none⟩)) (rS pv iv most (fuH (lvC p inp most n fn args b m).1 (lvC p inp most n fn args b m).2.2.2) (coH (lvC p inp most n fn args b m).1) (lvC p inp most n fn args b m).2.2.2)] := by
 obtain ⟨f, hfd⟩ : ∃ f, f = funcAt p fn := ⟨_, rfl⟩
 have hfm : f ∈ p.funcs := hfd ▸ funcAt_memI h0 h1'
 obtain ⟨g1, g2, g3, g4, hsh, g6⟩ := good_vars hg hfm
 have hpa : atI (paramsL p) fn = f.params := hfd ▸ funcAt_params h0 h1'
 have hfa : p.funcs[fn.toNat]'(by omega) = f := by rw [hfd]; exact funcAt_at (by omega)
 have hget : (p.funcs.map Func.tt)[fn.toNat]? = some f.tt := by rw [getT _ _ h0 h1', hfa]
 have hal2 : args.length ≤ f.vars.toNat := by omega
 have hfo : f.ok 1048576 := hp.1.2 f hfm
 have hBu := burnI_fun bm pv iv most m (pv :: iv :: xv) (T.Funcs p.funcs :: T.ints inp :: xt) (by omega)
 obtain ⟨co, hco⟩ : ∃ co : Int, co = if m.fuel = 0 then 5 else 0 := ⟨_, rfl⟩
 rw [← hco] at hBu
 refine Proc.intro tys Tryz.func127 rfl rfl (N := 157) [100, 101] 99 ([(0, .t (.v (.pointer (some ⟨bm, 0, none⟩)))), (1, .t (.int fn)), (2, .t (T.ints args)), (3, .t (.v (byP bb b)))]) ([(100, byK bb q b), (101, .obox (.pointer (some ⟨bm, 0, none⟩)) (rS pv iv most m.fuel 0 m)), (99, .ro (pv :: iv :: xv) (T.Funcs p.funcs :: T.ints inp :: xt))]) rfl rfl rfl rfl (by decide) (by decide) rfl (fun w0 G F0 => ?_)
 refine nY rfl (W_le (Le.openNew (u := 101) 1101 rfl rfl rfl rfl rfl) (nY rfl (W_le (Le.named (t := 0) (u := 101) 1101 rfl rfl) (nY rfl (sQ (rG (eK 2 rfl (oN (tN (sQ (sQ (W_regionD mixed (by kernel_rfl) (evQ ?_)))))))))))))
 refine QL_nil' rfl rfl (lt_of rfl) rfl rfl rfl (evQ ?_)
 refine evQ ?_
 refine QL_norm rfl (evQ ?_)
 refine QL_known (v := true) (by simp; omega) ?_
 refine evQ ?_
 refine QL_guardY rfl rfl rfl rfl (lt_of rfl) (evQ ?_)
 refine QL_guardY rfl rfl rfl rfl (lt_of rfl) (QL_nil' rfl rfl (lt_of rfl) rfl rfl rfl (QL_guardY rfl rfl rfl rfl (lt_of rfl) (evQ ?_)))
 refine QL_guardY rfl rfl rfl rfl (lt_of rfl) (evQ ?_)
 refine QL_norm rfl (QL_guardY rfl rfl rfl rfl (lt_of rfl) (evQ ?_))
 refine QL_guardY rfl rfl rfl rfl (lt_of rfl) (QL_nil' rfl rfl (lt_of rfl) rfl rfl rfl (QL_guardY rfl rfl rfl rfl (lt_of rfl) (evQ ?_)))
 refine QL_guardY rfl rfl rfl rfl (lt_of rfl) (evQ ?_)
 refine QL_guardY rfl rfl rfl rfl (lt_of rfl) (evQ ?_)
 refine evQ ?_
 refine QL_norm rfl (QL_nil (tN ?_))
 refine W_cond rfl (fun h1 => ?_) (fun h1 => ?_)
 ·
  simp only [HS] at h1
  refine sQ ?_
  obtain ⟨k, hk⟩ : ∃ k, n = k + 1 := ⟨n - 1, by omega⟩
  subst hk
  have hout : lvC p inp most (k + 1) fn args b m = (4, 0, b, burnM m) := ca_d hfz (by omega)
  refine rG (eZ rfl (WO_nil' rfl rfl (lt_of rfl) rfl rfl rfl (eK 2 rfl (sT rfl (nZ rfl (oN (tN (sQ (rG (eK 2 rfl (oN (tN (W_le (Le.close (u := 101) 1101 rfl rfl rfl) (nY rfl (rT ?_)))))))))))))))
  refine tR ?_
  refine EndsP_of (ks := [_, _]) (.inr rfl) (ret_okF rfl) (by decide) rfl (noR_spec rfl) (by repeat (first | exact trivial | refine ⟨rfl, rfl, ?_⟩)) ?_ ?_
  ·first
   | exact retT (by first | (rw [hout]; done) | (rw [hout]; rfl)) (by first | (rw [hout]; done) | (rw [hout]; rfl))
  ·first
   | (rw [hout]; have hq : fuH 4 (burnM m) = m.fuel := (by show ((m.fuel - 1 : Nat) : Int) + 1 = m.fuel; omega); simp only [hq]; rfl)
 simp only [HS] at h1
 refine W_skip (tN (sQ (sQ (rG (eZ rfl (WO_le (Le.close (u := 101) 1101 rfl rfl rfl) (nZ rfl ?_)))))))
 refine WO_callP (rid := 99) [101] rfl rfl (lt_of rfl) rfl rfl (by repeat (first | exact ResP.done | refine ResP.pin0 1101 rfl ?_ | refine ResP.t ?_ | refine ResP.nil 1 ?_ | refine ResP.nil' ?_ | refine ResP.own ?_ | refine ResP.sl rfl rfl (by first | omega | (simp; omega)) ?_ | refine ResP.aggT (by repeat (first | exact ResP.done | refine ResP.t ?_)) ?_)) rfl (by repeat (first | exact trivial | refine ⟨rfl, rfl, ?_⟩)) (by decide) (hBu) rfl rfl rfl ?_
 refine nZ rfl (WO_le (Le.open (u := 101) 1101 rfl rfl rfl rfl) (nZ rfl (WO_le (Le.known (t := 38) true rfl (by simp [hfz])) ?_)))
 refine eZ rfl (oN (tN (W_condF rfl (W_skip (tN (sQ ?_))))))
 have hdz : m.deep ≠ most := by omega
 have hbd : (burnM m).deep = m.deep := rfl
 rw [if_neg hfz] at hco
 subst hco
 obtain ⟨k, hk⟩ : ∃ k, n = k + 1 := ⟨n - 1, by omega⟩
 subst hk
 have hL := lev_ok (inp := inp) hg most k
 obtain ⟨hIc, hIs⟩ := hI k (by omega)
 refine rG (eZ rfl (WO_nil' rfl rfl (lt_of rfl) rfl rfl rfl (eK 2 rfl (evI ?_))))
 refine WO_nil' rfl rfl (lt_of rfl) rfl rfl rfl (kZ [0,1,2,3,8,9,44,45] rfl (eZ rfl (sT rfl (nZ rfl (oN (tN (sQ (rG (eK 2 rfl (WO_nil' rfl rfl (lt_of rfl) rfl rfl rfl (eK 2 rfl (WO_untell tys 99 0 rfl rfl (lt_of rfl) rfl rfl rfl rfl (eZ rfl (kZ [0,1,2,3,8,9,47,52,53] rfl (WO_idxT tys rfl rfl (lt_of rfl) rfl rfl rfl rfl rfl rfl rfl h0 _ hget ?_)))))))))))))))
 refine eK 2 rfl ?_
 refine WO_makeI tys (T.int 0) rfl rfl (lt_of rfl) rfl rfl rfl rfl rfl (by repeat (first | exact AbsL.nil' | refine AbsL.v' ?_ | refine AbsL.none' ?_)) rfl (by omega) (by omega) (by decide) ?_
 refine nZ rfl (nZ rfl (eZ rfl (WO_struct tys rfl rfl (lt_of rfl) rfl rfl rfl (by kernel_rfl) rfl rfl rfl rfl rfl rfl (WO_box rfl rfl (lt_of rfl) rfl rfl (nZ rfl (eZ rfl (oN (tN (sQ (W_le (Le.nilBox (u := 60) (j := 3) 1 rfl rfl) (nY rfl ?_)))))))))))
 refine W_pin (u := 60) (pid := 1060) rfl rfl (fun bc => ?_)
 refine nY rfl (W_le (Le.eqK (id := 57) rfl (k' := .L 1 ((List.replicate f.vars.toNat (0 : Int)).map T.int)) (by rw [List.map_replicate])) ?_)
 refine nY rfl (kY [0,1,2,8,9,10] rfl (rG (eZ rfl (WO_nil' rfl rfl (lt_of rfl) rfl rfl rfl (eK 3 rfl (WO_copyI (e := 3) rfl rfl (lt_of rfl) rfl (by kernel_rfl) (by kernel_rfl) rfl rfl (by simp) rfl (by simp; omega) ?_))))))
 refine nZ rfl (WO_le (Le.gatherBox (u := 60) (j := 1) (id := 57) rfl rfl rfl (by simp; omega) rfl) ?_)
 refine nZ rfl (WO_le (Le.eqK (id := 60) rfl (k' := .box (gC fn (setL f.vars.toNat args) [] 0 0 0 false (byP bb b))) (by rw [List.take_of_length_le (by simp; omega)]; rfl)) ?_)
 refine nZ rfl (oN (tN (sQ ?_)))
 have hso := startS_ok (p := p) (inp := inp) (f := f) (args := args) (b := b) (m := m) hal2 hu
 have hsf : (startS f args b m).m.fuel = m.fuel - 1 := rfl
 have hst : (startS f args b m).m.trace.length = m.trace.length := rfl
 have hsl : (startS f args b m).off.length = 0 := rfl
 have hsd : (startS f args b m).m.deep = m.deep + 1 := rfl
 have hB := blockI_fun p inp most k (lev p inp most k) hL hIs fn f h0 h1' hfd hfo.2.1.1 f.body (body_inF hsh) hfo.1 (startS f args b m) hso (by omega) (by omega) (by omega) (by omega) (by omega) bm bc bb q pv iv xv xt
 have hbo := blockS_ok (hL.stmt _ hfm) (body_inF hsh) hso
 change Sx.to p inp f (blS (lev p inp most k) f f.body (startS f args b m)).1 _ (blS (lev p inp most k) f f.body (startS f args b m)).2.2 at hbo
 obtain ⟨R, hR⟩ : ∃ R, R = blS (lev p inp most k) f f.body (startS f args b m) := ⟨_, rfl⟩
 rw [← hR] at hB hbo
 obtain ⟨fu1, hfu1⟩ : ∃ fu1, fu1 = fuH R.1 R.2.2.m := ⟨_, rfl⟩
 obtain ⟨co1, hco1⟩ : ∃ co1, co1 = coH R.1 := ⟨_, rfl⟩
 obtain ⟨e0, he0⟩ : ∃ e0, e0 = haH R.1 := ⟨_, rfl⟩
 rw [← hfu1, ← hco1, ← he0] at hB
 have hR0 := hbo.h0
 have hR5 := hbo.h5
 have hf2 : R.2.2.m.fuel ≤ m.fuel - 1 := hbo.le.1
 have ht2 : R.2.2.m.trace.length + R.2.2.m.fuel ≤ m.trace.length + (m.fuel - 1) := hbo.le.2.1
 have ho2 : R.2.2.off.length + R.2.2.m.fuel ≤ 0 + (m.fuel - 1) := hbo.offl
 refine rG (eK 3 rfl (kZ [0,1,8,9,10,68,69,70] rfl (WO_nil' rfl rfl (lt_of rfl) rfl rfl rfl (eK 2 rfl (WO_untell tys 99 0 rfl rfl (lt_of rfl) rfl rfl rfl rfl (eZ rfl (WO_idxT tys rfl rfl (lt_of rfl) rfl rfl rfl rfl rfl rfl rfl h0 _ hget (eK 2 rfl (WO_le (Le.close (u := 101) 1101 rfl rfl rfl) (nZ rfl (WO_le (Le.close (u := 60) 1060 rfl rfl rfl) (nZ rfl ?_))))))))))))
 refine WO_callP (rid := 99) [101, 60, 100] rfl rfl (lt_of rfl) rfl rfl (by repeat (first | exact ResP.done | refine ResP.pin0 1101 rfl ?_ | refine ResP.pin0 1060 rfl ?_ | refine ResP.pin0 1100 rfl ?_ | refine ResP.t ?_ | refine ResP.nil 1 ?_ | refine ResP.nil' ?_ | refine ResP.own ?_ | refine ResP.sl rfl rfl (by first | omega | (simp; omega)) ?_ | refine ResP.aggT (by repeat (first | exact ResP.done | refine ResP.t ?_)) ?_)) rfl (by repeat (first | exact trivial | refine ⟨rfl, rfl, ?_⟩)) (by decide) (hB) rfl rfl rfl ?_
 refine nZ rfl (WO_le (Le.open (u := 101) 1101 rfl rfl rfl rfl) (nZ rfl (WO_le (Le.open (u := 60) 1060 rfl rfl rfl rfl) (nZ rfl (kZ [0,8,9,10,79] rfl (eZ rfl (WO_evF tys rfl rfl (lt_of rfl) (d := .t _) rfl (nZ rfl (WO_evF tys rfl rfl (lt_of rfl) (d := .t _) rfl (nZ rfl (eK 2 rfl (oN (tN (sQ (sQ ?_)))))))))))))))
 refine rG (eK 2 rfl (oN (tN ?_)))
 refine W_cond rfl (fun h2 => ?_) (fun h2 => ?_)
 ·
  simp only [HS] at h2
  refine sQ (kY [0,8,9,10,11,12] rfl (rG (eK 2 rfl (oN (tN (W_le (Le.close (u := 101) 1101 rfl rfl rfl) (nY rfl (rT (tR ?_)))))))))
  refine EndsP_of (ks := [_, _]) (.inr rfl) (ret_okF rfl) (by decide) rfl (noR_spec rfl) (by repeat (first | exact trivial | refine ⟨rfl, rfl, ?_⟩)) ?_ ?_
  ·first
   | (subst hfu1 hco1; have hr4 := haH_4 (he0.symm.trans (by assumption)); have hout : lvC p inp most (k + 1) fn args b m = _ := ca_e hfz hdz hfd hR hr4; exact retT (by rw [hout]; show 4 = haH R.1; unfold haH; rw [if_pos hr4]) (by rw [hout]))
  ·first
   | (subst hfu1 hco1; have hr4 := haH_4 (he0.symm.trans (by assumption)); have hout : lvC p inp most (k + 1) fn args b m = _ := ca_e hfz hdz hfd hR hr4; rw [hout]; rfl)
 simp only [HS] at h2
 refine W_skip (tN (sQ (sQ ?_)))
 have hr4 : ¬ 4 ≤ R.1 := haH_n4 (by rw [← he0]; assumption)
 rw [haH_l (by omega)] at he0
 rw [fuH_1 (by omega)] at hfu1
 rw [coH_1 (by omega)] at hco1
 subst hfu1 hco1 he0
 have hd2 : R.2.2.m.deep = m.deep + 1 := hbo.deep (by omega)
 have hes := endS_ok (v := R.2.1) hR0 (by omega)
 refine kY [0,8,9,10,11,12] rfl (rG (eK 2 rfl (oN (tN ?_))))
 refine W_joinN (α := Int) [0, 8, 9, 10, 12] [60, 99, 100, 101, 1101, 1060] (fun x => [(11, .t (.int x))]) (fun x => []) (fun x => x = (endS R.1 R.2.1).how) ?_ (fun e11 hx => ?_)
 ·
  refine W_cond rfl (fun h3 => ?_) (fun h3 => ?_)
  ·
   simp only [HS] at h3
   refine rG (eZ rfl (oN ?_))
   refine joinQ_n _ (by (try dsimp only); repeat (first | exact Sub.nil' | refine Sub.cons' rfl ?_)) (by (try dsimp only); repeat (first | exact SubM.nil' | refine SubM.cons' rfl ?_)) ?_
   simp only [endS]; split <;> omega
  simp only [HS] at h3
  refine W_skip ?_
  refine joinQ_n _ (by (try dsimp only); repeat (first | exact Sub.nil' | refine Sub.cons' rfl ?_)) (by (try dsimp only); repeat (first | exact SubM.nil' | refine SubM.cons' rfl ?_)) ?_
  simp only [endS]; split <;> omega
 have he11 := hx
 refine tN (sQ ?_)
 subst he11
 have hEn := endI_fun bc (endS R.1 R.2.1).how R.2.1 fn R.2.2.vars R.2.2.off R.2.2.res 0 0 false (byP bb b) (pv :: iv :: xv) (T.Funcs p.funcs :: T.ints inp :: xt)
 rw [show (if (endS R.1 R.2.1).how = 2 then R.2.1 else 0) = (endS R.1 R.2.1).pan from by grind [endS], show (or false (decide ((endS R.1 R.2.1).how = 3))) = (endS R.1 R.2.1).exd from by grind [endS]] at hEn
 refine kY [0,8,9,10,11,12] rfl (rG (eK 3 rfl (WO_le (Le.close (u := 60) 1060 rfl rfl rfl) (nZ rfl ?_))))
 refine WO_callP (rid := 99) [60] rfl rfl (lt_of rfl) rfl rfl (by repeat (first | exact ResP.done | refine ResP.pin0 1060 rfl ?_ | refine ResP.t ?_ | refine ResP.nil 1 ?_ | refine ResP.nil' ?_ | refine ResP.own ?_ | refine ResP.sl rfl rfl (by first | omega | (simp; omega)) ?_ | refine ResP.aggT (by repeat (first | exact ResP.done | refine ResP.t ?_)) ?_)) rfl (by repeat (first | exact trivial | refine ⟨rfl, rfl, ?_⟩)) (by decide) (hEn) rfl rfl rfl ?_
 refine nZ rfl (WO_le (Le.open (u := 60) 1060 rfl rfl rfl rfl) (nZ rfl (oN (tN (sQ (W_block ?_))))))
 refine lK (α := List Int × Blk × Blk) [0, 10] [99, 100, 1101, 1060] (fun x => []) (fun x => [(101, (x.2.1)), (60, (x.2.2))]) (fun x => OfI inp (lev p inp most k) R.2.2.off (endS R.1 R.2.1) R.2.2.m pv iv most fn R.2.2.vars R.2.2.res (byP bb b) (x.1) (x.2.1) (x.2.2)) (fun x => Int.toNat ((x.1).length)) (R.2.2.off, .box (rS pv iv most R.2.2.m.fuel 0 R.2.2.m), .box (gC fn R.2.2.vars R.2.2.off R.2.2.res (endS R.1 R.2.1).how (endS R.1 R.2.1).pan (endS R.1 R.2.1).exd (byP bb b))) ?_ (fun x hx => ?_)
 ·exact ⟨_, _, fun x hx => hx, Nat.le_refl _, rfl, hes.1, hes.2, ⟨Nat.le_refl _, Nat.le_refl _, hbo.ok.used⟩, rfl, rfl, rfl⟩
 obtain ⟨l, B1, B2⟩ := x
 obtain ⟨b1, m1, hin, hlen, hex, hb1, hb2, hle, hd1, hB1, hB2⟩ := hx
 dsimp only at hin hlen hex hb1 hb2 hle hd1 hB1 hB2 ⊢
 subst hB1 hB2
 refine nY rfl (sQ (sQ (W_le (Le.adoptBoxI (u := 60) (j := 3) (id := 192) rfl rfl rfl) (nY rfl (rG (eZ rfl (WO_nil' rfl rfl (lt_of rfl) rfl rfl rfl (eK 2 rfl (evE ?_)))))))))
 refine eZ rfl (oN (tN ?_))
 refine W_cond rfl (fun h3 => ?_) (fun h3 => ?_)
 ·
  simp only [HS] at h3
  refine W_skip (tN (W_block (sQ ?_)))
  have hl0 : 0 < (l.length : Int) := by omega
  have hf3 : m1.fuel ≤ R.2.2.m.fuel := hle.1
  have ht3 : m1.trace.length + m1.fuel ≤ R.2.2.m.trace.length + R.2.2.m.fuel := hle.2.1
  obtain ⟨q0, q1, q2⟩ := hbo.ok.off (l[((l.length : Int) - 1).toNat]'(by omega)) (hin _ (List.getElem_mem _))
  have hto1 := hL.call (l[((l.length : Int) - 1).toNat]'(by omega)) [] (some b1) m1 q0 q1 (by rw [q2]; rfl) hle.2.2
  have hCa := hIc (l[((l.length : Int) - 1).toNat]'(by omega)) [] (some b1) m1 bm bc ⟨fn, R.2.2.vars, l.take ((l.length : Int) - 1).toNat, R.2.2.res, byP bb b⟩ pv iv xv xt q0 q1 (by rw [q2]; rfl) hle.2.2 (by omega) (by omega) (by omega) (by omega)
  obtain ⟨R1, hR1⟩ : ∃ R1, R1 = (lev p inp most k).call (l[((l.length : Int) - 1).toNat]'(by omega)) [] (some b1) m1 := ⟨_, rfl⟩
  rw [← hR1] at hCa hto1
  obtain ⟨c1, hc1⟩ : ∃ c1, R1.2.2.1 = some c1 := by have := hto1.by'; cases h : R1.2.2.1 with | none => rw [h] at this; cases this | some c1 => exact ⟨c1, rfl⟩
  rw [hc1] at hCa
  have hh1 := hto1.h1
  have hh5 := hto1.h5
  obtain ⟨e1, he1⟩ : ∃ e1, e1 = haH R1.1 := ⟨_, rfl⟩
  rw [← he1] at hCa
  refine rG (eZ rfl (WO_nil' rfl rfl (lt_of rfl) rfl rfl rfl (eZ rfl (kZ [0,10,90,91,92,93,94,95,96,97,98] rfl (eZ rfl (evE ?_))))))
  refine evI ?_
  refine eZ rfl (oN (tN (sQ (rG (eZ rfl (WO_nil' rfl rfl (lt_of rfl) rfl rfl rfl (eK 3 rfl (kZ [0,10,13,90,91,92,93,94,95,96,97,98,99,100,101,102,103,104,105,106] rfl (WO_idxS tys rfl rfl (lt_of rfl) rfl rfl rfl rfl rfl rfl rfl rfl (by omega) (by omega) (WO_loadL tys rfl rfl (lt_of rfl) rfl rfl rfl rfl (getT0 _ _ (by omega) (by omega)) rfl (eZ rfl (oN (tN (sQ (rG ?_)))))))))))))))
  refine eK 2 rfl (WO_nil' rfl rfl (lt_of rfl) rfl rfl rfl (eK 3 rfl (kZ [0,10,13,14,90,91,92,93,94,95,96,97,98,99,100,101,102,103,104,105,106,107,108,109,110,111,112,113,114] rfl (WO_sliceS tys rfl rfl (lt_of rfl) rfl rfl rfl rfl rfl rfl rfl rfl rfl (by omega) (by omega) (by omega) (WO_nil' rfl rfl (lt_of rfl) rfl rfl rfl (eZ rfl (sT rfl (nZ rfl (oN (tN (sQ (W_le (Le.gatherBox (u := 60) (j := 3) (id := 192) rfl rfl rfl (by first | (simp; done) | (simp; omega)) rfl) ?_))))))))))))
  refine nY rfl (W_le (Le.eqK (id := 60) rfl (k' := .box (gC fn R.2.2.vars (l.take ((l.length : Int) - 1).toNat) R.2.2.res b1.how b1.pan b1.exd (byP bb b))) (by rw [← List.map_take]; rfl)) ?_)
  refine nY rfl (rG (eK 3 rfl (WO_le (Le.close (u := 60) 1060 rfl rfl rfl) (nZ rfl (WO_le (Le.close (u := 101) 1101 rfl rfl rfl) (nZ rfl ?_))))))
  refine WO_callP (rid := 99) [60, 101] rfl rfl (lt_of rfl) rfl rfl (by repeat (first | exact ResP.done | refine ResP.pin0 1060 rfl ?_ | refine ResP.pin0 1101 rfl ?_ | refine ResP.t ?_ | refine ResP.nil 1 ?_ | refine ResP.nil' ?_ | refine ResP.own ?_ | refine ResP.sl rfl rfl (by first | omega | (simp; omega)) ?_ | refine ResP.aggT (by repeat (first | exact ResP.done | refine ResP.t ?_)) ?_)) rfl (by repeat (first | exact trivial | refine ⟨rfl, rfl, ?_⟩)) (by decide) (hCa) rfl rfl rfl ?_
  refine nZ rfl (WO_le (Le.open (u := 60) 1060 rfl rfl rfl rfl) (nZ rfl (WO_le (Le.open (u := 101) 1101 rfl rfl rfl rfl) (nZ rfl (eZ rfl (kZ [0,10,13,14,90,91,92,93,94,95,96,97,98,99,100,101,102,103,104,105,106,107,108,109,110,111,112,113,114,115,116,117,118,119,120,121,122] rfl (WO_evF tys rfl rfl (lt_of rfl) (d := .t _) rfl (nZ rfl (WO_evF tys rfl rfl (lt_of rfl) (d := .t _) rfl (nZ rfl (eK 2 rfl (oN (tN (sQ (sQ ?_)))))))))))))))
  refine rG (eK 2 rfl (oN (tN ?_)))
  refine W_cond rfl (fun h4 => ?_) (fun h4 => ?_)
  ·
   simp only [HS] at h4
   refine sQ (rG (eK 2 rfl (oN (tN (W_le (Le.close (u := 101) 1101 rfl rfl rfl) (nY rfl (rT (tR (bR (loopQ_r (bR (tR ?_))))))))))))
   refine EndsP_of (ks := [_, _]) (.inr rfl) (ret_okF rfl) (by decide) rfl (noR_spec rfl) (by repeat (first | exact trivial | refine ⟨rfl, rfl, ?_⟩)) ?_ ?_
   ·first
    | (have hr5 := haH_4 (he1.symm.trans (by assumption)); have hout : lvC p inp most (k + 1) fn args b m = _ := ca_o hfz hdz hfd hR hr4 (ofI_stop hl0 hex hR1 hc1 hr5) hr5; exact retT (by rw [hout]; show 4 = haH R1.1; unfold haH; rw [if_pos hr5]) (by rw [hout]))
   ·first
    | (have hr5 := haH_4 (he1.symm.trans (by assumption)); have hout : lvC p inp most (k + 1) fn args b m = _ := ca_o hfz hdz hfd hR hr4 (ofI_stop hl0 hex hR1 hc1 hr5) hr5; rw [hout]; rfl)
  simp only [HS] at h4
  refine W_skip (tN (sQ ?_))
  have hr5 : ¬ 4 ≤ R1.1 := haH_n4 (by rw [← he1]; assumption)
  rw [haH_l (by omega)] at he1
  have hEn2 := endI_fun bc e1 R1.2.1 fn R.2.2.vars (l.take ((l.length : Int) - 1).toNat) R.2.2.res c1.how c1.pan c1.exd (byP bb b) (pv :: iv :: xv) (T.Funcs p.funcs :: T.ints inp :: xt)
  refine rG (eK 2 rfl (oN (tN ?_)))
  refine W_cond rfl (fun h5 => ?_) (fun h5 => ?_)
  ·
   simp only [HS] at h5
   refine kY [0,10,13,14,15,16,90,91,92,93,94,95,96,97,98,99,100,101,102,103,104,105,106,107,108,109,110,111,112,113,114,115,116,117,118,119,120,121,122,123,124,125,126,127,128] rfl (rG (eK 3 rfl (WO_le (Le.close (u := 60) 1060 rfl rfl rfl) (nZ rfl ?_))))
   refine WO_callP (rid := 99) [60] rfl rfl (lt_of rfl) rfl rfl (by repeat (first | exact ResP.done | refine ResP.pin0 1060 rfl ?_ | refine ResP.t ?_ | refine ResP.nil 1 ?_ | refine ResP.nil' ?_ | refine ResP.own ?_ | refine ResP.sl rfl rfl (by first | omega | (simp; omega)) ?_ | refine ResP.aggT (by repeat (first | exact ResP.done | refine ResP.t ?_)) ?_)) rfl (by repeat (first | exact trivial | refine ⟨rfl, rfl, ?_⟩)) (by decide) (hEn2) rfl rfl rfl ?_
   refine nZ rfl (WO_le (Le.open (u := 60) 1060 rfl rfl rfl rfl) (nZ rfl (oN (bN ?_))))
   refine lQ ((l.take ((l.length : Int) - 1).toNat), _, _) ?_ ?_
   ·dsimp only
    subst he1; first | exact ofI_next hl0 hin hlen hex hb1 hb2 hle hd1 hR1 hto1 hc1 hr5 rfl rfl (by rw [if_pos (show R1.1 = 1 from by omega)]; rfl) | exact ofI_next hl0 hin hlen hex hb1 hb2 hle hd1 hR1 hto1 hc1 hr5 rfl rfl (by rw [if_neg (show ¬ R1.1 = 1 from by omega)]; rfl)
   ·(try dsimp only); simp only [List.length_take]; omega
  simp only [HS] at h5
  refine W_skip (bN ?_)
  refine lQ ((l.take ((l.length : Int) - 1).toNat), _, _) ?_ ?_
  ·dsimp only
   subst he1; first | exact ofI_next hl0 hin hlen hex hb1 hb2 hle hd1 hR1 hto1 hc1 hr5 rfl rfl (by rw [if_pos (show R1.1 = 1 from by omega)]; rfl) | exact ofI_next hl0 hin hlen hex hb1 hb2 hle hd1 hR1 hto1 hc1 hr5 rfl rfl (by rw [if_neg (show ¬ R1.1 = 1 from by omega)]; rfl)
  ·(try dsimp only); simp only [List.length_take]; omega
 simp only [HS] at h3
 refine W_exit (tE (loopQ_e (inBlk_y (tN (sQ ?_)))))
 have hQ := ofI_end (by omega) hex
 have hout : lvC p inp most (k + 1) fn args b m = (b1.how, if b1.how = 2 then b1.pan else R.2.2.res, R.2.2.by', ⟨m1.used, m1.fuel, m1.deep - 1, m1.trace⟩) := ca_f hfz hdz hfd hR hr4 hQ (by show ¬ (4 : Int) ≤ 0; omega)
 have hdd : (m1.deep : Int) - 1 = ((m1.deep - 1 : Nat) : Int) := by omega
 refine rG (eZ rfl (WO_nil' rfl rfl (lt_of rfl) rfl rfl rfl (eZ rfl (kZ [10,133,135] rfl (eZ rfl (evI ?_))))))
 refine WO_nil' rfl rfl (lt_of rfl) rfl rfl rfl (eZ rfl (sT rfl (nZ rfl (oN (tN (sQ (sQ (rG (eZ rfl (WO_nil' rfl rfl (lt_of rfl) rfl rfl rfl (eK 2 rfl (kZ [10,143] rfl (eZ rfl (oN (tN ?_)))))))))))))))
 refine W_cond rfl (fun h4 => ?_) (fun h4 => ?_)
 ·
  simp only [HS] at h4
  refine sQ (W_regionD mixed (by kernel_rfl) (evQ ?_))
  refine QL_nil' rfl rfl (lt_of rfl) rfl rfl rfl (evQ ?_)
  refine evQ ?_
  refine evQ ?_
  refine QL_norm rfl (evQ ?_)
  refine QL_nil (tN (W_le (Le.close (u := 101) 1101 rfl rfl rfl) (nY rfl (rT (tR ?_)))))
  refine EndsP_of (ks := [_, _]) (.inr rfl) (ret_okF rfl) (by decide) rfl (noR_spec rfl) (by repeat (first | exact trivial | refine ⟨rfl, rfl, ?_⟩)) ?_ ?_
  ·first
   | exact retT (by rw [hout]; show 2 = haH b1.how; rw [show b1.how = 2 from by assumption]; rfl) (by rw [hout]; exact (if_pos (by assumption)).symm)
  ·first
   | (rw [hout]; simp only [fuH_1 hb2, coH_1 hb2]; rw [hdd]; rfl)
 simp only [HS] at h4
 refine W_skip (tN (sQ (W_regionD mixed (by kernel_rfl) (evQ ?_))))
 refine QL_nil' rfl rfl (lt_of rfl) rfl rfl rfl (evQ ?_)
 refine evQ ?_
 refine evQ ?_
 refine QL_norm rfl (QL_nil' rfl rfl (lt_of rfl) rfl rfl rfl (evQ ?_))
 refine evQ ?_
 refine evQ ?_
 refine evQ ?_
 refine QL_nil (tN (W_le (Le.close (u := 101) 1101 rfl rfl rfl) (nY rfl (rT ?_))))
 refine EndsP_of (ks := [_, _]) (.inr rfl) (ret_okF rfl) (by decide) rfl (noR_spec rfl) (by repeat (first | exact trivial | refine ⟨rfl, rfl, ?_⟩)) ?_ ?_
 ·first
  | exact retT (by rw [hout]; exact (haH_l hb2).symm) (by rw [hout]; exact (if_neg (by assumption)).symm)
 ·first
  | (rw [hout]; simp only [fuH_1 hb2, coH_1 hb2]; rw [hdd]; rfl)

end Go.Proofs.YtimpganophnehaaGreat
