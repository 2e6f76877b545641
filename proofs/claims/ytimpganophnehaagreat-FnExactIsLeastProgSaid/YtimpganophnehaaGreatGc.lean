/- Walks of what a good program is, by the reference. -/
import Derived.Test.YtimpganophnehaaGreatGb
set_option linter.unusedVariables false
set_option linter.unusedSimpArgs false
set_option maxRecDepth 10000
set_option maxHeartbeats 1000000
namespace Go.Proofs.YtimpganophnehaaGreat
open Go.Eng

theorem stmtW_def {vars : Int} {ps : List Int} {s : Stmt} (h : stmtW vars ps s = true) (hk : s.kind = 3) : 0 ≤ s.n ∧ s.n < ps.length := by
 unfold stmtW at h
 simp [hk] at h
 omega
theorem goodW_of {ps : List Int} {f : Func} (h : goodW ps f = true) : shapeF f = true ∧ ∀ (m : Nat) (hm : m < f.stmts.length), stmtW f.vars ps (f.stmts[m]) = true := by
 unfold goodW at h
 rw [Bool.and_eq_true, List.all_eq_true] at h
 exact ⟨h.1, fun m hm => h.2 _ (List.getElem_mem hm)⟩
theorem goodF_W {ps : List Int} {f : Func} (h : goodF ps f = true) : goodW ps f = true := by
 unfold goodF goodW at *
 rw [Bool.and_eq_true, List.all_eq_true] at *
 exact ⟨h.1, fun s hs => by have := h.2 s hs; unfold stmtG at this; rw [Bool.and_eq_true] at this; exact this.1⟩
theorem site_at {f : Func} {ps : List Int} {q : Int} (hw : goodW ps f = true) (h0 : 0 ≤ q) (h1 : q < (sitesF f.stmts 0).length) :
  0 ≤ (sitesF f.stmts 0)[q.toNat]'(by omega) ∧ ∃ h : ((sitesF f.stmts 0)[q.toNat]'(by omega)).toNat < f.stmts.length, (f.stmts[((sitesF f.stmts 0)[q.toNat]'(by omega)).toNat]'h).kind = 3 ∧ 0 ≤ (f.stmts[((sitesF f.stmts 0)[q.toNat]'(by omega)).toNat]'h).n ∧ (f.stmts[((sitesF f.stmts 0)[q.toNat]'(by omega)).toNat]'h).n < ps.length := by
 obtain ⟨j, hj, he, hk⟩ := sitesF_mem.1 (List.getElem_mem (l := sitesF f.stmts 0) (n := q.toNat) (by omega))
 have hx : (((sitesF f.stmts 0)[q.toNat]'(by omega))).toNat = j := by omega
 refine ⟨by omega, by omega, ?_⟩
 have h2 := (goodW_of hw).2 _ hj
 have h3 := stmtW_def h2 hk
 simp only [hx]
 exact ⟨hk, h3⟩
theorem goodF_of {ps : List Int} {f : Func} (hw : goodW ps f = true) (h : ∀ (q : Nat) (hq : q < (sitesF f.stmts 0).length) (hm : ((sitesF f.stmts 0)[q]).toNat < f.stmts.length), atI ps (f.stmts[((sitesF f.stmts 0)[q]).toNat]).n = 0) : goodF ps f = true := by
 have hw' := goodW_of hw
 unfold goodF
 rw [Bool.and_eq_true, List.all_eq_true]
 refine ⟨hw'.1, fun s hs => ?_⟩
 obtain ⟨m, hm, rfl⟩ := List.getElem_of_mem hs
 unfold stmtG
 rw [Bool.and_eq_true]
 refine ⟨hw'.2 m hm, ?_⟩
 split
 ·rename_i hk
  obtain ⟨q, hq, he⟩ := List.getElem_of_mem (sitesF_mem.2 ⟨m, hm, rfl, hk⟩ : (0 : Int) + m ∈ sitesF f.stmts 0)
  have := h q hq (by rw [he]; omega)
  simp only [he, show ((0 : Int) + m).toNat = m from by omega] at this
  rw [this]; rfl
 ·rfl
theorem goodF_not {ps : List Int} {f : Func} {n : Nat} (hn : n < f.stmts.length) (hk : (f.stmts[n]).kind = 3) (h : ¬ atI ps (f.stmts[n]).n = 0) : goodF ps f = false := by
 rw [Bool.eq_false_iff]
 intro hg
 unfold goodF at hg
 rw [Bool.and_eq_true, List.all_eq_true] at hg
 have := hg.2 _ (List.getElem_mem hn)
 unfold stmtG at this
 rw [if_pos hk, Bool.and_eq_true] at this
 exact h (by simpa using this.2)

theorem goodProg_fun (p : Prog) (hp : p.ok 1048576) : Fun Tryz.prog 90 [.t p.tt] (tupD [.t (.bool (goodP p))]) := by
 have hl : p.funcs.length ≤ 1048576 := hp.1.1
 refine Fun.begin tys Tryz.func90 rfl rfl (N := 59) [(0, .t p.tt)] rfl rfl (fun w0 G F0 => ?_)
 refine sQ (rG (WO_box rfl rfl (lt_of rfl) rfl rfl (nZ rfl (eZ rfl (oN (tN (sQ (sQ (rG (eK 2 rfl (evE ?_)))))))))))
 refine callB ?_
 refine ⟨_, l1In_fun _ _ _, rfl, ?_⟩
 refine eK 2 rfl ?_
 refine WO_guard rfl rfl rfl rfl (lt_of rfl) (fun h1 => ?_) (fun h1 => ?_)
 rotate_left
 ·
  simp only [HS] at h1
  refine gN rfl rfl (kZ [1,2,12,14] rfl (gN rfl rfl (gN rfl rfl (eK 2 rfl (gN rfl rfl (gN rfl rfl (gN rfl rfl (gN rfl rfl (gN rfl rfl (kZ [1,2,18,23] rfl (gN rfl rfl (eZ rfl (oN (tN (W_condT rfl ?_)))))))))))))))
  refine sQ (rG (eZ rfl (oN (tN (rT (tR (eR ?_)))))))
  ·first
   | (refine retB ?_; rw [goodP]; simp only [h1, decide_false, Bool.false_and]; done)
 simp only [HS] at h1
 refine eZ rfl ?_
 try refine WO_le (Le.freeze (u := 13) rfl) ?_
 refine nZ rfl (gY rfl (callB ?_))
 refine ⟨_, l3Params_fun p hp, rfl, ?_⟩
 refine WO_le (Le.adoptE (u := 14) 14 rfl (by first | exact lenN | exact rfl)) ?_
 refine nZ rfl (kZ [1,2,12,14] rfl (gY rfl (callB ?_)))
 refine ⟨_, l2Params_fun _ (by simp; omega), rfl, ?_⟩
 refine gY rfl (eK 3 rfl ?_)
 refine WO_guard rfl rfl rfl rfl (lt_of rfl) (fun h2 => ?_) (fun h2 => ?_)
 rotate_left
 ·
  simp only [HS] at h2
  refine gN rfl rfl (gN rfl rfl (gN rfl rfl (gN rfl rfl (gN rfl rfl (kZ [1,2,18,24] rfl (eZ rfl (oN (tN (W_condT rfl (sQ (rG (eZ rfl (oN (tN (rT ?_)))))))))))))))
  refine tR (eR ?_)
  ·first
   | (refine retB ?_; rw [goodP, show paramsB (paramsL p) = false from h2]; simp; done)
 simp only [HS] at h2
 refine eZ rfl (gY rfl (eZ rfl (gY rfl (WO_idxT tys rfl rfl (lt_of rfl) rfl rfl rfl rfl rfl rfl rfl (by omega) _ (getT _ _ (by omega) (by omega)) (gY rfl (eZ rfl (gY rfl (eZ rfl (kZ [1,2,18,23] rfl (gY rfl (eK 2 rfl (oN (tN ?_)))))))))))))
 refine W_cond rfl (fun h3 => ?_) (fun h3 => ?_)
 ·
  simp only [HS] at h3
  refine sQ (rG (eZ rfl (oN (tN (rT (tR (eR ?_)))))))
  ·first
   | (refine retB ?_; have h3' : ¬ (p.funcs[(0 : Int).toNat]'(by simp; omega)).params = 0 := h3; rw [goodP, paramsL_at (by omega) (by omega)]; simp only [h3', decide_false, Bool.false_and, Bool.and_false]; done)
 simp only [HS] at h3
 refine W_skip (tN (sQ (sQ (rG (eK 2 rfl (evE ?_))))))
 refine eZ rfl (oN (tN (W_block ?_)))
 refine lK (α := Int) [1, 27, 28] [1] (fun x => [(29, .t (.int x))]) (fun x => []) (fun x => 0 ≤ x ∧ x ≤ p.funcs.length ∧ (p.funcs.take x.toNat).all (goodF (paramsL p)) = true ∧ PsOk (paramsL p) ∧ paramsB (paramsL p) = true ∧ goodP p = p.funcs.all (goodF (paramsL p))) (fun x => Int.toNat (p.funcs.length - x)) 0 ?_ (fun k hx => ?_)
 ·have hp2 : paramsB (paramsL p) = true := by assumption
  have h0' : (p.funcs[(0 : Int).toNat]'(by simp; omega)).params = 0 := by assumption
  refine ⟨by omega, by omega, by simp, paramsB_ok hp2, hp2, ?_⟩
  rw [goodP, hp2, paramsL_at (by omega) (by omega), h0']
  simp; intros; omega
 obtain ⟨hk0, hk1, hall, hps, hpb, hgp⟩ := hx
 refine nY rfl (sQ (rG (eZ rfl (oN (tN (sQ ?_))))))
 refine W_cond rfl (fun h4 => ?_) (fun h4 => ?_)
 ·
  simp only [HS] at h4
  refine W_skip (tN (sQ (W_block (sQ (rG (WO_idxT tys rfl rfl (lt_of rfl) rfl rfl rfl rfl rfl rfl rfl (by omega) _ (getT _ _ (by omega) (by omega)) (eZ rfl ?_)))))))
  try refine WO_le (Le.freeze (u := 32) rfl) ?_
  refine nZ rfl (WO_alloc tys rfl rfl (lt_of rfl) rfl rfl rfl (nZ rfl (sT rfl (nZ rfl (oN (tN (sQ (sQ (W_regionD mixed (by kernel_rfl) (evQ ?_))))))))))
  refine QL_norm rfl (evQ ?_)
  refine callBQ ?_
  refine ⟨_, l3Params_fun p hp, rfl, ?_⟩
  refine callBQ ?_
  refine ⟨_, l3Func_fun _ _ (func_ok hp _) hps hpb, rfl, ?_⟩
  refine evQ ?_
  refine QL_nil (tN ?_)
  refine W_cond rfl (fun h5 => ?_) (fun h5 => ?_)
  ·
   simp only [HS] at h5
   refine sQ (rG (eZ rfl (oN (tN (rT (tR (bR (tR (loopQ_r (bR (tR (eR ?_))))))))))))
   ·first
    | (refine retB ?_; rw [hgp, goodF_no hk0 h4 (Bool.eq_false_iff.2 fun h => Bool.eq_false_iff.1 h5 (goodF_W h))]; done)
  simp only [HS] at h5
  refine W_skip (tN (sQ (rG (eZ rfl ?_))))
  try refine WO_le (Le.freeze (u := 38) rfl) ?_
  refine nZ rfl (callB ?_)
  refine ⟨_, l3Sites_fun _ (func_ok hp _), rfl, ?_⟩
  refine WO_le (Le.adoptE (u := 39) 39 rfl (by first | exact lenN | exact rfl)) ?_
  refine nZ rfl (evE ?_)
  refine eZ rfl (oN (tN (W_block ?_)))
  refine lK (α := Int) [1, 4, 27, 28, 29, 39, 40] [1, 4, 39] (fun x => [(41, .t (.int x))]) (fun x => []) (fun x => 0 ≤ x ∧ x ≤ (sitesF (p.funcs[k.toNat]'(by omega)).stmts 0).length ∧ ∀ (i : Nat) (hi : i < (sitesF (p.funcs[k.toNat]'(by omega)).stmts 0).length), (i : Int) < x → ∀ (hm : ((sitesF (p.funcs[k.toNat]'(by omega)).stmts 0)[i]).toNat < (p.funcs[k.toNat]'(by omega)).stmts.length), atI (paramsL p) ((p.funcs[k.toNat]'(by omega)).stmts[((sitesF (p.funcs[k.toNat]'(by omega)).stmts 0)[i]).toNat]).n = 0) (fun x => Int.toNat ((sitesF (p.funcs[k.toNat]'(by omega)).stmts 0).length - x)) 0 ?_ (fun q hx => ?_)
  ·exact ⟨by omega, by omega, fun i hi h => by omega⟩
  obtain ⟨hq0, hq1, hqz⟩ := hx
  refine nY rfl (sQ (rG (eZ rfl (oN (tN (sQ ?_))))))
  refine W_cond rfl (fun h6 => ?_) (fun h6 => ?_)
  ·
   simp only [HS] at h6
   refine W_skip (tN (sQ (W_block (sQ (rG (WO_idxS tys rfl rfl (lt_of rfl) rfl rfl rfl rfl rfl rfl rfl rfl (by omega) (by omega) (WO_loadL tys rfl rfl (lt_of rfl) rfl rfl rfl rfl (getT0 _ _ (by omega) (by omega)) rfl ?_)))))))
   obtain ⟨hs0, hs1, hsk, hsn0, hsn1⟩ := site_at (ps := paramsL p) h5 hq0 h6
   rw [paramsL_len] at hsn1
   have hsl := sitesF_len (p.funcs[k.toNat]'(by omega)).stmts 0
   have hfl := (func_ok hp (n := k.toNat) (by omega)).2.1.1
   refine eZ rfl (oN (tN (sQ (W_regionD mixed (by kernel_rfl) (evQ ?_)))))
   refine evQ ?_
   refine QL_norm rfl (evQ ?_)
   refine evQ ?_
   refine evQ ?_
   refine QL_idxT tys rfl rfl (lt_of rfl) rfl rfl rfl rfl rfl rfl rfl (by omega) _ (getT _ _ (by omega) (by omega)) (evQ ?_)
   refine evQ ?_
   refine QL_norm rfl (QL_idxT tys rfl rfl (lt_of rfl) rfl rfl rfl rfl rfl rfl rfl (by omega) _ (getT _ _ (by omega) (by omega)) (evQ ?_))
   refine evQ ?_
   refine evQ ?_
   refine QL_nil (tN ?_)
   refine W_cond rfl (fun h7 => ?_) (fun h7 => ?_)
   ·
    simp only [HS] at h7
    refine sQ (rG (eZ rfl (oN (tN (rT (bR (tR (loopQ_r (bR (bR (tR (loopQ_r (bR (tR (eR ?_)))))))))))))))
    ·first
     | (refine retB ?_; rw [hgp, goodF_no hk0 h4 (goodF_not hs1 hsk (by rw [paramsL_at hsn0 hsn1]; assumption))]; done)
   simp only [HS] at h7
   refine W_skip (bN (tN (rG (evI ?_))))
   refine eZ rfl (oN ?_)
   refine lQ _ ?_ ?_
   ·skip
    refine ⟨by omega, by omega, fun i hi h hm => ?_⟩
    by_cases hiq : (i : Int) < q
    ·exact hqz i hi hiq hm
    ·obtain rfl : i = q.toNat := by omega
     rw [paramsL_at hsn0 hsn1]; assumption
   ·(show Int.toNat _ < Int.toNat _); omega
  simp only [HS] at h6
  refine W_exit (tE (loopQ_e (inBlk_y (bN (tN (rG (evI ?_)))))))
  refine eZ rfl (oN ?_)
  refine lQ _ ?_ ?_
  ·skip
   exact ⟨by omega, by omega, all_tk hk0 (by omega) hall (goodF_of h5 fun q hq hm => hqz q hq (by omega) hm), hps, hpb, hgp⟩
  ·(show Int.toNat _ < Int.toNat _); omega
 simp only [HS] at h4
 refine W_exit (tE (loopQ_e (inBlk_y (tN (sQ (rG (eZ rfl (oN (tN (rT (eR ?_)))))))))))
 ·first
  | (refine retB ?_; rw [hgp, all_fl (by omega) hall]; done)

end Go.Proofs.YtimpganophnehaaGreat
