/- Walks of how programs are cloned. -/
import Derived.Test.YtimpganophnehaaGreatGl
set_option linter.unusedVariables false
set_option linter.unusedSimpArgs false
set_option maxRecDepth 10000
set_option maxHeartbeats 1000000
namespace Go.Proofs.YtimpganophnehaaGreat
open Go.Eng

theorem cloneI_fun (l : List Int) (hl : l.length ≤ 1073741824) : Fun Tryz.prog 93 [.t (T.ints l)] (tupD [.own (T.ints l)]) := by
 refine Fun.begin tys Tryz.func93 rfl rfl (N := 8) [(0, .t (T.ints l))] rfl rfl (fun w0 G F0 => ?_)
 refine sQ (rG (eZ rfl (oN (tN (sQ (sQ (rG (eZ rfl ?_))))))))
 refine WO_nilEq (e := 3) rfl rfl (lt_of rfl) rfl (by kernel_rfl) rfl rfl (fun b hb => ?_)
 refine oN (tN ?_)
 refine W_cond rfl (fun h1 => ?_) (fun h1 => ?_)
 ·
  refine sQ (rG (eZ rfl (oN (tN (W_le (Le.nilOwn (u := 2) 1 rfl) (rT (tR (eR ?_))))))))
  ·have e := List.map_eq_nil_iff.1 (hb h1)
   rw [e]
   rfl
 refine W_skip (tN (sQ (rG ?_)))
 refine WO_buildSlice tys [] rfl rfl (lt_of rfl) rfl rfl rfl rfl rfl (by decide) (by repeat (first | exact PartsOk.nil' | refine PartsOk.cons' rfl (by repeat (first | exact AbsL.nil' | refine AbsL.v' ?_ | refine AbsL.own' ?_ | refine AbsL.none' ?_)) rfl ?_)) (by first | exact List.nodup_nil | exact nodup1 _ | decide | exact nodupB_sound rfl) rfl (by decide) ?_
 refine nZ rfl (eZ rfl (WO_append tys rfl rfl (lt_of rfl) rfl rfl rfl rfl rfl (.own rfl (by first | omega | (simp only [List.length_append]; omega))) rfl (.read (readI _)) (by decide) (by simp; omega) (by decide) rfl ?_))
 refine nZ rfl (eZ rfl (oN (tN (W_le (Le.gather (u := 2) (id := 5) rfl rfl (by simp)) ?_))))
 refine rT (eR ?_)
 ·show [D.own (.list 1 _)] = [D.own (.list 1 _)]
  simp only [List.take_length, List.nil_append, List.length_map]
  rw [List.take_of_length_le (by simp)]

theorem readTok (l : List Tok) : ∀ x, x ∈ l.map Tok.tt → (T.cells x).length = 2 ∧ ∀ y, y ∈ T.cells x → ∃ v, y = .v v := by
 intro x hx
 obtain ⟨t, _, rfl⟩ := List.mem_map.1 hx
 refine ⟨rfl, fun y hy => ?_⟩
 have : T.cells (Tok.tt t) = [T.int t.op, T.int t.n] := rfl
 rw [this] at hy
 rcases List.mem_cons.1 hy with rfl | hy
 ·exact ⟨_, rfl⟩
 ·rw [List.mem_singleton] at hy; exact ⟨_, hy⟩

theorem cloneTok_fun (l : List Tok) (hl : l.length ≤ 1073741824) : Fun Tryz.prog 94 [.t (T.Toks l)] (tupD [.own (T.Toks l)]) := by
 refine Fun.begin tys Tryz.func94 rfl rfl (N := 8) [(0, .t (T.Toks l))] rfl rfl (fun w0 G F0 => ?_)
 refine sQ (rG (eZ rfl (oN (tN (sQ (sQ (rG (eZ rfl ?_))))))))
 refine WO_nilEq (e := 141) rfl rfl (lt_of rfl) rfl (by kernel_rfl) rfl rfl (fun b hb => ?_)
 refine oN (tN ?_)
 refine W_cond rfl (fun h1 => ?_) (fun h1 => ?_)
 ·
  refine sQ (rG (eZ rfl (oN (tN (W_le (Le.nilOwn (u := 2) 2 rfl) (rT (tR (eR ?_))))))))
  ·have e := List.map_eq_nil_iff.1 (hb h1)
   rw [e]
   rfl
 refine W_skip (tN (sQ (rG ?_)))
 refine WO_buildSlice tys [] rfl rfl (lt_of rfl) rfl rfl rfl rfl rfl (by decide) (by repeat (first | exact PartsOk.nil' | refine PartsOk.cons' rfl (by repeat (first | exact AbsL.nil' | refine AbsL.v' ?_ | refine AbsL.own' ?_ | refine AbsL.none' ?_)) rfl ?_)) (by first | exact List.nodup_nil | exact nodup1 _ | decide | exact nodupB_sound rfl) rfl (by decide) ?_
 refine nZ rfl (eZ rfl (WO_append tys rfl rfl (lt_of rfl) rfl rfl rfl rfl rfl (.own rfl (by first | omega | (simp only [List.length_append]; omega))) rfl (.read (readTok _)) (by decide) (by simp; omega) (by decide) rfl ?_))
 refine nZ rfl (eZ rfl (oN (tN (W_le (Le.gather (u := 2) (id := 5) rfl rfl (by simp)) ?_))))
 refine rT (eR ?_)
 ·show [D.own (.list 2 _)] = [D.own (.list 2 _)]
  simp only [List.take_length, List.nil_append, List.length_map]
  rw [List.take_of_length_le (by simp)]

theorem cloneProg_fun (p : Prog) (hp : p.ok 1048576) : Fun Tryz.prog 52 [.t p.tt] (tupD [.agg [.own (T.Funcs p.funcs)]]) := by
  have hpl : p.funcs.length ≤ 1048576 := hp.1.1
  refine Fun.begin tys Tryz.func52 rfl rfl (N := 59) [(0, .t p.tt)] rfl rfl (fun w0 G F0 => ?_)
  refine sQ (rG (WO_box rfl rfl (lt_of rfl) rfl rfl (nZ rfl (WO_alloc tys rfl rfl (lt_of rfl) rfl rfl rfl (nZ rfl (oN (tN (sQ (rG (WO_alloc tys rfl rfl (lt_of rfl) rfl rfl rfl (nZ rfl (oN (tN (sQ (sQ ?_)))))))))))))))
  refine rG (nZ rfl (WO_le (Le.nilBox (u := 3) (j := 0) 4 rfl rfl) (nZ rfl (WO_le (Le.adoptBox (u := 3) (j := 0) (id := 190) rfl rfl rfl) (nZ rfl (eK 2 rfl (evE ?_)))))))
  refine eZ rfl (oN (tN (W_block ?_)))
  refine lK (α := Int × Nat × List T) [2, 3, 10, 11] [2] (fun x => [(12, .t (.int (x.1)))]) (fun x => [(3, .box [.sl 190 0 (x.2.1)]), (190, .L 4 (x.2.2))]) (fun x => 0 ≤ (x.1) ∧ (x.1) ≤ p.funcs.length ∧ (x.2.1) = (x.2.2).length ∧ (x.2.2) = (p.funcs.take (x.1).toNat).map Func.tt) (fun x => Int.toNat (p.funcs.length - (x.1))) (0, 0, []) ?_ (fun x hx => ?_)
  · exact ⟨by omega, by omega, rfl, rfl⟩
  obtain ⟨k, m, xs⟩ := x
  obtain ⟨hk0, hk1, hm, hxs⟩ := hx
  dsimp only at hk0 hk1 hm hxs ⊢
  refine nY rfl (sQ (rG (eZ rfl (oN (tN (sQ ?_))))))
  refine W_cond rfl (fun h1 => ?_) (fun h1 => ?_)
  ·
    simp only [HS] at h1
    refine W_skip (tN (sQ (W_block (sQ (rG (WO_idxT tys rfl rfl (lt_of rfl) rfl rfl rfl rfl rfl rfl rfl (by omega) _ (getT _ _ (by omega) (by omega)) ?_))))))
    have hf := func_ok hp (n := k.toNat) (by omega)
    have hl : (p.funcs[k.toNat]'(by omega)).stmts.length ≤ 1048576 := hf.2.1.1
    have hbl : (p.funcs[k.toNat]'(by omega)).body.length ≤ 1048576 := hf.1
    refine eZ rfl ?_
    try refine WO_le (Le.freeze (u := 15) rfl) ?_
    refine nZ rfl (WO_alloc tys rfl rfl (lt_of rfl) rfl rfl rfl (nZ rfl (sT rfl (nZ rfl (oN (tN (sQ (W_regionGm 9 mixed rfl (by kernel_rfl) (by kernel_rfl) (QG_ev tys rfl rfl (lt_of rfl) rfl (QG_norm rfl ?_))))))))))
    iterate 5 (refine QG_ev tys rfl rfl (lt_of rfl) rfl ?_)
    refine callBG ?_
    refine ⟨_, cloneI_fun _ (by omega), rfl, ?_⟩
    refine QG_norm rfl (QG_struct tys rfl rfl (lt_of rfl) rfl rfl rfl (by kernel_rfl) rfl rfl rfl rfl rfl rfl (QG_alloc tys rfl rfl (lt_of rfl) rfl rfl rfl rfl (QG_nil ?_)))
    refine ⟨by kernel_rfl, ?_⟩
    refine nZ rfl (sT rfl (nZ rfl (oN (tN (sQ (sQ (rG (nZ rfl (WO_le (Le.nilBox (u := 6) (j := 3) 5 rfl rfl) (nZ rfl (WO_le (Le.adoptBox (u := 6) (j := 3) (id := 180) rfl rfl rfl) (nZ rfl (eK 2 rfl (evE ?_))))))))))))))
    refine eZ rfl (oN (tN (W_block ?_)))
    refine lK (α := Int × Nat × List T) [2, 3, 6, 10, 11, 12, 25, 26] [2, 3, 190] (fun x => [(27, .t (.int (x.1)))]) (fun x => [(6, .box [.t (T.int (p.funcs[k.toNat]'(by omega)).params), .t (T.int (p.funcs[k.toNat]'(by omega)).vars), .own (T.ints (p.funcs[k.toNat]'(by omega)).body), .sl 180 0 (x.2.1)]), (180, .L 5 (x.2.2))]) (fun x => 0 ≤ (x.1) ∧ (x.1) ≤ (p.funcs[k.toNat]'(by omega)).stmts.length ∧ (x.2.1) = (x.2.2).length ∧ (x.2.2) = ((p.funcs[k.toNat]'(by omega)).stmts.take (x.1).toNat).map Stmt.tt) (fun x => Int.toNat ((p.funcs[k.toNat]'(by omega)).stmts.length - (x.1))) (0, 0, []) ?_ (fun x hx => ?_)
    · exact ⟨by omega, by omega, rfl, rfl⟩
    obtain ⟨j, m2, ys⟩ := x
    obtain ⟨hj0, hj1, hm2, hys⟩ := hx
    dsimp only at hj0 hj1 hm2 hys ⊢
    refine nY rfl (sQ (rG (eZ rfl (oN (tN (sQ ?_))))))
    refine W_cond rfl (fun h2 => ?_) (fun h2 => ?_)
    ·
      simp only [HS] at h2
      refine W_skip (tN (sQ (W_block (sQ (rG (WO_idxT tys rfl rfl (lt_of rfl) rfl rfl rfl rfl rfl rfl rfl (by omega) _ (getT _ _ (by omega) (by omega)) ?_))))))
      have hso := stmt_ok hf (n := j.toNat) (by omega)
      refine eZ rfl ?_
      try refine WO_le (Le.freeze (u := 30) rfl) ?_
      refine nZ rfl (WO_alloc tys rfl rfl (lt_of rfl) rfl rfl rfl (nZ rfl (sT rfl (nZ rfl (oN (tN (W_regionGm 17 mixed rfl (by kernel_rfl) (by kernel_rfl) (QG_ev tys rfl rfl (lt_of rfl) rfl (QG_norm rfl ?_)))))))))
      iterate 6 (refine QG_ev tys rfl rfl (lt_of rfl) rfl ?_)
      refine QG_norm rfl (QG_ev tys rfl rfl (lt_of rfl) rfl (callBG ?_))
      refine ⟨_, cloneTok_fun _ (by omega), rfl, ?_⟩
      refine QG_ev tys rfl rfl (lt_of rfl) rfl (QG_ev tys rfl rfl (lt_of rfl) rfl (callBG ?_))
      refine ⟨_, cloneI_fun _ (by omega), rfl, ?_⟩
      refine QG_ev tys rfl rfl (lt_of rfl) rfl (QG_norm rfl (QG_ev tys rfl rfl (lt_of rfl) rfl (callBG ?_)))
      refine ⟨_, cloneI_fun _ (by omega), rfl, ?_⟩
      refine QG_struct tys rfl rfl (lt_of rfl) rfl rfl rfl (by kernel_rfl) rfl rfl rfl rfl rfl rfl ?_
      refine QG_buildS tys [(((p.funcs[k.toNat]'(by omega)).stmts)[j.toNat]'(by omega)).tt] rfl rfl (lt_of rfl) rfl rfl rfl rfl rfl (lt_of rfl) (by repeat (first | exact PartsOk.nil' | refine PartsOk.cons' rfl (by repeat (first | exact AbsL.nil' | refine AbsL.v' ?_ | refine AbsL.own' ?_ | refine AbsL.none' ?_)) rfl ?_)) rfl rfl rfl (by decide) ?_
      refine QG_nil ?_
      refine ⟨by kernel_rfl, ?_⟩
      refine nZ rfl (WO_le (Le.adoptE (u := 47) 47 rfl rfl) (nZ rfl (WO_append tys rfl rfl (lt_of rfl) rfl rfl rfl rfl rfl (.own rfl (by first | omega | (simp only [List.length_append]; omega))) rfl (.own rfl (by first | decide | omega)) (by decide) (by simp only [List.length_take, List.length_cons, List.length_nil]; rw [hys, List.length_map, List.length_take]; omega) (by decide) rfl ?_)))
      refine nZ rfl (eZ rfl (sT rfl (nZ rfl (oN (bN (tN (rG (evI ?_))))))))
      refine eZ rfl (oN ?_)
      refine lQ (_, _, _) ?_ ?_
      · dsimp only
        subst hm2
        refine ⟨by omega, by omega, by simp, ?_⟩
        rw [List.take_length, hys, take_at hj0 (by omega), List.map_append]
        all_goals rfl
      · (show Int.toNat _ < Int.toNat _); omega
    simp only [HS] at h2
    refine W_exit (tE (loopQ_e (inBlk_y (tN (rG (eK 2 rfl (nZ rfl (WO_le (Le.gatherBox (u := 6) (j := 3) (id := 180) rfl rfl rfl (by omega) rfl) (nZ rfl (WO_loadMove tys rfl rfl (lt_of rfl) rfl rfl rfl rfl rfl rfl (nZ rfl ?_)))))))))))
    refine WO_buildSlice tys [.agg [T.int (p.funcs[k.toNat]'(by omega)).params, T.int (p.funcs[k.toNat]'(by omega)).vars, T.ints (p.funcs[k.toNat]'(by omega)).body, .list 5 (ys.take m2)]] rfl rfl (lt_of rfl) rfl rfl rfl rfl rfl (lt_of rfl) (by repeat (first | exact PartsOk.nil' | refine PartsOk.cons' rfl (by repeat (first | exact AbsL.nil' | refine AbsL.v' ?_ | refine AbsL.own' ?_ | refine AbsL.none' ?_)) rfl ?_)) (by first | exact List.nodup_nil | exact nodup1 _ | decide | exact nodupB_sound rfl) rfl (by decide) ?_
    refine nZ rfl (WO_append tys rfl rfl (lt_of rfl) rfl rfl rfl rfl rfl (.own rfl (by first | omega | (simp only [List.length_append]; omega))) rfl (.own rfl (by first | decide | omega)) (by decide) (by simp only [List.length_take, List.length_cons, List.length_nil]; rw [hxs, List.length_map, List.length_take]; omega) (by decide) rfl ?_)
    refine nZ rfl (eZ rfl (sT rfl (nZ rfl (oN (bN (tN (kY [2,3,6,10,11,12,25,26,27,28,51,52,53,54,55,56] rfl (rG (evI ?_)))))))))
    refine eZ rfl (oN ?_)
    refine lQ (_, _, _) ?_ ?_
    · dsimp only
      have e : (p.funcs[k.toNat]'(by omega)).tt = .agg [T.int (p.funcs[k.toNat]'(by omega)).params, T.int (p.funcs[k.toNat]'(by omega)).vars, T.ints (p.funcs[k.toNat]'(by omega)).body, .list 5 (ys.take m2)] := by
       rw [hm2, List.take_length, hys, take_end (l := (p.funcs[k.toNat]'(by omega)).stmts) (k := j) (by omega)]
       all_goals rfl
      subst hm
      refine ⟨by omega, by omega, by simp, ?_⟩
      rw [List.take_length, hxs, take_at hk0 (by omega), List.map_append, List.map_cons, List.map_nil, e]
      all_goals rfl
    · (show Int.toNat _ < Int.toNat _); omega
  simp only [HS] at h1
  refine W_exit (tE (loopQ_e (inBlk_y (tN (sQ (rG (nZ rfl (WO_le (Le.gatherBox (u := 3) (j := 0) (id := 190) rfl rfl rfl (by omega) rfl) (nZ rfl (WO_loadMove tys rfl rfl (lt_of rfl) rfl rfl rfl rfl rfl rfl (nZ rfl (sT rfl (nZ rfl (oN (tN ?_)))))))))))))))
  refine rT (eR ?_)
  · rw [hm, List.take_length, hxs, take_end (by omega)]
    all_goals rfl

end Go.Proofs.YtimpganophnehaaGreat
