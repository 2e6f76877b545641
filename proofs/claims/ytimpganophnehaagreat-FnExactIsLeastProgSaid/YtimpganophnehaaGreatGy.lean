/- Walks of DropStmt: the reference. -/
import Derived.Test.YtimpganophnehaaGreatGx
import Derived.Test.YtimpganophnehaaGreatGm
set_option linter.unusedVariables false
set_option linter.unusedSimpArgs false
set_option maxRecDepth 10000
set_option maxHeartbeats 1000000
namespace Go.Proofs.YtimpganophnehaaGreat
open Go.Eng

def leftS (gone : List Int) (s : Stmt) : Stmt := ⟨s.kind, s.n, s.ex, leftG gone s.thn, leftG gone s.els⟩
def wantG (gone : List Int) (n : Int) : Bool := !decide (n ∈ gone)
def leftF (gone : List Int) (f : Func) : Func := ⟨f.params, f.vars, leftG gone f.body, (pickC (wantG gone) 0 f.stmts).map (leftS gone)⟩
def goneK (p : Prog) (fn s k : Int) : List Int := if k = fn then ordF (funcAt p k) [s] else []
def dropP (p : Prog) (fn s : Int) : Prog := ⟨(List.range p.funcs.length).map fun k : Nat => leftF (goneK p fn s k) (funcAt p k)⟩
theorem dropP_len (p : Prog) (fn s : Int) : (dropP p fn s).funcs.length = p.funcs.length := by simp [dropP]
def dropT (p : Prog) (fn s : Int) (k : Nat) : List Func := (List.range k).map fun k : Nat => leftF (goneK p fn s k) (funcAt p k)
theorem dropT_succ (p : Prog) (fn s : Int) (k : Nat) : dropT p fn s (k + 1) = dropT p fn s k ++ [leftF (goneK p fn s k) (funcAt p k)] := by simp [dropT, List.range_succ]
theorem dropT_len (p : Prog) (fn s : Int) (k : Nat) : (dropT p fn s k).length = k := by simp [dropT]
theorem vals_in {N i : Int} {b : List Int} (h : inB N i b) (h0 : 0 ≤ i) (hN : N ≤ 1048576) : ∀ n, n ∈ b → -1073741824 ≤ n ∧ n ≤ 1073741824 := fun n hn => by have := h n hn; omega

theorem l18Drop_fun (p : Prog) (fn s : Int) (hp : p.ok 1048576) (hg : goodP p = true) (hf0 : 0 ≤ fn) (hf1 : fn < p.funcs.length) (hs0 : 0 ≤ s) (hs1 : s < (funcAt p fn).stmts.length) : Fun Tryz.prog 68 [.t p.tt, .t (.int fn), .t (.int s)] (tupD [.agg [.own (T.Funcs (dropP p fn s).funcs)]]) := by
  have hpl : p.funcs.length ≤ 1048576 := hp.1.1
  refine Fun.begin tys Tryz.func68 rfl rfl (N := 80) [(0, .t p.tt), (1, .t (.int fn)), (2, .t (.int s))] rfl rfl (fun w0 G F0 => ?_)
  refine sQ (rG (WO_box rfl rfl (lt_of rfl) rfl rfl (nZ rfl (WO_alloc tys rfl rfl (lt_of rfl) rfl rfl rfl (nZ rfl (oN (tN (sQ (rG (WO_alloc tys rfl rfl (lt_of rfl) rfl rfl rfl (nZ rfl (oN (tN (sQ (sQ ?_)))))))))))))))
  refine rG (nZ rfl (WO_le (Le.nilBox (u := 7) (j := 0) 4 rfl rfl) (nZ rfl (WO_le (Le.adoptBox (u := 7) (j := 0) (id := 190) rfl rfl rfl) (nZ rfl (eK 2 rfl (evE ?_)))))))
  refine eZ rfl (oN (tN (W_block ?_)))
  refine lK (α := Int × Nat × List T) [1, 2, 3, 6, 7, 15, 16] [3, 6] (fun x => [(17, .t (.int (x.1)))]) (fun x => [(7, .box [.sl 190 0 (x.2.1)]), (190, .L 4 (x.2.2))]) (fun x => 0 ≤ (x.1) ∧ (x.1) ≤ p.funcs.length ∧ (x.2.1) = (x.2.2).length ∧ (x.2.2) = (dropT p fn s (x.1).toNat).map Func.tt) (fun x => Int.toNat (p.funcs.length - (x.1))) (0, 0, []) ?_ (fun x hx => ?_)
  · exact ⟨by omega, by omega, rfl, rfl⟩
  obtain ⟨k, m, xs⟩ := x
  obtain ⟨hk0, hk1, hm, hxs⟩ := hx
  dsimp only at hk0 hk1 hm hxs ⊢
  refine nY rfl (sQ (rG (eZ rfl (oN (tN (sQ ?_))))))
  refine W_cond rfl (fun h1 => ?_) (fun h1 => ?_)
  ·
    simp only [HS] at h1
    refine W_skip (tN (sQ (W_block (sQ (rG (eZ rfl ?_))))))
    have hf := func_ok hp (n := k.toNat) (by omega)
    have hgf := goodP_fn hg (n := k.toNat) (by omega)
    have hfl := goodF_len hgf
    have hsh := goodF_shape hgf
    obtain ⟨hd, hib, hob⟩ := shapeF_iff hsh
    have hfa := funcAt_at (p := p) (n := k) (by omega)
    refine WO_idxT tys rfl rfl (lt_of rfl) rfl rfl rfl rfl rfl rfl rfl (by omega) _ (getT _ _ (by omega) (by omega)) (eZ rfl ?_)
    try refine WO_le (Le.freeze (u := 21) rfl) ?_
    refine nZ rfl (WO_alloc tys rfl rfl (lt_of rfl) rfl rfl rfl (nZ rfl (eZ rfl (sT rfl (nZ rfl (oN (tN (sQ (kY [1,2,3,6,7,8,9,15,16,17,18,19,20,21] rfl (rG (eZ rfl (WO_le (Le.nilT (u := 10) 1 rfl) (WO_le (Le.eqF (u := 10) (e := .t (T.ints [])) rfl rfl) (nZ rfl (oN ?_)))))))))))))))
    refine tN (sQ (sQ (rG (eK 3 rfl (oN (tN ?_))))))
    refine W_joinN (α := List Int) [1, 2, 3, 6, 7, 8, 9, 15, 16, 17, 18, 19, 20, 21, 22, 23, 24] [3, 6, 7, 9, 190] (fun x => [(10, .t (T.ints x))]) (fun x => []) (fun x => x = goneK p fn s k ∧ x.length ≤ 1048576) ?_ (fun g hx => ?_)
    ·
      refine W_cond rfl (fun h2 => ?_) (fun h2 => ?_)
      ·
        simp only [HS] at h2
        refine rG (eZ rfl ?_)
        try refine WO_le (Le.freeze (u := 25) rfl) ?_
        refine nZ rfl (eZ rfl (WO_callF rfl rfl (lt_of rfl) rfl rfl rfl rfl rfl (l18Gone_fun hf hfl hsh (p.funcs[k.toNat]'(by omega)).stmts.length s hs0 (by rw [hfa, show k = fn from by assumption]; exact hs1) (by omega)) rfl ?_))
        refine eZ rfl (oN ?_)
        refine joinQ_n _ (by (try dsimp only); repeat (first | exact Sub.nil' | refine Sub.cons' rfl ?_)) (by (try dsimp only); repeat (first | exact SubM.nil' | refine SubM.cons' rfl ?_)) ?_
        first
        | (refine ⟨?_, ?_⟩
           · rw [goneK, if_pos (by assumption), ← hfa]
           · have hq := gone_run hsh hs0 (by rw [hfa, show k = fn from by assumption]; exact hs1)
             have : (ordF (p.funcs[k.toNat]'(by omega)) [s]).length = goneN (p.funcs[k.toNat]'(by omega)) s := rfl
             omega)
      simp only [HS] at h2
      refine W_skip ?_
      refine joinQ_n _ (by (try dsimp only); repeat (first | exact Sub.nil' | refine Sub.cons' rfl ?_)) (by (try dsimp only); repeat (first | exact SubM.nil' | refine SubM.cons' rfl ?_)) ?_
      first
      | (refine ⟨?_, by simp⟩; rw [goneK, if_neg (by assumption)])
    obtain ⟨hgk, hgl⟩ := hx
    refine tN (sQ (kY [1,2,3,6,7,8,9,10,15,16,17,18,19,20,21,22,23,24] rfl (W_regionGm 10 mixed rfl (by kernel_rfl) (by kernel_rfl) ?_)))
    iterate 6 (refine QG_ev tys rfl rfl (lt_of rfl) rfl ?_)
    refine QG_norm rfl (QG_ev tys rfl rfl (lt_of rfl) rfl (callBG ?_))
    refine ⟨_, l18Left_fun _ _ hf.1 hgl (vals_in hib (by omega) (by omega)), rfl, ?_⟩
    refine QG_struct tys rfl rfl (lt_of rfl) rfl rfl rfl (by kernel_rfl) rfl rfl rfl rfl rfl rfl (QG_alloc tys rfl rfl (lt_of rfl) rfl rfl rfl rfl (QG_nil ?_))
    refine ⟨by kernel_rfl, ?_⟩
    refine nZ rfl (sT rfl (nZ rfl (oN (tN (sQ (sQ (rG (nZ rfl (WO_le (Le.nilBox (u := 11) (j := 3) 5 rfl rfl) (nZ rfl (WO_le (Le.adoptBox (u := 11) (j := 3) (id := 180) rfl rfl rfl) (nZ rfl (eK 2 rfl (evE ?_))))))))))))))
    refine eZ rfl (oN (tN (W_block ?_)))
    refine lK (α := Int × Nat × List T) [1, 2, 3, 6, 7, 9, 10, 11, 15, 16, 17, 38, 39] [3, 6, 7, 9, 190] (fun x => [(40, .t (.int (x.1)))]) (fun x => [(11, .box [.t (T.int (p.funcs[k.toNat]'(by omega)).params), .t (T.int (p.funcs[k.toNat]'(by omega)).vars), .own (T.ints (leftG g (p.funcs[k.toNat]'(by omega)).body)), .sl 180 0 (x.2.1)]), (180, .L 5 (x.2.2))]) (fun x => 0 ≤ (x.1) ∧ (x.1) ≤ (p.funcs[k.toNat]'(by omega)).stmts.length ∧ (x.2.1) = (x.2.2).length ∧ (x.2.2) = ((pickC (wantG g) 0 ((p.funcs[k.toNat]'(by omega)).stmts.take (x.1).toNat)).map (leftS g)).map Stmt.tt) (fun x => Int.toNat ((p.funcs[k.toNat]'(by omega)).stmts.length - (x.1))) (0, 0, []) ?_ (fun x hx => ?_)
    · exact ⟨by omega, by omega, rfl, rfl⟩
    obtain ⟨j, m2, ys⟩ := x
    obtain ⟨hj0, hj1, hm2, hys⟩ := hx
    dsimp only at hj0 hj1 hm2 hys ⊢
    refine nY rfl (sQ (rG (eZ rfl (oN (tN (sQ ?_))))))
    refine W_cond rfl (fun h2 => ?_) (fun h2 => ?_)
    ·
      simp only [HS] at h2
      refine W_skip (tN (sQ (W_block (sQ (rG (eZ rfl ?_))))))
      have hso := stmt_ok hf (n := j.toNat) (by omega)
      have hkd := hd j (by omega) (by omega)
      rw [kids_at (by omega)] at hkd
      refine WO_idxT tys rfl rfl (lt_of rfl) rfl rfl rfl rfl rfl rfl rfl (by omega) _ (getT _ _ (by omega) (by omega)) (eZ rfl ?_)
      try refine WO_le (Le.freeze (u := 44) rfl) ?_
      refine nZ rfl (WO_alloc tys rfl rfl (lt_of rfl) rfl rfl rfl (nZ rfl (eZ rfl (sT rfl (nZ rfl (oN (tN (sQ (kY [1,2,3,6,7,9,10,11,12,13,15,16,17,38,39,40,41,42,43,44] rfl (rG (eK 2 rfl (callB ?_))))))))))))
      refine ⟨_, l1Has_fun _ _ (by omega), rfl, ?_⟩
      refine eZ rfl (oN (tN ?_))
      refine W_cond rfl (fun h3 => ?_) (fun h3 => ?_)
      ·
        simp only [HS] at h3
        refine W_regionGm 20 mixed rfl (by kernel_rfl) (by kernel_rfl) (QG_ev tys rfl rfl (lt_of rfl) rfl (QG_ev tys rfl rfl (lt_of rfl) rfl (QG_norm rfl ?_)))
        iterate 4 (refine QG_ev tys rfl rfl (lt_of rfl) rfl ?_)
        refine QG_buildS tys [] rfl rfl (lt_of rfl) rfl rfl rfl rfl rfl (by decide) (by repeat (first | exact PartsOk.nil' | refine PartsOk.cons' rfl (by repeat (first | exact AbsL.nil' | refine AbsL.v' ?_ | refine AbsL.own' ?_ | refine AbsL.none' ?_)) rfl ?_)) rfl rfl rfl (by decide) ?_
        refine QG_ev tys rfl rfl (lt_of rfl) rfl (QG_norm rfl (QG_ev tys rfl rfl (lt_of rfl) rfl (QG_append tys rfl rfl (lt_of rfl) rfl rfl rfl rfl rfl rfl rfl rfl (fun _ => .read (readTok _)) (by simp; omega) (by decide) rfl ?_)))
        iterate 3 (refine QG_ev tys rfl rfl (lt_of rfl) rfl ?_)
        refine callBG ?_
        refine ⟨_, l18Left_fun _ _ hso.1 hgl (vals_in (inB_lower hkd.1 (show (0 : Int) ≤ j + 1 by omega)) (by omega) (by omega)), rfl, ?_⟩
        refine QG_norm rfl ?_
        iterate 3 (refine QG_ev tys rfl rfl (lt_of rfl) rfl ?_)
        refine callBG ?_
        refine ⟨_, l18Left_fun _ _ hso.2.1 hgl (vals_in (inB_lower hkd.2 (show (0 : Int) ≤ j + 1 by omega)) (by omega) (by omega)), rfl, ?_⟩
        refine QG_struct tys rfl rfl (lt_of rfl) rfl rfl rfl (by kernel_rfl) rfl rfl rfl rfl rfl rfl ?_
        refine QG_buildS tys [(leftS g ((p.funcs[k.toNat]'(by omega)).stmts[j.toNat]'(by omega))).tt] rfl rfl (lt_of rfl) rfl rfl rfl rfl rfl (lt_of rfl) (by repeat (first | exact PartsOk.nil' | refine PartsOk.cons' rfl (by repeat (first | exact AbsL.nil' | refine AbsL.v' ?_ | refine AbsL.own' ?_ | refine AbsL.none' ?_)) rfl ?_)) rfl rfl rfl (by decide) ?_
        refine QG_norm rfl (QG_nil ?_)
        refine ⟨by kernel_rfl, ?_⟩
        refine nZ rfl (WO_le (Le.adoptE (u := 68) 68 rfl rfl) (nZ rfl (WO_append tys rfl rfl (lt_of rfl) rfl rfl rfl rfl rfl (.own rfl (by first | omega | (simp only [List.length_append]; omega))) rfl (.own rfl (by first | decide | omega)) (by decide) (by simp only [List.length_take, List.length_cons, List.length_nil]; rw [hys, List.length_map, List.length_map]; have := pickC_len (wantG g) 0 ((p.funcs[k.toNat]'(by omega)).stmts.take j.toNat); simp at this; omega) (by decide) rfl ?_)))
        refine nZ rfl (eZ rfl (sT rfl (nZ rfl (oN (bN (tN (rG (evI ?_))))))))
        refine eZ rfl (oN ?_)
        refine lQ (_, _, _) ?_ ?_
        · dsimp only
          have hw : wantG g ((j.toNat : Nat) : Int) = true ↔ j ∉ g := by
           rw [show ((j.toNat : Nat) : Int) = j from by omega]
           simp [wantG]
          have hp1 := pickC_at (wantG g) (p.funcs[k.toNat]'(by omega)).stmts (k := j.toNat) (by omega)
          rw [show j.toNat + 1 = (j + 1).toNat from by omega] at hp1
          first
          | (rw [if_pos (hw.2 (by assumption))] at hp1
             subst hm2
             refine ⟨by omega, by omega, by simp, ?_⟩
             rw [List.take_length, hp1, hys, List.map_append, List.map_append]
             rfl)
        · (show Int.toNat _ < Int.toNat _); omega
      simp only [HS] at h3
      refine W_skip (bN (tN (rG (evI ?_))))
      refine eZ rfl (oN ?_)
      refine lQ (_, _, _) ?_ ?_
      · dsimp only
        have hw : wantG g ((j.toNat : Nat) : Int) = true ↔ j ∉ g := by
         rw [show ((j.toNat : Nat) : Int) = j from by omega]
         simp [wantG]
        have hp1 := pickC_at (wantG g) (p.funcs[k.toNat]'(by omega)).stmts (k := j.toNat) (by omega)
        rw [show j.toNat + 1 = (j + 1).toNat from by omega] at hp1
        first
        | (rw [if_neg (fun h => hw.1 h (by assumption)), List.append_nil] at hp1
           exact ⟨by omega, by omega, hm2, by rw [hp1]; exact hys⟩)
      · (show Int.toNat _ < Int.toNat _); omega
    simp only [HS] at h2
    refine W_exit (tE (loopQ_e (inBlk_y (tN (rG (nZ rfl (WO_le (Le.gatherBox (u := 11) (j := 3) (id := 180) rfl rfl rfl (by omega) rfl) (nZ rfl (eK 2 rfl (WO_loadMove tys rfl rfl (lt_of rfl) rfl rfl rfl rfl rfl rfl (nZ rfl ?_)))))))))))
    refine WO_buildSlice tys [.agg [T.int (p.funcs[k.toNat]'(by omega)).params, T.int (p.funcs[k.toNat]'(by omega)).vars, T.ints (leftG g (p.funcs[k.toNat]'(by omega)).body), .list 5 (ys.take m2)]] rfl rfl (lt_of rfl) rfl rfl rfl rfl rfl (lt_of rfl) (by repeat (first | exact PartsOk.nil' | refine PartsOk.cons' rfl (by repeat (first | exact AbsL.nil' | refine AbsL.v' ?_ | refine AbsL.own' ?_ | refine AbsL.none' ?_)) rfl ?_)) (by first | exact List.nodup_nil | exact nodup1 _ | decide | exact nodupB_sound rfl) rfl (by decide) ?_
    refine nZ rfl (WO_append tys rfl rfl (lt_of rfl) rfl rfl rfl rfl rfl (.own rfl (by first | omega | (simp only [List.length_append]; omega))) rfl (.own rfl (by first | decide | omega)) (by decide) (by simp only [List.length_take, List.length_cons, List.length_nil]; rw [hxs, List.length_map, dropT_len]; omega) (by decide) rfl ?_)
    refine nZ rfl (eZ rfl (sT rfl (nZ rfl (oN (bN (tN (kY [1,2,3,6,7,9,10,11,15,16,17,38,39,40,41,72,73,74,75,76,77] rfl (rG (evI ?_)))))))))
    refine eZ rfl (oN ?_)
    refine lQ (_, _, _) ?_ ?_
    · dsimp only
      have e : (leftF g (p.funcs[k.toNat]'(by omega))).tt = .agg [T.int (p.funcs[k.toNat]'(by omega)).params, T.int (p.funcs[k.toNat]'(by omega)).vars, T.ints (leftG g (p.funcs[k.toNat]'(by omega)).body), .list 5 (ys.take m2)] := by
       rw [hm2, List.take_length, hys, List.take_of_length_le (l := (p.funcs[k.toNat]'(by omega)).stmts) (by omega)]
       rfl
      subst hm
      refine ⟨by omega, by omega, by simp, ?_⟩
      rw [List.take_length, hxs, show (k + 1).toNat = k.toNat + 1 from by omega, dropT_succ, List.map_append, List.map_cons, List.map_nil, show ((k.toNat : Nat) : Int) = k from by omega, ← hgk, ← hfa, e]
      rfl
    · (show Int.toNat _ < Int.toNat _); omega
  simp only [HS] at h1
  refine W_exit (tE (loopQ_e (inBlk_y (tN (sQ (rG (nZ rfl (WO_le (Le.gatherBox (u := 7) (j := 0) (id := 190) rfl rfl rfl (by omega) rfl) (nZ rfl (WO_loadMove tys rfl rfl (lt_of rfl) rfl rfl rfl rfl rfl rfl (nZ rfl (sT rfl (nZ rfl (oN (tN ?_)))))))))))))))
  refine rT (eR ?_)
  · rw [hm, List.take_length, hxs, show k.toNat = p.funcs.length from by omega]
    rfl

end Go.Proofs.YtimpganophnehaaGreat
