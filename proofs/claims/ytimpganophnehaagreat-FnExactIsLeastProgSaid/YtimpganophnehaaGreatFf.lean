/- Walks of what the functions of programs are made of: sites, orders, blocks. -/
import Derived.Test.YtimpganophnehaaGreatFe
import Derived.Test.YtimpganophnehaaGreatMc
import Derived.Test.YtimpganophnehaaGreatPo
set_option linter.unusedVariables false
set_option linter.unusedSimpArgs false
set_option maxRecDepth 10000
set_option maxHeartbeats 1000000
namespace Go.Proofs.YtimpganophnehaaGreat
open Go.Eng

def sitesF : List Stmt → Int → List Int
 | [], _ => []
 | s :: l, k => if s.kind = 3 then k :: sitesF l (k + 1) else sitesF l (k + 1)
theorem sitesF_at {l : List Stmt} {k : Int} (h0 : 0 ≤ k) (h1 : k < l.length) : sitesF (l.drop k.toNat) k = if (l[k.toNat]'(by omega)).kind = 3 then k :: sitesF (l.drop (k + 1).toNat) (k + 1) else sitesF (l.drop (k + 1).toNat) (k + 1) := by
 rw [drop_at h0 h1, sitesF]

theorem l3Sites_fun (f : Func) (hf : f.ok 1048576) : Fun Tryz.prog 154 [.t f.tt] (tupD [.own (T.ints (sitesF f.stmts 0))]) := by
 have hl : f.stmts.length ≤ 1048576 := hf.2.1.1
 refine Fun.begin tys Tryz.func154 rfl rfl (N := 23) [(0, .t f.tt)] rfl rfl (fun w0 G F0 => ?_)
 refine sQ (rG (WO_box rfl rfl (lt_of rfl) rfl rfl (nZ rfl (eZ rfl (oN (tN (sQ (rG (eZ rfl (WO_le (Le.nilOwn (u := 3) 1 rfl) (WO_le (Le.adoptE (u := 3) 3 rfl rfl) (nZ rfl (oN (tN (sQ ?_)))))))))))))))
 refine sQ (rG (eK 2 rfl (evE ?_)))
 refine eZ rfl (oN (tN (W_block ?_)))
 refine lK (α := Int × Nat × List T) [7, 8] [] (fun x => [(9, .t (.int (x.1))), (3, .sl 3 0 (x.2.1))]) (fun x => [(3, .L 1 (x.2.2))]) (fun x => 0 ≤ (x.1) ∧ (x.1) ≤ f.stmts.length ∧ (x.2.1) = (x.2.2).length ∧ (x.2.2).length ≤ (x.1) ∧ ∃ done : List Int, (x.2.2) = done.map T.int ∧ sitesF f.stmts 0 = done ++ sitesF (f.stmts.drop (x.1).toNat) (x.1)) (fun x => Int.toNat (f.stmts.length - (x.1))) (0, 0, []) ?_ (fun x hx => ?_)
 ·exact ⟨by omega, by omega, rfl, Int.le_refl 0, [], rfl, rfl⟩
 obtain ⟨k, m, xs⟩ := x
 obtain ⟨hk0, hk1, hm, hx, done, hd, he⟩ := hx
 dsimp only at hk0 hk1 hm hx hd he ⊢
 refine nY rfl (sQ (rG (eZ rfl (oN (tN (sQ ?_))))))
 refine W_cond rfl (fun h1 => ?_) (fun h1 => ?_)
 ·
  simp only [HS] at h1
  refine W_skip (tN (sQ (W_block (sQ (rG (eZ rfl (WO_idxT tys rfl rfl (lt_of rfl) rfl rfl rfl rfl rfl rfl rfl (by omega) _ (getT _ _ (by omega) (by omega)) (eZ rfl ?_))))))))
  try refine WO_le (Le.freeze (u := 13) rfl) ?_
  refine nZ rfl (WO_alloc tys rfl rfl (lt_of rfl) rfl rfl rfl (nZ rfl (eZ rfl (sT rfl (nZ rfl (oN (tN (sQ (kY [3,4,5,7,8,9,10,11,12,13] rfl (rG (eK 3 rfl (oN (tN ?_)))))))))))))
  refine W_cond rfl (fun h2 => ?_) (fun h2 => ?_)
  ·
   simp only [HS] at h2
   refine rG (eK 2 rfl ?_)
   refine WO_buildSlice tys [T.int k] rfl rfl (lt_of rfl) rfl rfl rfl rfl rfl (lt_of rfl) (by repeat (first | exact PartsOk.nil' | refine PartsOk.cons' rfl (by repeat (first | exact AbsL.nil' | refine AbsL.v' ?_ | refine AbsL.own' ?_ | refine AbsL.none' ?_)) rfl ?_)) (by first | exact List.nodup_nil | exact nodup1 _ | decide | exact nodupB_sound rfl) rfl (by decide) ?_
   refine nZ rfl (WO_append tys rfl rfl (lt_of rfl) rfl rfl rfl rfl rfl (.own rfl (by first | omega | (simp only [List.length_append]; omega))) rfl (.own rfl (by first | decide | omega)) (by decide) (by simp only [List.length_take, List.length_cons, List.length_nil]; omega) (by decide) rfl ?_)
   refine nZ rfl (eZ rfl (oN (bN (tN (kY [3,4,5,7,8,9,10,11,12,13,14,15,16,17,18,19,20] rfl (rG (evI ?_)))))))
   refine eZ rfl (oN ?_)
   refine lQ (_, _, _) ?_ ?_
   ·dsimp only
    rw [sitesF_at hk0 h1] at he
    subst hm
    first
    | (refine ⟨by omega, by omega, by simp, by simp; omega, done ++ [k], by rw [List.take_length, hd]; simp, ?_⟩; rw [he, if_pos (by assumption)]; simp; done)
   ·(show Int.toNat _ < Int.toNat _); omega
  simp only [HS] at h2
  refine W_skip (bN (tN (rG (evI ?_))))
  refine eZ rfl (oN ?_)
  refine lQ (_, _, _) ?_ ?_
  ·dsimp only
   rw [sitesF_at hk0 h1] at he
   subst hm
   first
   | (refine ⟨by omega, by omega, rfl, by omega, done, hd, ?_⟩; rw [he, if_neg (by assumption)]; done)
  ·(show Int.toNat _ < Int.toNat _); omega
 simp only [HS] at h1
 refine W_exit (tE (loopQ_e (inBlk_y (tN (sQ (rG (eK 2 rfl (oN (tN (W_le (Le.gather (u := 2) (id := 3) rfl rfl (by omega)) (rT (eR ?_))))))))))))
 ·(rw [he, drop_end h1, sitesF, List.append_nil, hm, List.take_length, hd]; rfl)

theorem sitesOf_fun (f : Func) (hf : f.ok 1048576) : Fun Tryz.prog 209 [.t f.tt] (tupD [.own (T.ints (sitesF f.stmts 0))]) := by
 have hl : f.stmts.length ≤ 1048576 := hf.2.1.1
 refine Fun.begin tys Tryz.func209 rfl rfl (N := 23) [(0, .t f.tt)] rfl rfl (fun w0 G F0 => ?_)
 refine sQ (rG (WO_box rfl rfl (lt_of rfl) rfl rfl (nZ rfl (eZ rfl (oN (tN (sQ (rG (eZ rfl (WO_le (Le.nilOwn (u := 3) 1 rfl) (WO_le (Le.adoptE (u := 3) 3 rfl rfl) (nZ rfl (oN (tN (sQ ?_)))))))))))))))
 refine sQ (rG (eK 2 rfl (evE ?_)))
 refine eZ rfl (oN (tN (W_block ?_)))
 refine lK (α := Int × Nat × List T) [7, 8] [] (fun x => [(9, .t (.int (x.1))), (3, .sl 3 0 (x.2.1))]) (fun x => [(3, .L 1 (x.2.2))]) (fun x => 0 ≤ (x.1) ∧ (x.1) ≤ f.stmts.length ∧ (x.2.1) = (x.2.2).length ∧ (x.2.2).length ≤ (x.1) ∧ ∃ done : List Int, (x.2.2) = done.map T.int ∧ sitesF f.stmts 0 = done ++ sitesF (f.stmts.drop (x.1).toNat) (x.1)) (fun x => Int.toNat (f.stmts.length - (x.1))) (0, 0, []) ?_ (fun x hx => ?_)
 ·exact ⟨by omega, by omega, rfl, Int.le_refl 0, [], rfl, rfl⟩
 obtain ⟨k, m, xs⟩ := x
 obtain ⟨hk0, hk1, hm, hx, done, hd, he⟩ := hx
 dsimp only at hk0 hk1 hm hx hd he ⊢
 refine nY rfl (sQ (rG (eZ rfl (oN (tN (sQ ?_))))))
 refine W_cond rfl (fun h1 => ?_) (fun h1 => ?_)
 ·
  simp only [HS] at h1
  refine W_skip (tN (sQ (W_block (sQ (rG (eZ rfl (WO_idxT tys rfl rfl (lt_of rfl) rfl rfl rfl rfl rfl rfl rfl (by omega) _ (getT _ _ (by omega) (by omega)) (eZ rfl ?_))))))))
  try refine WO_le (Le.freeze (u := 13) rfl) ?_
  refine nZ rfl (WO_alloc tys rfl rfl (lt_of rfl) rfl rfl rfl (nZ rfl (eZ rfl (sT rfl (nZ rfl (oN (tN (sQ (kY [3,4,5,7,8,9,10,11,12,13] rfl (rG (eK 3 rfl (oN (tN ?_)))))))))))))
  refine W_cond rfl (fun h2 => ?_) (fun h2 => ?_)
  ·
   simp only [HS] at h2
   refine rG (eK 2 rfl ?_)
   refine WO_buildSlice tys [T.int k] rfl rfl (lt_of rfl) rfl rfl rfl rfl rfl (lt_of rfl) (by repeat (first | exact PartsOk.nil' | refine PartsOk.cons' rfl (by repeat (first | exact AbsL.nil' | refine AbsL.v' ?_ | refine AbsL.own' ?_ | refine AbsL.none' ?_)) rfl ?_)) (by first | exact List.nodup_nil | exact nodup1 _ | decide | exact nodupB_sound rfl) rfl (by decide) ?_
   refine nZ rfl (WO_append tys rfl rfl (lt_of rfl) rfl rfl rfl rfl rfl (.own rfl (by first | omega | (simp only [List.length_append]; omega))) rfl (.own rfl (by first | decide | omega)) (by decide) (by simp only [List.length_take, List.length_cons, List.length_nil]; omega) (by decide) rfl ?_)
   refine nZ rfl (eZ rfl (oN (bN (tN (kY [3,4,5,7,8,9,10,11,12,13,14,15,16,17,18,19,20] rfl (rG (evI ?_)))))))
   refine eZ rfl (oN ?_)
   refine lQ (_, _, _) ?_ ?_
   ·dsimp only
    rw [sitesF_at hk0 h1] at he
    subst hm
    first
    | (refine ⟨by omega, by omega, by simp, by simp; omega, done ++ [k], by rw [List.take_length, hd]; simp, ?_⟩; rw [he, if_pos (by assumption)]; simp; done)
   ·(show Int.toNat _ < Int.toNat _); omega
  simp only [HS] at h2
  refine W_skip (bN (tN (rG (evI ?_))))
  refine eZ rfl (oN ?_)
  refine lQ (_, _, _) ?_ ?_
  ·dsimp only
   rw [sitesF_at hk0 h1] at he
   subst hm
   first
   | (refine ⟨by omega, by omega, rfl, by omega, done, hd, ?_⟩; rw [he, if_neg (by assumption)]; done)
  ·(show Int.toNat _ < Int.toNat _); omega
 simp only [HS] at h1
 refine W_exit (tE (loopQ_e (inBlk_y (tN (sQ (rG (eK 2 rfl (oN (tN (W_le (Le.gather (u := 2) (id := 3) rfl rfl (by omega)) (rT (eR ?_))))))))))))
 ·(rw [he, drop_end h1, sitesF, List.append_nil, hm, List.take_length, hd]; rfl)

theorem l3Params_fun (p : Prog) (hp : p.ok 1048576) : Fun Tryz.prog 152 [.t p.tt] (tupD [.own (T.ints (p.funcs.map (·.params)))]) := by
 have hl : p.funcs.length ≤ 1048576 := hp.1.1
 refine Fun.begin tys Tryz.func152 rfl rfl (N := 20) [(0, .t p.tt)] rfl rfl (fun w0 G F0 => ?_)
 refine sQ (rG (WO_box rfl rfl (lt_of rfl) rfl rfl (nZ rfl (eZ rfl (oN (tN (sQ (rG (eZ rfl (WO_le (Le.nilOwn (u := 3) 1 rfl) (WO_le (Le.adoptE (u := 3) 3 rfl rfl) (nZ rfl (oN (tN (sQ ?_)))))))))))))))
 refine sQ (rG (eK 2 rfl (evE ?_)))
 refine eZ rfl (oN (tN (W_block ?_)))
 refine lK (α := Int × Nat × List T) [7, 8] [] (fun x => [(9, .t (.int (x.1))), (3, .sl 3 0 (x.2.1))]) (fun x => [(3, .L 1 (x.2.2))]) (fun x => 0 ≤ (x.1) ∧ (x.1) ≤ p.funcs.length ∧ (x.2.1) = (x.2.2).length ∧ (x.2.2).length ≤ (x.1) ∧ (x.2.2) = ((p.funcs.map (·.params)).take (x.1).toNat).map T.int) (fun x => Int.toNat (p.funcs.length - (x.1))) (0, 0, []) ?_ (fun x hx => ?_)
 ·exact ⟨by omega, by omega, rfl, Int.le_refl 0, rfl⟩
 obtain ⟨k, m, xs⟩ := x
 obtain ⟨hk0, hk1, hm, hx, hd⟩ := hx
 dsimp only at hk0 hk1 hm hx hd ⊢
 refine nY rfl (sQ (rG (eZ rfl (oN (tN (sQ ?_))))))
 refine W_cond rfl (fun h1 => ?_) (fun h1 => ?_)
 ·
  simp only [HS] at h1
  refine W_skip (tN (sQ (W_block (sQ (rG (WO_idxT tys rfl rfl (lt_of rfl) rfl rfl rfl rfl rfl rfl rfl (by omega) _ (getT _ _ (by omega) (by omega)) (eZ rfl ?_)))))))
  try refine WO_le (Le.freeze (u := 12) rfl) ?_
  refine nZ rfl (WO_alloc tys rfl rfl (lt_of rfl) rfl rfl rfl (nZ rfl (sT rfl (nZ rfl (oN (tN (rG (eK 3 rfl ?_))))))))
  refine WO_buildSlice tys [T.int (p.funcs[k.toNat]'(by omega)).params] rfl rfl (lt_of rfl) rfl rfl rfl rfl rfl (lt_of rfl) (by repeat (first | exact PartsOk.nil' | refine PartsOk.cons' rfl (by repeat (first | exact AbsL.nil' | refine AbsL.v' ?_ | refine AbsL.own' ?_ | refine AbsL.none' ?_)) rfl ?_)) (by first | exact List.nodup_nil | exact nodup1 _ | decide | exact nodupB_sound rfl) rfl (by decide) ?_
  refine nZ rfl (kZ [3,5,7,8,9,10,11,12,13,14,15,16] rfl (WO_append tys rfl rfl (lt_of rfl) rfl rfl rfl rfl rfl (.own rfl (by first | omega | (simp only [List.length_append]; omega))) rfl (.own rfl (by first | decide | omega)) (by decide) (by simp only [List.length_take, List.length_cons, List.length_nil]; omega) (by decide) rfl ?_))
  refine nZ rfl (eZ rfl (oN (bN (tN (rG (evI ?_))))))
  refine eZ rfl (oN ?_)
  refine lQ (_, _, _) ?_ ?_
  ·dsimp only
   subst hm
   refine ⟨by omega, by omega, by simp, by simp; omega, ?_⟩
   rw [List.take_length, hd, take_at hk0 (by simp; omega), List.map_append]; simp
  ·(show Int.toNat _ < Int.toNat _); omega
 simp only [HS] at h1
 refine W_exit (tE (loopQ_e (inBlk_y (tN (sQ (rG (eK 2 rfl (oN (tN (W_le (Le.gather (u := 2) (id := 3) rfl rfl (by omega)) (rT (eR ?_))))))))))))
 ·(rw [hm, List.take_length, hd, take_end (by simp; omega)]; rfl)

theorem paramsOf_fun (p : Prog) (hp : p.ok 1048576) : Fun Tryz.prog 169 [.t p.tt] (tupD [.own (T.ints (p.funcs.map (·.params)))]) := by
 have hl : p.funcs.length ≤ 1048576 := hp.1.1
 refine Fun.begin tys Tryz.func169 rfl rfl (N := 25) [(0, .t p.tt)] rfl rfl (fun w0 G F0 => ?_)
 refine sQ (rG (WO_box rfl rfl (lt_of rfl) rfl rfl (nZ rfl (eZ rfl (oN (tN (sQ (rG (eK 2 rfl (evE ?_))))))))))
 refine WO_make tys (.v (.int .i64 0)) _ rfl rfl (lt_of rfl) rfl rfl rfl rfl rfl (by repeat (first | exact AbsL.nil' | refine AbsL.v' ?_ | refine AbsL.none' ?_)) rfl (by omega) (by decide) ?_
 refine nZ rfl (eZ rfl (oN (tN (sQ (sQ (kY [1,2,3] rfl (rG (eK 2 rfl (evE ?_)))))))))
 refine eZ rfl (oN (tN (W_block ?_)))
 refine lK (α := Int × List T) [11, 12] [] (fun x => [(13, .t (.int (x.1))), (3, .sl 9 0 p.funcs.length)]) (fun x => [(9, .L 1 (x.2))]) (fun x => 0 ≤ (x.1) ∧ (x.1) ≤ p.funcs.length ∧ (x.2).length = p.funcs.length ∧ (x.2).take (x.1).toNat = ((p.funcs.map (·.params)).take (x.1).toNat).map T.int) (fun x => Int.toNat (p.funcs.length - (x.1))) (0, List.replicate p.funcs.length (T.int 0)) ?_ (fun x hx => ?_)
 ·exact ⟨by omega, by omega, by simp, by simp⟩
 obtain ⟨k, xs⟩ := x
 obtain ⟨hk0, hk1, hm, hd⟩ := hx
 dsimp only at hk0 hk1 hm hd ⊢
 refine nY rfl (sQ (rG (eZ rfl (oN (tN (sQ ?_))))))
 refine W_cond rfl (fun h1 => ?_) (fun h1 => ?_)
 ·
  simp only [HS] at h1
  refine W_skip (tN (sQ (W_block (sQ (rG (eZ rfl (WO_idxT tys rfl rfl (lt_of rfl) rfl rfl rfl rfl rfl rfl rfl (by omega) _ (getT _ _ (by omega) (by omega)) (eZ rfl ?_))))))))
  try refine WO_le (Le.freeze (u := 17) rfl) ?_
  refine nZ rfl (WO_alloc tys rfl rfl (lt_of rfl) rfl rfl rfl (nZ rfl (eZ rfl (sT rfl (nZ rfl (oN (tN (kY [3,4,5,11,12,13,14,15,16,17] rfl (rG (eK 4 rfl (WO_idxS tys rfl rfl (lt_of rfl) rfl rfl rfl rfl rfl rfl rfl rfl (by omega) (by omega) ?_)))))))))))
  refine WO_storeE tys (.v (.int .i64 _)) rfl rfl rfl rfl rfl rfl (by first | exact Nat.zero_add _ | rfl) (by omega) rfl (by repeat (first | exact AbsL.nil' | refine AbsL.v' ?_ | refine AbsL.own' ?_)) rfl rfl rfl ?_
  refine nZ rfl (oN (bN (tN (rG (evI ?_)))))
  refine eZ rfl (oN ?_)
  refine lQ (_, _) ?_ ?_
  ·dsimp only
   have q := fill_step (g := T.int) (l := p.funcs.map (·.params)) hk0 (by simp; omega) (by simpa using hm) hd
   exact ⟨by omega, by omega, by simpa using hm, by simpa using q⟩
  ·(show Int.toNat _ < Int.toNat _); omega
 simp only [HS] at h1
 refine W_exit (tE (loopQ_e (inBlk_y (tN (sQ (rG (eK 2 rfl (oN (tN (W_le (Le.gather (u := 2) (id := 9) rfl rfl (by omega)) (rT (eR ?_))))))))))))
 ·(rw [List.take_of_length_le (by omega), fill_end (l := p.funcs.map (·.params)) (by simp; omega) (by simpa using hm) hd]; rfl)

end Go.Proofs.YtimpganophnehaaGreat
