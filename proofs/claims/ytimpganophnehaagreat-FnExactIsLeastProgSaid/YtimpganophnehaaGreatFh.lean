/- Walks of what the shape of a good function is. -/
import Derived.Test.YtimpganophnehaaGreatPg
set_option linter.unusedVariables false
set_option linter.unusedSimpArgs false
set_option maxRecDepth 10000
set_option maxHeartbeats 1000000
namespace Go.Proofs.YtimpganophnehaaGreat
open Go.Eng

theorem rise_step {l : List Int} {lo hi k : Int} (h0 : 0 ≤ k) (h1 : k < l.length) (h : riseP (l.take k.toNat) lo hi) (h2 : lo ≤ l[k.toNat]'(by omega) ∧ l[k.toNat]'(by omega) ≤ hi)
  (h3 : ∀ h : 0 < k, l[(k - 1).toNat]'(by omega) < l[k.toNat]'(by omega)) : riseP (l.take (k + 1).toNat) lo hi := by
 rw [take_at h0 h1]
 refine ⟨fun x hx => ?_, ?_⟩
 ·rcases List.mem_append.1 hx with hx | hx
  ·exact h.1 x hx
  ·rw [List.mem_singleton.1 hx]; exact h2
 ·rw [List.pairwise_append]
  refine ⟨h.2, List.pairwise_singleton _ _, fun a ha b hb => ?_⟩
  rw [List.mem_singleton.1 hb]
  obtain ⟨j, hj, rfl⟩ := List.getElem_of_mem ha
  rw [List.length_take] at hj
  have h4 := h3 (by omega)
  by_cases hjk : j = (k - 1).toNat
  ·subst hjk; rw [List.getElem_take]; exact h4
  ·have := List.pairwise_iff_getElem.1 h.2 j (k - 1).toNat (by rw [List.length_take]; omega) (by rw [List.length_take]; omega) (by omega)
   rw [List.getElem_take, List.getElem_take] at this
   rw [List.getElem_take]
   omega
theorem rise_no1 {l : List Int} {lo hi k : Int} (h0 : 0 ≤ k) (h1 : k < l.length) (h2 : ¬ (lo ≤ l[k.toNat]'(by omega) ∧ l[k.toNat]'(by omega) ≤ hi)) : riseB l lo hi = false := by
 unfold riseB; rw [decide_eq_false_iff_not]; intro h; exact h2 (h.1 _ (List.getElem_mem _))
theorem rise_no2 {l : List Int} {lo hi k : Int} (h0 : 0 < k) (h1 : k < l.length) (h2 : l[k.toNat]'(by omega) ≤ l[(k - 1).toNat]'(by omega)) : riseB l lo hi = false := by
 unfold riseB; rw [decide_eq_false_iff_not]; intro h
 have := List.pairwise_iff_getElem.1 h.2 (k - 1).toNat k.toNat (by omega) (by omega) (by omega)
 omega
theorem rise_yes {l : List Int} {lo hi k : Int} (h1 : (l.length : Int) ≤ k) (h : riseP (l.take k.toNat) lo hi) : riseB l lo hi = true := by
 rw [take_end h1] at h; unfold riseB; exact decide_eq_true h

theorem l1Rising_fun (l : List Int) (lo hi : Int) (hl : l.length ≤ 1073741824) : Fun Tryz.prog 224 [.t (T.ints l), .t (.int lo), .t (.int hi)] (tupD [.t (.bool (riseB l lo hi))]) := by
 refine Fun.begin tys Tryz.func224 rfl rfl (N := 35) [(0, .t (T.ints l)), (1, .t (.int lo)), (2, .t (.int hi))] rfl rfl (fun w0 G F0 => ?_)
 refine sQ (rG (eZ rfl (oN (tN (sQ (sQ (rG (eZ rfl (evE ?_)))))))))
 refine eZ rfl (oN (tN (W_block ?_)))
 refine lK (α := Int) [0, 1, 2, 9, 10] [] (fun x => [(11, .t (.int x))]) (fun x => []) (fun x => 0 ≤ x ∧ x ≤ l.length ∧ riseP (l.take x.toNat) lo hi) (fun x => Int.toNat (l.length - x)) 0 ?_ (fun k hx => ?_)
 ·exact ⟨by omega, by omega, fun x hx => by simp at hx, by simp⟩
 obtain ⟨hk0, hk1, hk2⟩ := hx
 refine nY rfl (sQ (rG (eZ rfl (oN (tN (sQ ?_))))))
 refine W_cond rfl (fun h1 => ?_) (fun h1 => ?_)
 ·
  simp only [HS] at h1
  refine W_skip (tN (sQ (W_block (sQ (rG (eZ rfl (WO_idxT tys rfl rfl (lt_of rfl) rfl rfl rfl rfl rfl rfl rfl (by omega) _ (getT _ _ (by omega) (by omega)) (eK 3 rfl (oN (tN (sQ (rG (eK 3 rfl (kZ [0,1,2,7,8,9,10,11,12,13,14,15,16,17,18] rfl (callB ?_)))))))))))))))
  refine ⟨_, l1In_fun _ _ _, rfl, ?_⟩
  refine eK 2 rfl ?_
  refine WO_guard rfl rfl rfl rfl (lt_of rfl) (fun h2 => ?_) (fun h2 => ?_)
  rotate_left
  ·
   simp only [HS] at h2
   refine gN rfl rfl (gN rfl rfl (gN rfl rfl (gN rfl rfl (gN rfl rfl (gN rfl rfl (kZ [0,1,2,7,8,9,10,11,12,13,14,15,16,17,18,19,20,21,22,23,24,25,26,27,28] rfl (gN rfl rfl (gN rfl rfl (gN rfl rfl (gN rfl rfl (eZ rfl (oN (tN (W_condT rfl (sQ ?_)))))))))))))))
   refine rG (eZ rfl (oN (tN (rT (bR (tR (loopQ_r (bR (tR (eR ?_))))))))))
   ·exact retB (rise_no1 hk0 (by omega) h2).symm
  simp only [HS] at h2
  refine eZ rfl (gY rfl (eZ rfl (gY rfl (eZ rfl ?_))))
  refine WO_guard rfl rfl rfl rfl (lt_of rfl) (fun h3 => ?_) (fun h3 => ?_)
  rotate_left
  ·
   simp only [HS] at h3
   refine gN rfl rfl (gN rfl rfl (gN rfl rfl (kZ [0,1,2,7,8,9,10,11,12,13,14,15,16,17,18,19,20,21,22,23,24,25,26,27,28] rfl (gN rfl rfl (gN rfl rfl (gN rfl rfl (gY rfl (eK 2 rfl (oN (tN (W_condF rfl (W_skip (bN (tN (rG ?_)))))))))))))))
   refine evI ?_
   refine eZ rfl (oN ?_)
   refine lQ _ ?_ ?_
   ·skip
    exact ⟨by omega, by omega, rise_step hk0 (by omega) hk2 h2 (fun h => by omega)⟩
   ·(show Int.toNat _ < Int.toNat _); omega
  simp only [HS] at h3
  refine eZ rfl (gY rfl (eZ rfl (gY rfl (evI ?_))))
  refine kZ [0,1,2,7,8,9,10,11,12,13,14,15,16,17,18,19,20,21,22,23,24,25,26,27] rfl (gY rfl (WO_idxT tys rfl rfl (lt_of rfl) rfl rfl rfl rfl rfl rfl rfl (by omega) _ (getT _ _ (by omega) (by omega)) (gY rfl (eZ rfl (gY rfl (eZ rfl (gY rfl (eZ rfl (gY rfl (eK 2 rfl (oN (tN ?_))))))))))))
  refine W_cond rfl (fun h4 => ?_) (fun h4 => ?_)
  ·
   simp only [HS] at h4
   refine sQ (rG (eZ rfl (oN (tN (rT (bR (tR (loopQ_r (bR (tR (eR ?_)))))))))))
   ·exact retB (rise_no2 (by assumption) (by omega) (by assumption)).symm
  simp only [HS] at h4
  refine W_skip (bN (tN (rG (evI ?_))))
  refine eZ rfl (oN ?_)
  refine lQ _ ?_ ?_
  ·skip
   exact ⟨by omega, by omega, rise_step hk0 (by omega) hk2 h2 (fun h => by omega)⟩
  ·(show Int.toNat _ < Int.toNat _); omega
 simp only [HS] at h1
 refine W_exit (tE (loopQ_e (inBlk_y (tN (sQ (rG (eZ rfl (oN (tN (rT (eR ?_)))))))))))
 ·exact retB (rise_yes (by omega) hk2).symm

theorem readI (l : List Int) : ∀ x, x ∈ l.map T.int → (T.cells x).length = 1 ∧ ∀ y, y ∈ T.cells x → ∃ v, y = .v v := by
 intro x hx
 obtain ⟨a, _, rfl⟩ := List.mem_map.1 hx
 exact ⟨rfl, fun y hy => ⟨_, List.mem_singleton.1 hy⟩⟩

def ordF (f : Func) (b : List Int) : List Int := ord f.stmts.length (kids f.stmts) b
theorem ordF_step {f : Func} (hd : downB f.stmts.length (kids f.stmts)) {b : List Int} (hb : inB f.stmts.length 0 b) {k : Int} (h0 : 0 ≤ k) (h1 : k < b.length) (hn : (b[k.toNat]'(by omega)).toNat < f.stmts.length) :
  ordF f (b.drop k.toNat) = b[k.toNat]'(by omega) :: (ordF f (f.stmts[(b[k.toNat]'(by omega)).toNat]'hn).thn ++ (ordF f (f.stmts[(b[k.toNat]'(by omega)).toNat]'hn).els ++ ordF f (b.drop (k + 1).toNat))) := by
 have e := drop_at h0 h1
 rw [e]
 unfold ordF
 rw [ord_cons hd fun x hx => hb x (by rw [← e] at hx; exact List.mem_of_mem_drop hx), kids_at hn]
 simp only [List.cons_append, List.append_assoc]
theorem ordF_nil {f : Func} : ordF f [] = [] := ord_nil

theorem l3Order_fun0 (f : Func) (b : List Int) (hf : f.ok 1048576) (hd : downB f.stmts.length (kids f.stmts)) (hb : inB f.stmts.length 0 b) (hbl : b.length ≤ 1048576) (hlen : (ordF f b).length ≤ 1048576) (ih : ∀ n, n ∈ b → ∀ h : n.toNat < f.stmts.length, Fun Tryz.prog 201 [.t f.tt, .t (T.ints (f.stmts[n.toNat]).thn)] (.own (T.ints (ordF f (f.stmts[n.toNat]).thn))) ∧ Fun Tryz.prog 201 [.t f.tt, .t (T.ints (f.stmts[n.toNat]).els)] (.own (T.ints (ordF f (f.stmts[n.toNat]).els)))) : Fun Tryz.prog 201 [.t f.tt, .t (T.ints b)] (tupD [.own (T.ints (ordF f b))]) := by
 have hl : f.stmts.length ≤ 1048576 := hf.2.1.1
 refine Fun.begin tys Tryz.func201 rfl rfl (N := 40) [(0, .t f.tt), (1, .t (T.ints b))] rfl rfl (fun w0 G F0 => ?_)
 refine sQ (rG (WO_box rfl rfl (lt_of rfl) rfl rfl (nZ rfl (eZ rfl (oN (tN (sQ (rG (eZ rfl (WO_le (Le.nilOwn (u := 5) 1 rfl) (WO_le (Le.adoptE (u := 5) 5 rfl rfl) (nZ rfl (oN (tN (sQ ?_)))))))))))))))
 refine sQ (rG (eZ rfl (evE ?_)))
 refine eZ rfl (oN (tN (W_block ?_)))
 refine lK (α := Int × Nat × List T) [2, 8, 9] [2] (fun x => [(10, .t (.int (x.1))), (5, .sl 5 0 (x.2.1))]) (fun x => [(5, .L 1 (x.2.2))]) (fun x => 0 ≤ (x.1) ∧ (x.1) ≤ b.length ∧ (x.2.1) = (x.2.2).length ∧ ∃ done : List Int, (x.2.2) = done.map T.int ∧ ordF f b = done ++ ordF f (b.drop (x.1).toNat)) (fun x => Int.toNat (b.length - (x.1))) (0, 0, []) ?_ (fun x hx => ?_)
 ·exact ⟨by omega, by omega, rfl, [], rfl, rfl⟩
 obtain ⟨k, m, xs⟩ := x
 obtain ⟨hk0, hk1, hm, done, hx, he⟩ := hx
 dsimp only at hk0 hk1 hm hx he ⊢
 refine nY rfl (sQ (rG (eZ rfl (oN (tN (sQ ?_))))))
 refine W_cond rfl (fun h1 => ?_) (fun h1 => ?_)
 ·
  simp only [HS] at h1
  refine W_skip (tN (sQ (W_block (sQ (rG (WO_idxT tys rfl rfl (lt_of rfl) rfl rfl rfl rfl rfl rfl rfl (by omega) _ (getT _ _ (by omega) (by omega)) (eZ rfl ?_)))))))
  have hn := hb _ (List.getElem_mem (l := b) (n := k.toNat) (by omega))
  have hs := ordF_step hd hb hk0 h1 (by omega)
  have hq := congrArg List.length he
  rw [hs] at hq
  simp only [List.length_append, List.length_cons] at hq
  have hxl := congrArg List.length hx
  rw [List.length_map] at hxl
  refine eZ rfl (oN (tN (sQ (rG (eK 2 rfl ?_)))))
  refine WO_buildSlice tys [T.int (b[k.toNat]'(by omega))] rfl rfl (lt_of rfl) rfl rfl rfl rfl rfl (lt_of rfl) (by repeat (first | exact PartsOk.nil' | refine PartsOk.cons' rfl (by repeat (first | exact AbsL.nil' | refine AbsL.v' ?_ | refine AbsL.own' ?_ | refine AbsL.none' ?_)) rfl ?_)) (by first | exact List.nodup_nil | exact nodup1 _ | decide | exact nodupB_sound rfl) rfl (by decide) ?_
  refine nZ rfl (WO_append tys rfl rfl (lt_of rfl) rfl rfl rfl rfl rfl (.own rfl (by first | omega | (simp only [List.length_append]; omega))) rfl (.own rfl (by first | decide | omega)) (by decide) (by simp only [List.length_take, List.length_cons, List.length_nil]; omega) (by decide) rfl ?_)
  refine nZ rfl (eZ rfl (kZ [2,5,7,8,9,10,11,12,13,14,15,16,17] rfl (oN (tN (sQ (W_regionDm 9 mixed rfl (by kernel_rfl) (by kernel_rfl) (evQ ?_)))))))
  refine evQ ?_
  refine evQ ?_
  refine evQ ?_
  refine evQ ?_
  refine QL_idxT tys rfl rfl (lt_of rfl) rfl rfl rfl rfl rfl rfl rfl (by omega) _ (getT _ _ (by omega) (by omega)) (QL_norm rfl (evQ ?_))
  refine evQ ?_
  refine callBQ ?_
  refine ⟨_, (ih _ (List.getElem_mem _) _).1, rfl, ?_⟩
  refine QL_nil (nZ rfl (WO_le (Le.freeze (u := 26) rfl) (nZ rfl (WO_append tys rfl rfl (lt_of rfl) rfl rfl rfl rfl rfl (.own rfl (by first | omega | (simp only [List.length_append]; omega))) rfl (.read (readI _)) (by decide) (by simp only [List.length_take, List.length_append, List.length_map, List.length_cons, List.length_nil]; omega) (by decide) rfl ?_))))
  refine nZ rfl (eZ rfl (oN (tN (W_regionDm 9 mixed rfl (by kernel_rfl) (by kernel_rfl) (evQ ?_)))))
  refine evQ ?_
  refine evQ ?_
  refine evQ ?_
  refine QL_norm rfl (evQ ?_)
  refine QL_idxT tys rfl rfl (lt_of rfl) rfl rfl rfl rfl rfl rfl rfl (by omega) _ (getT _ _ (by omega) (by omega)) (evQ ?_)
  refine evQ ?_
  refine callBQ ?_
  refine ⟨_, (ih _ (List.getElem_mem _) _).2, rfl, ?_⟩
  refine QL_nil (nZ rfl (WO_le (Le.freeze (u := 36) rfl) (nZ rfl (WO_append tys rfl rfl (lt_of rfl) rfl rfl rfl rfl rfl (.own rfl (by first | omega | (simp only [List.length_append]; omega))) rfl (.read (readI _)) (by decide) (by simp only [List.length_take, List.length_append, List.length_map, List.length_cons, List.length_nil]; omega) (by decide) rfl ?_))))
  refine nZ rfl (eZ rfl (oN (bN (tN (rG (evI ?_))))))
  refine eZ rfl (oN ?_)
  refine lQ (_, _, _) ?_ ?_
  ·dsimp only
   refine ⟨by omega, by omega, by simp, done ++ b[k.toNat]'(by omega) :: (ordF f (f.stmts[(b[k.toNat]'(by omega)).toNat]'(by omega)).thn ++ ordF f (f.stmts[(b[k.toNat]'(by omega)).toNat]'(by omega)).els), ?_, ?_⟩
   ·subst hm hx; repeat rw [List.take_of_length_le (by simp)]
    simp
   ·rw [he, hs]; simp
  ·(show Int.toNat _ < Int.toNat _); omega
 simp only [HS] at h1
 refine W_exit (tE (loopQ_e (inBlk_y (tN (sQ (rG (eK 2 rfl (oN (tN (W_le (Le.gather (u := 4) (id := 5) rfl rfl (by omega)) (rT (eR ?_))))))))))))
 ·(rw [he, drop_end h1, ordF_nil, List.append_nil, hm, List.take_length, hx]; rfl)

theorem ordF_sub {f : Func} (hd : downB f.stmts.length (kids f.stmts)) : ∀ {b : List Int}, inB f.stmts.length 0 b → ∀ n, n ∈ b → ∀ h : n.toNat < f.stmts.length, (ordF f (f.stmts[n.toNat]).thn).length + (ordF f (f.stmts[n.toNat]).els).length ≤ (ordF f b).length
 | [], _, n, hn, _ => by cases hn
 | x :: b, hb, n, hn, h => by
  have e := ordF_step hd hb (k := 0) (by omega) (by simp) (by have := hb x (List.mem_cons_self ..); simp; omega)
  have e2 := congrArg List.length e
  simp only [Int.toNat_zero, List.drop_zero, List.getElem_cons_zero, List.length_cons, List.length_append, Int.zero_add, List.drop_succ_cons, Int.reduceToNat] at e2
  rcases List.mem_cons.1 hn with rfl | hn
  ·omega
  ·have := ordF_sub hd (fun y hy => hb y (List.mem_cons_of_mem _ hy)) n hn h
   omega
theorem stmt_ok {f : Func} (hf : f.ok 1048576) {n : Nat} (h : n < f.stmts.length) : (f.stmts[n]).thn.length ≤ 1048576 ∧ (f.stmts[n]).els.length ≤ 1048576 ∧ (f.stmts[n]).ex.length ≤ 1048576 := by
 have := hf.2.1.2 _ (List.getElem_mem h)
 exact ⟨this.2.1, this.2.2.1, this.1⟩
theorem l3Order_fun (f : Func) (hf : f.ok 1048576) (hd : downB f.stmts.length (kids f.stmts)) : ∀ (k : Nat) (i : Int) (b : List Int), 0 ≤ i → f.stmts.length - i ≤ k → inB f.stmts.length i b → b.length ≤ 1048576 → (ordF f b).length ≤ 1048576 →
  Fun Tryz.prog 201 [.t f.tt, .t (T.ints b)] (.own (T.ints (ordF f b)))
 | k, i, b, hi, hk, hb, hbl, hlen => by
  refine l3Order_fun0 f b hf hd (inB_lower hb hi) hbl hlen fun n hn h => ?_
  have h1 := hb n hn
  have h2 := hd n (by omega) h1.2
  have h3 := ordF_sub hd (inB_lower hb hi) n hn h
  have h4 := stmt_ok hf h
  rw [kids_at h] at h2
  match k, hk with
  | 0, hk => omega
  | k + 1, hk => exact ⟨l3Order_fun f hf hd k (n + 1) _ (by omega) (by omega) h2.1 h4.1 (by omega), l3Order_fun f hf hd k (n + 1) _ (by omega) (by omega) h2.2 h4.2.1 (by omega)⟩
theorem l3Order_fun' (f : Func) (hf : f.ok 1048576) (hd : downB f.stmts.length (kids f.stmts)) {b : List Int} (hb : inB f.stmts.length 0 b) (hbl : b.length ≤ 1048576) (hlen : (ordF f b).length ≤ 1048576) :
  Fun Tryz.prog 201 [.t f.tt, .t (T.ints b)] (.own (T.ints (ordF f b))) := l3Order_fun f hf hd f.stmts.length 0 b (by omega) (by omega) hb hbl hlen

theorem ordO {F : Nat} {ds : List D} {o : List Int} {y : T} {z : List T} (h : z = o.map T.int) (hf : FunO Tryz.prog F ds (T.ints o) y) : FunO Tryz.prog F ds (.list 1 z) y := by rw [h]; exact hf

theorem orderOf_fun0 (f : Func) (b o : List Int) (hf : f.ok 1048576) (hd : downB f.stmts.length (kids f.stmts)) (hb : inB f.stmts.length 0 b) (hbl : b.length ≤ 1048576) (hlen : o.length + (ordF f b).length ≤ 2097152) (ih : ∀ n, n ∈ b → ∀ h : n.toNat < f.stmts.length, ∀ o : List Int, (o.length + (ordF f (f.stmts[n.toNat]).thn).length ≤ 2097152 → FunO Tryz.prog 128 [.t f.tt, .t (T.ints (f.stmts[n.toNat]).thn)] (T.ints o) (T.ints (o ++ ordF f (f.stmts[n.toNat]).thn))) ∧ (o.length + (ordF f (f.stmts[n.toNat]).els).length ≤ 2097152 → FunO Tryz.prog 128 [.t f.tt, .t (T.ints (f.stmts[n.toNat]).els)] (T.ints o) (T.ints (o ++ ordF f (f.stmts[n.toNat]).els)))) : FunO Tryz.prog 128 [.t f.tt, .t (T.ints b)] ((T.ints o)) ((T.ints (o ++ ordF f b))) := by
 have hl : f.stmts.length ≤ 1048576 := hf.2.1.1
 refine FunO.intro tys Tryz.func128 rfl rfl (N := 39) (ds := [.t f.tt, .t (T.ints b)]) rfl (fun w0 G F0 => ?_)
 refine nY rfl (W_le (Le.adoptE (u := 2) 2 rfl rfl) (nY rfl (sQ (rG (WO_box rfl rfl (lt_of rfl) rfl rfl (nZ rfl (eZ rfl (oN (tN (sQ (sQ (rG (eZ rfl (evE ?_))))))))))))))
 refine eZ rfl (oN (tN (W_block ?_)))
 refine lK (α := Int × Nat × List T) [3, 9, 10] [3] (fun x => [(11, .t (.int (x.1))), (2, .sl 2 0 (x.2.1))]) (fun x => [(2, .L 1 (x.2.2))]) (fun x => 0 ≤ (x.1) ∧ (x.1) ≤ b.length ∧ (x.2.1) = (x.2.2).length ∧ ∃ done : List Int, (x.2.2) = done.map T.int ∧ o ++ ordF f b = done ++ ordF f (b.drop (x.1).toNat)) (fun x => Int.toNat (b.length - (x.1))) (0, (o.map T.int).length, o.map T.int) ?_ (fun x hx => ?_)
 ·exact ⟨by omega, by omega, rfl, o, rfl, rfl⟩
 obtain ⟨k, m, xs⟩ := x
 obtain ⟨hk0, hk1, hm, done, hx, he⟩ := hx
 dsimp only at hk0 hk1 hm hx he ⊢
 refine nY rfl (sQ (rG (eZ rfl (oN (tN (sQ ?_))))))
 refine W_cond rfl (fun h1 => ?_) (fun h1 => ?_)
 ·
  simp only [HS] at h1
  refine W_skip (tN (sQ (W_block (sQ (rG (WO_idxT tys rfl rfl (lt_of rfl) rfl rfl rfl rfl rfl rfl rfl (by omega) _ (getT _ _ (by omega) (by omega)) (eZ rfl ?_)))))))
  have hn := hb _ (List.getElem_mem (l := b) (n := k.toNat) (by omega))
  have hs := ordF_step hd hb hk0 h1 (by omega)
  have hq := congrArg List.length he
  rw [hs] at hq
  simp only [List.length_append, List.length_cons] at hq
  have hxl := congrArg List.length hx
  rw [List.length_map] at hxl
  refine eZ rfl (oN (tN (sQ (rG (eK 2 rfl ?_)))))
  refine WO_buildSlice tys [T.int (b[k.toNat]'(by omega))] rfl rfl (lt_of rfl) rfl rfl rfl rfl rfl (lt_of rfl) (by repeat (first | exact PartsOk.nil' | refine PartsOk.cons' rfl (by repeat (first | exact AbsL.nil' | refine AbsL.v' ?_ | refine AbsL.own' ?_ | refine AbsL.none' ?_)) rfl ?_)) (by first | exact List.nodup_nil | exact nodup1 _ | decide | exact nodupB_sound rfl) rfl (by decide) ?_
  refine nZ rfl (WO_append tys rfl rfl (lt_of rfl) rfl rfl rfl rfl rfl (.own rfl (by first | omega | (simp only [List.length_append]; omega))) rfl (.own rfl (by first | decide | omega)) (by decide) (by simp only [List.length_take, List.length_cons, List.length_nil]; omega) (by decide) rfl ?_)
  refine nZ rfl (eZ rfl (kZ [2,3,8,9,10,11,12,13,14,15,16,17,18] rfl (oN (tN (sQ (W_regionDm 8 mixed rfl (by kernel_rfl) (by kernel_rfl) (evQ ?_)))))))
  refine evQ ?_
  refine evQ ?_
  refine evQ ?_
  refine QL_idxT tys rfl rfl (lt_of rfl) rfl rfl rfl rfl rfl rfl rfl (by omega) _ (getT _ _ (by omega) (by omega)) (evQ ?_)
  refine QL_norm rfl (evQ ?_)
  refine evQ ?_
  refine QL_nil (WO_le (Le.freeze (u := 19) rfl) ?_)
  skip
  refine nZ rfl (WO_le (Le.gather (u := 26) (id := 2) rfl rfl (by first | (simp; done) | (simp; omega) | omega)) ?_)
  refine nZ rfl (WO_callO (u := 26) (az := [.tmp 19, .tmp 25]) rfl rfl (lt_of rfl) rfl rfl rfl rfl (.inl ⟨rfl, rfl⟩) (ordO (o := done ++ [b[k.toNat]'(by omega)]) (by subst hm hx; (repeat rw [List.take_of_length_le (by simp)]); simp) ((ih _ (List.getElem_mem _) _ _).1 (by simp only [List.length_append, List.length_cons, List.length_nil]; omega))) ?_)
  refine WO_le (Le.adoptE (u := 27) 2 rfl (by first | exact lenN | exact rfl)) ?_
  refine nZ rfl (eZ rfl (oN (tN (W_regionDm 8 mixed rfl (by kernel_rfl) (by kernel_rfl) (evQ ?_)))))
  refine evQ ?_
  refine evQ ?_
  refine evQ ?_
  refine QL_norm rfl (QL_idxT tys rfl rfl (lt_of rfl) rfl rfl rfl rfl rfl rfl rfl (by omega) _ (getT _ _ (by omega) (by omega)) (evQ ?_))
  refine evQ ?_
  refine evQ ?_
  refine QL_nil (WO_le (Le.freeze (u := 28) rfl) ?_)
  skip
  refine nZ rfl (WO_le (Le.gather (u := 35) (id := 2) rfl rfl (by first | (simp; done) | (simp; omega) | omega)) ?_)
  refine nZ rfl (WO_callO (u := 35) (az := [.tmp 28, .tmp 34]) rfl rfl (lt_of rfl) rfl rfl rfl rfl (.inl ⟨rfl, rfl⟩) (ordO (o := done ++ [b[k.toNat]'(by omega)] ++ ordF f (f.stmts[(b[k.toNat]'(by omega)).toNat]'(by omega)).thn) (by rw [List.take_of_length_le (by simp)]) ((ih _ (List.getElem_mem _) _ _).2 (by simp only [List.length_append, List.length_cons, List.length_nil]; omega))) ?_)
  refine WO_le (Le.adoptE (u := 36) 2 rfl (by first | exact lenN | exact rfl)) ?_
  refine nZ rfl (eZ rfl (oN (bN (tN (rG (evI ?_))))))
  refine eZ rfl (oN ?_)
  refine lQ (_, _, _) ?_ ?_
  ·dsimp only
   exact ⟨by omega, by omega, by simp, done ++ [b[k.toNat]'(by omega)] ++ ordF f (f.stmts[(b[k.toNat]'(by omega)).toNat]'(by omega)).thn ++ ordF f (f.stmts[(b[k.toNat]'(by omega)).toNat]'(by omega)).els, rfl, by rw [he, hs]; simp⟩
  ·(show Int.toNat _ < Int.toNat _); omega
 simp only [HS] at h1
 refine W_exit (tE (loopQ_e (inBlk_y (tN (sQ (rG (eK 2 rfl (oN (tN (W_le (Le.gather (u := 6) (id := 2) rfl rfl (by omega)) (rT (eR ?_))))))))))))
 ·(rw [he, drop_end h1, ordF_nil, List.append_nil, hm, List.take_length, hx]; rfl)

theorem orderOf_fun (f : Func) (hf : f.ok 1048576) (hd : downB f.stmts.length (kids f.stmts)) : ∀ (k : Nat) (i : Int) (b o : List Int), 0 ≤ i → f.stmts.length - i ≤ k → inB f.stmts.length i b → b.length ≤ 1048576 → o.length + (ordF f b).length ≤ 2097152 →
  FunO Tryz.prog 128 [.t f.tt, .t (T.ints b)] (T.ints o) (T.ints (o ++ ordF f b))
 | k, i, b, o, hi, hk, hb, hbl, hlen => by
  refine orderOf_fun0 f b o hf hd (inB_lower hb hi) hbl hlen fun n hn h o => ?_
  have h1 := hb n hn
  have h2 := hd n (by omega) h1.2
  have h4 := stmt_ok hf h
  rw [kids_at h] at h2
  match k, hk with
  | 0, hk => omega
  | k + 1, hk => exact ⟨orderOf_fun f hf hd k (n + 1) _ o (by omega) (by omega) h2.1 h4.1, orderOf_fun f hf hd k (n + 1) _ o (by omega) (by omega) h2.2 h4.2.1⟩
theorem orderOf_fun' (f : Func) (hf : f.ok 1048576) (hd : downB f.stmts.length (kids f.stmts)) {b : List Int} (hb : inB f.stmts.length 0 b) (hbl : b.length ≤ 1048576) (hlen : (ordF f b).length ≤ 1048576) :
  FunO Tryz.prog 128 [.t f.tt, .t (T.ints b)] (.list 1 []) (T.ints (ordF f b)) := orderOf_fun f hf hd f.stmts.length 0 b [] (by omega) (by omega) hb hbl (by simp; omega)

end Go.Proofs.YtimpganophnehaaGreat
