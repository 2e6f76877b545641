/- Walks of DropUnused. -/
import Derived.Test.YtiigmjlmhmgebaaGq
import Derived.Test.YtiigmjlmhmgebaaGk
import Derived.Test.YtiigmjlmhmgebaaMc
set_option linter.unusedVariables false
set_option linter.unusedSimpArgs false
set_option maxRecDepth 10000
set_option maxHeartbeats 1000000
namespace Go.Proofs.Ytiigmjlmhmgebaa
open Go.Eng

def usedQ (p : Prog) (x : Int) : Bool := decide (x ∈ reachP p 0)
def rankL (p : Prog) : List Int := (List.range p.funcs.length).map (rankQ (usedQ p))
theorem rankL_len (p : Prog) : (rankL p).length = p.funcs.length := by simp [rankL]
def dropR (p : Prog) : Prog := if goodP p then ⟨(reachP p 0).map fun n => movF (rankL p) (funcAt p n)⟩ else ⟨[]⟩
theorem dropU_no {p : Prog} (h : goodP p = false) : [D.agg [D.own (T.list 4 [])], D.t (T.v (.bool false))] = [D.agg [D.own (T.Funcs (dropR p).funcs)], D.t (T.bool (goodP p))] := by
  rw [dropR, h]; rfl
theorem dropU_yes {p : Prog} {xs : List T} (h : goodP p = true) (hx : xs = ((reachP p 0).map fun n => movF (rankL p) (funcAt p n)).map Func.tt) : [D.agg [D.own (T.list 4 xs)], D.t (T.v (.bool true))] = [D.agg [D.own (T.Funcs (dropR p).funcs)], D.t (T.bool (goodP p))] := by
  rw [dropR, h, hx]; rfl
theorem used_iff {p : Prog} {x : Int} : x ∈ reachP p 0 ↔ (0 ≤ x ∧ x < p.funcs.length) ∧ usedQ p x = true := by
  unfold usedQ
  rw [decide_eq_true_eq]
  exact ⟨fun h => ⟨reachP_in h, h⟩, fun h => h.2⟩
theorem used_rise (p : Prog) : (reachP p 0).Pairwise (· < ·) := pickN_lt ..
theorem used_names {p : Prog} (hg : goodP p = true) {n x : Int} (hn : n ∈ reachP p 0) (hx : x ∈ seqL (funcAt p n).stmts) : x ∈ reachP p 0 := by
  have hgl := goodP_len hg
  have h1 := seqP_ok hg n x hx
  have hc := callsP_in hg
  rw [show reachP p 0 = reachL p.funcs.length (callsP p) 0 from rfl, mem_reachL hc (by omega) (by omega)] at hn ⊢
  exact .step hn (mem_setN.2 ⟨⟨h1.1, by omega⟩, hx⟩)
/-- The numbers that the used functions get, as they are written one by one. -/
def usedTo (N : Nat) (used : List Int) : Nat → List Int
  | 0 => List.replicate N 0
  | k + 1 => match used[k]? with
    | some n => (usedTo N used k).set n.toNat k
    | none => usedTo N used k
theorem usedTo_len (N : Nat) (used : List Int) : ∀ k, (usedTo N used k).length = N
  | 0 => by simp [usedTo]
  | k + 1 => by
    rw [usedTo]; split
    · rw [List.length_set, usedTo_len]
    · exact usedTo_len N used k
theorem usedTo_succ {N : Nat} {used : List Int} {k : Nat} (h : k < used.length) : usedTo N used (k + 1) = (usedTo N used k).set (used[k]).toNat k := by
  rw [usedTo, List.getElem?_eq_getElem h]
theorem usedTo_at {N : Nat} {used : List Int} (hd : used.Nodup) (hr : ∀ x, x ∈ used → 0 ≤ x ∧ x < N) : ∀ {k : Nat}, k ≤ used.length → ∀ i (hi : i < used.length), i < k → (usedTo N used k)[(used[i]).toNat]? = some (i : Int)
  | 0, _, i, _, h => by omega
  | k + 1, hk, i, hi, h => by
    have hb := hr _ (List.getElem_mem hi)
    have hbk := hr (used[k]'(by omega)) (List.getElem_mem _)
    rw [usedTo_succ (by omega)]
    by_cases e : i = k
    · subst e
      rw [List.getElem?_set_self (by rw [usedTo_len]; omega)]
    · rw [List.getElem?_set_ne]
      · exact usedTo_at hd hr (by omega) i hi (by omega)
      · intro he
        have hij : used[k]'(by omega) = used[i] := by omega
        have := (List.getElem_inj hd).1 hij
        omega
theorem usedTo_rank {p : Prog} {x : Int} (hx : x ∈ reachP p 0) : atI (usedTo p.funcs.length (reachP p 0) (reachP p 0).length) x = atI (rankL p) x := by
  obtain ⟨i, hi, rfl⟩ := List.getElem_of_mem hx
  have hb := reachP_in hx
  have hnd : (reachP p 0).Nodup := (used_rise p).imp (fun h => by omega)
  have h1 := usedTo_at (N := p.funcs.length) hnd (fun x hx => reachP_in hx) (Nat.le_refl _) i hi hi
  rw [atI_at hb.1 (by rw [usedTo_len]; exact hb.2), atI_at hb.1 (by rw [rankL_len]; exact hb.2)]
  have h2 := (List.getElem?_eq_some_iff.1 h1).2
  rw [h2]
  have h3 := rank_at (used_rise p) (fun x => used_iff) hi
  simp only [rankL, List.getElem_map, List.getElem_range]
  exact h3.symm
theorem movF_congr' {to to' : List Int} {f : Func} (h : ∀ x, x ∈ seqL f.stmts → atI to x = atI to' x) : movF to f = movF to' f := by
  unfold movF
  congr 1
  refine List.map_congr_left fun s hs => ?_
  have hS : ∀ x, x ∈ seqS s → atI to x = atI to' x := fun x hx => h x (List.mem_flatMap.2 ⟨s, hs, hx⟩)
  have e1 : movN to s = movN to' s := by
    unfold movN
    split
    · rename_i hk
      exact hS _ (List.mem_append_left _ (by rw [d3, if_pos hk]; simp))
    · rfl
  have e2 : s.ex.map (movT to) = s.ex.map (movT to') := List.map_congr_left fun t ht => by
    unfold movT
    split
    · rename_i hk
      rw [hS t.n (List.mem_append_right _ (List.mem_map.2 ⟨t, List.mem_filter.2 ⟨ht, by simpa using hk⟩, rfl⟩))]
    · rfl
  unfold movS
  rw [e1, e2]
theorem dropU_map {p : Prog} (hg : goodP p = true) : ((reachP p 0).map fun n => movF (usedTo p.funcs.length (reachP p 0) (reachP p 0).length) (funcAt p n)) = (reachP p 0).map fun n => movF (rankL p) (funcAt p n) :=
  List.map_congr_left fun n hn => movF_congr' fun x hx => usedTo_rank (used_names hg hn hx)
theorem funcs_at (p : Prog) : p.funcs = (List.range p.funcs.length).map fun k : Nat => funcAt p k := by
  refine List.ext_getElem (by simp) fun i h1 h2 => ?_
  rw [List.getElem_map, List.getElem_range]
  exact funcAt_at (n := (i : Int)) (by omega)
theorem pick_funcs (p : Prog) : pickC (usedQ p) 0 p.funcs = (reachP p 0).map (funcAt p) := by
  conv => lhs; rw [funcs_at p]
  exact pickC_all (used_rise p) (fun x => used_iff) (funcAt p)

theorem specDropU_fun (p : Prog) (hp : p.ok 1048576) : Fun Try.prog 7 [.t p.tt] (tupD [.agg [.own (T.Funcs (dropR p).funcs)], .t (.bool (goodP p))]) := by
  have hpl : p.funcs.length ≤ 1048576 := hp.1.1
  refine Fun.begin tys Try.func7 rfl rfl (N := 53) [(0, .t p.tt)] rfl rfl (fun w0 G F0 => ?_)
  refine W_seq ?_
  refine W_region ?_
  refine WO_box rfl rfl (lt_of rfl) rfl rfl ?_
  refine WO_norm rfl ?_
  refine WO_alloc tys rfl rfl (lt_of rfl) rfl rfl rfl ?_
  refine WO_norm rfl ?_
  refine ev ?_
  refine WO_nil ?_
  refine thenQ_n ?_
  iterate 2 (refine W_seq ?_)
  refine W_region ?_
  first | (refine ev ?_; try refine WO_le (Le.freeze (u := 11) rfl) ?_) | refine WO_loadMove tys rfl rfl (lt_of rfl) rfl rfl rfl rfl rfl rfl ?_
  refine WO_norm rfl ?_
  refine callB ?_
  refine ⟨_, goodProg_fun p hp, rfl, ?_⟩
  refine ev ?_
  refine WO_nil ?_
  refine thenQ_n ?_
  refine W_cond rfl (fun h1 => ?_) (fun h1 => ?_)
  ·
    try simp only [HS] at h1
    refine W_seq ?_
    refine W_region ?_
    refine WO_struct tys rfl rfl (lt_of rfl) rfl rfl rfl (by kernel_rfl) rfl rfl rfl rfl rfl rfl ?_
    refine WO_store tys rfl rfl rfl rfl rfl rfl rfl rfl (lt_of rfl) ?_
    refine WO_norm rfl ?_
    refine ev ?_
    refine WO_keep [1, 2, 3] rfl ?_
    refine WO_nil ?_
    refine thenQ_n ?_
    try (refine W_le (Le.nilBox (u := 2) (j := 0) 4 rfl rfl) ?_; refine W_norm rfl ?_)
    refine W_ret ?_
    refine thenQ_r ?_
    refine Ends_of (.inr rfl) (ret_okF rfl) (by decide) rfl ?_
    · first
      | exact dropU_no h1
      | exact dropU_yes h1 (by rw [← dropU_map h1, hm2, List.take_length, hxs, take_end (by omega)])
  try simp only [HS] at h1
  refine W_skip ?_
  refine thenQ_n ?_
  refine W_seq ?_
  refine W_region ?_
  first | (refine ev ?_; try refine WO_le (Le.freeze (u := 15) rfl) ?_) | refine WO_loadMove tys rfl rfl (lt_of rfl) rfl rfl rfl rfl rfl rfl ?_
  refine WO_norm rfl ?_
  refine WO_callF rfl rfl (lt_of rfl) rfl rfl rfl rfl rfl (l17Reach_fun p 0 hp h1 (by omega) (by have := goodP_len h1; omega)) rfl ?_
  refine ev ?_
  refine WO_keep [1, 2, 3, 4] rfl ?_
  refine WO_nil ?_
  refine thenQ_n ?_
  refine W_seq ?_
  refine W_region ?_
  have hgl := goodP_len h1
  have hrl := reachP_len h1 0
  refine ev ?_
  refine ev ?_
  refine evE ?_
  refine WO_make tys (.v (.int .i64 0)) _ rfl rfl (lt_of rfl) rfl rfl rfl rfl rfl (by repeat (first | exact AbsL.nil' | refine AbsL.v' ?_ | refine AbsL.none' ?_)) rfl (by omega) (by decide) ?_
  refine WO_norm rfl ?_
  refine ev ?_
  refine WO_nil ?_
  refine thenQ_n ?_
  iterate 2 (refine W_seq ?_)
  refine W_region ?_
  refine ev ?_
  refine evE ?_
  refine ev ?_
  refine WO_nil ?_
  refine thenQ_n ?_
  refine W_block ?_
  refine W_loopK (α := Int × List T) [1, 2, 4, 5, 21, 22] [1, 2] (fun (x : Int × List T) => [(23, .t (.int (x.1)))]) (fun (x : Int × List T) => [(20, .L 1 (x.2))]) (fun (x : Int × List T) => 0 ≤ (x.1) ∧ (x.1) ≤ (reachP p 0).length ∧ (x.2) = (usedTo p.funcs.length (reachP p 0) (x.1).toNat).map T.int) (fun (x : Int × List T) => Int.toNat ((reachP p 0).length - (x.1))) (0, List.replicate p.funcs.length (T.int 0)) ?_ ?_ ?_ (fun x hx => ?_)
  · repeat (first | exact Sub.nil' | refine Sub.cons' rfl ?_ )
  · repeat (first | exact SubM.nil' | refine SubM.cons' rfl ?_ )
  · exact ⟨by omega, by omega, (by rw [show (0 : Int).toNat = 0 from rfl, usedTo, List.map_replicate])⟩
  obtain ⟨k, zs⟩ := x
  obtain ⟨hk0, hk1, hzs⟩ := hx
  try dsimp only at hk0 hk1 hzs ⊢
  refine W_norm rfl ?_
  refine W_seq ?_
  refine W_region ?_
  refine ev ?_
  refine WO_nil ?_
  refine thenQ_n ?_
  refine W_seq ?_
  refine W_cond rfl (fun h2 => ?_) (fun h2 => ?_)
  ·
    try simp only [HS] at h2
    refine W_skip ?_
    refine thenQ_n ?_
    refine W_seq ?_
    refine W_block ?_
    refine W_seq ?_
    refine W_region ?_
    have hu := reachP_in (List.getElem_mem (show k.toNat < (reachP p 0).length by omega))
    have hzl : zs.length = p.funcs.length := by rw [hzs, List.length_map, usedTo_len]
    refine ev ?_
    first | refine WO_idxT tys rfl rfl (lt_of rfl) rfl rfl rfl rfl rfl rfl rfl (by omega) _ (getT _ _ (by omega) (by omega)) ?_ | refine WO_idxS tys rfl rfl (lt_of rfl) rfl rfl rfl rfl rfl rfl rfl rfl (by omega) (by omega) ?_
    first | refine ev ?_ | refine WO_loadL tys rfl rfl (lt_of rfl) rfl rfl rfl rfl (getT _ _ (by omega) (by omega)) rfl ?_ | refine WO_loadL tys rfl rfl (lt_of rfl) rfl rfl rfl rfl (getT0 _ _ (by omega) (by omega)) rfl ?_
    refine ev ?_
    refine ev ?_
    refine WO_nil ?_
    refine thenQ_n ?_
    refine W_region ?_
    iterate 3 (refine ev ?_)
    refine WO_keep [1, 2, 4, 5, 6, 7, 21, 22, 23, 24, 25, 26, 27, 28, 29, 30] rfl ?_
    first | refine WO_idxT tys rfl rfl (lt_of rfl) rfl rfl rfl rfl rfl rfl rfl (by omega) _ (getT _ _ (by omega) (by omega)) ?_ | refine WO_idxS tys rfl rfl (lt_of rfl) rfl rfl rfl rfl rfl rfl rfl rfl (by omega) (by omega) ?_
    first | refine WO_storeE tys (T.int k) rfl rfl rfl rfl rfl rfl (by first | exact Nat.zero_add _ | rfl) (by omega) rfl (by repeat (first | exact AbsL.nil' | refine AbsL.v' ?_ | refine AbsL.own' ?_)) rfl rfl rfl ?_ | refine WO_storeL tys _ rfl rfl rfl rfl rfl rfl (getT _ _ (by omega) (by omega)) rfl (by repeat (first | exact AbsL.nil' | refine AbsL.v' ?_ | refine AbsL.own' ?_)) rfl (by decide) (by decide) ?_
    refine WO_norm rfl ?_
    refine WO_nil ?_
    refine inBlk_n ?_
    refine thenQ_n ?_
    refine W_region ?_
    refine evI ?_
    refine ev ?_
    refine WO_nil ?_
    refine loopQ_n (_, _) (by (try dsimp only); repeat (first | exact Sub.nil' | refine Sub.cons' rfl ?_ )) (by (try dsimp only); repeat (first | exact SubM.nil' | refine SubM.cons' rfl ?_ )) ?_ ?_
    · try dsimp only
      refine ⟨by omega, by omega, ?_⟩
      rw [show (k + 1).toNat = k.toNat + 1 from by omega, usedTo_succ (by omega), List.map_set, ← hzs, show ((k.toNat : Nat) : Int) = k from by omega]
    · (show Int.toNat _ < Int.toNat _); omega
  try simp only [HS] at h2
  refine W_exit ?_
  refine thenQ_e ?_
  refine loopQ_e ?_
  refine inBlk_y ?_
  refine thenQ_n ?_
  refine W_seq ?_
  refine W_region ?_
  have hzl : zs.length = p.funcs.length := by rw [hzs, List.length_map, usedTo_len]
  have hzs' : zs.take p.funcs.length = (usedTo p.funcs.length (reachP p 0) (reachP p 0).length).map T.int := by rw [List.take_of_length_le (by omega), hzs, show k.toNat = (reachP p 0).length from by omega]
  refine WO_norm rfl ?_
  refine WO_le (Le.gather (u := 5) (id := 20) rfl rfl (by omega)) ?_
  rw [hzs']
  refine WO_norm rfl ?_
  refine WO_le (Le.freeze (u := 5) rfl) ?_
  refine WO_norm rfl ?_
  refine WO_alloc tys rfl rfl (lt_of rfl) rfl rfl rfl ?_
  refine WO_norm rfl ?_
  refine WO_nil ?_
  refine thenQ_n ?_
  iterate 2 (refine W_seq ?_)
  refine W_region ?_
  refine WO_norm rfl ?_
  refine WO_le (Le.nilBox (u := 8) (j := 0) 4 rfl rfl) ?_
  refine WO_norm rfl ?_
  refine WO_le (Le.adoptBox (u := 8) (j := 0) (id := 190) rfl rfl rfl) ?_
  refine WO_norm rfl ?_
  refine ev ?_
  refine evE ?_
  refine ev ?_
  refine WO_nil ?_
  refine thenQ_n ?_
  refine W_block ?_
  refine W_loopK (α := Int × Nat × List T) [1, 2, 4, 5, 8, 33, 34] [1, 2] (fun (x : Int × Nat × List T) => [(35, .t (.int (x.1)))]) (fun (x : Int × Nat × List T) => [(8, .box [.sl 190 0 (x.2.1)]), (190, .L 4 (x.2.2))]) (fun (x : Int × Nat × List T) => 0 ≤ (x.1) ∧ (x.1) ≤ (reachP p 0).length ∧ (x.2.1) = (x.2.2).length ∧ (x.2.2) = (((reachP p 0).take (x.1).toNat).map fun n => movF (usedTo p.funcs.length (reachP p 0) (reachP p 0).length) (funcAt p n)).map Func.tt) (fun (x : Int × Nat × List T) => Int.toNat ((reachP p 0).length - (x.1))) (0, 0, []) ?_ ?_ ?_ (fun x hx => ?_)
  · repeat (first | exact Sub.nil' | refine Sub.cons' rfl ?_ )
  · repeat (first | exact SubM.nil' | refine SubM.cons' rfl ?_ )
  · exact ⟨by omega, by omega, rfl, rfl⟩
  obtain ⟨j, m2, xs⟩ := x
  obtain ⟨hj0, hj1, hm2, hxs⟩ := hx
  try dsimp only at hj0 hj1 hm2 hxs ⊢
  refine W_norm rfl ?_
  refine W_seq ?_
  refine W_region ?_
  refine ev ?_
  refine WO_nil ?_
  refine thenQ_n ?_
  refine W_seq ?_
  refine W_cond rfl (fun h3 => ?_) (fun h3 => ?_)
  ·
    try simp only [HS] at h3
    refine W_skip ?_
    refine thenQ_n ?_
    refine W_seq ?_
    refine W_block ?_
    refine W_seq ?_
    refine W_region ?_
    have hu := reachP_in (List.getElem_mem (show j.toNat < (reachP p 0).length by omega))
    first | refine WO_idxT tys rfl rfl (lt_of rfl) rfl rfl rfl rfl rfl rfl rfl (by omega) _ (getT _ _ (by omega) (by omega)) ?_ | refine WO_idxS tys rfl rfl (lt_of rfl) rfl rfl rfl rfl rfl rfl rfl rfl (by omega) (by omega) ?_
    first | refine ev ?_ | refine WO_loadL tys rfl rfl (lt_of rfl) rfl rfl rfl rfl (getT _ _ (by omega) (by omega)) rfl ?_ | refine WO_loadL tys rfl rfl (lt_of rfl) rfl rfl rfl rfl (getT0 _ _ (by omega) (by omega)) rfl ?_
    refine ev ?_
    refine WO_nil ?_
    refine thenQ_n ?_
    refine W_regionGm 10 mixed rfl (by kernel_rfl) (by kernel_rfl) ?_
    iterate 2 (refine QG_ev tys rfl rfl (lt_of rfl) rfl ?_)
    refine QG_norm rfl ?_
    iterate 3 (refine QG_ev tys rfl rfl (lt_of rfl) rfl ?_)
    first | refine QG_idxT tys rfl rfl (lt_of rfl) rfl rfl rfl rfl rfl rfl rfl (by omega) _ (getT _ _ (by omega) (by omega)) ?_ | refine QG_idxS tys rfl rfl (lt_of rfl) rfl rfl rfl rfl rfl rfl rfl rfl (by omega) (by omega) ?_
    first | refine QG_evZ tys rfl rfl (lt_of rfl) rfl rfl ?_ | refine QG_ev tys rfl rfl (lt_of rfl) rfl ?_ | refine QG_loadL tys rfl rfl (lt_of rfl) rfl rfl rfl rfl (getT _ _ (by omega) (by omega)) rfl ?_ | refine QG_loadL tys rfl rfl (lt_of rfl) rfl rfl rfl rfl (getT0 _ _ (by omega) (by omega)) rfl ?_
    refine QG_ev tys rfl rfl (lt_of rfl) rfl ?_
    refine QG_norm rfl ?_
    refine callBG ?_
    refine ⟨_, l21Moved_fun (p.funcs[((reachP p 0)[j.toNat]'(by omega)).toNat]'(by omega)) (usedTo p.funcs.length (reachP p 0) (reachP p 0).length) (func_ok hp (by omega)) (goodP_seqs h1 (usedTo_len ..) _ (List.getElem_mem _)) (by rw [usedTo_len]; omega), rfl, ?_⟩
    refine QG_buildS tys [(movF (usedTo p.funcs.length (reachP p 0) (reachP p 0).length) (p.funcs[((reachP p 0)[j.toNat]'(by omega)).toNat]'(by omega))).tt] rfl rfl (lt_of rfl) rfl rfl rfl rfl rfl (lt_of rfl) (by repeat (first | exact PartsOk.nil' | refine PartsOk.cons' rfl (by repeat (first | exact AbsL.nil' | refine AbsL.v' ?_ | refine AbsL.own' ?_ | refine AbsL.none' ?_)) rfl ?_)) rfl rfl rfl (by decide) ?_
    refine QG_nil ?_
    refine ⟨by kernel_rfl, ?_⟩
    refine WO_norm rfl ?_
    refine WO_le (Le.adoptE (u := 48) 48 rfl rfl) ?_
    refine WO_norm rfl ?_
    first | refine WO_append tys rfl rfl (lt_of rfl) rfl rfl rfl rfl rfl (.own rfl (by first | omega | (simp only [List.length_append]; omega))) rfl (.own rfl (by first | decide | omega)) (by decide) (by simp only [List.length_take, List.length_cons, List.length_nil]; rw [hxs, List.length_map, List.length_map, List.length_take]; omega) (by decide) rfl ?_ | refine WO_append tys rfl rfl (lt_of rfl) rfl rfl rfl rfl rfl .nil rfl (.own rfl (by first | decide | omega)) (by decide) (by simp only [List.length_take, List.length_cons, List.length_nil]; rw [hxs, List.length_map, List.length_map, List.length_take]; omega) (by decide) rfl ?_
    refine WO_norm rfl ?_
    refine ev ?_
    refine WO_store tys rfl rfl rfl rfl rfl rfl rfl rfl (lt_of rfl) ?_
    refine WO_norm rfl ?_
    refine WO_nil ?_
    refine inBlk_n ?_
    refine thenQ_n ?_
    refine W_region ?_
    refine evI ?_
    refine ev ?_
    refine WO_nil ?_
    refine loopQ_n (_, _, _) (by (try dsimp only); repeat (first | exact Sub.nil' | refine Sub.cons' rfl ?_ )) (by (try dsimp only); repeat (first | exact SubM.nil' | refine SubM.cons' rfl ?_ )) ?_ ?_
    · try dsimp only
      subst hm2
      refine ⟨by omega, by omega, by simp, ?_⟩
      rw [List.take_length, hxs, take_at hj0 (by omega), List.map_append, List.map_append, List.map_cons, List.map_cons, ← funcAt_at (show ((reachP p 0)[j.toNat]'(by omega)).toNat < p.funcs.length by omega)]
      rfl
    · (show Int.toNat _ < Int.toNat _); omega
  try simp only [HS] at h3
  refine W_exit ?_
  refine thenQ_e ?_
  refine loopQ_e ?_
  refine inBlk_y ?_
  refine thenQ_n ?_
  refine W_seq ?_
  refine W_region ?_
  refine WO_norm rfl ?_
  refine WO_le (Le.gatherBox (u := 8) (j := 0) (id := 190) rfl rfl rfl (by omega) rfl) ?_
  refine WO_norm rfl ?_
  first | (refine ev ?_; try refine WO_le (Le.freeze (u := 52) rfl) ?_) | refine WO_loadMove tys rfl rfl (lt_of rfl) rfl rfl rfl rfl rfl rfl ?_
  refine WO_norm rfl ?_
  refine WO_store tys rfl rfl rfl rfl rfl rfl rfl rfl (lt_of rfl) ?_
  refine WO_norm rfl ?_
  refine ev ?_
  refine WO_nil ?_
  refine thenQ_n ?_
  try (refine W_le (Le.nilBox (u := 2) (j := 0) 4 rfl rfl) ?_; refine W_norm rfl ?_)
  refine W_ret ?_
  refine Ends_of (.inr rfl) (ret_okF rfl) (by decide) rfl ?_
  · first
    | exact dropU_no h1
    | exact dropU_yes h1 (by rw [← dropU_map h1, hm2, List.take_length, hxs, take_end (by omega)])

/-- The new numbers of the first k functions. -/
def rankT (p : Prog) (k : Nat) : List T := (List.range p.funcs.length).map fun i => T.int (if i < k then rankQ (usedQ p) i else 0)
theorem rankT_len (p : Prog) (k : Nat) : (rankT p k).length = p.funcs.length := by simp [rankT]
theorem rankT_zero (p : Prog) : List.replicate p.funcs.length (T.int 0) = rankT p 0 := by
  refine List.ext_getElem (by simp [rankT]) fun i h1 h2 => ?_
  simp [rankT]
theorem rankT_set (p : Prog) {k : Nat} (h : k < p.funcs.length) : (rankT p k).set k (T.int (rankQ (usedQ p) k)) = rankT p (k + 1) := by
  refine List.ext_getElem (by simp [rankT]) fun i h1 h2 => ?_
  rw [List.getElem_set]
  simp only [rankT, List.getElem_map, List.getElem_range]
  by_cases e : k = i
  · subst e; rw [if_pos rfl, if_pos (by omega)]
  · rw [if_neg e]
    by_cases h3 : i < k
    · rw [if_pos h3, if_pos (by omega)]
    · rw [if_neg h3, if_neg (by omega)]
theorem rankT_end (p : Prog) : rankT p p.funcs.length = (rankL p).map T.int := by
  unfold rankT rankL
  rw [List.map_map]
  exact List.map_congr_left fun i hi => by rw [if_pos (List.mem_range.1 hi)]; rfl

theorem implDropU_fun (p : Prog) (hp : p.ok 1048576) : Fun Try.prog 9 [.t p.tt] (tupD [.agg [.own (T.Funcs (dropR p).funcs)], .t (.bool (goodP p))]) := by
  have hpl : p.funcs.length ≤ 1048576 := hp.1.1
  refine Fun.begin tys Try.func9 rfl rfl (N := 49) [(0, .t p.tt)] rfl rfl (fun w0 G F0 => ?_)
  refine W_seq ?_
  refine W_region ?_
  refine WO_box rfl rfl (lt_of rfl) rfl rfl ?_
  refine WO_norm rfl ?_
  refine WO_alloc tys rfl rfl (lt_of rfl) rfl rfl rfl ?_
  refine WO_norm rfl ?_
  refine ev ?_
  refine WO_nil ?_
  refine thenQ_n ?_
  iterate 2 (refine W_seq ?_)
  refine W_region ?_
  first | (refine ev ?_; try refine WO_le (Le.freeze (u := 9) rfl) ?_) | refine WO_loadMove tys rfl rfl (lt_of rfl) rfl rfl rfl rfl rfl rfl ?_
  refine WO_norm rfl ?_
  refine callB ?_
  refine ⟨_, isProg_fun p hp, rfl, ?_⟩
  refine ev ?_
  refine WO_nil ?_
  refine thenQ_n ?_
  refine W_cond rfl (fun h1 => ?_) (fun h1 => ?_)
  ·
    try simp only [HS] at h1
    refine W_seq ?_
    refine W_region ?_
    refine WO_struct tys rfl rfl (lt_of rfl) rfl rfl rfl (by kernel_rfl) rfl rfl rfl rfl rfl rfl ?_
    refine WO_store tys rfl rfl rfl rfl rfl rfl rfl rfl (lt_of rfl) ?_
    refine WO_norm rfl ?_
    refine ev ?_
    refine WO_keep [1, 2, 3] rfl ?_
    refine WO_nil ?_
    refine thenQ_n ?_
    try (refine W_le (Le.nilBox (u := 2) (j := 0) 4 rfl rfl) ?_; refine W_norm rfl ?_)
    refine W_ret ?_
    refine thenQ_r ?_
    refine Ends_of (.inr rfl) (ret_okF rfl) (by decide) rfl ?_
    · first
      | exact dropU_no h1
      | exact dropU_yes h1 (by
         show ((C'.map (·.1)).map (movF (rankL p))).map Func.tt = _
         rw [hC']
         simp only [List.map_map, Function.comp_def])
  try simp only [HS] at h1
  refine W_skip ?_
  refine thenQ_n ?_
  refine W_seq ?_
  refine W_region ?_
  first | (refine ev ?_; try refine WO_le (Le.freeze (u := 13) rfl) ?_) | refine WO_loadMove tys rfl rfl (lt_of rfl) rfl rfl rfl rfl rfl rfl ?_
  refine WO_norm rfl ?_
  refine callB ?_
  refine ⟨_, unusedIn_fun p hp h1, rfl, ?_⟩
  refine WO_le (Le.freeze (u := 14) rfl) ?_
  refine WO_norm rfl ?_
  refine ev ?_
  refine WO_keep [1, 2, 3, 4] rfl ?_
  refine WO_nil ?_
  refine thenQ_n ?_
  refine W_seq ?_
  refine W_region ?_
  have hgl := goodP_len h1
  have hul := pickN_len p.funcs.length fun k => !decide (k ∈ reachP p 0)
  refine ev ?_
  refine ev ?_
  refine evE ?_
  refine WO_make tys (.v (.int .i64 0)) _ rfl rfl (lt_of rfl) rfl rfl rfl rfl rfl (by repeat (first | exact AbsL.nil' | refine AbsL.v' ?_ | refine AbsL.none' ?_)) rfl (by omega) (by decide) ?_
  refine WO_norm rfl ?_
  refine ev ?_
  refine WO_nil ?_
  refine thenQ_n ?_
  refine W_seq ?_
  refine W_region ?_
  refine WO_alloc tys rfl rfl (lt_of rfl) rfl rfl rfl ?_
  refine WO_norm rfl ?_
  refine WO_nil ?_
  refine thenQ_n ?_
  iterate 2 (refine W_seq ?_)
  refine W_region ?_
  refine WO_norm rfl ?_
  refine WO_le (Le.nilBox (u := 6) (j := 0) 4 rfl rfl) ?_
  refine WO_norm rfl ?_
  refine WO_le (Le.adoptBox (u := 6) (j := 0) (id := 190) rfl rfl rfl) ?_
  refine WO_norm rfl ?_
  first | (refine ev ?_; try refine WO_le (Le.freeze (u := 19) rfl) ?_) | refine WO_loadMove tys rfl rfl (lt_of rfl) rfl rfl rfl rfl rfl rfl ?_
  refine WO_norm rfl ?_
  refine callB ?_
  refine ⟨_, cloneProg_fun p hp, rfl, ?_⟩
  refine WO_norm rfl ?_
  refine WO_exposeB (u := 20) 132 rfl rfl (fun v32 hv32 => ?_)
  obtain ⟨q0, rfl⟩ : ∃ q0, v32 = [q0] := by
   match v32, hv32 with
   | [q0], _ => exact ⟨_, rfl⟩
  refine WO_norm rfl ?_
  refine WO_fieldA tys (e := 26) (off := 0) (us := [q0]) rfl rfl (lt_of rfl) rfl (by kernel_rfl) rfl rfl rfl rfl ?_
  refine WO_norm rfl ?_
  refine WO_le (Le.ownBack (t := 21) (id := 132) rfl rfl) ?_
  refine WO_norm rfl ?_
  refine WO_le (Le.adoptE (u := 21) 21 rfl (by first | exact lenN | exact rfl)) ?_
  refine WO_norm rfl ?_
  refine WO_exposeL (id := 21) (idp := 133) rfl rfl (fun vs hvs => ?_)
  obtain ⟨C, hC1, hC2, rfl⟩ := cutV (l := p.funcs) (vs := vs) (n := 4) (by rw [hvs, List.length_map])
  have hCl : C.length = p.funcs.length := by rw [← hC1, List.length_map]
  refine ⟨toldF C, toldF_flat C, by rw [toldF, List.length_map, List.length_map, hCl], toldF_cells hC2, ?_⟩
  refine WO_norm rfl ?_
  refine WO_keep [2, 3, 4, 5, 6, 21] rfl ?_
  refine evE ?_
  refine ev ?_
  refine WO_nil ?_
  refine thenQ_n ?_
  refine W_block ?_
  refine W_loopK (α := Int × Nat × List T × List T) [1, 2, 4, 5, 6, 21, 22] [2, 21, 133] (fun (x : Int × Nat × List T × List T) => [(23, .t (.int (x.1)))]) (fun (x : Int × Nat × List T × List T) => [(6, .box [.sl 190 0 (x.2.1)]), (190, .L 4 (x.2.2.1)), (18, .L 1 (x.2.2.2))]) (fun (x : Int × Nat × List T × List T) => 0 ≤ (x.1) ∧ (x.1) ≤ p.funcs.length ∧ (x.2.1) = (x.2.2.1).length ∧ (x.2.2.1) = toldF (pickC (usedQ p) 0 (C.take (x.1).toNat)) ∧ (x.2.2.2) = rankT p (x.1).toNat) (fun (x : Int × Nat × List T × List T) => Int.toNat (p.funcs.length - (x.1))) (0, 0, [], rankT p 0) ?_ ?_ ?_ (fun x hx => ?_)
  · repeat (first | exact Sub.nil' | refine Sub.cons' rfl ?_ )
  · repeat (first | exact SubM.nil' | refine SubM.cons' rfl ?_ | refine SubM.cons' (by rw [← rankT_zero]; rfl) ?_)
  · exact ⟨by omega, by omega, rfl, rfl, rfl⟩
  obtain ⟨k, m, xs, zs⟩ := x
  obtain ⟨hk0, hk1, hm, hxs, hzs⟩ := hx
  try dsimp only at hk0 hk1 hm hxs hzs ⊢
  refine W_norm rfl ?_
  refine W_seq ?_
  refine W_region ?_
  refine ev ?_
  refine WO_nil ?_
  refine thenQ_n ?_
  refine W_seq ?_
  refine W_cond rfl (fun h2 => ?_) (fun h2 => ?_)
  ·
    try simp only [HS] at h2
    refine W_skip ?_
    refine thenQ_n ?_
    refine W_seq ?_
    refine W_block ?_
    refine W_seq ?_
    refine W_region ?_
    refine ev ?_
    have hkl : k.toNat < C.length := by omega
    obtain ⟨v0, v1, v2, v3, hv⟩ : ∃ v0 v1 v2 v3, (C[k.toNat]'hkl).2 = [v0, v1, v2, v3] := by
     have h4 := hC2 _ (List.getElem_mem hkl)
     match (C[k.toNat]'hkl).2, h4 with
     | [v0, v1, v2, v3], _ => exact ⟨_, _, _, _, rfl⟩
    have hy : (toldF C)[k.toNat]? = some (.agg [.v v0, .v v1, .v v2, .v v3]) := by rw [toldF, List.getElem?_map, List.getElem?_eq_getElem hkl]; simp [hv]
    have hzl : zs.length = p.funcs.length := by rw [hzs, rankT_len]
    first | refine WO_idxT tys rfl rfl (lt_of rfl) rfl rfl rfl rfl rfl rfl rfl (by omega) _ (getT _ _ (by omega) (by omega)) ?_ | refine WO_idxS tys rfl rfl (lt_of rfl) rfl rfl rfl rfl rfl rfl rfl rfl (by omega) (by omega) ?_
    first | (refine ev ?_; try refine WO_le (Le.freeze (u := 27) rfl) ?_) | refine WO_loadL tys rfl rfl (lt_of rfl) rfl rfl rfl rfl ((by rw [Nat.zero_add]; exact hy)) rfl ?_
    refine WO_norm rfl ?_
    refine WO_alloc tys rfl rfl (lt_of rfl) rfl rfl rfl ?_
    refine WO_norm rfl ?_
    refine ev ?_
    refine WO_store tys rfl rfl rfl rfl rfl rfl rfl rfl (lt_of rfl) ?_
    refine WO_norm rfl ?_
    refine WO_nil ?_
    refine thenQ_n ?_
    refine W_seq ?_
    refine W_keep [1, 2, 4, 5, 6, 7, 8, 21, 22, 23, 24, 25, 26, 27] rfl ?_
    refine W_region ?_
    iterate 4 (refine ev ?_)
    refine evE ?_
    first | refine WO_idxT tys rfl rfl (lt_of rfl) rfl rfl rfl rfl rfl rfl rfl (by omega) _ (getT _ _ (by omega) (by omega)) ?_ | refine WO_idxS tys rfl rfl (lt_of rfl) rfl rfl rfl rfl rfl rfl rfl rfl (by omega) (by omega) ?_
    first | refine WO_storeE tys (T.int m) rfl rfl rfl rfl rfl rfl (by first | exact Nat.zero_add _ | rfl) (by omega) rfl (by repeat (first | exact AbsL.nil' | refine AbsL.v' ?_ | refine AbsL.own' ?_)) rfl rfl rfl ?_ | refine WO_storeL tys _ rfl rfl rfl rfl rfl rfl (getT _ _ (by omega) (by omega)) rfl (by repeat (first | exact AbsL.nil' | refine AbsL.v' ?_ | refine AbsL.own' ?_)) rfl (by decide) (by decide) ?_
    refine WO_norm rfl ?_
    refine WO_nil ?_
    refine thenQ_n ?_
    refine W_seq ?_
    refine W_keep [1, 2, 4, 5, 6, 7, 8, 21, 22, 23, 24, 25, 26, 27, 28, 29, 30, 31, 32, 33] rfl ?_
    refine W_region ?_
    refine ev ?_
    refine ev ?_
    refine callB ?_
    refine ⟨_, containsI_fun (unusedP p) k (by unfold unusedP; omega), rfl, ?_⟩
    refine ev ?_
    refine WO_nil ?_
    refine thenQ_n ?_
    refine W_cond rfl (fun h3 => ?_) (fun h3 => ?_)
    ·
      try simp only [HS] at h3
      refine W_region ?_
      refine ev ?_
      refine ev ?_
      first | (refine ev ?_; try refine WO_le (Le.freeze (u := 40) rfl) ?_) | refine WO_loadMove tys rfl rfl (lt_of rfl) rfl rfl rfl rfl rfl rfl ?_
      refine WO_norm rfl ?_
      refine WO_buildSlice tys [.agg [.v v0, .v v1, .v v2, .v v3]] rfl rfl (lt_of rfl) rfl rfl rfl rfl rfl (lt_of rfl) (by repeat (first | exact PartsOk.nil' | refine PartsOk.cons' rfl (by repeat (first | exact AbsL.nil' | refine AbsL.v' ?_ | refine AbsL.own' ?_ | refine AbsL.none' ?_)) rfl ?_)) (by first | exact List.nodup_nil | exact nodup1 _ | decide | exact nodupB_sound rfl) rfl (by decide) ?_
      refine WO_norm rfl ?_
      first | refine WO_append tys rfl rfl (lt_of rfl) rfl rfl rfl rfl rfl (.own rfl (by first | omega | (simp only [List.length_append]; omega))) rfl (.own rfl (by first | decide | omega)) (by decide) (by simp only [List.length_take, List.length_cons, List.length_nil]; rw [hxs, toldF, List.length_map]; have := pickC_len (usedQ p) 0 (C.take k.toNat); simp at this; omega) (by decide) rfl ?_ | refine WO_append tys rfl rfl (lt_of rfl) rfl rfl rfl rfl rfl .nil rfl (.own rfl (by first | decide | omega)) (by decide) (by simp only [List.length_take, List.length_cons, List.length_nil]; rw [hxs, toldF, List.length_map]; have := pickC_len (usedQ p) 0 (C.take k.toNat); simp at this; omega) (by decide) rfl ?_
      refine WO_norm rfl ?_
      refine WO_keep [1, 2, 4, 5, 6, 7, 8, 21, 22, 23, 24, 25, 26, 27, 28, 29, 30, 31, 32, 33, 34, 35, 36, 37, 38, 39, 40, 41, 42] rfl ?_
      refine ev ?_
      refine WO_store tys rfl rfl rfl rfl rfl rfl rfl rfl (lt_of rfl) ?_
      refine WO_norm rfl ?_
      refine WO_nil ?_
      refine inBlk_n ?_
      refine thenQ_n ?_
      refine W_region ?_
      refine evI ?_
      refine ev ?_
      refine WO_nil ?_
      refine loopQ_n (_, _, _, _) (by (try dsimp only); repeat (first | exact Sub.nil' | refine Sub.cons' rfl ?_ )) (by (try dsimp only); repeat (first | exact SubM.nil' | refine SubM.cons' rfl ?_ )) ?_ ?_
      · try dsimp only
        have hr : (m : Int) = rankQ (usedQ p) k.toNat := by rw [hm, hxs, toldF, List.length_map, rankQ_len _ _ (by omega)]
        have hz : zs.set k.toNat (T.int m) = rankT p (k + 1).toNat := by rw [hr, hzs, show (k + 1).toNat = k.toNat + 1 from by omega, rankT_set _ (by omega)]
        have hq : usedQ p ((k.toNat : Nat) : Int) = true ↔ k ∉ unusedP p := by
         rw [show ((k.toNat : Nat) : Int) = k from by omega, unusedP, mem_pickN, usedQ, decide_eq_true_eq]
         constructor
         · rintro h ⟨_, h'⟩; simp [h] at h'
         · exact fun h => Classical.byContradiction fun hn => h ⟨⟨hk0, by omega⟩, by simp [hn]⟩
        have hp1 := pickC_at (usedQ p) C (k := k.toNat) (by omega)
        rw [show k.toNat + 1 = (k + 1).toNat from by omega] at hp1
        first
        | (rw [if_pos (hq.2 h3)] at hp1
           subst hm
           refine ⟨by omega, by omega, by simp, ?_, hz⟩
           rw [List.take_length, hp1, toldF, List.map_append, ← toldF, ← hxs]
           simp [hv])
        | (rw [if_neg (fun h => hq.1 h h3), List.append_nil] at hp1
           exact ⟨by omega, by omega, hm, by rw [hp1]; exact hxs, hz⟩)
      · (show Int.toNat _ < Int.toNat _); omega
    try simp only [HS] at h3
    refine W_skip ?_
    refine inBlk_n ?_
    refine thenQ_n ?_
    refine W_region ?_
    refine evI ?_
    refine ev ?_
    refine WO_nil ?_
    refine loopQ_n (_, _, _, _) (by (try dsimp only); repeat (first | exact Sub.nil' | refine Sub.cons' rfl ?_ )) (by (try dsimp only); repeat (first | exact SubM.nil' | refine SubM.cons' rfl ?_ )) ?_ ?_
    · try dsimp only
      have hr : (m : Int) = rankQ (usedQ p) k.toNat := by rw [hm, hxs, toldF, List.length_map, rankQ_len _ _ (by omega)]
      have hz : zs.set k.toNat (T.int m) = rankT p (k + 1).toNat := by rw [hr, hzs, show (k + 1).toNat = k.toNat + 1 from by omega, rankT_set _ (by omega)]
      have hq : usedQ p ((k.toNat : Nat) : Int) = true ↔ k ∉ unusedP p := by
       rw [show ((k.toNat : Nat) : Int) = k from by omega, unusedP, mem_pickN, usedQ, decide_eq_true_eq]
       constructor
       · rintro h ⟨_, h'⟩; simp [h] at h'
       · exact fun h => Classical.byContradiction fun hn => h ⟨⟨hk0, by omega⟩, by simp [hn]⟩
      have hp1 := pickC_at (usedQ p) C (k := k.toNat) (by omega)
      rw [show k.toNat + 1 = (k + 1).toNat from by omega] at hp1
      first
      | (rw [if_pos (hq.2 h3)] at hp1
         subst hm
         refine ⟨by omega, by omega, by simp, ?_, hz⟩
         rw [List.take_length, hp1, toldF, List.map_append, ← toldF, ← hxs]
         simp [hv])
      | (rw [if_neg (fun h => hq.1 h h3), List.append_nil] at hp1
         exact ⟨by omega, by omega, hm, by rw [hp1]; exact hxs, hz⟩)
    · (show Int.toNat _ < Int.toNat _); omega
  try simp only [HS] at h2
  refine W_exit ?_
  refine thenQ_e ?_
  refine loopQ_e ?_
  refine inBlk_y ?_
  refine thenQ_n ?_
  refine W_seq ?_
  refine W_region ?_
  have hkN : k.toNat = p.funcs.length := by omega
  obtain ⟨R, hR⟩ := pickC_perm (usedQ p) 0 C
  have hC' : (pickC (usedQ p) 0 C).map (·.1) = (reachP p 0).map (funcAt p) := by rw [pickC_map, hC1, pick_funcs]
  have hxs' : xs = toldF (pickC (usedQ p) 0 C) := by rw [hxs, hkN, List.take_of_length_le (by omega)]
  have hzs' : zs = (rankL p).map T.int := by rw [hzs, hkN, rankT_end]
  have hC2' : ∀ c, c ∈ pickC (usedQ p) 0 C → c.2.length = 4 := fun c hc => hC2 c (hR.mem_iff.2 (List.mem_append_left _ hc))
  have hCl' := pickC_len (usedQ p) 0 C
  have hpo : (Prog.ok 1048576 ⟨(pickC (usedQ p) 0 C).map (·.1)⟩) := ⟨⟨by rw [List.length_map]; omega, fun f hf => by
   rw [hC'] at hf
   obtain ⟨n, hn, rfl⟩ := List.mem_map.1 hf
   have := reachP_in hn
   rw [← funcAt_at (n := n) (by omega)]
   exact func_ok hp (by omega)⟩, trivial⟩
  have hsq : ∀ f, f ∈ (pickC (usedQ p) 0 C).map (·.1) → ∀ x, x ∈ seqL f.stmts → 0 ≤ x ∧ x < (rankL p).length := fun f hf x hx => by
   rw [hC'] at hf
   obtain ⟨n, hn, rfl⟩ := List.mem_map.1 hf
   have := reachP_in hn
   rw [← funcAt_at (n := n) (by omega)] at hx
   exact goodP_seqs h1 (rankL_len p) _ (List.getElem_mem _) x hx
  have hml : m = (pickC (usedQ p) 0 C).length := by rw [hm, hxs', toldF, List.length_map]
  generalize pickC (usedQ p) 0 C = C' at *
  clear hzs hxs
  subst hxs' hzs' hml
  refine WO_norm rfl ?_
  refine WO_le (Le.gather (u := 5) (id := 18) rfl rfl (by simp [rankL_len])) ?_
  rw [show ((rankL p).map T.int).take p.funcs.length = (rankL p).map T.int from List.take_of_length_le (by simp [rankL_len])]
  refine WO_norm rfl ?_
  refine WO_le (Le.freeze (u := 5) rfl) ?_
  refine WO_norm rfl ?_
  refine WO_le (Le.rawPick (idp := 133) (g := fun f => T.cells (Func.tt f)) (n := 4) (C := C) (C' := C') (R := R) rfl (fun _ => rfl) hC2 rfl (by rw [hC1, List.flatMap_map]) hR) ?_
  refine WO_norm rfl ?_
  refine WO_le (Le.claimAll (id := 190) (idp := 133) (xs := (C'.map (·.1)).map Func.tt) (ys := toldF C') rfl rfl (toldF_flat C') (by rw [List.flatMap_map]) (by simp [toldF]) (cellsF _) rfl) ?_
  refine WO_norm rfl ?_
  refine WO_le (Le.gatherBox (u := 6) (j := 0) (id := 190) rfl rfl rfl (by simp) rfl) ?_
  rw [show ((C'.map (·.1)).map Func.tt).take C'.length = (C'.map (·.1)).map Func.tt from List.take_of_length_le (by simp)]
  refine WO_norm rfl ?_
  refine WO_exposeBox (u := 6) (idp := 134) (j := 0) rfl rfl rfl (fun v => ?_)
  refine WO_norm rfl ?_
  refine ev ?_
  iterate 2 (refine WO_norm rfl ?_)
  refine ev ?_
  refine WO_writeS (id := 134) (us := [v]) rfl rfl (lt_of rfl) rfl rfl rfl rfl rfl rfl rfl (renumber_w ⟨C'.map (·.1)⟩ (rankL p) hpo hsq (by rw [rankL_len]; omega)) ?_
  refine WO_norm rfl ?_
  refine WO_le (Le.claimBox (u := 6) (idp := 134) (j := 0) rfl rfl rfl rfl) ?_
  refine WO_norm rfl ?_
  refine WO_nil ?_
  refine thenQ_n ?_
  refine W_seq ?_
  refine W_region ?_
  first | (refine ev ?_; try refine WO_le (Le.freeze (u := 48) rfl) ?_) | refine WO_loadMove tys rfl rfl (lt_of rfl) rfl rfl rfl rfl rfl rfl ?_
  refine WO_norm rfl ?_
  refine WO_store tys rfl rfl rfl rfl rfl rfl rfl rfl (lt_of rfl) ?_
  refine WO_norm rfl ?_
  refine ev ?_
  refine WO_nil ?_
  refine thenQ_n ?_
  try (refine W_le (Le.nilBox (u := 2) (j := 0) 4 rfl rfl) ?_; refine W_norm rfl ?_)
  refine W_ret ?_
  refine Ends_of (.inr rfl) (ret_okF rfl) (by decide) rfl ?_
  · first
    | exact dropU_no h1
    | exact dropU_yes h1 (by
       show ((C'.map (·.1)).map (movF (rankL p))).map Func.tt = _
       rw [hC']
       simp only [List.map_map, Function.comp_def])

end Go.Proofs.Ytiigmjlmhmgebaa
