/- Walks of what a function calls, and of what is reached. -/
import Derived.Test.YtiigmjlmhmgebaaGea
import Derived.Test.YtiigmjlmhmgebaaPc
import Derived.Test.YtiigmjlmhmgebaaMc
set_option linter.unusedVariables false
set_option linter.unusedSimpArgs false
set_option maxRecDepth 10000
set_option maxHeartbeats 1000000
namespace Go.Proofs.Ytiigmjlmhmgebaa
open Go.Eng

def seqP (p : Prog) (n : Int) : List Int := seqL (funcAt p n).stmts
def callsP (p : Prog) (n : Int) : List Int := setN 5 (seqP p n)

def marks (N : Nat) (l : List Int) : List T := (upto N).map fun n => T.bool (decide (n ∈ l))
theorem marks_len (N : Nat) (l : List Int) : (marks N l).length = N := by rw [marks, List.length_map, upto_len]
theorem marks_nil (N : Nat) : List.replicate N (T.bool false) = marks N [] := by
  refine List.ext_getElem (by rw [marks_len]; simp) fun k h1 h2 => ?_
  simp [marks]
theorem marks_set {N : Nat} {l : List Int} {n : Int} (h0 : 0 ≤ n) (h1 : n < N) : (marks N l).set n.toNat (T.bool true) = marks N (l ++ [n]) := by
  refine List.ext_getElem (by rw [List.length_set, marks_len, marks_len]) fun k h2 h3 => ?_
  rw [marks_len] at h3
  rw [List.getElem_set]
  simp only [marks, List.getElem_map]
  rw [upto_at (by rw [upto_len]; exact h3)]
  split
  · rename_i e; congr 2; simp; omega
  · rename_i e
    congr 2
    simp only [List.mem_append, List.mem_singleton, decide_eq_decide]
    refine propext ⟨.inl, ?_⟩
    rintro (h | h)
    · exact h
    · omega
theorem marks_get {N : Nat} {l : List Int} {n : Int} (h0 : 0 ≤ n) (h1 : n < N) : (marks N l)[0 + n.toNat]? = some (T.bool (decide (n ∈ l))) := by
  rw [Nat.zero_add, marks, List.getElem?_map, List.getElem?_eq_getElem (by rw [upto_len]; omega), upto_at (by rw [upto_len]; omega)]
  simp only [Option.map_some]
  congr 3
  exact congrArg (· ∈ l) (by omega : ((n.toNat : Nat) : Int) = n)
/-- The first of them that are so. -/
def pickT (N : Nat) (p : Int → Bool) (k : Int) : List Int := ((upto N).take k.toNat).filter p
theorem pickT_at {N : Nat} {p : Int → Bool} {k : Int} (h0 : 0 ≤ k) (h1 : k < N) : pickT N p (k + 1) = pickT N p k ++ (if p k = true then [k] else []) := by
  unfold pickT
  rw [take_at h0 (by rw [upto_len]; omega), List.filter_append]
  congr 1
  rw [upto_at (by rw [upto_len]; omega), show ((k.toNat : Nat) : Int) = k from by omega]
  split <;> simp [*]
theorem pickT_end {N : Nat} {p : Int → Bool} {k : Int} (h : (N : Int) ≤ k) : pickT N p k = pickN N p := by
  unfold pickT pickN; rw [take_end (by rw [upto_len]; omega)]
theorem retOwnI {a b : List Int} (h : a = b) : [D.own (.list 1 (a.map T.int))] = [D.own (T.ints b)] := by subst h; rfl

theorem callsOf_fun (f : Func) (hf : f.ok 1048576) (hs : ∀ x, x ∈ seqL f.stmts → 0 ≤ x ∧ x < 5) : Fun Try.prog 90 [.t f.tt] (tupD [.own (T.ints (setN 5 (seqL f.stmts)))]) := by
  have hl : f.stmts.length ≤ 1048576 := hf.2.1.1
  refine Fun.begin tys Try.func90 rfl rfl (N := 56) [(0, .t f.tt)] rfl rfl (fun w0 G F0 => ?_)
  refine W_seq ?_
  refine W_region ?_
  refine WO_box rfl rfl (lt_of rfl) rfl rfl ?_
  refine WO_norm rfl ?_
  refine ev ?_
  refine WO_nil ?_
  refine thenQ_n ?_
  refine W_seq ?_
  refine W_region ?_
  refine WO_make tys (.v (.bool false)) _ rfl rfl (lt_of rfl) rfl rfl rfl rfl rfl (by repeat (first | exact AbsL.nil' | refine AbsL.v' ?_ | refine AbsL.none' ?_)) rfl (by decide) (by decide) ?_
  refine WO_norm rfl ?_
  refine ev ?_
  refine WO_nil ?_
  refine thenQ_n ?_
  iterate 2 (refine W_seq ?_)
  refine W_region ?_
  refine ev ?_
  refine ev ?_
  refine evE ?_
  refine ev ?_
  refine WO_nil ?_
  refine thenQ_n ?_
  refine W_block ?_
  refine W_loopK (α := Int × List T) [13, 14] [] (fun (x : Int × List T) => [(15, .t (.int (x.1))), (3, .sl 11 0 5)]) (fun (x : Int × List T) => [(11, .L 1 (x.2))]) (fun (x : Int × List T) => 0 ≤ (x.1) ∧ (x.1) ≤ f.stmts.length ∧ (x.2) = marks 5 (seqL (f.stmts.take (x.1).toNat))) (fun (x : Int × List T) => Int.toNat (f.stmts.length - (x.1))) (0, List.replicate 5 (T.bool false)) ?_ ?_ ?_ (fun x hx => ?_)
  · repeat (first | exact Sub.nil' | refine Sub.cons' rfl ?_ )
  · repeat (first | exact SubM.nil' | refine SubM.cons' rfl ?_ )
  · exact ⟨by omega, by omega, marks_nil 5⟩
  obtain ⟨k, xs⟩ := x
  obtain ⟨hk0, hk1, hxs⟩ := hx
  try dsimp only at hk0 hk1 hxs ⊢
  refine W_norm rfl ?_
  refine W_seq ?_
  refine W_region ?_
  refine ev ?_
  refine WO_nil ?_
  refine thenQ_n ?_
  refine W_seq ?_
  refine W_cond rfl (fun h1 => ?_) (fun h1 => ?_)
  ·
    try simp only [HS] at h1
    refine W_skip ?_
    refine thenQ_n ?_
    refine W_seq ?_
    refine W_block ?_
    refine W_seq ?_
    refine W_region ?_
    first | refine WO_idxT tys rfl rfl (lt_of rfl) rfl rfl rfl rfl rfl rfl rfl (by omega) _ (getT _ _ (by omega) (by omega)) ?_ | refine WO_idxS tys rfl rfl (lt_of rfl) rfl rfl rfl rfl rfl rfl rfl rfl (by omega) (by omega) ?_
    first | (refine ev ?_; try refine WO_le (Le.freeze (u := 18) rfl) ?_) | refine WO_loadL tys rfl rfl (lt_of rfl) rfl rfl rfl rfl (getT _ _ (by omega) (by omega)) rfl ?_ | refine WO_loadL tys rfl rfl (lt_of rfl) rfl rfl rfl rfl (getT0 _ _ (by omega) (by omega)) rfl ?_
    refine WO_norm rfl ?_
    refine WO_alloc tys rfl rfl (lt_of rfl) rfl rfl rfl ?_
    refine WO_norm rfl ?_
    refine WO_store tys rfl rfl rfl rfl rfl rfl rfl rfl (lt_of rfl) ?_
    refine WO_norm rfl ?_
    refine WO_nil ?_
    refine thenQ_n ?_
    iterate 2 (refine W_seq ?_)
    refine W_region ?_
    iterate 3 (refine ev ?_)
    refine WO_nil ?_
    refine thenQ_n ?_
    refine W_joinN (α := List T) [3, 5, 13, 14, 15, 16, 17, 18, 19, 20, 21] [5] (fun (x : List T) => []) (fun (x : List T) => [(11, .L 1 x)]) (fun (x : List T) => x = marks 5 (seqL (f.stmts.take k.toNat) ++ d3 (f.stmts[k.toNat]'(by omega)))) ?_ (fun ys hx => ?_)
    ·
      refine W_cond rfl (fun h2 => ?_) (fun h2 => ?_)
      ·
        try simp only [HS] at h2
        refine W_keep [3, 5, 13, 14, 15, 16, 17, 18, 19, 20, 21] rfl ?_
        refine W_region ?_
        have hn := seq_def hs (n := k.toNat) (by omega) h2
        have hxl : xs.length = 5 := by rw [hxs, marks_len]
        iterate 3 (refine ev ?_)
        first | refine WO_idxT tys rfl rfl (lt_of rfl) rfl rfl rfl rfl rfl rfl rfl (by omega) _ (getT _ _ (by omega) (by omega)) ?_ | refine WO_idxS tys rfl rfl (lt_of rfl) rfl rfl rfl rfl rfl rfl rfl rfl (by omega) (by omega) ?_
        first | refine WO_storeE tys (T.bool true) rfl rfl rfl rfl rfl rfl (by first | exact Nat.zero_add _ | rfl) (by omega) rfl (by repeat (first | exact AbsL.nil' | refine AbsL.v' ?_ | refine AbsL.own' ?_)) rfl rfl rfl ?_ | refine WO_storeL tys _ rfl rfl rfl rfl rfl rfl (getT _ _ (by omega) (by omega)) rfl (by repeat (first | exact AbsL.nil' | refine AbsL.v' ?_ | refine AbsL.own' ?_)) rfl (by decide) (by decide) ?_
        refine WO_norm rfl ?_
        refine WO_nil ?_
        refine joinQ_n _ (by (try dsimp only); repeat (first | exact Sub.nil' | refine Sub.cons' rfl ?_)) (by (try dsimp only); repeat (first | exact SubM.nil' | refine SubM.cons' rfl ?_)) ?_
        try dsimp only
        first
        | (rw [hxs, marks_set hn.1 hn.2, d3, if_pos h2]; done)
        | (rw [hxs, d3, if_neg h2, List.append_nil]; done)
      try simp only [HS] at h2
      refine W_skip ?_
      refine joinQ_n _ (by (try dsimp only); repeat (first | exact Sub.nil' | refine Sub.cons' rfl ?_)) (by (try dsimp only); repeat (first | exact SubM.nil' | refine SubM.cons' rfl ?_)) ?_
      try dsimp only
      first
      | (rw [hxs, marks_set hn.1 hn.2, d3, if_pos h2]; done)
      | (rw [hxs, d3, if_neg h2, List.append_nil]; done)
    have hys := hx
    refine thenQ_n ?_
    refine W_seq ?_
    refine W_keep [3, 5, 13, 14, 15, 16, 17, 18, 19, 20, 21] rfl ?_
    refine W_region ?_
    have hel := (stmt_ok hf (n := k.toNat) (by omega)).2.2
    refine ev ?_
    refine ev ?_
    refine evE ?_
    refine ev ?_
    refine WO_nil ?_
    refine thenQ_n ?_
    refine W_block ?_
    refine W_loopK (α := Int × List T) [13, 14, 15, 27, 28] [] (fun (x : Int × List T) => [(29, .t (.int (x.1))), (3, .sl 11 0 5)]) (fun (x : Int × List T) => [(11, .L 1 (x.2))]) (fun (x : Int × List T) => 0 ≤ (x.1) ∧ (x.1) ≤ (f.stmts[k.toNat]'(by omega)).ex.length ∧ (x.2) = marks 5 (seqL (f.stmts.take k.toNat) ++ d3 (f.stmts[k.toNat]'(by omega)) ++ tokS ((f.stmts[k.toNat]'(by omega)).ex.take (x.1).toNat))) (fun (x : Int × List T) => Int.toNat ((f.stmts[k.toNat]'(by omega)).ex.length - (x.1))) (0, ys) ?_ ?_ ?_ (fun x hx => ?_)
    · repeat (first | exact Sub.nil' | refine Sub.cons' rfl ?_ )
    · repeat (first | exact SubM.nil' | refine SubM.cons' rfl ?_ )
    · exact ⟨by omega, by omega, by rw [hys]; simp [tokS]⟩
    obtain ⟨j, zs⟩ := x
    obtain ⟨hj0, hj1, hzs⟩ := hx
    try dsimp only at hj0 hj1 hzs ⊢
    refine W_norm rfl ?_
    refine W_seq ?_
    refine W_region ?_
    refine ev ?_
    refine WO_nil ?_
    refine thenQ_n ?_
    refine W_seq ?_
    refine W_cond rfl (fun h2 => ?_) (fun h2 => ?_)
    ·
      try simp only [HS] at h2
      refine W_skip ?_
      refine thenQ_n ?_
      refine W_seq ?_
      refine W_block ?_
      refine W_seq ?_
      refine W_region ?_
      first | refine WO_idxT tys rfl rfl (lt_of rfl) rfl rfl rfl rfl rfl rfl rfl (by omega) _ (getT _ _ (by omega) (by omega)) ?_ | refine WO_idxS tys rfl rfl (lt_of rfl) rfl rfl rfl rfl rfl rfl rfl rfl (by omega) (by omega) ?_
      first | (refine ev ?_; try refine WO_le (Le.freeze (u := 32) rfl) ?_) | refine WO_loadL tys rfl rfl (lt_of rfl) rfl rfl rfl rfl (getT _ _ (by omega) (by omega)) rfl ?_ | refine WO_loadL tys rfl rfl (lt_of rfl) rfl rfl rfl rfl (getT0 _ _ (by omega) (by omega)) rfl ?_
      refine WO_norm rfl ?_
      refine WO_alloc tys rfl rfl (lt_of rfl) rfl rfl rfl ?_
      refine WO_norm rfl ?_
      refine WO_store tys rfl rfl rfl rfl rfl rfl rfl rfl (lt_of rfl) ?_
      refine WO_norm rfl ?_
      refine WO_nil ?_
      refine thenQ_n ?_
      refine W_seq ?_
      refine W_region ?_
      iterate 3 (refine ev ?_)
      refine WO_nil ?_
      refine thenQ_n ?_
      refine W_cond rfl (fun h3 => ?_) (fun h3 => ?_)
      ·
        try simp only [HS] at h3
        refine W_keep [3, 7, 13, 14, 15, 27, 28, 29, 30, 31, 32, 33, 34, 35] rfl ?_
        refine W_region ?_
        have hn := seq_tok hs (n := k.toNat) (by omega) (j := j.toNat) (by omega) h3
        have hzl : zs.length = 5 := by rw [hzs, marks_len]
        iterate 3 (refine ev ?_)
        first | refine WO_idxT tys rfl rfl (lt_of rfl) rfl rfl rfl rfl rfl rfl rfl (by omega) _ (getT _ _ (by omega) (by omega)) ?_ | refine WO_idxS tys rfl rfl (lt_of rfl) rfl rfl rfl rfl rfl rfl rfl rfl (by omega) (by omega) ?_
        first | refine WO_storeE tys (T.bool true) rfl rfl rfl rfl rfl rfl (by first | exact Nat.zero_add _ | rfl) (by omega) rfl (by repeat (first | exact AbsL.nil' | refine AbsL.v' ?_ | refine AbsL.own' ?_)) rfl rfl rfl ?_ | refine WO_storeL tys _ rfl rfl rfl rfl rfl rfl (getT _ _ (by omega) (by omega)) rfl (by repeat (first | exact AbsL.nil' | refine AbsL.v' ?_ | refine AbsL.own' ?_)) rfl (by decide) (by decide) ?_
        refine WO_norm rfl ?_
        refine WO_nil ?_
        refine inBlk_n ?_
        refine thenQ_n ?_
        refine W_region ?_
        refine evI ?_
        refine ev ?_
        refine WO_nil ?_
        refine loopQ_n (_, _) (by (try dsimp only); repeat (first | exact Sub.nil' | refine Sub.cons' rfl ?_ )) (by (try dsimp only); repeat (first | exact SubM.nil' | refine SubM.cons' rfl ?_ )) ?_ ?_
        · try dsimp only
          first
          | (refine ⟨by omega, by omega, ?_⟩; rw [hzs, marks_set hn.1 hn.2, tokS_at hj0 (by omega), if_pos h3, List.append_assoc]; done)
          | (refine ⟨by omega, by omega, ?_⟩; rw [hzs, tokS_at hj0 (by omega), if_neg h3, List.append_nil]; done)
        · (show Int.toNat _ < Int.toNat _); omega
      try simp only [HS] at h3
      refine W_skip ?_
      refine inBlk_n ?_
      refine thenQ_n ?_
      refine W_keep [3, 7, 13, 14, 15, 27, 28, 29, 30, 31, 32, 33, 34, 35] rfl ?_
      refine W_region ?_
      refine evI ?_
      refine ev ?_
      refine WO_nil ?_
      refine loopQ_n (_, _) (by (try dsimp only); repeat (first | exact Sub.nil' | refine Sub.cons' rfl ?_ )) (by (try dsimp only); repeat (first | exact SubM.nil' | refine SubM.cons' rfl ?_ )) ?_ ?_
      · try dsimp only
        first
        | (refine ⟨by omega, by omega, ?_⟩; rw [hzs, marks_set hn.1 hn.2, tokS_at hj0 (by omega), if_pos h3, List.append_assoc]; done)
        | (refine ⟨by omega, by omega, ?_⟩; rw [hzs, tokS_at hj0 (by omega), if_neg h3, List.append_nil]; done)
      · (show Int.toNat _ < Int.toNat _); omega
    try simp only [HS] at h2
    refine W_exit ?_
    refine thenQ_e ?_
    refine loopQ_e ?_
    refine inBlk_y ?_
    refine inBlk_n ?_
    refine thenQ_n ?_
    refine W_region ?_
    refine evI ?_
    refine ev ?_
    refine WO_nil ?_
    refine loopQ_n (_, _) (by (try dsimp only); repeat (first | exact Sub.nil' | refine Sub.cons' rfl ?_ )) (by (try dsimp only); repeat (first | exact SubM.nil' | refine SubM.cons' rfl ?_ )) ?_ ?_
    · try dsimp only
      exact ⟨by omega, by omega, by rw [hzs, seqL_at hk0 (by omega), take_end (l := (f.stmts[k.toNat]'(by omega)).ex) (k := j) (by omega), List.append_assoc]⟩
    · (show Int.toNat _ < Int.toNat _); omega
  try simp only [HS] at h1
  refine W_exit ?_
  refine thenQ_e ?_
  refine loopQ_e ?_
  refine inBlk_y ?_
  refine thenQ_n ?_
  refine W_seq ?_
  refine W_region ?_
  refine ev ?_
  refine WO_le (Le.nilOwn (u := 8) 1 rfl) ?_
  refine WO_le (Le.adoptE (u := 8) 8 rfl rfl) ?_
  refine WO_norm rfl ?_
  refine WO_nil ?_
  refine thenQ_n ?_
  iterate 2 (refine W_seq ?_)
  refine W_region ?_
  refine ev ?_
  refine evE ?_
  refine ev ?_
  refine WO_nil ?_
  refine thenQ_n ?_
  refine W_block ?_
  refine W_loopK (α := Int × Nat × List T) [42, 43] [11] (fun (x : Int × Nat × List T) => [(44, .t (.int (x.1))), (8, .sl 8 0 (x.2.1))]) (fun (x : Int × Nat × List T) => [(8, .L 1 (x.2.2))]) (fun (x : Int × Nat × List T) => 0 ≤ (x.1) ∧ (x.1) ≤ 5 ∧ (x.2.1) = (x.2.2).length ∧ (x.2.2).length ≤ (x.1) ∧ (x.2.2) = (pickT 5 (fun x => decide (x ∈ seqL (f.stmts.take k.toNat))) (x.1)).map T.int) (fun (x : Int × Nat × List T) => Int.toNat (5 - (x.1))) (0, 0, []) ?_ ?_ ?_ (fun x hx => ?_)
  · repeat (first | exact Sub.nil' | refine Sub.cons' rfl ?_ )
  · repeat (first | exact SubM.nil' | refine SubM.cons' rfl ?_ )
  · exact ⟨by omega, by omega, rfl, by simp, rfl⟩
  obtain ⟨q, m, ws⟩ := x
  obtain ⟨hq0, hq1, hm, hwl, hws⟩ := hx
  try dsimp only at hq0 hq1 hm hwl hws ⊢
  refine W_norm rfl ?_
  refine W_seq ?_
  refine W_region ?_
  refine ev ?_
  refine WO_nil ?_
  refine thenQ_n ?_
  refine W_seq ?_
  refine W_cond rfl (fun h2 => ?_) (fun h2 => ?_)
  ·
    try simp only [HS] at h2
    refine W_skip ?_
    refine thenQ_n ?_
    refine W_seq ?_
    refine W_block ?_
    refine W_seq ?_
    refine W_region ?_
    refine ev ?_
    first | refine WO_idxT tys rfl rfl (lt_of rfl) rfl rfl rfl rfl rfl rfl rfl (by omega) _ (getT _ _ (by omega) (by omega)) ?_ | refine WO_idxS tys rfl rfl (lt_of rfl) rfl rfl rfl rfl rfl rfl rfl rfl (by omega) (by omega) ?_
    refine WO_loadL tys rfl rfl (lt_of rfl) rfl rfl rfl rfl (by rw [hxs]; exact marks_get hq0 (by omega)) rfl ?_
    refine ev ?_
    refine ev ?_
    refine WO_nil ?_
    refine thenQ_n ?_
    refine W_seq ?_
    refine W_region ?_
    refine ev ?_
    refine WO_nil ?_
    refine thenQ_n ?_
    refine W_cond rfl (fun h3 => ?_) (fun h3 => ?_)
    ·
      try simp only [HS] at h3
      refine W_keep [8, 9, 10, 42, 43, 44, 45, 46, 47, 48, 49] rfl ?_
      refine W_region ?_
      refine ev ?_
      refine ev ?_
      refine WO_buildSlice tys [T.int q] rfl rfl (lt_of rfl) rfl rfl rfl rfl rfl (lt_of rfl) (by repeat (first | exact PartsOk.nil' | refine PartsOk.cons' rfl (by repeat (first | exact AbsL.nil' | refine AbsL.v' ?_ | refine AbsL.own' ?_ | refine AbsL.none' ?_)) rfl ?_)) (by first | exact List.nodup_nil | exact nodup1 _ | decide | exact nodupB_sound rfl) rfl (by decide) ?_
      refine WO_norm rfl ?_
      first | refine WO_append tys rfl rfl (lt_of rfl) rfl rfl rfl rfl rfl (.own rfl (by first | omega | (simp only [List.length_append]; omega))) rfl (.own rfl (by first | decide | omega)) (by decide) (by simp only [List.length_take, List.length_cons, List.length_nil]; omega) (by decide) rfl ?_ | refine WO_append tys rfl rfl (lt_of rfl) rfl rfl rfl rfl rfl .nil rfl (.own rfl (by first | decide | omega)) (by decide) (by simp only [List.length_take, List.length_cons, List.length_nil]; omega) (by decide) rfl ?_
      refine WO_norm rfl ?_
      refine ev ?_
      refine WO_nil ?_
      refine inBlk_n ?_
      refine thenQ_n ?_
      refine W_region ?_
      refine evI ?_
      refine ev ?_
      refine WO_nil ?_
      refine loopQ_n (_, _, _) (by (try dsimp only); repeat (first | exact Sub.nil' | refine Sub.cons' rfl ?_ )) (by (try dsimp only); repeat (first | exact SubM.nil' | refine SubM.cons' rfl ?_ )) ?_ ?_
      · try dsimp only
        subst hm
        first
        | (refine ⟨by omega, by omega, by simp, by simp; omega, ?_⟩; rw [List.take_length, hws, pickT_at hq0 (by omega), if_pos (by simpa using h3), List.map_append]; rfl)
        | (refine ⟨by omega, by omega, rfl, by omega, ?_⟩; rw [hws, pickT_at hq0 (by omega), if_neg (by simpa using h3), List.append_nil]; done)
      · (show Int.toNat _ < Int.toNat _); omega
    try simp only [HS] at h3
    refine W_skip ?_
    refine inBlk_n ?_
    refine thenQ_n ?_
    refine W_keep [8, 9, 10, 42, 43, 44, 45, 46, 47, 48, 49] rfl ?_
    refine W_region ?_
    refine evI ?_
    refine ev ?_
    refine WO_nil ?_
    refine loopQ_n (_, _, _) (by (try dsimp only); repeat (first | exact Sub.nil' | refine Sub.cons' rfl ?_ )) (by (try dsimp only); repeat (first | exact SubM.nil' | refine SubM.cons' rfl ?_ )) ?_ ?_
    · try dsimp only
      subst hm
      first
      | (refine ⟨by omega, by omega, by simp, by simp; omega, ?_⟩; rw [List.take_length, hws, pickT_at hq0 (by omega), if_pos (by simpa using h3), List.map_append]; rfl)
      | (refine ⟨by omega, by omega, rfl, by omega, ?_⟩; rw [hws, pickT_at hq0 (by omega), if_neg (by simpa using h3), List.append_nil]; done)
    · (show Int.toNat _ < Int.toNat _); omega
  try simp only [HS] at h2
  refine W_exit ?_
  refine thenQ_e ?_
  refine loopQ_e ?_
  refine inBlk_y ?_
  refine thenQ_n ?_
  refine W_seq ?_
  refine W_region ?_
  refine ev ?_
  refine ev ?_
  refine WO_nil ?_
  refine thenQ_n ?_
  refine W_le (Le.gather (u := 2) (id := 8) rfl rfl (by omega)) ?_
  refine W_ret ?_
  refine Ends_of (.inr rfl) (ret_okF rfl) (by decide) rfl ?_
  · (rw [hm, List.take_length, hws]; refine retOwnI ?_; rw [pickT_end (by omega), take_end (by omega)]; rfl)

theorem put_same {l : List Int} {n k : Int} (h0 : 0 ≤ k) (h1 : k < l.length) (h : l[k.toNat]'(by omega) = n) : put l n = l := by
  rw [put, if_pos (h ▸ List.getElem_mem _)]
theorem put_new {l : List Int} {n k : Int} (hl : l.Pairwise (· < ·)) (h0 : 0 ≤ k) (h1 : k ≤ l.length) (hlt : ∀ (i : Nat) (hi : i < l.length), (i : Int) < k → l[i] < n) (hge : ∀ (h : k < l.length), n < l[k.toNat]'(by omega)) : put l n = l.take k.toNat ++ n :: l.drop k.toNat := by
  rw [put_at h0 h1 hl hlt fun h => Int.le_of_lt (hge h), dif_neg]
  rintro ⟨h, he⟩
  rw [List.getElem?_eq_getElem (by omega)] at he
  have := hge h
  have : l[k.toNat] = n := Option.some.inj he
  omega
theorem put_shape {l : List Int} {n k : Int} (e : put l n = l.take k.toNat ++ n :: l.drop k.toNat) : ((l.map T.int).drop (0 : Int).toNat).take (k.toNat - (0 : Int).toNat) ++ [T.int n] ++ ((l.map T.int).drop k.toNat).take ((((l.map T.int).length : Nat) : Int).toNat - k.toNat) = (put l n).map T.int := by
  rw [e, List.take_of_length_le (l := (l.map T.int).drop k.toNat) (by simp)]
  simp

theorem l1Put_fun (l : List Int) (n : Int) (hl : l.length ≤ 1048576) (hr : l.Pairwise (· < ·)) : Fun Try.prog 48 [.t (T.ints l), .t (.int n)] (tupD [.t (T.ints (put l n))]) := by
  refine Fun.begin tys Try.func48 rfl rfl (N := 48) [(0, .t (T.ints l)), (1, .t (.int n))] rfl rfl (fun w0 G F0 => ?_)
  refine W_seq ?_
  refine W_region ?_
  refine ev ?_
  refine WO_nil ?_
  refine thenQ_n ?_
  refine W_seq ?_
  refine W_region ?_
  refine ev ?_
  refine WO_nil ?_
  refine thenQ_n ?_
  refine W_seq ?_
  refine W_block ?_
  refine W_loopK (α := Int) [0, 1] [] (fun (x : Int) => [(5, .t (.int x))]) (fun (x : Int) => []) (fun (x : Int) => 0 ≤ x ∧ x ≤ l.length ∧ ∀ (i : Nat) (hi : i < l.length), (i : Int) < x → l[i] < n) (fun (x : Int) => Int.toNat (l.length - x)) 0 ?_ ?_ ?_ (fun k hx => ?_)
  · repeat (first | exact Sub.nil' | refine Sub.cons' rfl ?_ )
  · repeat (first | exact SubM.nil' | refine SubM.cons' rfl ?_ )
  · exact ⟨by omega, by omega, fun i hi h => by omega⟩
  obtain ⟨hk0, hk1, hk2⟩ := hx
  refine W_norm rfl ?_
  iterate 2 (refine W_seq ?_)
  refine W_region ?_
  refine ev ?_
  refine ev ?_
  refine evE ?_
  refine ev ?_
  refine ev ?_
  refine WO_guard rfl rfl rfl rfl (lt_of rfl) (fun h1 => ?_) (fun h1 => ?_)
  rotate_left
  ·
    try simp only [HS] at h1
    iterate 4 (refine WO_guardN rfl rfl rfl rfl rfl (lt_of rfl) ?_)
    refine WO_keep [0, 1, 5, 7, 8, 9, 10, 11, 12, 13, 14, 15, 16] rfl ?_
    refine WO_guardN rfl rfl rfl rfl rfl (lt_of rfl) ?_
    refine ev ?_
    refine WO_nil ?_
    refine thenQ_n ?_
    refine W_condF rfl ?_
    refine W_exit ?_
    refine thenQ_e ?_
    refine loopQ_e ?_
    refine inBlk_y ?_
    refine thenQ_n ?_
    iterate 2 (refine W_seq ?_)
    refine W_region ?_
    refine ev ?_
    refine ev ?_
    refine evE ?_
    refine ev ?_
    refine ev ?_
    refine WO_guard rfl rfl rfl rfl (lt_of rfl) (fun h2 => ?_) (fun h2 => ?_)
    rotate_left
    ·
      try simp only [HS] at h2
      iterate 2 (refine WO_guardN rfl rfl rfl rfl rfl (lt_of rfl) ?_)
      refine WO_keep [0, 1, 5, 25, 28] rfl ?_
      iterate 3 (refine WO_guardN rfl rfl rfl rfl rfl (lt_of rfl) ?_)
      refine ev ?_
      refine WO_nil ?_
      refine thenQ_n ?_
      refine W_condF rfl ?_
      refine W_skip ?_
      refine thenQ_n ?_
      refine W_seq ?_
      refine W_region ?_
      refine WO_buildSlice tys [] rfl rfl (lt_of rfl) rfl rfl rfl rfl rfl (by decide) (by repeat (first | exact PartsOk.nil' | refine PartsOk.cons' rfl (by repeat (first | exact AbsL.nil' | refine AbsL.v' ?_ | refine AbsL.own' ?_ | refine AbsL.none' ?_)) rfl ?_)) (by first | exact List.nodup_nil | exact nodup1 _ | decide | exact nodupB_sound rfl) rfl (by decide) ?_
      refine WO_norm rfl ?_
      refine ev ?_
      refine ev ?_
      first | refine WO_sliceNil tys rfl rfl (lt_of rfl) rfl rfl rfl rfl rfl rfl rfl ?_ | refine WO_sliceT tys rfl rfl (lt_of rfl) rfl rfl rfl rfl rfl rfl rfl rfl (by first | omega | (simp only [List.length_map]; omega)) (by first | omega | (simp only [List.length_map]; omega)) (by first | omega | (simp only [List.length_map]; omega)) ?_ | refine WO_sliceS tys rfl rfl (lt_of rfl) rfl rfl rfl rfl rfl rfl rfl rfl rfl (by omega) (by omega) (by omega) ?_
      first | refine WO_append tys rfl rfl (lt_of rfl) rfl rfl rfl rfl rfl (.own rfl (by first | omega | (simp only [List.length_append]; omega))) rfl (.read (readTD _ _ _)) (by decide) (by simp; omega) (by decide) rfl ?_ | refine WO_append tys rfl rfl (lt_of rfl) rfl rfl rfl rfl rfl .nil rfl (.read (readTD _ _ _)) (by decide) (by simp; omega) (by decide) rfl ?_
      refine WO_norm rfl ?_
      refine WO_keep [0, 1, 5, 38] rfl ?_
      refine ev ?_
      refine WO_nil ?_
      refine thenQ_n ?_
      refine W_seq ?_
      refine W_region ?_
      refine ev ?_
      refine ev ?_
      refine WO_buildSlice tys [T.int n] rfl rfl (lt_of rfl) rfl rfl rfl rfl rfl (lt_of rfl) (by repeat (first | exact PartsOk.nil' | refine PartsOk.cons' rfl (by repeat (first | exact AbsL.nil' | refine AbsL.v' ?_ | refine AbsL.own' ?_ | refine AbsL.none' ?_)) rfl ?_)) (by first | exact List.nodup_nil | exact nodup1 _ | decide | exact nodupB_sound rfl) rfl (by decide) ?_
      refine WO_norm rfl ?_
      first | refine WO_append tys rfl rfl (lt_of rfl) rfl rfl rfl rfl rfl (.own rfl (by first | omega | (simp only [List.length_append]; omega))) rfl (.own rfl (by first | decide | omega)) (by decide) (by simp; omega) (by decide) rfl ?_ | refine WO_append tys rfl rfl (lt_of rfl) rfl rfl rfl rfl rfl .nil rfl (.own rfl (by first | decide | omega)) (by decide) (by simp; omega) (by decide) rfl ?_
      refine WO_norm rfl ?_
      refine ev ?_
      refine WO_nil ?_
      refine thenQ_n ?_
      refine W_seq ?_
      refine W_region ?_
      iterate 3 (refine ev ?_)
      refine WO_keep [43, 44, 45] rfl ?_
      first | refine WO_sliceNil tys rfl rfl (lt_of rfl) rfl rfl rfl rfl rfl rfl rfl ?_ | refine WO_sliceT tys rfl rfl (lt_of rfl) rfl rfl rfl rfl rfl rfl rfl rfl (by first | omega | (simp only [List.length_map]; omega)) (by first | omega | (simp only [List.length_map]; omega)) (by first | omega | (simp only [List.length_map]; omega)) ?_ | refine WO_sliceS tys rfl rfl (lt_of rfl) rfl rfl rfl rfl rfl rfl rfl rfl rfl (by omega) (by omega) (by omega) ?_
      first | refine WO_append tys rfl rfl (lt_of rfl) rfl rfl rfl rfl rfl (.own rfl (by first | omega | (simp only [List.length_append]; omega))) rfl (.read (readTD _ _ _)) (by decide) (by simp; omega) (by decide) rfl ?_ | refine WO_append tys rfl rfl (lt_of rfl) rfl rfl rfl rfl rfl .nil rfl (.read (readTD _ _ _)) (by decide) (by simp; omega) (by decide) rfl ?_
      refine WO_norm rfl ?_
      refine ev ?_
      refine WO_nil ?_
      refine thenQ_n ?_
      try (refine W_le (Le.gather (u := 4) (id := 34) rfl rfl (by first | (simp; done) | (simp; omega) | omega)) ?_; refine W_norm rfl ?_; refine W_le (Le.freeze (u := 4) rfl) ?_; refine W_norm rfl ?_)
      refine W_ret ?_
      refine Ends_of (.inr rfl) (ret_okF rfl) (by decide) rfl ?_
      · first
        | (exfalso; omega)
        | (refine retTI ?_; rw [put_same hk0 (by omega) (by assumption)]; done)
        | (have e := put_new hr hk0 hk1 hk2 (fun h => by omega)
           refine retTI ?_
           rw [← put_shape e]
           simp only [take_app, List.take_length, List.nil_append, List.length_nil, Nat.zero_add, List.take_nil]
           done)
    try simp only [HS] at h2
    refine ev ?_
    refine WO_guardY rfl rfl rfl rfl (lt_of rfl) ?_
    refine ev ?_
    refine WO_keep [0, 1, 5, 25, 26, 27] rfl ?_
    refine WO_guardY rfl rfl rfl rfl (lt_of rfl) ?_
    first | refine WO_idxT tys rfl rfl (lt_of rfl) rfl rfl rfl rfl rfl rfl rfl (by omega) _ (getT _ _ (by omega) (by omega)) ?_ | refine WO_idxS tys rfl rfl (lt_of rfl) rfl rfl rfl rfl rfl rfl rfl rfl (by omega) (by omega) ?_
    refine WO_guardY rfl rfl rfl rfl (lt_of rfl) ?_
    first | refine ev ?_ | refine WO_loadL tys rfl rfl (lt_of rfl) rfl rfl rfl rfl (getT _ _ (by omega) (by omega)) rfl ?_ | refine WO_loadL tys rfl rfl (lt_of rfl) rfl rfl rfl rfl (getT0 _ _ (by omega) (by omega)) rfl ?_
    refine WO_guardY rfl rfl rfl rfl (lt_of rfl) ?_
    refine ev ?_
    refine WO_guardY rfl rfl rfl rfl (lt_of rfl) ?_
    refine ev ?_
    refine ev ?_
    refine WO_nil ?_
    refine thenQ_n ?_
    refine W_cond rfl (fun h3 => ?_) (fun h3 => ?_)
    ·
      try simp only [HS] at h3
      refine W_seq ?_
      refine W_region ?_
      refine ev ?_
      refine ev ?_
      refine WO_nil ?_
      refine thenQ_n ?_
      try (refine W_le (Le.gather (u := 4) (id := 34) rfl rfl (by first | (simp; done) | (simp; omega) | omega)) ?_; refine W_norm rfl ?_; refine W_le (Le.freeze (u := 4) rfl) ?_; refine W_norm rfl ?_)
      refine W_ret ?_
      refine thenQ_r ?_
      refine Ends_of (.inr rfl) (ret_okF rfl) (by decide) rfl ?_
      · first
        | (exfalso; omega)
        | (refine retTI ?_; rw [put_same hk0 (by omega) (by assumption)]; done)
        | (have e := put_new hr hk0 hk1 hk2 (fun h => by omega)
           refine retTI ?_
           rw [← put_shape e]
           simp only [take_app, List.take_length, List.nil_append, List.length_nil, Nat.zero_add, List.take_nil]
           done)
    try simp only [HS] at h3
    refine W_skip ?_
    refine thenQ_n ?_
    refine W_seq ?_
    refine W_region ?_
    refine WO_buildSlice tys [] rfl rfl (lt_of rfl) rfl rfl rfl rfl rfl (by decide) (by repeat (first | exact PartsOk.nil' | refine PartsOk.cons' rfl (by repeat (first | exact AbsL.nil' | refine AbsL.v' ?_ | refine AbsL.own' ?_ | refine AbsL.none' ?_)) rfl ?_)) (by first | exact List.nodup_nil | exact nodup1 _ | decide | exact nodupB_sound rfl) rfl (by decide) ?_
    refine WO_norm rfl ?_
    refine ev ?_
    refine ev ?_
    first | refine WO_sliceNil tys rfl rfl (lt_of rfl) rfl rfl rfl rfl rfl rfl rfl ?_ | refine WO_sliceT tys rfl rfl (lt_of rfl) rfl rfl rfl rfl rfl rfl rfl rfl (by first | omega | (simp only [List.length_map]; omega)) (by first | omega | (simp only [List.length_map]; omega)) (by first | omega | (simp only [List.length_map]; omega)) ?_ | refine WO_sliceS tys rfl rfl (lt_of rfl) rfl rfl rfl rfl rfl rfl rfl rfl rfl (by omega) (by omega) (by omega) ?_
    refine WO_keep [0, 1, 5, 34, 37] rfl ?_
    first | refine WO_append tys rfl rfl (lt_of rfl) rfl rfl rfl rfl rfl (.own rfl (by first | omega | (simp only [List.length_append]; omega))) rfl (.read (readTD _ _ _)) (by decide) (by simp; omega) (by decide) rfl ?_ | refine WO_append tys rfl rfl (lt_of rfl) rfl rfl rfl rfl rfl .nil rfl (.read (readTD _ _ _)) (by decide) (by simp; omega) (by decide) rfl ?_
    refine WO_norm rfl ?_
    refine ev ?_
    refine WO_nil ?_
    refine thenQ_n ?_
    refine W_seq ?_
    refine W_region ?_
    refine ev ?_
    refine ev ?_
    refine WO_buildSlice tys [T.int n] rfl rfl (lt_of rfl) rfl rfl rfl rfl rfl (lt_of rfl) (by repeat (first | exact PartsOk.nil' | refine PartsOk.cons' rfl (by repeat (first | exact AbsL.nil' | refine AbsL.v' ?_ | refine AbsL.own' ?_ | refine AbsL.none' ?_)) rfl ?_)) (by first | exact List.nodup_nil | exact nodup1 _ | decide | exact nodupB_sound rfl) rfl (by decide) ?_
    refine WO_norm rfl ?_
    first | refine WO_append tys rfl rfl (lt_of rfl) rfl rfl rfl rfl rfl (.own rfl (by first | omega | (simp only [List.length_append]; omega))) rfl (.own rfl (by first | decide | omega)) (by decide) (by simp; omega) (by decide) rfl ?_ | refine WO_append tys rfl rfl (lt_of rfl) rfl rfl rfl rfl rfl .nil rfl (.own rfl (by first | decide | omega)) (by decide) (by simp; omega) (by decide) rfl ?_
    refine WO_norm rfl ?_
    refine ev ?_
    refine WO_nil ?_
    refine thenQ_n ?_
    refine W_seq ?_
    refine W_keep [0, 5, 6] rfl ?_
    refine W_region ?_
    iterate 3 (refine ev ?_)
    first | refine WO_sliceNil tys rfl rfl (lt_of rfl) rfl rfl rfl rfl rfl rfl rfl ?_ | refine WO_sliceT tys rfl rfl (lt_of rfl) rfl rfl rfl rfl rfl rfl rfl rfl (by first | omega | (simp only [List.length_map]; omega)) (by first | omega | (simp only [List.length_map]; omega)) (by first | omega | (simp only [List.length_map]; omega)) ?_ | refine WO_sliceS tys rfl rfl (lt_of rfl) rfl rfl rfl rfl rfl rfl rfl rfl rfl (by omega) (by omega) (by omega) ?_
    first | refine WO_append tys rfl rfl (lt_of rfl) rfl rfl rfl rfl rfl (.own rfl (by first | omega | (simp only [List.length_append]; omega))) rfl (.read (readTD _ _ _)) (by decide) (by simp; omega) (by decide) rfl ?_ | refine WO_append tys rfl rfl (lt_of rfl) rfl rfl rfl rfl rfl .nil rfl (.read (readTD _ _ _)) (by decide) (by simp; omega) (by decide) rfl ?_
    refine WO_norm rfl ?_
    refine ev ?_
    refine WO_nil ?_
    refine thenQ_n ?_
    try (refine W_le (Le.gather (u := 4) (id := 34) rfl rfl (by first | (simp; done) | (simp; omega) | omega)) ?_; refine W_norm rfl ?_; refine W_le (Le.freeze (u := 4) rfl) ?_; refine W_norm rfl ?_)
    refine W_ret ?_
    refine Ends_of (.inr rfl) (ret_okF rfl) (by decide) rfl ?_
    · first
      | (exfalso; omega)
      | (refine retTI ?_; rw [put_same hk0 (by omega) (by assumption)]; done)
      | (have e := put_new hr hk0 hk1 hk2 (fun h => by omega)
         refine retTI ?_
         rw [← put_shape e]
         simp only [take_app, List.take_length, List.nil_append, List.length_nil, Nat.zero_add, List.take_nil]
         done)
  try simp only [HS] at h1
  refine ev ?_
  refine WO_guardY rfl rfl rfl rfl (lt_of rfl) ?_
  refine ev ?_
  refine WO_guardY rfl rfl rfl rfl (lt_of rfl) ?_
  first | refine WO_idxT tys rfl rfl (lt_of rfl) rfl rfl rfl rfl rfl rfl rfl (by omega) _ (getT _ _ (by omega) (by omega)) ?_ | refine WO_idxS tys rfl rfl (lt_of rfl) rfl rfl rfl rfl rfl rfl rfl rfl (by omega) (by omega) ?_
  refine WO_guardY rfl rfl rfl rfl (lt_of rfl) ?_
  first | refine ev ?_ | refine WO_loadL tys rfl rfl (lt_of rfl) rfl rfl rfl rfl (getT _ _ (by omega) (by omega)) rfl ?_ | refine WO_loadL tys rfl rfl (lt_of rfl) rfl rfl rfl rfl (getT0 _ _ (by omega) (by omega)) rfl ?_
  refine WO_keep [0, 1, 5, 7, 8, 9, 10, 11, 12, 13, 14, 15] rfl ?_
  refine WO_guardY rfl rfl rfl rfl (lt_of rfl) ?_
  refine ev ?_
  refine WO_guardY rfl rfl rfl rfl (lt_of rfl) ?_
  refine ev ?_
  refine ev ?_
  refine WO_nil ?_
  refine thenQ_n ?_
  refine W_cond rfl (fun h2 => ?_) (fun h2 => ?_)
  ·
    try simp only [HS] at h2
    refine W_skip ?_
    refine thenQ_n ?_
    refine W_block ?_
    refine W_region ?_
    refine ev ?_
    refine evI ?_
    refine ev ?_
    refine WO_nil ?_
    refine inBlk_n ?_
    refine loopQ_n _ (by (try dsimp only); repeat (first | exact Sub.nil' | refine Sub.cons' rfl ?_ )) (by (try dsimp only); repeat (first | exact SubM.nil' | refine SubM.cons' rfl ?_ )) ?_ ?_
    · try dsimp only
      refine ⟨by omega, by omega, fun i hi h => ?_⟩
      by_cases hq : (i : Int) < k
      · exact hk2 i hi hq
      · obtain rfl : i = k.toNat := by omega
        exact h2
    · (show Int.toNat _ < Int.toNat _); omega
  try simp only [HS] at h2
  refine W_exit ?_
  refine thenQ_e ?_
  refine loopQ_e ?_
  refine inBlk_y ?_
  refine thenQ_n ?_
  iterate 2 (refine W_seq ?_)
  refine W_region ?_
  refine ev ?_
  refine ev ?_
  refine evE ?_
  refine ev ?_
  refine ev ?_
  refine WO_guard rfl rfl rfl rfl (lt_of rfl) (fun h3 => ?_) (fun h3 => ?_)
  rotate_left
  ·
    try simp only [HS] at h3
    refine WO_guardN rfl rfl rfl rfl rfl (lt_of rfl) ?_
    refine WO_keep [0, 1, 5, 25, 26, 27] rfl ?_
    iterate 4 (refine WO_guardN rfl rfl rfl rfl rfl (lt_of rfl) ?_)
    refine ev ?_
    refine WO_nil ?_
    refine thenQ_n ?_
    refine W_condF rfl ?_
    refine W_skip ?_
    refine thenQ_n ?_
    refine W_seq ?_
    refine W_region ?_
    refine WO_buildSlice tys [] rfl rfl (lt_of rfl) rfl rfl rfl rfl rfl (by decide) (by repeat (first | exact PartsOk.nil' | refine PartsOk.cons' rfl (by repeat (first | exact AbsL.nil' | refine AbsL.v' ?_ | refine AbsL.own' ?_ | refine AbsL.none' ?_)) rfl ?_)) (by first | exact List.nodup_nil | exact nodup1 _ | decide | exact nodupB_sound rfl) rfl (by decide) ?_
    refine WO_norm rfl ?_
    refine ev ?_
    refine ev ?_
    first | refine WO_sliceNil tys rfl rfl (lt_of rfl) rfl rfl rfl rfl rfl rfl rfl ?_ | refine WO_sliceT tys rfl rfl (lt_of rfl) rfl rfl rfl rfl rfl rfl rfl rfl (by first | omega | (simp only [List.length_map]; omega)) (by first | omega | (simp only [List.length_map]; omega)) (by first | omega | (simp only [List.length_map]; omega)) ?_ | refine WO_sliceS tys rfl rfl (lt_of rfl) rfl rfl rfl rfl rfl rfl rfl rfl rfl (by omega) (by omega) (by omega) ?_
    refine WO_keep [0, 1, 5, 34, 37] rfl ?_
    first | refine WO_append tys rfl rfl (lt_of rfl) rfl rfl rfl rfl rfl (.own rfl (by first | omega | (simp only [List.length_append]; omega))) rfl (.read (readTD _ _ _)) (by decide) (by simp; omega) (by decide) rfl ?_ | refine WO_append tys rfl rfl (lt_of rfl) rfl rfl rfl rfl rfl .nil rfl (.read (readTD _ _ _)) (by decide) (by simp; omega) (by decide) rfl ?_
    refine WO_norm rfl ?_
    refine ev ?_
    refine WO_nil ?_
    refine thenQ_n ?_
    refine W_seq ?_
    refine W_region ?_
    refine ev ?_
    refine ev ?_
    refine WO_buildSlice tys [T.int n] rfl rfl (lt_of rfl) rfl rfl rfl rfl rfl (lt_of rfl) (by repeat (first | exact PartsOk.nil' | refine PartsOk.cons' rfl (by repeat (first | exact AbsL.nil' | refine AbsL.v' ?_ | refine AbsL.own' ?_ | refine AbsL.none' ?_)) rfl ?_)) (by first | exact List.nodup_nil | exact nodup1 _ | decide | exact nodupB_sound rfl) rfl (by decide) ?_
    refine WO_norm rfl ?_
    first | refine WO_append tys rfl rfl (lt_of rfl) rfl rfl rfl rfl rfl (.own rfl (by first | omega | (simp only [List.length_append]; omega))) rfl (.own rfl (by first | decide | omega)) (by decide) (by simp; omega) (by decide) rfl ?_ | refine WO_append tys rfl rfl (lt_of rfl) rfl rfl rfl rfl rfl .nil rfl (.own rfl (by first | decide | omega)) (by decide) (by simp; omega) (by decide) rfl ?_
    refine WO_norm rfl ?_
    refine ev ?_
    refine WO_nil ?_
    refine thenQ_n ?_
    refine W_seq ?_
    refine W_keep [0, 5, 6] rfl ?_
    refine W_region ?_
    iterate 3 (refine ev ?_)
    first | refine WO_sliceNil tys rfl rfl (lt_of rfl) rfl rfl rfl rfl rfl rfl rfl ?_ | refine WO_sliceT tys rfl rfl (lt_of rfl) rfl rfl rfl rfl rfl rfl rfl rfl (by first | omega | (simp only [List.length_map]; omega)) (by first | omega | (simp only [List.length_map]; omega)) (by first | omega | (simp only [List.length_map]; omega)) ?_ | refine WO_sliceS tys rfl rfl (lt_of rfl) rfl rfl rfl rfl rfl rfl rfl rfl rfl (by omega) (by omega) (by omega) ?_
    first | refine WO_append tys rfl rfl (lt_of rfl) rfl rfl rfl rfl rfl (.own rfl (by first | omega | (simp only [List.length_append]; omega))) rfl (.read (readTD _ _ _)) (by decide) (by simp; omega) (by decide) rfl ?_ | refine WO_append tys rfl rfl (lt_of rfl) rfl rfl rfl rfl rfl .nil rfl (.read (readTD _ _ _)) (by decide) (by simp; omega) (by decide) rfl ?_
    refine WO_norm rfl ?_
    refine ev ?_
    refine WO_nil ?_
    refine thenQ_n ?_
    try (refine W_le (Le.gather (u := 4) (id := 34) rfl rfl (by first | (simp; done) | (simp; omega) | omega)) ?_; refine W_norm rfl ?_; refine W_le (Le.freeze (u := 4) rfl) ?_; refine W_norm rfl ?_)
    refine W_ret ?_
    refine Ends_of (.inr rfl) (ret_okF rfl) (by decide) rfl ?_
    · first
      | (exfalso; omega)
      | (refine retTI ?_; rw [put_same hk0 (by omega) (by assumption)]; done)
      | (have e := put_new hr hk0 hk1 hk2 (fun h => by omega)
         refine retTI ?_
         rw [← put_shape e]
         simp only [take_app, List.take_length, List.nil_append, List.length_nil, Nat.zero_add, List.take_nil]
         done)
  try simp only [HS] at h3
  refine ev ?_
  refine WO_guardY rfl rfl rfl rfl (lt_of rfl) ?_
  refine ev ?_
  refine WO_keep [0, 1, 5, 25, 26, 27] rfl ?_
  refine WO_guardY rfl rfl rfl rfl (lt_of rfl) ?_
  first | refine WO_idxT tys rfl rfl (lt_of rfl) rfl rfl rfl rfl rfl rfl rfl (by omega) _ (getT _ _ (by omega) (by omega)) ?_ | refine WO_idxS tys rfl rfl (lt_of rfl) rfl rfl rfl rfl rfl rfl rfl rfl (by omega) (by omega) ?_
  refine WO_guardY rfl rfl rfl rfl (lt_of rfl) ?_
  first | refine ev ?_ | refine WO_loadL tys rfl rfl (lt_of rfl) rfl rfl rfl rfl (getT _ _ (by omega) (by omega)) rfl ?_ | refine WO_loadL tys rfl rfl (lt_of rfl) rfl rfl rfl rfl (getT0 _ _ (by omega) (by omega)) rfl ?_
  refine WO_guardY rfl rfl rfl rfl (lt_of rfl) ?_
  refine ev ?_
  refine WO_guardY rfl rfl rfl rfl (lt_of rfl) ?_
  refine ev ?_
  refine ev ?_
  refine WO_nil ?_
  refine thenQ_n ?_
  refine W_cond rfl (fun h4 => ?_) (fun h4 => ?_)
  ·
    try simp only [HS] at h4
    refine W_seq ?_
    refine W_region ?_
    refine ev ?_
    refine ev ?_
    refine WO_nil ?_
    refine thenQ_n ?_
    try (refine W_le (Le.gather (u := 4) (id := 34) rfl rfl (by first | (simp; done) | (simp; omega) | omega)) ?_; refine W_norm rfl ?_; refine W_le (Le.freeze (u := 4) rfl) ?_; refine W_norm rfl ?_)
    refine W_ret ?_
    refine thenQ_r ?_
    refine Ends_of (.inr rfl) (ret_okF rfl) (by decide) rfl ?_
    · first
      | (exfalso; omega)
      | (refine retTI ?_; rw [put_same hk0 (by omega) (by assumption)]; done)
      | (have e := put_new hr hk0 hk1 hk2 (fun h => by omega)
         refine retTI ?_
         rw [← put_shape e]
         simp only [take_app, List.take_length, List.nil_append, List.length_nil, Nat.zero_add, List.take_nil]
         done)
  try simp only [HS] at h4
  refine W_skip ?_
  refine thenQ_n ?_
  refine W_seq ?_
  refine W_region ?_
  refine WO_buildSlice tys [] rfl rfl (lt_of rfl) rfl rfl rfl rfl rfl (by decide) (by repeat (first | exact PartsOk.nil' | refine PartsOk.cons' rfl (by repeat (first | exact AbsL.nil' | refine AbsL.v' ?_ | refine AbsL.own' ?_ | refine AbsL.none' ?_)) rfl ?_)) (by first | exact List.nodup_nil | exact nodup1 _ | decide | exact nodupB_sound rfl) rfl (by decide) ?_
  refine WO_norm rfl ?_
  refine ev ?_
  refine ev ?_
  first | refine WO_sliceNil tys rfl rfl (lt_of rfl) rfl rfl rfl rfl rfl rfl rfl ?_ | refine WO_sliceT tys rfl rfl (lt_of rfl) rfl rfl rfl rfl rfl rfl rfl rfl (by first | omega | (simp only [List.length_map]; omega)) (by first | omega | (simp only [List.length_map]; omega)) (by first | omega | (simp only [List.length_map]; omega)) ?_ | refine WO_sliceS tys rfl rfl (lt_of rfl) rfl rfl rfl rfl rfl rfl rfl rfl rfl (by omega) (by omega) (by omega) ?_
  refine WO_keep [0, 1, 5, 34, 37] rfl ?_
  first | refine WO_append tys rfl rfl (lt_of rfl) rfl rfl rfl rfl rfl (.own rfl (by first | omega | (simp only [List.length_append]; omega))) rfl (.read (readTD _ _ _)) (by decide) (by simp; omega) (by decide) rfl ?_ | refine WO_append tys rfl rfl (lt_of rfl) rfl rfl rfl rfl rfl .nil rfl (.read (readTD _ _ _)) (by decide) (by simp; omega) (by decide) rfl ?_
  refine WO_norm rfl ?_
  refine ev ?_
  refine WO_nil ?_
  refine thenQ_n ?_
  refine W_seq ?_
  refine W_region ?_
  refine ev ?_
  refine ev ?_
  refine WO_buildSlice tys [T.int n] rfl rfl (lt_of rfl) rfl rfl rfl rfl rfl (lt_of rfl) (by repeat (first | exact PartsOk.nil' | refine PartsOk.cons' rfl (by repeat (first | exact AbsL.nil' | refine AbsL.v' ?_ | refine AbsL.own' ?_ | refine AbsL.none' ?_)) rfl ?_)) (by first | exact List.nodup_nil | exact nodup1 _ | decide | exact nodupB_sound rfl) rfl (by decide) ?_
  refine WO_norm rfl ?_
  first | refine WO_append tys rfl rfl (lt_of rfl) rfl rfl rfl rfl rfl (.own rfl (by first | omega | (simp only [List.length_append]; omega))) rfl (.own rfl (by first | decide | omega)) (by decide) (by simp; omega) (by decide) rfl ?_ | refine WO_append tys rfl rfl (lt_of rfl) rfl rfl rfl rfl rfl .nil rfl (.own rfl (by first | decide | omega)) (by decide) (by simp; omega) (by decide) rfl ?_
  refine WO_norm rfl ?_
  refine ev ?_
  refine WO_nil ?_
  refine thenQ_n ?_
  refine W_seq ?_
  refine W_keep [0, 5, 6] rfl ?_
  refine W_region ?_
  iterate 3 (refine ev ?_)
  first | refine WO_sliceNil tys rfl rfl (lt_of rfl) rfl rfl rfl rfl rfl rfl rfl ?_ | refine WO_sliceT tys rfl rfl (lt_of rfl) rfl rfl rfl rfl rfl rfl rfl rfl (by first | omega | (simp only [List.length_map]; omega)) (by first | omega | (simp only [List.length_map]; omega)) (by first | omega | (simp only [List.length_map]; omega)) ?_ | refine WO_sliceS tys rfl rfl (lt_of rfl) rfl rfl rfl rfl rfl rfl rfl rfl rfl (by omega) (by omega) (by omega) ?_
  first | refine WO_append tys rfl rfl (lt_of rfl) rfl rfl rfl rfl rfl (.own rfl (by first | omega | (simp only [List.length_append]; omega))) rfl (.read (readTD _ _ _)) (by decide) (by simp; omega) (by decide) rfl ?_ | refine WO_append tys rfl rfl (lt_of rfl) rfl rfl rfl rfl rfl .nil rfl (.read (readTD _ _ _)) (by decide) (by simp; omega) (by decide) rfl ?_
  refine WO_norm rfl ?_
  refine ev ?_
  refine WO_nil ?_
  refine thenQ_n ?_
  try (refine W_le (Le.gather (u := 4) (id := 34) rfl rfl (by first | (simp; done) | (simp; omega) | omega)) ?_; refine W_norm rfl ?_; refine W_le (Le.freeze (u := 4) rfl) ?_; refine W_norm rfl ?_)
  refine W_ret ?_
  refine Ends_of (.inr rfl) (ret_okF rfl) (by decide) rfl ?_
  · first
    | (exfalso; omega)
    | (refine retTI ?_; rw [put_same hk0 (by omega) (by assumption)]; done)
    | (have e := put_new hr hk0 hk1 hk2 (fun h => by omega)
       refine retTI ?_
       rw [← put_shape e]
       simp only [take_app, List.take_length, List.nil_append, List.length_nil, Nat.zero_add, List.take_nil]
       done)

theorem funcAt_mem {p : Prog} (n : Int) : funcAt p n ∈ p.funcs ∨ funcAt p n = ⟨0, 0, [], []⟩ := by
  unfold funcAt
  cases e : p.funcs[n.toNat]? with
  | none => exact .inr rfl
  | some f => exact .inl (List.mem_of_getElem? e)
theorem seqP_ok {p : Prog} (h : goodP p = true) (n : Int) : ∀ x, x ∈ seqP p n → 0 ≤ x ∧ x < p.funcs.length := by
  intro x hx
  unfold seqP at hx
  rcases funcAt_mem (p := p) n with hm | hm
  · obtain ⟨k, hk, he⟩ := List.getElem_of_mem hm
    have := seqL_ok (goodP_fn h hk) x (by rw [he]; exact hx)
    rwa [paramsL_len] at this
  · rw [hm] at hx; cases hx
theorem callsP_in {p : Prog} (h : goodP p = true) : InN p.funcs.length (callsP p) := fun a c hc => seqP_ok h a c (mem_setN.1 hc).2
theorem callsP_len (p : Prog) (n : Int) : (callsP p n).length ≤ 5 := pickN_len ..
theorem setN_rise (N : Nat) (l : List Int) : (setN N l).Pairwise (· < ·) := pickN_lt ..
theorem setN_len (N : Nat) (l : List Int) : (setN N l).length ≤ N := pickN_len ..
theorem retTB {a b : List Int} (h : a = b) : [D.t (.list 1 (a.map T.int)), D.t (T.v (.bool true))] = [D.t (T.ints b), D.t (T.bool true)] := by subst h; rfl

theorem callsOfS_fun (p : Prog) (fn : Int) (hp : p.ok 1048576) (hg : goodP p = true) (hn0 : 0 ≤ fn) (hn1 : fn < p.funcs.length) : Fun Try.prog 81 [.t p.tt, .t (.int fn)] (tupD [.t (T.ints (callsP p fn)), .t (.bool true)]) := by
  have hgl := goodP_len hg
  refine Fun.begin tys Try.func81 rfl rfl (N := 58) [(0, .t p.tt), (1, .t (.int fn))] rfl rfl (fun w0 G F0 => ?_)
  refine W_seq ?_
  refine W_region ?_
  refine WO_box rfl rfl (lt_of rfl) rfl rfl ?_
  refine WO_norm rfl ?_
  refine ev ?_
  refine ev ?_
  refine WO_nil ?_
  refine thenQ_n ?_
  iterate 2 (refine W_seq ?_)
  refine W_region ?_
  first | (refine ev ?_; try refine WO_le (Le.freeze (u := 11) rfl) ?_) | refine WO_loadMove tys rfl rfl (lt_of rfl) rfl rfl rfl rfl rfl rfl ?_
  refine WO_norm rfl ?_
  refine callB ?_
  refine ⟨_, goodProg_fun p hp, rfl, ?_⟩
  refine WO_le (Le.known (t := 12) true rfl (hg)) ?_
  refine ev ?_
  refine ev ?_
  refine WO_guardY rfl rfl rfl rfl (lt_of rfl) ?_
  refine ev ?_
  refine WO_guardY rfl rfl rfl rfl (lt_of rfl) ?_
  refine ev ?_
  refine WO_keep [1, 2, 4, 5, 14, 15, 16] rfl ?_
  refine WO_guardY rfl rfl rfl rfl (lt_of rfl) ?_
  refine ev ?_
  refine WO_guardY rfl rfl rfl rfl (lt_of rfl) ?_
  refine evE ?_
  refine WO_guardY rfl rfl rfl rfl (lt_of rfl) ?_
  refine evI ?_
  refine WO_guardY rfl rfl rfl rfl (lt_of rfl) ?_
  refine callB ?_
  refine ⟨_, l1In_fun _ _ _, rfl, ?_⟩
  refine WO_le (Le.known (t := 20) true rfl (by simp; omega)) ?_
  refine WO_guardY rfl rfl rfl rfl (lt_of rfl) ?_
  refine ev ?_
  refine ev ?_
  refine WO_nil ?_
  refine thenQ_n ?_
  refine W_condF rfl ?_
  refine W_skip ?_
  refine thenQ_n ?_
  refine W_seq ?_
  refine W_region ?_
  refine ev ?_
  refine WO_le (Le.nilT (u := 6) 1 rfl) ?_
  refine WO_norm rfl ?_
  refine WO_nil ?_
  refine thenQ_n ?_
  iterate 2 (refine W_seq ?_)
  refine W_keep [1, 2, 4, 5, 6] rfl ?_
  refine W_region ?_
  iterate 3 (refine ev ?_)
  first | refine WO_idxT tys rfl rfl (lt_of rfl) rfl rfl rfl rfl rfl rfl rfl (by omega) _ (getT _ _ (by omega) (by omega)) ?_ | refine WO_idxS tys rfl rfl (lt_of rfl) rfl rfl rfl rfl rfl rfl rfl rfl (by omega) (by omega) ?_
  have hff := func_ok hp (n := fn.toNat) (by omega)
  have hfs := seqP_ok hg fn
  have hfc : callsP p fn = setN 5 (seqL (p.funcs[fn.toNat]'(by omega)).stmts) := by rw [callsP, seqP, ← funcAt_at (by omega)]
  unfold seqP at hfs
  rw [← funcAt_at (by omega)] at hfs
  revert hff hfs hfc
  generalize p.funcs[fn.toNat]'(by omega) = f
  intro hff hfs hfc
  have hl : f.stmts.length ≤ 1048576 := hff.2.1.1
  refine ev ?_
  first | refine ev ?_ | refine WO_loadL tys rfl rfl (lt_of rfl) rfl rfl rfl rfl (getT _ _ (by omega) (by omega)) rfl ?_ | refine WO_loadL tys rfl rfl (lt_of rfl) rfl rfl rfl rfl (getT0 _ _ (by omega) (by omega)) rfl ?_
  refine evE ?_
  refine ev ?_
  refine WO_nil ?_
  refine thenQ_n ?_
  refine W_block ?_
  refine W_loopK (α := Int × List Int) [28, 29] [] (fun (x : Int × List Int) => [(30, .t (.int (x.1))), (6, .t (T.ints (x.2)))]) (fun (x : Int × List Int) => []) (fun (x : Int × List Int) => 0 ≤ (x.1) ∧ (x.1) ≤ f.stmts.length ∧ (x.2) = setN 5 (seqL (f.stmts.take (x.1).toNat))) (fun (x : Int × List Int) => Int.toNat (f.stmts.length - (x.1))) (0, []) ?_ ?_ ?_ (fun x hx => ?_)
  · repeat (first | exact Sub.nil' | refine Sub.cons' rfl ?_ )
  · repeat (first | exact SubM.nil' | refine SubM.cons' rfl ?_ )
  · exact ⟨by omega, by omega, (setN_nil 5).symm⟩
  obtain ⟨k, out⟩ := x
  obtain ⟨hk0, hk1, hout⟩ := hx
  try dsimp only at hk0 hk1 hout ⊢
  refine W_norm rfl ?_
  refine W_seq ?_
  refine W_region ?_
  refine ev ?_
  refine WO_nil ?_
  refine thenQ_n ?_
  refine W_seq ?_
  refine W_cond rfl (fun h1 => ?_) (fun h1 => ?_)
  ·
    try simp only [HS] at h1
    refine W_skip ?_
    refine thenQ_n ?_
    refine W_seq ?_
    refine W_block ?_
    refine W_seq ?_
    refine W_region ?_
    first | refine WO_idxT tys rfl rfl (lt_of rfl) rfl rfl rfl rfl rfl rfl rfl (by omega) _ (getT _ _ (by omega) (by omega)) ?_ | refine WO_idxS tys rfl rfl (lt_of rfl) rfl rfl rfl rfl rfl rfl rfl rfl (by omega) (by omega) ?_
    first | (refine ev ?_; try refine WO_le (Le.freeze (u := 33) rfl) ?_) | refine WO_loadL tys rfl rfl (lt_of rfl) rfl rfl rfl rfl (getT _ _ (by omega) (by omega)) rfl ?_ | refine WO_loadL tys rfl rfl (lt_of rfl) rfl rfl rfl rfl (getT0 _ _ (by omega) (by omega)) rfl ?_
    refine WO_norm rfl ?_
    refine WO_alloc tys rfl rfl (lt_of rfl) rfl rfl rfl ?_
    refine WO_norm rfl ?_
    refine WO_store tys rfl rfl rfl rfl rfl rfl rfl rfl (lt_of rfl) ?_
    refine WO_norm rfl ?_
    refine WO_nil ?_
    refine thenQ_n ?_
    iterate 2 (refine W_seq ?_)
    refine W_region ?_
    iterate 3 (refine ev ?_)
    refine WO_nil ?_
    refine thenQ_n ?_
    refine W_joinN (α := List Int) [8, 28, 29, 30, 31, 32, 33, 34, 35, 36] [8] (fun (x : List Int) => [(6, .t (T.ints x))]) (fun (x : List Int) => []) (fun (x : List Int) => x = setN 5 (seqL (f.stmts.take k.toNat) ++ d3 (f.stmts[k.toNat]'(by omega)))) ?_ (fun o2 hx => ?_)
    ·
      refine W_cond rfl (fun h2 => ?_) (fun h2 => ?_)
      ·
        try simp only [HS] at h2
        refine W_keep [6, 8, 28, 29, 30, 31, 32, 33, 34, 35, 36] rfl ?_
        refine W_region ?_
        have hn := seq_def hfs (n := k.toNat) (by omega) h2
        iterate 3 (refine ev ?_)
        refine WO_callF rfl rfl (lt_of rfl) rfl rfl rfl rfl rfl (l1Put_fun _ _ (by rw [hout]; exact Nat.le_trans (setN_len _ _) (by decide)) (by rw [hout]; exact setN_rise _ _)) rfl ?_
        refine ev ?_
        refine WO_nil ?_
        refine joinQ_n _ (by (try dsimp only); repeat (first | exact Sub.nil' | refine Sub.cons' rfl ?_)) (by (try dsimp only); repeat (first | exact SubM.nil' | refine SubM.cons' rfl ?_)) ?_
        try dsimp only
        first
        | (rw [hout, setN_put hn.1 (by omega), d3, if_pos h2]; done)
        | (rw [hout, d3, if_neg h2, List.append_nil]; done)
      try simp only [HS] at h2
      refine W_skip ?_
      refine joinQ_n _ (by (try dsimp only); repeat (first | exact Sub.nil' | refine Sub.cons' rfl ?_)) (by (try dsimp only); repeat (first | exact SubM.nil' | refine SubM.cons' rfl ?_)) ?_
      try dsimp only
      first
      | (rw [hout, setN_put hn.1 (by omega), d3, if_pos h2]; done)
      | (rw [hout, d3, if_neg h2, List.append_nil]; done)
    have ho2 := hx
    refine thenQ_n ?_
    refine W_seq ?_
    refine W_keep [6, 8, 28, 29, 30, 31, 32, 33, 34, 35, 36] rfl ?_
    refine W_region ?_
    have hel := (stmt_ok hff (n := k.toNat) (by omega)).2.2
    refine ev ?_
    refine ev ?_
    refine evE ?_
    refine ev ?_
    refine WO_nil ?_
    refine thenQ_n ?_
    refine W_block ?_
    refine W_loopK (α := Int × List Int) [28, 29, 30, 42, 43] [] (fun (x : Int × List Int) => [(44, .t (.int (x.1))), (6, .t (T.ints (x.2)))]) (fun (x : Int × List Int) => []) (fun (x : Int × List Int) => 0 ≤ (x.1) ∧ (x.1) ≤ (f.stmts[k.toNat]'(by omega)).ex.length ∧ (x.2) = setN 5 (seqL (f.stmts.take k.toNat) ++ d3 (f.stmts[k.toNat]'(by omega)) ++ tokS ((f.stmts[k.toNat]'(by omega)).ex.take (x.1).toNat))) (fun (x : Int × List Int) => Int.toNat ((f.stmts[k.toNat]'(by omega)).ex.length - (x.1))) (0, o2) ?_ ?_ ?_ (fun x hx => ?_)
    · repeat (first | exact Sub.nil' | refine Sub.cons' rfl ?_ )
    · repeat (first | exact SubM.nil' | refine SubM.cons' rfl ?_ )
    · exact ⟨by omega, by omega, by rw [ho2]; simp [tokS]⟩
    obtain ⟨j, o3⟩ := x
    obtain ⟨hj0, hj1, ho3⟩ := hx
    try dsimp only at hj0 hj1 ho3 ⊢
    refine W_norm rfl ?_
    refine W_seq ?_
    refine W_region ?_
    refine ev ?_
    refine WO_nil ?_
    refine thenQ_n ?_
    refine W_seq ?_
    refine W_cond rfl (fun h2 => ?_) (fun h2 => ?_)
    ·
      try simp only [HS] at h2
      refine W_skip ?_
      refine thenQ_n ?_
      refine W_seq ?_
      refine W_block ?_
      refine W_seq ?_
      refine W_region ?_
      first | refine WO_idxT tys rfl rfl (lt_of rfl) rfl rfl rfl rfl rfl rfl rfl (by omega) _ (getT _ _ (by omega) (by omega)) ?_ | refine WO_idxS tys rfl rfl (lt_of rfl) rfl rfl rfl rfl rfl rfl rfl rfl (by omega) (by omega) ?_
      first | (refine ev ?_; try refine WO_le (Le.freeze (u := 47) rfl) ?_) | refine WO_loadL tys rfl rfl (lt_of rfl) rfl rfl rfl rfl (getT _ _ (by omega) (by omega)) rfl ?_ | refine WO_loadL tys rfl rfl (lt_of rfl) rfl rfl rfl rfl (getT0 _ _ (by omega) (by omega)) rfl ?_
      refine WO_norm rfl ?_
      refine WO_alloc tys rfl rfl (lt_of rfl) rfl rfl rfl ?_
      refine WO_norm rfl ?_
      refine WO_store tys rfl rfl rfl rfl rfl rfl rfl rfl (lt_of rfl) ?_
      refine WO_norm rfl ?_
      refine WO_nil ?_
      refine thenQ_n ?_
      refine W_seq ?_
      refine W_region ?_
      iterate 3 (refine ev ?_)
      refine WO_nil ?_
      refine thenQ_n ?_
      refine W_cond rfl (fun h3 => ?_) (fun h3 => ?_)
      ·
        try simp only [HS] at h3
        refine W_keep [6, 10, 28, 29, 30, 42, 43, 44, 45, 46, 47, 48, 49, 50] rfl ?_
        refine W_region ?_
        have hn := seq_tok hfs (n := k.toNat) (by omega) (j := j.toNat) (by omega) h3
        iterate 3 (refine ev ?_)
        refine WO_callF rfl rfl (lt_of rfl) rfl rfl rfl rfl rfl (l1Put_fun _ _ (by rw [ho3]; exact Nat.le_trans (setN_len _ _) (by decide)) (by rw [ho3]; exact setN_rise _ _)) rfl ?_
        refine ev ?_
        refine WO_nil ?_
        refine inBlk_n ?_
        refine thenQ_n ?_
        refine W_region ?_
        refine evI ?_
        refine ev ?_
        refine WO_nil ?_
        refine loopQ_n (_, _) (by (try dsimp only); repeat (first | exact Sub.nil' | refine Sub.cons' rfl ?_ )) (by (try dsimp only); repeat (first | exact SubM.nil' | refine SubM.cons' rfl ?_ )) ?_ ?_
        · try dsimp only
          first
          | (refine ⟨by omega, by omega, ?_⟩; rw [ho3, setN_put hn.1 (by omega), tokS_at hj0 (by omega), if_pos h3, List.append_assoc]; done)
          | (refine ⟨by omega, by omega, ?_⟩; rw [ho3, tokS_at hj0 (by omega), if_neg h3, List.append_nil]; done)
        · (show Int.toNat _ < Int.toNat _); omega
      try simp only [HS] at h3
      refine W_skip ?_
      refine inBlk_n ?_
      refine thenQ_n ?_
      refine W_keep [6, 10, 28, 29, 30, 42, 43, 44, 45, 46, 47, 48, 49, 50] rfl ?_
      refine W_region ?_
      refine evI ?_
      refine ev ?_
      refine WO_nil ?_
      refine loopQ_n (_, _) (by (try dsimp only); repeat (first | exact Sub.nil' | refine Sub.cons' rfl ?_ )) (by (try dsimp only); repeat (first | exact SubM.nil' | refine SubM.cons' rfl ?_ )) ?_ ?_
      · try dsimp only
        first
        | (refine ⟨by omega, by omega, ?_⟩; rw [ho3, setN_put hn.1 (by omega), tokS_at hj0 (by omega), if_pos h3, List.append_assoc]; done)
        | (refine ⟨by omega, by omega, ?_⟩; rw [ho3, tokS_at hj0 (by omega), if_neg h3, List.append_nil]; done)
      · (show Int.toNat _ < Int.toNat _); omega
    try simp only [HS] at h2
    refine W_exit ?_
    refine thenQ_e ?_
    refine loopQ_e ?_
    refine inBlk_y ?_
    refine inBlk_n ?_
    refine thenQ_n ?_
    refine W_region ?_
    refine evI ?_
    refine ev ?_
    refine WO_nil ?_
    refine loopQ_n (_, _) (by (try dsimp only); repeat (first | exact Sub.nil' | refine Sub.cons' rfl ?_ )) (by (try dsimp only); repeat (first | exact SubM.nil' | refine SubM.cons' rfl ?_ )) ?_ ?_
    · try dsimp only
      exact ⟨by omega, by omega, by rw [ho3, seqL_at hk0 (by omega), take_end (l := (f.stmts[k.toNat]'(by omega)).ex) (k := j) (by omega), List.append_assoc]⟩
    · (show Int.toNat _ < Int.toNat _); omega
  try simp only [HS] at h1
  refine W_exit ?_
  refine thenQ_e ?_
  refine loopQ_e ?_
  refine inBlk_y ?_
  refine thenQ_n ?_
  refine W_seq ?_
  refine W_region ?_
  iterate 3 (refine ev ?_)
  refine WO_nil ?_
  refine thenQ_n ?_
  refine W_ret ?_
  refine Ends_of (.inr rfl) (ret_okF rfl) (by decide) rfl ?_
  · exact retTB (by rw [hout, hfc, take_end (by omega)])

theorem l17Calls_fun (p : Prog) (fn : Int) (hp : p.ok 1048576) (hg : goodP p = true) (hn0 : 0 ≤ fn) (hn1 : fn < p.funcs.length) : Fun Try.prog 46 [.t p.tt, .t (.int fn)] (tupD [.t (T.ints (callsP p fn))]) := by
  refine Fun.begin tys Try.func46 rfl rfl (N := 14) [(0, .t p.tt), (1, .t (.int fn))] rfl rfl (fun w0 G F0 => ?_)
  refine W_seq ?_
  refine W_region ?_
  refine WO_box rfl rfl (lt_of rfl) rfl rfl ?_
  refine WO_norm rfl ?_
  refine ev ?_
  refine WO_nil ?_
  refine thenQ_n ?_
  refine W_seq ?_
  refine W_region ?_
  first | (refine ev ?_; try refine WO_le (Le.freeze (u := 8) rfl) ?_) | refine WO_loadMove tys rfl rfl (lt_of rfl) rfl rfl rfl rfl rfl rfl ?_
  refine WO_norm rfl ?_
  refine ev ?_
  refine WO_callF rfl rfl (lt_of rfl) rfl rfl rfl rfl rfl (callsOfS_fun p fn hp hg hn0 hn1) rfl ?_
  refine ev ?_
  first | refine WO_evF tys rfl rfl (lt_of rfl) (d := .t _) rfl ?_ | (refine WO_extract rfl rfl (lt_of rfl) rfl rfl rfl rfl ?_; first | refine WO_le (Le.adoptE (u := 11) 11 rfl (by first | exact lenN | exact rfl)) ?_ | skip)
  refine WO_norm rfl ?_
  first | refine WO_evF tys rfl rfl (lt_of rfl) (d := .t _) rfl ?_ | (refine WO_extract rfl rfl (lt_of rfl) rfl rfl rfl rfl ?_; first | refine WO_le (Le.adoptE (u := 12) 12 rfl (by first | exact lenN | exact rfl)) ?_ | skip)
  refine WO_norm rfl ?_
  refine ev ?_
  refine WO_keep [4, 5, 12] rfl ?_
  refine ev ?_
  refine WO_nil ?_
  refine thenQ_n ?_
  refine W_seq ?_
  refine W_region ?_
  refine ev ?_
  refine ev ?_
  refine WO_nil ?_
  refine thenQ_n ?_
  refine W_ret ?_
  refine Ends_of (.inr rfl) (ret_okF rfl) (by decide) rfl ?_
  · rfl

end Go.Proofs.Ytiigmjlmhmgebaa
