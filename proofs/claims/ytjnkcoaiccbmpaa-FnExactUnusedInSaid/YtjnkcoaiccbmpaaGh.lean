/- Walks of what is told of calls: rounds, statements that are met, how deep, how much fuel. -/
import Derived.Test.YtjnkcoaiccbmpaaGf
set_option linter.unusedVariables false
set_option linter.unusedSimpArgs false
set_option maxRecDepth 10000
set_option maxHeartbeats 1000000
namespace Go.Proofs.Ytjnkcoaiccbmpaa
open Go.Eng

theorem any_no {α : Type} {p : α → Bool} {l : List α} {k : Int} (h0 : 0 ≤ k) (h1 : k < l.length) (h : (l.take k.toNat).any p = false) (h2 : p (l[k.toNat]'(by omega)) = false) : (l.take (k + 1).toNat).any p = false := by
  rw [take_at h0 h1, List.any_append, h]; simpa using h2
theorem any_yes {α : Type} {p : α → Bool} {l : List α} {k : Int} (h0 : 0 ≤ k) (h1 : k < l.length) (h : p (l[k.toNat]'(by omega)) = true) : l.any p = true :=
  List.any_eq_true.2 ⟨_, List.getElem_mem _, h⟩
theorem any_end {α : Type} {p : α → Bool} {l : List α} {k : Int} (h1 : (l.length : Int) ≤ k) (h : (l.take k.toNat).any p = false) : l.any p = false := by rwa [take_end h1] at h
def roundP (p : Prog) : Bool := roundB p.funcs.length (callsP p)
def callR (p : Prog) (f : Int) (n : Int) : Bool := decide (f ∈ reachP p n)
def roundR (p : Prog) (f : Int) : Bool := (callsP p f).any (callR p f)
theorem roundP_eq (p : Prog) : roundP p = (reachP p 0).any (roundR p) := rfl
theorem reachP_len {p : Prog} (hg : goodP p = true) (n : Int) : (reachP p n).length ≤ 5 := by
  have := reachL_len (N := p.funcs.length) (calls := callsP p) (a := n)
  have := goodP_len hg
  unfold reachP; omega
theorem reachP_in {p : Prog} {n x : Int} (h : x ∈ reachP p n) : 0 ≤ x ∧ x < p.funcs.length := (mem_pickN.1 h).1

theorem l17Round_fun (p : Prog) (hp : p.ok 1048576) (hg : goodP p = true) : Fun Try.prog 59 [.t p.tt] (tupD [.t (.bool (roundP p))]) := by
  have hgl := goodP_len hg
  have hin := callsP_in hg
  have hrl := reachP_len hg 0
  refine Fun.begin tys Try.func59 rfl rfl (N := 29) [(0, .t p.tt)] rfl rfl (fun w0 G F0 => ?_)
  refine W_seq ?_
  refine W_region ?_
  refine WO_box rfl rfl (lt_of rfl) rfl rfl ?_
  refine WO_norm rfl ?_
  refine ev ?_
  refine WO_nil ?_
  refine thenQ_n ?_
  refine W_seq ?_
  refine W_seq ?_
  refine W_region ?_
  first | (refine ev ?_; try refine WO_le (Le.freeze (u := 7) rfl) ?_) | refine WO_loadMove tys rfl rfl (lt_of rfl) rfl rfl rfl rfl rfl rfl ?_
  refine WO_norm rfl ?_
  refine WO_callF rfl rfl (lt_of rfl) rfl rfl rfl rfl rfl (l17Reach_fun p 0 hp hg (by omega) (by omega)) rfl ?_
  refine evE ?_
  refine ev ?_
  refine WO_nil ?_
  refine thenQ_n ?_
  refine W_block ?_
  refine W_loopK (α := Int) [1, 8, 9] [1] (fun (x : Int) => [(10, .t (.int x))]) (fun (x : Int) => []) (fun (x : Int) => 0 ≤ x ∧ x ≤ (reachP p 0).length ∧ ((reachP p 0).take x.toNat).any (roundR p) = false) (fun (x : Int) => Int.toNat ((reachP p 0).length - x)) 0 ?_ ?_ ?_ (fun k hx => ?_)
  · repeat (first | exact Sub.nil' | refine Sub.cons' rfl ?_ )
  · repeat (first | exact SubM.nil' | refine SubM.cons' rfl ?_ )
  · exact ⟨by omega, by omega, by simp⟩
  obtain ⟨hk0, hk1, hk2⟩ := hx
  refine W_norm rfl ?_
  refine W_seq ?_
  refine W_region ?_
  refine ev ?_
  refine WO_nil ?_
  refine thenQ_n ?_
  refine W_seq ?_
  refine W_cond rfl (fun h1 => ?_) (fun h1 => ?_)
  ·
    try simp only [HS] at h1
    refine W_skip ?_
    refine thenQ_n ?_
    refine W_seq ?_
    refine W_block ?_
    refine W_seq ?_
    refine W_region ?_
    first | refine WO_idxT tys rfl rfl (lt_of rfl) rfl rfl rfl rfl rfl rfl rfl (by omega) _ (getT _ _ (by omega) (by omega)) ?_ | refine WO_idxS tys rfl rfl (lt_of rfl) rfl rfl rfl rfl rfl rfl rfl rfl (by omega) (by omega) ?_
    first | refine ev ?_ | refine WO_loadL tys rfl rfl (lt_of rfl) rfl rfl rfl rfl (getT _ _ (by omega) (by omega)) rfl ?_ | refine WO_loadL tys rfl rfl (lt_of rfl) rfl rfl rfl rfl (getT0 _ _ (by omega) (by omega)) rfl ?_
    refine ev ?_
    refine WO_nil ?_
    refine thenQ_n ?_
    refine W_seq ?_
    refine W_region ?_
    have hx := reachP_in (List.getElem_mem (l := reachP p 0) (n := k.toNat) (by omega))
    have hcl := callsP_len p ((reachP p 0)[k.toNat]'(by omega))
    first | (refine ev ?_; try refine WO_le (Le.freeze (u := 14) rfl) ?_) | refine WO_loadMove tys rfl rfl (lt_of rfl) rfl rfl rfl rfl rfl rfl ?_
    refine WO_norm rfl ?_
    refine ev ?_
    refine WO_callF rfl rfl (lt_of rfl) rfl rfl rfl rfl rfl (l17Calls_fun p _ hp hg hx.1 hx.2) rfl ?_
    refine evE ?_
    refine ev ?_
    refine WO_keep [1, 4, 8, 9, 10, 11, 12, 13, 14, 15, 16, 17, 18] rfl ?_
    refine WO_nil ?_
    refine thenQ_n ?_
    refine W_block ?_
    refine W_loopK (α := Int) [1, 4, 8, 9, 10, 16, 17] [1] (fun (x : Int) => [(18, .t (.int x))]) (fun (x : Int) => []) (fun (x : Int) => 0 ≤ x ∧ x ≤ (callsP p ((reachP p 0)[k.toNat]'(by omega))).length ∧ ((callsP p ((reachP p 0)[k.toNat]'(by omega))).take x.toNat).any (callR p ((reachP p 0)[k.toNat]'(by omega))) = false) (fun (x : Int) => Int.toNat ((callsP p ((reachP p 0)[k.toNat]'(by omega))).length - x)) 0 ?_ ?_ ?_ (fun j hx => ?_)
    · repeat (first | exact Sub.nil' | refine Sub.cons' rfl ?_ )
    · repeat (first | exact SubM.nil' | refine SubM.cons' rfl ?_ )
    · exact ⟨by omega, by omega, by simp⟩
    obtain ⟨hj0, hj1, hj2⟩ := hx
    refine W_norm rfl ?_
    refine W_seq ?_
    refine W_region ?_
    refine ev ?_
    refine WO_nil ?_
    refine thenQ_n ?_
    refine W_seq ?_
    refine W_cond rfl (fun h2 => ?_) (fun h2 => ?_)
    ·
      try simp only [HS] at h2
      refine W_skip ?_
      refine thenQ_n ?_
      refine W_seq ?_
      refine W_block ?_
      refine W_seq ?_
      refine W_region ?_
      first | refine WO_idxT tys rfl rfl (lt_of rfl) rfl rfl rfl rfl rfl rfl rfl (by omega) _ (getT _ _ (by omega) (by omega)) ?_ | refine WO_idxS tys rfl rfl (lt_of rfl) rfl rfl rfl rfl rfl rfl rfl rfl (by omega) (by omega) ?_
      first | refine ev ?_ | refine WO_loadL tys rfl rfl (lt_of rfl) rfl rfl rfl rfl (getT _ _ (by omega) (by omega)) rfl ?_ | refine WO_loadL tys rfl rfl (lt_of rfl) rfl rfl rfl rfl (getT0 _ _ (by omega) (by omega)) rfl ?_
      refine ev ?_
      refine WO_nil ?_
      refine thenQ_n ?_
      refine W_seq ?_
      refine W_region ?_
      have hy := hin _ _ (List.getElem_mem (l := callsP p ((reachP p 0)[k.toNat]'(by omega))) (n := j.toNat) (by omega))
      first | (refine ev ?_; try refine WO_le (Le.freeze (u := 22) rfl) ?_) | refine WO_loadMove tys rfl rfl (lt_of rfl) rfl rfl rfl rfl rfl rfl ?_
      refine WO_norm rfl ?_
      refine ev ?_
      refine WO_callF rfl rfl (lt_of rfl) rfl rfl rfl rfl rfl (l17Reach_fun p _ hp hg hy.1 hy.2) rfl ?_
      refine ev ?_
      refine callB ?_
      refine ⟨_, l1Has_fun _ _ (by have := reachP_len hg ((callsP p ((reachP p 0)[k.toNat]'(by omega)))[j.toNat]'(by omega)); omega), rfl, ?_⟩
      refine WO_keep [1, 4, 6, 8, 9, 10, 16, 17, 18, 19, 20, 21, 22, 23, 24, 25, 26] rfl ?_
      refine WO_nil ?_
      refine thenQ_n ?_
      refine W_cond rfl (fun h3 => ?_) (fun h3 => ?_)
      ·
        try simp only [HS] at h3
        refine W_seq ?_
        refine W_region ?_
        refine ev ?_
        refine WO_nil ?_
        refine thenQ_n ?_
        refine W_ret ?_
        refine inBlk_r ?_
        refine thenQ_r ?_
        refine loopQ_r ?_
        refine inBlk_r ?_
        refine inBlk_r ?_
        refine thenQ_r ?_
        refine loopQ_r ?_
        refine inBlk_r ?_
        refine thenQ_r ?_
        refine Ends_of (.inr rfl) (ret_okF rfl) (by decide) rfl ?_
        · first
          | (have e : roundR p ((reachP p 0)[k.toNat]'(by omega)) = true := any_yes (l := callsP p ((reachP p 0)[k.toNat]'(by omega))) hj0 (by omega) (decide_eq_true (by assumption))
             refine retB ?_; rw [roundP_eq, any_yes (l := reachP p 0) hk0 (by omega) e]; done)
          | (refine retB ?_; rw [roundP_eq, any_end (by omega) hk2]; done)
      try simp only [HS] at h3
      refine W_skip ?_
      refine inBlk_n ?_
      refine thenQ_n ?_
      refine W_region ?_
      refine evI ?_
      refine ev ?_
      refine WO_nil ?_
      refine loopQ_n _ (by (try dsimp only); repeat (first | exact Sub.nil' | refine Sub.cons' rfl ?_ )) (by (try dsimp only); repeat (first | exact SubM.nil' | refine SubM.cons' rfl ?_ )) ?_ ?_
      · try dsimp only
        exact ⟨by omega, by omega, any_no hj0 (by omega) hj2 (decide_eq_false (by assumption))⟩
      · (show Int.toNat _ < Int.toNat _); omega
    try simp only [HS] at h2
    refine W_exit ?_
    refine thenQ_e ?_
    refine loopQ_e ?_
    refine inBlk_y ?_
    refine inBlk_n ?_
    refine thenQ_n ?_
    refine W_region ?_
    refine evI ?_
    refine ev ?_
    refine WO_nil ?_
    refine loopQ_n _ (by (try dsimp only); repeat (first | exact Sub.nil' | refine Sub.cons' rfl ?_ )) (by (try dsimp only); repeat (first | exact SubM.nil' | refine SubM.cons' rfl ?_ )) ?_ ?_
    · try dsimp only
      exact ⟨by omega, by omega, any_no hk0 (by omega) hk2 (any_end (by omega) hj2)⟩
    · (show Int.toNat _ < Int.toNat _); omega
  try simp only [HS] at h1
  refine W_exit ?_
  refine thenQ_e ?_
  refine loopQ_e ?_
  refine inBlk_y ?_
  refine thenQ_n ?_
  refine W_seq ?_
  refine W_region ?_
  refine ev ?_
  refine WO_nil ?_
  refine thenQ_n ?_
  refine W_ret ?_
  refine Ends_of (.inr rfl) (ret_okF rfl) (by decide) rfl ?_
  · first
    | (have e : roundR p ((reachP p 0)[k.toNat]'(by omega)) = true := any_yes (l := callsP p ((reachP p 0)[k.toNat]'(by omega))) hj0 (by omega) (decide_eq_true (by assumption))
       refine retB ?_; rw [roundP_eq, any_yes (l := reachP p 0) hk0 (by omega) e]; done)
    | (refine retB ?_; rw [roundP_eq, any_end (by omega) hk2]; done)

theorem indexI_fun (l : List Int) (n : Int) (hl : l.length ≤ 1073741824) : Fun Try.prog 107 [.t (T.ints l), .t (.int n)] (tupD [.t (.int (idxGo (fun x => decide (n = x)) l 0))]) := by
  refine Fun.begin tys Try.func107 rfl rfl (N := 19) [(0, .t (T.ints l)), (1, .t (.int n))] rfl rfl (fun w0 G F0 => ?_)
  refine W_seq ?_
  refine W_region ?_
  refine ev ?_
  refine WO_nil ?_
  refine thenQ_n ?_
  refine W_seq ?_
  refine W_seq ?_
  refine W_region ?_
  refine ev ?_
  refine evE ?_
  refine ev ?_
  refine WO_nil ?_
  refine thenQ_n ?_
  refine W_block ?_
  refine W_loopK (α := Int) [0, 1, 6, 7] [] (fun (x : Int) => [(8, .t (.int x))]) (fun (x : Int) => []) (fun (x : Int) => 0 ≤ x ∧ x ≤ l.length ∧ idxGo (fun x => decide (n = x)) l 0 = idxGo (fun x => decide (n = x)) (l.drop x.toNat) x) (fun (x : Int) => Int.toNat (l.length - x)) 0 ?_ ?_ ?_ (fun k hx => ?_)
  · repeat (first | exact Sub.nil' | refine Sub.cons' rfl ?_ )
  · repeat (first | exact SubM.nil' | refine SubM.cons' rfl ?_ )
  · exact ⟨by omega, by omega, rfl⟩
  obtain ⟨hk0, hk1, hk2⟩ := hx
  refine W_norm rfl ?_
  refine W_seq ?_
  refine W_region ?_
  refine ev ?_
  refine WO_nil ?_
  refine thenQ_n ?_
  refine W_seq ?_
  refine W_cond rfl (fun h1 => ?_) (fun h1 => ?_)
  ·
    try simp only [HS] at h1
    refine W_skip ?_
    refine thenQ_n ?_
    refine W_seq ?_
    refine W_block ?_
    refine W_seq ?_
    refine W_region ?_
    refine ev ?_
    refine ev ?_
    refine WO_nil ?_
    refine thenQ_n ?_
    refine W_seq ?_
    refine W_region ?_
    refine ev ?_
    refine ev ?_
    refine ev ?_
    first | refine WO_idxT tys rfl rfl (lt_of rfl) rfl rfl rfl rfl rfl rfl rfl (by omega) _ (getT _ _ (by omega) (by omega)) ?_ | refine WO_idxS tys rfl rfl (lt_of rfl) rfl rfl rfl rfl rfl rfl rfl rfl (by omega) (by omega) ?_
    first | refine ev ?_ | refine WO_loadL tys rfl rfl (lt_of rfl) rfl rfl rfl rfl (getT _ _ (by omega) (by omega)) rfl ?_ | refine WO_loadL tys rfl rfl (lt_of rfl) rfl rfl rfl rfl (getT0 _ _ (by omega) (by omega)) rfl ?_
    refine ev ?_
    refine WO_keep [0, 1, 5, 6, 7, 8, 9, 10, 11, 12, 13, 14, 15, 16] rfl ?_
    refine WO_nil ?_
    refine thenQ_n ?_
    refine W_cond rfl (fun h2 => ?_) (fun h2 => ?_)
    ·
      try simp only [HS] at h2
      refine W_seq ?_
      refine W_region ?_
      refine ev ?_
      refine ev ?_
      refine WO_nil ?_
      refine thenQ_n ?_
      refine W_ret ?_
      refine inBlk_r ?_
      refine thenQ_r ?_
      refine loopQ_r ?_
      refine inBlk_r ?_
      refine thenQ_r ?_
      refine Ends_of (.inr rfl) (ret_okF rfl) (by decide) rfl ?_
      · first | (refine retI ?_; rw [hk2, idx_at hk0 h1]; simp [h2]; done) | (refine retI ?_; rw [hk2, drop_end h1]; rfl)
    try simp only [HS] at h2
    refine W_skip ?_
    refine inBlk_n ?_
    refine thenQ_n ?_
    refine W_region ?_
    refine evI ?_
    refine ev ?_
    refine WO_nil ?_
    refine loopQ_n _ (by (try dsimp only); repeat (first | exact Sub.nil' | refine Sub.cons' rfl ?_ )) (by (try dsimp only); repeat (first | exact SubM.nil' | refine SubM.cons' rfl ?_ )) ?_ ?_
    · try dsimp only
      refine ⟨by omega, by omega, ?_⟩; rw [hk2, idx_at hk0 h1]; simp [h2]
    · (show Int.toNat _ < Int.toNat _); omega
  try simp only [HS] at h1
  refine W_exit ?_
  refine thenQ_e ?_
  refine loopQ_e ?_
  refine inBlk_y ?_
  refine thenQ_n ?_
  refine W_seq ?_
  refine W_region ?_
  refine ev ?_
  refine WO_nil ?_
  refine thenQ_n ?_
  refine W_ret ?_
  refine Ends_of (.inr rfl) (ret_okF rfl) (by decide) rfl ?_
  · first | (refine retI ?_; rw [hk2, idx_at hk0 h1]; simp [h2]; done) | (refine retI ?_; rw [hk2, drop_end h1]; rfl)

theorem any_eq_mem {l : List Int} {n : Int} : (l.any fun x => decide (n = x)) = decide (n ∈ l) := by
  rw [Bool.eq_iff_iff, List.any_eq_true, decide_eq_true_eq]
  constructor
  · rintro ⟨x, hx, he⟩
    have : n = x := of_decide_eq_true he
    subst this; exact hx
  · exact fun h => ⟨n, h, decide_eq_true rfl⟩

theorem containsI_fun (l : List Int) (n : Int) (hl : l.length ≤ 1073741824) : Fun Try.prog 76 [.t (T.ints l), .t (.int n)] (tupD [.t (.bool (decide (n ∈ l)))]) := by
  refine Fun.begin tys Try.func76 rfl rfl (N := 9) [(0, .t (T.ints l)), (1, .t (.int n))] rfl rfl (fun w0 G F0 => ?_)
  refine W_seq ?_
  refine W_region ?_
  refine ev ?_
  refine WO_nil ?_
  refine thenQ_n ?_
  refine W_seq ?_
  refine W_region ?_
  refine ev ?_
  refine ev ?_
  refine callB ?_
  refine ⟨_, indexI_fun l n hl, rfl, ?_⟩
  refine ev ?_
  refine ev ?_
  refine WO_nil ?_
  refine thenQ_n ?_
  refine W_ret ?_
  refine Ends_of (.inr rfl) (ret_okF rfl) (by decide) rfl ?_
  · refine retB ?_
    rw [← any_eq_mem, ← idxGo_any (Int.le_refl 0)]

theorem hasRound11_fun (n : Int) (p : Prog) (f : Int) (hp : p.ok 1048576) (hg : goodP p = true) (hn0 : 0 ≤ n) (hn1 : n < p.funcs.length) : Fun Try.prog 100 [.t (.int n), .rp p.tt 0, .rp (.agg [T.int f]) 0] (tupD [.t (.bool (callR p f n))]) := by
  refine Fun.begin tys Try.func100 rfl rfl (N := 10) [(0, .t (.int n)), (1, .rp p.tt 0), (2, .rp (.agg [T.int f]) 0)] rfl rfl (fun w0 G F0 => ?_)
  refine W_seq ?_
  refine W_region ?_
  refine ev ?_
  refine WO_nil ?_
  refine thenQ_n ?_
  refine W_seq ?_
  refine W_regionD mixed (by kernel_rfl) ?_
  first | refine QL_evZ tys rfl rfl (lt_of rfl) rfl rfl ?_ | refine evQ ?_ | refine QL_loadL tys rfl rfl (lt_of rfl) rfl rfl rfl rfl (getT _ _ (by omega) (by omega)) rfl ?_ | refine QL_loadL tys rfl rfl (lt_of rfl) rfl rfl rfl rfl (getT0 _ _ (by omega) (by omega)) rfl ?_ | refine WO_loadMove tys rfl rfl (lt_of rfl) rfl rfl rfl rfl rfl rfl ?_
  refine evQ ?_
  refine callBQ ?_
  refine ⟨_, reachFrom_fun p n hp hg hn0 hn1, rfl, ?_⟩
  first | refine evQ ?_ | refine QL_loadL tys rfl rfl (lt_of rfl) rfl rfl rfl rfl (getT _ _ (by omega) (by omega)) rfl ?_ | refine QL_loadL tys rfl rfl (lt_of rfl) rfl rfl rfl rfl (getT0 _ _ (by omega) (by omega)) rfl ?_
  refine callBQ ?_
  refine ⟨_, containsI_fun _ _ (by have := reachP_len hg n; omega), rfl, ?_⟩
  refine QL_norm rfl ?_
  refine evQ ?_
  refine QL_nil ?_
  refine thenQ_n ?_
  refine W_ret ?_
  refine Ends_of (.inr rfl) (ret_okF rfl) (by decide) rfl ?_
  · rfl

theorem callsOf_at (p : Prog) (f : Int) (hp : p.ok 1048576) (hg : goodP p = true) (h1 : f.toNat < p.funcs.length) : Fun Try.prog 99 [.t (p.funcs[f.toNat]).tt] (tupD [.own (T.ints (callsP p f))]) := by
  have hgl := goodP_len hg
  have hfs : setN 5 (seqL (p.funcs[f.toNat]).stmts) = callsP p f := by rw [callsP, seqP, ← funcAt_at h1]
  rw [← hfs]
  refine callsOf_fun _ (func_ok hp h1) ?_
  have := seqP_ok hg f
  unfold seqP at this
  rw [← funcAt_at h1] at this
  intro x hx
  have := this x hx
  omega

theorem hasRound1_fun (f : Int) (p : Prog) (hp : p.ok 1048576) (hg : goodP p = true) (hn0 : 0 ≤ f) (hn1 : f < p.funcs.length) : Fun Try.prog 98 [.t (.int f), .rp p.tt 0] (tupD [.t (.bool (roundR p f))]) := by
  have hgl := goodP_len hg
  have hin := callsP_in hg
  have hcl := callsP_len p f
  refine Fun.begin tys Try.func98 rfl rfl (N := 12) [(0, .t (.int f)), (1, .rp p.tt 0)] rfl rfl (fun w0 G F0 => ?_)
  refine W_seq ?_
  refine W_region ?_
  refine WO_box rfl rfl (lt_of rfl) rfl rfl ?_
  refine WO_norm rfl ?_
  refine ev ?_
  refine WO_nil ?_
  refine thenQ_n ?_
  refine W_seq ?_
  refine W_region ?_
  refine ev ?_
  first | refine ev ?_ | refine WO_loadL tys rfl rfl (lt_of rfl) rfl rfl rfl rfl (getT _ _ (by omega) (by omega)) rfl ?_ | refine WO_loadL tys rfl rfl (lt_of rfl) rfl rfl rfl rfl (getT0 _ _ (by omega) (by omega)) rfl ?_
  refine ev ?_
  first | refine WO_idxT tys rfl rfl (lt_of rfl) rfl rfl rfl rfl rfl rfl rfl (by omega) _ (getT _ _ (by omega) (by omega)) ?_ | refine WO_idxS tys rfl rfl (lt_of rfl) rfl rfl rfl rfl rfl rfl rfl rfl (by omega) (by omega) ?_
  first | (refine ev ?_; try refine WO_le (Le.freeze (u := 8) rfl) ?_) | refine WO_loadL tys rfl rfl (lt_of rfl) rfl rfl rfl rfl (getT _ _ (by omega) (by omega)) rfl ?_ | refine WO_loadL tys rfl rfl (lt_of rfl) rfl rfl rfl rfl (getT0 _ _ (by omega) (by omega)) rfl ?_
  refine WO_norm rfl ?_
  refine callB ?_
  refine ⟨_, callsOf_at p f hp hg _, rfl, ?_⟩
  refine WO_le (Le.adoptE (u := 9) 9 rfl (by first | exact lenN | exact rfl)) ?_
  refine WO_norm rfl ?_
  refine ev ?_
  refine WO_keep [3, 9, 10] rfl ?_
  refine callB ?_
  refine ⟨_, hasS_fun (callsP p f) (callR p f) _ [.rp p.tt 0, .rp (.agg [T.int f]) 0] rfl (by omega) (fun n hn => hasRound11_fun n p f hp hg (hin f n hn).1 (hin f n hn).2), rfl, ?_⟩
  refine ev ?_
  refine WO_nil ?_
  refine thenQ_n ?_
  refine W_ret ?_
  refine Ends_of (.inr rfl) (ret_okF rfl) (by decide) rfl ?_
  · rfl

theorem hasRound_fun (p : Prog) (hp : p.ok 1048576) (hg : goodP p = true) : Fun Try.prog 60 [.t p.tt] (tupD [.t (.bool (roundP p))]) := by
  have hgl := goodP_len hg
  have hrl := reachP_len hg 0
  refine Fun.begin tys Try.func60 rfl rfl (N := 7) [(0, .t p.tt)] rfl rfl (fun w0 G F0 => ?_)
  refine W_seq ?_
  refine W_region ?_
  refine WO_box rfl rfl (lt_of rfl) rfl rfl ?_
  refine WO_norm rfl ?_
  refine ev ?_
  refine WO_nil ?_
  refine thenQ_n ?_
  refine W_seq ?_
  refine W_region ?_
  first | (refine ev ?_; try refine WO_le (Le.freeze (u := 3) rfl) ?_) | refine WO_loadMove tys rfl rfl (lt_of rfl) rfl rfl rfl rfl rfl rfl ?_
  refine WO_norm rfl ?_
  refine callB ?_
  refine ⟨_, reachFrom_fun p 0 hp hg (by omega) (by omega), rfl, ?_⟩
  refine WO_le (Le.adoptE (u := 4) 4 rfl (by first | exact lenN | exact rfl)) ?_
  refine WO_norm rfl ?_
  refine ev ?_
  refine callB ?_
  refine ⟨_, hasS_fun (reachP p 0) (roundR p) _ [.rp p.tt 0] rfl (by omega) (fun n hn => hasRound1_fun n p hp hg (reachP_in hn).1 (reachP_in hn).2), rfl, ?_⟩
  refine ev ?_
  refine WO_nil ?_
  refine thenQ_n ?_
  refine W_ret ?_
  refine Ends_of (.inr rfl) (ret_okF rfl) (by decide) rfl ?_
  · rfl

/-- A statement of a function that is reached. -/
def anyP (p : Prog) (q : Stmt → Bool) : Bool := (reachP p 0).any fun n => (funcAt p n).stmts.any q

theorem anyStmt1_fun (n : Int) (p : Prog) (f : Nat) (q : Stmt → Bool) (hp : p.ok 1048576) (hn0 : 0 ≤ n) (hn1 : n < p.funcs.length) (hf : ∀ s : Stmt, s.ok 1048576 → Fun Try.prog f [.t s.tt] (.t (.bool (q s)))) : Fun Try.prog 94 [.t (.int n), .rp p.tt 0, .rp (.agg [.v (.func (.func f) #[] #[])]) 0] (tupD [.t (.bool ((funcAt p n).stmts.any q))]) := by
  refine Fun.begin tys Try.func94 rfl rfl (N := 13) [(0, .t (.int n)), (1, .rp p.tt 0), (2, .rp (.agg [.v (.func (.func f) #[] #[])]) 0)] rfl rfl (fun w0 G F0 => ?_)
  refine W_seq ?_
  refine W_region ?_
  refine ev ?_
  refine WO_nil ?_
  refine thenQ_n ?_
  refine W_seq ?_
  refine W_regionD mixed (by kernel_rfl) ?_
  refine evQ ?_
  first | refine evQ ?_ | refine QL_loadL tys rfl rfl (lt_of rfl) rfl rfl rfl rfl (getT _ _ (by omega) (by omega)) rfl ?_ | refine QL_loadL tys rfl rfl (lt_of rfl) rfl rfl rfl rfl (getT0 _ _ (by omega) (by omega)) rfl ?_
  refine evQ ?_
  first | refine QL_idxT tys rfl rfl (lt_of rfl) rfl rfl rfl rfl rfl rfl rfl (by omega) _ (getT _ _ (by omega) (by omega)) ?_ | refine QL_idxS tys rfl rfl (lt_of rfl) rfl rfl rfl rfl rfl rfl rfl rfl (by omega) (by omega) ?_
  refine evQ ?_
  refine QL_norm rfl ?_
  first | refine evQ ?_ | refine QL_loadL tys rfl rfl (lt_of rfl) rfl rfl rfl rfl (getT _ _ (by omega) (by omega)) rfl ?_ | refine QL_loadL tys rfl rfl (lt_of rfl) rfl rfl rfl rfl (getT0 _ _ (by omega) (by omega)) rfl ?_
  refine QL_evC tys rfl rfl (lt_of rfl) rfl ?_
  refine callBQ ?_
  refine ⟨_, hasStmt_fun _ q f [] rfl (by have := (func_ok hp (n := n.toNat) (by omega)).2.1.1; omega) (fun s hs => hf s ((func_ok hp (n := n.toNat) (by omega)).2.1.2 s hs)), rfl, ?_⟩
  refine evQ ?_
  refine QL_nil ?_
  refine thenQ_n ?_
  refine W_ret ?_
  refine Ends_of (.inr rfl) (ret_okF rfl) (by decide) rfl ?_
  · refine retB ?_
    rw [funcAt_at]

theorem anyStmt_fun (p : Prog) (f : Nat) (q : Stmt → Bool) (hp : p.ok 1048576) (hg : goodP p = true) (hf : ∀ s : Stmt, s.ok 1048576 → Fun Try.prog f [.t s.tt] (.t (.bool (q s)))) : Fun Try.prog 54 [.t p.tt, .clo f []] (tupD [.t (.bool (anyP p q))]) := by
  have hgl := goodP_len hg
  have hrl := reachP_len hg 0
  refine Fun.begin tys Try.func54 rfl rfl (N := 9) [(0, .t p.tt), (1, .clo f [])] rfl rfl (fun w0 G F0 => ?_)
  refine W_seq ?_
  refine W_region ?_
  refine WO_norm rfl ?_
  refine WO_le (Le.cloV (u := 1) rfl) ?_
  refine WO_norm rfl ?_
  refine WO_box rfl rfl (lt_of rfl) rfl rfl ?_
  refine WO_norm rfl ?_
  refine WO_box rfl rfl (lt_of rfl) rfl rfl ?_
  refine WO_norm rfl ?_
  refine ev ?_
  refine WO_nil ?_
  refine thenQ_n ?_
  refine W_seq ?_
  refine W_region ?_
  first | (refine ev ?_; try refine WO_le (Le.freeze (u := 5) rfl) ?_) | refine WO_loadMove tys rfl rfl (lt_of rfl) rfl rfl rfl rfl rfl rfl ?_
  refine WO_norm rfl ?_
  refine callB ?_
  refine ⟨_, reachFrom_fun p 0 hp hg (by omega) (by omega), rfl, ?_⟩
  refine WO_le (Le.adoptE (u := 6) 6 rfl (by first | exact lenN | exact rfl)) ?_
  refine WO_norm rfl ?_
  refine ev ?_
  refine callB ?_
  refine ⟨_, hasS_fun (reachP p 0) (fun n => (funcAt p n).stmts.any q) _ [.rp p.tt 0, .rp (.agg [.v (.func (.func f) #[] #[])]) 0] rfl (by omega) (fun n hn => anyStmt1_fun n p f q hp (reachP_in hn).1 (reachP_in hn).2 hf), rfl, ?_⟩
  refine ev ?_
  refine WO_nil ?_
  refine thenQ_n ?_
  refine W_ret ?_
  refine Ends_of (.inr rfl) (ret_okF rfl) (by decide) rfl ?_
  · rfl

end Go.Proofs.Ytjnkcoaiccbmpaa
