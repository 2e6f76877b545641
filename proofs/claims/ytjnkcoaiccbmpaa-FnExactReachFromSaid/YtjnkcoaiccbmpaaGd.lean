/- What is known of good programs; walks of ManyStmts and IsGuarded. -/
import Derived.Test.YtjnkcoaiccbmpaaGc
set_option linter.unusedVariables false
set_option linter.unusedSimpArgs false
set_option maxRecDepth 10000
set_option maxHeartbeats 1000000
namespace Go.Proofs.Ytjnkcoaiccbmpaa
open Go.Eng

theorem Prog.small {p : Prog} (h : 0 ≤ szProg p 1048576) : p.ok 1048576 := (szProg_g p 1048576 (by omega) (by omega)).2.2 h
theorem retIB {a a' : Int} {b b' : Bool} (h : a = a') (h' : b = b') : [D.t (T.v (Value.int .i64 a)), D.t (T.v (Value.bool b))] = [D.t (T.int a'), D.t (T.bool b')] := by rw [h, h']
theorem retBB {a a' b b' : Bool} (h : a = a') (h' : b = b') : [D.t (T.v (Value.bool a)), D.t (T.v (Value.bool b))] = [D.t (T.bool a'), D.t (T.bool b')] := by rw [h, h']

theorem goodP_len {p : Prog} (h : goodP p = true) : 1 ≤ p.funcs.length ∧ p.funcs.length ≤ 5 := by
  unfold goodP at h
  simp only [Bool.and_eq_true, decide_eq_true_eq] at h
  omega
theorem goodP_fn {p : Prog} (h : goodP p = true) {n : Nat} (hn : n < p.funcs.length) : goodF (paramsL p) (p.funcs[n]) = true := by
  unfold goodP at h
  simp only [Bool.and_eq_true, List.all_eq_true] at h
  exact h.2.2.2 _ (List.getElem_mem hn)
theorem goodP_ps {p : Prog} (h : goodP p = true) : PsOk (paramsL p) := by
  unfold goodP at h
  simp only [Bool.and_eq_true] at h
  exact paramsB_ok h.2.1
theorem goodF_len {ps : List Int} {f : Func} (h : goodF ps f = true) : f.stmts.length ≤ 16 := by
  unfold goodF shapeF okNum at h
  simp only [Bool.and_eq_true, decide_eq_true_eq] at h
  omega
theorem goodF_shape {ps : List Int} {f : Func} (h : goodF ps f = true) : shapeF f = true := by
  unfold goodF at h
  rw [Bool.and_eq_true] at h
  exact h.1
theorem goodF_at {ps : List Int} {f : Func} (h : goodF ps f = true) {n : Nat} (hn : n < f.stmts.length) : stmtG f.vars ps (f.stmts[n]) = true := by
  unfold goodF at h
  rw [Bool.and_eq_true, List.all_eq_true] at h
  exact h.2 _ (List.getElem_mem hn)
theorem stmtG_def {vars : Int} {ps : List Int} {s : Stmt} (h : stmtG vars ps s = true) (hk : s.kind = 3) : 0 ≤ s.n ∧ s.n < ps.length ∧ s.ex = [] := by
  unfold stmtG at h
  rw [Bool.and_eq_true] at h
  have h1 := h.1
  unfold stmtW at h1
  simp [hk] at h1
  exact ⟨by omega, by omega, h1.1⟩
theorem runE_known {vars : Int} {ps : List Int} : ∀ {l : List Tok} {h m : Int} {r : Int × Int}, runE vars ps l h m = some r → ∀ t, t ∈ l → knownT vars ps.length t = true
  | [], _, _, _, _, t, ht => by cases ht
  | x :: l, h, m, r, e, t, ht => by
    rw [runE] at e
    split at e
    · rename_i hc
      rw [Bool.and_eq_true] at hc
      rcases List.mem_cons.1 ht with rfl | ht
      · exact hc.1
      · exact runE_known e t ht
    · cases e
theorem goodE_known {vars : Int} {ps : List Int} {l : List Tok} (h : goodE vars ps l = true) {t : Tok} (ht : t ∈ l) : knownT vars ps.length t = true := by
  unfold goodE at h
  split at h
  · rename_i e; exact runE_known e t ht
  · cases h
theorem goodE_len {vars : Int} {ps : List Int} {l : List Tok} (h : goodE vars ps l = true) : l.length ≤ 12 := by
  unfold goodE at h
  split at h
  · rw [Bool.and_eq_true] at h; have := h.2; simp at this; omega
  · cases h
theorem stmtG_ex {vars : Int} {ps : List Int} {s : Stmt} (h : stmtG vars ps s = true) : s.ex = [] ∨ goodE vars ps s.ex = true := by
  unfold stmtG at h
  rw [Bool.and_eq_true] at h
  have h1 := h.1
  unfold stmtW at h1
  by_cases he : goodE vars ps s.ex = true
  · exact .inr he
  · left
    have he' : goodE vars ps s.ex = false := by simpa using he
    rw [he'] at h1
    simp at h1
    grind
theorem stmtG_tok {vars : Int} {ps : List Int} {s : Stmt} (h : stmtG vars ps s = true) {t : Tok} (ht : t ∈ s.ex) (ho : t.op = 11) : 0 ≤ t.n ∧ t.n < ps.length := by
  rcases stmtG_ex h with h | h
  · rw [h] at ht; cases ht
  · exact known_op (goodE_known h ht) ho
theorem stmtG_len {vars : Int} {ps : List Int} {s : Stmt} (h : stmtG vars ps s = true) : s.ex.length ≤ 12 := by
  rcases stmtG_ex h with h | h
  · rw [h]; simp
  · exact goodE_len h

/-- How many statements functions have. -/
def sumS (l : List Func) : Int := (l.map fun f => (f.stmts.length : Int)).sum
theorem sumS_at {l : List Func} {k : Int} (h0 : 0 ≤ k) (h1 : k < l.length) : sumS (l.take (k + 1).toNat) = sumS (l.take k.toNat) + (l[k.toNat]'(by omega)).stmts.length := by
  unfold sumS; rw [take_at h0 h1, List.map_append, List.sum_append]; simp
def manyR (p : Prog) : Int := if goodP p then sumS p.funcs else 0

theorem specMany_fun (p : Prog) (hp : p.ok 1048576) : Fun Try.prog 16 [.t p.tt] (tupD [.t (.int (manyR p)), .t (.bool (goodP p))]) := by
  refine Fun.begin tys Try.func16 rfl rfl (N := 24) [(0, .t p.tt)] rfl rfl (fun w0 G F0 => ?_)
  refine W_seq ?_
  refine W_region ?_
  refine WO_box rfl rfl (lt_of rfl) rfl rfl ?_
  refine WO_norm rfl ?_
  refine ev ?_
  refine ev ?_
  refine WO_nil ?_
  refine thenQ_n ?_
  refine W_seq ?_
  refine W_seq ?_
  refine W_region ?_
  first | (refine ev ?_; try refine WO_le (Le.freeze (u := 7) rfl) ?_) | refine WO_loadMove tys rfl rfl (lt_of rfl) rfl rfl rfl rfl rfl rfl ?_
  refine WO_norm rfl ?_
  refine callB ?_
  refine ⟨_, goodProg_fun p hp, rfl, ?_⟩
  refine ev ?_
  refine WO_nil ?_
  refine thenQ_n ?_
  refine W_cond rfl (fun h1 => ?_) (fun h1 => ?_)
  ·
    try simp only [HS] at h1
    refine W_seq ?_
    refine W_region ?_
    refine ev ?_
    refine ev ?_
    refine WO_nil ?_
    refine thenQ_n ?_
    refine W_ret ?_
    refine thenQ_r ?_
    refine Ends_of (.inr rfl) (ret_okF rfl) (by decide) rfl ?_
    · first
      | exact retIB (by rw [manyR, h1]; rfl) h1.symm
      | exact retIB (by rw [manyR, if_pos h1, hm, take_end (by omega)]) h1.symm
  try simp only [HS] at h1
  refine W_skip ?_
  refine thenQ_n ?_
  refine W_seq ?_
  refine W_region ?_
  refine ev ?_
  refine WO_nil ?_
  refine thenQ_n ?_
  refine W_seq ?_
  refine W_seq ?_
  refine W_keep [1, 2, 3, 4] rfl ?_
  refine W_region ?_
  refine ev ?_
  refine ev ?_
  refine evE ?_
  refine ev ?_
  refine WO_nil ?_
  refine thenQ_n ?_
  refine W_block ?_
  refine W_loopK (α := Int × Int) [11, 12] [] (fun (x : Int × Int) => [(13, .t (.int (x.1))), (4, .t (.int (x.2)))]) (fun (x : Int × Int) => []) (fun (x : Int × Int) => 0 ≤ (x.1) ∧ (x.1) ≤ p.funcs.length ∧ 0 ≤ (x.2) ∧ (x.2) ≤ 16 * (x.1) ∧ (x.2) = sumS (p.funcs.take (x.1).toNat)) (fun (x : Int × Int) => Int.toNat (p.funcs.length - (x.1))) (0, 0) ?_ ?_ ?_ (fun x hx => ?_)
  · repeat (first | exact Sub.nil' | refine Sub.cons' rfl ?_ )
  · repeat (first | exact SubM.nil' | refine SubM.cons' rfl ?_ )
  · exact ⟨by omega, by omega, by omega, by omega, by simp [sumS]⟩
  obtain ⟨k, m⟩ := x
  obtain ⟨hk0, hk1, hm0, hm1, hm⟩ := hx
  try dsimp only at hk0 hk1 hm0 hm1 hm ⊢
  refine W_norm rfl ?_
  refine W_seq ?_
  refine W_region ?_
  refine ev ?_
  refine WO_nil ?_
  refine thenQ_n ?_
  refine W_seq ?_
  refine W_cond rfl (fun h2 => ?_) (fun h2 => ?_)
  ·
    try simp only [HS] at h2
    refine W_skip ?_
    refine thenQ_n ?_
    refine W_seq ?_
    refine W_block ?_
    refine W_seq ?_
    refine W_region ?_
    first | refine WO_idxT tys rfl rfl (lt_of rfl) rfl rfl rfl rfl rfl rfl rfl (by omega) _ (getT _ _ (by omega) (by omega)) ?_ | refine WO_idxS tys rfl rfl (lt_of rfl) rfl rfl rfl rfl rfl rfl rfl rfl (by omega) (by omega) ?_
    first | (refine ev ?_; try refine WO_le (Le.freeze (u := 16) rfl) ?_) | refine WO_loadL tys rfl rfl (lt_of rfl) rfl rfl rfl rfl (getT _ _ (by omega) (by omega)) rfl ?_ | refine WO_loadL tys rfl rfl (lt_of rfl) rfl rfl rfl rfl (getT0 _ _ (by omega) (by omega)) rfl ?_
    refine WO_norm rfl ?_
    refine WO_alloc tys rfl rfl (lt_of rfl) rfl rfl rfl ?_
    refine WO_norm rfl ?_
    refine WO_store tys rfl rfl rfl rfl rfl rfl rfl rfl (lt_of rfl) ?_
    refine WO_norm rfl ?_
    refine WO_nil ?_
    refine thenQ_n ?_
    refine W_region ?_
    refine ev ?_
    refine ev ?_
    refine ev ?_
    refine evE ?_
    refine WO_keep [4, 6, 11, 12, 13, 14, 15, 16, 17, 18, 19, 20] rfl ?_
    have hg := goodF_len (goodP_fn h1 (n := k.toNat) (by omega))
    have hgl := goodP_len h1
    refine evI ?_
    refine ev ?_
    refine WO_nil ?_
    refine inBlk_n ?_
    refine thenQ_n ?_
    refine W_region ?_
    refine evI ?_
    refine ev ?_
    refine WO_nil ?_
    refine loopQ_n (_, _) (by (try dsimp only); repeat (first | exact Sub.nil' | refine Sub.cons' rfl ?_ )) (by (try dsimp only); repeat (first | exact SubM.nil' | refine SubM.cons' rfl ?_ )) ?_ ?_
    · try dsimp only
      exact ⟨by omega, by omega, by omega, by omega, by rw [sumS_at hk0 (by omega), hm]⟩
    · (show Int.toNat _ < Int.toNat _); omega
  try simp only [HS] at h2
  refine W_exit ?_
  refine thenQ_e ?_
  refine loopQ_e ?_
  refine inBlk_y ?_
  refine thenQ_n ?_
  refine W_seq ?_
  refine W_region ?_
  refine ev ?_
  refine ev ?_
  refine ev ?_
  refine WO_nil ?_
  refine thenQ_n ?_
  refine W_ret ?_
  refine Ends_of (.inr rfl) (ret_okF rfl) (by decide) rfl ?_
  · first
    | exact retIB (by rw [manyR, h1]; rfl) h1.symm
    | exact retIB (by rw [manyR, if_pos h1, hm, take_end (by omega)]) h1.symm

theorem implMany_fun (p : Prog) (hp : p.ok 1048576) : Fun Try.prog 18 [.t p.tt] (tupD [.t (.int (manyR p)), .t (.bool (goodP p))]) := by
  refine Fun.begin tys Try.func18 rfl rfl (N := 24) [(0, .t p.tt)] rfl rfl (fun w0 G F0 => ?_)
  refine W_seq ?_
  refine W_region ?_
  refine WO_box rfl rfl (lt_of rfl) rfl rfl ?_
  refine WO_norm rfl ?_
  refine ev ?_
  refine ev ?_
  refine WO_nil ?_
  refine thenQ_n ?_
  refine W_seq ?_
  refine W_seq ?_
  refine W_region ?_
  first | (refine ev ?_; try refine WO_le (Le.freeze (u := 7) rfl) ?_) | refine WO_loadMove tys rfl rfl (lt_of rfl) rfl rfl rfl rfl rfl rfl ?_
  refine WO_norm rfl ?_
  refine callB ?_
  refine ⟨_, isProg_fun p hp, rfl, ?_⟩
  refine ev ?_
  refine WO_nil ?_
  refine thenQ_n ?_
  refine W_cond rfl (fun h1 => ?_) (fun h1 => ?_)
  ·
    try simp only [HS] at h1
    refine W_seq ?_
    refine W_region ?_
    refine ev ?_
    refine ev ?_
    refine WO_nil ?_
    refine thenQ_n ?_
    refine W_ret ?_
    refine thenQ_r ?_
    refine Ends_of (.inr rfl) (ret_okF rfl) (by decide) rfl ?_
    · first
      | exact retIB (by rw [manyR, h1]; rfl) h1.symm
      | exact retIB (by rw [manyR, if_pos h1, hm, take_end (by omega)]) h1.symm
  try simp only [HS] at h1
  refine W_skip ?_
  refine thenQ_n ?_
  refine W_seq ?_
  refine W_region ?_
  refine ev ?_
  refine WO_nil ?_
  refine thenQ_n ?_
  refine W_seq ?_
  refine W_seq ?_
  refine W_keep [1, 2, 3, 4] rfl ?_
  refine W_region ?_
  refine ev ?_
  refine ev ?_
  refine evE ?_
  refine ev ?_
  refine WO_nil ?_
  refine thenQ_n ?_
  refine W_block ?_
  refine W_loopK (α := Int × Int) [11, 12] [] (fun (x : Int × Int) => [(13, .t (.int (x.1))), (4, .t (.int (x.2)))]) (fun (x : Int × Int) => []) (fun (x : Int × Int) => 0 ≤ (x.1) ∧ (x.1) ≤ p.funcs.length ∧ 0 ≤ (x.2) ∧ (x.2) ≤ 16 * (x.1) ∧ (x.2) = sumS (p.funcs.take (x.1).toNat)) (fun (x : Int × Int) => Int.toNat (p.funcs.length - (x.1))) (0, 0) ?_ ?_ ?_ (fun x hx => ?_)
  · repeat (first | exact Sub.nil' | refine Sub.cons' rfl ?_ )
  · repeat (first | exact SubM.nil' | refine SubM.cons' rfl ?_ )
  · exact ⟨by omega, by omega, by omega, by omega, by simp [sumS]⟩
  obtain ⟨k, m⟩ := x
  obtain ⟨hk0, hk1, hm0, hm1, hm⟩ := hx
  try dsimp only at hk0 hk1 hm0 hm1 hm ⊢
  refine W_norm rfl ?_
  refine W_seq ?_
  refine W_region ?_
  refine ev ?_
  refine WO_nil ?_
  refine thenQ_n ?_
  refine W_seq ?_
  refine W_cond rfl (fun h2 => ?_) (fun h2 => ?_)
  ·
    try simp only [HS] at h2
    refine W_skip ?_
    refine thenQ_n ?_
    refine W_seq ?_
    refine W_block ?_
    refine W_seq ?_
    refine W_region ?_
    first | refine WO_idxT tys rfl rfl (lt_of rfl) rfl rfl rfl rfl rfl rfl rfl (by omega) _ (getT _ _ (by omega) (by omega)) ?_ | refine WO_idxS tys rfl rfl (lt_of rfl) rfl rfl rfl rfl rfl rfl rfl rfl (by omega) (by omega) ?_
    first | (refine ev ?_; try refine WO_le (Le.freeze (u := 16) rfl) ?_) | refine WO_loadL tys rfl rfl (lt_of rfl) rfl rfl rfl rfl (getT _ _ (by omega) (by omega)) rfl ?_ | refine WO_loadL tys rfl rfl (lt_of rfl) rfl rfl rfl rfl (getT0 _ _ (by omega) (by omega)) rfl ?_
    refine WO_norm rfl ?_
    refine WO_alloc tys rfl rfl (lt_of rfl) rfl rfl rfl ?_
    refine WO_norm rfl ?_
    refine WO_store tys rfl rfl rfl rfl rfl rfl rfl rfl (lt_of rfl) ?_
    refine WO_norm rfl ?_
    refine WO_nil ?_
    refine thenQ_n ?_
    refine W_region ?_
    refine ev ?_
    refine ev ?_
    refine ev ?_
    refine evE ?_
    refine WO_keep [4, 6, 11, 12, 13, 14, 15, 16, 17, 18, 19, 20] rfl ?_
    have hg := goodF_len (goodP_fn h1 (n := k.toNat) (by omega))
    have hgl := goodP_len h1
    refine evI ?_
    refine ev ?_
    refine WO_nil ?_
    refine inBlk_n ?_
    refine thenQ_n ?_
    refine W_region ?_
    refine evI ?_
    refine ev ?_
    refine WO_nil ?_
    refine loopQ_n (_, _) (by (try dsimp only); repeat (first | exact Sub.nil' | refine Sub.cons' rfl ?_ )) (by (try dsimp only); repeat (first | exact SubM.nil' | refine SubM.cons' rfl ?_ )) ?_ ?_
    · try dsimp only
      exact ⟨by omega, by omega, by omega, by omega, by rw [sumS_at hk0 (by omega), hm]⟩
    · (show Int.toNat _ < Int.toNat _); omega
  try simp only [HS] at h2
  refine W_exit ?_
  refine thenQ_e ?_
  refine loopQ_e ?_
  refine inBlk_y ?_
  refine thenQ_n ?_
  refine W_seq ?_
  refine W_region ?_
  refine ev ?_
  refine ev ?_
  refine ev ?_
  refine WO_nil ?_
  refine thenQ_n ?_
  refine W_ret ?_
  refine Ends_of (.inr rfl) (ret_okF rfl) (by decide) rfl ?_
  · first
    | exact retIB (by rw [manyR, h1]; rfl) h1.symm
    | exact retIB (by rw [manyR, if_pos h1, hm, take_end (by omega)]) h1.symm

def stmtAt (f : Func) (n : Int) : Stmt := (f.stmts[n.toNat]?).getD ⟨0, 0, [], [], []⟩
theorem stmtAt_at {f : Func} {n : Int} (h : n.toNat < f.stmts.length) : f.stmts[n.toNat] = stmtAt f n := by
  unfold stmtAt; rw [List.getElem?_eq_getElem h]; rfl
def funcAt (p : Prog) (n : Int) : Func := (p.funcs[n.toNat]?).getD ⟨0, 0, [], []⟩
theorem funcAt_at {p : Prog} {n : Int} (h : n.toNat < p.funcs.length) : p.funcs[n.toNat] = funcAt p n := by
  unfold funcAt; rw [List.getElem?_eq_getElem h]; rfl
def op0 (l : List Tok) : Int := (l[(0 : Int).toNat]?.map (·.op)).getD 0
theorem op0_at {l : List Tok} (h : (0 : Int).toNat < l.length) : (l[(0 : Int).toNat]).op = op0 l := by
  unfold op0; rw [List.getElem?_eq_getElem h]; rfl
def guard1 (f : Func) : Bool := decide ((f.stmts.length : Int) = 2) && (decide ((stmtAt f 0).kind = 3) && (decide ((stmtAt f 1).kind = 9) && (decide (((stmtAt f 1).ex.length : Int) = 1) && decide (op0 (stmtAt f 1).ex = 11))))
def guard2 (f : Func) : Bool := decide ((f.stmts.length : Int) = 1) && (decide ((stmtAt f 0).kind = 2) && (decide (((stmtAt f 0).ex.length : Int) = 1) && decide (op0 (stmtAt f 0).ex = 10)))
def guarded (p : Prog) : Bool := goodP p && (guard1 (funcAt p 0) && guard2 (funcAt p (stmtAt (funcAt p 0) 0).n))

theorem specGuarded_fun (p : Prog) (hp : p.ok 1048576) : Fun Try.prog 20 [.t p.tt] (tupD [.t (.bool (guarded p)), .t (.bool (goodP p))]) := by
  refine Fun.begin tys Try.func20 rfl rfl (N := 86) [(0, .t p.tt)] rfl rfl (fun w0 G F0 => ?_)
  refine W_seq ?_
  refine W_region ?_
  refine WO_box rfl rfl (lt_of rfl) rfl rfl ?_
  refine WO_norm rfl ?_
  refine ev ?_
  refine ev ?_
  refine WO_nil ?_
  refine thenQ_n ?_
  refine W_seq ?_
  refine W_seq ?_
  refine W_region ?_
  first | (refine ev ?_; try refine WO_le (Le.freeze (u := 6) rfl) ?_) | refine WO_loadMove tys rfl rfl (lt_of rfl) rfl rfl rfl rfl rfl rfl ?_
  refine WO_norm rfl ?_
  refine callB ?_
  refine ⟨_, goodProg_fun p hp, rfl, ?_⟩
  refine ev ?_
  refine WO_nil ?_
  refine thenQ_n ?_
  refine W_cond rfl (fun h1 => ?_) (fun h1 => ?_)
  ·
    try simp only [HS] at h1
    refine W_seq ?_
    refine W_region ?_
    refine ev ?_
    refine ev ?_
    refine WO_nil ?_
    refine thenQ_n ?_
    refine W_ret ?_
    refine thenQ_r ?_
    refine Ends_of (.inr rfl) (ret_okF rfl) (by decide) rfl ?_
    · first
      | exact retBB (by rw [guarded, h1]; rfl) h1.symm
      | (simp only [funcAt_at] at hf0; (try simp only [stmtAt_at] at h3); (try simp only [stmtAt_at] at h4); (try simp only [stmtAt_at] at h5); (try simp only [stmtAt_at, op0_at] at h6)
         refine retBB ?_ h1.symm
         rw [guarded, h1, hf0]
         (try simp only [stmtAt_at, funcAt_at] at hf2); (try rw [hf2]); (try simp only [stmtAt_at] at h8); (try simp only [stmtAt_at] at h9); (try simp only [stmtAt_at, op0_at])
         simp [guard1, guard2, *]
         done)
  try simp only [HS] at h1
  refine W_skip ?_
  refine thenQ_n ?_
  refine W_seq ?_
  refine W_region ?_
  have hgl := goodP_len h1
  refine ev ?_
  refine ev ?_
  first | refine WO_idxT tys rfl rfl (lt_of rfl) rfl rfl rfl rfl rfl rfl rfl (by omega) _ (getT _ _ (by omega) (by omega)) ?_ | refine WO_idxS tys rfl rfl (lt_of rfl) rfl rfl rfl rfl rfl rfl rfl rfl (by omega) (by omega) ?_
  refine WO_keep [1, 2, 3, 11] rfl ?_
  refine ev ?_
  first | refine ev ?_ | refine WO_loadL tys rfl rfl (lt_of rfl) rfl rfl rfl rfl (getT _ _ (by omega) (by omega)) rfl ?_ | refine WO_loadL tys rfl rfl (lt_of rfl) rfl rfl rfl rfl (getT0 _ _ (by omega) (by omega)) rfl ?_
  refine ev ?_
  refine WO_nil ?_
  refine thenQ_n ?_
  refine W_seq ?_
  refine W_seq ?_
  refine W_region ?_
  generalize hf0 : p.funcs[(0 : Int).toNat]'(by omega) = f0
  refine ev ?_
  refine evE ?_
  refine ev ?_
  refine ev ?_
  refine WO_guard rfl rfl rfl rfl (lt_of rfl) (fun h2 => ?_) (fun h2 => ?_)
  rotate_left
  ·
    try simp only [HS] at h2
    refine WO_guardN rfl rfl rfl rfl rfl (lt_of rfl) ?_
    refine WO_guardN rfl rfl rfl rfl rfl (lt_of rfl) ?_
    refine WO_keep [1, 2, 3, 4, 17, 20] rfl ?_
    refine WO_guardN rfl rfl rfl rfl rfl (lt_of rfl) ?_
    refine WO_guardN rfl rfl rfl rfl rfl (lt_of rfl) ?_
    refine ev ?_
    refine ev ?_
    refine WO_guardN rfl rfl rfl rfl rfl (lt_of rfl) ?_
    refine WO_guardN rfl rfl rfl rfl rfl (lt_of rfl) ?_
    refine WO_guardN rfl rfl rfl rfl rfl (lt_of rfl) ?_
    refine WO_guardN rfl rfl rfl rfl rfl (lt_of rfl) ?_
    refine WO_guardN rfl rfl rfl rfl rfl (lt_of rfl) ?_
    refine WO_keep [1, 2, 3, 4, 24, 29] rfl ?_
    refine ev ?_
    refine ev ?_
    refine WO_guardN rfl rfl rfl rfl rfl (lt_of rfl) ?_
    refine WO_guardN rfl rfl rfl rfl rfl (lt_of rfl) ?_
    refine WO_guardN rfl rfl rfl rfl rfl (lt_of rfl) ?_
    refine WO_guardN rfl rfl rfl rfl rfl (lt_of rfl) ?_
    refine WO_guardN rfl rfl rfl rfl rfl (lt_of rfl) ?_
    refine WO_guardN rfl rfl rfl rfl rfl (lt_of rfl) ?_
    refine ev ?_
    refine WO_keep [1, 2, 3, 4, 38] rfl ?_
    refine ev ?_
    refine WO_guardN rfl rfl rfl rfl rfl (lt_of rfl) ?_
    refine WO_guardN rfl rfl rfl rfl rfl (lt_of rfl) ?_
    refine WO_guardN rfl rfl rfl rfl rfl (lt_of rfl) ?_
    refine WO_guardN rfl rfl rfl rfl rfl (lt_of rfl) ?_
    refine WO_guardN rfl rfl rfl rfl rfl (lt_of rfl) ?_
    refine WO_guardN rfl rfl rfl rfl rfl (lt_of rfl) ?_
    refine WO_guardN rfl rfl rfl rfl rfl (lt_of rfl) ?_
    refine WO_guardN rfl rfl rfl rfl rfl (lt_of rfl) ?_
    refine WO_keep [1, 2, 3, 4, 39, 47] rfl ?_
    refine ev ?_
    refine WO_nil ?_
    refine thenQ_n ?_
    refine W_condT rfl ?_
    refine W_seq ?_
    refine W_region ?_
    refine ev ?_
    refine ev ?_
    refine WO_nil ?_
    refine thenQ_n ?_
    refine W_ret ?_
    refine thenQ_r ?_
    refine Ends_of (.inr rfl) (ret_okF rfl) (by decide) rfl ?_
    · first
      | exact retBB (by rw [guarded, h1]; rfl) h1.symm
      | (simp only [funcAt_at] at hf0; (try simp only [stmtAt_at] at h3); (try simp only [stmtAt_at] at h4); (try simp only [stmtAt_at] at h5); (try simp only [stmtAt_at, op0_at] at h6)
         refine retBB ?_ h1.symm
         rw [guarded, h1, hf0]
         (try simp only [stmtAt_at, funcAt_at] at hf2); (try rw [hf2]); (try simp only [stmtAt_at] at h8); (try simp only [stmtAt_at] at h9); (try simp only [stmtAt_at, op0_at])
         simp [guard1, guard2, *]
         done)
  try simp only [HS] at h2
  refine ev ?_
  refine WO_guardY rfl rfl rfl rfl (lt_of rfl) ?_
  first | refine WO_idxT tys rfl rfl (lt_of rfl) rfl rfl rfl rfl rfl rfl rfl (by omega) _ (getT _ _ (by omega) (by omega)) ?_ | refine WO_idxS tys rfl rfl (lt_of rfl) rfl rfl rfl rfl rfl rfl rfl rfl (by omega) (by omega) ?_
  refine WO_keep [1, 2, 3, 4, 17, 19] rfl ?_
  refine WO_guardY rfl rfl rfl rfl (lt_of rfl) ?_
  refine ev ?_
  refine WO_guardY rfl rfl rfl rfl (lt_of rfl) ?_
  first | refine ev ?_ | refine WO_loadL tys rfl rfl (lt_of rfl) rfl rfl rfl rfl (getT _ _ (by omega) (by omega)) rfl ?_ | refine WO_loadL tys rfl rfl (lt_of rfl) rfl rfl rfl rfl (getT0 _ _ (by omega) (by omega)) rfl ?_
  refine WO_guardY rfl rfl rfl rfl (lt_of rfl) ?_
  refine ev ?_
  refine ev ?_
  refine ev ?_
  refine WO_guard rfl rfl rfl rfl (lt_of rfl) (fun h3 => ?_) (fun h3 => ?_)
  rotate_left
  ·
    try simp only [HS] at h3
    refine WO_guardN rfl rfl rfl rfl rfl (lt_of rfl) ?_
    refine WO_guardN rfl rfl rfl rfl rfl (lt_of rfl) ?_
    refine WO_guardN rfl rfl rfl rfl rfl (lt_of rfl) ?_
    refine WO_guardN rfl rfl rfl rfl rfl (lt_of rfl) ?_
    refine WO_keep [1, 2, 3, 4, 24, 29] rfl ?_
    refine ev ?_
    refine ev ?_
    refine WO_guardN rfl rfl rfl rfl rfl (lt_of rfl) ?_
    refine WO_guardN rfl rfl rfl rfl rfl (lt_of rfl) ?_
    refine WO_guardN rfl rfl rfl rfl rfl (lt_of rfl) ?_
    refine WO_guardN rfl rfl rfl rfl rfl (lt_of rfl) ?_
    refine WO_guardN rfl rfl rfl rfl rfl (lt_of rfl) ?_
    refine WO_guardN rfl rfl rfl rfl rfl (lt_of rfl) ?_
    refine ev ?_
    refine WO_keep [1, 2, 3, 4, 38] rfl ?_
    refine ev ?_
    refine WO_guardN rfl rfl rfl rfl rfl (lt_of rfl) ?_
    refine WO_guardN rfl rfl rfl rfl rfl (lt_of rfl) ?_
    refine WO_guardN rfl rfl rfl rfl rfl (lt_of rfl) ?_
    refine WO_guardN rfl rfl rfl rfl rfl (lt_of rfl) ?_
    refine WO_guardN rfl rfl rfl rfl rfl (lt_of rfl) ?_
    refine WO_guardN rfl rfl rfl rfl rfl (lt_of rfl) ?_
    refine WO_guardN rfl rfl rfl rfl rfl (lt_of rfl) ?_
    refine WO_guardN rfl rfl rfl rfl rfl (lt_of rfl) ?_
    refine WO_keep [1, 2, 3, 4, 39, 47] rfl ?_
    refine ev ?_
    refine WO_nil ?_
    refine thenQ_n ?_
    refine W_condT rfl ?_
    refine W_seq ?_
    refine W_region ?_
    refine ev ?_
    refine ev ?_
    refine WO_nil ?_
    refine thenQ_n ?_
    refine W_ret ?_
    refine thenQ_r ?_
    refine Ends_of (.inr rfl) (ret_okF rfl) (by decide) rfl ?_
    · first
      | exact retBB (by rw [guarded, h1]; rfl) h1.symm
      | (simp only [funcAt_at] at hf0; (try simp only [stmtAt_at] at h3); (try simp only [stmtAt_at] at h4); (try simp only [stmtAt_at] at h5); (try simp only [stmtAt_at, op0_at] at h6)
         refine retBB ?_ h1.symm
         rw [guarded, h1, hf0]
         (try simp only [stmtAt_at, funcAt_at] at hf2); (try rw [hf2]); (try simp only [stmtAt_at] at h8); (try simp only [stmtAt_at] at h9); (try simp only [stmtAt_at, op0_at])
         simp [guard1, guard2, *]
         done)
  try simp only [HS] at h3
  refine ev ?_
  refine WO_guardY rfl rfl rfl rfl (lt_of rfl) ?_
  first | refine WO_idxT tys rfl rfl (lt_of rfl) rfl rfl rfl rfl rfl rfl rfl (by omega) _ (getT _ _ (by omega) (by omega)) ?_ | refine WO_idxS tys rfl rfl (lt_of rfl) rfl rfl rfl rfl rfl rfl rfl rfl (by omega) (by omega) ?_
  refine WO_guardY rfl rfl rfl rfl (lt_of rfl) ?_
  refine ev ?_
  refine WO_guardY rfl rfl rfl rfl (lt_of rfl) ?_
  first | refine ev ?_ | refine WO_loadL tys rfl rfl (lt_of rfl) rfl rfl rfl rfl (getT _ _ (by omega) (by omega)) rfl ?_ | refine WO_loadL tys rfl rfl (lt_of rfl) rfl rfl rfl rfl (getT0 _ _ (by omega) (by omega)) rfl ?_
  refine WO_keep [1, 2, 3, 4, 24, 28] rfl ?_
  refine WO_guardY rfl rfl rfl rfl (lt_of rfl) ?_
  refine ev ?_
  refine ev ?_
  refine ev ?_
  refine WO_guard rfl rfl rfl rfl (lt_of rfl) (fun h4 => ?_) (fun h4 => ?_)
  rotate_left
  ·
    try simp only [HS] at h4
    refine WO_guardN rfl rfl rfl rfl rfl (lt_of rfl) ?_
    refine WO_guardN rfl rfl rfl rfl rfl (lt_of rfl) ?_
    refine WO_guardN rfl rfl rfl rfl rfl (lt_of rfl) ?_
    refine WO_guardN rfl rfl rfl rfl rfl (lt_of rfl) ?_
    refine WO_guardN rfl rfl rfl rfl rfl (lt_of rfl) ?_
    refine ev ?_
    refine WO_keep [1, 2, 3, 4, 38] rfl ?_
    refine ev ?_
    refine WO_guardN rfl rfl rfl rfl rfl (lt_of rfl) ?_
    refine WO_guardN rfl rfl rfl rfl rfl (lt_of rfl) ?_
    refine WO_guardN rfl rfl rfl rfl rfl (lt_of rfl) ?_
    refine WO_guardN rfl rfl rfl rfl rfl (lt_of rfl) ?_
    refine WO_guardN rfl rfl rfl rfl rfl (lt_of rfl) ?_
    refine WO_guardN rfl rfl rfl rfl rfl (lt_of rfl) ?_
    refine WO_guardN rfl rfl rfl rfl rfl (lt_of rfl) ?_
    refine WO_guardN rfl rfl rfl rfl rfl (lt_of rfl) ?_
    refine WO_keep [1, 2, 3, 4, 39, 47] rfl ?_
    refine ev ?_
    refine WO_nil ?_
    refine thenQ_n ?_
    refine W_condT rfl ?_
    refine W_seq ?_
    refine W_region ?_
    refine ev ?_
    refine ev ?_
    refine WO_nil ?_
    refine thenQ_n ?_
    refine W_ret ?_
    refine thenQ_r ?_
    refine Ends_of (.inr rfl) (ret_okF rfl) (by decide) rfl ?_
    · first
      | exact retBB (by rw [guarded, h1]; rfl) h1.symm
      | (simp only [funcAt_at] at hf0; (try simp only [stmtAt_at] at h3); (try simp only [stmtAt_at] at h4); (try simp only [stmtAt_at] at h5); (try simp only [stmtAt_at, op0_at] at h6)
         refine retBB ?_ h1.symm
         rw [guarded, h1, hf0]
         (try simp only [stmtAt_at, funcAt_at] at hf2); (try rw [hf2]); (try simp only [stmtAt_at] at h8); (try simp only [stmtAt_at] at h9); (try simp only [stmtAt_at, op0_at])
         simp [guard1, guard2, *]
         done)
  try simp only [HS] at h4
  refine ev ?_
  refine WO_guardY rfl rfl rfl rfl (lt_of rfl) ?_
  first | refine WO_idxT tys rfl rfl (lt_of rfl) rfl rfl rfl rfl rfl rfl rfl (by omega) _ (getT _ _ (by omega) (by omega)) ?_ | refine WO_idxS tys rfl rfl (lt_of rfl) rfl rfl rfl rfl rfl rfl rfl rfl (by omega) (by omega) ?_
  refine WO_guardY rfl rfl rfl rfl (lt_of rfl) ?_
  refine ev ?_
  refine WO_guardY rfl rfl rfl rfl (lt_of rfl) ?_
  first | refine ev ?_ | refine WO_loadL tys rfl rfl (lt_of rfl) rfl rfl rfl rfl (getT _ _ (by omega) (by omega)) rfl ?_ | refine WO_loadL tys rfl rfl (lt_of rfl) rfl rfl rfl rfl (getT0 _ _ (by omega) (by omega)) rfl ?_
  refine WO_guardY rfl rfl rfl rfl (lt_of rfl) ?_
  refine evE ?_
  refine WO_guardY rfl rfl rfl rfl (lt_of rfl) ?_
  refine ev ?_
  refine WO_keep [1, 2, 3, 4, 31, 37] rfl ?_
  refine ev ?_
  refine ev ?_
  refine WO_guard rfl rfl rfl rfl (lt_of rfl) (fun h5 => ?_) (fun h5 => ?_)
  rotate_left
  ·
    try simp only [HS] at h5
    refine WO_guardN rfl rfl rfl rfl rfl (lt_of rfl) ?_
    refine WO_guardN rfl rfl rfl rfl rfl (lt_of rfl) ?_
    refine WO_guardN rfl rfl rfl rfl rfl (lt_of rfl) ?_
    refine WO_guardN rfl rfl rfl rfl rfl (lt_of rfl) ?_
    refine WO_guardN rfl rfl rfl rfl rfl (lt_of rfl) ?_
    refine WO_guardN rfl rfl rfl rfl rfl (lt_of rfl) ?_
    refine WO_guardN rfl rfl rfl rfl rfl (lt_of rfl) ?_
    refine WO_keep [1, 2, 3, 4, 39, 47] rfl ?_
    refine ev ?_
    refine WO_nil ?_
    refine thenQ_n ?_
    refine W_condT rfl ?_
    refine W_seq ?_
    refine W_region ?_
    refine ev ?_
    refine ev ?_
    refine WO_nil ?_
    refine thenQ_n ?_
    refine W_ret ?_
    refine thenQ_r ?_
    refine Ends_of (.inr rfl) (ret_okF rfl) (by decide) rfl ?_
    · first
      | exact retBB (by rw [guarded, h1]; rfl) h1.symm
      | (simp only [funcAt_at] at hf0; (try simp only [stmtAt_at] at h3); (try simp only [stmtAt_at] at h4); (try simp only [stmtAt_at] at h5); (try simp only [stmtAt_at, op0_at] at h6)
         refine retBB ?_ h1.symm
         rw [guarded, h1, hf0]
         (try simp only [stmtAt_at, funcAt_at] at hf2); (try rw [hf2]); (try simp only [stmtAt_at] at h8); (try simp only [stmtAt_at] at h9); (try simp only [stmtAt_at, op0_at])
         simp [guard1, guard2, *]
         done)
  try simp only [HS] at h5
  refine ev ?_
  refine WO_guardY rfl rfl rfl rfl (lt_of rfl) ?_
  first | refine WO_idxT tys rfl rfl (lt_of rfl) rfl rfl rfl rfl rfl rfl rfl (by omega) _ (getT _ _ (by omega) (by omega)) ?_ | refine WO_idxS tys rfl rfl (lt_of rfl) rfl rfl rfl rfl rfl rfl rfl rfl (by omega) (by omega) ?_
  refine WO_guardY rfl rfl rfl rfl (lt_of rfl) ?_
  refine ev ?_
  refine WO_guardY rfl rfl rfl rfl (lt_of rfl) ?_
  first | refine ev ?_ | refine WO_loadL tys rfl rfl (lt_of rfl) rfl rfl rfl rfl (getT _ _ (by omega) (by omega)) rfl ?_ | refine WO_loadL tys rfl rfl (lt_of rfl) rfl rfl rfl rfl (getT0 _ _ (by omega) (by omega)) rfl ?_
  refine WO_guardY rfl rfl rfl rfl (lt_of rfl) ?_
  first | refine WO_idxT tys rfl rfl (lt_of rfl) rfl rfl rfl rfl rfl rfl rfl (by omega) _ (getT _ _ (by omega) (by omega)) ?_ | refine WO_idxS tys rfl rfl (lt_of rfl) rfl rfl rfl rfl rfl rfl rfl rfl (by omega) (by omega) ?_
  refine WO_guardY rfl rfl rfl rfl (lt_of rfl) ?_
  refine ev ?_
  refine WO_guardY rfl rfl rfl rfl (lt_of rfl) ?_
  first | refine ev ?_ | refine WO_loadL tys rfl rfl (lt_of rfl) rfl rfl rfl rfl (getT _ _ (by omega) (by omega)) rfl ?_ | refine WO_loadL tys rfl rfl (lt_of rfl) rfl rfl rfl rfl (getT0 _ _ (by omega) (by omega)) rfl ?_
  refine WO_keep [1, 2, 3, 4, 39, 46] rfl ?_
  refine WO_guardY rfl rfl rfl rfl (lt_of rfl) ?_
  refine ev ?_
  refine ev ?_
  refine WO_nil ?_
  refine thenQ_n ?_
  refine W_cond rfl (fun h6 => ?_) (fun h6 => ?_)
  ·
    try simp only [HS] at h6
    refine W_seq ?_
    refine W_region ?_
    refine ev ?_
    refine ev ?_
    refine WO_nil ?_
    refine thenQ_n ?_
    refine W_ret ?_
    refine thenQ_r ?_
    refine Ends_of (.inr rfl) (ret_okF rfl) (by decide) rfl ?_
    · first
      | exact retBB (by rw [guarded, h1]; rfl) h1.symm
      | (simp only [funcAt_at] at hf0; (try simp only [stmtAt_at] at h3); (try simp only [stmtAt_at] at h4); (try simp only [stmtAt_at] at h5); (try simp only [stmtAt_at, op0_at] at h6)
         refine retBB ?_ h1.symm
         rw [guarded, h1, hf0]
         (try simp only [stmtAt_at, funcAt_at] at hf2); (try rw [hf2]); (try simp only [stmtAt_at] at h8); (try simp only [stmtAt_at] at h9); (try simp only [stmtAt_at, op0_at])
         simp [guard1, guard2, *]
         done)
  try simp only [HS] at h6
  refine W_skip ?_
  refine thenQ_n ?_
  refine W_seq ?_
  refine W_regionD mixed (by kernel_rfl) ?_
  have hgf : goodF (paramsL p) f0 = true := by rw [← hf0]; exact goodP_fn h1 _
  have hn := stmtG_def (goodF_at hgf (n := (0 : Int).toNat) (by omega)) h3
  rw [paramsL_len] at hn
  refine evQ ?_
  refine evQ ?_
  refine evQ ?_
  first | refine QL_idxT tys rfl rfl (lt_of rfl) rfl rfl rfl rfl rfl rfl rfl (by omega) _ (getT _ _ (by omega) (by omega)) ?_ | refine QL_idxS tys rfl rfl (lt_of rfl) rfl rfl rfl rfl rfl rfl rfl rfl (by omega) (by omega) ?_
  refine QL_norm rfl ?_
  refine evQ ?_
  first | refine evQ ?_ | refine QL_loadL tys rfl rfl (lt_of rfl) rfl rfl rfl rfl (getT _ _ (by omega) (by omega)) rfl ?_ | refine QL_loadL tys rfl rfl (lt_of rfl) rfl rfl rfl rfl (getT0 _ _ (by omega) (by omega)) rfl ?_
  first | refine QL_idxT tys rfl rfl (lt_of rfl) rfl rfl rfl rfl rfl rfl rfl (by omega) _ (getT _ _ (by omega) (by omega)) ?_ | refine QL_idxS tys rfl rfl (lt_of rfl) rfl rfl rfl rfl rfl rfl rfl rfl (by omega) (by omega) ?_
  refine evQ ?_
  first | refine evQ ?_ | refine QL_loadL tys rfl rfl (lt_of rfl) rfl rfl rfl rfl (getT _ _ (by omega) (by omega)) rfl ?_ | refine QL_loadL tys rfl rfl (lt_of rfl) rfl rfl rfl rfl (getT0 _ _ (by omega) (by omega)) rfl ?_
  refine evQ ?_
  refine QL_norm rfl ?_
  refine QL_nil ?_
  refine thenQ_n ?_
  refine W_seq ?_
  refine W_region ?_
  generalize hf2 : p.funcs[((f0.stmts[(0 : Int).toNat]'(by omega)).n).toNat]'(by omega) = f2
  refine ev ?_
  refine evE ?_
  refine ev ?_
  refine ev ?_
  refine WO_guard rfl rfl rfl rfl (lt_of rfl) (fun h7 => ?_) (fun h7 => ?_)
  rotate_left
  ·
    try simp only [HS] at h7
    refine WO_guardN rfl rfl rfl rfl rfl (lt_of rfl) ?_
    refine WO_guardN rfl rfl rfl rfl rfl (lt_of rfl) ?_
    refine WO_guardN rfl rfl rfl rfl rfl (lt_of rfl) ?_
    refine WO_guardN rfl rfl rfl rfl rfl (lt_of rfl) ?_
    refine ev ?_
    refine WO_keep [2, 3, 5, 67] rfl ?_
    refine ev ?_
    refine WO_guardN rfl rfl rfl rfl rfl (lt_of rfl) ?_
    refine WO_guardN rfl rfl rfl rfl rfl (lt_of rfl) ?_
    refine WO_guardN rfl rfl rfl rfl rfl (lt_of rfl) ?_
    refine WO_guardN rfl rfl rfl rfl rfl (lt_of rfl) ?_
    refine WO_guardN rfl rfl rfl rfl rfl (lt_of rfl) ?_
    refine WO_guardN rfl rfl rfl rfl rfl (lt_of rfl) ?_
    refine ev ?_
    refine ev ?_
    refine WO_keep [2, 3, 5, 76] rfl ?_
    refine WO_guardN rfl rfl rfl rfl rfl (lt_of rfl) ?_
    refine WO_guardN rfl rfl rfl rfl rfl (lt_of rfl) ?_
    refine WO_guardN rfl rfl rfl rfl rfl (lt_of rfl) ?_
    refine WO_guardN rfl rfl rfl rfl rfl (lt_of rfl) ?_
    refine WO_guardN rfl rfl rfl rfl rfl (lt_of rfl) ?_
    refine WO_guardN rfl rfl rfl rfl rfl (lt_of rfl) ?_
    refine WO_guardN rfl rfl rfl rfl rfl (lt_of rfl) ?_
    refine WO_guardN rfl rfl rfl rfl rfl (lt_of rfl) ?_
    refine ev ?_
    refine WO_keep [2, 3, 85] rfl ?_
    refine ev ?_
    refine ev ?_
    refine WO_nil ?_
    refine thenQ_n ?_
    refine W_ret ?_
    refine Ends_of (.inr rfl) (ret_okF rfl) (by decide) rfl ?_
    · first
      | exact retBB (by rw [guarded, h1]; rfl) h1.symm
      | (simp only [funcAt_at] at hf0; (try simp only [stmtAt_at] at h3); (try simp only [stmtAt_at] at h4); (try simp only [stmtAt_at] at h5); (try simp only [stmtAt_at, op0_at] at h6)
         refine retBB ?_ h1.symm
         rw [guarded, h1, hf0]
         (try simp only [stmtAt_at, funcAt_at] at hf2); (try rw [hf2]); (try simp only [stmtAt_at] at h8); (try simp only [stmtAt_at] at h9); (try simp only [stmtAt_at, op0_at])
         simp [guard1, guard2, *]
         done)
  try simp only [HS] at h7
  refine ev ?_
  refine WO_guardY rfl rfl rfl rfl (lt_of rfl) ?_
  first | refine WO_idxT tys rfl rfl (lt_of rfl) rfl rfl rfl rfl rfl rfl rfl (by omega) _ (getT _ _ (by omega) (by omega)) ?_ | refine WO_idxS tys rfl rfl (lt_of rfl) rfl rfl rfl rfl rfl rfl rfl rfl (by omega) (by omega) ?_
  refine WO_guardY rfl rfl rfl rfl (lt_of rfl) ?_
  refine ev ?_
  refine WO_guardY rfl rfl rfl rfl (lt_of rfl) ?_
  first | refine ev ?_ | refine WO_loadL tys rfl rfl (lt_of rfl) rfl rfl rfl rfl (getT _ _ (by omega) (by omega)) rfl ?_ | refine WO_loadL tys rfl rfl (lt_of rfl) rfl rfl rfl rfl (getT0 _ _ (by omega) (by omega)) rfl ?_
  refine WO_guardY rfl rfl rfl rfl (lt_of rfl) ?_
  refine ev ?_
  refine WO_keep [2, 3, 5, 61, 66] rfl ?_
  refine ev ?_
  refine ev ?_
  refine WO_guard rfl rfl rfl rfl (lt_of rfl) (fun h8 => ?_) (fun h8 => ?_)
  rotate_left
  ·
    try simp only [HS] at h8
    refine WO_guardN rfl rfl rfl rfl rfl (lt_of rfl) ?_
    refine WO_guardN rfl rfl rfl rfl rfl (lt_of rfl) ?_
    refine WO_guardN rfl rfl rfl rfl rfl (lt_of rfl) ?_
    refine WO_guardN rfl rfl rfl rfl rfl (lt_of rfl) ?_
    refine WO_guardN rfl rfl rfl rfl rfl (lt_of rfl) ?_
    refine ev ?_
    refine ev ?_
    refine WO_keep [2, 3, 5, 76] rfl ?_
    refine WO_guardN rfl rfl rfl rfl rfl (lt_of rfl) ?_
    refine WO_guardN rfl rfl rfl rfl rfl (lt_of rfl) ?_
    refine WO_guardN rfl rfl rfl rfl rfl (lt_of rfl) ?_
    refine WO_guardN rfl rfl rfl rfl rfl (lt_of rfl) ?_
    refine WO_guardN rfl rfl rfl rfl rfl (lt_of rfl) ?_
    refine WO_guardN rfl rfl rfl rfl rfl (lt_of rfl) ?_
    refine WO_guardN rfl rfl rfl rfl rfl (lt_of rfl) ?_
    refine WO_guardN rfl rfl rfl rfl rfl (lt_of rfl) ?_
    refine ev ?_
    refine WO_keep [2, 3, 85] rfl ?_
    refine ev ?_
    refine ev ?_
    refine WO_nil ?_
    refine thenQ_n ?_
    refine W_ret ?_
    refine Ends_of (.inr rfl) (ret_okF rfl) (by decide) rfl ?_
    · first
      | exact retBB (by rw [guarded, h1]; rfl) h1.symm
      | (simp only [funcAt_at] at hf0; (try simp only [stmtAt_at] at h3); (try simp only [stmtAt_at] at h4); (try simp only [stmtAt_at] at h5); (try simp only [stmtAt_at, op0_at] at h6)
         refine retBB ?_ h1.symm
         rw [guarded, h1, hf0]
         (try simp only [stmtAt_at, funcAt_at] at hf2); (try rw [hf2]); (try simp only [stmtAt_at] at h8); (try simp only [stmtAt_at] at h9); (try simp only [stmtAt_at, op0_at])
         simp [guard1, guard2, *]
         done)
  try simp only [HS] at h8
  refine ev ?_
  refine WO_guardY rfl rfl rfl rfl (lt_of rfl) ?_
  first | refine WO_idxT tys rfl rfl (lt_of rfl) rfl rfl rfl rfl rfl rfl rfl (by omega) _ (getT _ _ (by omega) (by omega)) ?_ | refine WO_idxS tys rfl rfl (lt_of rfl) rfl rfl rfl rfl rfl rfl rfl rfl (by omega) (by omega) ?_
  refine WO_guardY rfl rfl rfl rfl (lt_of rfl) ?_
  refine ev ?_
  refine WO_guardY rfl rfl rfl rfl (lt_of rfl) ?_
  first | refine ev ?_ | refine WO_loadL tys rfl rfl (lt_of rfl) rfl rfl rfl rfl (getT _ _ (by omega) (by omega)) rfl ?_ | refine WO_loadL tys rfl rfl (lt_of rfl) rfl rfl rfl rfl (getT0 _ _ (by omega) (by omega)) rfl ?_
  refine WO_guardY rfl rfl rfl rfl (lt_of rfl) ?_
  refine evE ?_
  refine WO_guardY rfl rfl rfl rfl (lt_of rfl) ?_
  refine ev ?_
  refine ev ?_
  refine WO_keep [2, 3, 5, 75] rfl ?_
  refine ev ?_
  refine WO_guard rfl rfl rfl rfl (lt_of rfl) (fun h9 => ?_) (fun h9 => ?_)
  rotate_left
  ·
    try simp only [HS] at h9
    refine WO_guardN rfl rfl rfl rfl rfl (lt_of rfl) ?_
    refine WO_guardN rfl rfl rfl rfl rfl (lt_of rfl) ?_
    refine WO_guardN rfl rfl rfl rfl rfl (lt_of rfl) ?_
    refine WO_guardN rfl rfl rfl rfl rfl (lt_of rfl) ?_
    refine WO_guardN rfl rfl rfl rfl rfl (lt_of rfl) ?_
    refine WO_guardN rfl rfl rfl rfl rfl (lt_of rfl) ?_
    refine WO_guardN rfl rfl rfl rfl rfl (lt_of rfl) ?_
    refine ev ?_
    refine WO_keep [2, 3, 85] rfl ?_
    refine ev ?_
    refine ev ?_
    refine WO_nil ?_
    refine thenQ_n ?_
    refine W_ret ?_
    refine Ends_of (.inr rfl) (ret_okF rfl) (by decide) rfl ?_
    · first
      | exact retBB (by rw [guarded, h1]; rfl) h1.symm
      | (simp only [funcAt_at] at hf0; (try simp only [stmtAt_at] at h3); (try simp only [stmtAt_at] at h4); (try simp only [stmtAt_at] at h5); (try simp only [stmtAt_at, op0_at] at h6)
         refine retBB ?_ h1.symm
         rw [guarded, h1, hf0]
         (try simp only [stmtAt_at, funcAt_at] at hf2); (try rw [hf2]); (try simp only [stmtAt_at] at h8); (try simp only [stmtAt_at] at h9); (try simp only [stmtAt_at, op0_at])
         simp [guard1, guard2, *]
         done)
  try simp only [HS] at h9
  refine ev ?_
  refine WO_guardY rfl rfl rfl rfl (lt_of rfl) ?_
  first | refine WO_idxT tys rfl rfl (lt_of rfl) rfl rfl rfl rfl rfl rfl rfl (by omega) _ (getT _ _ (by omega) (by omega)) ?_ | refine WO_idxS tys rfl rfl (lt_of rfl) rfl rfl rfl rfl rfl rfl rfl rfl (by omega) (by omega) ?_
  refine WO_guardY rfl rfl rfl rfl (lt_of rfl) ?_
  refine ev ?_
  refine WO_guardY rfl rfl rfl rfl (lt_of rfl) ?_
  first | refine ev ?_ | refine WO_loadL tys rfl rfl (lt_of rfl) rfl rfl rfl rfl (getT _ _ (by omega) (by omega)) rfl ?_ | refine WO_loadL tys rfl rfl (lt_of rfl) rfl rfl rfl rfl (getT0 _ _ (by omega) (by omega)) rfl ?_
  refine WO_guardY rfl rfl rfl rfl (lt_of rfl) ?_
  first | refine WO_idxT tys rfl rfl (lt_of rfl) rfl rfl rfl rfl rfl rfl rfl (by omega) _ (getT _ _ (by omega) (by omega)) ?_ | refine WO_idxS tys rfl rfl (lt_of rfl) rfl rfl rfl rfl rfl rfl rfl rfl (by omega) (by omega) ?_
  refine WO_guardY rfl rfl rfl rfl (lt_of rfl) ?_
  refine ev ?_
  refine WO_guardY rfl rfl rfl rfl (lt_of rfl) ?_
  first | refine ev ?_ | refine WO_loadL tys rfl rfl (lt_of rfl) rfl rfl rfl rfl (getT _ _ (by omega) (by omega)) rfl ?_ | refine WO_loadL tys rfl rfl (lt_of rfl) rfl rfl rfl rfl (getT0 _ _ (by omega) (by omega)) rfl ?_
  refine WO_guardY rfl rfl rfl rfl (lt_of rfl) ?_
  refine ev ?_
  refine WO_keep [2, 3, 76, 84] rfl ?_
  refine ev ?_
  refine ev ?_
  refine ev ?_
  refine WO_nil ?_
  refine thenQ_n ?_
  refine W_ret ?_
  refine Ends_of (.inr rfl) (ret_okF rfl) (by decide) rfl ?_
  · first
    | exact retBB (by rw [guarded, h1]; rfl) h1.symm
    | (simp only [funcAt_at] at hf0; (try simp only [stmtAt_at] at h3); (try simp only [stmtAt_at] at h4); (try simp only [stmtAt_at] at h5); (try simp only [stmtAt_at, op0_at] at h6)
       refine retBB ?_ h1.symm
       rw [guarded, h1, hf0]
       (try simp only [stmtAt_at, funcAt_at] at hf2); (try rw [hf2]); (try simp only [stmtAt_at] at h8); (try simp only [stmtAt_at] at h9); (try simp only [stmtAt_at, op0_at])
       simp [guard1, guard2, *]
       done)

theorem implGuarded_fun (p : Prog) (hp : p.ok 1048576) : Fun Try.prog 21 [.t p.tt] (tupD [.t (.bool (guarded p)), .t (.bool (goodP p))]) := by
  refine Fun.begin tys Try.func21 rfl rfl (N := 86) [(0, .t p.tt)] rfl rfl (fun w0 G F0 => ?_)
  refine W_seq ?_
  refine W_region ?_
  refine WO_box rfl rfl (lt_of rfl) rfl rfl ?_
  refine WO_norm rfl ?_
  refine ev ?_
  refine ev ?_
  refine WO_nil ?_
  refine thenQ_n ?_
  refine W_seq ?_
  refine W_seq ?_
  refine W_region ?_
  first | (refine ev ?_; try refine WO_le (Le.freeze (u := 6) rfl) ?_) | refine WO_loadMove tys rfl rfl (lt_of rfl) rfl rfl rfl rfl rfl rfl ?_
  refine WO_norm rfl ?_
  refine callB ?_
  refine ⟨_, isProg_fun p hp, rfl, ?_⟩
  refine ev ?_
  refine WO_nil ?_
  refine thenQ_n ?_
  refine W_cond rfl (fun h1 => ?_) (fun h1 => ?_)
  ·
    try simp only [HS] at h1
    refine W_seq ?_
    refine W_region ?_
    refine ev ?_
    refine ev ?_
    refine WO_nil ?_
    refine thenQ_n ?_
    refine W_ret ?_
    refine thenQ_r ?_
    refine Ends_of (.inr rfl) (ret_okF rfl) (by decide) rfl ?_
    · first
      | exact retBB (by rw [guarded, h1]; rfl) h1.symm
      | (simp only [funcAt_at] at hf0; (try simp only [stmtAt_at] at h3); (try simp only [stmtAt_at] at h4); (try simp only [stmtAt_at] at h5); (try simp only [stmtAt_at, op0_at] at h6)
         refine retBB ?_ h1.symm
         rw [guarded, h1, hf0]
         (try simp only [stmtAt_at, funcAt_at] at hf2); (try rw [hf2]); (try simp only [stmtAt_at] at h8); (try simp only [stmtAt_at] at h9); (try simp only [stmtAt_at, op0_at])
         simp [guard1, guard2, *]
         done)
  try simp only [HS] at h1
  refine W_skip ?_
  refine thenQ_n ?_
  refine W_seq ?_
  refine W_region ?_
  have hgl := goodP_len h1
  refine ev ?_
  refine ev ?_
  first | refine WO_idxT tys rfl rfl (lt_of rfl) rfl rfl rfl rfl rfl rfl rfl (by omega) _ (getT _ _ (by omega) (by omega)) ?_ | refine WO_idxS tys rfl rfl (lt_of rfl) rfl rfl rfl rfl rfl rfl rfl rfl (by omega) (by omega) ?_
  refine WO_keep [1, 2, 3, 11] rfl ?_
  refine ev ?_
  first | refine ev ?_ | refine WO_loadL tys rfl rfl (lt_of rfl) rfl rfl rfl rfl (getT _ _ (by omega) (by omega)) rfl ?_ | refine WO_loadL tys rfl rfl (lt_of rfl) rfl rfl rfl rfl (getT0 _ _ (by omega) (by omega)) rfl ?_
  refine ev ?_
  refine WO_nil ?_
  refine thenQ_n ?_
  refine W_seq ?_
  refine W_seq ?_
  refine W_region ?_
  generalize hf0 : p.funcs[(0 : Int).toNat]'(by omega) = f0
  refine ev ?_
  refine evE ?_
  refine ev ?_
  refine ev ?_
  refine WO_guard rfl rfl rfl rfl (lt_of rfl) (fun h2 => ?_) (fun h2 => ?_)
  rotate_left
  ·
    try simp only [HS] at h2
    refine WO_guardN rfl rfl rfl rfl rfl (lt_of rfl) ?_
    refine WO_guardN rfl rfl rfl rfl rfl (lt_of rfl) ?_
    refine WO_keep [1, 2, 3, 4, 17, 20] rfl ?_
    refine WO_guardN rfl rfl rfl rfl rfl (lt_of rfl) ?_
    refine WO_guardN rfl rfl rfl rfl rfl (lt_of rfl) ?_
    refine ev ?_
    refine ev ?_
    refine WO_guardN rfl rfl rfl rfl rfl (lt_of rfl) ?_
    refine WO_guardN rfl rfl rfl rfl rfl (lt_of rfl) ?_
    refine WO_guardN rfl rfl rfl rfl rfl (lt_of rfl) ?_
    refine WO_guardN rfl rfl rfl rfl rfl (lt_of rfl) ?_
    refine WO_guardN rfl rfl rfl rfl rfl (lt_of rfl) ?_
    refine WO_keep [1, 2, 3, 4, 24, 29] rfl ?_
    refine ev ?_
    refine ev ?_
    refine WO_guardN rfl rfl rfl rfl rfl (lt_of rfl) ?_
    refine WO_guardN rfl rfl rfl rfl rfl (lt_of rfl) ?_
    refine WO_guardN rfl rfl rfl rfl rfl (lt_of rfl) ?_
    refine WO_guardN rfl rfl rfl rfl rfl (lt_of rfl) ?_
    refine WO_guardN rfl rfl rfl rfl rfl (lt_of rfl) ?_
    refine WO_guardN rfl rfl rfl rfl rfl (lt_of rfl) ?_
    refine ev ?_
    refine WO_keep [1, 2, 3, 4, 38] rfl ?_
    refine ev ?_
    refine WO_guardN rfl rfl rfl rfl rfl (lt_of rfl) ?_
    refine WO_guardN rfl rfl rfl rfl rfl (lt_of rfl) ?_
    refine WO_guardN rfl rfl rfl rfl rfl (lt_of rfl) ?_
    refine WO_guardN rfl rfl rfl rfl rfl (lt_of rfl) ?_
    refine WO_guardN rfl rfl rfl rfl rfl (lt_of rfl) ?_
    refine WO_guardN rfl rfl rfl rfl rfl (lt_of rfl) ?_
    refine WO_guardN rfl rfl rfl rfl rfl (lt_of rfl) ?_
    refine WO_guardN rfl rfl rfl rfl rfl (lt_of rfl) ?_
    refine WO_keep [1, 2, 3, 4, 39, 47] rfl ?_
    refine ev ?_
    refine WO_nil ?_
    refine thenQ_n ?_
    refine W_condT rfl ?_
    refine W_seq ?_
    refine W_region ?_
    refine ev ?_
    refine ev ?_
    refine WO_nil ?_
    refine thenQ_n ?_
    refine W_ret ?_
    refine thenQ_r ?_
    refine Ends_of (.inr rfl) (ret_okF rfl) (by decide) rfl ?_
    · first
      | exact retBB (by rw [guarded, h1]; rfl) h1.symm
      | (simp only [funcAt_at] at hf0; (try simp only [stmtAt_at] at h3); (try simp only [stmtAt_at] at h4); (try simp only [stmtAt_at] at h5); (try simp only [stmtAt_at, op0_at] at h6)
         refine retBB ?_ h1.symm
         rw [guarded, h1, hf0]
         (try simp only [stmtAt_at, funcAt_at] at hf2); (try rw [hf2]); (try simp only [stmtAt_at] at h8); (try simp only [stmtAt_at] at h9); (try simp only [stmtAt_at, op0_at])
         simp [guard1, guard2, *]
         done)
  try simp only [HS] at h2
  refine ev ?_
  refine WO_guardY rfl rfl rfl rfl (lt_of rfl) ?_
  first | refine WO_idxT tys rfl rfl (lt_of rfl) rfl rfl rfl rfl rfl rfl rfl (by omega) _ (getT _ _ (by omega) (by omega)) ?_ | refine WO_idxS tys rfl rfl (lt_of rfl) rfl rfl rfl rfl rfl rfl rfl rfl (by omega) (by omega) ?_
  refine WO_keep [1, 2, 3, 4, 17, 19] rfl ?_
  refine WO_guardY rfl rfl rfl rfl (lt_of rfl) ?_
  refine ev ?_
  refine WO_guardY rfl rfl rfl rfl (lt_of rfl) ?_
  first | refine ev ?_ | refine WO_loadL tys rfl rfl (lt_of rfl) rfl rfl rfl rfl (getT _ _ (by omega) (by omega)) rfl ?_ | refine WO_loadL tys rfl rfl (lt_of rfl) rfl rfl rfl rfl (getT0 _ _ (by omega) (by omega)) rfl ?_
  refine WO_guardY rfl rfl rfl rfl (lt_of rfl) ?_
  refine ev ?_
  refine ev ?_
  refine ev ?_
  refine WO_guard rfl rfl rfl rfl (lt_of rfl) (fun h3 => ?_) (fun h3 => ?_)
  rotate_left
  ·
    try simp only [HS] at h3
    refine WO_guardN rfl rfl rfl rfl rfl (lt_of rfl) ?_
    refine WO_guardN rfl rfl rfl rfl rfl (lt_of rfl) ?_
    refine WO_guardN rfl rfl rfl rfl rfl (lt_of rfl) ?_
    refine WO_guardN rfl rfl rfl rfl rfl (lt_of rfl) ?_
    refine WO_keep [1, 2, 3, 4, 24, 29] rfl ?_
    refine ev ?_
    refine ev ?_
    refine WO_guardN rfl rfl rfl rfl rfl (lt_of rfl) ?_
    refine WO_guardN rfl rfl rfl rfl rfl (lt_of rfl) ?_
    refine WO_guardN rfl rfl rfl rfl rfl (lt_of rfl) ?_
    refine WO_guardN rfl rfl rfl rfl rfl (lt_of rfl) ?_
    refine WO_guardN rfl rfl rfl rfl rfl (lt_of rfl) ?_
    refine WO_guardN rfl rfl rfl rfl rfl (lt_of rfl) ?_
    refine ev ?_
    refine WO_keep [1, 2, 3, 4, 38] rfl ?_
    refine ev ?_
    refine WO_guardN rfl rfl rfl rfl rfl (lt_of rfl) ?_
    refine WO_guardN rfl rfl rfl rfl rfl (lt_of rfl) ?_
    refine WO_guardN rfl rfl rfl rfl rfl (lt_of rfl) ?_
    refine WO_guardN rfl rfl rfl rfl rfl (lt_of rfl) ?_
    refine WO_guardN rfl rfl rfl rfl rfl (lt_of rfl) ?_
    refine WO_guardN rfl rfl rfl rfl rfl (lt_of rfl) ?_
    refine WO_guardN rfl rfl rfl rfl rfl (lt_of rfl) ?_
    refine WO_guardN rfl rfl rfl rfl rfl (lt_of rfl) ?_
    refine WO_keep [1, 2, 3, 4, 39, 47] rfl ?_
    refine ev ?_
    refine WO_nil ?_
    refine thenQ_n ?_
    refine W_condT rfl ?_
    refine W_seq ?_
    refine W_region ?_
    refine ev ?_
    refine ev ?_
    refine WO_nil ?_
    refine thenQ_n ?_
    refine W_ret ?_
    refine thenQ_r ?_
    refine Ends_of (.inr rfl) (ret_okF rfl) (by decide) rfl ?_
    · first
      | exact retBB (by rw [guarded, h1]; rfl) h1.symm
      | (simp only [funcAt_at] at hf0; (try simp only [stmtAt_at] at h3); (try simp only [stmtAt_at] at h4); (try simp only [stmtAt_at] at h5); (try simp only [stmtAt_at, op0_at] at h6)
         refine retBB ?_ h1.symm
         rw [guarded, h1, hf0]
         (try simp only [stmtAt_at, funcAt_at] at hf2); (try rw [hf2]); (try simp only [stmtAt_at] at h8); (try simp only [stmtAt_at] at h9); (try simp only [stmtAt_at, op0_at])
         simp [guard1, guard2, *]
         done)
  try simp only [HS] at h3
  refine ev ?_
  refine WO_guardY rfl rfl rfl rfl (lt_of rfl) ?_
  first | refine WO_idxT tys rfl rfl (lt_of rfl) rfl rfl rfl rfl rfl rfl rfl (by omega) _ (getT _ _ (by omega) (by omega)) ?_ | refine WO_idxS tys rfl rfl (lt_of rfl) rfl rfl rfl rfl rfl rfl rfl rfl (by omega) (by omega) ?_
  refine WO_guardY rfl rfl rfl rfl (lt_of rfl) ?_
  refine ev ?_
  refine WO_guardY rfl rfl rfl rfl (lt_of rfl) ?_
  first | refine ev ?_ | refine WO_loadL tys rfl rfl (lt_of rfl) rfl rfl rfl rfl (getT _ _ (by omega) (by omega)) rfl ?_ | refine WO_loadL tys rfl rfl (lt_of rfl) rfl rfl rfl rfl (getT0 _ _ (by omega) (by omega)) rfl ?_
  refine WO_keep [1, 2, 3, 4, 24, 28] rfl ?_
  refine WO_guardY rfl rfl rfl rfl (lt_of rfl) ?_
  refine ev ?_
  refine ev ?_
  refine ev ?_
  refine WO_guard rfl rfl rfl rfl (lt_of rfl) (fun h4 => ?_) (fun h4 => ?_)
  rotate_left
  ·
    try simp only [HS] at h4
    refine WO_guardN rfl rfl rfl rfl rfl (lt_of rfl) ?_
    refine WO_guardN rfl rfl rfl rfl rfl (lt_of rfl) ?_
    refine WO_guardN rfl rfl rfl rfl rfl (lt_of rfl) ?_
    refine WO_guardN rfl rfl rfl rfl rfl (lt_of rfl) ?_
    refine WO_guardN rfl rfl rfl rfl rfl (lt_of rfl) ?_
    refine ev ?_
    refine WO_keep [1, 2, 3, 4, 38] rfl ?_
    refine ev ?_
    refine WO_guardN rfl rfl rfl rfl rfl (lt_of rfl) ?_
    refine WO_guardN rfl rfl rfl rfl rfl (lt_of rfl) ?_
    refine WO_guardN rfl rfl rfl rfl rfl (lt_of rfl) ?_
    refine WO_guardN rfl rfl rfl rfl rfl (lt_of rfl) ?_
    refine WO_guardN rfl rfl rfl rfl rfl (lt_of rfl) ?_
    refine WO_guardN rfl rfl rfl rfl rfl (lt_of rfl) ?_
    refine WO_guardN rfl rfl rfl rfl rfl (lt_of rfl) ?_
    refine WO_guardN rfl rfl rfl rfl rfl (lt_of rfl) ?_
    refine WO_keep [1, 2, 3, 4, 39, 47] rfl ?_
    refine ev ?_
    refine WO_nil ?_
    refine thenQ_n ?_
    refine W_condT rfl ?_
    refine W_seq ?_
    refine W_region ?_
    refine ev ?_
    refine ev ?_
    refine WO_nil ?_
    refine thenQ_n ?_
    refine W_ret ?_
    refine thenQ_r ?_
    refine Ends_of (.inr rfl) (ret_okF rfl) (by decide) rfl ?_
    · first
      | exact retBB (by rw [guarded, h1]; rfl) h1.symm
      | (simp only [funcAt_at] at hf0; (try simp only [stmtAt_at] at h3); (try simp only [stmtAt_at] at h4); (try simp only [stmtAt_at] at h5); (try simp only [stmtAt_at, op0_at] at h6)
         refine retBB ?_ h1.symm
         rw [guarded, h1, hf0]
         (try simp only [stmtAt_at, funcAt_at] at hf2); (try rw [hf2]); (try simp only [stmtAt_at] at h8); (try simp only [stmtAt_at] at h9); (try simp only [stmtAt_at, op0_at])
         simp [guard1, guard2, *]
         done)
  try simp only [HS] at h4
  refine ev ?_
  refine WO_guardY rfl rfl rfl rfl (lt_of rfl) ?_
  first | refine WO_idxT tys rfl rfl (lt_of rfl) rfl rfl rfl rfl rfl rfl rfl (by omega) _ (getT _ _ (by omega) (by omega)) ?_ | refine WO_idxS tys rfl rfl (lt_of rfl) rfl rfl rfl rfl rfl rfl rfl rfl (by omega) (by omega) ?_
  refine WO_guardY rfl rfl rfl rfl (lt_of rfl) ?_
  refine ev ?_
  refine WO_guardY rfl rfl rfl rfl (lt_of rfl) ?_
  first | refine ev ?_ | refine WO_loadL tys rfl rfl (lt_of rfl) rfl rfl rfl rfl (getT _ _ (by omega) (by omega)) rfl ?_ | refine WO_loadL tys rfl rfl (lt_of rfl) rfl rfl rfl rfl (getT0 _ _ (by omega) (by omega)) rfl ?_
  refine WO_guardY rfl rfl rfl rfl (lt_of rfl) ?_
  refine evE ?_
  refine WO_guardY rfl rfl rfl rfl (lt_of rfl) ?_
  refine ev ?_
  refine WO_keep [1, 2, 3, 4, 31, 37] rfl ?_
  refine ev ?_
  refine ev ?_
  refine WO_guard rfl rfl rfl rfl (lt_of rfl) (fun h5 => ?_) (fun h5 => ?_)
  rotate_left
  ·
    try simp only [HS] at h5
    refine WO_guardN rfl rfl rfl rfl rfl (lt_of rfl) ?_
    refine WO_guardN rfl rfl rfl rfl rfl (lt_of rfl) ?_
    refine WO_guardN rfl rfl rfl rfl rfl (lt_of rfl) ?_
    refine WO_guardN rfl rfl rfl rfl rfl (lt_of rfl) ?_
    refine WO_guardN rfl rfl rfl rfl rfl (lt_of rfl) ?_
    refine WO_guardN rfl rfl rfl rfl rfl (lt_of rfl) ?_
    refine WO_guardN rfl rfl rfl rfl rfl (lt_of rfl) ?_
    refine WO_keep [1, 2, 3, 4, 39, 47] rfl ?_
    refine ev ?_
    refine WO_nil ?_
    refine thenQ_n ?_
    refine W_condT rfl ?_
    refine W_seq ?_
    refine W_region ?_
    refine ev ?_
    refine ev ?_
    refine WO_nil ?_
    refine thenQ_n ?_
    refine W_ret ?_
    refine thenQ_r ?_
    refine Ends_of (.inr rfl) (ret_okF rfl) (by decide) rfl ?_
    · first
      | exact retBB (by rw [guarded, h1]; rfl) h1.symm
      | (simp only [funcAt_at] at hf0; (try simp only [stmtAt_at] at h3); (try simp only [stmtAt_at] at h4); (try simp only [stmtAt_at] at h5); (try simp only [stmtAt_at, op0_at] at h6)
         refine retBB ?_ h1.symm
         rw [guarded, h1, hf0]
         (try simp only [stmtAt_at, funcAt_at] at hf2); (try rw [hf2]); (try simp only [stmtAt_at] at h8); (try simp only [stmtAt_at] at h9); (try simp only [stmtAt_at, op0_at])
         simp [guard1, guard2, *]
         done)
  try simp only [HS] at h5
  refine ev ?_
  refine WO_guardY rfl rfl rfl rfl (lt_of rfl) ?_
  first | refine WO_idxT tys rfl rfl (lt_of rfl) rfl rfl rfl rfl rfl rfl rfl (by omega) _ (getT _ _ (by omega) (by omega)) ?_ | refine WO_idxS tys rfl rfl (lt_of rfl) rfl rfl rfl rfl rfl rfl rfl rfl (by omega) (by omega) ?_
  refine WO_guardY rfl rfl rfl rfl (lt_of rfl) ?_
  refine ev ?_
  refine WO_guardY rfl rfl rfl rfl (lt_of rfl) ?_
  first | refine ev ?_ | refine WO_loadL tys rfl rfl (lt_of rfl) rfl rfl rfl rfl (getT _ _ (by omega) (by omega)) rfl ?_ | refine WO_loadL tys rfl rfl (lt_of rfl) rfl rfl rfl rfl (getT0 _ _ (by omega) (by omega)) rfl ?_
  refine WO_guardY rfl rfl rfl rfl (lt_of rfl) ?_
  first | refine WO_idxT tys rfl rfl (lt_of rfl) rfl rfl rfl rfl rfl rfl rfl (by omega) _ (getT _ _ (by omega) (by omega)) ?_ | refine WO_idxS tys rfl rfl (lt_of rfl) rfl rfl rfl rfl rfl rfl rfl rfl (by omega) (by omega) ?_
  refine WO_guardY rfl rfl rfl rfl (lt_of rfl) ?_
  refine ev ?_
  refine WO_guardY rfl rfl rfl rfl (lt_of rfl) ?_
  first | refine ev ?_ | refine WO_loadL tys rfl rfl (lt_of rfl) rfl rfl rfl rfl (getT _ _ (by omega) (by omega)) rfl ?_ | refine WO_loadL tys rfl rfl (lt_of rfl) rfl rfl rfl rfl (getT0 _ _ (by omega) (by omega)) rfl ?_
  refine WO_keep [1, 2, 3, 4, 39, 46] rfl ?_
  refine WO_guardY rfl rfl rfl rfl (lt_of rfl) ?_
  refine ev ?_
  refine ev ?_
  refine WO_nil ?_
  refine thenQ_n ?_
  refine W_cond rfl (fun h6 => ?_) (fun h6 => ?_)
  ·
    try simp only [HS] at h6
    refine W_seq ?_
    refine W_region ?_
    refine ev ?_
    refine ev ?_
    refine WO_nil ?_
    refine thenQ_n ?_
    refine W_ret ?_
    refine thenQ_r ?_
    refine Ends_of (.inr rfl) (ret_okF rfl) (by decide) rfl ?_
    · first
      | exact retBB (by rw [guarded, h1]; rfl) h1.symm
      | (simp only [funcAt_at] at hf0; (try simp only [stmtAt_at] at h3); (try simp only [stmtAt_at] at h4); (try simp only [stmtAt_at] at h5); (try simp only [stmtAt_at, op0_at] at h6)
         refine retBB ?_ h1.symm
         rw [guarded, h1, hf0]
         (try simp only [stmtAt_at, funcAt_at] at hf2); (try rw [hf2]); (try simp only [stmtAt_at] at h8); (try simp only [stmtAt_at] at h9); (try simp only [stmtAt_at, op0_at])
         simp [guard1, guard2, *]
         done)
  try simp only [HS] at h6
  refine W_skip ?_
  refine thenQ_n ?_
  refine W_seq ?_
  refine W_regionD mixed (by kernel_rfl) ?_
  have hgf : goodF (paramsL p) f0 = true := by rw [← hf0]; exact goodP_fn h1 _
  have hn := stmtG_def (goodF_at hgf (n := (0 : Int).toNat) (by omega)) h3
  rw [paramsL_len] at hn
  refine evQ ?_
  refine evQ ?_
  refine evQ ?_
  first | refine QL_idxT tys rfl rfl (lt_of rfl) rfl rfl rfl rfl rfl rfl rfl (by omega) _ (getT _ _ (by omega) (by omega)) ?_ | refine QL_idxS tys rfl rfl (lt_of rfl) rfl rfl rfl rfl rfl rfl rfl rfl (by omega) (by omega) ?_
  refine QL_norm rfl ?_
  refine evQ ?_
  first | refine evQ ?_ | refine QL_loadL tys rfl rfl (lt_of rfl) rfl rfl rfl rfl (getT _ _ (by omega) (by omega)) rfl ?_ | refine QL_loadL tys rfl rfl (lt_of rfl) rfl rfl rfl rfl (getT0 _ _ (by omega) (by omega)) rfl ?_
  first | refine QL_idxT tys rfl rfl (lt_of rfl) rfl rfl rfl rfl rfl rfl rfl (by omega) _ (getT _ _ (by omega) (by omega)) ?_ | refine QL_idxS tys rfl rfl (lt_of rfl) rfl rfl rfl rfl rfl rfl rfl rfl (by omega) (by omega) ?_
  refine evQ ?_
  first | refine evQ ?_ | refine QL_loadL tys rfl rfl (lt_of rfl) rfl rfl rfl rfl (getT _ _ (by omega) (by omega)) rfl ?_ | refine QL_loadL tys rfl rfl (lt_of rfl) rfl rfl rfl rfl (getT0 _ _ (by omega) (by omega)) rfl ?_
  refine evQ ?_
  refine QL_norm rfl ?_
  refine QL_nil ?_
  refine thenQ_n ?_
  refine W_seq ?_
  refine W_region ?_
  generalize hf2 : p.funcs[((f0.stmts[(0 : Int).toNat]'(by omega)).n).toNat]'(by omega) = f2
  refine ev ?_
  refine evE ?_
  refine ev ?_
  refine ev ?_
  refine WO_guard rfl rfl rfl rfl (lt_of rfl) (fun h7 => ?_) (fun h7 => ?_)
  rotate_left
  ·
    try simp only [HS] at h7
    refine WO_guardN rfl rfl rfl rfl rfl (lt_of rfl) ?_
    refine WO_guardN rfl rfl rfl rfl rfl (lt_of rfl) ?_
    refine WO_guardN rfl rfl rfl rfl rfl (lt_of rfl) ?_
    refine WO_guardN rfl rfl rfl rfl rfl (lt_of rfl) ?_
    refine ev ?_
    refine WO_keep [2, 3, 5, 67] rfl ?_
    refine ev ?_
    refine WO_guardN rfl rfl rfl rfl rfl (lt_of rfl) ?_
    refine WO_guardN rfl rfl rfl rfl rfl (lt_of rfl) ?_
    refine WO_guardN rfl rfl rfl rfl rfl (lt_of rfl) ?_
    refine WO_guardN rfl rfl rfl rfl rfl (lt_of rfl) ?_
    refine WO_guardN rfl rfl rfl rfl rfl (lt_of rfl) ?_
    refine WO_guardN rfl rfl rfl rfl rfl (lt_of rfl) ?_
    refine ev ?_
    refine ev ?_
    refine WO_keep [2, 3, 5, 76] rfl ?_
    refine WO_guardN rfl rfl rfl rfl rfl (lt_of rfl) ?_
    refine WO_guardN rfl rfl rfl rfl rfl (lt_of rfl) ?_
    refine WO_guardN rfl rfl rfl rfl rfl (lt_of rfl) ?_
    refine WO_guardN rfl rfl rfl rfl rfl (lt_of rfl) ?_
    refine WO_guardN rfl rfl rfl rfl rfl (lt_of rfl) ?_
    refine WO_guardN rfl rfl rfl rfl rfl (lt_of rfl) ?_
    refine WO_guardN rfl rfl rfl rfl rfl (lt_of rfl) ?_
    refine WO_guardN rfl rfl rfl rfl rfl (lt_of rfl) ?_
    refine ev ?_
    refine WO_keep [2, 3, 85] rfl ?_
    refine ev ?_
    refine ev ?_
    refine WO_nil ?_
    refine thenQ_n ?_
    refine W_ret ?_
    refine Ends_of (.inr rfl) (ret_okF rfl) (by decide) rfl ?_
    · first
      | exact retBB (by rw [guarded, h1]; rfl) h1.symm
      | (simp only [funcAt_at] at hf0; (try simp only [stmtAt_at] at h3); (try simp only [stmtAt_at] at h4); (try simp only [stmtAt_at] at h5); (try simp only [stmtAt_at, op0_at] at h6)
         refine retBB ?_ h1.symm
         rw [guarded, h1, hf0]
         (try simp only [stmtAt_at, funcAt_at] at hf2); (try rw [hf2]); (try simp only [stmtAt_at] at h8); (try simp only [stmtAt_at] at h9); (try simp only [stmtAt_at, op0_at])
         simp [guard1, guard2, *]
         done)
  try simp only [HS] at h7
  refine ev ?_
  refine WO_guardY rfl rfl rfl rfl (lt_of rfl) ?_
  first | refine WO_idxT tys rfl rfl (lt_of rfl) rfl rfl rfl rfl rfl rfl rfl (by omega) _ (getT _ _ (by omega) (by omega)) ?_ | refine WO_idxS tys rfl rfl (lt_of rfl) rfl rfl rfl rfl rfl rfl rfl rfl (by omega) (by omega) ?_
  refine WO_guardY rfl rfl rfl rfl (lt_of rfl) ?_
  refine ev ?_
  refine WO_guardY rfl rfl rfl rfl (lt_of rfl) ?_
  first | refine ev ?_ | refine WO_loadL tys rfl rfl (lt_of rfl) rfl rfl rfl rfl (getT _ _ (by omega) (by omega)) rfl ?_ | refine WO_loadL tys rfl rfl (lt_of rfl) rfl rfl rfl rfl (getT0 _ _ (by omega) (by omega)) rfl ?_
  refine WO_guardY rfl rfl rfl rfl (lt_of rfl) ?_
  refine ev ?_
  refine WO_keep [2, 3, 5, 61, 66] rfl ?_
  refine ev ?_
  refine ev ?_
  refine WO_guard rfl rfl rfl rfl (lt_of rfl) (fun h8 => ?_) (fun h8 => ?_)
  rotate_left
  ·
    try simp only [HS] at h8
    refine WO_guardN rfl rfl rfl rfl rfl (lt_of rfl) ?_
    refine WO_guardN rfl rfl rfl rfl rfl (lt_of rfl) ?_
    refine WO_guardN rfl rfl rfl rfl rfl (lt_of rfl) ?_
    refine WO_guardN rfl rfl rfl rfl rfl (lt_of rfl) ?_
    refine WO_guardN rfl rfl rfl rfl rfl (lt_of rfl) ?_
    refine ev ?_
    refine ev ?_
    refine WO_keep [2, 3, 5, 76] rfl ?_
    refine WO_guardN rfl rfl rfl rfl rfl (lt_of rfl) ?_
    refine WO_guardN rfl rfl rfl rfl rfl (lt_of rfl) ?_
    refine WO_guardN rfl rfl rfl rfl rfl (lt_of rfl) ?_
    refine WO_guardN rfl rfl rfl rfl rfl (lt_of rfl) ?_
    refine WO_guardN rfl rfl rfl rfl rfl (lt_of rfl) ?_
    refine WO_guardN rfl rfl rfl rfl rfl (lt_of rfl) ?_
    refine WO_guardN rfl rfl rfl rfl rfl (lt_of rfl) ?_
    refine WO_guardN rfl rfl rfl rfl rfl (lt_of rfl) ?_
    refine ev ?_
    refine WO_keep [2, 3, 85] rfl ?_
    refine ev ?_
    refine ev ?_
    refine WO_nil ?_
    refine thenQ_n ?_
    refine W_ret ?_
    refine Ends_of (.inr rfl) (ret_okF rfl) (by decide) rfl ?_
    · first
      | exact retBB (by rw [guarded, h1]; rfl) h1.symm
      | (simp only [funcAt_at] at hf0; (try simp only [stmtAt_at] at h3); (try simp only [stmtAt_at] at h4); (try simp only [stmtAt_at] at h5); (try simp only [stmtAt_at, op0_at] at h6)
         refine retBB ?_ h1.symm
         rw [guarded, h1, hf0]
         (try simp only [stmtAt_at, funcAt_at] at hf2); (try rw [hf2]); (try simp only [stmtAt_at] at h8); (try simp only [stmtAt_at] at h9); (try simp only [stmtAt_at, op0_at])
         simp [guard1, guard2, *]
         done)
  try simp only [HS] at h8
  refine ev ?_
  refine WO_guardY rfl rfl rfl rfl (lt_of rfl) ?_
  first | refine WO_idxT tys rfl rfl (lt_of rfl) rfl rfl rfl rfl rfl rfl rfl (by omega) _ (getT _ _ (by omega) (by omega)) ?_ | refine WO_idxS tys rfl rfl (lt_of rfl) rfl rfl rfl rfl rfl rfl rfl rfl (by omega) (by omega) ?_
  refine WO_guardY rfl rfl rfl rfl (lt_of rfl) ?_
  refine ev ?_
  refine WO_guardY rfl rfl rfl rfl (lt_of rfl) ?_
  first | refine ev ?_ | refine WO_loadL tys rfl rfl (lt_of rfl) rfl rfl rfl rfl (getT _ _ (by omega) (by omega)) rfl ?_ | refine WO_loadL tys rfl rfl (lt_of rfl) rfl rfl rfl rfl (getT0 _ _ (by omega) (by omega)) rfl ?_
  refine WO_guardY rfl rfl rfl rfl (lt_of rfl) ?_
  refine evE ?_
  refine WO_guardY rfl rfl rfl rfl (lt_of rfl) ?_
  refine ev ?_
  refine ev ?_
  refine WO_keep [2, 3, 5, 75] rfl ?_
  refine ev ?_
  refine WO_guard rfl rfl rfl rfl (lt_of rfl) (fun h9 => ?_) (fun h9 => ?_)
  rotate_left
  ·
    try simp only [HS] at h9
    refine WO_guardN rfl rfl rfl rfl rfl (lt_of rfl) ?_
    refine WO_guardN rfl rfl rfl rfl rfl (lt_of rfl) ?_
    refine WO_guardN rfl rfl rfl rfl rfl (lt_of rfl) ?_
    refine WO_guardN rfl rfl rfl rfl rfl (lt_of rfl) ?_
    refine WO_guardN rfl rfl rfl rfl rfl (lt_of rfl) ?_
    refine WO_guardN rfl rfl rfl rfl rfl (lt_of rfl) ?_
    refine WO_guardN rfl rfl rfl rfl rfl (lt_of rfl) ?_
    refine ev ?_
    refine WO_keep [2, 3, 85] rfl ?_
    refine ev ?_
    refine ev ?_
    refine WO_nil ?_
    refine thenQ_n ?_
    refine W_ret ?_
    refine Ends_of (.inr rfl) (ret_okF rfl) (by decide) rfl ?_
    · first
      | exact retBB (by rw [guarded, h1]; rfl) h1.symm
      | (simp only [funcAt_at] at hf0; (try simp only [stmtAt_at] at h3); (try simp only [stmtAt_at] at h4); (try simp only [stmtAt_at] at h5); (try simp only [stmtAt_at, op0_at] at h6)
         refine retBB ?_ h1.symm
         rw [guarded, h1, hf0]
         (try simp only [stmtAt_at, funcAt_at] at hf2); (try rw [hf2]); (try simp only [stmtAt_at] at h8); (try simp only [stmtAt_at] at h9); (try simp only [stmtAt_at, op0_at])
         simp [guard1, guard2, *]
         done)
  try simp only [HS] at h9
  refine ev ?_
  refine WO_guardY rfl rfl rfl rfl (lt_of rfl) ?_
  first | refine WO_idxT tys rfl rfl (lt_of rfl) rfl rfl rfl rfl rfl rfl rfl (by omega) _ (getT _ _ (by omega) (by omega)) ?_ | refine WO_idxS tys rfl rfl (lt_of rfl) rfl rfl rfl rfl rfl rfl rfl rfl (by omega) (by omega) ?_
  refine WO_guardY rfl rfl rfl rfl (lt_of rfl) ?_
  refine ev ?_
  refine WO_guardY rfl rfl rfl rfl (lt_of rfl) ?_
  first | refine ev ?_ | refine WO_loadL tys rfl rfl (lt_of rfl) rfl rfl rfl rfl (getT _ _ (by omega) (by omega)) rfl ?_ | refine WO_loadL tys rfl rfl (lt_of rfl) rfl rfl rfl rfl (getT0 _ _ (by omega) (by omega)) rfl ?_
  refine WO_guardY rfl rfl rfl rfl (lt_of rfl) ?_
  first | refine WO_idxT tys rfl rfl (lt_of rfl) rfl rfl rfl rfl rfl rfl rfl (by omega) _ (getT _ _ (by omega) (by omega)) ?_ | refine WO_idxS tys rfl rfl (lt_of rfl) rfl rfl rfl rfl rfl rfl rfl rfl (by omega) (by omega) ?_
  refine WO_guardY rfl rfl rfl rfl (lt_of rfl) ?_
  refine ev ?_
  refine WO_guardY rfl rfl rfl rfl (lt_of rfl) ?_
  first | refine ev ?_ | refine WO_loadL tys rfl rfl (lt_of rfl) rfl rfl rfl rfl (getT _ _ (by omega) (by omega)) rfl ?_ | refine WO_loadL tys rfl rfl (lt_of rfl) rfl rfl rfl rfl (getT0 _ _ (by omega) (by omega)) rfl ?_
  refine WO_guardY rfl rfl rfl rfl (lt_of rfl) ?_
  refine ev ?_
  refine WO_keep [2, 3, 76, 84] rfl ?_
  refine ev ?_
  refine ev ?_
  refine ev ?_
  refine WO_nil ?_
  refine thenQ_n ?_
  refine W_ret ?_
  refine Ends_of (.inr rfl) (ret_okF rfl) (by decide) rfl ?_
  · first
    | exact retBB (by rw [guarded, h1]; rfl) h1.symm
    | (simp only [funcAt_at] at hf0; (try simp only [stmtAt_at] at h3); (try simp only [stmtAt_at] at h4); (try simp only [stmtAt_at] at h5); (try simp only [stmtAt_at, op0_at] at h6)
       refine retBB ?_ h1.symm
       rw [guarded, h1, hf0]
       (try simp only [stmtAt_at, funcAt_at] at hf2); (try rw [hf2]); (try simp only [stmtAt_at] at h8); (try simp only [stmtAt_at] at h9); (try simp only [stmtAt_at, op0_at])
       simp [guard1, guard2, *]
       done)

theorem lawMany_fun (p : Prog) (hp : p.ok 9223372036854775807) : Fun Try.prog 3 [.t p.tt] (tupD [.t (.bool true)]) := by
  refine Fun.begin tys Try.func3 rfl rfl (N := 40) [(0, .t p.tt)] rfl rfl (fun w0 G F0 => ?_)
  refine W_seq ?_
  refine W_region ?_
  refine WO_box rfl rfl (lt_of rfl) rfl rfl ?_
  refine WO_norm rfl ?_
  refine ev ?_
  refine WO_nil ?_
  refine thenQ_n ?_
  refine W_seq ?_
  refine W_region ?_
  refine ev ?_
  refine WO_nil ?_
  refine thenQ_n ?_
  refine W_seq ?_
  refine W_region ?_
  first | (refine ev ?_; try refine WO_le (Le.freeze (u := 9) rfl) ?_) | refine WO_loadMove tys rfl rfl (lt_of rfl) rfl rfl rfl rfl rfl rfl ?_
  refine WO_norm rfl ?_
  refine ev ?_
  refine callB ?_
  refine ⟨_, szProg_fun p 1048576 hp (by omega) (by omega), rfl, ?_⟩
  refine ev ?_
  refine WO_nil ?_
  refine thenQ_n ?_
  refine W_seq ?_
  refine W_seq ?_
  refine W_keep [1, 2, 3] rfl ?_
  refine W_region ?_
  refine ev ?_
  refine ev ?_
  refine WO_nil ?_
  refine thenQ_n ?_
  refine W_cond rfl (fun h1 => ?_) (fun h1 => ?_)
  ·
    try simp only [HS] at h1
    refine W_seq ?_
    refine W_region ?_
    refine ev ?_
    refine WO_nil ?_
    refine thenQ_n ?_
    refine W_ret ?_
    refine thenQ_r ?_
    refine Ends_of (.inr rfl) (ret_okF rfl) (by decide) rfl ?_
    · rfl
  try simp only [HS] at h1
  refine W_skip ?_
  refine thenQ_n ?_
  refine W_seq ?_
  refine W_region ?_
  first | (refine ev ?_; try refine WO_le (Le.freeze (u := 15) rfl) ?_) | refine WO_loadMove tys rfl rfl (lt_of rfl) rfl rfl rfl rfl rfl rfl ?_
  refine WO_norm rfl ?_
  refine callB ?_
  refine ⟨_, toProg_fun p (Prog.small h1), rfl, ?_⟩
  refine WO_le (Le.freeze (u := 16) rfl) ?_
  refine WO_norm rfl ?_
  refine callB ?_
  refine ⟨_, specMany_fun p (Prog.small h1), rfl, ?_⟩
  refine ev ?_
  first | refine WO_evF tys rfl rfl (lt_of rfl) (d := .t _) rfl ?_ | (refine WO_extract rfl rfl (lt_of rfl) rfl rfl rfl rfl ?_; first | refine WO_le (Le.adoptE (u := 18) 18 rfl (by first | exact lenN | exact rfl)) ?_ | skip)
  refine WO_norm rfl ?_
  first | refine WO_evF tys rfl rfl (lt_of rfl) (d := .t _) rfl ?_ | (refine WO_extract rfl rfl (lt_of rfl) rfl rfl rfl rfl ?_; first | refine WO_le (Le.adoptE (u := 19) 19 rfl (by first | exact lenN | exact rfl)) ?_ | skip)
  refine WO_norm rfl ?_
  refine ev ?_
  refine WO_keep [1, 2, 4, 19] rfl ?_
  refine ev ?_
  refine WO_nil ?_
  refine thenQ_n ?_
  refine W_seq ?_
  refine W_region ?_
  first | (refine ev ?_; try refine WO_le (Le.freeze (u := 20) rfl) ?_) | refine WO_loadMove tys rfl rfl (lt_of rfl) rfl rfl rfl rfl rfl rfl ?_
  refine WO_norm rfl ?_
  refine callB ?_
  refine ⟨_, toProg_fun p (Prog.small h1), rfl, ?_⟩
  refine WO_le (Le.freeze (u := 21) rfl) ?_
  refine WO_norm rfl ?_
  refine WO_alloc tys rfl rfl (lt_of rfl) rfl rfl rfl ?_
  refine WO_norm rfl ?_
  refine WO_store tys rfl rfl rfl rfl rfl rfl rfl rfl (lt_of rfl) ?_
  refine WO_norm rfl ?_
  refine WO_nil ?_
  refine thenQ_n ?_
  refine W_seq ?_
  refine W_region ?_
  first | (refine ev ?_; try refine WO_le (Le.freeze (u := 23) rfl) ?_) | refine WO_loadMove tys rfl rfl (lt_of rfl) rfl rfl rfl rfl rfl rfl ?_
  refine WO_norm rfl ?_
  refine callB ?_
  refine ⟨_, implMany_fun p (Prog.small h1), rfl, ?_⟩
  refine ev ?_
  first | refine WO_evF tys rfl rfl (lt_of rfl) (d := .t _) rfl ?_ | (refine WO_extract rfl rfl (lt_of rfl) rfl rfl rfl rfl ?_; first | refine WO_le (Le.adoptE (u := 25) 25 rfl (by first | exact lenN | exact rfl)) ?_ | skip)
  refine WO_norm rfl ?_
  refine WO_keep [1, 2, 4, 5, 6, 22, 25] rfl ?_
  first | refine WO_evF tys rfl rfl (lt_of rfl) (d := .t _) rfl ?_ | (refine WO_extract rfl rfl (lt_of rfl) rfl rfl rfl rfl ?_; first | refine WO_le (Le.adoptE (u := 26) 26 rfl (by first | exact lenN | exact rfl)) ?_ | skip)
  refine WO_norm rfl ?_
  refine ev ?_
  refine ev ?_
  refine WO_nil ?_
  refine thenQ_n ?_
  refine W_seq ?_
  refine W_seq ?_
  refine W_region ?_
  refine ev ?_
  refine ev ?_
  refine ev ?_
  refine WO_le (Le.known (t := 29) false rfl (by simp)) ?_
  refine ev ?_
  refine WO_guardY rfl rfl rfl rfl (lt_of rfl) ?_
  refine ev ?_
  refine WO_guardY rfl rfl rfl rfl (lt_of rfl) ?_
  refine ev ?_
  refine WO_keep [1, 2, 6, 30, 31, 32] rfl ?_
  refine WO_guardY rfl rfl rfl rfl (lt_of rfl) ?_
  refine ev ?_
  refine WO_le (Le.known (t := 33) false rfl (by simp)) ?_
  refine ev ?_
  refine WO_nil ?_
  refine thenQ_n ?_
  refine W_condF rfl ?_
  refine W_skip ?_
  refine thenQ_n ?_
  refine W_seq ?_
  refine W_seq ?_
  refine W_regionD mixed (by kernel_rfl) ?_
  first | refine QL_evZ tys rfl rfl (lt_of rfl) rfl rfl ?_ | refine evQ ?_ | refine WO_loadMove tys rfl rfl (lt_of rfl) rfl rfl rfl rfl rfl rfl ?_
  first | refine QL_evZ tys rfl rfl (lt_of rfl) rfl rfl ?_ | refine evQ ?_ | refine WO_loadMove tys rfl rfl (lt_of rfl) rfl rfl rfl rfl rfl rfl ?_
  refine callBQ ?_
  refine ⟨_, toProg_fun p (Prog.small h1), rfl, ?_⟩
  refine callBQ ?_
  refine ⟨_, eqProg_fun p p hp hp, rfl, ?_⟩
  refine QL_known (v := true) (eqProg_refl p) ?_
  refine QL_norm rfl ?_
  refine evQ ?_
  refine QL_nil ?_
  refine thenQ_n ?_
  refine W_condF rfl ?_
  refine W_skip ?_
  refine thenQ_n ?_
  refine W_seq ?_
  refine W_region ?_
  refine ev ?_
  refine WO_nil ?_
  refine thenQ_n ?_
  refine W_ret ?_
  refine Ends_of (.inr rfl) (ret_okF rfl) (by decide) rfl ?_
  · rfl

theorem lawGuarded_fun (p : Prog) (hp : p.ok 9223372036854775807) : Fun Try.prog 4 [.t p.tt] (tupD [.t (.bool true)]) := by
  refine Fun.begin tys Try.func4 rfl rfl (N := 40) [(0, .t p.tt)] rfl rfl (fun w0 G F0 => ?_)
  refine W_seq ?_
  refine W_region ?_
  refine WO_box rfl rfl (lt_of rfl) rfl rfl ?_
  refine WO_norm rfl ?_
  refine ev ?_
  refine WO_nil ?_
  refine thenQ_n ?_
  refine W_seq ?_
  refine W_region ?_
  refine ev ?_
  refine WO_nil ?_
  refine thenQ_n ?_
  refine W_seq ?_
  refine W_region ?_
  first | (refine ev ?_; try refine WO_le (Le.freeze (u := 9) rfl) ?_) | refine WO_loadMove tys rfl rfl (lt_of rfl) rfl rfl rfl rfl rfl rfl ?_
  refine WO_norm rfl ?_
  refine ev ?_
  refine callB ?_
  refine ⟨_, szProg_fun p 1048576 hp (by omega) (by omega), rfl, ?_⟩
  refine ev ?_
  refine WO_nil ?_
  refine thenQ_n ?_
  refine W_seq ?_
  refine W_seq ?_
  refine W_keep [1, 2, 3] rfl ?_
  refine W_region ?_
  refine ev ?_
  refine ev ?_
  refine WO_nil ?_
  refine thenQ_n ?_
  refine W_cond rfl (fun h1 => ?_) (fun h1 => ?_)
  ·
    try simp only [HS] at h1
    refine W_seq ?_
    refine W_region ?_
    refine ev ?_
    refine WO_nil ?_
    refine thenQ_n ?_
    refine W_ret ?_
    refine thenQ_r ?_
    refine Ends_of (.inr rfl) (ret_okF rfl) (by decide) rfl ?_
    · rfl
  try simp only [HS] at h1
  refine W_skip ?_
  refine thenQ_n ?_
  refine W_seq ?_
  refine W_region ?_
  first | (refine ev ?_; try refine WO_le (Le.freeze (u := 15) rfl) ?_) | refine WO_loadMove tys rfl rfl (lt_of rfl) rfl rfl rfl rfl rfl rfl ?_
  refine WO_norm rfl ?_
  refine callB ?_
  refine ⟨_, toProg_fun p (Prog.small h1), rfl, ?_⟩
  refine WO_le (Le.freeze (u := 16) rfl) ?_
  refine WO_norm rfl ?_
  refine callB ?_
  refine ⟨_, specGuarded_fun p (Prog.small h1), rfl, ?_⟩
  refine ev ?_
  first | refine WO_evF tys rfl rfl (lt_of rfl) (d := .t _) rfl ?_ | (refine WO_extract rfl rfl (lt_of rfl) rfl rfl rfl rfl ?_; first | refine WO_le (Le.adoptE (u := 18) 18 rfl (by first | exact lenN | exact rfl)) ?_ | skip)
  refine WO_norm rfl ?_
  first | refine WO_evF tys rfl rfl (lt_of rfl) (d := .t _) rfl ?_ | (refine WO_extract rfl rfl (lt_of rfl) rfl rfl rfl rfl ?_; first | refine WO_le (Le.adoptE (u := 19) 19 rfl (by first | exact lenN | exact rfl)) ?_ | skip)
  refine WO_norm rfl ?_
  refine ev ?_
  refine WO_keep [1, 2, 4, 19] rfl ?_
  refine ev ?_
  refine WO_nil ?_
  refine thenQ_n ?_
  refine W_seq ?_
  refine W_region ?_
  first | (refine ev ?_; try refine WO_le (Le.freeze (u := 20) rfl) ?_) | refine WO_loadMove tys rfl rfl (lt_of rfl) rfl rfl rfl rfl rfl rfl ?_
  refine WO_norm rfl ?_
  refine callB ?_
  refine ⟨_, toProg_fun p (Prog.small h1), rfl, ?_⟩
  refine WO_le (Le.freeze (u := 21) rfl) ?_
  refine WO_norm rfl ?_
  refine WO_alloc tys rfl rfl (lt_of rfl) rfl rfl rfl ?_
  refine WO_norm rfl ?_
  refine WO_store tys rfl rfl rfl rfl rfl rfl rfl rfl (lt_of rfl) ?_
  refine WO_norm rfl ?_
  refine WO_nil ?_
  refine thenQ_n ?_
  refine W_seq ?_
  refine W_region ?_
  first | (refine ev ?_; try refine WO_le (Le.freeze (u := 23) rfl) ?_) | refine WO_loadMove tys rfl rfl (lt_of rfl) rfl rfl rfl rfl rfl rfl ?_
  refine WO_norm rfl ?_
  refine callB ?_
  refine ⟨_, implGuarded_fun p (Prog.small h1), rfl, ?_⟩
  refine ev ?_
  first | refine WO_evF tys rfl rfl (lt_of rfl) (d := .t _) rfl ?_ | (refine WO_extract rfl rfl (lt_of rfl) rfl rfl rfl rfl ?_; first | refine WO_le (Le.adoptE (u := 25) 25 rfl (by first | exact lenN | exact rfl)) ?_ | skip)
  refine WO_norm rfl ?_
  refine WO_keep [1, 2, 4, 5, 6, 22, 25] rfl ?_
  first | refine WO_evF tys rfl rfl (lt_of rfl) (d := .t _) rfl ?_ | (refine WO_extract rfl rfl (lt_of rfl) rfl rfl rfl rfl ?_; first | refine WO_le (Le.adoptE (u := 26) 26 rfl (by first | exact lenN | exact rfl)) ?_ | skip)
  refine WO_norm rfl ?_
  refine ev ?_
  refine ev ?_
  refine WO_nil ?_
  refine thenQ_n ?_
  refine W_seq ?_
  refine W_seq ?_
  refine W_region ?_
  refine ev ?_
  refine ev ?_
  refine ev ?_
  refine WO_le (Le.known (t := 29) false rfl (by simp)) ?_
  refine ev ?_
  refine WO_guardY rfl rfl rfl rfl (lt_of rfl) ?_
  refine ev ?_
  refine WO_guardY rfl rfl rfl rfl (lt_of rfl) ?_
  refine ev ?_
  refine WO_keep [1, 2, 6, 30, 31, 32] rfl ?_
  refine WO_guardY rfl rfl rfl rfl (lt_of rfl) ?_
  refine ev ?_
  refine WO_le (Le.known (t := 33) false rfl (by simp)) ?_
  refine ev ?_
  refine WO_nil ?_
  refine thenQ_n ?_
  refine W_condF rfl ?_
  refine W_skip ?_
  refine thenQ_n ?_
  refine W_seq ?_
  refine W_seq ?_
  refine W_regionD mixed (by kernel_rfl) ?_
  first | refine QL_evZ tys rfl rfl (lt_of rfl) rfl rfl ?_ | refine evQ ?_ | refine WO_loadMove tys rfl rfl (lt_of rfl) rfl rfl rfl rfl rfl rfl ?_
  first | refine QL_evZ tys rfl rfl (lt_of rfl) rfl rfl ?_ | refine evQ ?_ | refine WO_loadMove tys rfl rfl (lt_of rfl) rfl rfl rfl rfl rfl rfl ?_
  refine callBQ ?_
  refine ⟨_, toProg_fun p (Prog.small h1), rfl, ?_⟩
  refine callBQ ?_
  refine ⟨_, eqProg_fun p p hp hp, rfl, ?_⟩
  refine QL_known (v := true) (eqProg_refl p) ?_
  refine QL_norm rfl ?_
  refine evQ ?_
  refine QL_nil ?_
  refine thenQ_n ?_
  refine W_condF rfl ?_
  refine W_skip ?_
  refine thenQ_n ?_
  refine W_seq ?_
  refine W_region ?_
  refine ev ?_
  refine WO_nil ?_
  refine thenQ_n ?_
  refine W_ret ?_
  refine Ends_of (.inr rfl) (ret_okF rfl) (by decide) rfl ?_
  · rfl


end Go.Proofs.Ytjnkcoaiccbmpaa
