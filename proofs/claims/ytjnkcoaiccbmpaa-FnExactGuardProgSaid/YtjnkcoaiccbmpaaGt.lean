/- Walks of GuardProg. -/
import Derived.Test.YtjnkcoaiccbmpaaGr
set_option linter.unusedVariables false
set_option linter.unusedSimpArgs false
set_option maxRecDepth 10000
set_option maxHeartbeats 1000000
namespace Go.Proofs.Ytjnkcoaiccbmpaa
open Go.Eng

theorem growF_fun (n : Int) (h0 : 0 ≤ n) (hn : n ≤ 1073741824) : Fun Try.prog 109 [.nil, .t (.int n)] (tupD [.own (T.Funcs [])]) := by
  refine Fun.begin tys Try.func109 rfl rfl (N := 27) [(0, .nil), (1, .t (.int n))] rfl rfl (fun w0 G F0 => ?_)
  refine W_seq ?_
  refine W_region ?_
  refine ev ?_
  refine WO_nil ?_
  refine thenQ_n ?_
  iterate 2 (refine W_seq ?_)
  refine W_region ?_
  refine ev ?_
  refine ev ?_
  refine WO_nil ?_
  refine thenQ_n ?_
  refine W_cond rfl (fun h1 => ?_) (fun h1 => ?_)
  ·
    try simp only [HS] at h1
    exfalso; first | omega | (simp_all; done) | (simp_all; omega)
  try simp only [HS] at h1
  refine W_skip ?_
  refine thenQ_n ?_
  iterate 2 (refine W_seq ?_)
  refine W_region ?_
  refine ev ?_
  refine ev ?_
  refine WO_capNil rfl rfl (lt_of rfl) rfl ⟨53, by kernel_rfl⟩ rfl ?_
  refine ev ?_
  refine evE ?_
  refine evI ?_
  refine WO_keep [0, 1, 4, 8, 13] rfl ?_
  refine evI ?_
  refine ev ?_
  refine WO_nil ?_
  refine thenQ_n ?_
  refine W_seq ?_
  refine W_region ?_
  refine ev ?_
  refine ev ?_
  refine WO_nil ?_
  refine thenQ_n ?_
  refine W_cond rfl (fun h2 => ?_) (fun h2 => ?_)
  ·
    try simp only [HS] at h2
    refine W_region ?_
    refine ev ?_
    refine ev ?_
    refine WO_capNil rfl rfl (lt_of rfl) rfl ⟨53, by kernel_rfl⟩ rfl ?_
    first | refine WO_sliceNil tys rfl rfl (lt_of rfl) rfl rfl rfl rfl rfl rfl rfl ?_ | refine WO_sliceT tys rfl rfl (lt_of rfl) rfl rfl rfl rfl rfl rfl rfl rfl (by first | omega | (simp only [List.length_map]; omega)) (by first | omega | (simp only [List.length_map]; omega)) (by first | omega | (simp only [List.length_map]; omega)) ?_ | refine WO_sliceS tys rfl rfl (lt_of rfl) rfl rfl rfl rfl rfl rfl rfl rfl rfl (by omega) (by omega) (by omega) ?_
    refine ev ?_
    refine WO_keep [0, 4, 20, 21] rfl ?_
    refine WO_growNil tys (.agg [.v (.int .i64 0), .v (.int .i64 0), .list 1 [], .list 5 []]) rfl rfl (lt_of rfl) rfl rfl rfl rfl (by kernel_rfl) rfl rfl (by repeat (first | exact AbsL.nil' | refine AbsL.v' ?_ | refine AbsL.none' ?_)) rfl (by decide) (by omega) (by omega) (by decide) ?_
    refine WO_norm rfl ?_
    refine ev ?_
    refine evE ?_
    first | refine WO_sliceNil tys rfl rfl (lt_of rfl) rfl rfl rfl rfl rfl rfl rfl ?_ | refine WO_sliceT tys rfl rfl (lt_of rfl) rfl rfl rfl rfl rfl rfl rfl rfl (by first | omega | (simp only [List.length_map]; omega)) (by first | omega | (simp only [List.length_map]; omega)) (by first | omega | (simp only [List.length_map]; omega)) ?_ | refine WO_sliceS tys rfl rfl (lt_of rfl) rfl rfl rfl rfl rfl rfl rfl rfl rfl (by omega) (by omega) (by omega) ?_
    refine ev ?_
    refine WO_nil ?_
    refine thenQ_n ?_
    refine W_seq ?_
    refine W_region ?_
    refine ev ?_
    refine ev ?_
    refine WO_nil ?_
    refine thenQ_n ?_
    first | refine W_le (Le.gather (u := 4) (id := 22) rfl rfl (by simp)) ?_ | refine W_le (Le.nilOwn (u := 4) 4 rfl) ?_
    refine W_ret ?_
    refine Ends_of (.inr rfl) (ret_okF rfl) (by decide) rfl ?_
    · rfl
  try simp only [HS] at h2
  refine W_skip ?_
  refine thenQ_n ?_
  refine W_seq ?_
  refine W_region ?_
  refine ev ?_
  refine ev ?_
  refine WO_nil ?_
  refine thenQ_n ?_
  first | refine W_le (Le.gather (u := 4) (id := 22) rfl rfl (by simp)) ?_ | refine W_le (Le.nilOwn (u := 4) 4 rfl) ?_
  refine W_ret ?_
  refine Ends_of (.inr rfl) (ret_okF rfl) (by decide) rfl ?_
  · rfl

def toldFs (l : List (List (Func × List Value))) : List T := l.map fun x => .list 4 (toldF x)
theorem read_told {C : List (Func × List Value)} (h : ∀ c, c ∈ C → c.2.length = 4) : ∀ x, x ∈ toldF C → (T.cells x).length = 4 ∧ ∀ y, y ∈ T.cells x → ∃ v, y = .v v := by
  intro x hx
  refine ⟨toldF_cells h x hx, fun y hy => ?_⟩
  obtain ⟨c, _, rfl⟩ := List.mem_map.1 hx
  obtain ⟨v, _, rfl⟩ := List.mem_map.1 hy
  exact ⟨v, rfl⟩
theorem toldF_app (a b : List (Func × List Value)) : toldF (a ++ b) = toldF a ++ toldF b := List.map_append
theorem toldF_len (a : List (Func × List Value)) : (toldF a).length = a.length := List.length_map ..

theorem concatF_fun (l : List (List (Func × List Value))) (hl : l.length ≤ 1048576) (hs : l.flatten.length ≤ 1048576) (h4 : ∀ x, x ∈ l → ∀ c, c ∈ x → c.2.length = 4) : Fun Try.prog 79 [.t (.list 1 (toldFs l))] (tupD [.own (.list 4 (toldF l.flatten))]) := by
  refine Fun.begin tys Try.func79 rfl rfl (N := 36) [(0, .t (.list 1 (toldFs l)))] rfl rfl (fun w0 G F0 => ?_)
  refine W_seq ?_
  refine W_region ?_
  refine ev ?_
  refine WO_nil ?_
  refine thenQ_n ?_
  refine W_seq ?_
  refine W_region ?_
  refine ev ?_
  refine WO_nil ?_
  refine thenQ_n ?_
  iterate 2 (refine W_seq ?_)
  refine W_region ?_
  refine ev ?_
  refine evE ?_
  refine ev ?_
  refine WO_nil ?_
  refine thenQ_n ?_
  refine W_block ?_
  refine W_loopK (α := Int × Int) [0, 9, 10] [] (fun (x : Int × Int) => [(11, .t (.int (x.1))), (3, .t (.int (x.2)))]) (fun (x : Int × Int) => []) (fun (x : Int × Int) => 0 ≤ (x.1) ∧ (x.1) ≤ l.length ∧ 0 ≤ (x.2) ∧ (x.2) + (l.drop (x.1).toNat).flatten.length = l.flatten.length) (fun (x : Int × Int) => Int.toNat (l.length - (x.1))) (0, 0) ?_ ?_ ?_ (fun x hx => ?_)
  · repeat (first | exact Sub.nil' | refine Sub.cons' rfl ?_ )
  · repeat (first | exact SubM.nil' | refine SubM.cons' rfl ?_ )
  · exact ⟨by omega, by omega, by omega, by simp⟩
  obtain ⟨k, n⟩ := x
  obtain ⟨hk0, hk1, hk2, hk⟩ := hx
  try dsimp only at hk0 hk1 hk2 hk ⊢
  refine W_norm rfl ?_
  refine W_seq ?_
  refine W_region ?_
  refine ev ?_
  refine WO_nil ?_
  refine thenQ_n ?_
  refine W_seq ?_
  refine W_cond rfl (fun h1 => ?_) (fun h1 => ?_)
  ·
    try simp only [HS] at h1
    refine W_skip ?_
    refine thenQ_n ?_
    refine W_seq ?_
    refine W_block ?_
    refine W_seq ?_
    refine W_region ?_
    first | refine WO_idxT tys rfl rfl (lt_of rfl) rfl rfl rfl rfl rfl rfl rfl (by omega) _ (getT _ _ (by omega) (by omega)) ?_ | refine WO_idxS tys rfl rfl (lt_of rfl) rfl rfl rfl rfl rfl rfl rfl rfl (by omega) (by omega) ?_
    first | refine ev ?_ | refine WO_loadL tys rfl rfl (lt_of rfl) rfl rfl rfl rfl (getT _ _ (by omega) (by omega)) rfl ?_ | refine WO_loadL tys rfl rfl (lt_of rfl) rfl rfl rfl rfl (getT0 _ _ (by omega) (by omega)) rfl ?_
    refine ev ?_
    refine WO_nil ?_
    refine thenQ_n ?_
    refine W_seq ?_
    refine W_region ?_
    refine ev ?_
    refine ev ?_
    refine evE ?_
    have hk3 := flat_at hk0 h1
    have hk4 := congrArg List.length hk3
    simp only [List.length_append] at hk4
    refine WO_int tys rfl rfl (lt_of rfl) rfl (wrap_id (by omega) (by omega)) ?_
    refine ev ?_
    refine WO_keep [0, 3, 5, 9, 10, 11, 12, 13, 14, 15, 16, 17, 18] rfl ?_
    refine WO_nil ?_
    refine thenQ_n ?_
    refine W_seq ?_
    refine W_region ?_
    refine ev ?_
    refine ev ?_
    refine WO_nil ?_
    refine thenQ_n ?_
    refine W_cond rfl (fun h2 => ?_) (fun h2 => ?_)
    ·
      try simp only [HS] at h2
      exfalso; first | omega | (simp_all; done) | (simp_all; omega)
    try simp only [HS] at h2
    refine W_skip ?_
    refine inBlk_n ?_
    refine thenQ_n ?_
    refine W_region ?_
    refine evI ?_
    refine ev ?_
    refine WO_nil ?_
    refine loopQ_n (_, _) (by (try dsimp only); repeat (first | exact Sub.nil' | refine Sub.cons' rfl ?_ )) (by (try dsimp only); repeat (first | exact SubM.nil' | refine SubM.cons' rfl ?_ )) ?_ ?_
    · try dsimp only
      exact ⟨by omega, by omega, by omega, by omega⟩
    · (show Int.toNat _ < Int.toNat _); omega
  try simp only [HS] at h1
  refine W_exit ?_
  refine thenQ_e ?_
  refine loopQ_e ?_
  refine inBlk_y ?_
  refine thenQ_n ?_
  refine W_seq ?_
  refine W_region ?_
  refine ev ?_
  refine callB ?_
  refine ⟨_, growF_fun _ (by omega) (by omega), rfl, ?_⟩
  refine WO_le (Le.adoptE (u := 24) 24 rfl (by first | exact lenN | exact rfl)) ?_
  refine WO_norm rfl ?_
  refine ev ?_
  refine WO_nil ?_
  refine thenQ_n ?_
  iterate 2 (refine W_seq ?_)
  refine W_region ?_
  refine ev ?_
  refine evE ?_
  refine ev ?_
  refine WO_nil ?_
  refine thenQ_n ?_
  refine W_block ?_
  refine W_loopK (α := Int × Nat × List T) [0, 25, 26] [] (fun (x : Int × Nat × List T) => [(27, .t (.int (x.1))), (6, .sl 24 0 (x.2.1))]) (fun (x : Int × Nat × List T) => [(24, .L 4 (x.2.2))]) (fun (x : Int × Nat × List T) => 0 ≤ (x.1) ∧ (x.1) ≤ l.length ∧ (x.2.1) = (x.2.2).length ∧ (x.2.2) = toldF (l.take (x.1).toNat).flatten) (fun (x : Int × Nat × List T) => Int.toNat (l.length - (x.1))) (0, 0, []) ?_ ?_ ?_ (fun x hx => ?_)
  · repeat (first | exact Sub.nil' | refine Sub.cons' rfl ?_ )
  · repeat (first | exact SubM.nil' | refine SubM.cons' rfl ?_ )
  · exact ⟨by omega, by omega, by simp, by simp [toldF]⟩
  obtain ⟨j, m, xs⟩ := x
  obtain ⟨hj0, hj1, hj2, hj3⟩ := hx
  try dsimp only at hj0 hj1 hj2 hj3 ⊢
  refine W_norm rfl ?_
  refine W_seq ?_
  refine W_region ?_
  refine ev ?_
  refine WO_nil ?_
  refine thenQ_n ?_
  refine W_seq ?_
  refine W_cond rfl (fun h2 => ?_) (fun h2 => ?_)
  ·
    try simp only [HS] at h2
    refine W_skip ?_
    refine thenQ_n ?_
    refine W_seq ?_
    refine W_block ?_
    refine W_seq ?_
    refine W_region ?_
    first | refine WO_idxT tys rfl rfl (lt_of rfl) rfl rfl rfl rfl rfl rfl rfl (by omega) _ (getT _ _ (by omega) (by omega)) ?_ | refine WO_idxS tys rfl rfl (lt_of rfl) rfl rfl rfl rfl rfl rfl rfl rfl (by omega) (by omega) ?_
    first | refine ev ?_ | refine WO_loadL tys rfl rfl (lt_of rfl) rfl rfl rfl rfl (getT _ _ (by omega) (by omega)) rfl ?_ | refine WO_loadL tys rfl rfl (lt_of rfl) rfl rfl rfl rfl (getT0 _ _ (by omega) (by omega)) rfl ?_
    refine ev ?_
    refine WO_nil ?_
    refine thenQ_n ?_
    refine W_region ?_
    refine ev ?_
    refine ev ?_
    first | refine WO_append tys rfl rfl (lt_of rfl) rfl rfl rfl rfl rfl (.own rfl (by first | omega | (simp only [List.length_append]; omega))) rfl (.read (read_told (h4 _ (List.getElem_mem _)))) (by decide) (by have hq := flat_take_len (l := l) j.toNat; rw [flat_at hj0 (by omega)] at hq; simp only [hj3, toldF_len, List.length_append, List.length_take, List.length_map, List.length_nil] at hq ⊢; omega) (by decide) rfl ?_ | refine WO_append tys rfl rfl (lt_of rfl) rfl rfl rfl rfl rfl .nil rfl (.read (read_told (h4 _ (List.getElem_mem _)))) (by decide) (by have hq := flat_take_len (l := l) j.toNat; rw [flat_at hj0 (by omega)] at hq; simp only [hj3, toldF_len, List.length_append, List.length_take, List.length_map, List.length_nil] at hq ⊢; omega) (by decide) rfl ?_
    refine WO_norm rfl ?_
    refine ev ?_
    refine WO_nil ?_
    refine inBlk_n ?_
    refine thenQ_n ?_
    refine W_keep [0, 6, 8, 25, 26, 27, 28, 29, 30, 31, 32, 33] rfl ?_
    refine W_region ?_
    refine evI ?_
    refine ev ?_
    refine WO_nil ?_
    refine loopQ_n (_, _, _) (by (try dsimp only); repeat (first | exact Sub.nil' | refine Sub.cons' rfl ?_ )) (by (try dsimp only); repeat (first | exact SubM.nil' | refine SubM.cons' rfl ?_ )) ?_ ?_
    · try dsimp only
      exact ⟨by omega, by omega, by simp [hj2], by rw [hj2, List.take_of_length_le (Nat.le_refl _), flat_take_at hj0 (by omega), toldF_app, ← hj3]⟩
    · (show Int.toNat _ < Int.toNat _); omega
  try simp only [HS] at h2
  refine W_exit ?_
  refine thenQ_e ?_
  refine loopQ_e ?_
  refine inBlk_y ?_
  refine thenQ_n ?_
  refine W_seq ?_
  refine W_region ?_
  refine ev ?_
  refine ev ?_
  refine WO_nil ?_
  refine thenQ_n ?_
  refine W_le (Le.gather (u := 2) (id := 24) rfl rfl (by omega)) ?_
  refine W_ret ?_
  refine Ends_of (.inr rfl) (ret_okF rfl) (by decide) rfl ?_
  · rw [hj2, List.take_of_length_le (Nat.le_refl _), hj3, take_end (by omega)]

def firstF (n : Int) : Func := ⟨0, 0, [0, 1], [⟨3, n + 1, [], [], []⟩, ⟨9, 0, [⟨11, 1⟩], [], []⟩]⟩
def lastF : Func := ⟨0, 0, [0], [⟨2, 0, [⟨10, 0⟩], [], []⟩]⟩
def upL (n : Nat) : List Int := (List.range n).map fun (i : Nat) => (i : Int) + 1
theorem upL_len (n : Nat) : (upL n).length = n := by simp [upL]
theorem upL_succ (n : Nat) : upL (n + 1) = upL n ++ [(n : Int) + 1] := by simp [upL, List.range_succ]
theorem upL_at (n : Nat) {x : Int} (h0 : 0 ≤ x) (h1 : x < n) : atI (upL n) x = x + 1 := by
  rw [atI_at h0 (by rw [upL_len]; exact h1)]
  simp [upL]
  omega
def guardB (p : Prog) : Bool := goodP p && decide ((p.funcs.length : Int) ≤ 3)
def guardR (p : Prog) : Prog := if guardB p then ⟨firstF p.funcs.length :: (p.funcs.map (movF [1, 2, 3]) ++ [lastF])⟩ else ⟨[]⟩
theorem guard_no {p : Prog} (h : guardB p = false) : [D.agg [D.own (T.list 4 [])], D.t (T.v (.bool false))] = [D.agg [D.own (T.Funcs (guardR p).funcs)], D.t (T.bool (guardB p))] := by
  rw [guardR, h]; rfl
theorem guard_yes {p : Prog} {xs : List T} (h : guardB p = true) (hx : xs = (firstF p.funcs.length :: (p.funcs.map (movF [1, 2, 3]) ++ [lastF])).map Func.tt) : [D.agg [D.own (T.list 4 xs)], D.t (T.v (.bool true))] = [D.agg [D.own (T.Funcs (guardR p).funcs)], D.t (T.bool (guardB p))] := by
  rw [guardR, h, hx]; rfl
theorem movF_congr {to to' : List Int} {f : Func} (h : ∀ x, x ∈ seqL f.stmts → atI to x = atI to' x) : movF to f = movF to' f := by
  unfold movF
  congr 1
  refine List.map_congr_left fun s hs => ?_
  have hS : ∀ x, x ∈ seqS s → atI to x = atI to' x := fun x hx => h x (List.mem_flatMap.2 ⟨s, hs, hx⟩)
  have e1 : movN to s = movN to' s := by
    unfold movN
    split
    · rename_i hk
      exact hS _ (List.mem_append_left _ (by rw [d3, if_pos hk]; simp))
    · rfl
  have e2 : s.ex.map (movT to) = s.ex.map (movT to') := List.map_congr_left fun t ht => by
    unfold movT
    split
    · rename_i hk
      rw [hS t.n (List.mem_append_right _ (List.mem_map.2 ⟨t, List.mem_filter.2 ⟨ht, by simpa using hk⟩, rfl⟩))]
    · rfl
  unfold movS
  rw [e1, e2]
theorem mov_up {p : Prog} (hg : goodP p = true) (h3 : (p.funcs.length : Int) ≤ 3) : p.funcs.map (movF (upL p.funcs.length)) = p.funcs.map (movF [1, 2, 3]) := by
  refine List.map_congr_left fun f hf => movF_congr fun x hx => ?_
  have := goodP_seqs hg (upL_len _) f hf x hx
  rw [upL_len] at this
  rw [upL_at _ this.1 this.2, show ([1, 2, 3] : List Int) = upL 3 from rfl, upL_at 3 this.1 (by omega)]

theorem specGuard_fun (p : Prog) (hp : p.ok 1048576) : Fun Try.prog 46 [.t p.tt] (tupD [.agg [.own (T.Funcs (guardR p).funcs)], .t (.bool (guardB p))]) := by
  have hpl : p.funcs.length ≤ 1048576 := hp.1.1
  refine Fun.begin tys Try.func46 rfl rfl (N := 76) [(0, .t p.tt)] rfl rfl (fun w0 G F0 => ?_)
  refine W_seq ?_
  refine W_region ?_
  refine WO_box rfl rfl (lt_of rfl) rfl rfl ?_
  refine WO_norm rfl ?_
  refine WO_alloc tys rfl rfl (lt_of rfl) rfl rfl rfl ?_
  refine WO_norm rfl ?_
  refine ev ?_
  refine WO_nil ?_
  refine thenQ_n ?_
  refine W_seq ?_
  refine W_region ?_
  refine ev ?_
  refine ev ?_
  refine evE ?_
  refine ev ?_
  refine WO_nil ?_
  refine thenQ_n ?_
  iterate 2 (refine W_seq ?_)
  refine W_keep [1, 2, 3, 4] rfl ?_
  refine W_region ?_
  first | (refine ev ?_; try refine WO_le (Le.freeze (u := 15) rfl) ?_) | refine WO_loadMove tys rfl rfl (lt_of rfl) rfl rfl rfl rfl rfl rfl ?_
  refine WO_norm rfl ?_
  refine callB ?_
  refine ⟨_, goodProg_fun p hp, rfl, ?_⟩
  refine ev ?_
  refine ev ?_
  refine WO_guard rfl rfl rfl rfl (lt_of rfl) (fun h1 => ?_) (fun h1 => ?_)
  rotate_left
  ·
    try simp only [HS] at h1
    refine WO_guardN rfl rfl rfl rfl rfl (lt_of rfl) ?_
    refine ev ?_
    refine WO_nil ?_
    refine thenQ_n ?_
    refine W_condT rfl ?_
    refine W_seq ?_
    refine W_region ?_
    refine WO_struct tys rfl rfl (lt_of rfl) rfl rfl rfl (by kernel_rfl) rfl rfl rfl rfl rfl rfl ?_
    refine WO_store tys rfl rfl rfl rfl rfl rfl rfl rfl (lt_of rfl) ?_
    refine WO_norm rfl ?_
    refine ev ?_
    refine WO_keep [1, 2, 3, 4] rfl ?_
    refine WO_nil ?_
    refine thenQ_n ?_
    try (refine W_le (Le.nilBox (u := 2) (j := 0) 4 rfl rfl) ?_; refine W_norm rfl ?_)
    refine W_ret ?_
    refine thenQ_r ?_
    refine Ends_of (.inr rfl) (ret_okF rfl) (by decide) rfl ?_
    · first
      | exact guard_no (by rw [guardB, h1]; rfl)
      | exact guard_no (by rw [guardB, h1, decide_eq_false (by omega)]; rfl)
      | exact guard_yes (by rw [guardB, h1, decide_eq_true h2]; rfl) (by
         rw [← mov_up h1 h2, hm2, List.take_length, ← List.length_append, List.take_length, hxs, take_end (by omega), ← List.cons_append, List.map_append]; rfl)
  try simp only [HS] at h1
  refine ev ?_
  refine WO_guardY rfl rfl rfl rfl (lt_of rfl) ?_
  refine ev ?_
  refine ev ?_
  refine WO_nil ?_
  refine thenQ_n ?_
  refine W_cond rfl (fun h2 => ?_) (fun h2 => ?_)
  ·
    try simp only [HS] at h2
    refine W_seq ?_
    refine W_keep [1, 2, 3, 4] rfl ?_
    refine W_region ?_
    refine WO_struct tys rfl rfl (lt_of rfl) rfl rfl rfl (by kernel_rfl) rfl rfl rfl rfl rfl rfl ?_
    refine WO_store tys rfl rfl rfl rfl rfl rfl rfl rfl (lt_of rfl) ?_
    refine WO_norm rfl ?_
    refine ev ?_
    refine WO_nil ?_
    refine thenQ_n ?_
    try (refine W_le (Le.nilBox (u := 2) (j := 0) 4 rfl rfl) ?_; refine W_norm rfl ?_)
    refine W_ret ?_
    refine thenQ_r ?_
    refine Ends_of (.inr rfl) (ret_okF rfl) (by decide) rfl ?_
    · first
      | exact guard_no (by rw [guardB, h1]; rfl)
      | exact guard_no (by rw [guardB, h1, decide_eq_false (by omega)]; rfl)
      | exact guard_yes (by rw [guardB, h1, decide_eq_true h2]; rfl) (by
         rw [← mov_up h1 h2, hm2, List.take_length, ← List.length_append, List.take_length, hxs, take_end (by omega), ← List.cons_append, List.map_append]; rfl)
  try simp only [HS] at h2
  refine W_skip ?_
  refine thenQ_n ?_
  refine W_seq ?_
  refine W_keep [1, 2, 3, 4] rfl ?_
  refine W_region ?_
  refine ev ?_
  refine WO_le (Le.nilOwn (u := 5) 1 rfl) ?_
  refine WO_le (Le.adoptE (u := 5) 5 rfl rfl) ?_
  refine WO_norm rfl ?_
  refine WO_nil ?_
  refine thenQ_n ?_
  iterate 2 (refine W_seq ?_)
  refine W_region ?_
  refine ev ?_
  refine ev ?_
  refine evE ?_
  refine ev ?_
  refine WO_nil ?_
  refine thenQ_n ?_
  refine W_block ?_
  refine W_loopK (α := Int × Nat × List T) [1, 2, 3, 4, 24, 25] [1, 2] (fun (x : Int × Nat × List T) => [(26, .t (.int (x.1))), (5, .sl 5 0 (x.2.1))]) (fun (x : Int × Nat × List T) => [(5, .L 1 (x.2.2))]) (fun (x : Int × Nat × List T) => 0 ≤ (x.1) ∧ (x.1) ≤ p.funcs.length ∧ (x.2.1) = (x.2.2).length ∧ (x.2.2) = (upL (x.1).toNat).map T.int) (fun (x : Int × Nat × List T) => Int.toNat (p.funcs.length - (x.1))) (0, 0, []) ?_ ?_ ?_ (fun x hx => ?_)
  · repeat (first | exact Sub.nil' | refine Sub.cons' rfl ?_ )
  · repeat (first | exact SubM.nil' | refine SubM.cons' rfl ?_ )
  · exact ⟨by omega, by omega, rfl, rfl⟩
  obtain ⟨k, m, ws⟩ := x
  obtain ⟨hk0, hk1, hm, hws⟩ := hx
  try dsimp only at hk0 hk1 hm hws ⊢
  refine W_norm rfl ?_
  refine W_seq ?_
  refine W_region ?_
  refine ev ?_
  refine WO_nil ?_
  refine thenQ_n ?_
  refine W_seq ?_
  refine W_cond rfl (fun h3 => ?_) (fun h3 => ?_)
  ·
    try simp only [HS] at h3
    refine W_skip ?_
    refine thenQ_n ?_
    refine W_seq ?_
    refine W_block ?_
    refine W_seq ?_
    refine W_region ?_
    refine ev ?_
    refine ev ?_
    refine WO_nil ?_
    refine thenQ_n ?_
    refine W_region ?_
    refine ev ?_
    refine ev ?_
    refine evI ?_
    refine WO_buildSlice tys [T.int (k + 1)] rfl rfl (lt_of rfl) rfl rfl rfl rfl rfl (lt_of rfl) (by repeat (first | exact PartsOk.nil' | refine PartsOk.cons' rfl (by repeat (first | exact AbsL.nil' | refine AbsL.v' ?_ | refine AbsL.own' ?_ | refine AbsL.none' ?_)) rfl ?_)) (by first | exact List.nodup_nil | exact nodup1 _ | decide | exact nodupB_sound rfl) rfl (by decide) ?_
    refine WO_norm rfl ?_
    first | refine WO_append tys rfl rfl (lt_of rfl) rfl rfl rfl rfl rfl (.own rfl (by first | omega | (simp only [List.length_append]; omega))) rfl (.own rfl (by first | decide | omega)) (by decide) (by simp only [List.length_take, List.length_cons, List.length_nil]; rw [hws, List.length_map, upL_len]; omega) (by decide) rfl ?_ | refine WO_append tys rfl rfl (lt_of rfl) rfl rfl rfl rfl rfl .nil rfl (.own rfl (by first | decide | omega)) (by decide) (by simp only [List.length_take, List.length_cons, List.length_nil]; rw [hws, List.length_map, upL_len]; omega) (by decide) rfl ?_
    refine WO_norm rfl ?_
    refine ev ?_
    refine WO_keep [1, 2, 3, 4, 5, 6, 24, 25, 26, 27, 28, 29, 30, 31, 32, 33] rfl ?_
    refine WO_nil ?_
    refine inBlk_n ?_
    refine thenQ_n ?_
    refine W_region ?_
    refine evI ?_
    refine ev ?_
    refine WO_nil ?_
    refine loopQ_n (_, _, _) (by (try dsimp only); repeat (first | exact Sub.nil' | refine Sub.cons' rfl ?_ )) (by (try dsimp only); repeat (first | exact SubM.nil' | refine SubM.cons' rfl ?_ )) ?_ ?_
    · try dsimp only
      subst hm
      refine ⟨by omega, by omega, by simp, ?_⟩
      rw [List.take_length, hws, show (k + 1).toNat = k.toNat + 1 from by omega, upL_succ, List.map_append, show ((k.toNat : Nat) : Int) = k from by omega]
      rfl
    · (show Int.toNat _ < Int.toNat _); omega
  try simp only [HS] at h3
  refine W_exit ?_
  refine thenQ_e ?_
  refine loopQ_e ?_
  refine inBlk_y ?_
  refine thenQ_n ?_
  refine W_seq ?_
  refine W_region ?_
  have hws' : ws.take m = (upL p.funcs.length).map T.int := by rw [hm, List.take_length, hws, show k.toNat = p.funcs.length from by omega]
  refine WO_norm rfl ?_
  refine WO_le (Le.gather (u := 5) (id := 5) rfl rfl (by omega)) ?_
  rw [hws']
  refine WO_norm rfl ?_
  refine WO_le (Le.freeze (u := 5) rfl) ?_
  refine WO_norm rfl ?_
  refine WO_buildSlice tys [T.int 0, T.int 1] rfl rfl (lt_of rfl) rfl rfl rfl rfl rfl (lt_of rfl) (by repeat (first | exact PartsOk.nil' | refine PartsOk.cons' rfl (by repeat (first | exact AbsL.nil' | refine AbsL.v' ?_ | refine AbsL.own' ?_ | refine AbsL.none' ?_)) rfl ?_)) (by first | exact List.nodup_nil | exact nodup1 _ | decide | exact nodupB_sound rfl) rfl (by decide) ?_
  refine WO_norm rfl ?_
  refine WO_le (Le.gather (u := 35) (id := 35) rfl rfl (by first | (simp; done) | (simp; omega) | omega)) ?_
  refine WO_norm rfl ?_
  refine ev ?_
  refine evI ?_
  iterate 2 (refine WO_struct tys rfl rfl (lt_of rfl) rfl rfl rfl (by kernel_rfl) rfl rfl rfl rfl rfl rfl ?_)
  refine WO_buildSlice tys [(Tok.tt ⟨11, 1⟩)] rfl rfl (lt_of rfl) rfl rfl rfl rfl rfl (lt_of rfl) (by repeat (first | exact PartsOk.nil' | refine PartsOk.cons' rfl (by repeat (first | exact AbsL.nil' | refine AbsL.v' ?_ | refine AbsL.own' ?_ | refine AbsL.none' ?_)) rfl ?_)) (by first | exact List.nodup_nil | exact nodup1 _ | decide | exact nodupB_sound rfl) rfl (by decide) ?_
  refine WO_norm rfl ?_
  refine WO_le (Le.gather (u := 40) (id := 40) rfl rfl (by first | (simp; done) | (simp; omega) | omega)) ?_
  refine WO_norm rfl ?_
  refine WO_struct tys rfl rfl (lt_of rfl) rfl rfl rfl (by kernel_rfl) rfl rfl rfl rfl rfl rfl ?_
  refine WO_buildSlice tys [(Stmt.tt ⟨3, (p.funcs.length : Int) + 1, [], [], []⟩), (Stmt.tt ⟨9, 0, [⟨11, 1⟩], [], []⟩)] rfl rfl (lt_of rfl) rfl rfl rfl rfl rfl (lt_of rfl) (by repeat (first | exact PartsOk.nil' | refine PartsOk.cons' rfl (by repeat (first | exact AbsL.nil' | refine AbsL.v' ?_ | refine AbsL.own' ?_ | refine AbsL.none' ?_)) rfl ?_)) (by first | exact List.nodup_nil | exact nodup1 _ | decide | exact nodupB_sound rfl) rfl (by decide) ?_
  refine WO_norm rfl ?_
  refine WO_le (Le.gather (u := 42) (id := 42) rfl rfl (by first | (simp; done) | (simp; omega) | omega)) ?_
  refine WO_norm rfl ?_
  refine WO_keep [1, 2, 3, 5, 35, 42] rfl ?_
  refine WO_struct tys rfl rfl (lt_of rfl) rfl rfl rfl (by kernel_rfl) rfl rfl rfl rfl rfl rfl ?_
  refine WO_alloc tys rfl rfl (lt_of rfl) rfl rfl rfl ?_
  refine WO_norm rfl ?_
  refine WO_store tys rfl rfl rfl rfl rfl rfl rfl rfl (lt_of rfl) ?_
  refine WO_norm rfl ?_
  refine WO_nil ?_
  refine thenQ_n ?_
  refine W_seq ?_
  refine W_region ?_
  first | (refine ev ?_; try refine WO_le (Le.freeze (u := 44) rfl) ?_) | refine WO_loadMove tys rfl rfl (lt_of rfl) rfl rfl rfl rfl rfl rfl ?_
  refine WO_norm rfl ?_
  refine WO_buildSlice tys [(firstF p.funcs.length).tt] rfl rfl (lt_of rfl) rfl rfl rfl rfl rfl (lt_of rfl) (by repeat (first | exact PartsOk.nil' | refine PartsOk.cons' rfl (by repeat (first | exact AbsL.nil' | refine AbsL.v' ?_ | refine AbsL.own' ?_ | refine AbsL.none' ?_)) rfl ?_)) (by first | exact List.nodup_nil | exact nodup1 _ | decide | exact nodupB_sound rfl) rfl (by decide) ?_
  refine WO_norm rfl ?_
  refine WO_struct tys rfl rfl (lt_of rfl) rfl rfl rfl (by kernel_rfl) rfl rfl rfl rfl rfl rfl ?_
  refine WO_alloc tys rfl rfl (lt_of rfl) rfl rfl rfl ?_
  refine WO_norm rfl ?_
  refine WO_store tys rfl rfl rfl rfl rfl rfl rfl rfl (lt_of rfl) ?_
  refine WO_norm rfl ?_
  refine WO_nil ?_
  refine thenQ_n ?_
  iterate 2 (refine W_seq ?_)
  refine W_keep [1, 2, 3, 5, 8] rfl ?_
  refine W_region ?_
  refine ev ?_
  refine ev ?_
  refine evE ?_
  refine ev ?_
  refine WO_nil ?_
  refine thenQ_n ?_
  refine W_block ?_
  refine W_loopK (α := Int × Nat × List T) [2, 3, 5, 8, 48, 49] [2] (fun (x : Int × Nat × List T) => [(50, .t (.int (x.1)))]) (fun (x : Int × Nat × List T) => [(8, .box [.sl 45 0 (x.2.1)]), (45, .L 4 (x.2.2))]) (fun (x : Int × Nat × List T) => 0 ≤ (x.1) ∧ (x.1) ≤ p.funcs.length ∧ (x.2.1) = (x.2.2).length ∧ (x.2.2) = (firstF p.funcs.length :: (p.funcs.take (x.1).toNat).map (movF (upL p.funcs.length))).map Func.tt) (fun (x : Int × Nat × List T) => Int.toNat (p.funcs.length - (x.1))) (0, 1, [(firstF p.funcs.length).tt]) ?_ ?_ ?_ (fun x hx => ?_)
  · repeat (first | exact Sub.nil' | refine Sub.cons' rfl ?_ )
  · repeat (first | exact SubM.nil' | refine SubM.cons' rfl ?_ )
  · exact ⟨by omega, by omega, rfl, rfl⟩
  obtain ⟨j, m2, xs⟩ := x
  obtain ⟨hj0, hj1, hm2, hxs⟩ := hx
  try dsimp only at hj0 hj1 hm2 hxs ⊢
  refine W_norm rfl ?_
  refine W_seq ?_
  refine W_region ?_
  refine ev ?_
  refine WO_nil ?_
  refine thenQ_n ?_
  refine W_seq ?_
  refine W_cond rfl (fun h4 => ?_) (fun h4 => ?_)
  ·
    try simp only [HS] at h4
    refine W_skip ?_
    refine thenQ_n ?_
    refine W_seq ?_
    refine W_block ?_
    refine W_seq ?_
    refine W_region ?_
    first | refine WO_idxT tys rfl rfl (lt_of rfl) rfl rfl rfl rfl rfl rfl rfl (by omega) _ (getT _ _ (by omega) (by omega)) ?_ | refine WO_idxS tys rfl rfl (lt_of rfl) rfl rfl rfl rfl rfl rfl rfl rfl (by omega) (by omega) ?_
    first | (refine ev ?_; try refine WO_le (Le.freeze (u := 53) rfl) ?_) | refine WO_loadL tys rfl rfl (lt_of rfl) rfl rfl rfl rfl (getT _ _ (by omega) (by omega)) rfl ?_ | refine WO_loadL tys rfl rfl (lt_of rfl) rfl rfl rfl rfl (getT0 _ _ (by omega) (by omega)) rfl ?_
    refine WO_norm rfl ?_
    refine WO_alloc tys rfl rfl (lt_of rfl) rfl rfl rfl ?_
    refine WO_norm rfl ?_
    refine WO_store tys rfl rfl rfl rfl rfl rfl rfl rfl (lt_of rfl) ?_
    refine WO_norm rfl ?_
    refine WO_nil ?_
    refine thenQ_n ?_
    refine W_regionGm 6 mixed rfl (by kernel_rfl) (by kernel_rfl) ?_
    refine QG_ev tys rfl rfl (lt_of rfl) rfl ?_
    refine QG_norm rfl ?_
    refine QG_ev tys rfl rfl (lt_of rfl) rfl ?_
    first | refine QG_evZ tys rfl rfl (lt_of rfl) rfl rfl ?_ | refine QG_ev tys rfl rfl (lt_of rfl) rfl ?_ | refine WO_loadMove tys rfl rfl (lt_of rfl) rfl rfl rfl rfl rfl rfl ?_
    refine QG_ev tys rfl rfl (lt_of rfl) rfl ?_
    refine callBG ?_
    refine ⟨_, l21Moved_fun (p.funcs[j.toNat]'(by omega)) (upL p.funcs.length) (func_ok hp (by omega)) (goodP_seqs h1 (upL_len _) _ (List.getElem_mem _)) (by rw [upL_len]; omega), rfl, ?_⟩
    refine QG_buildS tys [(movF (upL p.funcs.length) (p.funcs[j.toNat]'(by omega))).tt] rfl rfl (lt_of rfl) rfl rfl rfl rfl rfl (lt_of rfl) (by repeat (first | exact PartsOk.nil' | refine PartsOk.cons' rfl (by repeat (first | exact AbsL.nil' | refine AbsL.v' ?_ | refine AbsL.own' ?_ | refine AbsL.none' ?_)) rfl ?_)) rfl rfl rfl (by decide) ?_
    refine QG_nil ?_
    refine ⟨by kernel_rfl, ?_⟩
    refine WO_norm rfl ?_
    refine WO_le (Le.adoptE (u := 59) 59 rfl rfl) ?_
    refine WO_norm rfl ?_
    first | refine WO_append tys rfl rfl (lt_of rfl) rfl rfl rfl rfl rfl (.own rfl (by first | omega | (simp only [List.length_append]; omega))) rfl (.own rfl (by first | decide | omega)) (by decide) (by simp only [List.length_take, List.length_cons, List.length_nil]; rw [hxs, List.length_map, List.length_cons, List.length_map, List.length_take]; omega) (by decide) rfl ?_ | refine WO_append tys rfl rfl (lt_of rfl) rfl rfl rfl rfl rfl .nil rfl (.own rfl (by first | decide | omega)) (by decide) (by simp only [List.length_take, List.length_cons, List.length_nil]; rw [hxs, List.length_map, List.length_cons, List.length_map, List.length_take]; omega) (by decide) rfl ?_
    refine WO_norm rfl ?_
    refine ev ?_
    refine WO_store tys rfl rfl rfl rfl rfl rfl rfl rfl (lt_of rfl) ?_
    refine WO_norm rfl ?_
    refine WO_nil ?_
    refine inBlk_n ?_
    refine thenQ_n ?_
    refine W_region ?_
    refine evI ?_
    refine ev ?_
    refine WO_nil ?_
    refine loopQ_n (_, _, _) (by (try dsimp only); repeat (first | exact Sub.nil' | refine Sub.cons' rfl ?_ )) (by (try dsimp only); repeat (first | exact SubM.nil' | refine SubM.cons' rfl ?_ )) ?_ ?_
    · try dsimp only
      subst hm2
      refine ⟨by omega, by omega, by simp, ?_⟩
      rw [List.take_length, hxs, take_at hj0 (by omega), List.map_append, List.map_cons, List.map_cons, List.map_append, List.map_cons, List.map_nil]
      rfl
    · (show Int.toNat _ < Int.toNat _); omega
  try simp only [HS] at h4
  refine W_exit ?_
  refine thenQ_e ?_
  refine loopQ_e ?_
  refine inBlk_y ?_
  refine thenQ_n ?_
  refine W_seq ?_
  refine W_region ?_
  refine WO_buildSlice tys [T.int 0] rfl rfl (lt_of rfl) rfl rfl rfl rfl rfl (lt_of rfl) (by repeat (first | exact PartsOk.nil' | refine PartsOk.cons' rfl (by repeat (first | exact AbsL.nil' | refine AbsL.v' ?_ | refine AbsL.own' ?_ | refine AbsL.none' ?_)) rfl ?_)) (by first | exact List.nodup_nil | exact nodup1 _ | decide | exact nodupB_sound rfl) rfl (by decide) ?_
  refine WO_norm rfl ?_
  refine WO_le (Le.gather (u := 63) (id := 63) rfl rfl (by first | (simp; done) | (simp; omega) | omega)) ?_
  refine WO_norm rfl ?_
  refine WO_struct tys rfl rfl (lt_of rfl) rfl rfl rfl (by kernel_rfl) rfl rfl rfl rfl rfl rfl ?_
  refine WO_buildSlice tys [(Tok.tt ⟨10, 0⟩)] rfl rfl (lt_of rfl) rfl rfl rfl rfl rfl (lt_of rfl) (by repeat (first | exact PartsOk.nil' | refine PartsOk.cons' rfl (by repeat (first | exact AbsL.nil' | refine AbsL.v' ?_ | refine AbsL.own' ?_ | refine AbsL.none' ?_)) rfl ?_)) (by first | exact List.nodup_nil | exact nodup1 _ | decide | exact nodupB_sound rfl) rfl (by decide) ?_
  refine WO_norm rfl ?_
  refine WO_le (Le.gather (u := 65) (id := 65) rfl rfl (by first | (simp; done) | (simp; omega) | omega)) ?_
  refine WO_norm rfl ?_
  refine WO_struct tys rfl rfl (lt_of rfl) rfl rfl rfl (by kernel_rfl) rfl rfl rfl rfl rfl rfl ?_
  refine WO_buildSlice tys [(Stmt.tt ⟨2, 0, [⟨10, 0⟩], [], []⟩)] rfl rfl (lt_of rfl) rfl rfl rfl rfl rfl (lt_of rfl) (by repeat (first | exact PartsOk.nil' | refine PartsOk.cons' rfl (by repeat (first | exact AbsL.nil' | refine AbsL.v' ?_ | refine AbsL.own' ?_ | refine AbsL.none' ?_)) rfl ?_)) (by first | exact List.nodup_nil | exact nodup1 _ | decide | exact nodupB_sound rfl) rfl (by decide) ?_
  refine WO_norm rfl ?_
  refine WO_le (Le.gather (u := 67) (id := 67) rfl rfl (by first | (simp; done) | (simp; omega) | omega)) ?_
  refine WO_norm rfl ?_
  refine WO_struct tys rfl rfl (lt_of rfl) rfl rfl rfl (by kernel_rfl) rfl rfl rfl rfl rfl rfl ?_
  refine WO_alloc tys rfl rfl (lt_of rfl) rfl rfl rfl ?_
  refine WO_norm rfl ?_
  refine WO_store tys rfl rfl rfl rfl rfl rfl rfl rfl (lt_of rfl) ?_
  refine WO_norm rfl ?_
  refine WO_keep [2, 3, 8, 11] rfl ?_
  refine WO_nil ?_
  refine thenQ_n ?_
  refine W_seq ?_
  refine W_region ?_
  refine ev ?_
  refine ev ?_
  first | (refine ev ?_; try refine WO_le (Le.freeze (u := 71) rfl) ?_) | refine WO_loadMove tys rfl rfl (lt_of rfl) rfl rfl rfl rfl rfl rfl ?_
  refine WO_norm rfl ?_
  refine WO_buildSlice tys [lastF.tt] rfl rfl (lt_of rfl) rfl rfl rfl rfl rfl (lt_of rfl) (by repeat (first | exact PartsOk.nil' | refine PartsOk.cons' rfl (by repeat (first | exact AbsL.nil' | refine AbsL.v' ?_ | refine AbsL.own' ?_ | refine AbsL.none' ?_)) rfl ?_)) (by first | exact List.nodup_nil | exact nodup1 _ | decide | exact nodupB_sound rfl) rfl (by decide) ?_
  refine WO_norm rfl ?_
  first | refine WO_append tys rfl rfl (lt_of rfl) rfl rfl rfl rfl rfl (.own rfl (by first | omega | (simp only [List.length_append]; omega))) rfl (.own rfl (by first | decide | omega)) (by decide) (by simp only [List.length_take, List.length_cons, List.length_nil]; rw [hxs, List.length_map, List.length_cons, List.length_map, List.length_take]; omega) (by decide) rfl ?_ | refine WO_append tys rfl rfl (lt_of rfl) rfl rfl rfl rfl rfl .nil rfl (.own rfl (by first | decide | omega)) (by decide) (by simp only [List.length_take, List.length_cons, List.length_nil]; rw [hxs, List.length_map, List.length_cons, List.length_map, List.length_take]; omega) (by decide) rfl ?_
  refine WO_norm rfl ?_
  refine ev ?_
  refine WO_store tys rfl rfl rfl rfl rfl rfl rfl rfl (lt_of rfl) ?_
  refine WO_norm rfl ?_
  refine WO_nil ?_
  refine thenQ_n ?_
  refine W_seq ?_
  refine W_keep [2, 3, 8] rfl ?_
  refine W_region ?_
  refine WO_norm rfl ?_
  refine WO_le (Le.gatherBox (u := 8) (j := 0) (id := 45) rfl rfl rfl (by simp) rfl) ?_
  refine WO_norm rfl ?_
  first | (refine ev ?_; try refine WO_le (Le.freeze (u := 75) rfl) ?_) | refine WO_loadMove tys rfl rfl (lt_of rfl) rfl rfl rfl rfl rfl rfl ?_
  refine WO_norm rfl ?_
  refine WO_store tys rfl rfl rfl rfl rfl rfl rfl rfl (lt_of rfl) ?_
  refine WO_norm rfl ?_
  refine ev ?_
  refine WO_nil ?_
  refine thenQ_n ?_
  try (refine W_le (Le.nilBox (u := 2) (j := 0) 4 rfl rfl) ?_; refine W_norm rfl ?_)
  refine W_ret ?_
  refine Ends_of (.inr rfl) (ret_okF rfl) (by decide) rfl ?_
  · first
    | exact guard_no (by rw [guardB, h1]; rfl)
    | exact guard_no (by rw [guardB, h1, decide_eq_false (by omega)]; rfl)
    | exact guard_yes (by rw [guardB, h1, decide_eq_true h2]; rfl) (by
       rw [← mov_up h1 h2, hm2, List.take_length, ← List.length_append, List.take_length, hxs, take_end (by omega), ← List.cons_append, List.map_append]; rfl)

theorem implGuard_fun (p : Prog) (hp : p.ok 1048576) : Fun Try.prog 47 [.t p.tt] (tupD [.agg [.own (T.Funcs (guardR p).funcs)], .t (.bool (guardB p))]) := by
  have hpl : p.funcs.length ≤ 1048576 := hp.1.1
  refine Fun.begin tys Try.func47 rfl rfl (N := 50) [(0, .t p.tt)] rfl rfl (fun w0 G F0 => ?_)
  refine W_seq ?_
  refine W_region ?_
  refine WO_box rfl rfl (lt_of rfl) rfl rfl ?_
  refine WO_norm rfl ?_
  refine WO_alloc tys rfl rfl (lt_of rfl) rfl rfl rfl ?_
  refine WO_norm rfl ?_
  refine ev ?_
  refine WO_nil ?_
  refine thenQ_n ?_
  iterate 2 (refine W_seq ?_)
  refine W_region ?_
  first | (refine ev ?_; try refine WO_le (Le.freeze (u := 8) rfl) ?_) | refine WO_loadMove tys rfl rfl (lt_of rfl) rfl rfl rfl rfl rfl rfl ?_
  refine WO_norm rfl ?_
  refine callB ?_
  refine ⟨_, isProg_fun p hp, rfl, ?_⟩
  refine ev ?_
  refine ev ?_
  refine WO_guard rfl rfl rfl rfl (lt_of rfl) (fun h1 => ?_) (fun h1 => ?_)
  rotate_left
  ·
    try simp only [HS] at h1
    iterate 2 (refine WO_guardN rfl rfl rfl rfl rfl (lt_of rfl) ?_)
    refine WO_keep [1, 2, 3, 11, 14] rfl ?_
    refine WO_guardN rfl rfl rfl rfl rfl (lt_of rfl) ?_
    refine ev ?_
    refine WO_nil ?_
    refine thenQ_n ?_
    refine W_condT rfl ?_
    refine W_seq ?_
    refine W_region ?_
    refine WO_struct tys rfl rfl (lt_of rfl) rfl rfl rfl (by kernel_rfl) rfl rfl rfl rfl rfl rfl ?_
    refine WO_store tys rfl rfl rfl rfl rfl rfl rfl rfl (lt_of rfl) ?_
    refine WO_norm rfl ?_
    refine ev ?_
    refine WO_nil ?_
    refine thenQ_n ?_
    try (refine W_le (Le.nilBox (u := 2) (j := 0) 4 rfl rfl) ?_; refine W_norm rfl ?_)
    refine W_ret ?_
    refine thenQ_r ?_
    refine Ends_of (.inr rfl) (ret_okF rfl) (by decide) rfl ?_
    · first
      | exact guard_no (by rw [guardB, h1]; rfl)
      | exact guard_no (by rw [guardB, h1, decide_eq_false (by omega)]; rfl)
      | exact guard_yes (by rw [guardB, h1, decide_eq_true h2]; rfl) (List.take_of_length_le (by simp [toldF_len]; omega))
  try simp only [HS] at h1
  refine ev ?_
  refine WO_guardY rfl rfl rfl rfl (lt_of rfl) ?_
  refine ev ?_
  refine WO_keep [1, 2, 3, 11, 13] rfl ?_
  refine WO_guardY rfl rfl rfl rfl (lt_of rfl) ?_
  refine evE ?_
  refine WO_guardY rfl rfl rfl rfl (lt_of rfl) ?_
  refine ev ?_
  refine ev ?_
  refine WO_nil ?_
  refine thenQ_n ?_
  refine W_cond rfl (fun h2 => ?_) (fun h2 => ?_)
  ·
    try simp only [HS] at h2
    refine W_seq ?_
    refine W_region ?_
    refine WO_struct tys rfl rfl (lt_of rfl) rfl rfl rfl (by kernel_rfl) rfl rfl rfl rfl rfl rfl ?_
    refine WO_store tys rfl rfl rfl rfl rfl rfl rfl rfl (lt_of rfl) ?_
    refine WO_norm rfl ?_
    refine ev ?_
    refine WO_nil ?_
    refine thenQ_n ?_
    try (refine W_le (Le.nilBox (u := 2) (j := 0) 4 rfl rfl) ?_; refine W_norm rfl ?_)
    refine W_ret ?_
    refine thenQ_r ?_
    refine Ends_of (.inr rfl) (ret_okF rfl) (by decide) rfl ?_
    · first
      | exact guard_no (by rw [guardB, h1]; rfl)
      | exact guard_no (by rw [guardB, h1, decide_eq_false (by omega)]; rfl)
      | exact guard_yes (by rw [guardB, h1, decide_eq_true h2]; rfl) (List.take_of_length_le (by simp [toldF_len]; omega))
  try simp only [HS] at h2
  refine W_skip ?_
  refine thenQ_n ?_
  refine W_seq ?_
  refine W_region ?_
  refine ev ?_
  refine ev ?_
  refine evE ?_
  refine evI ?_
  refine ev ?_
  refine WO_nil ?_
  refine thenQ_n ?_
  refine W_seq ?_
  refine W_keep [1, 2, 3, 4] rfl ?_
  refine W_region ?_
  first | (refine ev ?_; try refine WO_le (Le.freeze (u := 22) rfl) ?_) | refine WO_loadMove tys rfl rfl (lt_of rfl) rfl rfl rfl rfl rfl rfl ?_
  refine WO_norm rfl ?_
  refine callB ?_
  refine ⟨_, cloneProg_fun p hp, rfl, ?_⟩
  refine WO_alloc tys rfl rfl (lt_of rfl) rfl rfl rfl ?_
  refine WO_norm rfl ?_
  refine WO_store tys rfl rfl rfl rfl rfl rfl rfl rfl (lt_of rfl) ?_
  refine WO_norm rfl ?_
  refine WO_nil ?_
  refine thenQ_n ?_
  refine W_seq ?_
  refine W_region ?_
  refine WO_norm rfl ?_
  refine WO_exposeBox (u := 5) (idp := 134) (j := 0) rfl rfl rfl (fun v => ?_)
  refine WO_norm rfl ?_
  refine ev ?_
  refine WO_norm rfl ?_
  refine WO_buildSlice tys [T.int 1, T.int 2, T.int 3] rfl rfl (lt_of rfl) rfl rfl rfl rfl rfl (lt_of rfl) (by repeat (first | exact PartsOk.nil' | refine PartsOk.cons' rfl (by repeat (first | exact AbsL.nil' | refine AbsL.v' ?_ | refine AbsL.own' ?_ | refine AbsL.none' ?_)) rfl ?_)) (by first | exact List.nodup_nil | exact nodup1 _ | decide | exact nodupB_sound rfl) rfl (by decide) ?_
  refine WO_norm rfl ?_
  refine WO_le (Le.gather (u := 25) (id := 25) rfl rfl (by first | (simp; done) | (simp; omega) | omega)) ?_
  refine WO_norm rfl ?_
  refine WO_le (Le.freeze (u := 25) rfl) ?_
  refine WO_norm rfl ?_
  refine WO_writeS (id := 134) (us := [v]) rfl rfl (lt_of rfl) rfl rfl rfl rfl rfl rfl rfl (renumber_w p [1, 2, 3] hp (fun f hf x hx => by have := goodP_seqs h1 (upL_len _) f hf x hx; rw [upL_len] at this; simp; omega) (by simp)) ?_
  refine WO_norm rfl ?_
  refine WO_le (Le.claimBox (u := 5) (idp := 134) (j := 0) rfl rfl rfl rfl) ?_
  refine WO_norm rfl ?_
  refine WO_nil ?_
  refine thenQ_n ?_
  refine W_seq ?_
  refine W_keep [2, 3, 4, 5] rfl ?_
  refine W_region ?_
  refine WO_buildSlice tys [T.int 0, T.int 1] rfl rfl (lt_of rfl) rfl rfl rfl rfl rfl (lt_of rfl) (by repeat (first | exact PartsOk.nil' | refine PartsOk.cons' rfl (by repeat (first | exact AbsL.nil' | refine AbsL.v' ?_ | refine AbsL.own' ?_ | refine AbsL.none' ?_)) rfl ?_)) (by first | exact List.nodup_nil | exact nodup1 _ | decide | exact nodupB_sound rfl) rfl (by decide) ?_
  refine WO_norm rfl ?_
  refine WO_le (Le.gather (u := 27) (id := 27) rfl rfl (by first | (simp; done) | (simp; omega) | omega)) ?_
  refine WO_norm rfl ?_
  refine ev ?_
  iterate 2 (refine WO_struct tys rfl rfl (lt_of rfl) rfl rfl rfl (by kernel_rfl) rfl rfl rfl rfl rfl rfl ?_)
  refine WO_buildSlice tys [(Tok.tt ⟨11, 1⟩)] rfl rfl (lt_of rfl) rfl rfl rfl rfl rfl (lt_of rfl) (by repeat (first | exact PartsOk.nil' | refine PartsOk.cons' rfl (by repeat (first | exact AbsL.nil' | refine AbsL.v' ?_ | refine AbsL.own' ?_ | refine AbsL.none' ?_)) rfl ?_)) (by first | exact List.nodup_nil | exact nodup1 _ | decide | exact nodupB_sound rfl) rfl (by decide) ?_
  refine WO_norm rfl ?_
  refine WO_le (Le.gather (u := 31) (id := 31) rfl rfl (by first | (simp; done) | (simp; omega) | omega)) ?_
  refine WO_norm rfl ?_
  refine WO_struct tys rfl rfl (lt_of rfl) rfl rfl rfl (by kernel_rfl) rfl rfl rfl rfl rfl rfl ?_
  refine WO_buildSlice tys [(Stmt.tt ⟨3, (p.funcs.length : Int) + 1, [], [], []⟩), (Stmt.tt ⟨9, 0, [⟨11, 1⟩], [], []⟩)] rfl rfl (lt_of rfl) rfl rfl rfl rfl rfl (lt_of rfl) (by repeat (first | exact PartsOk.nil' | refine PartsOk.cons' rfl (by repeat (first | exact AbsL.nil' | refine AbsL.v' ?_ | refine AbsL.own' ?_ | refine AbsL.none' ?_)) rfl ?_)) (by first | exact List.nodup_nil | exact nodup1 _ | decide | exact nodupB_sound rfl) rfl (by decide) ?_
  refine WO_norm rfl ?_
  refine WO_le (Le.gather (u := 33) (id := 33) rfl rfl (by first | (simp; done) | (simp; omega) | omega)) ?_
  refine WO_norm rfl ?_
  refine WO_struct tys rfl rfl (lt_of rfl) rfl rfl rfl (by kernel_rfl) rfl rfl rfl rfl rfl rfl ?_
  refine WO_alloc tys rfl rfl (lt_of rfl) rfl rfl rfl ?_
  refine WO_norm rfl ?_
  refine WO_keep [2, 3, 5, 6, 34] rfl ?_
  refine WO_store tys rfl rfl rfl rfl rfl rfl rfl rfl (lt_of rfl) ?_
  refine WO_norm rfl ?_
  refine WO_nil ?_
  refine thenQ_n ?_
  refine W_seq ?_
  refine W_region ?_
  refine WO_buildSlice tys [T.int 0] rfl rfl (lt_of rfl) rfl rfl rfl rfl rfl (lt_of rfl) (by repeat (first | exact PartsOk.nil' | refine PartsOk.cons' rfl (by repeat (first | exact AbsL.nil' | refine AbsL.v' ?_ | refine AbsL.own' ?_ | refine AbsL.none' ?_)) rfl ?_)) (by first | exact List.nodup_nil | exact nodup1 _ | decide | exact nodupB_sound rfl) rfl (by decide) ?_
  refine WO_norm rfl ?_
  refine WO_le (Le.gather (u := 35) (id := 35) rfl rfl (by first | (simp; done) | (simp; omega) | omega)) ?_
  refine WO_norm rfl ?_
  refine WO_struct tys rfl rfl (lt_of rfl) rfl rfl rfl (by kernel_rfl) rfl rfl rfl rfl rfl rfl ?_
  refine WO_buildSlice tys [(Tok.tt ⟨10, 0⟩)] rfl rfl (lt_of rfl) rfl rfl rfl rfl rfl (lt_of rfl) (by repeat (first | exact PartsOk.nil' | refine PartsOk.cons' rfl (by repeat (first | exact AbsL.nil' | refine AbsL.v' ?_ | refine AbsL.own' ?_ | refine AbsL.none' ?_)) rfl ?_)) (by first | exact List.nodup_nil | exact nodup1 _ | decide | exact nodupB_sound rfl) rfl (by decide) ?_
  refine WO_norm rfl ?_
  refine WO_le (Le.gather (u := 37) (id := 37) rfl rfl (by first | (simp; done) | (simp; omega) | omega)) ?_
  refine WO_norm rfl ?_
  refine WO_struct tys rfl rfl (lt_of rfl) rfl rfl rfl (by kernel_rfl) rfl rfl rfl rfl rfl rfl ?_
  refine WO_buildSlice tys [(Stmt.tt ⟨2, 0, [⟨10, 0⟩], [], []⟩)] rfl rfl (lt_of rfl) rfl rfl rfl rfl rfl (lt_of rfl) (by repeat (first | exact PartsOk.nil' | refine PartsOk.cons' rfl (by repeat (first | exact AbsL.nil' | refine AbsL.v' ?_ | refine AbsL.own' ?_ | refine AbsL.none' ?_)) rfl ?_)) (by first | exact List.nodup_nil | exact nodup1 _ | decide | exact nodupB_sound rfl) rfl (by decide) ?_
  refine WO_norm rfl ?_
  refine WO_le (Le.gather (u := 39) (id := 39) rfl rfl (by first | (simp; done) | (simp; omega) | omega)) ?_
  refine WO_norm rfl ?_
  refine WO_struct tys rfl rfl (lt_of rfl) rfl rfl rfl (by kernel_rfl) rfl rfl rfl rfl rfl rfl ?_
  refine WO_alloc tys rfl rfl (lt_of rfl) rfl rfl rfl ?_
  refine WO_norm rfl ?_
  refine WO_store tys rfl rfl rfl rfl rfl rfl rfl rfl (lt_of rfl) ?_
  refine WO_norm rfl ?_
  refine WO_keep [2, 3, 5, 6, 7] rfl ?_
  refine WO_nil ?_
  refine thenQ_n ?_
  refine W_seq ?_
  refine W_region ?_
  first | (refine ev ?_; try refine WO_le (Le.freeze (u := 41) rfl) ?_) | refine WO_loadMove tys rfl rfl (lt_of rfl) rfl rfl rfl rfl rfl rfl ?_
  refine WO_norm rfl ?_
  refine WO_buildSlice tys [(firstF p.funcs.length).tt] rfl rfl (lt_of rfl) rfl rfl rfl rfl rfl (lt_of rfl) (by repeat (first | exact PartsOk.nil' | refine PartsOk.cons' rfl (by repeat (first | exact AbsL.nil' | refine AbsL.v' ?_ | refine AbsL.own' ?_ | refine AbsL.none' ?_)) rfl ?_)) (by first | exact List.nodup_nil | exact nodup1 _ | decide | exact nodupB_sound rfl) rfl (by decide) ?_
  iterate 2 (refine WO_norm rfl ?_)
  refine WO_le (Le.adoptBox (u := 5) (j := 0) (id := 144) rfl rfl rfl) ?_
  refine WO_norm rfl ?_
  refine ev ?_
  refine ev ?_
  first | (refine ev ?_; try refine WO_le (Le.freeze (u := 45) rfl) ?_) | refine WO_loadMove tys rfl rfl (lt_of rfl) rfl rfl rfl rfl rfl rfl ?_
  refine WO_norm rfl ?_
  refine WO_buildSlice tys [lastF.tt] rfl rfl (lt_of rfl) rfl rfl rfl rfl rfl (lt_of rfl) (by repeat (first | exact PartsOk.nil' | refine PartsOk.cons' rfl (by repeat (first | exact AbsL.nil' | refine AbsL.v' ?_ | refine AbsL.own' ?_ | refine AbsL.none' ?_)) rfl ?_)) (by first | exact List.nodup_nil | exact nodup1 _ | decide | exact nodupB_sound rfl) rfl (by decide) ?_
  iterate 2 (refine WO_norm rfl ?_)
  refine WO_exposeL (id := 42) (idp := 142) rfl rfl (fun vs1 hvs1 => ?_)
  obtain ⟨C1, hC1, hD1, rfl⟩ := cutV (l := [firstF p.funcs.length]) (vs := vs1) (n := 4) (by rw [hvs1]; rfl)
  have hl1 : C1.length = 1 := by have := congrArg List.length hC1; simpa using this
  refine ⟨toldF C1, toldF_flat C1, by rw [toldF_len, hl1]; rfl, toldF_cells hD1, ?_⟩
  refine WO_norm rfl ?_
  refine WO_exposeL (id := 144) (idp := 145) rfl rfl (fun vs2 hvs2 => ?_)
  obtain ⟨C2, hC2, hD2, rfl⟩ := cutV (l := p.funcs.map (movF [1, 2, 3])) (vs := vs2) (n := 4) (by rw [hvs2, List.length_map])
  have hl2 : C2.length = p.funcs.length := by have := congrArg List.length hC2; simpa using this
  refine ⟨toldF C2, toldF_flat C2, by simp [toldF_len, hl2], toldF_cells hD2, ?_⟩
  refine WO_norm rfl ?_
  refine WO_exposeL (id := 46) (idp := 146) rfl rfl (fun vs3 hvs3 => ?_)
  obtain ⟨C3, hC3, hD3, rfl⟩ := cutV (l := [lastF]) (vs := vs3) (n := 4) (by rw [hvs3]; rfl)
  have hl3 : C3.length = 1 := by have := congrArg List.length hC3; simpa using this
  refine ⟨toldF C3, toldF_flat C3, by rw [toldF_len, hl3]; rfl, toldF_cells hD3, ?_⟩
  refine WO_norm rfl ?_
  refine WO_le (Le.rawJoin (p := 142) (q := 145) rfl rfl rfl) ?_
  refine WO_norm rfl ?_
  refine WO_le (Le.rawJoin (p := 142) (q := 146) rfl rfl rfl) ?_
  refine WO_norm rfl ?_
  refine WO_le (Le.gather (u := 42) (id := 42) rfl rfl (by rw [toldF_len, hl1]; exact Nat.le_refl _)) ?_
  refine WO_norm rfl ?_
  refine WO_le (Le.gather (u := 44) (id := 144) rfl rfl (by rw [toldF_len, hl2]; simp)) ?_
  refine WO_norm rfl ?_
  refine WO_le (Le.gather (u := 46) (id := 46) rfl rfl (by rw [toldF_len, hl3]; exact Nat.le_refl _)) ?_
  refine WO_norm rfl ?_
  refine WO_buildSlice tys [(T.list 4 ((toldF C1).take 1)), (T.list 4 ((toldF C2).take ((p.funcs.map (movF [1, 2, 3])).map Func.tt).length)), (T.list 4 ((toldF C3).take 1))] rfl rfl (lt_of rfl) rfl rfl rfl rfl rfl (lt_of rfl) (by repeat (first | exact PartsOk.nil' | refine PartsOk.cons' rfl (by repeat (first | exact AbsL.nil' | refine AbsL.v' ?_ | refine AbsL.own' ?_ | refine AbsL.none' ?_)) rfl ?_)) (by first | exact List.nodup_nil | exact nodup1 _ | decide | exact nodupB_sound rfl) rfl (by decide) ?_
  refine WO_norm rfl ?_
  refine WO_le (Le.gather (u := 47) (id := 47) rfl rfl (by first | (simp; done) | (simp; omega) | omega)) ?_
  refine WO_norm rfl ?_
  refine WO_le (Le.freeze (u := 47) rfl) ?_
  refine WO_norm rfl ?_
  refine callB ?_
  refine ⟨_, Fun.arg0 (concatF_fun [C1, C2, C3] (by simp) (by simp only [List.flatten_cons, List.flatten_nil, List.length_append, List.length_nil]; omega) (by
   intro x hx
   simp only [List.mem_cons, List.not_mem_nil, or_false] at hx
   rcases hx with rfl | rfl | rfl
   · exact hD1
   · exact hD2
   · exact hD3)) (by
   show T.list 1 [T.list 4 ((toldF C1).take 1), T.list 4 ((toldF C2).take ((p.funcs.map (movF [1, 2, 3])).map Func.tt).length), T.list 4 ((toldF C3).take 1)] = _
   rw [List.take_of_length_le (by rw [toldF_len]; omega), List.take_of_length_le (by rw [toldF_len]; simp; omega), List.take_of_length_le (by rw [toldF_len]; omega)]
   rfl), rfl, ?_⟩
  refine WO_le (Le.adoptE (u := 48) 48 rfl (by first | exact lenN | exact rfl)) ?_
  iterate 2 (refine WO_norm rfl ?_)
  refine WO_le (Le.claimAll (id := 48) (idp := 142) (xs := (firstF p.funcs.length :: (p.funcs.map (movF [1, 2, 3]) ++ [lastF])).map Func.tt) (ys := toldF [C1, C2, C3].flatten) rfl rfl (by rw [toldF_flat]; simp [List.flatMap_append]) (by simp [List.flatMap_append]) (by rw [toldF_len]; simp; omega) (cellsF _) rfl) ?_
  refine WO_norm rfl ?_
  refine WO_le (Le.gather (u := 48) (id := 48) rfl rfl (by simp [toldF_len]; omega)) ?_
  refine WO_norm rfl ?_
  refine WO_struct tys rfl rfl (lt_of rfl) rfl rfl rfl (by kernel_rfl) rfl rfl rfl rfl rfl rfl ?_
  refine WO_keep [2, 3, 49] rfl ?_
  refine WO_store tys rfl rfl rfl rfl rfl rfl rfl rfl (lt_of rfl) ?_
  refine WO_norm rfl ?_
  refine ev ?_
  refine WO_nil ?_
  refine thenQ_n ?_
  try (refine W_le (Le.nilBox (u := 2) (j := 0) 4 rfl rfl) ?_; refine W_norm rfl ?_)
  refine W_ret ?_
  refine Ends_of (.inr rfl) (ret_okF rfl) (by decide) rfl ?_
  · first
    | exact guard_no (by rw [guardB, h1]; rfl)
    | exact guard_no (by rw [guardB, h1, decide_eq_false (by omega)]; rfl)
    | exact guard_yes (by rw [guardB, h1, decide_eq_true h2]; rfl) (List.take_of_length_le (by simp [toldF_len]; omega))

end Go.Proofs.Ytjnkcoaiccbmpaa
