/- Walks of slices.Grow and slices.Concat of lists of numbers, and of what DoneIn tells. -/
import Derived.Test.YtbkamkmmljbedaaFs
set_option linter.unusedVariables false
set_option linter.unusedSimpArgs false
set_option maxRecDepth 10000
namespace Go.Proofs.Ytbkamkmmljbedaa
open Go.Eng

theorem grow_fun (n : Int) (h0 : 0 ≤ n) (hn : n ≤ 1073741824) : Fun Try.prog 86 [.nil, .t (.int n)] (tupD [.own (T.ints [])]) := by
  refine Fun.begin tys Try.func86 rfl rfl (N := 27) [(0, .nil), (1, .t (.int n))] rfl rfl (fun w0 G F0 => ?_)
  refine W_seq ?_
  refine W_region ?_
  refine ev ?_
  refine WO_nil ?_
  refine thenQ_n ?_
  iterate 2 (refine W_seq ?_)
  refine W_region ?_
  refine ev ?_
  refine ev ?_
  refine WO_nil ?_
  refine thenQ_n ?_
  refine W_cond rfl (fun h1 => ?_) (fun h1 => ?_)
  ·
    try simp only [HS] at h1
    exfalso; first | omega | (simp_all; done) | (simp_all; omega)
  try simp only [HS] at h1
  refine W_skip ?_
  refine thenQ_n ?_
  iterate 2 (refine W_seq ?_)
  refine W_region ?_
  refine ev ?_
  refine ev ?_
  refine WO_capNil rfl rfl (lt_of rfl) rfl ⟨3, by kernel_rfl⟩ rfl ?_
  refine ev ?_
  refine evE ?_
  refine evI ?_
  refine WO_keep [0, 1, 4, 8, 13] rfl ?_
  refine evI ?_
  refine ev ?_
  refine WO_nil ?_
  refine thenQ_n ?_
  refine W_seq ?_
  refine W_region ?_
  refine ev ?_
  refine ev ?_
  refine WO_nil ?_
  refine thenQ_n ?_
  refine W_cond rfl (fun h2 => ?_) (fun h2 => ?_)
  ·
    try simp only [HS] at h2
    refine W_region ?_
    refine ev ?_
    refine ev ?_
    refine WO_capNil rfl rfl (lt_of rfl) rfl ⟨3, by kernel_rfl⟩ rfl ?_
    first | refine WO_sliceNil tys rfl rfl (lt_of rfl) rfl rfl rfl rfl rfl rfl rfl ?_ | refine WO_sliceT tys rfl rfl (lt_of rfl) rfl rfl rfl rfl rfl rfl rfl rfl (by first | omega | (simp only [List.length_map]; omega)) (by first | omega | (simp only [List.length_map]; omega)) (by first | omega | (simp only [List.length_map]; omega)) ?_ | refine WO_sliceS tys rfl rfl (lt_of rfl) rfl rfl rfl rfl rfl rfl rfl rfl rfl (by omega) (by omega) (by omega) ?_
    refine ev ?_
    refine WO_keep [0, 4, 20, 21] rfl ?_
    refine WO_growNil tys (.v (.int .i64 0)) rfl rfl (lt_of rfl) rfl rfl rfl rfl (by kernel_rfl) rfl rfl (by repeat (first | exact AbsL.nil' | refine AbsL.v' ?_ | refine AbsL.none' ?_)) rfl (by decide) (by omega) (by omega) (by decide) ?_
    refine WO_norm rfl ?_
    refine ev ?_
    refine evE ?_
    first | refine WO_sliceNil tys rfl rfl (lt_of rfl) rfl rfl rfl rfl rfl rfl rfl ?_ | refine WO_sliceT tys rfl rfl (lt_of rfl) rfl rfl rfl rfl rfl rfl rfl rfl (by first | omega | (simp only [List.length_map]; omega)) (by first | omega | (simp only [List.length_map]; omega)) (by first | omega | (simp only [List.length_map]; omega)) ?_ | refine WO_sliceS tys rfl rfl (lt_of rfl) rfl rfl rfl rfl rfl rfl rfl rfl rfl (by omega) (by omega) (by omega) ?_
    refine ev ?_
    refine WO_nil ?_
    refine thenQ_n ?_
    refine W_seq ?_
    refine W_region ?_
    refine ev ?_
    refine ev ?_
    refine WO_nil ?_
    refine thenQ_n ?_
    first | refine W_le (Le.gather (u := 4) (id := 22) rfl rfl (by simp)) ?_ | refine W_le (Le.nilOwn (u := 4) 1 rfl) ?_
    refine W_ret ?_
    refine Ends_of (.inr rfl) (ret_okF rfl) (by decide) rfl ?_
    · rfl
  try simp only [HS] at h2
  refine W_skip ?_
  refine thenQ_n ?_
  refine W_seq ?_
  refine W_region ?_
  refine ev ?_
  refine ev ?_
  refine WO_nil ?_
  refine thenQ_n ?_
  first | refine W_le (Le.gather (u := 4) (id := 22) rfl rfl (by simp)) ?_ | refine W_le (Le.nilOwn (u := 4) 1 rfl) ?_
  refine W_ret ?_
  refine Ends_of (.inr rfl) (ret_okF rfl) (by decide) rfl ?_
  · rfl

theorem read_ints (l : List Int) : ∀ x, x ∈ l.map T.int → (T.cells x).length = 1 ∧ ∀ y, y ∈ T.cells x → ∃ v, y = .v v := by
  intro x hx
  obtain ⟨n, _, rfl⟩ := List.mem_map.1 hx
  exact ⟨rfl, fun y hy => by simp [T.cells] at hy; exact ⟨_, hy⟩⟩

theorem concat_fun (l : List (List Int)) (hl : l.length ≤ 1048576) (hs : l.flatten.length ≤ 1048576) : Fun Try.prog 45 [.t (intss l)] (tupD [.own (T.ints l.flatten)]) := by
  refine Fun.begin tys Try.func45 rfl rfl (N := 36) [(0, .t (intss l))] rfl rfl (fun w0 G F0 => ?_)
  refine W_seq ?_
  refine W_region ?_
  refine ev ?_
  refine WO_nil ?_
  refine thenQ_n ?_
  refine W_seq ?_
  refine W_region ?_
  refine ev ?_
  refine WO_nil ?_
  refine thenQ_n ?_
  iterate 2 (refine W_seq ?_)
  refine W_region ?_
  refine ev ?_
  refine evE ?_
  refine ev ?_
  refine WO_nil ?_
  refine thenQ_n ?_
  refine W_block ?_
  refine W_loopK (α := Int × Int) [0, 9, 10] [] (fun (x : Int × Int) => [(11, .t (.int (x.1))), (3, .t (.int (x.2)))]) (fun (x : Int × Int) => []) (fun (x : Int × Int) => 0 ≤ (x.1) ∧ (x.1) ≤ l.length ∧ 0 ≤ (x.2) ∧ (x.2) + (l.drop (x.1).toNat).flatten.length = l.flatten.length) (fun (x : Int × Int) => Int.toNat (l.length - (x.1))) (0, 0) ?_ ?_ ?_ (fun x hx => ?_)
  · repeat (first | exact Sub.nil' | refine Sub.cons' rfl ?_ )
  · repeat (first | exact SubM.nil' | refine SubM.cons' rfl ?_ )
  · exact ⟨by omega, by omega, by omega, by simp⟩
  obtain ⟨k, n⟩ := x
  obtain ⟨hk0, hk1, hk2, hk⟩ := hx
  try dsimp only at hk0 hk1 hk2 hk ⊢
  refine W_norm rfl ?_
  refine W_seq ?_
  refine W_region ?_
  refine ev ?_
  refine WO_nil ?_
  refine thenQ_n ?_
  refine W_seq ?_
  refine W_cond rfl (fun h1 => ?_) (fun h1 => ?_)
  ·
    try simp only [HS] at h1
    refine W_skip ?_
    refine thenQ_n ?_
    refine W_seq ?_
    refine W_block ?_
    refine W_seq ?_
    refine W_region ?_
    first | refine WO_idxT tys rfl rfl (lt_of rfl) rfl rfl rfl rfl rfl rfl rfl (by omega) _ (getT _ _ (by omega) (by omega)) ?_ | refine WO_idxS tys rfl rfl (lt_of rfl) rfl rfl rfl rfl rfl rfl rfl rfl (by omega) (by omega) ?_
    first | refine ev ?_ | refine WO_loadL tys rfl rfl (lt_of rfl) rfl rfl rfl rfl (getT _ _ (by omega) (by omega)) rfl ?_ | refine WO_loadL tys rfl rfl (lt_of rfl) rfl rfl rfl rfl (getT0 _ _ (by omega) (by omega)) rfl ?_
    refine ev ?_
    refine WO_nil ?_
    refine thenQ_n ?_
    refine W_seq ?_
    refine W_region ?_
    refine ev ?_
    refine ev ?_
    refine evE ?_
    have hk3 := flat_at hk0 h1
    have hk4 := congrArg List.length hk3
    simp only [List.length_append] at hk4
    refine WO_int tys rfl rfl (lt_of rfl) rfl (wrap_id (by omega) (by omega)) ?_
    refine ev ?_
    refine WO_keep [0, 3, 5, 9, 10, 11, 12, 13, 14, 15, 16, 17, 18] rfl ?_
    refine WO_nil ?_
    refine thenQ_n ?_
    refine W_seq ?_
    refine W_region ?_
    refine ev ?_
    refine ev ?_
    refine WO_nil ?_
    refine thenQ_n ?_
    refine W_cond rfl (fun h2 => ?_) (fun h2 => ?_)
    ·
      try simp only [HS] at h2
      exfalso; first | omega | (simp_all; done) | (simp_all; omega)
    try simp only [HS] at h2
    refine W_skip ?_
    refine inBlk_n ?_
    refine thenQ_n ?_
    refine W_region ?_
    refine evI ?_
    refine ev ?_
    refine WO_nil ?_
    refine loopQ_n (_, _) (by (try dsimp only); repeat (first | exact Sub.nil' | refine Sub.cons' rfl ?_ )) (by (try dsimp only); repeat (first | exact SubM.nil' | refine SubM.cons' rfl ?_ )) ?_ ?_
    · try dsimp only
      exact ⟨by omega, by omega, by omega, by omega⟩
    · (show Int.toNat _ < Int.toNat _); omega
  try simp only [HS] at h1
  refine W_exit ?_
  refine thenQ_e ?_
  refine loopQ_e ?_
  refine inBlk_y ?_
  refine thenQ_n ?_
  refine W_seq ?_
  refine W_region ?_
  refine ev ?_
  refine callB ?_
  refine ⟨_, grow_fun _ (by omega) (by omega), rfl, ?_⟩
  refine WO_le (Le.adoptE (u := 24) 24 rfl (by first | exact lenN | exact rfl)) ?_
  refine WO_norm rfl ?_
  refine ev ?_
  refine WO_nil ?_
  refine thenQ_n ?_
  iterate 2 (refine W_seq ?_)
  refine W_region ?_
  refine ev ?_
  refine evE ?_
  refine ev ?_
  refine WO_nil ?_
  refine thenQ_n ?_
  refine W_block ?_
  refine W_loopK (α := Int × Nat × List T) [0, 25, 26] [] (fun (x : Int × Nat × List T) => [(27, .t (.int (x.1))), (6, .sl 24 0 (x.2.1))]) (fun (x : Int × Nat × List T) => [(24, .L 1 (x.2.2))]) (fun (x : Int × Nat × List T) => 0 ≤ (x.1) ∧ (x.1) ≤ l.length ∧ (x.2.1) = (x.2.2).length ∧ (x.2.2) = (l.take (x.1).toNat).flatten.map T.int) (fun (x : Int × Nat × List T) => Int.toNat (l.length - (x.1))) (0, 0, []) ?_ ?_ ?_ (fun x hx => ?_)
  · repeat (first | exact Sub.nil' | refine Sub.cons' rfl ?_ )
  · repeat (first | exact SubM.nil' | refine SubM.cons' rfl ?_ )
  · exact ⟨by omega, by omega, by simp, by simp⟩
  obtain ⟨j, m, xs⟩ := x
  obtain ⟨hj0, hj1, hj2, hj3⟩ := hx
  try dsimp only at hj0 hj1 hj2 hj3 ⊢
  refine W_norm rfl ?_
  refine W_seq ?_
  refine W_region ?_
  refine ev ?_
  refine WO_nil ?_
  refine thenQ_n ?_
  refine W_seq ?_
  refine W_cond rfl (fun h2 => ?_) (fun h2 => ?_)
  ·
    try simp only [HS] at h2
    refine W_skip ?_
    refine thenQ_n ?_
    refine W_seq ?_
    refine W_block ?_
    refine W_seq ?_
    refine W_region ?_
    first | refine WO_idxT tys rfl rfl (lt_of rfl) rfl rfl rfl rfl rfl rfl rfl (by omega) _ (getT _ _ (by omega) (by omega)) ?_ | refine WO_idxS tys rfl rfl (lt_of rfl) rfl rfl rfl rfl rfl rfl rfl rfl (by omega) (by omega) ?_
    first | refine ev ?_ | refine WO_loadL tys rfl rfl (lt_of rfl) rfl rfl rfl rfl (getT _ _ (by omega) (by omega)) rfl ?_ | refine WO_loadL tys rfl rfl (lt_of rfl) rfl rfl rfl rfl (getT0 _ _ (by omega) (by omega)) rfl ?_
    refine ev ?_
    refine WO_nil ?_
    refine thenQ_n ?_
    refine W_region ?_
    refine ev ?_
    refine ev ?_
    first | refine WO_append tys rfl rfl (lt_of rfl) rfl rfl rfl rfl rfl (.own rfl (by first | omega | (simp only [List.length_append]; omega))) rfl (.read (read_ints _)) (by decide) (by have hq := flat_take_len (l := l) j.toNat; rw [flat_at hj0 (by omega)] at hq; simp only [hj3, List.length_append, List.length_take, List.length_map, List.length_nil] at hq ⊢; omega) (by decide) rfl ?_ | refine WO_append tys rfl rfl (lt_of rfl) rfl rfl rfl rfl rfl .nil rfl (.read (read_ints _)) (by decide) (by have hq := flat_take_len (l := l) j.toNat; rw [flat_at hj0 (by omega)] at hq; simp only [hj3, List.length_append, List.length_take, List.length_map, List.length_nil] at hq ⊢; omega) (by decide) rfl ?_
    refine WO_norm rfl ?_
    refine ev ?_
    refine WO_nil ?_
    refine inBlk_n ?_
    refine thenQ_n ?_
    refine W_keep [0, 6, 8, 25, 26, 27, 28, 29, 30, 31, 32, 33] rfl ?_
    refine W_region ?_
    refine evI ?_
    refine ev ?_
    refine WO_nil ?_
    refine loopQ_n (_, _, _) (by (try dsimp only); repeat (first | exact Sub.nil' | refine Sub.cons' rfl ?_ )) (by (try dsimp only); repeat (first | exact SubM.nil' | refine SubM.cons' rfl ?_ )) ?_ ?_
    · try dsimp only
      exact ⟨by omega, by omega, by simp [hj2], by rw [hj2, List.take_of_length_le (Nat.le_refl _), flat_take_at hj0 (by omega), List.map_append, ← hj3]⟩
    · (show Int.toNat _ < Int.toNat _); omega
  try simp only [HS] at h2
  refine W_exit ?_
  refine thenQ_e ?_
  refine loopQ_e ?_
  refine inBlk_y ?_
  refine thenQ_n ?_
  refine W_seq ?_
  refine W_region ?_
  refine ev ?_
  refine ev ?_
  refine WO_nil ?_
  refine thenQ_n ?_
  refine W_le (Le.gather (u := 2) (id := 24) rfl rfl (by omega)) ?_
  refine W_ret ?_
  refine Ends_of (.inr rfl) (ret_okF rfl) (by decide) rfl ?_
  · rw [hj2, List.take_of_length_le (Nat.le_refl _), hj3, take_end (by omega)]; rfl

/-- What is true of counts. -/
def CntOk (ll : List (List Int)) : Prop := ll.length ≤ 5 ∧ ∀ l, l ∈ ll → l.length ≤ 300 ∧ ∀ n, n ∈ l → 0 ≤ n ∧ n ≤ 1000000
theorem cnt_mem {ll : List (List Int)} (h : cnt ll = true) : CntOk ll := by
  unfold cnt at h
  rw [Bool.and_eq_true, decide_eq_true_eq, List.all_eq_true] at h
  refine ⟨by omega, fun l hl => ?_⟩
  have := h.2 l hl
  rw [Bool.and_eq_true, decide_eq_true_eq, allIn, List.all_eq_true] at this
  exact ⟨by omega, fun n hn => by simpa using this.2 n hn⟩
theorem flat_le {α : Type} {m : Nat} : ∀ {ll : List (List α)}, (∀ l, l ∈ ll → l.length ≤ m) → ll.flatten.length ≤ ll.length * m
  | [], _ => by simp
  | l :: ll, h => by
    have h1 := h l (List.mem_cons_self ..)
    have h2 := flat_le fun x hx => h x (List.mem_cons_of_mem l hx)
    rw [List.flatten_cons, List.length_append, List.length_cons, Nat.add_mul]
    omega
theorem sum_at {l : List Int} {k : Int} (h0 : 0 ≤ k) (h1 : k < l.length) : (l.drop k.toNat).sum = l[k.toNat]'(by omega) + (l.drop (k + 1).toNat).sum := by
  rw [drop_at h0 h1, List.sum_cons]
theorem sum_flat_at {l : List (List Int)} {k : Int} (h0 : 0 ≤ k) (h1 : k < l.length) : (l.drop k.toNat).flatten.sum = (l[k.toNat]'(by omega)).sum + (l.drop (k + 1).toNat).flatten.sum := by
  rw [flat_at h0 h1, List.sum_append]

/-- How many steps were counted. -/
def doneIn (ll : List (List Int)) : Int := if cnt ll then ll.flatten.sum else 0




end Go.Proofs.Ytbkamkmmljbedaa
