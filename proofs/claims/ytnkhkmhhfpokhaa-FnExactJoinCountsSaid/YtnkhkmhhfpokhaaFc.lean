/- Walks of slices.Grow and slices.Concat of lists of numbers, and of what DoneIn tells. -/
import Derived.Test.YtnkhkmhhfpokhaaFs
set_option linter.unusedVariables false
set_option linter.unusedSimpArgs false
set_option maxRecDepth 10000
namespace Go.Proofs.Ytnkhkmhhfpokhaa
open Go.Eng

theorem grow_fun (n : Int) (h0 : 0 ≤ n) (hn : n ≤ 1073741824) : Fun Try.prog 65 [.nil, .t (.int n)] (tupD [.own (T.ints [])]) := by
  refine Fun.begin tys Try.func65 rfl rfl (N := 27) [(0, .nil), (1, .t (.int n))] rfl rfl (fun w0 G F0 => ?_)
  refine W_seq ?_
  refine W_region ?_
  refine ev ?_
  refine WO_nil ?_
  refine thenQ_n ?_
  refine W_seq ?_
  refine W_seq ?_
  refine W_region ?_
  refine ev ?_
  refine ev ?_
  refine WO_nil ?_
  refine thenQ_n ?_
  refine W_cond rfl (fun h1 => ?_) (fun h1 => ?_)
  ·
    try simp only [HS] at h1
    exfalso; first | omega | (simp_all; done) | (simp_all; omega)
  try simp only [HS] at h1
  refine W_skip ?_
  refine thenQ_n ?_
  refine W_seq ?_
  refine W_seq ?_
  refine W_region ?_
  refine ev ?_
  refine ev ?_
  refine WO_capNil rfl rfl (lt_of rfl) rfl ⟨3, by kernel_rfl⟩ rfl ?_
  refine ev ?_
  refine evE ?_
  refine evI ?_
  refine WO_keep [0, 1, 4, 8, 13] rfl ?_
  refine evI ?_
  refine ev ?_
  refine WO_nil ?_
  refine thenQ_n ?_
  refine W_seq ?_
  refine W_region ?_
  refine ev ?_
  refine ev ?_
  refine WO_nil ?_
  refine thenQ_n ?_
  refine W_cond rfl (fun h2 => ?_) (fun h2 => ?_)
  ·
    try simp only [HS] at h2
    refine W_region ?_
    refine ev ?_
    refine ev ?_
    refine WO_capNil rfl rfl (lt_of rfl) rfl ⟨3, by kernel_rfl⟩ rfl ?_
    first | refine WO_sliceNil tys rfl rfl (lt_of rfl) rfl rfl rfl rfl rfl rfl rfl ?_ | refine WO_sliceT tys rfl rfl (lt_of rfl) rfl rfl rfl rfl rfl rfl rfl rfl (by first | omega | (simp only [List.length_map]; omega)) (by first | omega | (simp only [List.length_map]; omega)) (by first | omega | (simp only [List.length_map]; omega)) ?_ | refine WO_sliceS tys rfl rfl (lt_of rfl) rfl rfl rfl rfl rfl rfl rfl rfl rfl (by omega) (by omega) (by omega) ?_
    refine ev ?_
    refine WO_keep [0, 4, 20, 21] rfl ?_
    refine WO_growNil tys (.v (.int .i64 0)) rfl rfl (lt_of rfl) rfl rfl rfl rfl (by kernel_rfl) rfl rfl (by repeat (first | exact AbsL.nil' | refine AbsL.v' ?_ | refine AbsL.none' ?_)) rfl (by decide) (by omega) (by omega) (by decide) ?_
    refine WO_norm rfl ?_
    refine ev ?_
    refine evE ?_
    first | refine WO_sliceNil tys rfl rfl (lt_of rfl) rfl rfl rfl rfl rfl rfl rfl ?_ | refine WO_sliceT tys rfl rfl (lt_of rfl) rfl rfl rfl rfl rfl rfl rfl rfl (by first | omega | (simp only [List.length_map]; omega)) (by first | omega | (simp only [List.length_map]; omega)) (by first | omega | (simp only [List.length_map]; omega)) ?_ | refine WO_sliceS tys rfl rfl (lt_of rfl) rfl rfl rfl rfl rfl rfl rfl rfl rfl (by omega) (by omega) (by omega) ?_
    refine ev ?_
    refine WO_nil ?_
    refine thenQ_n ?_
    refine W_seq ?_
    refine W_region ?_
    refine ev ?_
    refine ev ?_
    refine WO_nil ?_
    refine thenQ_n ?_
    first | refine W_le (Le.gather (u := 4) (id := 22) rfl rfl (by simp)) ?_ | refine W_le (Le.nilOwn (u := 4) 1 rfl) ?_
    refine W_ret ?_
    refine Ends_of (.inr rfl) (ret_okF rfl) (by decide) rfl ?_
    · rfl
  try simp only [HS] at h2
  refine W_skip ?_
  refine thenQ_n ?_
  refine W_seq ?_
  refine W_region ?_
  refine ev ?_
  refine ev ?_
  refine WO_nil ?_
  refine thenQ_n ?_
  first | refine W_le (Le.gather (u := 4) (id := 22) rfl rfl (by simp)) ?_ | refine W_le (Le.nilOwn (u := 4) 1 rfl) ?_
  refine W_ret ?_
  refine Ends_of (.inr rfl) (ret_okF rfl) (by decide) rfl ?_
  · rfl

theorem read_ints (l : List Int) : ∀ x, x ∈ l.map T.int → (T.cells x).length = 1 ∧ ∀ y, y ∈ T.cells x → ∃ v, y = .v v := by
  intro x hx
  obtain ⟨n, _, rfl⟩ := List.mem_map.1 hx
  exact ⟨rfl, fun y hy => by simp [T.cells] at hy; exact ⟨_, hy⟩⟩

theorem concat_fun (l : List (List Int)) (hl : l.length ≤ 1048576) (hs : l.flatten.length ≤ 1048576) : Fun Try.prog 34 [.t (intss l)] (tupD [.own (T.ints l.flatten)]) := by
  refine Fun.begin tys Try.func34 rfl rfl (N := 36) [(0, .t (intss l))] rfl rfl (fun w0 G F0 => ?_)
  refine W_seq ?_
  refine W_region ?_
  refine ev ?_
  refine WO_nil ?_
  refine thenQ_n ?_
  refine W_seq ?_
  refine W_region ?_
  refine ev ?_
  refine WO_nil ?_
  refine thenQ_n ?_
  refine W_seq ?_
  refine W_seq ?_
  refine W_region ?_
  refine ev ?_
  refine evE ?_
  refine ev ?_
  refine WO_nil ?_
  refine thenQ_n ?_
  refine W_block ?_
  refine W_loopK (α := Int × Int) [0, 9, 10] [] (fun (x : Int × Int) => [(11, .t (.int (x.1))), (3, .t (.int (x.2)))]) (fun (x : Int × Int) => []) (fun (x : Int × Int) => 0 ≤ (x.1) ∧ (x.1) ≤ l.length ∧ 0 ≤ (x.2) ∧ (x.2) + (l.drop (x.1).toNat).flatten.length = l.flatten.length) (fun (x : Int × Int) => Int.toNat (l.length - (x.1))) (0, 0) ?_ ?_ ?_ (fun x hx => ?_)
  · repeat (first | exact Sub.nil' | refine Sub.cons' rfl ?_ )
  · repeat (first | exact SubM.nil' | refine SubM.cons' rfl ?_ )
  · exact ⟨by omega, by omega, by omega, by simp⟩
  obtain ⟨k, n⟩ := x
  obtain ⟨hk0, hk1, hk2, hk⟩ := hx
  try dsimp only at hk0 hk1 hk2 hk ⊢
  refine W_norm rfl ?_
  refine W_seq ?_
  refine W_region ?_
  refine ev ?_
  refine WO_nil ?_
  refine thenQ_n ?_
  refine W_seq ?_
  refine W_cond rfl (fun h1 => ?_) (fun h1 => ?_)
  ·
    try simp only [HS] at h1
    refine W_skip ?_
    refine thenQ_n ?_
    refine W_seq ?_
    refine W_block ?_
    refine W_seq ?_
    refine W_region ?_
    first | refine WO_idxT tys rfl rfl (lt_of rfl) rfl rfl rfl rfl rfl rfl rfl (by omega) _ (getT _ _ (by omega) (by omega)) ?_ | refine WO_idxS tys rfl rfl (lt_of rfl) rfl rfl rfl rfl rfl rfl rfl rfl (by omega) (by omega) ?_
    first | refine ev ?_ | refine WO_loadL tys rfl rfl (lt_of rfl) rfl rfl rfl rfl (getT _ _ (by omega) (by omega)) rfl ?_ | refine WO_loadL tys rfl rfl (lt_of rfl) rfl rfl rfl rfl (getT0 _ _ (by omega) (by omega)) rfl ?_
    refine ev ?_
    refine WO_nil ?_
    refine thenQ_n ?_
    refine W_seq ?_
    refine W_region ?_
    refine ev ?_
    refine ev ?_
    refine evE ?_
    have hk3 := flat_at hk0 h1
    have hk4 := congrArg List.length hk3
    simp only [List.length_append] at hk4
    refine WO_int tys rfl rfl (lt_of rfl) rfl (wrap_id (by omega) (by omega)) ?_
    refine ev ?_
    refine WO_keep [0, 3, 5, 9, 10, 11, 12, 13, 14, 15, 16, 17, 18] rfl ?_
    refine WO_nil ?_
    refine thenQ_n ?_
    refine W_seq ?_
    refine W_region ?_
    refine ev ?_
    refine ev ?_
    refine WO_nil ?_
    refine thenQ_n ?_
    refine W_cond rfl (fun h2 => ?_) (fun h2 => ?_)
    ·
      try simp only [HS] at h2
      exfalso; first | omega | (simp_all; done) | (simp_all; omega)
    try simp only [HS] at h2
    refine W_skip ?_
    refine inBlk_n ?_
    refine thenQ_n ?_
    refine W_region ?_
    refine evI ?_
    refine ev ?_
    refine WO_nil ?_
    refine loopQ_n (_, _) (by (try dsimp only); repeat (first | exact Sub.nil' | refine Sub.cons' rfl ?_ )) (by (try dsimp only); repeat (first | exact SubM.nil' | refine SubM.cons' rfl ?_ )) ?_ ?_
    · try dsimp only
      exact ⟨by omega, by omega, by omega, by omega⟩
    · (show Int.toNat _ < Int.toNat _); omega
  try simp only [HS] at h1
  refine W_exit ?_
  refine thenQ_e ?_
  refine loopQ_e ?_
  refine inBlk_y ?_
  refine thenQ_n ?_
  refine W_seq ?_
  refine W_region ?_
  refine ev ?_
  refine callB ?_
  refine ⟨_, grow_fun _ (by omega) (by omega), rfl, ?_⟩
  refine WO_le (Le.adoptE (u := 24) 24 rfl (by first | exact lenN | exact rfl)) ?_
  refine WO_norm rfl ?_
  refine ev ?_
  refine WO_nil ?_
  refine thenQ_n ?_
  refine W_seq ?_
  refine W_seq ?_
  refine W_region ?_
  refine ev ?_
  refine evE ?_
  refine ev ?_
  refine WO_nil ?_
  refine thenQ_n ?_
  refine W_block ?_
  refine W_loopK (α := Int × Nat × List T) [0, 25, 26] [] (fun (x : Int × Nat × List T) => [(27, .t (.int (x.1))), (6, .sl 24 0 (x.2.1))]) (fun (x : Int × Nat × List T) => [(24, .L 1 (x.2.2))]) (fun (x : Int × Nat × List T) => 0 ≤ (x.1) ∧ (x.1) ≤ l.length ∧ (x.2.1) = (x.2.2).length ∧ (x.2.2) = (l.take (x.1).toNat).flatten.map T.int) (fun (x : Int × Nat × List T) => Int.toNat (l.length - (x.1))) (0, 0, []) ?_ ?_ ?_ (fun x hx => ?_)
  · repeat (first | exact Sub.nil' | refine Sub.cons' rfl ?_ )
  · repeat (first | exact SubM.nil' | refine SubM.cons' rfl ?_ )
  · exact ⟨by omega, by omega, by simp, by simp⟩
  obtain ⟨j, m, xs⟩ := x
  obtain ⟨hj0, hj1, hj2, hj3⟩ := hx
  try dsimp only at hj0 hj1 hj2 hj3 ⊢
  refine W_norm rfl ?_
  refine W_seq ?_
  refine W_region ?_
  refine ev ?_
  refine WO_nil ?_
  refine thenQ_n ?_
  refine W_seq ?_
  refine W_cond rfl (fun h2 => ?_) (fun h2 => ?_)
  ·
    try simp only [HS] at h2
    refine W_skip ?_
    refine thenQ_n ?_
    refine W_seq ?_
    refine W_block ?_
    refine W_seq ?_
    refine W_region ?_
    first | refine WO_idxT tys rfl rfl (lt_of rfl) rfl rfl rfl rfl rfl rfl rfl (by omega) _ (getT _ _ (by omega) (by omega)) ?_ | refine WO_idxS tys rfl rfl (lt_of rfl) rfl rfl rfl rfl rfl rfl rfl rfl (by omega) (by omega) ?_
    first | refine ev ?_ | refine WO_loadL tys rfl rfl (lt_of rfl) rfl rfl rfl rfl (getT _ _ (by omega) (by omega)) rfl ?_ | refine WO_loadL tys rfl rfl (lt_of rfl) rfl rfl rfl rfl (getT0 _ _ (by omega) (by omega)) rfl ?_
    refine ev ?_
    refine WO_nil ?_
    refine thenQ_n ?_
    refine W_region ?_
    refine ev ?_
    refine ev ?_
    first | refine WO_append tys rfl rfl (lt_of rfl) rfl rfl rfl rfl rfl (.own rfl (by omega)) rfl (.read (read_ints _)) (by decide) (by have hq := flat_take_len (l := l) j.toNat; rw [flat_at hj0 (by omega)] at hq; simp only [hj3, List.length_append, List.length_take, List.length_map, List.length_nil] at hq ⊢; omega) (by decide) rfl ?_ | refine WO_append tys rfl rfl (lt_of rfl) rfl rfl rfl rfl rfl .nil rfl (.read (read_ints _)) (by decide) (by have hq := flat_take_len (l := l) j.toNat; rw [flat_at hj0 (by omega)] at hq; simp only [hj3, List.length_append, List.length_take, List.length_map, List.length_nil] at hq ⊢; omega) (by decide) rfl ?_
    refine WO_norm rfl ?_
    refine ev ?_
    refine WO_nil ?_
    refine inBlk_n ?_
    refine thenQ_n ?_
    refine W_keep [0, 6, 8, 25, 26, 27, 28, 29, 30, 31, 32, 33] rfl ?_
    refine W_region ?_
    refine evI ?_
    refine ev ?_
    refine WO_nil ?_
    refine loopQ_n (_, _, _) (by (try dsimp only); repeat (first | exact Sub.nil' | refine Sub.cons' rfl ?_ )) (by (try dsimp only); repeat (first | exact SubM.nil' | refine SubM.cons' rfl ?_ )) ?_ ?_
    · try dsimp only
      exact ⟨by omega, by omega, by simp [hj2], by rw [hj2, List.take_of_length_le (Nat.le_refl _), flat_take_at hj0 (by omega), List.map_append, ← hj3]⟩
    · (show Int.toNat _ < Int.toNat _); omega
  try simp only [HS] at h2
  refine W_exit ?_
  refine thenQ_e ?_
  refine loopQ_e ?_
  refine inBlk_y ?_
  refine thenQ_n ?_
  refine W_seq ?_
  refine W_region ?_
  refine ev ?_
  refine ev ?_
  refine WO_nil ?_
  refine thenQ_n ?_
  refine W_le (Le.gather (u := 2) (id := 24) rfl rfl (by omega)) ?_
  refine W_ret ?_
  refine Ends_of (.inr rfl) (ret_okF rfl) (by decide) rfl ?_
  · rw [hj2, List.take_of_length_le (Nat.le_refl _), hj3, take_end (by omega)]; rfl

/-- What is true of counts. -/
def CntOk (ll : List (List Int)) : Prop := ll.length ≤ 5 ∧ ∀ l, l ∈ ll → l.length ≤ 300 ∧ ∀ n, n ∈ l → 0 ≤ n ∧ n ≤ 1000000
theorem cnt_mem {ll : List (List Int)} (h : cnt ll = true) : CntOk ll := by
  unfold cnt at h
  rw [Bool.and_eq_true, decide_eq_true_eq, List.all_eq_true] at h
  refine ⟨by omega, fun l hl => ?_⟩
  have := h.2 l hl
  rw [Bool.and_eq_true, decide_eq_true_eq, allIn, List.all_eq_true] at this
  exact ⟨by omega, fun n hn => by simpa using this.2 n hn⟩
theorem flat_le {α : Type} {m : Nat} : ∀ {ll : List (List α)}, (∀ l, l ∈ ll → l.length ≤ m) → ll.flatten.length ≤ ll.length * m
  | [], _ => by simp
  | l :: ll, h => by
    have h1 := h l (List.mem_cons_self ..)
    have h2 := flat_le fun x hx => h x (List.mem_cons_of_mem l hx)
    rw [List.flatten_cons, List.length_append, List.length_cons, Nat.add_mul]
    omega
theorem sum_at {l : List Int} {k : Int} (h0 : 0 ≤ k) (h1 : k < l.length) : (l.drop k.toNat).sum = l[k.toNat]'(by omega) + (l.drop (k + 1).toNat).sum := by
  rw [drop_at h0 h1, List.sum_cons]
theorem sum_flat_at {l : List (List Int)} {k : Int} (h0 : 0 ≤ k) (h1 : k < l.length) : (l.drop k.toNat).flatten.sum = (l[k.toNat]'(by omega)).sum + (l.drop (k + 1).toNat).flatten.sum := by
  rw [flat_at h0 h1, List.sum_append]

/-- How many steps were counted. -/
def doneIn (ll : List (List Int)) : Int := if cnt ll then ll.flatten.sum else 0

theorem specDoneIn_fun (l : List (List Int)) (hl : l.length ≤ 1048576) (hll : ∀ x, x ∈ l → x.length ≤ 1048576) : Fun Try.prog 14 [.t (intss l)] (tupD [.t (.int (doneIn l)), .t (.bool (cnt l))]) := by
  refine Fun.begin tys Try.func14 rfl rfl (N := 30) [(0, .t (intss l))] rfl rfl (fun w0 G F0 => ?_)
  refine W_seq ?_
  refine W_region ?_
  refine ev ?_
  refine ev ?_
  refine WO_nil ?_
  refine thenQ_n ?_
  refine W_seq ?_
  refine W_seq ?_
  refine W_region ?_
  refine ev ?_
  refine callB ?_
  refine ⟨_, l20Counts_fun l hl hll, rfl, ?_⟩
  refine ev ?_
  refine WO_nil ?_
  refine thenQ_n ?_
  refine W_cond rfl (fun h1 => ?_) (fun h1 => ?_)
  ·
    try simp only [HS] at h1
    refine W_seq ?_
    refine W_region ?_
    refine ev ?_
    refine ev ?_
    refine WO_nil ?_
    refine thenQ_n ?_
    refine W_ret ?_
    refine thenQ_r ?_
    refine Ends_of (.inr rfl) (ret_okF rfl) (by decide) rfl ?_
    · first | (rw [doneIn, h1]; rfl) | (rw [drop_end h2, List.flatten_nil, List.sum_nil] at hk4; rw [doneIn, if_pos h1, h1, ← hk4, Int.add_zero])
  try simp only [HS] at h1
  refine W_skip ?_
  refine thenQ_n ?_
  refine W_seq ?_
  refine W_region ?_
  refine ev ?_
  refine WO_nil ?_
  refine thenQ_n ?_
  refine W_seq ?_
  refine W_seq ?_
  refine W_region ?_
  refine ev ?_
  refine evE ?_
  refine ev ?_
  refine WO_keep [2, 3, 4, 12, 13, 14] rfl ?_
  refine WO_nil ?_
  refine thenQ_n ?_
  refine W_block ?_
  refine W_loopK (α := Int × Int) [0, 12, 13] [] (fun (x : Int × Int) => [(14, .t (.int (x.1))), (4, .t (.int (x.2)))]) (fun (x : Int × Int) => []) (fun (x : Int × Int) => 0 ≤ (x.1) ∧ (x.1) ≤ l.length ∧ 0 ≤ (x.2) ∧ (x.2) ≤ 300000000 * (x.1) ∧ CntOk l ∧ (x.2) + (l.drop (x.1).toNat).flatten.sum = l.flatten.sum) (fun (x : Int × Int) => Int.toNat (l.length - (x.1))) (0, 0) ?_ ?_ ?_ (fun x hx => ?_)
  · repeat (first | exact Sub.nil' | refine Sub.cons' rfl ?_ )
  · repeat (first | exact SubM.nil' | refine SubM.cons' rfl ?_ )
  · exact ⟨by omega, by omega, by omega, by omega, cnt_mem h1, by simp⟩
  obtain ⟨k, n⟩ := x
  obtain ⟨hk0, hk1, hk2, hk3, hm, hk4⟩ := hx
  try dsimp only at hk0 hk1 hk2 hk3 hm hk4 ⊢
  refine W_norm rfl ?_
  refine W_seq ?_
  refine W_region ?_
  refine ev ?_
  refine WO_nil ?_
  refine thenQ_n ?_
  refine W_seq ?_
  refine W_cond rfl (fun h2 => ?_) (fun h2 => ?_)
  ·
    try simp only [HS] at h2
    refine W_skip ?_
    refine thenQ_n ?_
    refine W_seq ?_
    refine W_block ?_
    refine W_seq ?_
    refine W_region ?_
    first | refine WO_idxT tys rfl rfl (lt_of rfl) rfl rfl rfl rfl rfl rfl rfl (by omega) _ (getT _ _ (by omega) (by omega)) ?_ | refine WO_idxS tys rfl rfl (lt_of rfl) rfl rfl rfl rfl rfl rfl rfl rfl (by omega) (by omega) ?_
    first | refine ev ?_ | refine WO_loadL tys rfl rfl (lt_of rfl) rfl rfl rfl rfl (getT _ _ (by omega) (by omega)) rfl ?_ | refine WO_loadL tys rfl rfl (lt_of rfl) rfl rfl rfl rfl (getT0 _ _ (by omega) (by omega)) rfl ?_
    refine ev ?_
    refine WO_nil ?_
    refine thenQ_n ?_
    refine W_seq ?_
    refine W_region ?_
    refine ev ?_
    refine evE ?_
    refine ev ?_
    refine WO_nil ?_
    refine thenQ_n ?_
    refine W_block ?_
    refine W_loopK (α := Int × Int) [0, 12, 13, 14, 18, 19] [] (fun (x : Int × Int) => [(20, .t (.int (x.1))), (4, .t (.int (x.2)))]) (fun (x : Int × Int) => []) (fun (x : Int × Int) => 0 ≤ (x.1) ∧ (x.1) ≤ (l[k.toNat]'(by omega)).length ∧ (l[k.toNat]'(by omega)).length ≤ 300 ∧ 0 ≤ (x.2) ∧ (x.2) ≤ 300000000 * k + 1000000 * (x.1) ∧ (x.2) + ((l[k.toNat]'(by omega)).drop (x.1).toNat).sum + (l.drop (k + 1).toNat).flatten.sum = l.flatten.sum) (fun (x : Int × Int) => Int.toNat ((l[k.toNat]'(by omega)).length - (x.1))) (0, n) ?_ ?_ ?_ (fun x hx => ?_)
    · repeat (first | exact Sub.nil' | refine Sub.cons' rfl ?_ )
    · repeat (first | exact SubM.nil' | refine SubM.cons' rfl ?_ )
    · exact ⟨by omega, by omega, (hm.2 _ (List.getElem_mem _)).1, by omega, by omega, by rw [sum_flat_at hk0 h2] at hk4; simp; omega⟩
    obtain ⟨i, m⟩ := x
    obtain ⟨hi0, hi1, hi2, hi3, hi5, hi4⟩ := hx
    try dsimp only at hi0 hi1 hi2 hi3 hi5 hi4 ⊢
    refine W_norm rfl ?_
    refine W_seq ?_
    refine W_region ?_
    refine ev ?_
    refine WO_nil ?_
    refine thenQ_n ?_
    refine W_seq ?_
    refine W_cond rfl (fun h3 => ?_) (fun h3 => ?_)
    ·
      try simp only [HS] at h3
      refine W_skip ?_
      refine thenQ_n ?_
      refine W_seq ?_
      refine W_block ?_
      refine W_seq ?_
      refine W_region ?_
      first | refine WO_idxT tys rfl rfl (lt_of rfl) rfl rfl rfl rfl rfl rfl rfl (by omega) _ (getT _ _ (by omega) (by omega)) ?_ | refine WO_idxS tys rfl rfl (lt_of rfl) rfl rfl rfl rfl rfl rfl rfl rfl (by omega) (by omega) ?_
      first | refine ev ?_ | refine WO_loadL tys rfl rfl (lt_of rfl) rfl rfl rfl rfl (getT _ _ (by omega) (by omega)) rfl ?_ | refine WO_loadL tys rfl rfl (lt_of rfl) rfl rfl rfl rfl (getT0 _ _ (by omega) (by omega)) rfl ?_
      refine ev ?_
      refine WO_nil ?_
      refine thenQ_n ?_
      refine W_region ?_
      refine ev ?_
      refine ev ?_
      have hx := (hm.2 _ (List.getElem_mem (l := l) (n := k.toNat) (by omega))).2 _ (List.getElem_mem (n := i.toNat) (by omega))
      refine WO_int tys rfl rfl (lt_of rfl) rfl (wrap_id (by omega) (by omega)) ?_
      refine ev ?_
      refine WO_nil ?_
      refine inBlk_n ?_
      refine thenQ_n ?_
      refine W_keep [0, 4, 8, 12, 13, 14, 18, 19, 20, 21, 22, 23, 24, 25, 26] rfl ?_
      refine W_region ?_
      refine evI ?_
      refine ev ?_
      refine WO_nil ?_
      refine loopQ_n (_, _) (by (try dsimp only); repeat (first | exact Sub.nil' | refine Sub.cons' rfl ?_ )) (by (try dsimp only); repeat (first | exact SubM.nil' | refine SubM.cons' rfl ?_ )) ?_ ?_
      · try dsimp only
        rw [sum_at hi0 h3] at hi4; exact ⟨by omega, by omega, hi2, by omega, by omega, by omega⟩
      · (show Int.toNat _ < Int.toNat _); omega
    try simp only [HS] at h3
    refine W_exit ?_
    refine thenQ_e ?_
    refine loopQ_e ?_
    refine inBlk_y ?_
    refine inBlk_n ?_
    refine thenQ_n ?_
    refine W_region ?_
    refine evI ?_
    refine ev ?_
    refine WO_nil ?_
    refine loopQ_n (_, _) (by (try dsimp only); repeat (first | exact Sub.nil' | refine Sub.cons' rfl ?_ )) (by (try dsimp only); repeat (first | exact SubM.nil' | refine SubM.cons' rfl ?_ )) ?_ ?_
    · try dsimp only
      refine ⟨by omega, by omega, by omega, ?_, hm, ?_⟩
      · have := (hm.2 _ (List.getElem_mem (l := l) (n := k.toNat) (by omega))).1; omega
      · rw [drop_end h3, List.sum_nil] at hi4; omega
    · (show Int.toNat _ < Int.toNat _); omega
  try simp only [HS] at h2
  refine W_exit ?_
  refine thenQ_e ?_
  refine loopQ_e ?_
  refine inBlk_y ?_
  refine thenQ_n ?_
  refine W_seq ?_
  refine W_region ?_
  refine ev ?_
  refine ev ?_
  refine ev ?_
  refine WO_nil ?_
  refine thenQ_n ?_
  refine W_ret ?_
  refine Ends_of (.inr rfl) (ret_okF rfl) (by decide) rfl ?_
  · first | (rw [doneIn, h1]; rfl) | (rw [drop_end h2, List.flatten_nil, List.sum_nil] at hk4; rw [doneIn, if_pos h1, h1, ← hk4, Int.add_zero])

theorem implDoneIn_fun (l : List (List Int)) (hl : l.length ≤ 1048576) (hll : ∀ x, x ∈ l → x.length ≤ 1048576) : Fun Try.prog 15 [.t (intss l)] (tupD [.t (.int (doneIn l)), .t (.bool (cnt l))]) := by
  refine Fun.begin tys Try.func15 rfl rfl (N := 22) [(0, .t (intss l))] rfl rfl (fun w0 G F0 => ?_)
  refine W_seq ?_
  refine W_region ?_
  refine ev ?_
  refine ev ?_
  refine WO_nil ?_
  refine thenQ_n ?_
  refine W_seq ?_
  refine W_seq ?_
  refine W_region ?_
  refine ev ?_
  refine callB ?_
  refine ⟨_, areCounts_fun l hl hll, rfl, ?_⟩
  refine ev ?_
  refine WO_nil ?_
  refine thenQ_n ?_
  refine W_cond rfl (fun h1 => ?_) (fun h1 => ?_)
  ·
    try simp only [HS] at h1
    refine W_seq ?_
    refine W_region ?_
    refine ev ?_
    refine ev ?_
    refine WO_nil ?_
    refine thenQ_n ?_
    refine W_ret ?_
    refine thenQ_r ?_
    refine Ends_of (.inr rfl) (ret_okF rfl) (by decide) rfl ?_
    · first | (rw [doneIn, h1]; rfl) | (rw [drop_end h2, List.sum_nil] at hk4; rw [doneIn, if_pos h1, h1, ← hk4, Int.add_zero])
  try simp only [HS] at h1
  refine W_skip ?_
  refine thenQ_n ?_
  refine W_seq ?_
  refine W_region ?_
  refine ev ?_
  refine WO_nil ?_
  refine thenQ_n ?_
  refine W_seq ?_
  refine W_seq ?_
  refine W_region ?_
  refine ev ?_
  refine callB ?_
  refine ⟨_, concat_fun l (by omega) (by have hm := cnt_mem h1; have h5 := hm.1; have := flat_le fun x hx => (hm.2 x hx).1; omega), rfl, ?_⟩
  refine WO_le (Le.adoptE (u := 11) 11 rfl (by first | exact lenN | exact rfl)) ?_
  refine WO_norm rfl ?_
  refine evE ?_
  refine WO_keep [2, 3, 4, 11, 12] rfl ?_
  refine ev ?_
  refine WO_nil ?_
  refine thenQ_n ?_
  refine W_block ?_
  refine W_loopK (α := Int × Int) [0, 11, 12] [11] (fun (x : Int × Int) => [(13, .t (.int (x.1))), (4, .t (.int (x.2)))]) (fun (x : Int × Int) => []) (fun (x : Int × Int) => 0 ≤ (x.1) ∧ (x.1) ≤ l.flatten.length ∧ 0 ≤ (x.2) ∧ (x.2) ≤ 1000000 * (x.1) ∧ (∀ z, z ∈ l.flatten → 0 ≤ z ∧ z ≤ 1000000) ∧ l.flatten.length ≤ 1500 ∧ (x.2) + (l.flatten.drop (x.1).toNat).sum = l.flatten.sum) (fun (x : Int × Int) => Int.toNat (l.flatten.length - (x.1))) (0, 0) ?_ ?_ ?_ (fun x hx => ?_)
  · repeat (first | exact Sub.nil' | refine Sub.cons' rfl ?_ )
  · repeat (first | exact SubM.nil' | refine SubM.cons' rfl ?_ )
  · have hm := cnt_mem h1; have h5 := hm.1; have := flat_le fun x hx => (hm.2 x hx).1; exact ⟨by omega, by omega, by omega, by omega, fun n hn => by obtain ⟨x, hx, hnx⟩ := List.mem_flatten.1 hn; exact (hm.2 x hx).2 n hnx, by omega, by simp⟩
  obtain ⟨k, n⟩ := x
  obtain ⟨hk0, hk1, hk2, hk3, hm, hk5, hk4⟩ := hx
  try dsimp only at hk0 hk1 hk2 hk3 hm hk5 hk4 ⊢
  refine W_norm rfl ?_
  refine W_seq ?_
  refine W_region ?_
  refine ev ?_
  refine WO_nil ?_
  refine thenQ_n ?_
  refine W_seq ?_
  refine W_cond rfl (fun h2 => ?_) (fun h2 => ?_)
  ·
    try simp only [HS] at h2
    refine W_skip ?_
    refine thenQ_n ?_
    refine W_seq ?_
    refine W_block ?_
    refine W_seq ?_
    refine W_region ?_
    first | refine WO_idxT tys rfl rfl (lt_of rfl) rfl rfl rfl rfl rfl rfl rfl (by omega) _ (getT _ _ (by omega) (by omega)) ?_ | refine WO_idxS tys rfl rfl (lt_of rfl) rfl rfl rfl rfl rfl rfl rfl rfl (by omega) (by omega) ?_
    first | refine ev ?_ | refine WO_loadL tys rfl rfl (lt_of rfl) rfl rfl rfl rfl (getT _ _ (by omega) (by omega)) rfl ?_ | refine WO_loadL tys rfl rfl (lt_of rfl) rfl rfl rfl rfl (getT0 _ _ (by omega) (by omega)) rfl ?_
    refine ev ?_
    refine WO_nil ?_
    refine thenQ_n ?_
    refine W_region ?_
    refine ev ?_
    refine ev ?_
    have hx := hm _ (List.getElem_mem (l := l.flatten) (n := k.toNat) (by omega))
    refine WO_int tys rfl rfl (lt_of rfl) rfl (wrap_id (by omega) (by omega)) ?_
    refine ev ?_
    refine WO_nil ?_
    refine inBlk_n ?_
    refine thenQ_n ?_
    refine W_keep [0, 4, 6, 11, 12, 13, 14, 15, 16, 17, 18, 19] rfl ?_
    refine W_region ?_
    refine evI ?_
    refine ev ?_
    refine WO_nil ?_
    refine loopQ_n (_, _) (by (try dsimp only); repeat (first | exact Sub.nil' | refine Sub.cons' rfl ?_ )) (by (try dsimp only); repeat (first | exact SubM.nil' | refine SubM.cons' rfl ?_ )) ?_ ?_
    · try dsimp only
      rw [sum_at hk0 h2] at hk4; exact ⟨by omega, by omega, by omega, by omega, hm, hk5, by omega⟩
    · (show Int.toNat _ < Int.toNat _); omega
  try simp only [HS] at h2
  refine W_exit ?_
  refine thenQ_e ?_
  refine loopQ_e ?_
  refine inBlk_y ?_
  refine thenQ_n ?_
  refine W_seq ?_
  refine W_region ?_
  refine ev ?_
  refine ev ?_
  refine ev ?_
  refine WO_nil ?_
  refine thenQ_n ?_
  refine W_ret ?_
  refine Ends_of (.inr rfl) (ret_okF rfl) (by decide) rfl ?_
  · first | (rw [doneIn, h1]; rfl) | (rw [drop_end h2, List.sum_nil] at hk4; rw [doneIn, if_pos h1, h1, ← hk4, Int.add_zero])

theorem lawDoneIn_fun (l : List (List Int)) (hl : l.length ≤ 9223372036854775807) (hll : ∀ x, x ∈ l → x.length ≤ 9223372036854775807) : Fun Try.prog 4 [.t (intss l)] (tupD [.t (.bool true)]) := by
  refine Fun.begin tys Try.func4 rfl rfl (N := 40) [(0, .t (intss l))] rfl rfl (fun w0 G F0 => ?_)
  refine W_seq ?_
  refine W_region ?_
  refine ev ?_
  refine WO_nil ?_
  refine thenQ_n ?_
  refine W_seq ?_
  refine W_region ?_
  refine ev ?_
  refine WO_nil ?_
  refine thenQ_n ?_
  refine W_seq ?_
  refine W_region ?_
  refine ev ?_
  refine ev ?_
  refine callB ?_
  refine ⟨_, szIntSS_fun l 1048576 hl hll (by omega) (by omega), rfl, ?_⟩
  refine ev ?_
  refine WO_nil ?_
  refine thenQ_n ?_
  refine W_seq ?_
  refine W_seq ?_
  refine W_region ?_
  refine ev ?_
  refine ev ?_
  refine WO_nil ?_
  refine thenQ_n ?_
  refine W_cond rfl (fun h1 => ?_) (fun h1 => ?_)
  ·
    try simp only [HS] at h1
    refine W_seq ?_
    refine W_keep [0, 2] rfl ?_
    refine W_region ?_
    refine ev ?_
    refine WO_nil ?_
    refine thenQ_n ?_
    refine W_ret ?_
    refine thenQ_r ?_
    refine Ends_of (.inr rfl) (ret_okF rfl) (by decide) rfl ?_
    · rfl
  try simp only [HS] at h1
  refine W_skip ?_
  refine thenQ_n ?_
  refine W_seq ?_
  refine W_keep [0, 2] rfl ?_
  refine W_region ?_
  refine ev ?_
  refine callB ?_
  refine ⟨_, toIntSS_fun l (szSS_len (by omega) (by omega) h1) (szSS_lens (by omega) h1), rfl, ?_⟩
  refine WO_le (Le.freeze (u := 16) rfl) ?_
  refine WO_norm rfl ?_
  refine callB ?_
  refine ⟨_, specDoneIn_fun l (szSS_len (by omega) (by omega) h1) (szSS_lens (by omega) h1), rfl, ?_⟩
  refine ev ?_
  first | refine WO_evF tys rfl rfl (lt_of rfl) (d := .t _) rfl ?_ | (refine WO_extract rfl rfl (lt_of rfl) rfl rfl rfl rfl ?_; first | refine WO_le (Le.adoptE (u := 18) 18 rfl (by first | exact lenN | exact rfl)) ?_ | skip)
  refine WO_norm rfl ?_
  first | refine WO_evF tys rfl rfl (lt_of rfl) (d := .t _) rfl ?_ | (refine WO_extract rfl rfl (lt_of rfl) rfl rfl rfl rfl ?_; first | refine WO_le (Le.adoptE (u := 19) 19 rfl (by first | exact lenN | exact rfl)) ?_ | skip)
  refine WO_norm rfl ?_
  refine ev ?_
  refine ev ?_
  refine WO_nil ?_
  refine thenQ_n ?_
  refine W_seq ?_
  refine W_keep [0, 2, 4, 5] rfl ?_
  refine W_region ?_
  refine ev ?_
  refine callB ?_
  refine ⟨_, toIntSS_fun l (szSS_len (by omega) (by omega) h1) (szSS_lens (by omega) h1), rfl, ?_⟩
  refine WO_le (Le.freeze (u := 21) rfl) ?_
  refine WO_norm rfl ?_
  refine ev ?_
  refine WO_nil ?_
  refine thenQ_n ?_
  refine W_seq ?_
  refine W_region ?_
  refine ev ?_
  refine callB ?_
  refine ⟨_, implDoneIn_fun l (szSS_len (by omega) (by omega) h1) (szSS_lens (by omega) h1), rfl, ?_⟩
  refine ev ?_
  first | refine WO_evF tys rfl rfl (lt_of rfl) (d := .t _) rfl ?_ | (refine WO_extract rfl rfl (lt_of rfl) rfl rfl rfl rfl ?_; first | refine WO_le (Le.adoptE (u := 25) 25 rfl (by first | exact lenN | exact rfl)) ?_ | skip)
  refine WO_norm rfl ?_
  first | refine WO_evF tys rfl rfl (lt_of rfl) (d := .t _) rfl ?_ | (refine WO_extract rfl rfl (lt_of rfl) rfl rfl rfl rfl ?_; first | refine WO_le (Le.adoptE (u := 26) 26 rfl (by first | exact lenN | exact rfl)) ?_ | skip)
  refine WO_norm rfl ?_
  refine ev ?_
  refine WO_keep [0, 2, 4, 5, 6, 7, 26] rfl ?_
  refine ev ?_
  refine WO_nil ?_
  refine thenQ_n ?_
  refine W_seq ?_
  refine W_seq ?_
  refine W_region ?_
  refine ev ?_
  refine ev ?_
  refine ev ?_
  refine WO_le (Le.known (t := 29) false rfl (by simp)) ?_
  refine ev ?_
  refine WO_guardY rfl rfl rfl rfl (lt_of rfl) ?_
  refine ev ?_
  refine WO_guardY rfl rfl rfl rfl (lt_of rfl) ?_
  refine ev ?_
  refine WO_guardY rfl rfl rfl rfl (lt_of rfl) ?_
  refine ev ?_
  refine WO_le (Le.known (t := 33) false rfl (by simp)) ?_
  refine ev ?_
  refine WO_keep [0, 2, 6, 34] rfl ?_
  refine WO_nil ?_
  refine thenQ_n ?_
  refine W_condF rfl ?_
  refine W_skip ?_
  refine thenQ_n ?_
  refine W_seq ?_
  refine W_seq ?_
  refine W_region ?_
  refine ev ?_
  refine ev ?_
  refine callB ?_
  refine ⟨_, toIntSS_fun l (szSS_len (by omega) (by omega) h1) (szSS_lens (by omega) h1), rfl, ?_⟩
  refine WO_le (Le.freeze (u := 37) rfl) ?_
  refine WO_norm rfl ?_
  refine callB ?_
  refine ⟨_, eqIntSS_fun l l hl hl hll hll, rfl, ?_⟩
  refine WO_le (Le.known (t := 38) true rfl (eqL_refl (eqL_refl (fun x => by simp [eqI])) l)) ?_
  refine ev ?_
  refine WO_nil ?_
  refine thenQ_n ?_
  refine W_condF rfl ?_
  refine W_skip ?_
  refine thenQ_n ?_
  refine W_seq ?_
  refine W_region ?_
  refine ev ?_
  refine WO_nil ?_
  refine thenQ_n ?_
  refine W_ret ?_
  refine Ends_of (.inr rfl) (ret_okF rfl) (by decide) rfl ?_
  · rfl

end Go.Proofs.Ytnkhkmhhfpokhaa
