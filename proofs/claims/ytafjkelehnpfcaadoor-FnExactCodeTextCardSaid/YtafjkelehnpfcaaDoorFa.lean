/- Walks and laws of the claim. -/
import Derived.Test.YtafjkelehnpfcaaDoorTy
import Derived.Test.YtafjkelehnpfcaaDoorMc
set_option linter.unusedVariables false
set_option linter.unusedSimpArgs false
set_option maxRecDepth 10000
set_option maxHeartbeats 1000000
namespace Go.Proofs.YtafjkelehnpfcaaDoor
open Go.Eng
open Go.Eng

theorem l1In_fun (n lo hi : Int) : Fun Tryd.prog 56 [.t (.int n), .t (.int lo), .t (.int hi)] (tupD [.t (.bool (decide (lo ≤ n ∧ n ≤ hi)))]) := by
  refine Fun.begin tys Tryd.func56 rfl rfl (N := 15) [(0, .t (.int n)), (1, .t (.int lo)), (2, .t (.int hi))] rfl rfl (fun w0 G F0 => ?_)
  refine W_seq ?_
  refine W_region ?_
  refine ev ?_
  refine WO_nil ?_
  refine thenQ_n ?_
  refine W_seq ?_
  refine W_region ?_
  iterate 4 (refine ev ?_)
  refine WO_guard rfl rfl rfl rfl (lt_of rfl) (fun h1 => ?_) (fun h1 => ?_)
  rotate_left
  ·
    try simp only [HS] at h1
    iterate 2 (refine WO_guardN rfl rfl rfl rfl rfl (lt_of rfl) ?_)
    refine ev ?_
    refine ev ?_
    refine WO_keep [6] rfl ?_
    refine WO_nil ?_
    refine thenQ_n ?_
    refine W_ret ?_
    refine Ends_of (.inr rfl) (ret_okF rfl) (by decide) rfl ?_
    · (simp_all <;> omega)
  try simp only [HS] at h1
  refine ev ?_
  refine WO_guardY rfl rfl rfl rfl (lt_of rfl) ?_
  refine ev ?_
  refine WO_guardY rfl rfl rfl rfl (lt_of rfl) ?_
  refine ev ?_
  refine ev ?_
  refine WO_keep [6, 14] rfl ?_
  refine ev ?_
  refine WO_nil ?_
  refine thenQ_n ?_
  refine W_ret ?_
  refine Ends_of (.inr rfl) (ret_okF rfl) (by decide) rfl ?_
  · (simp_all <;> omega)

theorem within_fun (n lo hi : Int) : Fun Tryd.prog 42 [.t (.int n), .t (.int lo), .t (.int hi)] (tupD [.t (.bool (decide (lo ≤ n ∧ n ≤ hi)))]) := by
  refine Fun.begin tys Tryd.func42 rfl rfl (N := 15) [(0, .t (.int n)), (1, .t (.int lo)), (2, .t (.int hi))] rfl rfl (fun w0 G F0 => ?_)
  refine W_seq ?_
  refine W_region ?_
  refine ev ?_
  refine WO_nil ?_
  refine thenQ_n ?_
  refine W_seq ?_
  refine W_region ?_
  iterate 4 (refine ev ?_)
  refine WO_guard rfl rfl rfl rfl (lt_of rfl) (fun h1 => ?_) (fun h1 => ?_)
  rotate_left
  ·
    try simp only [HS] at h1
    iterate 2 (refine WO_guardN rfl rfl rfl rfl rfl (lt_of rfl) ?_)
    refine ev ?_
    refine ev ?_
    refine WO_keep [6] rfl ?_
    refine WO_nil ?_
    refine thenQ_n ?_
    refine W_ret ?_
    refine Ends_of (.inr rfl) (ret_okF rfl) (by decide) rfl ?_
    · (simp_all <;> omega)
  try simp only [HS] at h1
  refine ev ?_
  refine WO_guardY rfl rfl rfl rfl (lt_of rfl) ?_
  refine ev ?_
  refine WO_guardY rfl rfl rfl rfl (lt_of rfl) ?_
  refine ev ?_
  refine ev ?_
  refine WO_keep [6, 14] rfl ?_
  refine ev ?_
  refine WO_nil ?_
  refine thenQ_n ?_
  refine W_ret ?_
  refine Ends_of (.inr rfl) (ret_okF rfl) (by decide) rfl ?_
  · (simp_all <;> omega)


/-- Numbers within bounds, all. -/
def allIn (l : List Int) (lo hi : Int) : Bool := l.all fun n => decide (lo ≤ n ∧ n ≤ hi)

theorem allIn_step {l : List Int} {lo hi k : Int} (h0 : 0 ≤ k) (h1 : k < l.length) (h : allIn (l.take k.toNat) lo hi = true) (h2 : lo ≤ l[k.toNat]'(by omega) ∧ l[k.toNat]'(by omega) ≤ hi) : allIn (l.take (k + 1).toNat) lo hi = true := by
  rw [show (k + 1).toNat = k.toNat + 1 from by omega, List.take_add_one, List.getElem?_eq_getElem (by omega)]
  unfold allIn at *
  rw [List.all_append, h]
  simpa using h2
theorem allIn_no {l : List Int} {lo hi k : Int} (h0 : 0 ≤ k) (h1 : k < l.length) (h2 : ¬ (lo ≤ l[k.toNat]'(by omega) ∧ l[k.toNat]'(by omega) ≤ hi)) : allIn l lo hi = false := by
  unfold allIn
  rw [List.all_eq_false]
  exact ⟨l[k.toNat]'(by omega), List.getElem_mem _, by simpa using h2⟩
theorem allIn_yes {l : List Int} {lo hi k : Int} (h : allIn (l.take k.toNat) lo hi = true) (h0 : 0 ≤ k) (h1 : (l.length : Int) ≤ k) : allIn l lo hi = true := by
  rwa [List.take_of_length_le (by omega)] at h

theorem l1All_fun (l : List Int) (lo hi : Int) (hl : l.length ≤ 1073741824) : Fun Tryd.prog 62 [.t (T.ints l), .t (.int lo), .t (.int hi)] (tupD [.t (.bool (allIn l lo hi))]) := by
  refine Fun.begin tys Tryd.func62 rfl rfl (N := 21) [(0, .t (T.ints l)), (1, .t (.int lo)), (2, .t (.int hi))] rfl rfl (fun w0 G F0 => ?_)
  refine W_seq ?_
  refine W_region ?_
  refine ev ?_
  refine WO_nil ?_
  refine thenQ_n ?_
  iterate 2 (refine W_seq ?_)
  refine W_region ?_
  refine ev ?_
  refine evE ?_
  refine ev ?_
  refine WO_nil ?_
  refine thenQ_n ?_
  refine W_block ?_
  refine W_loopK (α := Int) [9, 10, 1, 2] [] (fun (x : Int) => [(11, .t (.int x))]) (fun (x : Int) => []) (fun (x : Int) => 0 ≤ x ∧ x ≤ l.length ∧ allIn (l.take x.toNat) lo hi = true) (fun (x : Int) => Int.toNat (l.length - x)) 0 ?_ ?_ ?_ (fun k hx => ?_)
  · repeat (first | exact Sub.nil' | refine Sub.cons' rfl ?_ )
  · repeat (first | exact SubM.nil' | refine SubM.cons' rfl ?_ )
  · refine ⟨?_, ?_, ?_⟩ <;> simp [allIn]
  obtain ⟨hk0, hk1, hk2⟩ := hx
  refine W_norm rfl ?_
  refine W_seq ?_
  refine W_region ?_
  refine ev ?_
  refine WO_nil ?_
  refine thenQ_n ?_
  refine W_seq ?_
  refine W_cond rfl (fun h1 => ?_) (fun h1 => ?_)
  ·
    try simp only [HS] at h1
    refine W_skip ?_
    refine thenQ_n ?_
    refine W_seq ?_
    refine W_block ?_
    refine W_seq ?_
    refine W_region ?_
    first | refine WO_idxT tys rfl rfl (lt_of rfl) rfl rfl rfl rfl rfl rfl rfl (by omega) _ (getT _ _ (by omega) (by omega)) ?_ | refine WO_idxS tys rfl rfl (lt_of rfl) rfl rfl rfl rfl rfl rfl rfl rfl (by omega) (by omega) ?_
    first | refine ev ?_ | refine WO_loadL tys rfl rfl (lt_of rfl) rfl rfl rfl rfl (getT _ _ (by omega) (by omega)) rfl ?_ | refine WO_loadL tys rfl rfl (lt_of rfl) rfl rfl rfl rfl (getT0 _ _ (by omega) (by omega)) rfl ?_
    refine ev ?_
    refine WO_nil ?_
    refine thenQ_n ?_
    refine W_seq ?_
    refine W_region ?_
    iterate 3 (refine ev ?_)
    refine callB ?_
    refine ⟨_, l1In_fun _ _ _, rfl, ?_⟩
    refine ev ?_
    refine WO_keep [1, 2, 8, 9, 10, 11, 12, 13, 14, 15, 16, 17, 18, 19] rfl ?_
    refine WO_nil ?_
    refine thenQ_n ?_
    refine W_cond rfl (fun h2 => ?_) (fun h2 => ?_)
    ·
      try simp only [HS] at h2
      refine W_seq ?_
      refine W_region ?_
      refine ev ?_
      refine WO_nil ?_
      refine thenQ_n ?_
      refine W_ret ?_
      refine inBlk_r ?_
      refine thenQ_r ?_
      refine loopQ_r ?_
      refine inBlk_r ?_
      refine thenQ_r ?_
      refine Ends_of (.inr rfl) (ret_okF rfl) (by decide) rfl ?_
      · first | rw [allIn_yes hk2 hk0 (by omega)] | rw [allIn_no hk0 (by omega) (by simpa using h2)]
    try simp only [HS] at h2
    refine W_skip ?_
    refine inBlk_n ?_
    refine thenQ_n ?_
    refine W_region ?_
    refine evI ?_
    refine ev ?_
    refine WO_nil ?_
    refine loopQ_n _ (by (try dsimp only); repeat (first | exact Sub.nil' | refine Sub.cons' rfl ?_ )) (by (try dsimp only); repeat (first | exact SubM.nil' | refine SubM.cons' rfl ?_ )) ?_ ?_
    · try dsimp only
      exact ⟨by omega, by omega, allIn_step hk0 (by omega) hk2 (by simpa using h2)⟩
    · (show Int.toNat _ < Int.toNat _); omega
  try simp only [HS] at h1
  refine W_exit ?_
  refine thenQ_e ?_
  refine loopQ_e ?_
  refine inBlk_y ?_
  refine thenQ_n ?_
  refine W_seq ?_
  refine W_region ?_
  refine ev ?_
  refine WO_nil ?_
  refine thenQ_n ?_
  refine W_ret ?_
  refine Ends_of (.inr rfl) (ret_okF rfl) (by decide) rfl ?_
  · first | rw [allIn_yes hk2 hk0 (by omega)] | rw [allIn_no hk0 (by omega) (by simpa using h2)]
open Go.Eng

/-- What is left of a size. -/
def szN (n : Nat) (left : Int) : Int := if left - n < 0 then -1 else left - n
theorem drop_at {α : Type} {l : List α} {k : Int} (h0 : 0 ≤ k) (h1 : k < l.length) : l.drop k.toNat = l[k.toNat]'(by omega) :: l.drop (k + 1).toNat := by
  rw [show (k + 1).toNat = k.toNat + 1 from by omega]
  exact List.drop_eq_getElem_cons (by omega)
theorem drop_end {α : Type} {l : List α} {k : Int} (h1 : (l.length : Int) ≤ k) : l.drop k.toNat = [] := List.drop_of_length_le (by omega)

theorem fill_step {α : Type} {xs : List T} {l : List α} {g : α → T} {k : Int} (h0 : 0 ≤ k) (h1 : k < l.length) (hl : xs.length = l.length) (h : xs.take k.toNat = (l.take k.toNat).map g) :
    (xs.set k.toNat (g (l[k.toNat]'(by omega)))).take (k + 1).toNat = (l.take (k + 1).toNat).map g := by
  rw [show (k + 1).toNat = k.toNat + 1 from by omega, List.take_add_one, List.take_add_one, List.getElem?_set_self (by omega), List.getElem?_eq_getElem (by omega)]
  simp only [Option.toList_some, List.map_append, List.map_cons, List.map_nil, ← h]
  rw [List.take_set_of_le (Nat.le_refl _)]
theorem fill_end {α : Type} {xs : List T} {l : List α} {g : α → T} {k : Int} (h1 : (l.length : Int) ≤ k) (hl : xs.length = l.length) (h : xs.take k.toNat = (l.take k.toNat).map g) : xs = l.map g := by
  rwa [List.take_of_length_le (by omega), List.take_of_length_le (by omega)] at h

theorem szIntS_fun (l : List Int) (left : Int) (hl : l.length ≤ 9223372036854775807) (h0 : 0 ≤ left) (hh : left ≤ 1048576) : Fun Tryd.prog 13 [.t (T.ints l), .t (.int left)] (tupD [.t (.int (szN l.length left))]) := by
  refine Fun.begin tys Tryd.func13 rfl rfl (N := 12) [(0, .t (T.ints l)), (1, .t (.int left))] rfl rfl (fun w0 G F0 => ?_)
  refine W_seq ?_
  refine W_region ?_
  refine ev ?_
  refine WO_nil ?_
  refine thenQ_n ?_
  refine W_seq ?_
  refine W_region ?_
  refine ev ?_
  refine ev ?_
  refine evE ?_
  refine evI ?_
  refine ev ?_
  refine WO_nil ?_
  refine thenQ_n ?_
  iterate 2 (refine W_seq ?_)
  refine W_region ?_
  refine ev ?_
  refine ev ?_
  refine WO_nil ?_
  refine thenQ_n ?_
  refine W_cond rfl (fun h1 => ?_) (fun h1 => ?_)
  ·
    try simp only [HS] at h1
    refine W_seq ?_
    refine W_keep [1, 4] rfl ?_
    refine W_region ?_
    refine ev ?_
    refine WO_nil ?_
    refine thenQ_n ?_
    refine W_ret ?_
    refine thenQ_r ?_
    refine Ends_of (.inr rfl) (ret_okF rfl) (by decide) rfl ?_
    · (simp only [szN]; simp_all <;> omega)
  try simp only [HS] at h1
  refine W_skip ?_
  refine thenQ_n ?_
  refine W_seq ?_
  refine W_keep [1, 4] rfl ?_
  refine W_region ?_
  refine ev ?_
  refine ev ?_
  refine WO_nil ?_
  refine thenQ_n ?_
  refine W_ret ?_
  refine Ends_of (.inr rfl) (ret_okF rfl) (by decide) rfl ?_
  · (simp only [szN]; simp_all <;> omega)

theorem toIntS_fun (l : List Int) (hl : l.length ≤ 1048576) : Fun Tryd.prog 18 [.t (T.ints l)] (tupD [.own (T.ints l)]) := by
  refine Fun.begin tys Tryd.func18 rfl rfl (N := 22) [(0, .t (T.ints l))] rfl rfl (fun w0 G F0 => ?_)
  refine W_seq ?_
  refine W_region ?_
  refine ev ?_
  refine WO_nil ?_
  refine thenQ_n ?_
  refine W_seq ?_
  refine W_region ?_
  refine ev ?_
  refine evE ?_
  refine WO_make tys (.v (.int .i64 0)) _ rfl rfl (lt_of rfl) rfl rfl rfl rfl rfl (by repeat (first | exact AbsL.nil' | refine AbsL.v' ?_ | refine AbsL.none' ?_)) rfl (by omega) (by decide) ?_
  refine WO_norm rfl ?_
  refine ev ?_
  refine WO_nil ?_
  refine thenQ_n ?_
  iterate 2 (refine W_seq ?_)
  refine W_region ?_
  refine ev ?_
  refine WO_nil ?_
  refine thenQ_n ?_
  refine W_block ?_
  refine W_loopK (α := Int × List T) [0, 3] [] (fun (x : Int × List T) => [(4, .t (.int (x.1)))]) (fun (x : Int × List T) => [(7, .L 1 (x.2))]) (fun (x : Int × List T) => 0 ≤ (x.1) ∧ (x.1) ≤ l.length ∧ (x.2).length = l.length ∧ (x.2).take (x.1).toNat = (l.take (x.1).toNat).map T.int) (fun (x : Int × List T) => Int.toNat (l.length - (x.1))) (0, List.replicate l.length (.v (.int .i64 0))) ?_ ?_ ?_ (fun x hx => ?_)
  · repeat (first | exact Sub.nil' | refine Sub.cons' rfl ?_ )
  · repeat (first | exact SubM.nil' | refine SubM.cons' rfl ?_ )
  · exact ⟨by omega, by omega, by simp, by simp⟩
  obtain ⟨k, xs⟩ := x
  obtain ⟨hk0, hk1, hk2, hk3⟩ := hx
  try dsimp only at hk0 hk1 hk2 hk3 ⊢
  refine W_norm rfl ?_
  iterate 2 (refine W_seq ?_)
  refine W_region ?_
  refine ev ?_
  refine ev ?_
  refine evE ?_
  refine ev ?_
  refine WO_nil ?_
  refine thenQ_n ?_
  refine W_cond rfl (fun h1 => ?_) (fun h1 => ?_)
  ·
    try simp only [HS] at h1
    refine W_skip ?_
    refine thenQ_n ?_
    refine W_seq ?_
    refine W_block ?_
    refine W_region ?_
    iterate 4 (refine ev ?_)
    first | refine WO_idxT tys rfl rfl (lt_of rfl) rfl rfl rfl rfl rfl rfl rfl (by omega) _ (getT _ _ (by omega) (by omega)) ?_ | refine WO_idxS tys rfl rfl (lt_of rfl) rfl rfl rfl rfl rfl rfl rfl rfl (by omega) (by omega) ?_
    refine WO_keep [0, 3, 4, 8, 9, 10, 11, 14, 15, 16, 17, 18] rfl ?_
    first | refine ev ?_ | refine WO_loadL tys rfl rfl (lt_of rfl) rfl rfl rfl rfl (getT _ _ (by omega) (by omega)) rfl ?_ | refine WO_loadL tys rfl rfl (lt_of rfl) rfl rfl rfl rfl (getT0 _ _ (by omega) (by omega)) rfl ?_
    first | refine WO_idxT tys rfl rfl (lt_of rfl) rfl rfl rfl rfl rfl rfl rfl (by omega) _ (getT _ _ (by omega) (by omega)) ?_ | refine WO_idxS tys rfl rfl (lt_of rfl) rfl rfl rfl rfl rfl rfl rfl rfl (by omega) (by omega) ?_
    first | refine WO_storeE tys (.v (.int .i64 _)) rfl rfl rfl rfl rfl rfl (by first | exact Nat.zero_add _ | rfl) (by omega) rfl (by repeat (first | exact AbsL.nil' | refine AbsL.v' ?_ | refine AbsL.own' ?_)) rfl rfl rfl ?_ | refine WO_storeL tys _ rfl rfl rfl rfl rfl rfl (getT _ _ (by omega) (by omega)) rfl (by repeat (first | exact AbsL.nil' | refine AbsL.v' ?_ | refine AbsL.own' ?_)) rfl (by decide) (by decide) ?_
    refine WO_norm rfl ?_
    refine WO_nil ?_
    refine inBlk_n ?_
    refine thenQ_n ?_
    refine W_region ?_
    refine ev ?_
    refine evI ?_
    refine ev ?_
    refine WO_nil ?_
    refine loopQ_n (_, _) (by (try dsimp only); repeat (first | exact Sub.nil' | refine Sub.cons' rfl ?_ )) (by (try dsimp only); repeat (first | exact SubM.nil' | refine SubM.cons' rfl ?_ )) ?_ ?_
    · try dsimp only
      exact ⟨by omega, by omega, by simpa using hk2, fill_step hk0 (by omega) hk2 hk3⟩
    · (show Int.toNat _ < Int.toNat _); omega
  try simp only [HS] at h1
  refine W_exit ?_
  refine thenQ_e ?_
  refine loopQ_e ?_
  refine inBlk_y ?_
  refine thenQ_n ?_
  refine W_seq ?_
  refine W_region ?_
  refine ev ?_
  refine ev ?_
  refine WO_nil ?_
  refine thenQ_n ?_
  refine W_le (Le.gather (u := 2) (id := 7) rfl rfl (by omega)) ?_
  refine W_ret ?_
  refine Ends_of (.inr rfl) (ret_okF rfl) (by decide) rfl ?_
  · rw [List.take_of_length_le (by omega), fill_end (by omega) hk2 hk3]; rfl

/-- Two lists, held against each other one by one. -/
def eqGo {α : Type} (f : α → α → Bool) : List α → List α → Bool
  | x :: xs, y :: ys => f x y && eqGo f xs ys
  | _, _ => true
def eqL {α : Type} (f : α → α → Bool) (a b : List α) : Bool := a.length == b.length && eqGo f a b
theorem eqGo_refl {α : Type} {f : α → α → Bool} (h : ∀ x, f x x = true) : ∀ l : List α, eqGo f l l = true
  | [] => rfl
  | x :: l => by rw [eqGo, h, eqGo_refl h l]; rfl
theorem eqL_refl {α : Type} {f : α → α → Bool} (h : ∀ x, f x x = true) (l : List α) : eqL f l l = true := by
  unfold eqL; rw [eqGo_refl h]; simp
def eqI (a b : Int) : Bool := decide (a = b)

theorem eqL_len {α : Type} {f : α → α → Bool} {a b : List α} (h : ¬ (a.length : Int) = b.length) : eqL f a b = false := by
  unfold eqL
  have : (a.length == b.length) = false := by simpa using fun e => h (by omega)
  rw [this]; rfl
theorem eqGo_at {α : Type} {f : α → α → Bool} {a b : List α} {k : Int} (h0 : 0 ≤ k) (h1 : k < a.length) (h : (a.length : Int) = b.length) :
    eqGo f (a.drop k.toNat) (b.drop k.toNat) = (f (a[k.toNat]'(by omega)) (b[k.toNat]'(by omega)) && eqGo f (a.drop (k + 1).toNat) (b.drop (k + 1).toNat)) := by
  rw [drop_at h0 (by omega), drop_at (l := b) h0 (by omega), eqGo]
theorem eqL_eq {α : Type} {f : α → α → Bool} {a b : List α} (h : (a.length : Int) = b.length) : eqL f a b = eqGo f a b := by
  unfold eqL
  have : (a.length == b.length) = true := by simp; omega
  rw [this]; rfl

theorem eqIntS_fun (a b : List Int) (ha : a.length ≤ 9223372036854775807) (hb : b.length ≤ 9223372036854775807) : Fun Tryd.prog 23 [.t (T.ints a), .t (T.ints b)] (tupD [.t (.bool (eqL eqI a b))]) := by
  refine Fun.begin tys Tryd.func23 rfl rfl (N := 26) [(0, .t (T.ints a)), (1, .t (T.ints b))] rfl rfl (fun w0 G F0 => ?_)
  refine W_seq ?_
  refine W_region ?_
  refine ev ?_
  refine WO_nil ?_
  refine thenQ_n ?_
  iterate 2 (refine W_seq ?_)
  refine W_region ?_
  refine ev ?_
  refine evE ?_
  refine ev ?_
  refine evE ?_
  refine ev ?_
  refine WO_nil ?_
  refine thenQ_n ?_
  refine W_cond rfl (fun h1 => ?_) (fun h1 => ?_)
  ·
    try simp only [HS] at h1
    refine W_seq ?_
    refine W_region ?_
    refine ev ?_
    refine WO_nil ?_
    refine thenQ_n ?_
    refine W_ret ?_
    refine thenQ_r ?_
    refine Ends_of (.inr rfl) (ret_okF rfl) (by decide) rfl ?_
    · first | (rw [eqL_len h1]; done) | (rw [eqL_eq h1, hk2, eqGo_at hk0 h2 h1]; simp [eqI, h3]; done) | (rw [eqL_eq h1, hk2, drop_end h2]; rfl)
  try simp only [HS] at h1
  refine W_skip ?_
  refine thenQ_n ?_
  iterate 2 (refine W_seq ?_)
  refine W_region ?_
  refine ev ?_
  refine WO_nil ?_
  refine thenQ_n ?_
  refine W_block ?_
  refine W_loopK (α := Int) [0, 1] [] (fun (x : Int) => [(5, .t (.int x))]) (fun (x : Int) => []) (fun (x : Int) => 0 ≤ x ∧ x ≤ a.length ∧ eqGo eqI a b = eqGo eqI (a.drop x.toNat) (b.drop x.toNat)) (fun (x : Int) => Int.toNat (a.length - x)) 0 ?_ ?_ ?_ (fun k hx => ?_)
  · repeat (first | exact Sub.nil' | refine Sub.cons' rfl ?_ )
  · repeat (first | exact SubM.nil' | refine SubM.cons' rfl ?_ )
  · exact ⟨by omega, by omega, rfl⟩
  obtain ⟨hk0, hk1, hk2⟩ := hx
  refine W_norm rfl ?_
  iterate 2 (refine W_seq ?_)
  refine W_region ?_
  refine ev ?_
  refine ev ?_
  refine evE ?_
  refine ev ?_
  refine WO_nil ?_
  refine thenQ_n ?_
  refine W_cond rfl (fun h2 => ?_) (fun h2 => ?_)
  ·
    try simp only [HS] at h2
    refine W_skip ?_
    refine thenQ_n ?_
    refine W_seq ?_
    refine W_block ?_
    refine W_seq ?_
    refine W_regionD mixed (by kernel_rfl) ?_
    refine evQ ?_
    refine evQ ?_
    refine QL_norm rfl ?_
    first | refine QL_idxT tys rfl rfl (lt_of rfl) rfl rfl rfl rfl rfl rfl rfl (by omega) _ (getT _ _ (by omega) (by omega)) ?_ | refine QL_idxS tys rfl rfl (lt_of rfl) rfl rfl rfl rfl rfl rfl rfl rfl (by omega) (by omega) ?_
    first | refine evQ ?_ | refine QL_loadL tys rfl rfl (lt_of rfl) rfl rfl rfl rfl (getT _ _ (by omega) (by omega)) rfl ?_ | refine QL_loadL tys rfl rfl (lt_of rfl) rfl rfl rfl rfl (getT0 _ _ (by omega) (by omega)) rfl ?_
    refine evQ ?_
    refine evQ ?_
    first | refine QL_idxT tys rfl rfl (lt_of rfl) rfl rfl rfl rfl rfl rfl rfl (by omega) _ (getT _ _ (by omega) (by omega)) ?_ | refine QL_idxS tys rfl rfl (lt_of rfl) rfl rfl rfl rfl rfl rfl rfl rfl (by omega) (by omega) ?_
    first | refine evQ ?_ | refine QL_loadL tys rfl rfl (lt_of rfl) rfl rfl rfl rfl (getT _ _ (by omega) (by omega)) rfl ?_ | refine QL_loadL tys rfl rfl (lt_of rfl) rfl rfl rfl rfl (getT0 _ _ (by omega) (by omega)) rfl ?_
    refine QL_norm rfl ?_
    refine evQ ?_
    refine QL_nil ?_
    refine thenQ_n ?_
    refine W_cond rfl (fun h3 => ?_) (fun h3 => ?_)
    ·
      try simp only [HS] at h3
      refine W_seq ?_
      refine W_region ?_
      refine ev ?_
      refine WO_nil ?_
      refine thenQ_n ?_
      refine W_ret ?_
      refine inBlk_r ?_
      refine thenQ_r ?_
      refine loopQ_r ?_
      refine inBlk_r ?_
      refine thenQ_r ?_
      refine Ends_of (.inr rfl) (ret_okF rfl) (by decide) rfl ?_
      · first | (rw [eqL_len h1]; done) | (rw [eqL_eq h1, hk2, eqGo_at hk0 h2 h1]; simp [eqI, h3]; done) | (rw [eqL_eq h1, hk2, drop_end h2]; rfl)
    try simp only [HS] at h3
    refine W_skip ?_
    refine inBlk_n ?_
    refine thenQ_n ?_
    refine W_region ?_
    refine ev ?_
    refine evI ?_
    refine ev ?_
    refine WO_nil ?_
    refine loopQ_n _ (by (try dsimp only); repeat (first | exact Sub.nil' | refine Sub.cons' rfl ?_ )) (by (try dsimp only); repeat (first | exact SubM.nil' | refine SubM.cons' rfl ?_ )) ?_ ?_
    · try dsimp only
      refine ⟨by omega, by omega, ?_⟩; rw [hk2, eqGo_at hk0 h2 h1]; simp [eqI, h3]
    · (show Int.toNat _ < Int.toNat _); omega
  try simp only [HS] at h2
  refine W_exit ?_
  refine thenQ_e ?_
  refine loopQ_e ?_
  refine inBlk_y ?_
  refine thenQ_n ?_
  refine W_seq ?_
  refine W_region ?_
  refine ev ?_
  refine WO_nil ?_
  refine thenQ_n ?_
  refine W_ret ?_
  refine Ends_of (.inr rfl) (ret_okF rfl) (by decide) rfl ?_
  · first | (rw [eqL_len h1]; done) | (rw [eqL_eq h1, hk2, eqGo_at hk0 h2 h1]; simp [eqI, h3]; done) | (rw [eqL_eq h1, hk2, drop_end h2]; rfl)


/-- Where the first is that has it. -/
def idxGo {α : Type} (p : α → Bool) : List α → Int → Int
  | [], _ => -1
  | x :: xs, k => if p x then k else idxGo p xs (k + 1)
theorem idxGo_any {α : Type} {p : α → Bool} : ∀ {l : List α} {k : Int}, 0 ≤ k → decide (0 ≤ idxGo p l k) = l.any p
  | [], _, _ => rfl
  | x :: l, k, h => by
    rw [idxGo, List.any_cons]
    cases hp : p x
    · simpa using idxGo_any (l := l) (k := k + 1) (by omega)
    · simpa using h
theorem idx_at {α : Type} {p : α → Bool} {l : List α} {k : Int} (h0 : 0 ≤ k) (h1 : k < l.length) : idxGo p (l.drop k.toNat) k = if p (l[k.toNat]'(by omega)) then k else idxGo p (l.drop (k + 1).toNat) (k + 1) := by
  rw [drop_at h0 h1, idxGo]


theorem idxS_fun (l : List Int) (p : Int → Bool) (f : Nat) (caps : List D) (hcaps : caps.all D.imm = true) (hl : l.length ≤ 9223372036854775807) (hf : ∀ x, x ∈ l → Fun Tryd.prog f (.t (T.int x) :: caps) (.t (.bool (p x)))) : Fun Tryd.prog 70 [.t (T.ints l), .clo f caps] (tupD [.t (.int (idxGo p l 0))]) := by
  refine Fun.begin tys Tryd.func70 rfl rfl (N := 19) [(0, .t (T.ints l)), (1, .clo f caps)] rfl rfl (fun w0 G F0 => ?_)
  refine W_seq ?_
  refine W_region ?_
  refine ev ?_
  refine WO_nil ?_
  refine thenQ_n ?_
  iterate 2 (refine W_seq ?_)
  refine W_region ?_
  refine ev ?_
  refine evE ?_
  refine ev ?_
  refine WO_nil ?_
  refine thenQ_n ?_
  refine W_block ?_
  refine W_loopK (α := Int) [0, 1, 7] [] (fun (x : Int) => [(8, .t (.int x))]) (fun (x : Int) => []) (fun (x : Int) => 0 ≤ x ∧ x ≤ l.length ∧ idxGo p l 0 = idxGo p (l.drop x.toNat) x) (fun (x : Int) => Int.toNat (l.length - x)) 0 ?_ ?_ ?_ (fun k hx => ?_)
  · repeat (first | exact Sub.nil' | refine Sub.cons' rfl ?_ )
  · repeat (first | exact SubM.nil' | refine SubM.cons' rfl ?_ )
  · exact ⟨by omega, by omega, rfl⟩
  obtain ⟨hk0, hk1, hk2⟩ := hx
  refine W_norm rfl ?_
  refine W_seq ?_
  refine W_region ?_
  refine ev ?_
  refine WO_nil ?_
  refine thenQ_n ?_
  refine W_seq ?_
  refine W_cond rfl (fun h1 => ?_) (fun h1 => ?_)
  ·
    try simp only [HS] at h1
    refine W_skip ?_
    refine thenQ_n ?_
    refine W_seq ?_
    refine W_block ?_
    refine W_seq ?_
    refine W_region ?_
    refine ev ?_
    refine ev ?_
    refine WO_nil ?_
    refine thenQ_n ?_
    refine W_seq ?_
    refine W_region ?_
    refine WO_moveClo tys rfl rfl (lt_of rfl) rfl rfl (by assumption) ?_
    refine ev ?_
    refine ev ?_
    first | refine WO_idxT tys rfl rfl (lt_of rfl) rfl rfl rfl rfl rfl rfl rfl (by omega) _ (getT _ _ (by omega) (by omega)) ?_ | refine WO_idxS tys rfl rfl (lt_of rfl) rfl rfl rfl rfl rfl rfl rfl rfl (by omega) (by omega) ?_
    first | refine ev ?_ | refine WO_loadL tys rfl rfl (lt_of rfl) rfl rfl rfl rfl (getT _ _ (by omega) (by omega)) rfl ?_ | refine WO_loadL tys rfl rfl (lt_of rfl) rfl rfl rfl rfl (getT0 _ _ (by omega) (by omega)) rfl ?_
    refine WO_call rfl rfl (lt_of rfl) rfl rfl (by repeat (first | exact ResL.done | exact ResL.imms (by first | rfl | assumption) | refine ResL.t ?_ | refine ResL.own ?_ | refine ResL.slA rfl (by first | rfl | (simp; done) | (simp; omega)) ?_ | refine ResL.sl rfl (by first | omega | (simp; done) | (simp; omega)) ?_ | refine ResL.rp ?_ | refine ResL.clo ?_ ?_ | refine ResL.aggT ?_ ?_ | refine ResL.ref rfl ?_ ?_ | refine ResL.nil' ?_ | refine ResL.nil 1 ?_)) (hf _ (List.getElem_mem _)) rfl ?_
    refine WO_keep [0, 1, 5, 7, 8, 9, 10, 11, 12, 13, 14, 15, 16] rfl ?_
    refine WO_nil ?_
    refine thenQ_n ?_
    refine W_cond rfl (fun h2 => ?_) (fun h2 => ?_)
    ·
      try simp only [HS] at h2
      refine W_seq ?_
      refine W_region ?_
      refine ev ?_
      refine ev ?_
      refine WO_nil ?_
      refine thenQ_n ?_
      refine W_ret ?_
      refine inBlk_r ?_
      refine thenQ_r ?_
      refine loopQ_r ?_
      refine inBlk_r ?_
      refine thenQ_r ?_
      refine Ends_of (.inr rfl) (ret_okF rfl) (by decide) rfl ?_
      · first | (rw [hk2, idx_at hk0 h1]; simp [h2]; done) | (rw [hk2, drop_end h1]; rfl)
    try simp only [HS] at h2
    refine W_skip ?_
    refine inBlk_n ?_
    refine thenQ_n ?_
    refine W_region ?_
    refine evI ?_
    refine ev ?_
    refine WO_nil ?_
    refine loopQ_n _ (by (try dsimp only); repeat (first | exact Sub.nil' | refine Sub.cons' rfl ?_ )) (by (try dsimp only); repeat (first | exact SubM.nil' | refine SubM.cons' rfl ?_ )) ?_ ?_
    · try dsimp only
      refine ⟨by omega, by omega, ?_⟩; rw [hk2, idx_at hk0 h1]; simp [h2]
    · (show Int.toNat _ < Int.toNat _); omega
  try simp only [HS] at h1
  refine W_exit ?_
  refine thenQ_e ?_
  refine loopQ_e ?_
  refine inBlk_y ?_
  refine thenQ_n ?_
  refine W_seq ?_
  refine W_region ?_
  refine ev ?_
  refine WO_nil ?_
  refine thenQ_n ?_
  refine W_ret ?_
  refine Ends_of (.inr rfl) (ret_okF rfl) (by decide) rfl ?_
  · first | (rw [hk2, idx_at hk0 h1]; simp [h2]; done) | (rw [hk2, drop_end h1]; rfl)


theorem hasS_fun (l : List Int) (p : Int → Bool) (f : Nat) (caps : List D) (hcaps : caps.all D.imm = true) (hl : l.length ≤ 9223372036854775807) (hf : ∀ x, x ∈ l → Fun Tryd.prog f (.t (T.int x) :: caps) (.t (.bool (p x)))) : Fun Tryd.prog 40 [.t (T.ints l), .clo f caps] (tupD [.t (.bool (l.any p))]) := by
  refine Fun.begin tys Tryd.func40 rfl rfl (N := 9) [(0, .t (T.ints l)), (1, .clo f caps)] rfl rfl (fun w0 G F0 => ?_)
  refine W_seq ?_
  refine W_region ?_
  refine ev ?_
  refine WO_nil ?_
  refine thenQ_n ?_
  refine W_seq ?_
  refine W_region ?_
  refine ev ?_
  refine WO_moveClo tys rfl rfl (lt_of rfl) rfl rfl (by assumption) ?_
  refine WO_call rfl rfl (lt_of rfl) rfl rfl (by repeat (first | exact ResL.done | exact ResL.imms (by first | rfl | assumption) | refine ResL.t ?_ | refine ResL.own ?_ | refine ResL.slA rfl (by first | rfl | (simp; done) | (simp; omega)) ?_ | refine ResL.sl rfl (by first | omega | (simp; done) | (simp; omega)) ?_ | refine ResL.rp ?_ | refine ResL.clo ?_ ?_ | refine ResL.aggT ?_ ?_ | refine ResL.ref rfl ?_ ?_ | refine ResL.nil' ?_ | refine ResL.nil 1 ?_)) (idxS_fun l p f caps hcaps hl hf) rfl ?_
  refine ev ?_
  refine ev ?_
  refine WO_nil ?_
  refine thenQ_n ?_
  refine W_ret ?_
  refine Ends_of (.inr rfl) (ret_okF rfl) (by decide) rfl ?_
  · rw [← idxGo_any (Int.le_refl 0)]


theorem any_not_all {l : List Int} : (l.any fun n => !decide ((0 : Int) ≤ n ∧ n ≤ 1000000)) = !allIn l 0 1000000 := by
  rw [allIn, List.not_all_eq_any_not]
open Go.Eng

/-- Lists that are so long at most; whose elements are good. -/
def okN {α : Type} (B : Nat) (l : List α) : Prop := l.length ≤ B
def okL {α : Type} (B : Nat) (ok : α → Prop) (l : List α) : Prop := l.length ≤ B ∧ ∀ x, x ∈ l → ok x

theorem take_at {α : Type} {l : List α} {k : Int} (h0 : 0 ≤ k) (h1 : k < l.length) : l.take (k + 1).toNat = l.take k.toNat ++ [l[k.toNat]'(by omega)] := by
  rw [show (k + 1).toNat = k.toNat + 1 from by omega, List.take_add_one, List.getElem?_eq_getElem (by omega)]
  rfl
theorem take_end {α : Type} {l : List α} {k : Int} (h1 : (l.length : Int) ≤ k) : l.take k.toNat = l := List.take_of_length_le (by omega)
/-- What is left of a size, part by part. -/
def szSeq : List (Int → Int) → Int → Int
  | [], left => left
  | f :: fs, left => if f left < 0 then -1 else szSeq fs (f left)
def szLen {α : Type} (l : List α) (left : Int) : Int := szN l.length left
def szIntS (l : List Int) (left : Int) : Int := szN l.length left
/-- What a size tells. -/
def SzA (f : Int → Int) (p : Prop) : Prop := ∀ left : Int, 0 ≤ left → left ≤ 1048576 → f left ≤ left ∧ -1 ≤ f left ∧ (0 ≤ f left → p)
def SzG {α : Type} (f : α → Int → Int) (ok : α → Prop) : Prop := ∀ x, SzA (f x) (ok x)
theorem szN_g {α : Type} : SzG (fun (l : List α) => szN l.length) (okN 1048576) := by
  intro l left h0 hh
  unfold szN okN
  dsimp only
  split <;> refine ⟨by omega, by omega, fun h => by omega⟩
theorem szLen_g {α : Type} (l : List α) : SzA (szLen l) (okN 1048576 l) := szN_g l
theorem szIntS_g (l : List Int) : SzA (szIntS l) (okN 1048576 l) := szN_g l
theorem szSeq_nil : SzA (szSeq []) True := fun left h0 hh => ⟨by simp [szSeq], by simp [szSeq]; omega, fun _ => trivial⟩
theorem szSeq_step {f : Int → Int} {fs : List (Int → Int)} {p q : Prop} (h1 : SzA f p) (h2 : SzA (szSeq fs) q) : SzA (szSeq (f :: fs)) (p ∧ q) := by
  intro left h0 hh
  have g1 := h1 left h0 hh
  rw [szSeq]
  split
  · exact ⟨by omega, by omega, fun h => by omega⟩
  · have g2 := h2 (f left) (by omega) (by omega)
    exact ⟨by omega, by omega, fun h => ⟨g1.2.2 (by omega), g2.2.2 h⟩⟩

def eqB (a b : Bool) : Bool := a == b
theorem eqI_refl : ∀ x, eqI x x = true := fun x => by simp [eqI]
theorem szIntSo_fun (l : List Int) (left : Int) (hl : okN 9223372036854775807 l) (h0 : 0 ≤ left) (hh : left ≤ 1048576) : Fun Tryd.prog 13 [.t (T.ints l), .t (.int left)] (.t (.int (szIntS l left))) := szIntS_fun l left hl h0 hh
theorem toIntSo_fun (l : List Int) (hl : okN 1048576 l) : Fun Tryd.prog 18 [.t (T.ints l)] (.own (T.ints l)) := toIntS_fun l hl
theorem eqIntSo_fun (a b : List Int) (ha : okN 9223372036854775807 a) (hb : okN 9223372036854775807 b) : Fun Tryd.prog 23 [.t (T.ints a), .t (T.ints b)] (.t (.bool (eqL eqI a b))) := eqIntS_fun a b ha hb
open Go.Eng

structure Ins where
  op : Int
  n : Int

def Ins.tt (x : Ins) : T := .agg [T.int x.op, T.int x.n]

def eqIns (a b : Ins) : Bool := eqI a.op b.op && eqI a.n b.n && true

theorem eqIns_refl (a : Ins) : eqIns a a = true := by
  unfold eqIns; simp only [eqI_refl, Bool.and_self]

theorem toIns_fun (x : Ins) : Fun Tryd.prog 36 [.t (Ins.tt x)] (tupD [.agg [.t (T.int x.op), .t (T.int x.n)]]) := by
  refine Fun.begin tys Tryd.func36 rfl rfl (N := 11) [(0, .t (Ins.tt x))] rfl rfl (fun w0 G F0 => ?_)
  refine W_seq ?_
  refine W_region ?_
  refine WO_box rfl rfl (lt_of rfl) rfl rfl ?_
  refine WO_norm rfl ?_
  refine WO_alloc tys rfl rfl (lt_of rfl) rfl rfl rfl ?_
  refine WO_norm rfl ?_
  refine WO_nil ?_
  refine thenQ_n ?_
  refine W_seq ?_
  refine W_region ?_
  refine WO_alloc tys rfl rfl (lt_of rfl) rfl rfl rfl ?_
  refine WO_norm rfl ?_
  refine WO_nil ?_
  refine thenQ_n ?_
  refine W_seq ?_
  refine W_region ?_
  iterate 3 (refine ev ?_)
  refine WO_store tys rfl rfl rfl rfl rfl rfl rfl rfl (lt_of rfl) ?_
  refine WO_norm rfl ?_
  refine WO_nil ?_
  refine thenQ_n ?_
  refine W_seq ?_
  refine W_keep [1, 2, 3] rfl ?_
  refine W_region ?_
  iterate 3 (refine ev ?_)
  refine WO_store tys rfl rfl rfl rfl rfl rfl rfl rfl (lt_of rfl) ?_
  refine WO_norm rfl ?_
  refine WO_nil ?_
  refine thenQ_n ?_
  refine W_seq ?_
  refine W_region ?_
  first | (refine ev ?_; try refine WO_le (Le.freeze (u := 10) rfl) ?_) | refine WO_loadMove tys rfl rfl (lt_of rfl) rfl rfl rfl rfl rfl rfl ?_
  refine WO_norm rfl ?_
  refine WO_store tys rfl rfl rfl rfl rfl rfl rfl rfl (lt_of rfl) ?_
  refine WO_norm rfl ?_
  refine WO_nil ?_
  refine thenQ_n ?_
  refine W_ret ?_
  refine Ends_of (.inr rfl) (ret_okF rfl) (by decide) rfl ?_
  · rfl

theorem eqIns_fun (a b : Ins) : Fun Tryd.prog 12 [.t (Ins.tt a), .t (Ins.tt b)] (tupD [.t (.bool (eqIns a b))]) := by
  refine Fun.begin tys Tryd.func12 rfl rfl (N := 15) [(0, .t (Ins.tt a)), (1, .t (Ins.tt b))] rfl rfl (fun w0 G F0 => ?_)
  refine W_seq ?_
  refine W_region ?_
  refine WO_box rfl rfl (lt_of rfl) rfl rfl ?_
  refine WO_norm rfl ?_
  refine WO_box rfl rfl (lt_of rfl) rfl rfl ?_
  refine WO_norm rfl ?_
  refine ev ?_
  refine WO_nil ?_
  refine thenQ_n ?_
  iterate 2 (refine W_seq ?_)
  refine W_region ?_
  iterate 5 (refine ev ?_)
  refine WO_nil ?_
  refine thenQ_n ?_
  refine W_cond rfl (fun h1 => ?_) (fun h1 => ?_)
  ·
    try simp only [HS] at h1
    refine W_seq ?_
    refine W_keep [2, 3, 4] rfl ?_
    refine W_region ?_
    refine ev ?_
    refine WO_nil ?_
    refine thenQ_n ?_
    refine W_ret ?_
    refine thenQ_r ?_
    refine Ends_of (.inr rfl) (ret_okF rfl) (by decide) rfl ?_
    · simp_all [eqIns, eqI, eqB]
  try simp only [HS] at h1
  refine W_skip ?_
  refine thenQ_n ?_
  iterate 2 (refine W_seq ?_)
  refine W_keep [2, 3, 4] rfl ?_
  refine W_region ?_
  iterate 5 (refine ev ?_)
  refine WO_nil ?_
  refine thenQ_n ?_
  refine W_cond rfl (fun h2 => ?_) (fun h2 => ?_)
  ·
    try simp only [HS] at h2
    refine W_seq ?_
    refine W_region ?_
    refine ev ?_
    refine WO_nil ?_
    refine thenQ_n ?_
    refine W_ret ?_
    refine thenQ_r ?_
    refine Ends_of (.inr rfl) (ret_okF rfl) (by decide) rfl ?_
    · simp_all [eqIns, eqI, eqB]
  try simp only [HS] at h2
  refine W_skip ?_
  refine thenQ_n ?_
  refine W_seq ?_
  refine W_region ?_
  refine ev ?_
  refine WO_nil ?_
  refine thenQ_n ?_
  refine W_ret ?_
  refine Ends_of (.inr rfl) (ret_okF rfl) (by decide) rfl ?_
  · simp_all [eqIns, eqI, eqB]

theorem szInsS_g (l : List Ins) : SzA (szLen l) (okN 1048576 l) := szLen_g l
abbrev T.Inss (l : List Ins) : T := .list 2 (l.map Ins.tt)

theorem szInsS_fun (l : List Ins) (left : Int) (hl : okN 9223372036854775807 l) (h0 : 0 ≤ left) (hh : left ≤ 1048576) : Fun Tryd.prog 14 [.t (T.Inss l), .t (.int left)] (tupD [.t (.int (szLen l left))]) := by
  unfold okN at hl
  refine Fun.begin tys Tryd.func14 rfl rfl (N := 12) [(0, .t (T.Inss l)), (1, .t (.int left))] rfl rfl (fun w0 G F0 => ?_)
  refine W_seq ?_
  refine W_region ?_
  refine ev ?_
  refine WO_nil ?_
  refine thenQ_n ?_
  refine W_seq ?_
  refine W_region ?_
  refine ev ?_
  refine ev ?_
  refine evE ?_
  refine evI ?_
  refine ev ?_
  refine WO_nil ?_
  refine thenQ_n ?_
  iterate 2 (refine W_seq ?_)
  refine W_region ?_
  refine ev ?_
  refine ev ?_
  refine WO_nil ?_
  refine thenQ_n ?_
  refine W_cond rfl (fun h1 => ?_) (fun h1 => ?_)
  ·
    try simp only [HS] at h1
    refine W_seq ?_
    refine W_keep [1, 4] rfl ?_
    refine W_region ?_
    refine ev ?_
    refine WO_nil ?_
    refine thenQ_n ?_
    refine W_ret ?_
    refine thenQ_r ?_
    refine Ends_of (.inr rfl) (ret_okF rfl) (by decide) rfl ?_
    · (simp only [szLen, szN]; simp_all <;> omega)
  try simp only [HS] at h1
  refine W_skip ?_
  refine thenQ_n ?_
  refine W_seq ?_
  refine W_keep [1, 4] rfl ?_
  refine W_region ?_
  refine ev ?_
  refine ev ?_
  refine WO_nil ?_
  refine thenQ_n ?_
  refine W_ret ?_
  refine Ends_of (.inr rfl) (ret_okF rfl) (by decide) rfl ?_
  · (simp only [szLen, szN]; simp_all <;> omega)

theorem toInsS_fun (l : List Ins) (hl : okN 1048576 l) : Fun Tryd.prog 19 [.t (T.Inss l)] (tupD [.own (T.Inss l)]) := by
  unfold okN at hl
  refine Fun.begin tys Tryd.func19 rfl rfl (N := 23) [(0, .t (T.Inss l))] rfl rfl (fun w0 G F0 => ?_)
  refine W_seq ?_
  refine W_region ?_
  refine ev ?_
  refine WO_nil ?_
  refine thenQ_n ?_
  refine W_seq ?_
  refine W_region ?_
  refine ev ?_
  refine evE ?_
  refine WO_make tys (.agg [.v (.int .i64 0), .v (.int .i64 0)]) _ rfl rfl (lt_of rfl) rfl rfl rfl rfl rfl (by repeat (first | exact AbsL.nil' | refine AbsL.v' ?_ | refine AbsL.none' ?_)) rfl (by omega) (by decide) ?_
  refine WO_norm rfl ?_
  refine ev ?_
  refine WO_nil ?_
  refine thenQ_n ?_
  iterate 2 (refine W_seq ?_)
  refine W_region ?_
  refine ev ?_
  refine WO_nil ?_
  refine thenQ_n ?_
  refine W_block ?_
  refine W_loopK (α := Int × List T) [0, 3] [] (fun (x : Int × List T) => [(4, .t (.int (x.1)))]) (fun (x : Int × List T) => [(7, .L 2 (x.2))]) (fun (x : Int × List T) => 0 ≤ (x.1) ∧ (x.1) ≤ l.length ∧ (x.2).length = l.length ∧ (x.2).take (x.1).toNat = (l.take (x.1).toNat).map Ins.tt) (fun (x : Int × List T) => Int.toNat (l.length - (x.1))) (0, List.replicate l.length (.agg [.v (.int .i64 0), .v (.int .i64 0)])) ?_ ?_ ?_ (fun x hx => ?_)
  · repeat (first | exact Sub.nil' | refine Sub.cons' rfl ?_ )
  · repeat (first | exact SubM.nil' | refine SubM.cons' rfl ?_ )
  · exact ⟨by omega, by omega, by simp, by simp⟩
  obtain ⟨k, xs⟩ := x
  obtain ⟨hk0, hk1, hk2, hk3⟩ := hx
  try dsimp only at hk0 hk1 hk2 hk3 ⊢
  refine W_norm rfl ?_
  iterate 2 (refine W_seq ?_)
  refine W_region ?_
  refine ev ?_
  refine ev ?_
  refine evE ?_
  refine ev ?_
  refine WO_nil ?_
  refine thenQ_n ?_
  refine W_cond rfl (fun h1 => ?_) (fun h1 => ?_)
  ·
    try simp only [HS] at h1
    refine W_skip ?_
    refine thenQ_n ?_
    refine W_seq ?_
    refine W_block ?_
    refine W_region ?_
    iterate 4 (refine ev ?_)
    first | refine WO_idxT tys rfl rfl (lt_of rfl) rfl rfl rfl rfl rfl rfl rfl (by omega) _ (getT _ _ (by omega) (by omega)) ?_ | refine WO_idxS tys rfl rfl (lt_of rfl) rfl rfl rfl rfl rfl rfl rfl rfl (by omega) (by omega) ?_
    refine WO_keep [0, 3, 4, 8, 9, 10, 11, 14, 15, 16, 17, 18] rfl ?_
    first | (refine ev ?_; try refine WO_le (Le.freeze (u := 19) rfl) ?_) | refine WO_loadL tys rfl rfl (lt_of rfl) rfl rfl rfl rfl (getT _ _ (by omega) (by omega)) rfl ?_ | refine WO_loadL tys rfl rfl (lt_of rfl) rfl rfl rfl rfl (getT0 _ _ (by omega) (by omega)) rfl ?_
    refine WO_norm rfl ?_
    refine callB ?_
    refine ⟨_, toIns_fun _, rfl, ?_⟩
    first | refine WO_idxT tys rfl rfl (lt_of rfl) rfl rfl rfl rfl rfl rfl rfl (by omega) _ (getT _ _ (by omega) (by omega)) ?_ | refine WO_idxS tys rfl rfl (lt_of rfl) rfl rfl rfl rfl rfl rfl rfl rfl (by omega) (by omega) ?_
    first | refine WO_storeE tys (Ins.tt _) rfl rfl rfl rfl rfl rfl (by first | exact Nat.zero_add _ | rfl) (by omega) rfl (by repeat (first | exact AbsL.nil' | refine AbsL.v' ?_ | refine AbsL.own' ?_)) rfl rfl rfl ?_ | refine WO_storeL tys _ rfl rfl rfl rfl rfl rfl (getT _ _ (by omega) (by omega)) rfl (by repeat (first | exact AbsL.nil' | refine AbsL.v' ?_ | refine AbsL.own' ?_)) rfl (by decide) (by decide) ?_
    refine WO_norm rfl ?_
    refine WO_nil ?_
    refine inBlk_n ?_
    refine thenQ_n ?_
    refine W_region ?_
    refine ev ?_
    refine evI ?_
    refine ev ?_
    refine WO_nil ?_
    refine loopQ_n (_, _) (by (try dsimp only); repeat (first | exact Sub.nil' | refine Sub.cons' rfl ?_ )) (by (try dsimp only); repeat (first | exact SubM.nil' | refine SubM.cons' rfl ?_ )) ?_ ?_
    · try dsimp only
      exact ⟨by omega, by omega, by simpa using hk2, fill_step hk0 (by omega) hk2 hk3⟩
    · (show Int.toNat _ < Int.toNat _); omega
  try simp only [HS] at h1
  refine W_exit ?_
  refine thenQ_e ?_
  refine loopQ_e ?_
  refine inBlk_y ?_
  refine thenQ_n ?_
  refine W_seq ?_
  refine W_region ?_
  refine ev ?_
  refine ev ?_
  refine WO_nil ?_
  refine thenQ_n ?_
  refine W_le (Le.gather (u := 2) (id := 7) rfl rfl (by omega)) ?_
  refine W_ret ?_
  refine Ends_of (.inr rfl) (ret_okF rfl) (by decide) rfl ?_
  · rw [List.take_of_length_le (by omega), fill_end (by omega) hk2 hk3]

theorem eqInsS_fun (a b : List Ins) (ha : okN 9223372036854775807 a) (hb : okN 9223372036854775807 b) : Fun Tryd.prog 24 [.t (T.Inss a), .t (T.Inss b)] (tupD [.t (.bool (eqL eqIns a b))]) := by
  unfold okN at ha hb
  refine Fun.begin tys Tryd.func24 rfl rfl (N := 27) [(0, .t (T.Inss a)), (1, .t (T.Inss b))] rfl rfl (fun w0 G F0 => ?_)
  refine W_seq ?_
  refine W_region ?_
  refine ev ?_
  refine WO_nil ?_
  refine thenQ_n ?_
  iterate 2 (refine W_seq ?_)
  refine W_region ?_
  refine ev ?_
  refine evE ?_
  refine ev ?_
  refine evE ?_
  refine ev ?_
  refine WO_nil ?_
  refine thenQ_n ?_
  refine W_cond rfl (fun h1 => ?_) (fun h1 => ?_)
  ·
    try simp only [HS] at h1
    refine W_seq ?_
    refine W_region ?_
    refine ev ?_
    refine WO_nil ?_
    refine thenQ_n ?_
    refine W_ret ?_
    refine thenQ_r ?_
    refine Ends_of (.inr rfl) (ret_okF rfl) (by decide) rfl ?_
    · first | (rw [eqL_len h1]; done) | (rw [eqL_eq h1, hk2, eqGo_at hk0 h2 h1]; simp [h3]; done) | (rw [eqL_eq h1, hk2, drop_end h2]; rfl)
  try simp only [HS] at h1
  refine W_skip ?_
  refine thenQ_n ?_
  iterate 2 (refine W_seq ?_)
  refine W_region ?_
  refine ev ?_
  refine WO_nil ?_
  refine thenQ_n ?_
  refine W_block ?_
  refine W_loopK (α := Int) [0, 1] [] (fun (x : Int) => [(5, .t (.int x))]) (fun (x : Int) => []) (fun (x : Int) => 0 ≤ x ∧ x ≤ a.length ∧ eqGo eqIns a b = eqGo eqIns (a.drop x.toNat) (b.drop x.toNat)) (fun (x : Int) => Int.toNat (a.length - x)) 0 ?_ ?_ ?_ (fun k hx => ?_)
  · repeat (first | exact Sub.nil' | refine Sub.cons' rfl ?_ )
  · repeat (first | exact SubM.nil' | refine SubM.cons' rfl ?_ )
  · exact ⟨by omega, by omega, rfl⟩
  obtain ⟨hk0, hk1, hk2⟩ := hx
  refine W_norm rfl ?_
  iterate 2 (refine W_seq ?_)
  refine W_region ?_
  refine ev ?_
  refine ev ?_
  refine evE ?_
  refine ev ?_
  refine WO_nil ?_
  refine thenQ_n ?_
  refine W_cond rfl (fun h2 => ?_) (fun h2 => ?_)
  ·
    try simp only [HS] at h2
    refine W_skip ?_
    refine thenQ_n ?_
    refine W_seq ?_
    refine W_block ?_
    refine W_seq ?_
    refine W_regionD mixed (by kernel_rfl) ?_
    refine evQ ?_
    refine evQ ?_
    refine QL_norm rfl ?_
    first | refine QL_idxT tys rfl rfl (lt_of rfl) rfl rfl rfl rfl rfl rfl rfl (by omega) _ (getT _ _ (by omega) (by omega)) ?_ | refine QL_idxS tys rfl rfl (lt_of rfl) rfl rfl rfl rfl rfl rfl rfl rfl (by omega) (by omega) ?_
    first | refine QL_evZ tys rfl rfl (lt_of rfl) rfl rfl ?_ | refine evQ ?_ | refine QL_loadL tys rfl rfl (lt_of rfl) rfl rfl rfl rfl (getT _ _ (by omega) (by omega)) rfl ?_ | refine QL_loadL tys rfl rfl (lt_of rfl) rfl rfl rfl rfl (getT0 _ _ (by omega) (by omega)) rfl ?_
    refine evQ ?_
    refine evQ ?_
    first | refine QL_idxT tys rfl rfl (lt_of rfl) rfl rfl rfl rfl rfl rfl rfl (by omega) _ (getT _ _ (by omega) (by omega)) ?_ | refine QL_idxS tys rfl rfl (lt_of rfl) rfl rfl rfl rfl rfl rfl rfl rfl (by omega) (by omega) ?_
    first | refine QL_evZ tys rfl rfl (lt_of rfl) rfl rfl ?_ | refine evQ ?_ | refine QL_loadL tys rfl rfl (lt_of rfl) rfl rfl rfl rfl (getT _ _ (by omega) (by omega)) rfl ?_ | refine QL_loadL tys rfl rfl (lt_of rfl) rfl rfl rfl rfl (getT0 _ _ (by omega) (by omega)) rfl ?_
    refine QL_norm rfl ?_
    refine callBQ ?_
    refine ⟨_, eqIns_fun _ _, rfl, ?_⟩
    refine evQ ?_
    refine QL_nil ?_
    refine thenQ_n ?_
    refine W_cond rfl (fun h3 => ?_) (fun h3 => ?_)
    ·
      try simp only [HS] at h3
      refine W_seq ?_
      refine W_region ?_
      refine ev ?_
      refine WO_nil ?_
      refine thenQ_n ?_
      refine W_ret ?_
      refine inBlk_r ?_
      refine thenQ_r ?_
      refine loopQ_r ?_
      refine inBlk_r ?_
      refine thenQ_r ?_
      refine Ends_of (.inr rfl) (ret_okF rfl) (by decide) rfl ?_
      · first | (rw [eqL_len h1]; done) | (rw [eqL_eq h1, hk2, eqGo_at hk0 h2 h1]; simp [h3]; done) | (rw [eqL_eq h1, hk2, drop_end h2]; rfl)
    try simp only [HS] at h3
    refine W_skip ?_
    refine inBlk_n ?_
    refine thenQ_n ?_
    refine W_region ?_
    refine ev ?_
    refine evI ?_
    refine ev ?_
    refine WO_nil ?_
    refine loopQ_n _ (by (try dsimp only); repeat (first | exact Sub.nil' | refine Sub.cons' rfl ?_ )) (by (try dsimp only); repeat (first | exact SubM.nil' | refine SubM.cons' rfl ?_ )) ?_ ?_
    · try dsimp only
      refine ⟨by omega, by omega, ?_⟩; rw [hk2, eqGo_at hk0 h2 h1]; simp [h3]
    · (show Int.toNat _ < Int.toNat _); omega
  try simp only [HS] at h2
  refine W_exit ?_
  refine thenQ_e ?_
  refine loopQ_e ?_
  refine inBlk_y ?_
  refine thenQ_n ?_
  refine W_seq ?_
  refine W_region ?_
  refine ev ?_
  refine WO_nil ?_
  refine thenQ_n ?_
  refine W_ret ?_
  refine Ends_of (.inr rfl) (ret_okF rfl) (by decide) rfl ?_
  · first | (rw [eqL_len h1]; done) | (rw [eqL_eq h1, hk2, eqGo_at hk0 h2 h1]; simp [h3]; done) | (rw [eqL_eq h1, hk2, drop_end h2]; rfl)

structure Row where
  lo : Int
  hi : Int
  pad : Int

def Row.tt (x : Row) : T := .agg [T.int x.lo, T.int x.hi, T.int x.pad]

def eqRow (a b : Row) : Bool := eqI a.lo b.lo && eqI a.hi b.hi && eqI a.pad b.pad && true

theorem eqRow_refl (a : Row) : eqRow a a = true := by
  unfold eqRow; simp only [eqI_refl, Bool.and_self]

theorem toRow_fun (x : Row) : Fun Tryd.prog 37 [.t (Row.tt x)] (tupD [.agg [.t (T.int x.lo), .t (T.int x.hi), .t (T.int x.pad)]]) := by
  refine Fun.begin tys Tryd.func37 rfl rfl (N := 14) [(0, .t (Row.tt x))] rfl rfl (fun w0 G F0 => ?_)
  refine W_seq ?_
  refine W_region ?_
  refine WO_box rfl rfl (lt_of rfl) rfl rfl ?_
  refine WO_norm rfl ?_
  refine WO_alloc tys rfl rfl (lt_of rfl) rfl rfl rfl ?_
  refine WO_norm rfl ?_
  refine WO_nil ?_
  refine thenQ_n ?_
  refine W_seq ?_
  refine W_region ?_
  refine WO_alloc tys rfl rfl (lt_of rfl) rfl rfl rfl ?_
  refine WO_norm rfl ?_
  refine WO_nil ?_
  refine thenQ_n ?_
  refine W_seq ?_
  refine W_region ?_
  iterate 3 (refine ev ?_)
  refine WO_store tys rfl rfl rfl rfl rfl rfl rfl rfl (lt_of rfl) ?_
  refine WO_norm rfl ?_
  refine WO_nil ?_
  refine thenQ_n ?_
  refine W_seq ?_
  refine W_keep [1, 2, 3] rfl ?_
  refine W_region ?_
  iterate 3 (refine ev ?_)
  refine WO_store tys rfl rfl rfl rfl rfl rfl rfl rfl (lt_of rfl) ?_
  refine WO_norm rfl ?_
  refine WO_nil ?_
  refine thenQ_n ?_
  refine W_seq ?_
  refine W_region ?_
  iterate 3 (refine ev ?_)
  refine WO_store tys rfl rfl rfl rfl rfl rfl rfl rfl (lt_of rfl) ?_
  refine WO_norm rfl ?_
  refine WO_nil ?_
  refine thenQ_n ?_
  refine W_seq ?_
  refine W_keep [2, 3] rfl ?_
  refine W_region ?_
  first | (refine ev ?_; try refine WO_le (Le.freeze (u := 13) rfl) ?_) | refine WO_loadMove tys rfl rfl (lt_of rfl) rfl rfl rfl rfl rfl rfl ?_
  refine WO_norm rfl ?_
  refine WO_store tys rfl rfl rfl rfl rfl rfl rfl rfl (lt_of rfl) ?_
  refine WO_norm rfl ?_
  refine WO_nil ?_
  refine thenQ_n ?_
  refine W_ret ?_
  refine Ends_of (.inr rfl) (ret_okF rfl) (by decide) rfl ?_
  · rfl

theorem eqRow_fun (a b : Row) : Fun Tryd.prog 53 [.t (Row.tt a), .t (Row.tt b)] (tupD [.t (.bool (eqRow a b))]) := by
  refine Fun.begin tys Tryd.func53 rfl rfl (N := 20) [(0, .t (Row.tt a)), (1, .t (Row.tt b))] rfl rfl (fun w0 G F0 => ?_)
  refine W_seq ?_
  refine W_region ?_
  refine WO_box rfl rfl (lt_of rfl) rfl rfl ?_
  refine WO_norm rfl ?_
  refine WO_box rfl rfl (lt_of rfl) rfl rfl ?_
  refine WO_norm rfl ?_
  refine ev ?_
  refine WO_nil ?_
  refine thenQ_n ?_
  iterate 2 (refine W_seq ?_)
  refine W_region ?_
  iterate 5 (refine ev ?_)
  refine WO_nil ?_
  refine thenQ_n ?_
  refine W_cond rfl (fun h1 => ?_) (fun h1 => ?_)
  ·
    try simp only [HS] at h1
    refine W_seq ?_
    refine W_keep [2, 3, 4] rfl ?_
    refine W_region ?_
    refine ev ?_
    refine WO_nil ?_
    refine thenQ_n ?_
    refine W_ret ?_
    refine thenQ_r ?_
    refine Ends_of (.inr rfl) (ret_okF rfl) (by decide) rfl ?_
    · simp_all [eqRow, eqI, eqB]
  try simp only [HS] at h1
  refine W_skip ?_
  refine thenQ_n ?_
  iterate 2 (refine W_seq ?_)
  refine W_keep [2, 3, 4] rfl ?_
  refine W_region ?_
  iterate 5 (refine ev ?_)
  refine WO_nil ?_
  refine thenQ_n ?_
  refine W_cond rfl (fun h2 => ?_) (fun h2 => ?_)
  ·
    try simp only [HS] at h2
    refine W_seq ?_
    refine W_region ?_
    refine ev ?_
    refine WO_nil ?_
    refine thenQ_n ?_
    refine W_ret ?_
    refine thenQ_r ?_
    refine Ends_of (.inr rfl) (ret_okF rfl) (by decide) rfl ?_
    · simp_all [eqRow, eqI, eqB]
  try simp only [HS] at h2
  refine W_skip ?_
  refine thenQ_n ?_
  iterate 2 (refine W_seq ?_)
  refine W_region ?_
  iterate 4 (refine ev ?_)
  refine WO_keep [4, 16, 18] rfl ?_
  refine ev ?_
  refine WO_nil ?_
  refine thenQ_n ?_
  refine W_cond rfl (fun h3 => ?_) (fun h3 => ?_)
  ·
    try simp only [HS] at h3
    refine W_seq ?_
    refine W_region ?_
    refine ev ?_
    refine WO_nil ?_
    refine thenQ_n ?_
    refine W_ret ?_
    refine thenQ_r ?_
    refine Ends_of (.inr rfl) (ret_okF rfl) (by decide) rfl ?_
    · simp_all [eqRow, eqI, eqB]
  try simp only [HS] at h3
  refine W_skip ?_
  refine thenQ_n ?_
  refine W_seq ?_
  refine W_region ?_
  refine ev ?_
  refine WO_nil ?_
  refine thenQ_n ?_
  refine W_ret ?_
  refine Ends_of (.inr rfl) (ret_okF rfl) (by decide) rfl ?_
  · simp_all [eqRow, eqI, eqB]

theorem szRowS_g (l : List Row) : SzA (szLen l) (okN 1048576 l) := szLen_g l
abbrev T.Rows (l : List Row) : T := .list 3 (l.map Row.tt)

theorem szRowS_fun (l : List Row) (left : Int) (hl : okN 9223372036854775807 l) (h0 : 0 ≤ left) (hh : left ≤ 1048576) : Fun Tryd.prog 15 [.t (T.Rows l), .t (.int left)] (tupD [.t (.int (szLen l left))]) := by
  unfold okN at hl
  refine Fun.begin tys Tryd.func15 rfl rfl (N := 12) [(0, .t (T.Rows l)), (1, .t (.int left))] rfl rfl (fun w0 G F0 => ?_)
  refine W_seq ?_
  refine W_region ?_
  refine ev ?_
  refine WO_nil ?_
  refine thenQ_n ?_
  refine W_seq ?_
  refine W_region ?_
  refine ev ?_
  refine ev ?_
  refine evE ?_
  refine evI ?_
  refine ev ?_
  refine WO_nil ?_
  refine thenQ_n ?_
  iterate 2 (refine W_seq ?_)
  refine W_region ?_
  refine ev ?_
  refine ev ?_
  refine WO_nil ?_
  refine thenQ_n ?_
  refine W_cond rfl (fun h1 => ?_) (fun h1 => ?_)
  ·
    try simp only [HS] at h1
    refine W_seq ?_
    refine W_keep [1, 4] rfl ?_
    refine W_region ?_
    refine ev ?_
    refine WO_nil ?_
    refine thenQ_n ?_
    refine W_ret ?_
    refine thenQ_r ?_
    refine Ends_of (.inr rfl) (ret_okF rfl) (by decide) rfl ?_
    · (simp only [szLen, szN]; simp_all <;> omega)
  try simp only [HS] at h1
  refine W_skip ?_
  refine thenQ_n ?_
  refine W_seq ?_
  refine W_keep [1, 4] rfl ?_
  refine W_region ?_
  refine ev ?_
  refine ev ?_
  refine WO_nil ?_
  refine thenQ_n ?_
  refine W_ret ?_
  refine Ends_of (.inr rfl) (ret_okF rfl) (by decide) rfl ?_
  · (simp only [szLen, szN]; simp_all <;> omega)

theorem toRowS_fun (l : List Row) (hl : okN 1048576 l) : Fun Tryd.prog 20 [.t (T.Rows l)] (tupD [.own (T.Rows l)]) := by
  unfold okN at hl
  refine Fun.begin tys Tryd.func20 rfl rfl (N := 23) [(0, .t (T.Rows l))] rfl rfl (fun w0 G F0 => ?_)
  refine W_seq ?_
  refine W_region ?_
  refine ev ?_
  refine WO_nil ?_
  refine thenQ_n ?_
  refine W_seq ?_
  refine W_region ?_
  refine ev ?_
  refine evE ?_
  refine WO_make tys (.agg [.v (.int .i64 0), .v (.int .i64 0), .v (.int .i64 0)]) _ rfl rfl (lt_of rfl) rfl rfl rfl rfl rfl (by repeat (first | exact AbsL.nil' | refine AbsL.v' ?_ | refine AbsL.none' ?_)) rfl (by omega) (by decide) ?_
  refine WO_norm rfl ?_
  refine ev ?_
  refine WO_nil ?_
  refine thenQ_n ?_
  iterate 2 (refine W_seq ?_)
  refine W_region ?_
  refine ev ?_
  refine WO_nil ?_
  refine thenQ_n ?_
  refine W_block ?_
  refine W_loopK (α := Int × List T) [0, 3] [] (fun (x : Int × List T) => [(4, .t (.int (x.1)))]) (fun (x : Int × List T) => [(7, .L 3 (x.2))]) (fun (x : Int × List T) => 0 ≤ (x.1) ∧ (x.1) ≤ l.length ∧ (x.2).length = l.length ∧ (x.2).take (x.1).toNat = (l.take (x.1).toNat).map Row.tt) (fun (x : Int × List T) => Int.toNat (l.length - (x.1))) (0, List.replicate l.length (.agg [.v (.int .i64 0), .v (.int .i64 0), .v (.int .i64 0)])) ?_ ?_ ?_ (fun x hx => ?_)
  · repeat (first | exact Sub.nil' | refine Sub.cons' rfl ?_ )
  · repeat (first | exact SubM.nil' | refine SubM.cons' rfl ?_ )
  · exact ⟨by omega, by omega, by simp, by simp⟩
  obtain ⟨k, xs⟩ := x
  obtain ⟨hk0, hk1, hk2, hk3⟩ := hx
  try dsimp only at hk0 hk1 hk2 hk3 ⊢
  refine W_norm rfl ?_
  iterate 2 (refine W_seq ?_)
  refine W_region ?_
  refine ev ?_
  refine ev ?_
  refine evE ?_
  refine ev ?_
  refine WO_nil ?_
  refine thenQ_n ?_
  refine W_cond rfl (fun h1 => ?_) (fun h1 => ?_)
  ·
    try simp only [HS] at h1
    refine W_skip ?_
    refine thenQ_n ?_
    refine W_seq ?_
    refine W_block ?_
    refine W_region ?_
    iterate 4 (refine ev ?_)
    first | refine WO_idxT tys rfl rfl (lt_of rfl) rfl rfl rfl rfl rfl rfl rfl (by omega) _ (getT _ _ (by omega) (by omega)) ?_ | refine WO_idxS tys rfl rfl (lt_of rfl) rfl rfl rfl rfl rfl rfl rfl rfl (by omega) (by omega) ?_
    refine WO_keep [0, 3, 4, 8, 9, 10, 11, 14, 15, 16, 17, 18] rfl ?_
    first | (refine ev ?_; try refine WO_le (Le.freeze (u := 19) rfl) ?_) | refine WO_loadL tys rfl rfl (lt_of rfl) rfl rfl rfl rfl (getT _ _ (by omega) (by omega)) rfl ?_ | refine WO_loadL tys rfl rfl (lt_of rfl) rfl rfl rfl rfl (getT0 _ _ (by omega) (by omega)) rfl ?_
    refine WO_norm rfl ?_
    refine callB ?_
    refine ⟨_, toRow_fun _, rfl, ?_⟩
    first | refine WO_idxT tys rfl rfl (lt_of rfl) rfl rfl rfl rfl rfl rfl rfl (by omega) _ (getT _ _ (by omega) (by omega)) ?_ | refine WO_idxS tys rfl rfl (lt_of rfl) rfl rfl rfl rfl rfl rfl rfl rfl (by omega) (by omega) ?_
    first | refine WO_storeE tys (Row.tt _) rfl rfl rfl rfl rfl rfl (by first | exact Nat.zero_add _ | rfl) (by omega) rfl (by repeat (first | exact AbsL.nil' | refine AbsL.v' ?_ | refine AbsL.own' ?_)) rfl rfl rfl ?_ | refine WO_storeL tys _ rfl rfl rfl rfl rfl rfl (getT _ _ (by omega) (by omega)) rfl (by repeat (first | exact AbsL.nil' | refine AbsL.v' ?_ | refine AbsL.own' ?_)) rfl (by decide) (by decide) ?_
    refine WO_norm rfl ?_
    refine WO_nil ?_
    refine inBlk_n ?_
    refine thenQ_n ?_
    refine W_region ?_
    refine ev ?_
    refine evI ?_
    refine ev ?_
    refine WO_nil ?_
    refine loopQ_n (_, _) (by (try dsimp only); repeat (first | exact Sub.nil' | refine Sub.cons' rfl ?_ )) (by (try dsimp only); repeat (first | exact SubM.nil' | refine SubM.cons' rfl ?_ )) ?_ ?_
    · try dsimp only
      exact ⟨by omega, by omega, by simpa using hk2, fill_step hk0 (by omega) hk2 hk3⟩
    · (show Int.toNat _ < Int.toNat _); omega
  try simp only [HS] at h1
  refine W_exit ?_
  refine thenQ_e ?_
  refine loopQ_e ?_
  refine inBlk_y ?_
  refine thenQ_n ?_
  refine W_seq ?_
  refine W_region ?_
  refine ev ?_
  refine ev ?_
  refine WO_nil ?_
  refine thenQ_n ?_
  refine W_le (Le.gather (u := 2) (id := 7) rfl rfl (by omega)) ?_
  refine W_ret ?_
  refine Ends_of (.inr rfl) (ret_okF rfl) (by decide) rfl ?_
  · rw [List.take_of_length_le (by omega), fill_end (by omega) hk2 hk3]

theorem eqRowS_fun (a b : List Row) (ha : okN 9223372036854775807 a) (hb : okN 9223372036854775807 b) : Fun Tryd.prog 25 [.t (T.Rows a), .t (T.Rows b)] (tupD [.t (.bool (eqL eqRow a b))]) := by
  unfold okN at ha hb
  refine Fun.begin tys Tryd.func25 rfl rfl (N := 27) [(0, .t (T.Rows a)), (1, .t (T.Rows b))] rfl rfl (fun w0 G F0 => ?_)
  refine W_seq ?_
  refine W_region ?_
  refine ev ?_
  refine WO_nil ?_
  refine thenQ_n ?_
  iterate 2 (refine W_seq ?_)
  refine W_region ?_
  refine ev ?_
  refine evE ?_
  refine ev ?_
  refine evE ?_
  refine ev ?_
  refine WO_nil ?_
  refine thenQ_n ?_
  refine W_cond rfl (fun h1 => ?_) (fun h1 => ?_)
  ·
    try simp only [HS] at h1
    refine W_seq ?_
    refine W_region ?_
    refine ev ?_
    refine WO_nil ?_
    refine thenQ_n ?_
    refine W_ret ?_
    refine thenQ_r ?_
    refine Ends_of (.inr rfl) (ret_okF rfl) (by decide) rfl ?_
    · first | (rw [eqL_len h1]; done) | (rw [eqL_eq h1, hk2, eqGo_at hk0 h2 h1]; simp [h3]; done) | (rw [eqL_eq h1, hk2, drop_end h2]; rfl)
  try simp only [HS] at h1
  refine W_skip ?_
  refine thenQ_n ?_
  iterate 2 (refine W_seq ?_)
  refine W_region ?_
  refine ev ?_
  refine WO_nil ?_
  refine thenQ_n ?_
  refine W_block ?_
  refine W_loopK (α := Int) [0, 1] [] (fun (x : Int) => [(5, .t (.int x))]) (fun (x : Int) => []) (fun (x : Int) => 0 ≤ x ∧ x ≤ a.length ∧ eqGo eqRow a b = eqGo eqRow (a.drop x.toNat) (b.drop x.toNat)) (fun (x : Int) => Int.toNat (a.length - x)) 0 ?_ ?_ ?_ (fun k hx => ?_)
  · repeat (first | exact Sub.nil' | refine Sub.cons' rfl ?_ )
  · repeat (first | exact SubM.nil' | refine SubM.cons' rfl ?_ )
  · exact ⟨by omega, by omega, rfl⟩
  obtain ⟨hk0, hk1, hk2⟩ := hx
  refine W_norm rfl ?_
  iterate 2 (refine W_seq ?_)
  refine W_region ?_
  refine ev ?_
  refine ev ?_
  refine evE ?_
  refine ev ?_
  refine WO_nil ?_
  refine thenQ_n ?_
  refine W_cond rfl (fun h2 => ?_) (fun h2 => ?_)
  ·
    try simp only [HS] at h2
    refine W_skip ?_
    refine thenQ_n ?_
    refine W_seq ?_
    refine W_block ?_
    refine W_seq ?_
    refine W_regionD mixed (by kernel_rfl) ?_
    refine evQ ?_
    refine evQ ?_
    refine QL_norm rfl ?_
    first | refine QL_idxT tys rfl rfl (lt_of rfl) rfl rfl rfl rfl rfl rfl rfl (by omega) _ (getT _ _ (by omega) (by omega)) ?_ | refine QL_idxS tys rfl rfl (lt_of rfl) rfl rfl rfl rfl rfl rfl rfl rfl (by omega) (by omega) ?_
    first | refine QL_evZ tys rfl rfl (lt_of rfl) rfl rfl ?_ | refine evQ ?_ | refine QL_loadL tys rfl rfl (lt_of rfl) rfl rfl rfl rfl (getT _ _ (by omega) (by omega)) rfl ?_ | refine QL_loadL tys rfl rfl (lt_of rfl) rfl rfl rfl rfl (getT0 _ _ (by omega) (by omega)) rfl ?_
    refine evQ ?_
    refine evQ ?_
    first | refine QL_idxT tys rfl rfl (lt_of rfl) rfl rfl rfl rfl rfl rfl rfl (by omega) _ (getT _ _ (by omega) (by omega)) ?_ | refine QL_idxS tys rfl rfl (lt_of rfl) rfl rfl rfl rfl rfl rfl rfl rfl (by omega) (by omega) ?_
    first | refine QL_evZ tys rfl rfl (lt_of rfl) rfl rfl ?_ | refine evQ ?_ | refine QL_loadL tys rfl rfl (lt_of rfl) rfl rfl rfl rfl (getT _ _ (by omega) (by omega)) rfl ?_ | refine QL_loadL tys rfl rfl (lt_of rfl) rfl rfl rfl rfl (getT0 _ _ (by omega) (by omega)) rfl ?_
    refine QL_norm rfl ?_
    refine callBQ ?_
    refine ⟨_, eqRow_fun _ _, rfl, ?_⟩
    refine evQ ?_
    refine QL_nil ?_
    refine thenQ_n ?_
    refine W_cond rfl (fun h3 => ?_) (fun h3 => ?_)
    ·
      try simp only [HS] at h3
      refine W_seq ?_
      refine W_region ?_
      refine ev ?_
      refine WO_nil ?_
      refine thenQ_n ?_
      refine W_ret ?_
      refine inBlk_r ?_
      refine thenQ_r ?_
      refine loopQ_r ?_
      refine inBlk_r ?_
      refine thenQ_r ?_
      refine Ends_of (.inr rfl) (ret_okF rfl) (by decide) rfl ?_
      · first | (rw [eqL_len h1]; done) | (rw [eqL_eq h1, hk2, eqGo_at hk0 h2 h1]; simp [h3]; done) | (rw [eqL_eq h1, hk2, drop_end h2]; rfl)
    try simp only [HS] at h3
    refine W_skip ?_
    refine inBlk_n ?_
    refine thenQ_n ?_
    refine W_region ?_
    refine ev ?_
    refine evI ?_
    refine ev ?_
    refine WO_nil ?_
    refine loopQ_n _ (by (try dsimp only); repeat (first | exact Sub.nil' | refine Sub.cons' rfl ?_ )) (by (try dsimp only); repeat (first | exact SubM.nil' | refine SubM.cons' rfl ?_ )) ?_ ?_
    · try dsimp only
      refine ⟨by omega, by omega, ?_⟩; rw [hk2, eqGo_at hk0 h2 h1]; simp [h3]
    · (show Int.toNat _ < Int.toNat _); omega
  try simp only [HS] at h2
  refine W_exit ?_
  refine thenQ_e ?_
  refine loopQ_e ?_
  refine inBlk_y ?_
  refine thenQ_n ?_
  refine W_seq ?_
  refine W_region ?_
  refine ev ?_
  refine WO_nil ?_
  refine thenQ_n ?_
  refine W_ret ?_
  refine Ends_of (.inr rfl) (ret_okF rfl) (by decide) rfl ?_
  · first | (rw [eqL_len h1]; done) | (rw [eqL_eq h1, hk2, eqGo_at hk0 h2 h1]; simp [h3]; done) | (rw [eqL_eq h1, hk2, drop_end h2]; rfl)

structure Code where
  params : Int
  vars : Int
  sites : List Int
  ins : List (Ins)
  rows : List (Row)

def Code.tt (x : Code) : T := .agg [T.int x.params, T.int x.vars, T.ints x.sites, T.Inss x.ins, T.Rows x.rows]

def Code.ok (B : Nat) (x : Code) : Prop := okN B x.sites ∧ okN B x.ins ∧ okN B x.rows ∧ True

def szCode (x : Code) : Int → Int := szSeq [szIntS x.sites, szLen x.ins, szLen x.rows]

theorem szCode_g : SzG szCode (Code.ok 1048576) := fun x left h0 hh => by
  have := szSeq_step (szIntS_g x.sites) (szSeq_step (szInsS_g x.ins) (szSeq_step (szRowS_g x.rows) (szSeq_nil)))
  exact this left h0 hh

def eqCode (a b : Code) : Bool := eqI a.params b.params && eqI a.vars b.vars && (eqL eqI) a.sites b.sites && (eqL eqIns) a.ins b.ins && (eqL eqRow) a.rows b.rows && true

theorem eqCode_refl (a : Code) : eqCode a a = true := by
  unfold eqCode; simp only [eqI_refl, eqL_refl eqI_refl, eqL_refl eqIns_refl, eqL_refl eqRow_refl, Bool.and_self]

theorem szCode_fun (x : Code) (left : Int) (hx : Code.ok 9223372036854775807 x) (h0 : 0 ≤ left) (hh : left ≤ 1048576) : Fun Tryd.prog 5 [.t (Code.tt x), .t (.int left)] (tupD [.t (.int (szCode x left))]) := by
  refine Fun.begin tys Tryd.func5 rfl rfl (N := 24) [(0, .t (Code.tt x)), (1, .t (.int left))] rfl rfl (fun w0 G F0 => ?_)
  refine W_seq ?_
  refine W_region ?_
  refine WO_box rfl rfl (lt_of rfl) rfl rfl ?_
  refine WO_norm rfl ?_
  refine ev ?_
  refine WO_nil ?_
  refine thenQ_n ?_
  refine W_seq ?_
  refine W_region ?_
  iterate 3 (refine ev ?_)
  refine callB ?_
  refine ⟨_, szIntSo_fun _ _ (hx.1) (by omega) (by  omega), rfl, ?_⟩
  refine ev ?_
  refine WO_nil ?_
  refine thenQ_n ?_
  iterate 2 (refine W_seq ?_)
  refine W_keep [1, 2, 4] rfl ?_
  refine W_region ?_
  refine ev ?_
  refine ev ?_
  refine WO_nil ?_
  refine thenQ_n ?_
  refine W_cond rfl (fun h1 => ?_) (fun h1 => ?_)
  ·
    try simp only [HS] at h1
    refine W_seq ?_
    refine W_region ?_
    refine ev ?_
    refine WO_nil ?_
    refine thenQ_n ?_
    refine W_ret ?_
    refine thenQ_r ?_
    refine Ends_of (.inr rfl) (ret_okF rfl) (by decide) rfl ?_
    · (simp only [szCode, szSeq]; repeat (first | rw [if_neg (by omega)] | rw [if_pos (by omega)]))
  try simp only [HS] at h1
  refine W_skip ?_
  refine thenQ_n ?_
  refine W_seq ?_
  refine W_region ?_
  iterate 3 (refine ev ?_)
  refine callB ?_
  refine ⟨_, szInsS_fun _ _ (hx.2.1) (by omega) (by have g0 := szIntS_g x.sites left (by omega) (by omega); omega), rfl, ?_⟩
  refine ev ?_
  refine WO_nil ?_
  refine thenQ_n ?_
  iterate 2 (refine W_seq ?_)
  refine W_keep [1, 2, 4] rfl ?_
  refine W_region ?_
  refine ev ?_
  refine ev ?_
  refine WO_nil ?_
  refine thenQ_n ?_
  refine W_cond rfl (fun h2 => ?_) (fun h2 => ?_)
  ·
    try simp only [HS] at h2
    refine W_seq ?_
    refine W_region ?_
    refine ev ?_
    refine WO_nil ?_
    refine thenQ_n ?_
    refine W_ret ?_
    refine thenQ_r ?_
    refine Ends_of (.inr rfl) (ret_okF rfl) (by decide) rfl ?_
    · (simp only [szCode, szSeq]; repeat (first | rw [if_neg (by omega)] | rw [if_pos (by omega)]))
  try simp only [HS] at h2
  refine W_skip ?_
  refine thenQ_n ?_
  refine W_seq ?_
  refine W_region ?_
  iterate 3 (refine ev ?_)
  refine callB ?_
  refine ⟨_, szRowS_fun _ _ (hx.2.2.1) (by omega) (by have g0 := szIntS_g x.sites left (by omega) (by omega); have g1 := szInsS_g x.ins (szIntS x.sites left) (by omega) (by omega); omega), rfl, ?_⟩
  refine ev ?_
  refine WO_nil ?_
  refine thenQ_n ?_
  iterate 2 (refine W_seq ?_)
  refine W_keep [1, 4] rfl ?_
  refine W_region ?_
  refine ev ?_
  refine ev ?_
  refine WO_nil ?_
  refine thenQ_n ?_
  refine W_cond rfl (fun h3 => ?_) (fun h3 => ?_)
  ·
    try simp only [HS] at h3
    refine W_seq ?_
    refine W_region ?_
    refine ev ?_
    refine WO_nil ?_
    refine thenQ_n ?_
    refine W_ret ?_
    refine thenQ_r ?_
    refine Ends_of (.inr rfl) (ret_okF rfl) (by decide) rfl ?_
    · (simp only [szCode, szSeq]; repeat (first | rw [if_neg (by omega)] | rw [if_pos (by omega)]))
  try simp only [HS] at h3
  refine W_skip ?_
  refine thenQ_n ?_
  refine W_seq ?_
  refine W_region ?_
  refine ev ?_
  refine ev ?_
  refine WO_nil ?_
  refine thenQ_n ?_
  refine W_ret ?_
  refine Ends_of (.inr rfl) (ret_okF rfl) (by decide) rfl ?_
  · (simp only [szCode, szSeq]; repeat (first | rw [if_neg (by omega)] | rw [if_pos (by omega)]))

theorem toCode_fun (x : Code) (hx : Code.ok 1048576 x) : Fun Tryd.prog 7 [.t (Code.tt x)] (tupD [.agg [.t (T.int x.params), .t (T.int x.vars), .own (T.ints x.sites), .own (T.Inss x.ins), .own (T.Rows x.rows)]]) := by
  refine Fun.begin tys Tryd.func7 rfl rfl (N := 23) [(0, .t (Code.tt x))] rfl rfl (fun w0 G F0 => ?_)
  refine W_seq ?_
  refine W_region ?_
  refine WO_box rfl rfl (lt_of rfl) rfl rfl ?_
  refine WO_norm rfl ?_
  refine WO_alloc tys rfl rfl (lt_of rfl) rfl rfl rfl ?_
  refine WO_norm rfl ?_
  refine WO_nil ?_
  refine thenQ_n ?_
  refine W_seq ?_
  refine W_region ?_
  refine WO_alloc tys rfl rfl (lt_of rfl) rfl rfl rfl ?_
  refine WO_norm rfl ?_
  refine WO_nil ?_
  refine thenQ_n ?_
  refine W_seq ?_
  refine W_region ?_
  iterate 3 (refine ev ?_)
  refine WO_store tys rfl rfl rfl rfl rfl rfl rfl rfl (lt_of rfl) ?_
  refine WO_norm rfl ?_
  refine WO_nil ?_
  refine thenQ_n ?_
  refine W_seq ?_
  refine W_keep [1, 2, 3] rfl ?_
  refine W_region ?_
  iterate 3 (refine ev ?_)
  refine WO_store tys rfl rfl rfl rfl rfl rfl rfl rfl (lt_of rfl) ?_
  refine WO_norm rfl ?_
  refine WO_nil ?_
  refine thenQ_n ?_
  refine W_seq ?_
  refine W_region ?_
  refine ev ?_
  refine ev ?_
  refine callB ?_
  refine ⟨_, toIntSo_fun _ (by first | exact hx.1), rfl, ?_⟩
  refine ev ?_
  refine WO_store tys rfl rfl rfl rfl rfl rfl rfl rfl (lt_of rfl) ?_
  refine WO_norm rfl ?_
  refine WO_keep [1, 2, 3] rfl ?_
  refine WO_nil ?_
  refine thenQ_n ?_
  refine W_seq ?_
  refine W_region ?_
  refine ev ?_
  refine ev ?_
  refine callB ?_
  refine ⟨_, toInsS_fun _ (by first | exact hx.2.1), rfl, ?_⟩
  refine ev ?_
  refine WO_store tys rfl rfl rfl rfl rfl rfl rfl rfl (lt_of rfl) ?_
  refine WO_norm rfl ?_
  refine WO_nil ?_
  refine thenQ_n ?_
  refine W_seq ?_
  refine W_region ?_
  refine ev ?_
  refine ev ?_
  refine callB ?_
  refine ⟨_, toRowS_fun _ (by first | exact hx.2.2.1), rfl, ?_⟩
  refine ev ?_
  refine WO_keep [2, 3, 20, 21] rfl ?_
  refine WO_store tys rfl rfl rfl rfl rfl rfl rfl rfl (lt_of rfl) ?_
  refine WO_norm rfl ?_
  refine WO_nil ?_
  refine thenQ_n ?_
  refine W_seq ?_
  refine W_region ?_
  first | (refine ev ?_; try refine WO_le (Le.freeze (u := 22) rfl) ?_) | refine WO_loadMove tys rfl rfl (lt_of rfl) rfl rfl rfl rfl rfl rfl ?_
  refine WO_norm rfl ?_
  refine WO_store tys rfl rfl rfl rfl rfl rfl rfl rfl (lt_of rfl) ?_
  refine WO_norm rfl ?_
  refine WO_nil ?_
  refine thenQ_n ?_
  refine W_ret ?_
  refine Ends_of (.inr rfl) (ret_okF rfl) (by decide) rfl ?_
  · rfl

theorem eqCode_fun (a b : Code) (ha : Code.ok 9223372036854775807 a) (hb : Code.ok 9223372036854775807 b) : Fun Tryd.prog 9 [.t (Code.tt a), .t (Code.tt b)] (tupD [.t (.bool (eqCode a b))]) := by
  refine Fun.begin tys Tryd.func9 rfl rfl (N := 33) [(0, .t (Code.tt a)), (1, .t (Code.tt b))] rfl rfl (fun w0 G F0 => ?_)
  refine W_seq ?_
  refine W_region ?_
  refine WO_box rfl rfl (lt_of rfl) rfl rfl ?_
  refine WO_norm rfl ?_
  refine WO_box rfl rfl (lt_of rfl) rfl rfl ?_
  refine WO_norm rfl ?_
  refine ev ?_
  refine WO_nil ?_
  refine thenQ_n ?_
  iterate 2 (refine W_seq ?_)
  refine W_region ?_
  iterate 5 (refine ev ?_)
  refine WO_nil ?_
  refine thenQ_n ?_
  refine W_cond rfl (fun h1 => ?_) (fun h1 => ?_)
  ·
    try simp only [HS] at h1
    refine W_seq ?_
    refine W_keep [2, 3, 4] rfl ?_
    refine W_region ?_
    refine ev ?_
    refine WO_nil ?_
    refine thenQ_n ?_
    refine W_ret ?_
    refine thenQ_r ?_
    refine Ends_of (.inr rfl) (ret_okF rfl) (by decide) rfl ?_
    · simp_all [eqCode, eqI, eqB]
  try simp only [HS] at h1
  refine W_skip ?_
  refine thenQ_n ?_
  iterate 2 (refine W_seq ?_)
  refine W_keep [2, 3, 4] rfl ?_
  refine W_region ?_
  iterate 5 (refine ev ?_)
  refine WO_nil ?_
  refine thenQ_n ?_
  refine W_cond rfl (fun h2 => ?_) (fun h2 => ?_)
  ·
    try simp only [HS] at h2
    refine W_seq ?_
    refine W_region ?_
    refine ev ?_
    refine WO_nil ?_
    refine thenQ_n ?_
    refine W_ret ?_
    refine thenQ_r ?_
    refine Ends_of (.inr rfl) (ret_okF rfl) (by decide) rfl ?_
    · simp_all [eqCode, eqI, eqB]
  try simp only [HS] at h2
  refine W_skip ?_
  refine thenQ_n ?_
  iterate 2 (refine W_seq ?_)
  refine W_region ?_
  iterate 4 (refine ev ?_)
  refine WO_keep [2, 3, 4, 16, 18] rfl ?_
  refine callB ?_
  refine ⟨_, eqIntSo_fun _ _ (by first | exact ha.1) (by first | exact hb.1), rfl, ?_⟩
  refine ev ?_
  refine WO_nil ?_
  refine thenQ_n ?_
  refine W_cond rfl (fun h3 => ?_) (fun h3 => ?_)
  ·
    try simp only [HS] at h3
    refine W_seq ?_
    refine W_region ?_
    refine ev ?_
    refine WO_nil ?_
    refine thenQ_n ?_
    refine W_ret ?_
    refine thenQ_r ?_
    refine Ends_of (.inr rfl) (ret_okF rfl) (by decide) rfl ?_
    · simp_all [eqCode, eqI, eqB]
  try simp only [HS] at h3
  refine W_skip ?_
  refine thenQ_n ?_
  iterate 2 (refine W_seq ?_)
  refine W_region ?_
  iterate 4 (refine ev ?_)
  refine callB ?_
  refine ⟨_, eqInsS_fun _ _ (by first | exact ha.2.1) (by first | exact hb.2.1), rfl, ?_⟩
  refine ev ?_
  refine WO_nil ?_
  refine thenQ_n ?_
  refine W_cond rfl (fun h4 => ?_) (fun h4 => ?_)
  ·
    try simp only [HS] at h4
    refine W_seq ?_
    refine W_keep [2, 3, 4] rfl ?_
    refine W_region ?_
    refine ev ?_
    refine WO_nil ?_
    refine thenQ_n ?_
    refine W_ret ?_
    refine thenQ_r ?_
    refine Ends_of (.inr rfl) (ret_okF rfl) (by decide) rfl ?_
    · simp_all [eqCode, eqI, eqB]
  try simp only [HS] at h4
  refine W_skip ?_
  refine thenQ_n ?_
  iterate 2 (refine W_seq ?_)
  refine W_keep [2, 3, 4] rfl ?_
  refine W_region ?_
  iterate 4 (refine ev ?_)
  refine callB ?_
  refine ⟨_, eqRowS_fun _ _ (by first | exact ha.2.2.1) (by first | exact hb.2.2.1), rfl, ?_⟩
  refine ev ?_
  refine WO_nil ?_
  refine thenQ_n ?_
  refine W_cond rfl (fun h5 => ?_) (fun h5 => ?_)
  ·
    try simp only [HS] at h5
    refine W_seq ?_
    refine W_region ?_
    refine ev ?_
    refine WO_nil ?_
    refine thenQ_n ?_
    refine W_ret ?_
    refine thenQ_r ?_
    refine Ends_of (.inr rfl) (ret_okF rfl) (by decide) rfl ?_
    · simp_all [eqCode, eqI, eqB]
  try simp only [HS] at h5
  refine W_skip ?_
  refine thenQ_n ?_
  refine W_seq ?_
  refine W_region ?_
  refine ev ?_
  refine WO_nil ?_
  refine thenQ_n ?_
  refine W_ret ?_
  refine Ends_of (.inr rfl) (ret_okF rfl) (by decide) rfl ?_
  · simp_all [eqCode, eqI, eqB]

abbrev T.Codes (l : List (Code)) : T := .list 5 (l.map Code.tt)
structure Image where
  codes : List (Code)

def Image.tt (x : Image) : T := .agg [T.Codes x.codes]

def Image.ok (B : Nat) (x : Image) : Prop := okL B (Code.ok B) x.codes ∧ True
open Go.Eng

structure Tok where
  op : Int
  n : Int

def Tok.tt (x : Tok) : T := .agg [T.int x.op, T.int x.n]

abbrev T.Toks (l : List Tok) : T := .list 2 (l.map Tok.tt)




structure Stmt where
  kind : Int
  n : Int
  ex : List (Tok)
  thn : List Int
  els : List Int

def Stmt.tt (x : Stmt) : T := .agg [T.int x.kind, T.int x.n, T.Toks x.ex, T.ints x.thn, T.ints x.els]

def Stmt.ok (B : Nat) (x : Stmt) : Prop := okN B x.ex ∧ okN B x.thn ∧ okN B x.els ∧ True

abbrev T.Stmts (l : List (Stmt)) : T := .list 5 (l.map Stmt.tt)
structure Func where
  params : Int
  vars : Int
  body : List Int
  stmts : List (Stmt)

def Func.tt (x : Func) : T := .agg [T.int x.params, T.int x.vars, T.ints x.body, T.Stmts x.stmts]

def Func.ok (B : Nat) (x : Func) : Prop := okN B x.body ∧ okL B (Stmt.ok B) x.stmts ∧ True

abbrev T.Funcs (l : List (Func)) : T := .list 4 (l.map Func.tt)
structure Prog where
  funcs : List (Func)

def Prog.tt (x : Prog) : T := .agg [T.Funcs x.funcs]

def Prog.ok (B : Nat) (x : Prog) : Prop := okL B (Func.ok B) x.funcs ∧ True
open Go.Eng

theorem retB {b b' : Bool} (h : b = b') : [D.t (T.v (Value.bool b))] = [D.t (T.bool b')] := by rw [h]
/-- What a function takes, by its number. -/
def atI (l : List Int) (n : Int) : Int := (l[n.toNat]?).getD 0
def paramsB (ps : List Int) : Bool := decide ((ps.length : Int) ≤ 5) && allIn ps 0 2
def knownT (vars m : Int) (t : Tok) : Bool :=
  if t.op = 1 then decide (-2147483648 ≤ t.n ∧ t.n ≤ 2147483647) else if t.op = 2 then decide (0 ≤ t.n ∧ t.n < vars) else if t.op = 11 then decide (0 ≤ t.n ∧ t.n < m) else decide (3 ≤ t.op ∧ t.op ≤ 10) && decide (t.n = 0)
def needsT (ps : List Int) (t : Tok) : Int := if 3 ≤ t.op ∧ t.op ≤ 8 then 2 else if t.op = 11 then atI ps t.n else 0
theorem l2Bound_fun (n : Int) : Fun Tryd.prog 55 [.t (.int n)] (tupD [.t (.bool (decide (-2147483648 ≤ n ∧ n ≤ 2147483647)))]) := by
  refine Fun.begin tys Tryd.func55 rfl rfl (N := 5) [(0, .t (.int n))] rfl rfl (fun w0 G F0 => ?_)
  refine W_seq ?_
  refine W_region ?_
  refine ev ?_
  refine WO_nil ?_
  refine thenQ_n ?_
  refine W_seq ?_
  refine W_region ?_
  refine ev ?_
  refine callB ?_
  refine ⟨_, l1In_fun _ _ _, rfl, ?_⟩
  refine ev ?_
  refine WO_nil ?_
  refine thenQ_n ?_
  refine W_ret ?_
  refine Ends_of (.inr rfl) (ret_okF rfl) (by decide) rfl ?_
  · rfl

/-- How many values there are behind a list of tokens, and how many there were at most. -/
def runE (vars : Int) (ps : List Int) : List Tok → Int → Int → Option (Int × Int)
  | [], h, m => some (h, m)
  | t :: l, h, m => if knownT vars ps.length t && decide (needsT ps t ≤ h) then runE vars ps l (h + (1 - needsT ps t)) (max m (h + (1 - needsT ps t))) else none
def goodE (vars : Int) (ps : List Int) (l : List Tok) : Bool := match runE vars ps l 0 0 with
  | some (h, m) => decide (h = 1) && decide ((l.length : Int) ≤ 12)
  | none => false
theorem i32_small (n : Int) : (n = IntKind.i64.wrap (IntKind.i32.wrap n)) ↔ (-2147483648 ≤ n ∧ n ≤ 2147483647) := by
  have h1 : -2147483648 ≤ IntKind.i32.wrap n ∧ IntKind.i32.wrap n ≤ 2147483647 := by
    unfold IntKind.wrap; simp [IntKind.bits, IntKind.signed]; split <;> omega
  rw [wrap_id (by omega) (by omega)]
  constructor
  · intro h; omega
  · intro h; unfold IntKind.wrap; simp [IntKind.bits, IntKind.signed]; split <;> omega

theorem isSmall_fun (n : Int) : Fun Tryd.prog 79 [.t (.int n)] (tupD [.t (.bool (decide (-2147483648 ≤ n ∧ n ≤ 2147483647)))]) := by
  refine Fun.begin tys Tryd.func79 rfl rfl (N := 8) [(0, .t (.int n))] rfl rfl (fun w0 G F0 => ?_)
  refine W_seq ?_
  refine W_region ?_
  refine ev ?_
  refine WO_nil ?_
  refine thenQ_n ?_
  refine W_seq ?_
  refine W_region ?_
  refine ev ?_
  refine ev ?_
  refine WO_conv (td := .int .i64) (k := .i32) rfl rfl (lt_of rfl) rfl (by kernel_rfl) (by kernel_rfl) rfl ?_
  refine WO_conv (td := .int .i32) (k := .i64) rfl rfl (lt_of rfl) rfl (by kernel_rfl) (by kernel_rfl) rfl ?_
  refine ev ?_
  refine ev ?_
  refine WO_nil ?_
  refine thenQ_n ?_
  refine W_ret ?_
  refine Ends_of (.inr rfl) (ret_okF rfl) (by decide) rfl ?_
  · exact retB (by rw [Bool.eq_iff_iff, decide_eq_true_iff, decide_eq_true_iff, i32_small])


theorem isReckoned_fun (n : Int) : Fun Tryd.prog 80 [.t (.int n)] (tupD [.t (.bool (decide (3 ≤ n ∧ n ≤ 8)))]) := by
  refine Fun.begin tys Tryd.func80 rfl rfl (N := 5) [(0, .t (.int n))] rfl rfl (fun w0 G F0 => ?_)
  refine W_seq ?_
  refine W_region ?_
  refine ev ?_
  refine WO_nil ?_
  refine thenQ_n ?_
  refine W_seq ?_
  refine W_region ?_
  refine ev ?_
  refine callB ?_
  refine ⟨_, within_fun _ _ _, rfl, ?_⟩
  refine ev ?_
  refine WO_nil ?_
  refine thenQ_n ?_
  refine W_ret ?_
  refine Ends_of (.inr rfl) (ret_okF rfl) (by decide) rfl ?_
  · rfl
open Go.Eng

def hasNB (op : Int) : Bool := decide (op = 1 ∨ op = 2 ∨ op = 3 ∨ op = 4 ∨ op = 7 ∨ op = 10 ∨ op = 11 ∨ op = 12 ∨ op = 17)
def insB (i : Ins) : Bool :=
  if i.op = 1 then decide (-2147483648 ≤ i.n ∧ i.n ≤ 2147483647) else if i.op = 4 then decide (3 ≤ i.n ∧ i.n ≤ 8)
  else if hasNB i.op then decide (0 ≤ i.n ∧ i.n ≤ 1000000) else decide (1 ≤ i.op ∧ i.op ≤ 18) && decide (i.n = 0)
def sizedC (c : Code) : Bool := decide (0 ≤ c.params ∧ c.params ≤ 2) && decide (c.params ≤ c.vars ∧ c.vars ≤ 6) && decide (c.sites.length ≤ 4) && decide (1 ≤ c.ins.length ∧ c.ins.length ≤ 300) && decide (c.rows.length ≤ 300) && c.ins.all insB
def sizedX (x : Image) : Bool := decide (1 ≤ x.codes.length ∧ x.codes.length ≤ 5) && x.codes.all sizedC

def insAt (c : Code) (k : Int) : Ins := (c.ins[k.toNat]?).getD ⟨0, 0⟩
def nextX (i : Ins) (at' : Int) : List Int :=
  if i.op = 10 then [i.n] else if i.op = 11 then (if at' + 1 < i.n then [at' + 1, i.n] else if at' + 1 = i.n then [at' + 1] else [i.n, at' + 1])
  else if i.op = 13 ∨ i.op = 14 ∨ i.op = 16 ∨ i.op = 18 then [] else [at' + 1]

def namedI (x : Image) (c : Code) (i : Ins) : Bool :=
  if i.op = 2 ∨ i.op = 3 then decide (i.n < c.vars) else if i.op = 12 ∨ i.op = 17 then decide (i.n < c.sites.length) else if i.op = 7 then decide (i.n < x.codes.length) else true
def namedB (x : Image) (c : Code) : Bool := c.ins.all (namedI x c)
def goesGo (N : Int) : List Ins → Int → Bool
  | [], _ => true
  | i :: l, k => (nextX i k).all (fun n => decide (n < N)) && goesGo N l (k + 1)
def goesB (c : Code) : Bool := goesGo c.ins.length c.ins 0
def rowsGo (many : Int) : List Row → Int → Bool
  | [], _ => true
  | r :: l, k => decide (k ≤ r.lo) && (decide (r.lo < r.hi) && (decide (r.hi ≤ many) && (decide (0 ≤ r.pad ∧ r.pad < many) && rowsGo many l r.hi)))
def rowsB (rows : List Row) (many : Int) : Bool := rowsGo many rows 0
theorem insAt_at {c : Code} {k : Int} (h0 : 0 ≤ k) (h1 : k < c.ins.length) : insAt c k = c.ins[k.toNat]'(by omega) := by
  rw [insAt, List.getElem?_eq_getElem (by omega)]; rfl
theorem insB_n {i : Ins} (h : insB i = true) : -2147483648 ≤ i.n ∧ i.n ≤ 2147483647 ∧ (i.op ≠ 1 → 0 ≤ i.n ∧ i.n ≤ 1000000) := by
  unfold insB at h
  split at h
  · rename_i h1
    have := of_decide_eq_true h
    exact ⟨this.1, this.2, fun h => absurd h1 h⟩
  · split at h
    · have := of_decide_eq_true h; exact ⟨by omega, by omega, fun _ => by omega⟩
    · split at h
      · have := of_decide_eq_true h; exact ⟨by omega, by omega, fun _ => by omega⟩
      · rw [Bool.and_eq_true, decide_eq_true_eq, decide_eq_true_eq] at h
        exact ⟨by omega, by omega, fun _ => by omega⟩
theorem nextX_nn {i : Ins} (h : insB i = true) {k : Int} (hk : 0 ≤ k) : ∀ n, n ∈ nextX i k → 0 ≤ n := by
  have hn := (insB_n h).2.2
  intro n hm
  unfold nextX at hm
  split at hm
  · rename_i h1; rw [List.mem_singleton] at hm; have := hn (by omega); omega
  · split at hm
    · rename_i h1
      have := hn (by omega)
      split at hm
      · simp at hm; omega
      · split at hm
        · simp at hm; omega
        · simp at hm; omega
    · split at hm
      · simp at hm
      · simp at hm; omega
/-! ### Heights -/

section
variable {x : Image} {c : Code} {h open' done : List Int} {k0 n : Int}
end

section
variable {x : Image} {c : Code} {h : List Int}
end
/-- What a code is known to be where its heights are looked for. -/
structure RdyX (x : Image) (c : Code) : Prop where
  xl : x.codes.length ≤ 5
  par : ∀ d, d ∈ x.codes → 0 ≤ d.params ∧ d.params ≤ 2
  n1 : 1 ≤ c.ins.length
  n2 : c.ins.length ≤ 300
  rl : c.rows.length ≤ 300
  ins : ∀ i, i ∈ c.ins → insB i = true
  call : ∀ i, i ∈ c.ins → i.op = 7 → 0 ≤ i.n ∧ i.n < x.codes.length
  next : ∀ k : Int, 0 ≤ k → k < c.ins.length → ∀ n, n ∈ nextX (insAt c k) k → 0 ≤ n ∧ n < c.ins.length
  pads : ∀ r, r ∈ c.rows → 0 ≤ r.pad ∧ r.pad < c.ins.length
  his : ∀ r, r ∈ c.rows → 0 ≤ r.hi ∧ r.hi ≤ c.ins.length
theorem goes_at {N : Int} : ∀ {l : List Ins} {k : Int}, goesGo N l k = true → ∀ j (hj : j < l.length), ∀ n, n ∈ nextX (l[j]) (k + j) → n < N
  | [], _, _, j, hj, _, _ => by simp at hj
  | i :: l, k, h, 0, _, n, hn => by
    rw [goesGo, Bool.and_eq_true, List.all_eq_true] at h
    have := h.1 n (by simpa using hn)
    exact of_decide_eq_true this
  | i :: l, k, h, j + 1, hj, n, hn => by
    rw [goesGo, Bool.and_eq_true] at h
    refine goes_at h.2 j (by simpa using hj) n ?_
    rw [List.getElem_cons_succ] at hn
    rw [show k + 1 + (j : Int) = k + ((j + 1 : Nat) : Int) from by omega]
    exact hn
theorem rows_at {many : Int} : ∀ {l : List Row} {k : Int}, 0 ≤ k → rowsGo many l k = true → ∀ r, r ∈ l → 0 ≤ r.lo ∧ r.lo < r.hi ∧ r.hi ≤ many ∧ 0 ≤ r.pad ∧ r.pad < many
  | [], _, _, _, r, hr => by cases hr
  | r0 :: l, k, hk, h, r, hr => by
    rw [rowsGo] at h
    simp only [Bool.and_eq_true, decide_eq_true_eq] at h
    rcases List.mem_cons.1 hr with rfl | hr
    · omega
    · exact rows_at (by omega) h.2.2.2.2 r hr
theorem sizedC_of {c : Code} (h : sizedC c = true) : (0 ≤ c.params ∧ c.params ≤ 2) ∧ (c.params ≤ c.vars ∧ c.vars ≤ 6) ∧ c.sites.length ≤ 4 ∧ (1 ≤ c.ins.length ∧ c.ins.length ≤ 300) ∧ c.rows.length ≤ 300 ∧ ∀ i, i ∈ c.ins → insB i = true := by
  unfold sizedC at h
  simp only [Bool.and_eq_true, decide_eq_true_eq, List.all_eq_true] at h
  obtain ⟨⟨⟨⟨⟨a, b⟩, d⟩, e⟩, f⟩, g⟩ := h
  exact ⟨a, b, d, e, f, g⟩
theorem sizedX_of {x : Image} (h : sizedX x = true) : (1 ≤ x.codes.length ∧ x.codes.length ≤ 5) ∧ ∀ c, c ∈ x.codes → sizedC c = true := by
  unfold sizedX at h
  simp only [Bool.and_eq_true, decide_eq_true_eq, List.all_eq_true] at h
  exact h
theorem ready {x : Image} {c : Code} (hx : sizedX x = true) (hc : c ∈ x.codes) (h1 : namedB x c = true) (h3 : goesB c = true) (h4 : rowsB c.rows c.ins.length = true) : RdyX x c := by
  obtain ⟨a1, a2⟩ := sizedX_of hx
  obtain ⟨b1, b2, b3, b4, b5, b6⟩ := sizedC_of (a2 c hc)
  unfold namedB at h1
  rw [List.all_eq_true] at h1
  refine ⟨a1.2, fun d hd => (sizedC_of (a2 d hd)).1, b4.1, b4.2, b5, b6, fun i hi h7 => ?_, fun k h0 h1' n hn => ?_, fun r hr => ?_, fun r hr => ?_⟩
  · have := h1 i hi
    unfold namedI at this
    rw [if_neg (by omega), if_neg (by omega), if_pos h7] at this
    have g := (insB_n (b6 i hi)).2.2 (by omega)
    exact ⟨g.1, of_decide_eq_true this⟩
  · rw [insAt_at h0 h1'] at hn
    have g := goes_at h3 k.toNat (by omega) n (by rw [show (0 : Int) + (k.toNat : Nat) = k from by omega]; exact hn)
    exact ⟨nextX_nn (b6 _ (List.getElem_mem _)) h0 n hn, g⟩
  · have := rows_at (by omega) h4 r hr; omega
  · have := rows_at (by omega) h4 r hr; omega
/-- The statements of a block, each followed by those of its own blocks. -/
def ordK (kids : Int → List Int × List Int) : Nat → List Int → List Int
  | 0, _ => []
  | k + 1, b => b.flatMap fun n => n :: (ordK kids k (kids n).1 ++ ordK kids k (kids n).2)

/-- With steps enough. -/
def ord (N : Int) (kids : Int → List Int × List Int) (b : List Int) : List Int := ordK kids N.toNat b
def both (kids : Int → List Int × List Int) (m : Int) : List Int := (kids m).1 ++ (kids m).2

/-- The numbers from 0 on. -/
def upto (N : Nat) : List Int := (List.range N).map fun (k : Nat) => (k : Int)
theorem mem_upto {N : Nat} {x : Int} : x ∈ upto N ↔ 0 ≤ x ∧ x < N := by
  unfold upto
  rw [List.mem_map]
  constructor
  · rintro ⟨k, hk, rfl⟩; have := List.mem_range.1 hk; omega
  · intro h; exact ⟨x.toNat, List.mem_range.2 (by omega), by omega⟩
theorem upto_lt (N : Nat) : (upto N).Pairwise (· < ·) := by
  unfold upto
  rw [List.pairwise_map]
  exact List.Pairwise.imp (fun h => by omega) List.pairwise_lt_range
open Go.Eng

/-- The statements that put a call off, by their numbers. -/
def sitesF : List Stmt → Int → List Int
  | [], _ => []
  | s :: l, k => if s.kind = 3 then k :: sitesF l (k + 1) else sitesF l (k + 1)
open Go.Eng

/-- The blocks of a statement, by its number. -/
def kids (l : List Stmt) (m : Int) : List Int × List Int := match l[m.toNat]? with
  | some s => (s.thn, s.els)
  | none => ([], [])
def inBB (N i : Int) (b : List Int) : Bool := b.all fun x => decide (i ≤ x ∧ x < N)
def downBB (l : List Stmt) : Bool := (upto l.length).all fun m => inBB l.length (m + 1) (kids l m).1 && inBB l.length (m + 1) (kids l m).2
/-- The blocks count up, each statement behind the one whose block it stands in. -/
def shapeB (l : List Stmt) (body : List Int) : Bool := downBB l && (inBB l.length 0 body && (ord l.length (kids l) body == upto l.length))
/-- Rising, within bounds. -/
def riseP (l : List Int) (lo hi : Int) : Prop := (∀ x, x ∈ l → lo ≤ x ∧ x ≤ hi) ∧ l.Pairwise (· < ·)
instance (l : List Int) (lo hi : Int) : Decidable (riseP l lo hi) := by unfold riseP; infer_instance
theorem upto_len (N : Nat) : (upto N).length = N := by unfold upto; simp
open Go.Eng

/-- The order of a function's block. -/
def ordF (f : Func) (b : List Int) : List Int := ord f.stmts.length (kids f.stmts) b
open Go.Eng

theorem all_no {α : Type} {p : α → Bool} {l : List α} {k : Int} (h0 : 0 ≤ k) (h1 : k < l.length) (h : p (l[k.toNat]'(by omega)) = false) : l.all p = false :=
  List.all_eq_false.2 ⟨_, List.getElem_mem _, by simpa using h⟩
theorem all_tk {α : Type} {p : α → Bool} {l : List α} {k : Int} (h0 : 0 ≤ k) (h1 : k < l.length) (h : (l.take k.toNat).all p = true) (h2 : p (l[k.toNat]'(by omega)) = true) : (l.take (k + 1).toNat).all p = true := by
  rw [take_at h0 h1, List.all_append, h]; simpa using h2
theorem all_fl {α : Type} {p : α → Bool} {l : List α} {k : Int} (h1 : (l.length : Int) ≤ k) (h : (l.take k.toNat).all p = true) : l.all p = true := by
  rwa [take_end h1] at h
open Go.Eng

def okNum (f : Func) : Bool := decide (0 ≤ f.params ∧ f.params ≤ 2) && (decide (f.params ≤ f.vars ∧ f.vars ≤ 6) && decide ((f.stmts.length : Int) ≤ 16))
def siteB (f : Func) : Bool := decide (((sitesF f.stmts 0).length : Int) ≤ 4)
def kindAt (f : Func) (n : Int) : Int := match f.stmts[n.toNat]? with
  | some s => s.kind
  | none => 0
def noDef (f : Func) (b : List Int) : Bool := (ordF f b).all fun n => decide (¬ kindAt f n = 3)
def whileOk (f : Func) (s : Stmt) : Bool := if s.kind = 8 then noDef f s.thn else true
def whileB (f : Func) : Bool := f.stmts.all (whileOk f)
def shapeF (f : Func) : Bool := okNum f && (siteB f && (shapeB f.stmts f.body && whileB f))
open Go.Eng

def lens (s : Stmt) : Int := (s.thn.length : Int) + s.els.length
def stmtW (vars : Int) (ps : List Int) (s : Stmt) : Bool :=
  if s.kind = 1 then goodE vars ps s.ex && (decide (0 ≤ s.n ∧ s.n ≤ vars - 1) && decide (lens s = 0))
  else if s.kind = 2 ∨ s.kind = 4 ∨ s.kind = 5 ∨ s.kind = 9 then goodE vars ps s.ex && (decide (s.n = 0) && decide (lens s = 0))
  else if s.kind = 3 then decide ((s.ex.length : Int) = 0) && (decide (0 ≤ s.n ∧ s.n ≤ (ps.length : Int) - 1) && decide (lens s = 0))
  else if s.kind = 6 then decide ((s.ex.length : Int) = 0) && (decide (s.n = 0) && decide (lens s = 0))
  else if s.kind = 7 then goodE vars ps s.ex && decide (s.n = 0)
  else if s.kind = 8 then goodE vars ps s.ex && (decide (s.n = 0) && decide ((s.els.length : Int) = 0))
  else false
def stmtG (vars : Int) (ps : List Int) (s : Stmt) : Bool := stmtW vars ps s && (if s.kind = 3 then decide (atI ps s.n = 0) else true)





def paramsL (p : Prog) : List Int := p.funcs.map (·.params)
def goodF (ps : List Int) (f : Func) : Bool := shapeF f && f.stmts.all (stmtG f.vars ps)
def goodP (p : Prog) : Bool := decide ((1 : Int) ≤ p.funcs.length ∧ (p.funcs.length : Int) ≤ 5) && (paramsB (paramsL p) && (decide (atI (paramsL p) 0 = 0) && p.funcs.all (goodF (paramsL p))))
open Go.Eng
open Go.Eng

def stmtAt (f : Func) (n : Int) : Stmt := (f.stmts[n.toNat]?).getD ⟨0, 0, [], [], []⟩
def funcAt (p : Prog) (n : Int) : Func := (p.funcs[n.toNat]?).getD ⟨0, 0, [], []⟩
def op0 (l : List Tok) : Int := (l[(0 : Int).toNat]?.map (·.op)).getD 0
def guard1 (f : Func) : Bool := decide ((f.stmts.length : Int) = 2) && (decide ((stmtAt f 0).kind = 3) && (decide ((stmtAt f 1).kind = 9) && (decide (((stmtAt f 1).ex.length : Int) = 1) && decide (op0 (stmtAt f 1).ex = 11))))
def guard2 (f : Func) : Bool := decide ((f.stmts.length : Int) = 1) && (decide ((stmtAt f 0).kind = 2) && (decide (((stmtAt f 0).ex.length : Int) = 1) && decide (op0 (stmtAt f 0).ex = 10)))
def guarded (p : Prog) : Bool := goodP p && (guard1 (funcAt p 0) && guard2 (funcAt p (stmtAt (funcAt p 0) 0).n))
open Go.Eng
/-- Rising lists with the same members are the same. -/
theorem rise_ext : ∀ {a b : List Int}, a.Pairwise (· < ·) → b.Pairwise (· < ·) → (∀ x, x ∈ a ↔ x ∈ b) → a = b
  | [], [], _, _, _ => rfl
  | [], y :: b, _, _, h => by have := (h y).2 (List.mem_cons_self ..); cases this
  | x :: a, [], _, _, h => by have := (h x).1 (List.mem_cons_self ..); cases this
  | x :: a, y :: b, ha, hb, h => by
    rw [List.pairwise_cons] at ha hb
    have e : x = y := by
      have h1 := (h x).1 (List.mem_cons_self ..)
      have h2 := (h y).2 (List.mem_cons_self ..)
      rcases List.mem_cons.1 h1 with h1 | h1
      · exact h1
      · rcases List.mem_cons.1 h2 with h2 | h2
        · exact h2.symm
        · have := ha.1 _ h2; have := hb.1 _ h1; omega
    subst e
    rw [rise_ext ha.2 hb.2 fun z => ?_]
    constructor
    · intro hz
      rcases List.mem_cons.1 ((h z).1 (List.mem_cons_of_mem _ hz)) with e | e
      · have := ha.1 _ hz; omega
      · exact e
    · intro hz
      rcases List.mem_cons.1 ((h z).2 (List.mem_cons_of_mem _ hz)) with e | e
      · have := hb.1 _ hz; omega
      · exact e

/-- Those of the first N that are so. -/
def pickN (N : Nat) (p : Int → Bool) : List Int := (upto N).filter p
theorem mem_pickN {N : Nat} {p : Int → Bool} {x : Int} : x ∈ pickN N p ↔ (0 ≤ x ∧ x < N) ∧ p x = true := by
  rw [pickN, List.mem_filter, mem_upto]
theorem pickN_lt (N : Nat) (p : Int → Bool) : (pickN N p).Pairwise (· < ·) := (upto_lt N).filter _
theorem pickN_len (N : Nat) (p : Int → Bool) : (pickN N p).length ≤ N := by
  have := List.length_filter_le p (upto N)
  unfold pickN
  have e : (upto N).length = N := by unfold upto; simp
  omega

/-- What calls lead to. -/
inductive Lead (calls : Int → List Int) (a : Int) : Int → Prop
  | refl : Lead calls a a
  | step {b c : Int} : Lead calls a b → c ∈ calls b → Lead calls a c
theorem Lead.trans {calls : Int → List Int} {a b c : Int} (h : Lead calls a b) (h2 : Lead calls b c) : Lead calls a c := by
  induction h2 with
  | refl => exact h
  | step _ hc ih => exact .step ih hc
theorem Lead.head {calls : Int → List Int} {a b c : Int} (h : b ∈ calls a) (h2 : Lead calls b c) : Lead calls a c := (Lead.step .refl h).trans h2

def InN (N : Nat) (calls : Int → List Int) : Prop := ∀ a c, c ∈ calls a → 0 ≤ c ∧ c < N
def grow (N : Nat) (calls : Int → List Int) (S : Int → Bool) (b : Int) : Bool := S b || (upto N).any fun c => S c && decide (b ∈ calls c)
def stepN (N : Nat) (calls : Int → List Int) (a : Int) : Nat → Int → Bool
  | 0 => fun b => decide (a = b)
  | n + 1 => grow N calls (stepN N calls a n)
def reachB (N : Nat) (calls : Int → List Int) (a b : Int) : Bool := stepN N calls a N b
def reachL (N : Nat) (calls : Int → List Int) (a : Int) : List Int := pickN N (reachB N calls a)

section
variable {N : Nat} {calls : Int → List Int} {a : Int}
theorem stepN_lead : ∀ (n : Nat) {b : Int}, stepN N calls a n b = true → Lead calls a b
  | 0, b, h => by
    have : a = b := of_decide_eq_true h
    subst this; exact .refl
  | n + 1, b, h => by
    rw [stepN, grow, Bool.or_eq_true] at h
    rcases h with h | h
    · exact stepN_lead n h
    · rw [List.any_eq_true] at h
      obtain ⟨c, _, hc⟩ := h
      rw [Bool.and_eq_true, decide_eq_true_iff] at hc
      exact .step (stepN_lead n hc.1) hc.2
theorem stepN_up (n : Nat) {b : Int} (h : stepN N calls a n b = true) : stepN N calls a (n + 1) b = true := by
  rw [stepN, grow, h]; rfl
theorem stepN_le {n m : Nat} (hnm : n ≤ m) {b : Int} (h : stepN N calls a n b = true) : stepN N calls a m b = true := by
  induction hnm with
  | refl => exact h
  | step _ ih => exact stepN_up _ ih
def stable (N : Nat) (calls : Int → List Int) (a : Int) (n : Nat) : Prop := ∀ b : Int, 0 ≤ b → b < N → stepN N calls a (n + 1) b = true → stepN N calls a n b = true
theorem filter_lt {α : Type} {p q : α → Bool} : ∀ {l : List α}, (∀ x, x ∈ l → p x = true → q x = true) → (∃ x, x ∈ l ∧ q x = true ∧ p x = false) → (l.filter p).length < (l.filter q).length
  | [], _, h => by obtain ⟨x, hx, _⟩ := h; cases hx
  | x :: l, h1, h2 => by
    have hle : ∀ {l : List α}, (∀ x, x ∈ l → p x = true → q x = true) → (l.filter p).length ≤ (l.filter q).length := by
      intro l
      induction l with
      | nil => intro _; simp
      | cons y l ih =>
        intro h
        have ih := ih fun z hz => h z (List.mem_cons_of_mem _ hz)
        have hy := h y (List.mem_cons_self ..)
        rw [List.filter_cons, List.filter_cons]
        by_cases hp : p y = true
        · rw [if_pos hp, if_pos (hy hp), List.length_cons, List.length_cons]; omega
        · rw [if_neg hp]; split <;> (try rw [List.length_cons]) <;> omega
    have h1' : ∀ y, y ∈ l → p y = true → q y = true := fun y hy => h1 y (List.mem_cons_of_mem _ hy)
    obtain ⟨y, hy, hq, hp⟩ := h2
    rcases List.mem_cons.1 hy with rfl | hy
    · have := hle h1'
      rw [List.filter_cons, List.filter_cons, if_neg (by simp [hp]), if_pos hq, List.length_cons]; omega
    · have ih := filter_lt h1' ⟨y, hy, hq, hp⟩
      have hx := h1 x (List.mem_cons_self ..)
      rw [List.filter_cons, List.filter_cons]
      by_cases hp : p x = true
      · rw [if_pos hp, if_pos (hx hp), List.length_cons, List.length_cons]; omega
      · rw [if_neg hp]; split <;> (try rw [List.length_cons]) <;> omega
theorem stepN_grows (h0 : 0 ≤ a) (h1 : a < N) : ∀ n : Nat, (∃ m, m ≤ n ∧ stable N calls a m) ∨ n + 1 ≤ (pickN N (stepN N calls a n)).length
  | 0 => by
    right
    have : a ∈ pickN N (stepN N calls a 0) := mem_pickN.2 ⟨⟨h0, h1⟩, decide_eq_true rfl⟩
    have := List.length_pos_of_mem this
    omega
  | n + 1 => by
    rcases stepN_grows h0 h1 n with ⟨m, hm, h⟩ | h
    · exact .inl ⟨m, by omega, h⟩
    · by_cases hs : stable N calls a n
      · exact .inl ⟨n, by omega, hs⟩
      · right
        have : ∃ b : Int, (0 ≤ b ∧ b < N) ∧ stepN N calls a (n + 1) b = true ∧ stepN N calls a n b = false := by
          refine Classical.byContradiction fun hc => hs fun b b0 b1 hb => ?_
          cases e : stepN N calls a n b with
          | true => rfl
          | false => exact absurd ⟨b, ⟨b0, b1⟩, hb, e⟩ hc
        obtain ⟨b, hb, hb1, hb2⟩ := this
        have := filter_lt (l := upto N) (p := stepN N calls a n) (q := stepN N calls a (n + 1)) (fun x _ hx => stepN_up n hx) ⟨b, mem_upto.2 hb, hb1, hb2⟩
        unfold pickN at h ⊢
        omega
theorem stable_next (hc : InN N calls) {n : Nat} (h : stable N calls a n) : stable N calls a (n + 1) := by
  intro b b0 b1 hb
  rw [stepN, grow, Bool.or_eq_true] at hb
  rcases hb with hb | hb
  · exact hb
  · rw [List.any_eq_true] at hb
    obtain ⟨c, hcN, hcb⟩ := hb
    rw [Bool.and_eq_true] at hcb
    have hcN := mem_upto.1 hcN
    have := h c hcN.1 hcN.2 hcb.1
    rw [stepN, grow, Bool.or_eq_true, List.any_eq_true]
    exact .inr ⟨c, mem_upto.2 hcN, by rw [Bool.and_eq_true]; exact ⟨this, hcb.2⟩⟩
theorem stable_all (hc : InN N calls) (h0 : 0 ≤ a) (h1 : a < N) : stable N calls a N := by
  rcases stepN_grows (calls := calls) h0 h1 N with ⟨m, hm, h⟩ | h
  · obtain ⟨d, rfl⟩ : ∃ d, N = m + d := ⟨N - m, by omega⟩
    generalize hK : m + d = K at h hc h1 ⊢
    have : ∀ d, stable K calls a (m + d) := by
      intro d
      induction d with
      | zero => exact h
      | succ d ih => exact stable_next hc ih
    rw [← hK] at *
    exact this d
  · have := pickN_len N (stepN N calls a N)
    omega
theorem lead_in (hc : InN N calls) (h0 : 0 ≤ a) (h1 : a < N) {b : Int} (h : Lead calls a b) : 0 ≤ b ∧ b < N := by
  cases h with
  | refl => exact ⟨h0, h1⟩
  | step _ h => exact hc _ _ h
theorem reachB_iff (hc : InN N calls) (h0 : 0 ≤ a) (h1 : a < N) {b : Int} : reachB N calls a b = true ↔ Lead calls a b := by
  refine ⟨stepN_lead N, fun h => ?_⟩
  induction h with
  | refl => exact stepN_le (Nat.zero_le N) (decide_eq_true rfl)
  | step h hcb ih =>
    rename_i b c
    have hb := lead_in hc h0 h1 h
    have hcc := hc _ _ hcb
    refine stable_all hc h0 h1 c hcc.1 hcc.2 ?_
    rw [stepN, grow, Bool.or_eq_true, List.any_eq_true]
    exact .inr ⟨b, mem_upto.2 hb, by rw [Bool.and_eq_true, decide_eq_true_iff]; exact ⟨ih, hcb⟩⟩
theorem mem_reachL (hc : InN N calls) (h0 : 0 ≤ a) (h1 : a < N) {b : Int} : b ∈ reachL N calls a ↔ Lead calls a b := by
  rw [reachL, mem_pickN, reachB_iff hc h0 h1]
  exact ⟨fun h => h.2, fun h => ⟨lead_in hc h0 h1 h, h⟩⟩
/-- What is closed under calls, holds the first, and holds but what is led to, is what is led to. -/
theorem reach_closed (hc : InN N calls) (h0 : 0 ≤ a) (h1 : a < N) {S : Int → Prop} (ha : S a) (hs : ∀ x, S x → ∀ c, c ∈ calls x → S c) (hl : ∀ x, S x → Lead calls a x) {b : Int} : b ∈ reachL N calls a ↔ S b := by
  rw [mem_reachL hc h0 h1]
  refine ⟨fun h => ?_, hl b⟩
  induction h with
  | refl => exact ha
  | step _ hcb ih => exact hs _ ih _ hcb
end

/-- A number is put to its place, once. -/
def put (l : List Int) (n : Int) : List Int := if n ∈ l then l else l.takeWhile (fun x => decide (x < n)) ++ n :: l.dropWhile (fun x => decide (x < n))
/-- The numbers of a list, rising, each once. -/
def setN (N : Nat) (l : List Int) : List Int := pickN N fun x => decide (x ∈ l)
theorem mem_setN {N : Nat} {l : List Int} {x : Int} : x ∈ setN N l ↔ (0 ≤ x ∧ x < N) ∧ x ∈ l := by rw [setN, mem_pickN]; simp
open Go.Eng
open Go.Eng

theorem nodup_len {l : List Int} : ∀ {m : List Int}, l.Nodup → (∀ x, x ∈ l → x ∈ m) → l.length ≤ m.length := by
  induction l with
  | nil => intro m _ _; exact Nat.zero_le _
  | cons x l ih =>
    intro m hn hm
    rw [List.nodup_cons] at hn
    have hx := hm x (List.mem_cons_self ..)
    have := ih (m := m.erase x) hn.2 fun y hy => (List.mem_erase_of_ne fun e => hn.1 (by rw [← e]; exact hy)).2 (hm y (List.mem_cons_of_mem _ hy))
    have h2 := List.length_erase_of_mem hx
    have h3 := List.length_pos_of_mem hx
    rw [List.length_cons]; omega

/-- The functions that have been met, those before k with all that they call. -/
structure Met (N : Nat) (calls : Int → List Int) (fn : Int) (met : List Int) (k : Nat) : Prop where
  nodup : met.Nodup
  lead : ∀ x, x ∈ met → Lead calls fn x
  first : fn ∈ met
  closed : ∀ (i : Nat) (h : i < met.length), i < k → ∀ c, c ∈ calls met[i] → c ∈ met
section
variable {N : Nat} {calls : Int → List Int} {fn : Int} {met : List Int} {k : Nat}
theorem Met.inN (h : Met N calls fn met k) (hc : InN N calls) (h0 : 0 ≤ fn) (h1 : fn < N) {x : Int} (hx : x ∈ met) : 0 ≤ x ∧ x < N := lead_in hc h0 h1 (h.lead x hx)
theorem Met.len (h : Met N calls fn met k) (hc : InN N calls) (h0 : 0 ≤ fn) (h1 : fn < N) : met.length ≤ N := by
  have := nodup_len (m := upto N) h.nodup fun x hx => mem_upto.2 (h.inN hc h0 h1 hx)
  rwa [upto_len] at this
theorem Met.add (h : Met N calls fn met k) (hk : k ≤ met.length) {x y : Int} (hx : x ∈ met) (hy : y ∈ calls x) (hn : y ∉ met) : Met N calls fn (met ++ [y]) k := by
  refine ⟨?_, fun z hz => ?_, List.mem_append_left _ h.first, fun i hi hik c hcc => ?_⟩
  · rw [List.nodup_append]
    exact ⟨h.nodup, by simp, fun a ha b hb e => hn (by rw [List.mem_singleton] at hb; rw [← hb, ← e]; exact ha)⟩
  · rcases List.mem_append.1 hz with hz | hz
    · exact h.lead z hz
    · rw [List.mem_singleton] at hz; subst hz; exact .step (h.lead x hx) hy
  · rw [List.getElem_append_left (by omega)] at hcc
    exact List.mem_append_left _ (h.closed i (by omega) hik c hcc)
theorem Met.next (h : Met N calls fn met k) (hk : k < met.length) (hc : ∀ c, c ∈ calls met[k] → c ∈ met) : Met N calls fn met (k + 1) :=
  ⟨h.nodup, h.lead, h.first, fun i hi hik => by
    by_cases e : i = k
    · subst e; exact hc
    · exact h.closed i hi (by omega)⟩
theorem Met.done (h : Met N calls fn met k) (hc : InN N calls) (h0 : 0 ≤ fn) (h1 : fn < N) (hN : N ≤ 5) (hk : met.length ≤ k) : setN 5 met = reachL N calls fn := by
  refine rise_ext (pickN_lt ..) (pickN_lt ..) fun x => ?_
  rw [reach_closed (S := fun x => x ∈ met) hc h0 h1 h.first (fun x hx c hcc => by
    obtain ⟨i, hi, rfl⟩ := List.getElem_of_mem hx
    exact h.closed i hi (by omega) c hcc) h.lead]
  rw [mem_setN]
  refine ⟨fun h => h.2, fun hx => ⟨?_, hx⟩⟩
  have := h.inN hc h0 h1 hx
  omega
end
/-- A search: what has been seen, and what is still open. -/
structure Dfs (calls : Int → List Int) (fn : Int) (S ol : List Int) : Prop where
  leadS : ∀ x, x ∈ S → Lead calls fn x
  leadO : ∀ x, x ∈ ol → Lead calls fn x
  first : fn ∈ S ∨ fn ∈ ol
  closed : ∀ x, x ∈ S → ∀ c, c ∈ calls x → c ∈ S ∨ c ∈ ol
section
variable {N : Nat} {calls : Int → List Int} {fn x : Int} {S ol : List Int}
theorem Dfs.skip (h : Dfs calls fn S (ol ++ [x])) (hx : x ∈ S) : Dfs calls fn S ol := by
  have key : ∀ c, c ∈ ol ++ [x] → c ∈ S ∨ c ∈ ol := fun c hc => by
    rcases List.mem_append.1 hc with hc | hc
    · exact .inr hc
    · rw [List.mem_singleton] at hc; subst hc; exact .inl hx
  exact ⟨h.leadS, fun y hy => h.leadO y (List.mem_append_left _ hy), h.first.elim .inl (key fn), fun y hy c hc => (h.closed y hy c hc).elim .inl (key c)⟩
theorem Dfs.take (h : Dfs calls fn S (ol ++ [x])) : Dfs calls fn (S ++ [x]) (ol ++ calls x) := by
  have hx : Lead calls fn x := h.leadO x (List.mem_append_right _ (List.mem_singleton.2 rfl))
  have key : ∀ c, c ∈ S ∨ c ∈ ol ++ [x] → c ∈ S ++ [x] ∨ c ∈ ol ++ calls x := fun c hc => by
    rcases hc with hc | hc
    · exact .inl (List.mem_append_left _ hc)
    · rcases List.mem_append.1 hc with hc | hc
      · exact .inr (List.mem_append_left _ hc)
      · exact .inl (List.mem_append_right _ hc)
  refine ⟨fun y hy => ?_, fun y hy => ?_, key fn h.first, fun y hy c hc => ?_⟩
  · rcases List.mem_append.1 hy with hy | hy
    · exact h.leadS y hy
    · rw [List.mem_singleton] at hy; subst hy; exact hx
  · rcases List.mem_append.1 hy with hy | hy
    · exact h.leadO y (List.mem_append_left _ hy)
    · exact .step hx hy
  · rcases List.mem_append.1 hy with hy | hy
    · exact key c (h.closed y hy c hc)
    · rw [List.mem_singleton] at hy; subst hy; exact .inr (List.mem_append_right _ hc)
theorem Dfs.done (h : Dfs calls fn S []) (hc : InN N calls) (h0 : 0 ≤ fn) (h1 : fn < N) : pickN N (fun x => decide (x ∈ S)) = reachL N calls fn := by
  refine rise_ext (pickN_lt ..) (pickN_lt ..) fun x => ?_
  rw [reach_closed (S := fun x => x ∈ S) hc h0 h1 (h.first.elim id fun h => by cases h) (fun x hx c hcc => (h.closed x hx c hcc).elim id fun h => by cases h) h.leadS]
  rw [mem_pickN, decide_eq_true_eq]
  exact ⟨fun h => h.2, fun hx => ⟨lead_in hc h0 h1 (h.leadS x hx), hx⟩⟩
end
open Go.Eng
open Go.Eng
end Go.Proofs.YtafjkelehnpfcaaDoor
