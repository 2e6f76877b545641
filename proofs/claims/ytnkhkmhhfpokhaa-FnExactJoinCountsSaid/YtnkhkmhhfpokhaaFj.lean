/- Walks of how counts are joined. -/
import Derived.Test.YtnkhkmhhfpokhaaFc
import Derived.Test.YtnkhkmhhfpokhaaFq
set_option linter.unusedVariables false
set_option linter.unusedSimpArgs false
set_option maxRecDepth 10000
set_option maxHeartbeats 1000000
namespace Go.Proofs.Ytnkhkmhhfpokhaa
open Go.Eng

def cap1 (v : Int) : Int := if 1000000 < v then 1000000 else v
def sumL (a b : List Int) : List Int := List.zipWith (fun x y => cap1 (x + y)) a b
def joined (a b : List (List Int)) : List (List Int) := List.zipWith sumL a b
def lenEq (x y : List Int) : Bool := decide ((x.length : Int) = y.length)
def joinOk (a b : List (List Int)) : Bool := cnt a && (cnt b && eqL lenEq a b)
def joinR (a b : List (List Int)) : List (List Int) := if joinOk a b then joined a b else []
theorem sumL_len {a b : List Int} (h : (a.length : Int) = b.length) : (sumL a b).length = a.length := by unfold sumL; rw [List.length_zipWith]; omega
theorem sumL_at {a b : List Int} {i : Nat} (h1 : i < a.length) (h2 : i < b.length) (h3 : i < (sumL a b).length) : (sumL a b)[i] = cap1 (a[i] + b[i]) := List.getElem_zipWith
theorem joined_len {a b : List (List Int)} (h : (a.length : Int) = b.length) : (joined a b).length = a.length := by unfold joined; rw [List.length_zipWith]; omega
theorem joined_at {a b : List (List Int)} {i : Nat} (h1 : i < a.length) (h2 : i < b.length) (h3 : i < (joined a b).length) : (joined a b)[i] = sumL a[i] b[i] := List.getElem_zipWith

theorem l1Least_fun (a b : Int) : Fun Try.prog 35 [.t (.int a), .t (.int b)] (tupD [.t (.int (if a < b then a else b))]) := by
  refine Fun.begin tys Try.func35 rfl rfl (N := 10) [(0, .t (.int a)), (1, .t (.int b))] rfl rfl (fun w0 G F0 => ?_)
  refine W_seq ?_
  refine W_region ?_
  refine ev ?_
  refine WO_nil ?_
  refine thenQ_n ?_
  refine W_seq ?_
  refine W_seq ?_
  refine W_region ?_
  refine ev ?_
  refine ev ?_
  refine ev ?_
  refine WO_nil ?_
  refine thenQ_n ?_
  refine W_cond rfl (fun h1 => ?_) (fun h1 => ?_)
  ·
    try simp only [HS] at h1
    refine W_seq ?_
    refine W_region ?_
    refine ev ?_
    refine ev ?_
    refine WO_nil ?_
    refine thenQ_n ?_
    refine W_ret ?_
    refine thenQ_r ?_
    refine Ends_of (.inr rfl) (ret_okF rfl) (by decide) rfl ?_
    · first | rw [if_pos h1] | rw [if_neg (by omega)]
  try simp only [HS] at h1
  refine W_skip ?_
  refine thenQ_n ?_
  refine W_seq ?_
  refine W_region ?_
  refine ev ?_
  refine ev ?_
  refine WO_nil ?_
  refine thenQ_n ?_
  refine W_ret ?_
  refine Ends_of (.inr rfl) (ret_okF rfl) (by decide) rfl ?_
  · first | rw [if_pos h1] | rw [if_neg (by omega)]

theorem retOB {a a' : List (List Int)} {b b' : Bool} (h : a = a') (h' : b = b') : [D.own (intss a), D.t (T.v (Value.bool b))] = [D.own (intss a'), D.t (T.bool b')] := by rw [h, h']

theorem eqL_lens {a b : List (List Int)} (h : eqL lenEq a b = true) : (a.length : Int) = b.length ∧ ∀ j (hj : j < a.length) (hj' : j < b.length), (a[j].length : Int) = b[j].length := by
  unfold eqL at h
  rw [Bool.and_eq_true] at h
  refine ⟨by have := h.1; simp at this; omega, ?_⟩
  have h2 := h.2
  clear h
  induction a generalizing b with
  | nil => intro j hj; simp at hj
  | cons x a ih =>
    cases b with
    | nil => intro j _ hj; simp at hj
    | cons y b =>
      rw [eqGo, Bool.and_eq_true] at h2
      intro j hj hj'
      cases j with
      | zero => simpa [lenEq] using h2.1
      | succ j => simpa using ih h2.2 j (by simpa using hj) (by simpa using hj')

theorem specJoin_fun (a b : List (List Int)) (ha : okL 1048576 (okN 1048576) a) (hb : okL 1048576 (okN 1048576) b) : Fun Try.prog 16 [.t (intss a), .t (intss b)] (tupD [.own (intss (joinR a b)), .t (.bool (joinOk a b))]) := by
  have ha1 : a.length ≤ 1048576 := ha.1
  have hb1 : b.length ≤ 1048576 := hb.1
  refine Fun.begin tys Try.func16 rfl rfl (N := 69) [(0, .t (intss a)), (1, .t (intss b))] rfl rfl (fun w0 G F0 => ?_)
  refine W_seq ?_
  refine W_region ?_
  refine ev ?_
  refine ev ?_
  refine WO_nil ?_
  refine thenQ_n ?_
  refine W_seq ?_
  refine W_seq ?_
  refine W_region ?_
  refine ev ?_
  refine callB ?_
  refine ⟨_, l20Counts_fun a ha.1 ha.2, rfl, ?_⟩
  refine ev ?_
  refine ev ?_
  refine WO_guard rfl rfl rfl rfl (lt_of rfl) (fun h1 => ?_) (fun h1 => ?_)
  rotate_left
  ·
    try simp only [HS] at h1
    refine WO_guardN rfl rfl rfl rfl rfl (lt_of rfl) ?_
    refine WO_guardN rfl rfl rfl rfl rfl (lt_of rfl) ?_
    refine ev ?_
    refine WO_keep [0, 1, 4, 5, 19] rfl ?_
    refine ev ?_
    refine WO_guardN rfl rfl rfl rfl rfl (lt_of rfl) ?_
    refine WO_guardN rfl rfl rfl rfl rfl (lt_of rfl) ?_
    refine WO_guardN rfl rfl rfl rfl rfl (lt_of rfl) ?_
    refine WO_guardN rfl rfl rfl rfl rfl (lt_of rfl) ?_
    refine WO_guardN rfl rfl rfl rfl rfl (lt_of rfl) ?_
    refine ev ?_
    refine WO_nil ?_
    refine thenQ_n ?_
    refine W_condT rfl ?_
    refine W_seq ?_
    refine W_keep [0, 1, 4, 5] rfl ?_
    refine W_region ?_
    refine ev ?_
    refine ev ?_
    refine WO_nil ?_
    refine thenQ_n ?_
    first | refine W_le (Le.gather (u := 4) (id := 6) rfl rfl (by omega)) ?_ | refine W_le (Le.nilOwn (u := 4) 1 rfl) ?_
    refine W_ret ?_
    refine thenQ_r ?_
    refine Ends_of (.inr rfl) (ret_okF rfl) (by decide) rfl ?_
    · first
      | (refine retOB (a := []) (b := false) ?_ ?_ <;> first | (simp [joinR, joinOk, h1]; done) | (simp [joinR, joinOk, h1, h2]; done) | (simp [joinR, joinOk, h1, h2, eqL_len h3]; done) | (simp [joinR, joinOk, h1, h2, eqL_eq hlen, he, eqGo_at hk0 h4 hlen, lenEq, h5]; done))
      | (have q2 := joined_len hlen
         have e0 : eqL lenEq a b = true := (by rw [eqL_eq hlen, he, drop_end h4]; rfl)
         have e : joinOk a b = true := (by simp [joinOk, h1, h2, e0])
         rw [hm, List.take_length, hxs, List.take_of_length_le (by omega), joinR, if_pos e, e])
  try simp only [HS] at h1
  refine ev ?_
  refine WO_guardY rfl rfl rfl rfl (lt_of rfl) ?_
  refine callB ?_
  refine ⟨_, l20Counts_fun b hb.1 hb.2, rfl, ?_⟩
  refine WO_guardY rfl rfl rfl rfl (lt_of rfl) ?_
  refine ev ?_
  refine WO_keep [0, 1, 4, 5, 15, 18] rfl ?_
  refine ev ?_
  refine ev ?_
  refine WO_guard rfl rfl rfl rfl (lt_of rfl) (fun h2 => ?_) (fun h2 => ?_)
  rotate_left
  ·
    try simp only [HS] at h2
    refine WO_guardN rfl rfl rfl rfl rfl (lt_of rfl) ?_
    refine WO_guardN rfl rfl rfl rfl rfl (lt_of rfl) ?_
    refine WO_guardN rfl rfl rfl rfl rfl (lt_of rfl) ?_
    refine WO_guardN rfl rfl rfl rfl rfl (lt_of rfl) ?_
    refine ev ?_
    refine WO_nil ?_
    refine thenQ_n ?_
    refine W_condT rfl ?_
    refine W_seq ?_
    refine W_keep [0, 1, 4, 5] rfl ?_
    refine W_region ?_
    refine ev ?_
    refine ev ?_
    refine WO_nil ?_
    refine thenQ_n ?_
    first | refine W_le (Le.gather (u := 4) (id := 6) rfl rfl (by omega)) ?_ | refine W_le (Le.nilOwn (u := 4) 1 rfl) ?_
    refine W_ret ?_
    refine thenQ_r ?_
    refine Ends_of (.inr rfl) (ret_okF rfl) (by decide) rfl ?_
    · first
      | (refine retOB (a := []) (b := false) ?_ ?_ <;> first | (simp [joinR, joinOk, h1]; done) | (simp [joinR, joinOk, h1, h2]; done) | (simp [joinR, joinOk, h1, h2, eqL_len h3]; done) | (simp [joinR, joinOk, h1, h2, eqL_eq hlen, he, eqGo_at hk0 h4 hlen, lenEq, h5]; done))
      | (have q2 := joined_len hlen
         have e0 : eqL lenEq a b = true := (by rw [eqL_eq hlen, he, drop_end h4]; rfl)
         have e : joinOk a b = true := (by simp [joinOk, h1, h2, e0])
         rw [hm, List.take_length, hxs, List.take_of_length_le (by omega), joinR, if_pos e, e])
  try simp only [HS] at h2
  refine ev ?_
  refine WO_guardY rfl rfl rfl rfl (lt_of rfl) ?_
  refine evE ?_
  refine WO_guardY rfl rfl rfl rfl (lt_of rfl) ?_
  refine ev ?_
  refine WO_guardY rfl rfl rfl rfl (lt_of rfl) ?_
  refine evE ?_
  refine WO_guardY rfl rfl rfl rfl (lt_of rfl) ?_
  refine ev ?_
  refine ev ?_
  refine WO_nil ?_
  refine thenQ_n ?_
  refine W_cond rfl (fun h3 => ?_) (fun h3 => ?_)
  ·
    try simp only [HS] at h3
    refine W_seq ?_
    refine W_keep [0, 1, 4, 5] rfl ?_
    refine W_region ?_
    refine ev ?_
    refine ev ?_
    refine WO_nil ?_
    refine thenQ_n ?_
    first | refine W_le (Le.gather (u := 4) (id := 6) rfl rfl (by omega)) ?_ | refine W_le (Le.nilOwn (u := 4) 1 rfl) ?_
    refine W_ret ?_
    refine thenQ_r ?_
    refine Ends_of (.inr rfl) (ret_okF rfl) (by decide) rfl ?_
    · first
      | (refine retOB (a := []) (b := false) ?_ ?_ <;> first | (simp [joinR, joinOk, h1]; done) | (simp [joinR, joinOk, h1, h2]; done) | (simp [joinR, joinOk, h1, h2, eqL_len h3]; done) | (simp [joinR, joinOk, h1, h2, eqL_eq hlen, he, eqGo_at hk0 h4 hlen, lenEq, h5]; done))
      | (have q2 := joined_len hlen
         have e0 : eqL lenEq a b = true := (by rw [eqL_eq hlen, he, drop_end h4]; rfl)
         have e : joinOk a b = true := (by simp [joinOk, h1, h2, e0])
         rw [hm, List.take_length, hxs, List.take_of_length_le (by omega), joinR, if_pos e, e])
  try simp only [HS] at h3
  refine W_skip ?_
  refine thenQ_n ?_
  refine W_seq ?_
  refine W_keep [0, 1, 4, 5] rfl ?_
  refine W_region ?_
  refine ev ?_
  refine WO_le (Le.nilOwn (u := 6) 1 rfl) ?_
  refine WO_le (Le.adoptE (u := 6) 6 rfl rfl) ?_
  refine WO_norm rfl ?_
  refine WO_nil ?_
  refine thenQ_n ?_
  refine W_seq ?_
  refine W_seq ?_
  refine W_region ?_
  refine ev ?_
  refine evE ?_
  refine ev ?_
  refine WO_nil ?_
  refine thenQ_n ?_
  refine W_block ?_
  refine W_loopK (α := Int × Nat × List T) [0, 1, 27, 28] [] (fun (x : Int × Nat × List T) => [(29, .t (.int (x.1))), (6, .sl 6 0 (x.2.1))]) (fun (x : Int × Nat × List T) => [(6, .L 1 (x.2.2))]) (fun (x : Int × Nat × List T) => 0 ≤ (x.1) ∧ (x.1) ≤ a.length ∧ (x.2.1) = (x.2.2).length ∧ (x.2.2) = ((joined a b).take (x.1).toNat).map T.ints ∧ CntOk a ∧ CntOk b ∧ (a.length : Int) = b.length ∧ eqGo lenEq a b = eqGo lenEq (a.drop (x.1).toNat) (b.drop (x.1).toNat)) (fun (x : Int × Nat × List T) => Int.toNat (a.length - (x.1))) (0, 0, []) ?_ ?_ ?_ (fun x hx => ?_)
  · repeat (first | exact Sub.nil' | refine Sub.cons' rfl ?_ )
  · repeat (first | exact SubM.nil' | refine SubM.cons' rfl ?_ )
  · exact ⟨by omega, by omega, rfl, rfl, cnt_mem (by assumption), cnt_mem (by assumption), by assumption, rfl⟩
  obtain ⟨k, m, xs⟩ := x
  obtain ⟨hk0, hk1, hm, hxs, ca, cb, hlen, he⟩ := hx
  try dsimp only at hk0 hk1 hm hxs hlen he ⊢
  refine W_norm rfl ?_
  refine W_seq ?_
  refine W_region ?_
  refine ev ?_
  refine WO_nil ?_
  refine thenQ_n ?_
  refine W_seq ?_
  refine W_cond rfl (fun h4 => ?_) (fun h4 => ?_)
  ·
    try simp only [HS] at h4
    refine W_skip ?_
    refine thenQ_n ?_
    refine W_seq ?_
    refine W_block ?_
    refine W_seq ?_
    refine W_region ?_
    refine ev ?_
    first | refine WO_idxT tys rfl rfl (lt_of rfl) rfl rfl rfl rfl rfl rfl rfl (by omega) _ (getT _ _ (by omega) (by omega)) ?_ | refine WO_idxS tys rfl rfl (lt_of rfl) rfl rfl rfl rfl rfl rfl rfl rfl (by omega) (by omega) ?_
    first | refine ev ?_ | refine WO_loadL tys rfl rfl (lt_of rfl) rfl rfl rfl rfl (getT _ _ (by omega) (by omega)) rfl ?_ | refine WO_loadL tys rfl rfl (lt_of rfl) rfl rfl rfl rfl (getT0 _ _ (by omega) (by omega)) rfl ?_
    refine ev ?_
    refine ev ?_
    refine WO_nil ?_
    refine thenQ_n ?_
    refine W_seq ?_
    refine W_seq ?_
    refine W_region ?_
    refine ev ?_
    refine evE ?_
    refine ev ?_
    refine WO_keep [0, 1, 6, 7, 8, 27, 28, 29, 30, 31, 32, 33, 34, 35, 36] rfl ?_
    refine ev ?_
    first | refine WO_idxT tys rfl rfl (lt_of rfl) rfl rfl rfl rfl rfl rfl rfl (by omega) _ (getT _ _ (by omega) (by omega)) ?_ | refine WO_idxS tys rfl rfl (lt_of rfl) rfl rfl rfl rfl rfl rfl rfl rfl (by omega) (by omega) ?_
    first | refine ev ?_ | refine WO_loadL tys rfl rfl (lt_of rfl) rfl rfl rfl rfl (getT _ _ (by omega) (by omega)) rfl ?_ | refine WO_loadL tys rfl rfl (lt_of rfl) rfl rfl rfl rfl (getT0 _ _ (by omega) (by omega)) rfl ?_
    refine evE ?_
    refine ev ?_
    refine WO_nil ?_
    refine thenQ_n ?_
    refine W_cond rfl (fun h5 => ?_) (fun h5 => ?_)
    ·
      try simp only [HS] at h5
      refine W_seq ?_
      refine W_region ?_
      refine ev ?_
      refine ev ?_
      refine WO_nil ?_
      refine thenQ_n ?_
      first | refine W_le (Le.gather (u := 4) (id := 6) rfl rfl (by omega)) ?_ | refine W_le (Le.nilOwn (u := 4) 1 rfl) ?_
      refine W_ret ?_
      refine thenQ_r ?_
      refine inBlk_r ?_
      refine thenQ_r ?_
      refine loopQ_r ?_
      refine inBlk_r ?_
      refine thenQ_r ?_
      refine Ends_of (.inr rfl) (ret_okF rfl) (by decide) rfl ?_
      · first
        | (refine retOB (a := []) (b := false) ?_ ?_ <;> first | (simp [joinR, joinOk, h1]; done) | (simp [joinR, joinOk, h1, h2]; done) | (simp [joinR, joinOk, h1, h2, eqL_len h3]; done) | (simp [joinR, joinOk, h1, h2, eqL_eq hlen, he, eqGo_at hk0 h4 hlen, lenEq, h5]; done))
        | (have q2 := joined_len hlen
           have e0 : eqL lenEq a b = true := (by rw [eqL_eq hlen, he, drop_end h4]; rfl)
           have e : joinOk a b = true := (by simp [joinOk, h1, h2, e0])
           rw [hm, List.take_length, hxs, List.take_of_length_le (by omega), joinR, if_pos e, e])
    try simp only [HS] at h5
    refine W_skip ?_
    refine thenQ_n ?_
    refine W_seq ?_
    refine W_region ?_
    refine ev ?_
    refine WO_le (Le.nilOwn (u := 9) 1 rfl) ?_
    refine WO_le (Le.adoptE (u := 9) 9 rfl rfl) ?_
    refine WO_norm rfl ?_
    refine WO_nil ?_
    refine thenQ_n ?_
    refine W_seq ?_
    refine W_seq ?_
    refine W_region ?_
    refine ev ?_
    refine evE ?_
    refine ev ?_
    refine WO_keep [0, 1, 6, 7, 8, 9, 27, 28, 29, 30, 31, 32, 33, 34, 35, 36, 37, 38, 39, 40, 41, 42, 43, 44] rfl ?_
    refine WO_nil ?_
    refine thenQ_n ?_
    refine W_block ?_
    refine W_loopK (α := Int × Nat × List T) [0, 1, 6, 7, 8, 27, 28, 29, 42, 43] [6] (fun (x : Int × Nat × List T) => [(44, .t (.int (x.1))), (9, .sl 9 0 (x.2.1))]) (fun (x : Int × Nat × List T) => [(9, .L 1 (x.2.2))]) (fun (x : Int × Nat × List T) => 0 ≤ (x.1) ∧ (x.1) ≤ (a[k.toNat]'(by omega)).length ∧ (x.2.1) = (x.2.2).length ∧ (x.2.2) = ((sumL (a[k.toNat]'(by omega)) (b[k.toNat]'(by omega))).take (x.1).toNat).map T.int) (fun (x : Int × Nat × List T) => Int.toNat ((a[k.toNat]'(by omega)).length - (x.1))) (0, 0, []) ?_ ?_ ?_ (fun x hx => ?_)
    · repeat (first | exact Sub.nil' | refine Sub.cons' rfl ?_ )
    · repeat (first | exact SubM.nil' | refine SubM.cons' rfl ?_ )
    · exact ⟨by omega, by omega, rfl, rfl⟩
    obtain ⟨i, m', ys⟩ := x
    obtain ⟨hi0, hi1, hm', hys⟩ := hx
    try dsimp only at hi0 hi1 hm' hys ⊢
    refine W_norm rfl ?_
    refine W_seq ?_
    refine W_region ?_
    refine ev ?_
    refine WO_nil ?_
    refine thenQ_n ?_
    refine W_seq ?_
    refine W_cond rfl (fun h6 => ?_) (fun h6 => ?_)
    ·
      try simp only [HS] at h6
      refine W_skip ?_
      refine thenQ_n ?_
      refine W_seq ?_
      refine W_block ?_
      refine W_seq ?_
      refine W_region ?_
      refine ev ?_
      first | refine WO_idxT tys rfl rfl (lt_of rfl) rfl rfl rfl rfl rfl rfl rfl (by omega) _ (getT _ _ (by omega) (by omega)) ?_ | refine WO_idxS tys rfl rfl (lt_of rfl) rfl rfl rfl rfl rfl rfl rfl rfl (by omega) (by omega) ?_
      first | refine ev ?_ | refine WO_loadL tys rfl rfl (lt_of rfl) rfl rfl rfl rfl (getT _ _ (by omega) (by omega)) rfl ?_ | refine WO_loadL tys rfl rfl (lt_of rfl) rfl rfl rfl rfl (getT0 _ _ (by omega) (by omega)) rfl ?_
      refine ev ?_
      refine ev ?_
      refine WO_nil ?_
      refine thenQ_n ?_
      refine W_region ?_
      refine ev ?_
      refine ev ?_
      refine ev ?_
      refine WO_keep [0, 1, 6, 7, 8, 9, 10, 11, 27, 28, 29, 42, 43, 44, 45, 46, 47, 48, 49, 50, 51] rfl ?_
      refine ev ?_
      first | refine WO_idxT tys rfl rfl (lt_of rfl) rfl rfl rfl rfl rfl rfl rfl (by omega) _ (getT _ _ (by omega) (by omega)) ?_ | refine WO_idxS tys rfl rfl (lt_of rfl) rfl rfl rfl rfl rfl rfl rfl rfl (by omega) (by omega) ?_
      first | refine ev ?_ | refine WO_loadL tys rfl rfl (lt_of rfl) rfl rfl rfl rfl (getT _ _ (by omega) (by omega)) rfl ?_ | refine WO_loadL tys rfl rfl (lt_of rfl) rfl rfl rfl rfl (getT0 _ _ (by omega) (by omega)) rfl ?_
      refine ev ?_
      first | refine WO_idxT tys rfl rfl (lt_of rfl) rfl rfl rfl rfl rfl rfl rfl (by omega) _ (getT _ _ (by omega) (by omega)) ?_ | refine WO_idxS tys rfl rfl (lt_of rfl) rfl rfl rfl rfl rfl rfl rfl rfl (by omega) (by omega) ?_
      first | refine ev ?_ | refine WO_loadL tys rfl rfl (lt_of rfl) rfl rfl rfl rfl (getT _ _ (by omega) (by omega)) rfl ?_ | refine WO_loadL tys rfl rfl (lt_of rfl) rfl rfl rfl rfl (getT0 _ _ (by omega) (by omega)) rfl ?_
      have hx := (ca.2 _ (List.getElem_mem (l := a) (n := k.toNat) (by omega))).2 _ (List.getElem_mem (n := i.toNat) (by omega))
      have hy := (cb.2 _ (List.getElem_mem (l := b) (n := k.toNat) (by omega))).2 _ (List.getElem_mem (n := i.toNat) (by omega))
      refine evI ?_
      refine callB ?_
      refine ⟨_, l1Least_fun _ _, rfl, ?_⟩
      refine WO_buildSlice tys [T.int (cap1 ((a[k.toNat]'(by omega))[i.toNat]'(by omega) + (b[k.toNat]'(by omega))[i.toNat]'(by omega)))] rfl rfl (lt_of rfl) rfl rfl rfl rfl rfl (lt_of rfl) (by repeat (first | exact PartsOk.nil' | refine PartsOk.cons' rfl (by repeat (first | exact AbsL.nil' | refine AbsL.v' ?_ | refine AbsL.own' ?_)) rfl ?_)) (by first | exact List.nodup_nil | exact nodup1 _ | decide) rfl (by decide) ?_
      refine WO_norm rfl ?_
      refine WO_keep [0, 1, 6, 7, 8, 9, 10, 11, 27, 28, 29, 42, 43, 44, 45, 46, 47, 48, 49, 50, 51, 52, 53, 54, 55, 56, 57, 58, 59, 60] rfl ?_
      first | refine WO_append tys rfl rfl (lt_of rfl) rfl rfl rfl rfl rfl (.own rfl (by omega)) rfl (.own rfl (by first | decide | omega)) (by decide) (by have q1 := congrArg List.length hys; have q2 := sumL_len h5; have q3 := (ca.2 _ (List.getElem_mem (l := a) (n := k.toNat) (by omega))).1; simp only [List.length_map, List.length_take] at q1; simp only [List.length_take, List.length_cons, List.length_nil]; omega) (by decide) rfl ?_ | refine WO_append tys rfl rfl (lt_of rfl) rfl rfl rfl rfl rfl .nil rfl (.own rfl (by first | decide | omega)) (by decide) (by have q1 := congrArg List.length hys; have q2 := sumL_len h5; have q3 := (ca.2 _ (List.getElem_mem (l := a) (n := k.toNat) (by omega))).1; simp only [List.length_map, List.length_take] at q1; simp only [List.length_take, List.length_cons, List.length_nil]; omega) (by decide) rfl ?_
      refine WO_norm rfl ?_
      refine ev ?_
      refine WO_nil ?_
      refine inBlk_n ?_
      refine thenQ_n ?_
      refine W_region ?_
      have q := (ca.2 _ (List.getElem_mem (l := a) (n := k.toNat) (by omega))).1
      refine evI ?_
      refine ev ?_
      refine WO_nil ?_
      refine loopQ_n (_, _, _) (by (try dsimp only); repeat (first | exact Sub.nil' | refine Sub.cons' rfl ?_ )) (by (try dsimp only); repeat (first | exact SubM.nil' | refine SubM.cons' rfl ?_ )) ?_ ?_
      · try dsimp only
        have q5 := sumL_len h5
        refine ⟨by omega, by omega, by simp, ?_⟩
        subst hm'
        simp only [List.take_length]
        rw [hys, take_at hi0 (by omega), List.map_append, sumL_at (by omega) (by omega)]
        rfl
      · (show Int.toNat _ < Int.toNat _); omega
    try simp only [HS] at h6
    refine W_exit ?_
    refine thenQ_e ?_
    refine loopQ_e ?_
    refine inBlk_y ?_
    refine thenQ_n ?_
    refine W_region ?_
    refine ev ?_
    refine ev ?_
    refine WO_le (Le.gather (u := 64) (id := 9) rfl rfl (by omega)) ?_
    refine WO_norm rfl ?_
    refine WO_buildSlice tys [.list 1 (ys.take m')] rfl rfl (lt_of rfl) rfl rfl rfl rfl rfl (lt_of rfl) (by repeat (first | exact PartsOk.nil' | refine PartsOk.cons' rfl (by repeat (first | exact AbsL.nil' | refine AbsL.v' ?_ | refine AbsL.own' ?_)) rfl ?_)) (by first | exact List.nodup_nil | exact nodup1 _ | decide) rfl (by decide) ?_
    refine WO_norm rfl ?_
    first | refine WO_append tys rfl rfl (lt_of rfl) rfl rfl rfl rfl rfl (.own rfl (by omega)) rfl (.own rfl (by first | decide | omega)) (by decide) (by have q1 := congrArg List.length hxs; have q2 := joined_len hlen; have q3 := ca.1; simp only [List.length_map, List.length_take] at q1; simp only [List.length_take, List.length_cons, List.length_nil]; omega) (by decide) rfl ?_ | refine WO_append tys rfl rfl (lt_of rfl) rfl rfl rfl rfl rfl .nil rfl (.own rfl (by first | decide | omega)) (by decide) (by have q1 := congrArg List.length hxs; have q2 := joined_len hlen; have q3 := ca.1; simp only [List.length_map, List.length_take] at q1; simp only [List.length_take, List.length_cons, List.length_nil]; omega) (by decide) rfl ?_
    refine WO_norm rfl ?_
    refine ev ?_
    refine WO_nil ?_
    refine inBlk_n ?_
    refine thenQ_n ?_
    refine W_region ?_
    refine evI ?_
    refine ev ?_
    refine WO_nil ?_
    refine loopQ_n (_, _, _) (by (try dsimp only); repeat (first | exact Sub.nil' | refine Sub.cons' rfl ?_ )) (by (try dsimp only); repeat (first | exact SubM.nil' | refine SubM.cons' rfl ?_ )) ?_ ?_
    · try dsimp only
      have q2 := joined_len hlen; have q5 := sumL_len h5
      refine ⟨by omega, by omega, by simp, ?_, ca, cb, hlen, by rw [he, eqGo_at hk0 h4 hlen]; simp [lenEq, h5]⟩
      subst hm hm'
      simp only [List.take_length]
      rw [hxs, take_at hk0 (by omega), List.map_append, joined_at (by omega) (by omega), hys, take_end (l := sumL (a[k.toNat]'(by omega)) (b[k.toNat]'(by omega))) (k := i) (by omega)]
      rfl
    · (show Int.toNat _ < Int.toNat _); omega
  try simp only [HS] at h4
  refine W_exit ?_
  refine thenQ_e ?_
  refine loopQ_e ?_
  refine inBlk_y ?_
  refine thenQ_n ?_
  refine W_seq ?_
  refine W_region ?_
  refine ev ?_
  refine ev ?_
  refine ev ?_
  refine WO_nil ?_
  refine thenQ_n ?_
  first | refine W_le (Le.gather (u := 4) (id := 6) rfl rfl (by omega)) ?_ | refine W_le (Le.nilOwn (u := 4) 1 rfl) ?_
  refine W_ret ?_
  refine Ends_of (.inr rfl) (ret_okF rfl) (by decide) rfl ?_
  · first
    | (refine retOB (a := []) (b := false) ?_ ?_ <;> first | (simp [joinR, joinOk, h1]; done) | (simp [joinR, joinOk, h1, h2]; done) | (simp [joinR, joinOk, h1, h2, eqL_len h3]; done) | (simp [joinR, joinOk, h1, h2, eqL_eq hlen, he, eqGo_at hk0 h4 hlen, lenEq, h5]; done))
    | (have q2 := joined_len hlen
       have e0 : eqL lenEq a b = true := (by rw [eqL_eq hlen, he, drop_end h4]; rfl)
       have e : joinOk a b = true := (by simp [joinOk, h1, h2, e0])
       rw [hm, List.take_length, hxs, List.take_of_length_le (by omega), joinR, if_pos e, e])


theorem clone_fun (l : List Int) (hl : l.length ≤ 1073741824) : Fun Try.prog 38 [.t (T.ints l)] (tupD [.own (T.ints l)]) := by
  refine Fun.begin tys Try.func38 rfl rfl (N := 8) [(0, .t (T.ints l))] rfl rfl (fun w0 G F0 => ?_)
  refine W_seq ?_
  refine W_region ?_
  refine ev ?_
  refine WO_nil ?_
  refine thenQ_n ?_
  refine W_seq ?_
  refine W_seq ?_
  refine W_region ?_
  refine ev ?_
  refine WO_nilEq (e := 3) rfl rfl (lt_of rfl) rfl (by kernel_rfl) rfl rfl (fun b hb => ?_)
  refine WO_nil ?_
  refine thenQ_n ?_
  refine W_cond rfl (fun h1 => ?_) (fun h1 => ?_)
  ·
    try simp only [HS] at h1
    refine W_seq ?_
    refine W_region ?_
    refine ev ?_
    refine WO_nil ?_
    refine thenQ_n ?_
    first | refine W_le (Le.gather (u := 2) (id := 5) rfl rfl (by simp)) ?_ | refine W_le (Le.nilOwn (u := 2) 1 rfl) ?_
    refine W_ret ?_
    refine thenQ_r ?_
    refine Ends_of (.inr rfl) (ret_okF rfl) (by decide) rfl ?_
    · first | (have e := List.map_eq_nil_iff.1 (hb h1); rw [e]; rfl) | (show [D.own (.list 1 _)] = [D.own (.list 1 _)]; simp; done) | (show [D.own (.list 1 _)] = [D.own (.list 1 _)]; simp only [List.take_length, List.nil_append, List.length_map]; rw [List.take_of_length_le (by simp)])
  try simp only [HS] at h1
  refine W_skip ?_
  refine thenQ_n ?_
  refine W_seq ?_
  refine W_region ?_
  refine WO_buildSlice tys [] rfl rfl (lt_of rfl) rfl rfl rfl rfl rfl (by decide) (by repeat (first | exact PartsOk.nil' | refine PartsOk.cons' rfl (by repeat (first | exact AbsL.nil' | refine AbsL.v' ?_ | refine AbsL.own' ?_)) rfl ?_)) (by first | exact List.nodup_nil | exact nodup1 _ | decide) rfl (by decide) ?_
  refine WO_norm rfl ?_
  refine ev ?_
  first | refine WO_append tys rfl rfl (lt_of rfl) rfl rfl rfl rfl rfl (.own rfl (by omega)) rfl (.read (read_ints _)) (by decide) (by simp; omega) (by decide) rfl ?_ | refine WO_append tys rfl rfl (lt_of rfl) rfl rfl rfl rfl rfl .nil rfl (.read (read_ints _)) (by decide) (by simp; omega) (by decide) rfl ?_
  refine WO_norm rfl ?_
  refine ev ?_
  refine WO_nil ?_
  refine thenQ_n ?_
  first | refine W_le (Le.gather (u := 2) (id := 5) rfl rfl (by simp)) ?_ | refine W_le (Le.nilOwn (u := 2) 1 rfl) ?_
  refine W_ret ?_
  refine Ends_of (.inr rfl) (ret_okF rfl) (by decide) rfl ?_
  · first | (have e := List.map_eq_nil_iff.1 (hb h1); rw [e]; rfl) | (show [D.own (.list 1 _)] = [D.own (.list 1 _)]; simp; done) | (show [D.own (.list 1 _)] = [D.own (.list 1 _)]; simp only [List.take_length, List.nil_append, List.length_map]; rw [List.take_of_length_le (by simp)])

theorem join1_fun (x y : List Int) : Fun Try.prog 37 [.t (T.ints x), .t (T.ints y)] (tupD [.t (.bool (lenEq x y))]) := by
  refine Fun.begin tys Try.func37 rfl rfl (N := 10) [(0, .t (T.ints x)), (1, .t (T.ints y))] rfl rfl (fun w0 G F0 => ?_)
  refine W_seq ?_
  refine W_region ?_
  refine ev ?_
  refine WO_nil ?_
  refine thenQ_n ?_
  refine W_seq ?_
  refine W_region ?_
  refine ev ?_
  refine evE ?_
  refine ev ?_
  refine evE ?_
  refine ev ?_
  refine ev ?_
  refine WO_nil ?_
  refine thenQ_n ?_
  refine W_ret ?_
  refine Ends_of (.inr rfl) (ret_okF rfl) (by decide) rfl ?_
  · rfl

theorem eqFuncSS_fun (a b : List (List Int)) (p : List Int → List Int → Bool) (f : Nat) (caps : List D) (hcaps : caps.all D.imm = true) (ha : a.length ≤ 1073741824) (hb : b.length ≤ 1073741824) (hf : ∀ x y, Fun Try.prog f (.t (T.ints x) :: .t (T.ints y) :: caps) (.t (.bool (p x y)))) : Fun Try.prog 36 [.t (intss a), .t (intss b), .clo f caps] (tupD [.t (.bool (eqL p a b))]) := by
  refine Fun.begin tys Try.func36 rfl rfl (N := 32) [(0, .t (intss a)), (1, .t (intss b)), (2, .clo f caps)] rfl rfl (fun w0 G F0 => ?_)
  refine W_seq ?_
  refine W_region ?_
  refine ev ?_
  refine WO_nil ?_
  refine thenQ_n ?_
  refine W_seq ?_
  refine W_seq ?_
  refine W_region ?_
  refine ev ?_
  refine evE ?_
  refine ev ?_
  refine evE ?_
  refine ev ?_
  refine WO_nil ?_
  refine thenQ_n ?_
  refine W_cond rfl (fun h1 => ?_) (fun h1 => ?_)
  ·
    try simp only [HS] at h1
    refine W_seq ?_
    refine W_region ?_
    refine ev ?_
    refine WO_nil ?_
    refine thenQ_n ?_
    refine W_ret ?_
    refine thenQ_r ?_
    refine Ends_of (.inr rfl) (ret_okF rfl) (by decide) rfl ?_
    · first | (rw [eqL_len h1]; done) | (rw [eqL_eq hlen, hk2, eqGo_at hk0 h2 hlen]; simp [h3]; done) | (rw [eqL_eq hlen, hk2, drop_end h2]; rfl)
  try simp only [HS] at h1
  refine W_skip ?_
  refine thenQ_n ?_
  refine W_seq ?_
  refine W_seq ?_
  refine W_region ?_
  refine ev ?_
  refine evE ?_
  refine ev ?_
  refine WO_keep [1, 2, 6, 15, 16, 17] rfl ?_
  refine WO_nil ?_
  refine thenQ_n ?_
  refine W_block ?_
  refine W_loopK (α := Int) [0, 1, 2, 15, 16] [] (fun (x : Int) => [(17, .t (.int x))]) (fun (x : Int) => []) (fun (x : Int) => 0 ≤ x ∧ x ≤ a.length ∧ (a.length : Int) = b.length ∧ eqGo p a b = eqGo p (a.drop x.toNat) (b.drop x.toNat)) (fun (x : Int) => Int.toNat (a.length - x)) 0 ?_ ?_ ?_ (fun k hx => ?_)
  · repeat (first | exact Sub.nil' | refine Sub.cons' rfl ?_ )
  · repeat (first | exact SubM.nil' | refine SubM.cons' rfl ?_ )
  · exact ⟨by omega, by omega, by assumption, rfl⟩
  obtain ⟨hk0, hk1, hlen, hk2⟩ := hx
  refine W_norm rfl ?_
  refine W_seq ?_
  refine W_region ?_
  refine ev ?_
  refine WO_nil ?_
  refine thenQ_n ?_
  refine W_seq ?_
  refine W_cond rfl (fun h2 => ?_) (fun h2 => ?_)
  ·
    try simp only [HS] at h2
    refine W_skip ?_
    refine thenQ_n ?_
    refine W_seq ?_
    refine W_block ?_
    refine W_seq ?_
    refine W_region ?_
    refine ev ?_
    first | refine WO_idxT tys rfl rfl (lt_of rfl) rfl rfl rfl rfl rfl rfl rfl (by omega) _ (getT _ _ (by omega) (by omega)) ?_ | refine WO_idxS tys rfl rfl (lt_of rfl) rfl rfl rfl rfl rfl rfl rfl rfl (by omega) (by omega) ?_
    first | refine ev ?_ | refine WO_loadL tys rfl rfl (lt_of rfl) rfl rfl rfl rfl (getT _ _ (by omega) (by omega)) rfl ?_ | refine WO_loadL tys rfl rfl (lt_of rfl) rfl rfl rfl rfl (getT0 _ _ (by omega) (by omega)) rfl ?_
    refine ev ?_
    refine ev ?_
    refine WO_nil ?_
    refine thenQ_n ?_
    refine W_seq ?_
    refine W_region ?_
    refine ev ?_
    refine ev ?_
    first | refine WO_idxT tys rfl rfl (lt_of rfl) rfl rfl rfl rfl rfl rfl rfl (by omega) _ (getT _ _ (by omega) (by omega)) ?_ | refine WO_idxS tys rfl rfl (lt_of rfl) rfl rfl rfl rfl rfl rfl rfl rfl (by omega) (by omega) ?_
    refine WO_keep [0, 1, 2, 7, 8, 15, 16, 17, 18, 19, 20, 21, 22, 23, 24] rfl ?_
    first | refine ev ?_ | refine WO_loadL tys rfl rfl (lt_of rfl) rfl rfl rfl rfl (getT _ _ (by omega) (by omega)) rfl ?_ | refine WO_loadL tys rfl rfl (lt_of rfl) rfl rfl rfl rfl (getT0 _ _ (by omega) (by omega)) rfl ?_
    refine ev ?_
    refine WO_nil ?_
    refine thenQ_n ?_
    refine W_seq ?_
    refine W_region ?_
    refine WO_moveClo tys rfl rfl (lt_of rfl) rfl rfl (by assumption) ?_
    refine ev ?_
    refine ev ?_
    refine WO_call rfl rfl (lt_of rfl) rfl rfl (by repeat (first | exact ResL.done | exact ResL.imms (by first | rfl | assumption) | refine ResL.t ?_ | refine ResL.own ?_ | refine ResL.slA rfl (by first | rfl | (simp; done) | (simp; omega)) ?_ | refine ResL.sl rfl (by first | omega | (simp; done) | (simp; omega)) ?_ | refine ResL.rp ?_ | refine ResL.clo ?_ ?_ | refine ResL.aggT ?_ ?_ | refine ResL.ref rfl ?_ ?_ | refine ResL.nil' ?_ | refine ResL.nil 1 ?_)) (hf _ _) rfl ?_
    refine ev ?_
    refine WO_nil ?_
    refine thenQ_n ?_
    refine W_cond rfl (fun h3 => ?_) (fun h3 => ?_)
    ·
      try simp only [HS] at h3
      refine W_seq ?_
      refine W_keep [0, 1, 2, 7, 8, 9, 15, 16, 17, 18, 19, 20, 21, 22, 23, 24, 25, 26, 27, 28, 29, 30] rfl ?_
      refine W_region ?_
      refine ev ?_
      refine WO_nil ?_
      refine thenQ_n ?_
      refine W_ret ?_
      refine inBlk_r ?_
      refine thenQ_r ?_
      refine loopQ_r ?_
      refine inBlk_r ?_
      refine thenQ_r ?_
      refine Ends_of (.inr rfl) (ret_okF rfl) (by decide) rfl ?_
      · first | (rw [eqL_len h1]; done) | (rw [eqL_eq hlen, hk2, eqGo_at hk0 h2 hlen]; simp [h3]; done) | (rw [eqL_eq hlen, hk2, drop_end h2]; rfl)
    try simp only [HS] at h3
    refine W_skip ?_
    refine inBlk_n ?_
    refine thenQ_n ?_
    refine W_keep [0, 1, 2, 7, 8, 9, 15, 16, 17, 18, 19, 20, 21, 22, 23, 24, 25, 26, 27, 28, 29, 30] rfl ?_
    refine W_region ?_
    refine evI ?_
    refine ev ?_
    refine WO_nil ?_
    refine loopQ_n _ (by (try dsimp only); repeat (first | exact Sub.nil' | refine Sub.cons' rfl ?_ )) (by (try dsimp only); repeat (first | exact SubM.nil' | refine SubM.cons' rfl ?_ )) ?_ ?_
    · try dsimp only
      refine ⟨by omega, by omega, hlen, ?_⟩; rw [hk2, eqGo_at hk0 h2 hlen]; simp [h3]
    · (show Int.toNat _ < Int.toNat _); omega
  try simp only [HS] at h2
  refine W_exit ?_
  refine thenQ_e ?_
  refine loopQ_e ?_
  refine inBlk_y ?_
  refine thenQ_n ?_
  refine W_seq ?_
  refine W_region ?_
  refine ev ?_
  refine WO_nil ?_
  refine thenQ_n ?_
  refine W_ret ?_
  refine Ends_of (.inr rfl) (ret_okF rfl) (by decide) rfl ?_
  · first | (rw [eqL_len h1]; done) | (rw [eqL_eq hlen, hk2, eqGo_at hk0 h2 hlen]; simp [h3]; done) | (rw [eqL_eq hlen, hk2, drop_end h2]; rfl)

theorem implJoin_fun (a b : List (List Int)) (ha : okL 1048576 (okN 1048576) a) (hb : okL 1048576 (okN 1048576) b) : Fun Try.prog 17 [.t (intss a), .t (intss b)] (tupD [.own (intss (joinR a b)), .t (.bool (joinOk a b))]) := by
  have ha1 : a.length ≤ 1048576 := ha.1
  have hb1 : b.length ≤ 1048576 := hb.1
  refine Fun.begin tys Try.func17 rfl rfl (N := 62) [(0, .t (intss a)), (1, .t (intss b))] rfl rfl (fun w0 G F0 => ?_)
  refine W_seq ?_
  refine W_region ?_
  refine ev ?_
  refine ev ?_
  refine WO_nil ?_
  refine thenQ_n ?_
  refine W_seq ?_
  refine W_seq ?_
  refine W_region ?_
  refine ev ?_
  refine callB ?_
  refine ⟨_, areCounts_fun a ha.1 ha.2, rfl, ?_⟩
  refine ev ?_
  refine ev ?_
  refine WO_guard rfl rfl rfl rfl (lt_of rfl) (fun h1 => ?_) (fun h1 => ?_)
  rotate_left
  ·
    try simp only [HS] at h1
    refine WO_guardN rfl rfl rfl rfl rfl (lt_of rfl) ?_
    refine WO_guardN rfl rfl rfl rfl rfl (lt_of rfl) ?_
    refine ev ?_
    refine WO_keep [0, 1, 4, 5, 19] rfl ?_
    refine ev ?_
    refine WO_guardN rfl rfl rfl rfl rfl (lt_of rfl) ?_
    refine WO_guardN rfl rfl rfl rfl rfl (lt_of rfl) ?_
    refine WO_guardN rfl rfl rfl rfl rfl (lt_of rfl) ?_
    refine WO_guardN rfl rfl rfl rfl rfl (lt_of rfl) ?_
    refine ev ?_
    refine WO_nil ?_
    refine thenQ_n ?_
    refine W_condT rfl ?_
    refine W_seq ?_
    refine W_region ?_
    refine ev ?_
    refine ev ?_
    refine WO_nil ?_
    refine thenQ_n ?_
    first | refine W_le (Le.gather (u := 4) (id := 6) rfl rfl (by omega)) ?_ | refine W_le (Le.nilOwn (u := 4) 1 rfl) ?_
    refine W_ret ?_
    refine thenQ_r ?_
    refine Ends_of (.inr rfl) (ret_okF rfl) (by decide) rfl ?_
    · first
      | (refine retOB (a := []) (b := false) ?_ ?_ <;> first | (simp [joinR, joinOk, h1]; done) | (simp [joinR, joinOk, h1, h2]; done) | (simp [joinR, joinOk, h1, h2, h3]; done))
      | (have q2 := joined_len hlen
         have e : joinOk a b = true := (by simp [joinOk, h1, h2, h3])
         rw [hm, List.take_length, hxs, List.take_of_length_le (by omega), joinR, if_pos e, e])
  try simp only [HS] at h1
  refine ev ?_
  refine WO_guardY rfl rfl rfl rfl (lt_of rfl) ?_
  refine callB ?_
  refine ⟨_, areCounts_fun b hb.1 hb.2, rfl, ?_⟩
  refine WO_guardY rfl rfl rfl rfl (lt_of rfl) ?_
  refine ev ?_
  refine WO_keep [0, 1, 4, 5, 15, 18] rfl ?_
  refine ev ?_
  refine ev ?_
  refine WO_guard rfl rfl rfl rfl (lt_of rfl) (fun h2 => ?_) (fun h2 => ?_)
  rotate_left
  ·
    try simp only [HS] at h2
    refine WO_guardN rfl rfl rfl rfl rfl (lt_of rfl) ?_
    refine WO_guardN rfl rfl rfl rfl rfl (lt_of rfl) ?_
    refine WO_guardN rfl rfl rfl rfl rfl (lt_of rfl) ?_
    refine ev ?_
    refine WO_nil ?_
    refine thenQ_n ?_
    refine W_condT rfl ?_
    refine W_seq ?_
    refine W_region ?_
    refine ev ?_
    refine ev ?_
    refine WO_nil ?_
    refine thenQ_n ?_
    first | refine W_le (Le.gather (u := 4) (id := 6) rfl rfl (by omega)) ?_ | refine W_le (Le.nilOwn (u := 4) 1 rfl) ?_
    refine W_ret ?_
    refine thenQ_r ?_
    refine Ends_of (.inr rfl) (ret_okF rfl) (by decide) rfl ?_
    · first
      | (refine retOB (a := []) (b := false) ?_ ?_ <;> first | (simp [joinR, joinOk, h1]; done) | (simp [joinR, joinOk, h1, h2]; done) | (simp [joinR, joinOk, h1, h2, h3]; done))
      | (have q2 := joined_len hlen
         have e : joinOk a b = true := (by simp [joinOk, h1, h2, h3])
         rw [hm, List.take_length, hxs, List.take_of_length_le (by omega), joinR, if_pos e, e])
  try simp only [HS] at h2
  refine ev ?_
  refine WO_guardY rfl rfl rfl rfl (lt_of rfl) ?_
  refine ev ?_
  refine WO_guardY rfl rfl rfl rfl (lt_of rfl) ?_
  refine callB ?_
  refine ⟨_, eqFuncSS_fun a b lenEq _ [] rfl (by omega) (by omega) join1_fun, rfl, ?_⟩
  refine WO_guardY rfl rfl rfl rfl (lt_of rfl) ?_
  refine ev ?_
  refine ev ?_
  refine WO_nil ?_
  refine thenQ_n ?_
  refine W_cond rfl (fun h3 => ?_) (fun h3 => ?_)
  ·
    try simp only [HS] at h3
    refine W_seq ?_
    refine W_keep [0, 1, 4, 5] rfl ?_
    refine W_region ?_
    refine ev ?_
    refine ev ?_
    refine WO_nil ?_
    refine thenQ_n ?_
    first | refine W_le (Le.gather (u := 4) (id := 6) rfl rfl (by omega)) ?_ | refine W_le (Le.nilOwn (u := 4) 1 rfl) ?_
    refine W_ret ?_
    refine thenQ_r ?_
    refine Ends_of (.inr rfl) (ret_okF rfl) (by decide) rfl ?_
    · first
      | (refine retOB (a := []) (b := false) ?_ ?_ <;> first | (simp [joinR, joinOk, h1]; done) | (simp [joinR, joinOk, h1, h2]; done) | (simp [joinR, joinOk, h1, h2, h3]; done))
      | (have q2 := joined_len hlen
         have e : joinOk a b = true := (by simp [joinOk, h1, h2, h3])
         rw [hm, List.take_length, hxs, List.take_of_length_le (by omega), joinR, if_pos e, e])
  try simp only [HS] at h3
  refine W_skip ?_
  refine thenQ_n ?_
  refine W_seq ?_
  refine W_keep [0, 1, 4, 5] rfl ?_
  refine W_region ?_
  refine ev ?_
  refine WO_le (Le.nilOwn (u := 6) 1 rfl) ?_
  refine WO_le (Le.adoptE (u := 6) 6 rfl rfl) ?_
  refine WO_norm rfl ?_
  refine WO_nil ?_
  refine thenQ_n ?_
  refine W_seq ?_
  refine W_seq ?_
  refine W_region ?_
  refine ev ?_
  refine evE ?_
  refine ev ?_
  refine WO_nil ?_
  refine thenQ_n ?_
  refine W_block ?_
  refine W_loopK (α := Int × Nat × List T) [0, 1, 26, 27] [] (fun (x : Int × Nat × List T) => [(28, .t (.int (x.1))), (6, .sl 6 0 (x.2.1))]) (fun (x : Int × Nat × List T) => [(6, .L 1 (x.2.2))]) (fun (x : Int × Nat × List T) => 0 ≤ (x.1) ∧ (x.1) ≤ a.length ∧ (x.2.1) = (x.2.2).length ∧ (x.2.2) = ((joined a b).take (x.1).toNat).map T.ints ∧ CntOk a ∧ CntOk b ∧ (a.length : Int) = b.length ∧ ∀ j (hj : j < a.length) (hj' : j < b.length), (a[j].length : Int) = b[j].length) (fun (x : Int × Nat × List T) => Int.toNat (a.length - (x.1))) (0, 0, []) ?_ ?_ ?_ (fun x hx => ?_)
  · repeat (first | exact Sub.nil' | refine Sub.cons' rfl ?_ )
  · repeat (first | exact SubM.nil' | refine SubM.cons' rfl ?_ )
  · exact ⟨by omega, by omega, rfl, rfl, cnt_mem (by assumption), cnt_mem (by assumption), (eqL_lens h3).1, (eqL_lens h3).2⟩
  obtain ⟨k, m, xs⟩ := x
  obtain ⟨hk0, hk1, hm, hxs, ca, cb, hlen, he⟩ := hx
  try dsimp only at hk0 hk1 hm hxs hlen he ⊢
  refine W_norm rfl ?_
  refine W_seq ?_
  refine W_region ?_
  refine ev ?_
  refine WO_nil ?_
  refine thenQ_n ?_
  refine W_seq ?_
  refine W_cond rfl (fun h4 => ?_) (fun h4 => ?_)
  ·
    try simp only [HS] at h4
    refine W_skip ?_
    refine thenQ_n ?_
    refine W_seq ?_
    refine W_block ?_
    refine W_seq ?_
    refine W_region ?_
    refine ev ?_
    first | refine WO_idxT tys rfl rfl (lt_of rfl) rfl rfl rfl rfl rfl rfl rfl (by omega) _ (getT _ _ (by omega) (by omega)) ?_ | refine WO_idxS tys rfl rfl (lt_of rfl) rfl rfl rfl rfl rfl rfl rfl rfl (by omega) (by omega) ?_
    first | refine ev ?_ | refine WO_loadL tys rfl rfl (lt_of rfl) rfl rfl rfl rfl ((by have q := cell1 (g := T.int) (l := a[k.toNat]'(by omega)) hd hi0 (by omega); rw [Nat.mul_one] at q; rw [hys, Nat.zero_add]; exact q)) rfl ?_
    refine ev ?_
    refine ev ?_
    refine WO_nil ?_
    refine thenQ_n ?_
    refine W_seq ?_
    refine W_region ?_
    refine ev ?_
    refine callB ?_
    refine ⟨_, clone_fun _ (by have := (ca.2 _ (List.getElem_mem (l := a) (n := k.toNat) (by omega))).1; omega), rfl, ?_⟩
    refine WO_le (Le.adoptE (u := 34) 34 rfl (by first | exact lenN | exact rfl)) ?_
    refine WO_norm rfl ?_
    refine ev ?_
    refine WO_keep [0, 1, 6, 7, 8, 9, 26, 27, 28, 29, 30, 31, 32, 33, 34] rfl ?_
    refine WO_nil ?_
    refine thenQ_n ?_
    refine W_seq ?_
    refine W_seq ?_
    refine W_region ?_
    refine ev ?_
    refine ev ?_
    first | refine WO_idxT tys rfl rfl (lt_of rfl) rfl rfl rfl rfl rfl rfl rfl (by omega) _ (getT _ _ (by omega) (by omega)) ?_ | refine WO_idxS tys rfl rfl (lt_of rfl) rfl rfl rfl rfl rfl rfl rfl rfl (by omega) (by omega) ?_
    first | refine ev ?_ | refine WO_loadL tys rfl rfl (lt_of rfl) rfl rfl rfl rfl ((by have q := cell1 (g := T.int) (l := a[k.toNat]'(by omega)) hd hi0 (by omega); rw [Nat.mul_one] at q; rw [hys, Nat.zero_add]; exact q)) rfl ?_
    refine evE ?_
    refine ev ?_
    refine WO_nil ?_
    refine thenQ_n ?_
    refine W_block ?_
    refine W_loopK (α := Int × List T) [0, 1, 6, 7, 8, 9, 26, 27, 28, 38, 39] [6] (fun (x : Int × List T) => [(40, .t (.int (x.1)))]) (fun (x : Int × List T) => [(34, .L 1 (x.2))]) (fun (x : Int × List T) => 0 ≤ (x.1) ∧ (x.1) ≤ (b[k.toNat]'(by omega)).length ∧ ((a[k.toNat]'(by omega)).length : Int) = (b[k.toNat]'(by omega)).length ∧ (x.2).length = (a[k.toNat]'(by omega)).length ∧ ∃ done : List Int, done.length = (x.1).toNat ∧ done = (sumL (a[k.toNat]'(by omega)) (b[k.toNat]'(by omega))).take (x.1).toNat ∧ (x.2) = (done ++ (a[k.toNat]'(by omega)).drop (x.1).toNat).map T.int) (fun (x : Int × List T) => Int.toNat ((b[k.toNat]'(by omega)).length - (x.1))) (0, (a[k.toNat]'(by omega)).map T.int) ?_ ?_ ?_ (fun x hx => ?_)
    · repeat (first | exact Sub.nil' | refine Sub.cons' rfl ?_ )
    · repeat (first | exact SubM.nil' | refine SubM.cons' rfl ?_ )
    · exact ⟨by omega, by omega, he _ _ _, by simp, [], rfl, rfl, rfl⟩
    obtain ⟨i, ys⟩ := x
    obtain ⟨hi0, hi1, hle, hyl, done, hd, hdd, hys⟩ := hx
    try dsimp only at hi0 hi1 hle hyl hd hdd hys ⊢
    refine W_norm rfl ?_
    refine W_seq ?_
    refine W_region ?_
    refine ev ?_
    refine WO_nil ?_
    refine thenQ_n ?_
    refine W_seq ?_
    refine W_cond rfl (fun h5 => ?_) (fun h5 => ?_)
    ·
      try simp only [HS] at h5
      refine W_skip ?_
      refine thenQ_n ?_
      refine W_seq ?_
      refine W_block ?_
      refine W_seq ?_
      refine W_region ?_
      refine ev ?_
      first | refine WO_idxT tys rfl rfl (lt_of rfl) rfl rfl rfl rfl rfl rfl rfl (by omega) _ (getT _ _ (by omega) (by omega)) ?_ | refine WO_idxS tys rfl rfl (lt_of rfl) rfl rfl rfl rfl rfl rfl rfl rfl (by omega) (by omega) ?_
      refine ev ?_
      refine ev ?_
      refine ev ?_
      refine WO_nil ?_
      refine thenQ_n ?_
      refine W_region ?_
      refine ev ?_
      refine ev ?_
      refine ev ?_
      refine WO_keep [0, 1, 6, 7, 8, 9, 10, 11, 26, 27, 28, 38, 39, 40, 41, 42, 43, 44, 45, 46, 47] rfl ?_
      refine ev ?_
      first | refine WO_idxT tys rfl rfl (lt_of rfl) rfl rfl rfl rfl rfl rfl rfl (by omega) _ (getT _ _ (by omega) (by omega)) ?_ | refine WO_idxS tys rfl rfl (lt_of rfl) rfl rfl rfl rfl rfl rfl rfl rfl (by omega) (by omega) ?_
      first | refine ev ?_ | refine WO_loadL tys rfl rfl (lt_of rfl) rfl rfl rfl rfl ((by have q := cell1 (g := T.int) (l := a[k.toNat]'(by omega)) hd hi0 (by omega); rw [Nat.mul_one] at q; rw [hys, Nat.zero_add]; exact q)) rfl ?_
      refine ev ?_
      have hx := (ca.2 _ (List.getElem_mem (l := a) (n := k.toNat) (by omega))).2 _ (List.getElem_mem (n := i.toNat) (by omega))
      have hy := (cb.2 _ (List.getElem_mem (l := b) (n := k.toNat) (by omega))).2 _ (List.getElem_mem (n := i.toNat) (by omega))
      refine evI ?_
      refine ev ?_
      first | refine WO_idxT tys rfl rfl (lt_of rfl) rfl rfl rfl rfl rfl rfl rfl (by omega) _ (getT _ _ (by omega) (by omega)) ?_ | refine WO_idxS tys rfl rfl (lt_of rfl) rfl rfl rfl rfl rfl rfl rfl rfl (by omega) (by omega) ?_
      first | refine WO_storeE tys (T.int (cap1 ((a[k.toNat]'(by omega))[i.toNat]'(by omega) + (b[k.toNat]'(by omega))[i.toNat]'(by omega)))) rfl rfl rfl rfl rfl rfl (by first | exact Nat.zero_add _ | rfl) (by omega) rfl (by repeat (first | exact AbsL.nil' | refine AbsL.v' ?_ | refine AbsL.own' ?_)) rfl rfl rfl ?_ | refine WO_storeL tys _ rfl rfl rfl rfl rfl rfl (getT _ _ (by omega) (by omega)) rfl (by repeat (first | exact AbsL.nil' | refine AbsL.v' ?_ | refine AbsL.own' ?_)) rfl (by decide) (by decide) ?_
      refine WO_norm rfl ?_
      refine WO_nil ?_
      refine inBlk_n ?_
      refine thenQ_n ?_
      refine W_keep [0, 1, 6, 7, 8, 9, 10, 11, 26, 27, 28, 38, 39, 40, 41, 42, 43, 44, 45, 46, 47, 48, 49, 50, 51, 52, 53, 54] rfl ?_
      refine W_region ?_
      have q := (ca.2 _ (List.getElem_mem (l := a) (n := k.toNat) (by omega))).1
      refine evI ?_
      refine ev ?_
      refine WO_nil ?_
      refine loopQ_n (_, _) (by (try dsimp only); repeat (first | exact Sub.nil' | refine Sub.cons' rfl ?_ )) (by (try dsimp only); repeat (first | exact SubM.nil' | refine SubM.cons' rfl ?_ )) ?_ ?_
      · try dsimp only
        have q5 := sumL_len hle
        have q := set1 (g := T.int) (l := a[k.toNat]'(by omega)) hd hi0 (by omega) (cap1 ((a[k.toNat]'(by omega))[i.toNat]'(by omega) + (b[k.toNat]'(by omega))[i.toNat]'(by omega)))
        rw [Nat.mul_one] at q
        refine ⟨by omega, by omega, hle, by simpa using hyl, done ++ [cap1 ((a[k.toNat]'(by omega))[i.toNat]'(by omega) + (b[k.toNat]'(by omega))[i.toNat]'(by omega))], ?_, ?_, ?_⟩
        · rw [List.length_append, hd]; simp; omega
        · rw [hdd, take_at hi0 (by omega), sumL_at (by omega) (by omega)]
        · rw [← hys] at q; exact q
      · (show Int.toNat _ < Int.toNat _); omega
    try simp only [HS] at h5
    refine W_exit ?_
    refine thenQ_e ?_
    refine loopQ_e ?_
    refine inBlk_y ?_
    refine thenQ_n ?_
    refine W_region ?_
    refine ev ?_
    refine ev ?_
    refine WO_le (Le.gather (u := 57) (id := 34) rfl rfl (by omega)) ?_
    refine WO_norm rfl ?_
    refine WO_buildSlice tys [.list 1 (ys.take (a[k.toNat]'(by omega)).length)] rfl rfl (lt_of rfl) rfl rfl rfl rfl rfl (lt_of rfl) (by repeat (first | exact PartsOk.nil' | refine PartsOk.cons' rfl (by repeat (first | exact AbsL.nil' | refine AbsL.v' ?_ | refine AbsL.own' ?_)) rfl ?_)) (by first | exact List.nodup_nil | exact nodup1 _ | decide) rfl (by decide) ?_
    refine WO_norm rfl ?_
    first | refine WO_append tys rfl rfl (lt_of rfl) rfl rfl rfl rfl rfl (.own rfl (by omega)) rfl (.own rfl (by first | decide | omega)) (by decide) (by have q1 := congrArg List.length hxs; have q2 := joined_len hlen; have q3 := ca.1; simp only [List.length_map, List.length_take] at q1; simp only [List.length_take, List.length_cons, List.length_nil]; omega) (by decide) rfl ?_ | refine WO_append tys rfl rfl (lt_of rfl) rfl rfl rfl rfl rfl .nil rfl (.own rfl (by first | decide | omega)) (by decide) (by have q1 := congrArg List.length hxs; have q2 := joined_len hlen; have q3 := ca.1; simp only [List.length_map, List.length_take] at q1; simp only [List.length_take, List.length_cons, List.length_nil]; omega) (by decide) rfl ?_
    refine WO_norm rfl ?_
    refine ev ?_
    refine WO_nil ?_
    refine inBlk_n ?_
    refine thenQ_n ?_
    refine W_region ?_
    refine evI ?_
    refine ev ?_
    refine WO_nil ?_
    refine loopQ_n (_, _, _) (by (try dsimp only); repeat (first | exact Sub.nil' | refine Sub.cons' rfl ?_ )) (by (try dsimp only); repeat (first | exact SubM.nil' | refine SubM.cons' rfl ?_ )) ?_ ?_
    · try dsimp only
      have q2 := joined_len hlen; have q5 := sumL_len hle
      refine ⟨by omega, by omega, by simp, ?_, ca, cb, hlen, he⟩
      subst hm
      simp only [List.take_length]
      rw [List.take_of_length_le (i := (a[k.toNat]'(by omega)).length) (l := ys) (by omega), hxs, take_at hk0 (by omega), List.map_append, joined_at (by omega) (by omega), hys, hdd, take_end (l := sumL (a[k.toNat]'(by omega)) (b[k.toNat]'(by omega))) (k := i) (by omega), drop_end (l := a[k.toNat]'(by omega)) (k := i) (by omega), List.append_nil]
      rfl
    · (show Int.toNat _ < Int.toNat _); omega
  try simp only [HS] at h4
  refine W_exit ?_
  refine thenQ_e ?_
  refine loopQ_e ?_
  refine inBlk_y ?_
  refine thenQ_n ?_
  refine W_seq ?_
  refine W_region ?_
  refine ev ?_
  refine ev ?_
  refine ev ?_
  refine WO_nil ?_
  refine thenQ_n ?_
  first | refine W_le (Le.gather (u := 4) (id := 6) rfl rfl (by omega)) ?_ | refine W_le (Le.nilOwn (u := 4) 1 rfl) ?_
  refine W_ret ?_
  refine Ends_of (.inr rfl) (ret_okF rfl) (by decide) rfl ?_
  · first
    | (refine retOB (a := []) (b := false) ?_ ?_ <;> first | (simp [joinR, joinOk, h1]; done) | (simp [joinR, joinOk, h1, h2]; done) | (simp [joinR, joinOk, h1, h2, h3]; done))
    | (have q2 := joined_len hlen
       have e : joinOk a b = true := (by simp [joinOk, h1, h2, h3])
       rw [hm, List.take_length, hxs, List.take_of_length_le (by omega), joinR, if_pos e, e])

theorem szGo_cnt : ∀ (l : List (List Int)) (left : Int), 0 ≤ left → 0 ≤ szGo (fun x => szN x.length) l left → l.flatten.length + szGo (fun x => szN x.length) l left ≤ left
  | [], left, _, _ => by simp [szGo]
  | x :: l, left, h0, h => by
    rw [szGo] at h ⊢
    split at h
    · omega
    · rename_i h1
      rw [if_neg h1]
      have h2 := szGo_cnt l _ (by omega) h
      have h3 : szN x.length left = left - x.length := by unfold szN at h1 ⊢; split <;> first | rfl | (rename_i h4; rw [if_pos h4] at h1; omega)
      rw [h3] at h2 ⊢
      rw [List.flatten_cons, List.length_append]
      omega
theorem szIntSS_cnt (l : List (List Int)) (left : Int) (h0 : 0 ≤ left) (h : 0 ≤ szIntSS l left) : l.flatten.length + szIntSS l left ≤ left := by
  unfold szIntSS szL at h ⊢
  split at h
  · omega
  · rename_i h1
    rw [if_neg h1]
    have := szGo_cnt l _ (by omega) h
    omega

theorem sumL_le (a b : List Int) : (sumL a b).length ≤ a.length := by unfold sumL; rw [List.length_zipWith]; omega
theorem joined_flat : ∀ a b : List (List Int), (joined a b).flatten.length ≤ a.flatten.length
  | [], _ => by simp [joined]
  | _ :: _, [] => by simp [joined]
  | x :: a, y :: b => by
    have h1 := joined_flat a b
    have h2 := sumL_le x y
    unfold joined at h1 ⊢
    rw [List.zipWith_cons_cons, List.flatten_cons, List.flatten_cons, List.length_append, List.length_append]
    omega
theorem joinR_flat (a b : List (List Int)) : (joinR a b).flatten.length ≤ a.flatten.length := by
  unfold joinR; split
  · exact joined_flat a b
  · simp
theorem joined_ok {B : Nat} : ∀ {a b : List (List Int)}, okL B (okN B) a → okL B (okN B) (joined a b) := by
  intro a b ⟨h1, h2⟩
  refine ⟨by unfold joined; rw [List.length_zipWith]; omega, ?_⟩
  clear h1
  induction a generalizing b with
  | nil => intro x hx; simp [joined] at hx
  | cons x a ih =>
    cases b with
    | nil => intro x hx; simp [joined] at hx
    | cons y b =>
      intro z hz
      unfold joined at hz ih
      rw [List.zipWith_cons_cons] at hz
      rcases List.mem_cons.1 hz with rfl | hz
      · have := h2 x (List.mem_cons_self ..); have := sumL_le x y; unfold okN at *; omega
      · exact ih (fun x hx => h2 x (List.mem_cons_of_mem _ hx)) z hz
theorem joinR_ok {B : Nat} {a b : List (List Int)} (h : okL B (okN B) a) : okL B (okN B) (joinR a b) := by
  unfold joinR; split
  · exact joined_ok h
  · exact ⟨Nat.zero_le _, fun x hx => by cases hx⟩
theorem eqSS_refl (a : List (List Int)) : eqL (eqL eqI) a a = true := eqL_refl (eqL_refl eqI_refl) a

theorem lawJoin_fun (a b : List (List Int)) (ha : okL 9223372036854775807 (okN 9223372036854775807) a) (hb : okL 9223372036854775807 (okN 9223372036854775807) b) : Fun Try.prog 5 [.t (intss a), .t (intss b)] (tupD [.t (.bool true)]) := by
  refine Fun.begin tys Try.func5 rfl rfl (N := 119) [(0, .t (intss a)), (1, .t (intss b))] rfl rfl (fun w0 G F0 => ?_)
  refine W_seq ?_
  refine W_region ?_
  refine ev ?_
  refine WO_nil ?_
  refine thenQ_n ?_
  refine W_seq ?_
  refine W_region ?_
  refine ev ?_
  refine WO_nil ?_
  refine thenQ_n ?_
  refine W_seq ?_
  refine W_region ?_
  refine ev ?_
  refine ev ?_
  refine callB ?_
  refine ⟨_, szIntSSo_fun a 1048576 ha (by omega) (by omega), rfl, ?_⟩
  refine ev ?_
  refine WO_nil ?_
  refine thenQ_n ?_
  refine W_seq ?_
  refine W_seq ?_
  refine W_region ?_
  refine ev ?_
  refine ev ?_
  refine WO_nil ?_
  refine thenQ_n ?_
  refine W_cond rfl (fun h1 => ?_) (fun h1 => ?_)
  ·
    try simp only [HS] at h1
    refine W_seq ?_
    refine W_keep [0, 1, 4, 5] rfl ?_
    refine W_region ?_
    refine ev ?_
    refine WO_nil ?_
    refine thenQ_n ?_
    refine W_ret ?_
    refine thenQ_r ?_
    refine Ends_of (.inr rfl) (ret_okF rfl) (by decide) rfl ?_
    · rfl
  try simp only [HS] at h1
  refine W_skip ?_
  refine thenQ_n ?_
  refine W_seq ?_
  refine W_keep [0, 1, 4, 5] rfl ?_
  refine W_region ?_
  refine ev ?_
  refine ev ?_
  refine callB ?_
  refine ⟨_, szIntSSo_fun b _ hb (by omega) (szIntSS_g a 1048576 (by omega) (by omega)).1, rfl, ?_⟩
  refine ev ?_
  refine WO_nil ?_
  refine thenQ_n ?_
  refine W_seq ?_
  refine W_seq ?_
  refine W_region ?_
  refine ev ?_
  refine ev ?_
  refine WO_nil ?_
  refine thenQ_n ?_
  refine W_cond rfl (fun h2 => ?_) (fun h2 => ?_)
  ·
    try simp only [HS] at h2
    refine W_seq ?_
    refine W_region ?_
    refine ev ?_
    refine WO_nil ?_
    refine thenQ_n ?_
    refine W_ret ?_
    refine thenQ_r ?_
    refine Ends_of (.inr rfl) (ret_okF rfl) (by decide) rfl ?_
    · rfl
  try simp only [HS] at h2
  refine W_skip ?_
  refine thenQ_n ?_
  refine W_seq ?_
  refine W_region ?_
  have oka := (szIntSS_g a 1048576 (by omega) (by omega)).2.2 h1
  have okb := (szIntSS_g b _ h1 (szIntSS_g a 1048576 (by omega) (by omega)).1).2.2 h2
  have ca := szIntSS_cnt a 1048576 (by omega) h1
  have cb := szIntSS_cnt b _ h1 h2
  have okr := joinR_ok (b := b) ha
  have okr' := joinR_ok (b := b) oka
  have fr := joinR_flat a b
  have la := oka.1
  have lb := okb.1
  have lr := okr'.1
  refine ev ?_
  refine callB ?_
  refine ⟨_, toIntSSo_fun a oka, rfl, ?_⟩
  refine WO_le (Le.freeze (u := 29) rfl) ?_
  refine WO_norm rfl ?_
  refine ev ?_
  refine WO_keep [0, 1, 4, 29, 30] rfl ?_
  refine callB ?_
  refine ⟨_, toIntSSo_fun b okb, rfl, ?_⟩
  refine WO_le (Le.freeze (u := 31) rfl) ?_
  refine WO_norm rfl ?_
  refine callB ?_
  refine ⟨_, specJoin_fun a b oka okb, rfl, ?_⟩
  refine WO_moveAll rfl rfl (lt_of rfl) (.inr rfl) rfl rfl ?_
  refine WO_norm rfl ?_
  refine WO_extract rfl rfl (lt_of rfl) rfl rfl rfl rfl ?_
  refine WO_le (Le.freeze (u := 33) rfl) ?_
  refine WO_norm rfl ?_
  first | refine WO_evF tys rfl rfl (lt_of rfl) (d := .t _) rfl ?_ | (refine WO_extract rfl rfl (lt_of rfl) rfl rfl rfl rfl ?_; first | refine WO_le (Le.adoptE (u := 34) 34 rfl (by first | exact lenN | exact rfl)) ?_ | skip)
  refine WO_norm rfl ?_
  refine ev ?_
  refine ev ?_
  refine WO_nil ?_
  refine thenQ_n ?_
  refine W_seq ?_
  refine W_keep [0, 1, 4, 6, 7] rfl ?_
  refine W_region ?_
  refine ev ?_
  refine callB ?_
  refine ⟨_, toIntSSo_fun a oka, rfl, ?_⟩
  refine WO_exposeS (u := 36) 36 rfl (fun v36 => ?_)
  refine ev ?_
  refine WO_nil ?_
  refine thenQ_n ?_
  refine W_seq ?_
  refine W_region ?_
  refine ev ?_
  refine callB ?_
  refine ⟨_, toIntSSo_fun b okb, rfl, ?_⟩
  refine WO_exposeS (u := 38) 38 rfl (fun v38 => ?_)
  refine ev ?_
  refine WO_nil ?_
  refine thenQ_n ?_
  refine W_seq ?_
  refine W_region ?_
  refine ev ?_
  refine ev ?_
  refine WO_call rfl rfl (lt_of rfl) rfl rfl (by refine ResL.raw (id := 36) (j := 0) rfl rfl rfl ?_; refine ResL.raw (id := 38) (j := 0) rfl rfl rfl ?_; exact ResL.done) (implJoin_fun a b oka okb) rfl ?_
  refine WO_keep [0, 1, 4, 6, 7, 8, 9, 42] rfl ?_
  refine WO_moveAll rfl rfl (lt_of rfl) (.inr rfl) rfl rfl ?_
  refine WO_norm rfl ?_
  refine WO_extract rfl rfl (lt_of rfl) rfl rfl rfl rfl ?_
  refine WO_exposeS (u := 43) 43 rfl (fun v43 => ?_)
  first | refine WO_evF tys rfl rfl (lt_of rfl) (d := .t _) rfl ?_ | (refine WO_extract rfl rfl (lt_of rfl) rfl rfl rfl rfl ?_; first | refine WO_le (Le.adoptE (u := 44) 44 rfl (by first | exact lenN | exact rfl)) ?_ | skip)
  refine WO_norm rfl ?_
  refine ev ?_
  refine ev ?_
  refine WO_nil ?_
  refine thenQ_n ?_
  refine W_seq ?_
  refine W_seq ?_
  refine W_region ?_
  refine ev ?_
  refine ev ?_
  refine WO_call rfl rfl (lt_of rfl) rfl rfl (by refine ResL.raw (id := 43) (j := 0) rfl rfl rfl ?_; (first | refine ResL.t ?_ | refine ResL.own ?_ | refine ResL.slA rfl (by first | rfl | (simp; done) | (simp; omega)) ?_ | refine ResL.nil' ?_); exact ResL.done) (eqIntSSo_fun (joinR a b) (joinR a b) okr okr) rfl ?_
  refine WO_le (Le.known (t := 47) true rfl (eqSS_refl _)) ?_
  refine ev ?_
  refine WO_keep [0, 1, 4, 6, 7, 8, 9, 10, 11, 48] rfl ?_
  refine ev ?_
  refine WO_guardY rfl rfl rfl rfl (lt_of rfl) ?_
  refine ev ?_
  refine WO_guardY rfl rfl rfl rfl (lt_of rfl) ?_
  refine ev ?_
  refine WO_guardY rfl rfl rfl rfl (lt_of rfl) ?_
  refine ev ?_
  refine WO_le (Le.known (t := 52) false rfl (by simp)) ?_
  refine ev ?_
  refine WO_nil ?_
  refine thenQ_n ?_
  refine W_condF rfl ?_
  refine W_skip ?_
  refine thenQ_n ?_
  refine W_seq ?_
  refine W_seq ?_
  refine W_region ?_
  refine ev ?_
  refine ev ?_
  refine callB ?_
  refine ⟨_, toIntSSo_fun a oka, rfl, ?_⟩
  refine WO_le (Le.freeze (u := 56) rfl) ?_
  refine WO_norm rfl ?_
  refine WO_call rfl rfl (lt_of rfl) rfl rfl (by refine ResL.raw (id := 36) (j := 0) rfl rfl rfl ?_; (first | refine ResL.t ?_ | refine ResL.own ?_ | refine ResL.slA rfl (by first | rfl | (simp; done) | (simp; omega)) ?_ | refine ResL.nil' ?_); exact ResL.done) (eqIntSSo_fun a a ha ha) rfl ?_
  refine WO_le (Le.known (t := 57) true rfl (eqSS_refl _)) ?_
  refine WO_keep [0, 1, 4, 6, 7, 8, 9, 10, 11, 57] rfl ?_
  refine ev ?_
  refine WO_nil ?_
  refine thenQ_n ?_
  refine W_condF rfl ?_
  refine W_skip ?_
  refine thenQ_n ?_
  refine W_seq ?_
  refine W_seq ?_
  refine W_region ?_
  refine ev ?_
  refine ev ?_
  refine callB ?_
  refine ⟨_, toIntSSo_fun b okb, rfl, ?_⟩
  refine WO_le (Le.freeze (u := 61) rfl) ?_
  refine WO_norm rfl ?_
  refine WO_call rfl rfl (lt_of rfl) rfl rfl (by refine ResL.raw (id := 38) (j := 0) rfl rfl rfl ?_; (first | refine ResL.t ?_ | refine ResL.own ?_ | refine ResL.slA rfl (by first | rfl | (simp; done) | (simp; omega)) ?_ | refine ResL.nil' ?_); exact ResL.done) (eqIntSSo_fun b b hb hb) rfl ?_
  refine WO_le (Le.known (t := 62) true rfl (eqSS_refl _)) ?_
  refine ev ?_
  refine WO_nil ?_
  refine thenQ_n ?_
  refine W_condF rfl ?_
  refine W_skip ?_
  refine thenQ_n ?_
  refine W_seq ?_
  refine W_region ?_
  refine ev ?_
  refine WO_nil ?_
  refine thenQ_n ?_
  refine W_seq ?_
  refine W_keep [0, 1, 4, 6, 7, 8, 9, 10, 11, 12] rfl ?_
  refine W_region ?_
  refine ev ?_
  refine ev ?_
  refine WO_markN (id := 36) (j := 0) rfl rfl (lt_of rfl) rfl rfl rfl rfl rfl rfl rfl rfl (markIntSS_m a 1 (by omega) (by omega) (by omega)) ?_
  refine WO_norm rfl ?_
  refine ev ?_
  refine WO_nil ?_
  refine thenQ_n ?_
  refine W_seq ?_
  refine W_region ?_
  refine ev ?_
  refine ev ?_
  refine WO_markN (id := 38) (j := 0) rfl rfl (lt_of rfl) rfl rfl rfl rfl rfl rfl rfl rfl (markIntSS_m b (1 + a.flatten.length) (by omega) (by omega) (by omega)) ?_
  refine WO_norm rfl ?_
  refine ev ?_
  refine WO_nil ?_
  refine thenQ_n ?_
  refine W_seq ?_
  refine W_seq ?_
  refine W_keep [0, 1, 4, 6, 7, 10, 11, 12] rfl ?_
  refine W_region ?_
  refine ev ?_
  refine ev ?_
  refine WO_le (Le.known (t := 71) false rfl (by simp; omega)) ?_
  refine ev ?_
  refine WO_guardY rfl rfl rfl rfl (lt_of rfl) ?_
  refine ev ?_
  refine WO_guardY rfl rfl rfl rfl (lt_of rfl) ?_
  refine ev ?_
  refine WO_guardY rfl rfl rfl rfl (lt_of rfl) ?_
  refine WO_call rfl rfl (lt_of rfl) rfl rfl (by refine ResL.raw (id := 43) (j := 0) rfl rfl rfl ?_; (first | refine ResL.t ?_ | refine ResL.own ?_ | refine ResL.slA rfl (by first | rfl | (simp; done) | (simp; omega)) ?_ | refine ResL.nil' ?_); exact ResL.done) (eqIntSSo_fun (joinR a b) (joinR a b) okr okr) rfl ?_
  refine WO_le (Le.known (t := 75) true rfl (eqSS_refl _)) ?_
  refine WO_guardY rfl rfl rfl rfl (lt_of rfl) ?_
  refine ev ?_
  refine ev ?_
  refine ev ?_
  refine WO_keep [0, 1, 4, 6, 7, 10, 11, 78] rfl ?_
  refine WO_guardY rfl rfl rfl rfl (lt_of rfl) ?_
  refine ev ?_
  refine WO_guardY rfl rfl rfl rfl (lt_of rfl) ?_
  refine ev ?_
  refine WO_guardY rfl rfl rfl rfl (lt_of rfl) ?_
  refine ev ?_
  refine WO_le (Le.known (t := 81) false rfl (by simp)) ?_
  refine ev ?_
  refine WO_nil ?_
  refine thenQ_n ?_
  refine W_condF rfl ?_
  refine W_skip ?_
  refine thenQ_n ?_
  refine W_seq ?_
  refine W_region ?_
  refine ev ?_
  refine WO_nil ?_
  refine thenQ_n ?_
  refine W_seq ?_
  refine W_region ?_
  refine ev ?_
  refine ev ?_
  refine WO_markN (id := 43) (j := 0) rfl rfl (lt_of rfl) rfl rfl rfl rfl rfl rfl rfl rfl (markIntSS_m (joinR a b) 1 (by omega) (by omega) (by omega)) ?_
  refine WO_norm rfl ?_
  refine ev ?_
  refine WO_keep [0, 1, 4, 6, 7, 10, 13] rfl ?_
  refine WO_nil ?_
  refine thenQ_n ?_
  refine W_seq ?_
  refine W_region ?_
  refine ev ?_
  refine WO_nil ?_
  refine thenQ_n ?_
  refine W_seq ?_
  refine W_region ?_
  refine ev ?_
  refine ev ?_
  refine WO_call rfl rfl (lt_of rfl) rfl rfl (by refine ResL.raw (id := 43) (j := 0) rfl rfl rfl ?_; (first | refine ResL.t ?_ | refine ResL.own ?_ | refine ResL.slA rfl (by first | rfl | (simp; done) | (simp; omega)) ?_ | refine ResL.nil' ?_); exact ResL.done) (heldIntSS_fun (mkSS (joinR a b) 1) 1 (by omega) (by rw [mkSS_flat]; omega) (by rw [mkSS_len]; omega)) rfl ?_
  refine ev ?_
  refine WO_nil ?_
  refine thenQ_n ?_
  refine W_seq ?_
  refine W_seq ?_
  refine W_region ?_
  refine ev ?_
  refine ev ?_
  refine WO_le (Le.known (t := 90) false rfl (by rw [heldSS_mk _ _ (by omega)]; simp; omega)) ?_
  refine WO_nil ?_
  refine thenQ_n ?_
  refine W_condF rfl ?_
  refine W_skip ?_
  refine thenQ_n ?_
  refine W_seq ?_
  refine W_seq ?_
  refine W_keep [0, 1, 4, 6, 7, 10, 13, 14] rfl ?_
  refine W_region ?_
  refine ev ?_
  refine ev ?_
  refine ev ?_
  refine WO_le (Le.known (t := 93) false rfl (by rw [heldSS_mk _ _ (by omega)]; simp)) ?_
  refine WO_nil ?_
  refine thenQ_n ?_
  refine W_condF rfl ?_
  refine W_skip ?_
  refine thenQ_n ?_
  refine W_seq ?_
  refine W_region ?_
  refine ev ?_
  refine callB ?_
  refine ⟨_, toIntSSo_fun a oka, rfl, ?_⟩
  refine WO_le (Le.freeze (u := 96) rfl) ?_
  refine WO_norm rfl ?_
  refine ev ?_
  refine callB ?_
  refine ⟨_, toIntSSo_fun b okb, rfl, ?_⟩
  refine WO_le (Le.freeze (u := 98) rfl) ?_
  refine WO_norm rfl ?_
  refine callB ?_
  refine ⟨_, implJoin_fun a b oka okb, rfl, ?_⟩
  refine WO_moveAll rfl rfl (lt_of rfl) (.inr rfl) rfl rfl ?_
  refine WO_keep [4, 6, 7, 10, 13, 14, 94] rfl ?_
  refine WO_norm rfl ?_
  refine WO_extract rfl rfl (lt_of rfl) rfl rfl rfl rfl ?_
  refine WO_le (Le.freeze (u := 100) rfl) ?_
  refine WO_norm rfl ?_
  first | refine WO_evF tys rfl rfl (lt_of rfl) (d := .t _) rfl ?_ | (refine WO_extract rfl rfl (lt_of rfl) rfl rfl rfl rfl ?_; first | refine WO_le (Le.adoptE (u := 101) 101 rfl (by first | exact lenN | exact rfl)) ?_ | skip)
  refine WO_norm rfl ?_
  refine ev ?_
  refine ev ?_
  refine WO_nil ?_
  refine thenQ_n ?_
  refine W_seq ?_
  refine W_seq ?_
  refine W_region ?_
  refine ev ?_
  refine ev ?_
  refine callB ?_
  refine ⟨_, eqIntSSo_fun (joinR a b) (joinR a b) okr okr, rfl, ?_⟩
  refine WO_le (Le.known (t := 104) true rfl (eqSS_refl _)) ?_
  refine ev ?_
  refine ev ?_
  refine WO_keep [4, 7, 10, 13, 14, 16, 106] rfl ?_
  refine WO_guardY rfl rfl rfl rfl (lt_of rfl) ?_
  refine ev ?_
  refine WO_guardY rfl rfl rfl rfl (lt_of rfl) ?_
  refine ev ?_
  refine WO_guardY rfl rfl rfl rfl (lt_of rfl) ?_
  refine ev ?_
  refine WO_le (Le.known (t := 109) false rfl (by simp)) ?_
  refine ev ?_
  refine WO_nil ?_
  refine thenQ_n ?_
  refine W_condF rfl ?_
  refine W_skip ?_
  refine thenQ_n ?_
  refine W_seq ?_
  refine W_region ?_
  refine ev ?_
  refine WO_nil ?_
  refine thenQ_n ?_
  refine W_seq ?_
  refine W_region ?_
  refine ev ?_
  refine ev ?_
  refine WO_call rfl rfl (lt_of rfl) rfl rfl (by refine ResL.raw (id := 43) (j := 0) rfl rfl rfl ?_; (first | refine ResL.t ?_ | refine ResL.own ?_ | refine ResL.slA rfl (by first | rfl | (simp; done) | (simp; omega)) ?_ | refine ResL.nil' ?_); exact ResL.done) (heldIntSS_fun (mkSS (joinR a b) 1) 1 (by omega) (by rw [mkSS_flat]; omega) (by rw [mkSS_len]; omega)) rfl ?_
  refine ev ?_
  refine WO_keep [4, 13, 14] rfl ?_
  refine WO_nil ?_
  refine thenQ_n ?_
  refine W_seq ?_
  refine W_seq ?_
  refine W_region ?_
  refine ev ?_
  refine ev ?_
  refine WO_le (Le.known (t := 115) false rfl (by rw [heldSS_mk _ _ (by omega)]; simp; omega)) ?_
  refine WO_nil ?_
  refine thenQ_n ?_
  refine W_condF rfl ?_
  refine W_skip ?_
  refine thenQ_n ?_
  refine W_seq ?_
  refine W_seq ?_
  refine W_region ?_
  refine ev ?_
  refine ev ?_
  refine ev ?_
  refine WO_le (Le.known (t := 118) false rfl (by rw [heldSS_mk _ _ (by omega)]; simp)) ?_
  refine WO_nil ?_
  refine thenQ_n ?_
  refine W_condF rfl ?_
  refine W_skip ?_
  refine thenQ_n ?_
  refine W_seq ?_
  refine W_region ?_
  refine ev ?_
  refine WO_nil ?_
  refine thenQ_n ?_
  refine W_ret ?_
  refine Ends_of (.inr rfl) (ret_okF rfl) (by decide) rfl ?_
  · rfl

end Go.Proofs.Ytnkhkmhhfpokhaa
