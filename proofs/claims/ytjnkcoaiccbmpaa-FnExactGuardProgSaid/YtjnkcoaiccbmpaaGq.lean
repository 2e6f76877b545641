/- Walks of MoveFuncs. -/
import Derived.Test.YtjnkcoaiccbmpaaGn
import Derived.Test.YtjnkcoaiccbmpaaMc
set_option linter.unusedVariables false
set_option linter.unusedSimpArgs false
set_option maxRecDepth 10000
set_option maxHeartbeats 1000000
namespace Go.Proofs.Ytjnkcoaiccbmpaa
open Go.Eng

def zF : Func := ⟨0, 0, [], []⟩
def moveB (p : Prog) (to : List Int) : Bool := goodP p && decide (to.length = p.funcs.length) && allIn to 0 (to.length - 1) && decide (atI to 0 = 0) && decide to.Nodup
def moveR (p : Prog) (to : List Int) : Prog := if moveB p to then ⟨placed zF to (p.funcs.map (movF to)) to.length⟩ else ⟨[]⟩
theorem move_no {p : Prog} {to : List Int} (h : moveB p to = false) : [D.agg [D.own (T.list 4 [])], D.t (T.v (.bool false))] = [D.agg [D.own (T.Funcs (moveR p to).funcs)], D.t (T.bool (moveB p to))] := by
  rw [moveR, h]; rfl
theorem move_yes {p : Prog} {to : List Int} {xs : List T} (h : moveB p to = true) (hx : xs = (placed zF to (p.funcs.map (movF to)) to.length).map Func.tt) : [D.agg [D.own (T.list 4 xs)], D.t (T.v (.bool true))] = [D.agg [D.own (T.Funcs (moveR p to).funcs)], D.t (T.bool (moveB p to))] := by
  rw [moveR, h, hx]; rfl
theorem allIn_mem {l : List Int} {lo hi : Int} (h : allIn l lo hi = true) : ∀ x, x ∈ l → lo ≤ x ∧ x ≤ hi := by
  intro x hx
  unfold allIn at h
  rw [List.all_eq_true] at h
  simpa using h x hx
theorem allIn_of {l : List Int} {lo hi : Int} (h : ∀ x, x ∈ l → lo ≤ x ∧ x ≤ hi) : allIn l lo hi = true := by
  unfold allIn
  rw [List.all_eq_true]
  intro x hx
  simpa using h x hx
theorem goodP_seqs {p : Prog} (hg : goodP p = true) {to : List Int} (hl : to.length = p.funcs.length) : ∀ f, f ∈ p.funcs → ∀ x, x ∈ seqL f.stmts → 0 ≤ x ∧ x < to.length := by
  intro f hf x hx
  obtain ⟨n, hn, rfl⟩ := List.getElem_of_mem hf
  have := seqL_ok (goodP_fn hg hn) x hx
  rw [hl]
  have e : (paramsL p).length = p.funcs.length := by unfold paramsL; simp
  omega
theorem take_nodup {l : List Int} {k : Nat} (h : k < l.length) (hd : (l.take k).Nodup) (hn : ¬ l[k] ∈ l.take k) : (l.take (k + 1)).Nodup := by
  rw [List.take_succ_eq_append_getElem h, List.nodup_append]
  refine ⟨hd, by simp, fun a ha b hb e => ?_⟩
  rw [List.mem_singleton] at hb
  subst hb; subst e
  exact hn ha
theorem not_nodup {l : List Int} {k : Nat} (h : k < l.length) (hn : l[k] ∈ l.take k) : ¬ l.Nodup := by
  intro hd
  obtain ⟨i, hi, he⟩ := List.getElem_of_mem hn
  rw [List.getElem_take] at he
  have := (List.getElem_inj hd).1 he
  rw [List.length_take] at hi
  omega

theorem Fun.arg0 {P : Program} {f : FuncId} {x y : T} {ds : List D} {r : D} (h : Fun P f (.t y :: ds) r) (e : x = y) : Fun P f (.t x :: ds) r := by rw [e]; exact h

theorem specMove_fun (p : Prog) (to : List Int) (hp : p.ok 1048576) (ht : to.length ≤ 1048576) : Fun Try.prog 42 [.t p.tt, .t (T.ints to)] (tupD [.agg [.own (T.Funcs (moveR p to).funcs)], .t (.bool (moveB p to))]) := by
  have hpl : p.funcs.length ≤ 1048576 := hp.1.1
  refine Fun.begin tys Try.func42 rfl rfl (N := 65) [(0, .t p.tt), (1, .t (T.ints to))] rfl rfl (fun w0 G F0 => ?_)
  refine W_seq ?_
  refine W_region ?_
  refine WO_box rfl rfl (lt_of rfl) rfl rfl ?_
  refine WO_norm rfl ?_
  refine WO_alloc tys rfl rfl (lt_of rfl) rfl rfl rfl ?_
  refine WO_norm rfl ?_
  refine ev ?_
  refine WO_nil ?_
  refine thenQ_n ?_
  iterate 2 (refine W_seq ?_)
  refine W_region ?_
  first | (refine ev ?_; try refine WO_le (Le.freeze (u := 9) rfl) ?_) | refine WO_loadMove tys rfl rfl (lt_of rfl) rfl rfl rfl rfl rfl rfl ?_
  refine WO_norm rfl ?_
  refine callB ?_
  refine ⟨_, goodProg_fun p hp, rfl, ?_⟩
  refine ev ?_
  refine ev ?_
  refine WO_guard rfl rfl rfl rfl (lt_of rfl) (fun h1 => ?_) (fun h1 => ?_)
  rotate_left
  ·
    try simp only [HS] at h1
    iterate 2 (refine WO_guardN rfl rfl rfl rfl rfl (lt_of rfl) ?_)
    refine WO_keep [1, 2, 4, 5, 12, 14, 15] rfl ?_
    iterate 3 (refine WO_guardN rfl rfl rfl rfl rfl (lt_of rfl) ?_)
    refine ev ?_
    refine ev ?_
    iterate 4 (refine WO_guardN rfl rfl rfl rfl rfl (lt_of rfl) ?_)
    refine WO_keep [1, 2, 4, 5, 20, 21, 24] rfl ?_
    iterate 2 (refine WO_guardN rfl rfl rfl rfl rfl (lt_of rfl) ?_)
    refine ev ?_
    refine ev ?_
    iterate 4 (refine WO_guardN rfl rfl rfl rfl rfl (lt_of rfl) ?_)
    refine ev ?_
    refine WO_keep [1, 2, 4, 5, 33] rfl ?_
    refine WO_nil ?_
    refine thenQ_n ?_
    refine W_condT rfl ?_
    refine W_seq ?_
    refine W_region ?_
    refine WO_struct tys rfl rfl (lt_of rfl) rfl rfl rfl (by kernel_rfl) rfl rfl rfl rfl rfl rfl ?_
    refine WO_store tys rfl rfl rfl rfl rfl rfl rfl rfl (lt_of rfl) ?_
    refine WO_norm rfl ?_
    refine ev ?_
    refine WO_nil ?_
    refine thenQ_n ?_
    try (refine W_le (Le.nilBox (u := 4) (j := 0) 4 rfl rfl) ?_; refine W_norm rfl ?_)
    refine W_ret ?_
    refine thenQ_r ?_
    refine Ends_of (.inr rfl) (ret_okF rfl) (by decide) rfl ?_
    · first
      | exact move_no (to := to) (by rw [moveB, h1]; rfl)
      | exact move_no (to := to) (by rw [moveB, h1, decide_eq_false (by omega)]; rfl)
      | exact move_no (to := to) (by rw [moveB, h3, Bool.and_false]; rfl)
      | exact move_no (to := to) (by rw [moveB, atI_at (by omega) (by omega), decide_eq_false h4, Bool.and_false]; rfl)
      | exact move_no (to := to) (by rw [moveB, decide_eq_false (not_nodup (k := k.toNat) (by omega) (by assumption)), Bool.and_false])
      | exact move_yes (p := p) (to := to) (by
         have hn : to.Nodup := by rw [← List.take_of_length_le (l := to) (i := k.toNat) (by omega)]; exact hnd
         rw [moveB, h1, decide_eq_true (show to.length = p.funcs.length by omega), h3, atI_at (by omega) (by omega), decide_eq_true h4, decide_eq_true hn]; rfl) (by
         rw [List.take_of_length_le (by rw [hzs, List.length_map, placed_length]; exact Nat.le_refl _), hzs, show k.toNat = to.length from by omega])
      | skip
  try simp only [HS] at h1
  refine ev ?_
  refine WO_guardY rfl rfl rfl rfl (lt_of rfl) ?_
  refine evE ?_
  refine WO_keep [1, 2, 4, 5, 12, 14] rfl ?_
  refine WO_guardY rfl rfl rfl rfl (lt_of rfl) ?_
  refine ev ?_
  refine WO_guardY rfl rfl rfl rfl (lt_of rfl) ?_
  refine ev ?_
  refine WO_guardY rfl rfl rfl rfl (lt_of rfl) ?_
  refine evE ?_
  refine WO_guardY rfl rfl rfl rfl (lt_of rfl) ?_
  iterate 3 (refine ev ?_)
  refine WO_guard rfl rfl rfl rfl (lt_of rfl) (fun h2 => ?_) (fun h2 => ?_)
  rotate_left
  ·
    try simp only [HS] at h2
    iterate 3 (refine WO_guardN rfl rfl rfl rfl rfl (lt_of rfl) ?_)
    refine WO_keep [1, 2, 4, 5, 20, 21, 24] rfl ?_
    iterate 2 (refine WO_guardN rfl rfl rfl rfl rfl (lt_of rfl) ?_)
    refine ev ?_
    refine ev ?_
    iterate 4 (refine WO_guardN rfl rfl rfl rfl rfl (lt_of rfl) ?_)
    refine ev ?_
    refine WO_keep [1, 2, 4, 5, 33] rfl ?_
    refine WO_nil ?_
    refine thenQ_n ?_
    refine W_condT rfl ?_
    refine W_seq ?_
    refine W_region ?_
    refine WO_struct tys rfl rfl (lt_of rfl) rfl rfl rfl (by kernel_rfl) rfl rfl rfl rfl rfl rfl ?_
    refine WO_store tys rfl rfl rfl rfl rfl rfl rfl rfl (lt_of rfl) ?_
    refine WO_norm rfl ?_
    refine ev ?_
    refine WO_nil ?_
    refine thenQ_n ?_
    try (refine W_le (Le.nilBox (u := 4) (j := 0) 4 rfl rfl) ?_; refine W_norm rfl ?_)
    refine W_ret ?_
    refine thenQ_r ?_
    refine Ends_of (.inr rfl) (ret_okF rfl) (by decide) rfl ?_
    · first
      | exact move_no (to := to) (by rw [moveB, h1]; rfl)
      | exact move_no (to := to) (by rw [moveB, h1, decide_eq_false (by omega)]; rfl)
      | exact move_no (to := to) (by rw [moveB, h3, Bool.and_false]; rfl)
      | exact move_no (to := to) (by rw [moveB, atI_at (by omega) (by omega), decide_eq_false h4, Bool.and_false]; rfl)
      | exact move_no (to := to) (by rw [moveB, decide_eq_false (not_nodup (k := k.toNat) (by omega) (by assumption)), Bool.and_false])
      | exact move_yes (p := p) (to := to) (by
         have hn : to.Nodup := by rw [← List.take_of_length_le (l := to) (i := k.toNat) (by omega)]; exact hnd
         rw [moveB, h1, decide_eq_true (show to.length = p.funcs.length by omega), h3, atI_at (by omega) (by omega), decide_eq_true h4, decide_eq_true hn]; rfl) (by
         rw [List.take_of_length_le (by rw [hzs, List.length_map, placed_length]; exact Nat.le_refl _), hzs, show k.toNat = to.length from by omega])
      | skip
  try simp only [HS] at h2
  refine ev ?_
  refine WO_guardY rfl rfl rfl rfl (lt_of rfl) ?_
  refine ev ?_
  refine WO_guardY rfl rfl rfl rfl (lt_of rfl) ?_
  refine evE ?_
  refine WO_keep [1, 2, 4, 5, 20, 21, 23] rfl ?_
  refine WO_guardY rfl rfl rfl rfl (lt_of rfl) ?_
  refine evI ?_
  refine WO_guardY rfl rfl rfl rfl (lt_of rfl) ?_
  refine callB ?_
  refine ⟨_, l1All_fun _ _ _ (by omega), rfl, ?_⟩
  refine WO_guardY rfl rfl rfl rfl (lt_of rfl) ?_
  iterate 3 (refine ev ?_)
  refine WO_guard rfl rfl rfl rfl (lt_of rfl) (fun h3 => ?_) (fun h3 => ?_)
  rotate_left
  ·
    try simp only [HS] at h3
    iterate 3 (refine WO_guardN rfl rfl rfl rfl rfl (lt_of rfl) ?_)
    refine ev ?_
    refine WO_keep [1, 2, 4, 5, 33] rfl ?_
    refine WO_nil ?_
    refine thenQ_n ?_
    refine W_condT rfl ?_
    refine W_seq ?_
    refine W_region ?_
    refine WO_struct tys rfl rfl (lt_of rfl) rfl rfl rfl (by kernel_rfl) rfl rfl rfl rfl rfl rfl ?_
    refine WO_store tys rfl rfl rfl rfl rfl rfl rfl rfl (lt_of rfl) ?_
    refine WO_norm rfl ?_
    refine ev ?_
    refine WO_nil ?_
    refine thenQ_n ?_
    try (refine W_le (Le.nilBox (u := 4) (j := 0) 4 rfl rfl) ?_; refine W_norm rfl ?_)
    refine W_ret ?_
    refine thenQ_r ?_
    refine Ends_of (.inr rfl) (ret_okF rfl) (by decide) rfl ?_
    · first
      | exact move_no (to := to) (by rw [moveB, h1]; rfl)
      | exact move_no (to := to) (by rw [moveB, h1, decide_eq_false (by omega)]; rfl)
      | exact move_no (to := to) (by rw [moveB, h3, Bool.and_false]; rfl)
      | exact move_no (to := to) (by rw [moveB, atI_at (by omega) (by omega), decide_eq_false h4, Bool.and_false]; rfl)
      | exact move_no (to := to) (by rw [moveB, decide_eq_false (not_nodup (k := k.toNat) (by omega) (by assumption)), Bool.and_false])
      | exact move_yes (p := p) (to := to) (by
         have hn : to.Nodup := by rw [← List.take_of_length_le (l := to) (i := k.toNat) (by omega)]; exact hnd
         rw [moveB, h1, decide_eq_true (show to.length = p.funcs.length by omega), h3, atI_at (by omega) (by omega), decide_eq_true h4, decide_eq_true hn]; rfl) (by
         rw [List.take_of_length_le (by rw [hzs, List.length_map, placed_length]; exact Nat.le_refl _), hzs, show k.toNat = to.length from by omega])
      | skip
  try simp only [HS] at h3
  refine ev ?_
  refine WO_guardY rfl rfl rfl rfl (lt_of rfl) ?_
  have hgl := goodP_len h1
  first | refine WO_idxT tys rfl rfl (lt_of rfl) rfl rfl rfl rfl rfl rfl rfl (by omega) _ (getT _ _ (by omega) (by omega)) ?_ | refine WO_idxS tys rfl rfl (lt_of rfl) rfl rfl rfl rfl rfl rfl rfl rfl (by omega) (by omega) ?_
  refine WO_guardY rfl rfl rfl rfl (lt_of rfl) ?_
  first | refine ev ?_ | refine WO_loadL tys rfl rfl (lt_of rfl) rfl rfl rfl rfl (getT _ _ (by omega) (by omega)) rfl ?_ | refine WO_loadL tys rfl rfl (lt_of rfl) rfl rfl rfl rfl (getT0 _ _ (by omega) (by omega)) rfl ?_
  refine WO_guardY rfl rfl rfl rfl (lt_of rfl) ?_
  refine ev ?_
  refine WO_keep [1, 2, 4, 5, 28, 32] rfl ?_
  refine ev ?_
  refine WO_nil ?_
  refine thenQ_n ?_
  refine W_cond rfl (fun h4 => ?_) (fun h4 => ?_)
  ·
    try simp only [HS] at h4
    refine W_seq ?_
    refine W_region ?_
    refine WO_struct tys rfl rfl (lt_of rfl) rfl rfl rfl (by kernel_rfl) rfl rfl rfl rfl rfl rfl ?_
    refine WO_store tys rfl rfl rfl rfl rfl rfl rfl rfl (lt_of rfl) ?_
    refine WO_norm rfl ?_
    refine ev ?_
    refine WO_nil ?_
    refine thenQ_n ?_
    try (refine W_le (Le.nilBox (u := 4) (j := 0) 4 rfl rfl) ?_; refine W_norm rfl ?_)
    refine W_ret ?_
    refine thenQ_r ?_
    refine Ends_of (.inr rfl) (ret_okF rfl) (by decide) rfl ?_
    · first
      | exact move_no (to := to) (by rw [moveB, h1]; rfl)
      | exact move_no (to := to) (by rw [moveB, h1, decide_eq_false (by omega)]; rfl)
      | exact move_no (to := to) (by rw [moveB, h3, Bool.and_false]; rfl)
      | exact move_no (to := to) (by rw [moveB, atI_at (by omega) (by omega), decide_eq_false h4, Bool.and_false]; rfl)
      | exact move_no (to := to) (by rw [moveB, decide_eq_false (not_nodup (k := k.toNat) (by omega) (by assumption)), Bool.and_false])
      | exact move_yes (p := p) (to := to) (by
         have hn : to.Nodup := by rw [← List.take_of_length_le (l := to) (i := k.toNat) (by omega)]; exact hnd
         rw [moveB, h1, decide_eq_true (show to.length = p.funcs.length by omega), h3, atI_at (by omega) (by omega), decide_eq_true h4, decide_eq_true hn]; rfl) (by
         rw [List.take_of_length_le (by rw [hzs, List.length_map, placed_length]; exact Nat.le_refl _), hzs, show k.toNat = to.length from by omega])
      | skip
  try simp only [HS] at h4
  refine W_skip ?_
  refine thenQ_n ?_
  refine W_seq ?_
  refine W_region ?_
  refine ev ?_
  refine evE ?_
  refine WO_make tys (.agg [.v (.int .i64 0), .v (.int .i64 0), .list 1 [], .list 5 []]) _ rfl rfl (lt_of rfl) rfl rfl rfl rfl rfl (by repeat (first | exact AbsL.nil' | refine AbsL.v' ?_ | refine AbsL.none' ?_)) rfl (by omega) (by decide) ?_
  refine WO_norm rfl ?_
  refine WO_struct tys rfl rfl (lt_of rfl) rfl rfl rfl (by kernel_rfl) rfl rfl rfl rfl rfl rfl ?_
  refine WO_alloc tys rfl rfl (lt_of rfl) rfl rfl rfl ?_
  refine WO_norm rfl ?_
  refine WO_store tys rfl rfl rfl rfl rfl rfl rfl rfl (lt_of rfl) ?_
  refine WO_norm rfl ?_
  refine WO_nil ?_
  refine thenQ_n ?_
  iterate 2 (refine W_seq ?_)
  refine W_keep [1, 2, 4, 5, 6] rfl ?_
  refine W_region ?_
  refine ev ?_
  refine evE ?_
  refine ev ?_
  refine WO_nil ?_
  refine thenQ_n ?_
  refine W_block ?_
  refine W_loopK (α := Int × List T) [1, 2, 4, 5, 6, 39, 40] [2, 4] (fun (x : Int × List T) => [(41, .t (.int (x.1)))]) (fun (x : Int × List T) => [(6, .box [.sl 37 0 to.length]), (37, .L 4 (x.2))]) (fun (x : Int × List T) => 0 ≤ (x.1) ∧ (x.1) ≤ to.length ∧ (x.2) = (placed zF to (p.funcs.map (movF to)) (x.1).toNat).map Func.tt ∧ (to.take (x.1).toNat).Nodup) (fun (x : Int × List T) => Int.toNat (to.length - (x.1))) (0, List.replicate to.length (Func.tt zF)) ?_ ?_ ?_ (fun x hx => ?_)
  · repeat (first | exact Sub.nil' | refine Sub.cons' rfl ?_ )
  · repeat (first | exact SubM.nil' | refine SubM.cons' rfl ?_ )
  · exact ⟨by omega, by omega, (by rw [show (0 : Int).toNat = 0 from rfl, placed, List.map_replicate]), List.nodup_nil⟩
  obtain ⟨k, zs⟩ := x
  obtain ⟨hk0, hk1, hzs, hnd⟩ := hx
  try dsimp only at hk0 hk1 hzs hnd ⊢
  refine W_norm rfl ?_
  refine W_seq ?_
  refine W_region ?_
  refine ev ?_
  refine WO_nil ?_
  refine thenQ_n ?_
  refine W_seq ?_
  refine W_cond rfl (fun h5 => ?_) (fun h5 => ?_)
  ·
    try simp only [HS] at h5
    refine W_skip ?_
    refine thenQ_n ?_
    refine W_seq ?_
    refine W_block ?_
    refine W_seq ?_
    refine W_region ?_
    refine ev ?_
    first | refine WO_idxT tys rfl rfl (lt_of rfl) rfl rfl rfl rfl rfl rfl rfl (by omega) _ (getT _ _ (by omega) (by omega)) ?_ | refine WO_idxS tys rfl rfl (lt_of rfl) rfl rfl rfl rfl rfl rfl rfl rfl (by omega) (by omega) ?_
    first | refine ev ?_ | refine WO_loadL tys rfl rfl (lt_of rfl) rfl rfl rfl rfl (getT _ _ (by omega) (by omega)) rfl ?_ | refine WO_loadL tys rfl rfl (lt_of rfl) rfl rfl rfl rfl (getT0 _ _ (by omega) (by omega)) rfl ?_
    refine ev ?_
    refine ev ?_
    refine WO_nil ?_
    refine thenQ_n ?_
    iterate 2 (refine W_seq ?_)
    refine W_region ?_
    refine ev ?_
    refine ev ?_
    first | refine WO_sliceNil tys rfl rfl (lt_of rfl) rfl rfl rfl rfl rfl rfl rfl ?_ | refine WO_sliceT tys rfl rfl (lt_of rfl) rfl rfl rfl rfl rfl rfl rfl rfl (by first | omega | (simp only [List.length_map]; omega)) (by first | omega | (simp only [List.length_map]; omega)) (by first | omega | (simp only [List.length_map]; omega)) ?_ | refine WO_sliceS tys rfl rfl (lt_of rfl) rfl rfl rfl rfl rfl rfl rfl rfl rfl (by omega) (by omega) (by omega) ?_
    refine WO_keep [1, 2, 4, 5, 6, 7, 8, 39, 40, 41, 42, 43, 44, 45, 46, 47, 48] rfl ?_
    refine ev ?_
    refine callB ?_
    refine ⟨_, Fun.arg0 (l1Has_fun (to.take k.toNat) (to[k.toNat]'(by omega)) (by rw [List.length_take]; omega)) (by show T.list 1 _ = T.ints _; simp [T.ints, List.map_take]), rfl, ?_⟩
    refine WO_nil ?_
    refine thenQ_n ?_
    refine W_cond rfl (fun h6 => ?_) (fun h6 => ?_)
    ·
      try simp only [HS] at h6
      refine W_seq ?_
      refine W_region ?_
      refine WO_struct tys rfl rfl (lt_of rfl) rfl rfl rfl (by kernel_rfl) rfl rfl rfl rfl rfl rfl ?_
      refine WO_store tys rfl rfl rfl rfl rfl rfl rfl rfl (lt_of rfl) ?_
      refine WO_norm rfl ?_
      refine ev ?_
      refine WO_nil ?_
      refine thenQ_n ?_
      try (refine W_le (Le.nilBox (u := 4) (j := 0) 4 rfl rfl) ?_; refine W_norm rfl ?_)
      refine W_ret ?_
      refine thenQ_r ?_
      refine inBlk_r ?_
      refine thenQ_r ?_
      refine loopQ_r ?_
      refine inBlk_r ?_
      refine thenQ_r ?_
      refine Ends_of (.inr rfl) (ret_okF rfl) (by decide) rfl ?_
      · first
        | exact move_no (to := to) (by rw [moveB, h1]; rfl)
        | exact move_no (to := to) (by rw [moveB, h1, decide_eq_false (by omega)]; rfl)
        | exact move_no (to := to) (by rw [moveB, h3, Bool.and_false]; rfl)
        | exact move_no (to := to) (by rw [moveB, atI_at (by omega) (by omega), decide_eq_false h4, Bool.and_false]; rfl)
        | exact move_no (to := to) (by rw [moveB, decide_eq_false (not_nodup (k := k.toNat) (by omega) (by assumption)), Bool.and_false])
        | exact move_yes (p := p) (to := to) (by
           have hn : to.Nodup := by rw [← List.take_of_length_le (l := to) (i := k.toNat) (by omega)]; exact hnd
           rw [moveB, h1, decide_eq_true (show to.length = p.funcs.length by omega), h3, atI_at (by omega) (by omega), decide_eq_true h4, decide_eq_true hn]; rfl) (by
           rw [List.take_of_length_le (by rw [hzs, List.length_map, placed_length]; exact Nat.le_refl _), hzs, show k.toNat = to.length from by omega])
        | skip
    try simp only [HS] at h6
    refine W_skip ?_
    refine thenQ_n ?_
    refine W_regionDm 11 mixed rfl (by kernel_rfl) (by kernel_rfl) ?_
    have hto := allIn_mem h3 _ (List.getElem_mem (show k.toNat < to.length by omega))
    have hzl : zs.length = to.length := by rw [hzs, List.length_map, placed_length]
    iterate 4 (refine evQ ?_)
    refine QL_norm rfl ?_
    refine evQ ?_
    refine evQ ?_
    first | refine QL_idxT tys rfl rfl (lt_of rfl) rfl rfl rfl rfl rfl rfl rfl (by omega) _ (getT _ _ (by omega) (by omega)) ?_ | refine QL_idxS tys rfl rfl (lt_of rfl) rfl rfl rfl rfl rfl rfl rfl rfl (by omega) (by omega) ?_
    first | refine QL_evZ tys rfl rfl (lt_of rfl) rfl rfl ?_ | refine evQ ?_ | refine QL_loadL tys rfl rfl (lt_of rfl) rfl rfl rfl rfl (getT _ _ (by omega) (by omega)) rfl ?_ | refine QL_loadL tys rfl rfl (lt_of rfl) rfl rfl rfl rfl (getT0 _ _ (by omega) (by omega)) rfl ?_
    refine evQ ?_
    refine callBQ ?_
    refine ⟨_, l21Moved_fun (p.funcs[k.toNat]'(by omega)) to (func_ok hp (by omega)) (goodP_seqs h1 (by omega) _ (List.getElem_mem _)) ht, rfl, ?_⟩
    refine QL_norm rfl ?_
    first | refine QL_idxT tys rfl rfl (lt_of rfl) rfl rfl rfl rfl rfl rfl rfl (by omega) _ (getT _ _ (by omega) (by omega)) ?_ | refine QL_idxS tys rfl rfl (lt_of rfl) rfl rfl rfl rfl rfl rfl rfl rfl (by omega) (by omega) ?_
    refine QL_nil ?_
    first | refine WO_storeE tys ((movF to (p.funcs[k.toNat]'(by omega))).tt) rfl rfl rfl rfl rfl rfl (by first | exact Nat.zero_add _ | rfl) (by omega) rfl (by repeat (first | exact AbsL.nil' | refine AbsL.v' ?_ | refine AbsL.own' ?_)) rfl rfl rfl ?_ | refine WO_storeL tys _ rfl rfl rfl rfl rfl rfl (getT _ _ (by omega) (by omega)) rfl (by repeat (first | exact AbsL.nil' | refine AbsL.v' ?_ | refine AbsL.own' ?_)) rfl (by decide) (by decide) ?_
    refine WO_norm rfl ?_
    refine WO_nil ?_
    refine inBlk_n ?_
    refine thenQ_n ?_
    refine W_region ?_
    refine evI ?_
    refine ev ?_
    refine WO_nil ?_
    refine loopQ_n (_, _) (by (try dsimp only); repeat (first | exact Sub.nil' | refine Sub.cons' rfl ?_ )) (by (try dsimp only); repeat (first | exact SubM.nil' | refine SubM.cons' rfl ?_ )) ?_ ?_
    · try dsimp only
      rw [show (k + 1).toNat = k.toNat + 1 from by omega]
      refine ⟨by omega, by omega, ?_, take_nodup (by omega) hnd h6⟩
      rw [placed_succ _ _ _ (by omega) (by rw [List.length_map]; omega), List.map_set, ← hzs, List.getElem_map]
    · (show Int.toNat _ < Int.toNat _); omega
  try simp only [HS] at h5
  refine W_exit ?_
  refine thenQ_e ?_
  refine loopQ_e ?_
  refine inBlk_y ?_
  refine thenQ_n ?_
  refine W_seq ?_
  refine W_region ?_
  refine WO_norm rfl ?_
  refine WO_le (Le.gatherBox (u := 6) (j := 0) (id := 37) rfl rfl rfl (by rw [hzs, List.length_map, placed_length]; exact Nat.le_refl _) rfl) ?_
  refine WO_norm rfl ?_
  first | (refine ev ?_; try refine WO_le (Le.freeze (u := 64) rfl) ?_) | refine WO_loadMove tys rfl rfl (lt_of rfl) rfl rfl rfl rfl rfl rfl ?_
  refine WO_norm rfl ?_
  refine WO_store tys rfl rfl rfl rfl rfl rfl rfl rfl (lt_of rfl) ?_
  refine WO_norm rfl ?_
  refine ev ?_
  refine WO_nil ?_
  refine thenQ_n ?_
  try (refine W_le (Le.nilBox (u := 4) (j := 0) 4 rfl rfl) ?_; refine W_norm rfl ?_)
  refine W_ret ?_
  refine Ends_of (.inr rfl) (ret_okF rfl) (by decide) rfl ?_
  · first
    | exact move_no (to := to) (by rw [moveB, h1]; rfl)
    | exact move_no (to := to) (by rw [moveB, h1, decide_eq_false (by omega)]; rfl)
    | exact move_no (to := to) (by rw [moveB, h3, Bool.and_false]; rfl)
    | exact move_no (to := to) (by rw [moveB, atI_at (by omega) (by omega), decide_eq_false h4, Bool.and_false]; rfl)
    | exact move_no (to := to) (by rw [moveB, decide_eq_false (not_nodup (k := k.toNat) (by omega) (by assumption)), Bool.and_false])
    | exact move_yes (p := p) (to := to) (by
       have hn : to.Nodup := by rw [← List.take_of_length_le (l := to) (i := k.toNat) (by omega)]; exact hnd
       rw [moveB, h1, decide_eq_true (show to.length = p.funcs.length by omega), h3, atI_at (by omega) (by omega), decide_eq_true h4, decide_eq_true hn]; rfl) (by
       rw [List.take_of_length_le (by rw [hzs, List.length_map, placed_length]; exact Nat.le_refl _), hzs, show k.toNat = to.length from by omega])
    | skip

def tOf : Option (Func × List Value) → T
  | none => zF.tt
  | some c => .agg (c.2.map T.v)
def toldF (C : List (Func × List Value)) : List T := C.map fun c => .agg (c.2.map T.v)
theorem toldF_flat (C : List (Func × List Value)) : (toldF C).flatMap T.cells = (C.flatMap (·.2)).map T.v := by
  unfold toldF; rw [List.flatMap_map, List.map_flatMap]; rfl
theorem toldF_cells {C : List (Func × List Value)} (h : ∀ c, c ∈ C → c.2.length = 4) : ∀ y, y ∈ toldF C → (T.cells y).length = 4 := by
  intro y hy
  obtain ⟨c, hc, rfl⟩ := List.mem_map.1 hy
  show (c.2.map T.v).length = 4
  rw [List.length_map, h c hc]
theorem placedC (to : List Int) {C C' : List (Func × List Value)} {fs : List Func} (h : placed none to (C.map some) to.length = C'.map some) (hC : C.map (·.1) = fs) : (C'.map (·.1)).map (movF to) = placed zF to (fs.map (movF to)) to.length := by
  have h1 := congrArg (List.map fun (o : Option (Func × List Value)) => match o with | none => zF | some c => movF to c.1) h
  rw [placed_map, List.map_map, List.map_map] at h1
  rw [← hC, List.map_map, List.map_map]
  exact h1.symm

theorem implMove_fun (p : Prog) (to : List Int) (hp : p.ok 1048576) (ht : to.length ≤ 1048576) : Fun Try.prog 44 [.t p.tt, .t (T.ints to)] (tupD [.agg [.own (T.Funcs (moveR p to).funcs)], .t (.bool (moveB p to))]) := by
  have hpl : p.funcs.length ≤ 1048576 := hp.1.1
  refine Fun.begin tys Try.func44 rfl rfl (N := 73) [(0, .t p.tt), (1, .t (T.ints to))] rfl rfl (fun w0 G F0 => ?_)
  refine W_seq ?_
  refine W_region ?_
  refine WO_box rfl rfl (lt_of rfl) rfl rfl ?_
  refine WO_norm rfl ?_
  refine WO_alloc tys rfl rfl (lt_of rfl) rfl rfl rfl ?_
  refine WO_norm rfl ?_
  refine ev ?_
  refine WO_nil ?_
  refine thenQ_n ?_
  iterate 2 (refine W_seq ?_)
  refine W_region ?_
  first | (refine ev ?_; try refine WO_le (Le.freeze (u := 9) rfl) ?_) | refine WO_loadMove tys rfl rfl (lt_of rfl) rfl rfl rfl rfl rfl rfl ?_
  refine WO_norm rfl ?_
  refine callB ?_
  refine ⟨_, isProg_fun p hp, rfl, ?_⟩
  refine ev ?_
  refine ev ?_
  refine WO_guard rfl rfl rfl rfl (lt_of rfl) (fun h1 => ?_) (fun h1 => ?_)
  rotate_left
  ·
    try simp only [HS] at h1
    iterate 2 (refine WO_guardN rfl rfl rfl rfl rfl (lt_of rfl) ?_)
    refine WO_keep [1, 2, 4, 5, 12, 14, 15] rfl ?_
    iterate 3 (refine WO_guardN rfl rfl rfl rfl rfl (lt_of rfl) ?_)
    refine ev ?_
    refine ev ?_
    iterate 4 (refine WO_guardN rfl rfl rfl rfl rfl (lt_of rfl) ?_)
    refine WO_keep [1, 2, 4, 5, 20, 24] rfl ?_
    refine ev ?_
    refine WO_nil ?_
    refine thenQ_n ?_
    refine W_condT rfl ?_
    refine W_seq ?_
    refine W_region ?_
    refine WO_struct tys rfl rfl (lt_of rfl) rfl rfl rfl (by kernel_rfl) rfl rfl rfl rfl rfl rfl ?_
    refine WO_store tys rfl rfl rfl rfl rfl rfl rfl rfl (lt_of rfl) ?_
    refine WO_norm rfl ?_
    refine ev ?_
    refine WO_nil ?_
    refine thenQ_n ?_
    try (refine W_le (Le.nilBox (u := 4) (j := 0) 4 rfl rfl) ?_; refine W_norm rfl ?_)
    refine W_ret ?_
    refine thenQ_r ?_
    refine Ends_of (.inr rfl) (ret_okF rfl) (by decide) rfl ?_
    · first
      | exact move_no (to := to) (by rw [moveB, h1]; rfl)
      | exact move_no (to := to) (by rw [moveB, h1, decide_eq_false (by omega)]; rfl)
      | exact move_no (to := to) (by rw [moveB, atI_at (by omega) (by omega), decide_eq_false h3, Bool.and_false]; rfl)
      | exact move_no (to := to) (by rw [moveB, decide_eq_false (not_nodup (k := k.toNat) (by omega) (by assumption)), Bool.and_false])
      | exact move_no (to := to) (by rw [moveB, allIn_no hk0 (by omega) (by assumption), Bool.and_false]; rfl)
      | exact move_yes (p := p) (to := to) (by
         rw [moveB, h1, decide_eq_true (show to.length = p.funcs.length by omega), atI_at (by omega) (by omega), decide_eq_true h3, decide_eq_true hnd, allIn_of (fun t ht => by have := hr t ht; omega)]; rfl) (by
         show ((C'.map (·.1)).map (movF to)).map Func.tt = _
         rw [placedC to hC' hC1])
      | skip
  try simp only [HS] at h1
  refine ev ?_
  refine WO_guardY rfl rfl rfl rfl (lt_of rfl) ?_
  refine evE ?_
  refine WO_keep [1, 2, 4, 5, 12, 14] rfl ?_
  refine WO_guardY rfl rfl rfl rfl (lt_of rfl) ?_
  refine ev ?_
  refine WO_guardY rfl rfl rfl rfl (lt_of rfl) ?_
  refine ev ?_
  refine WO_guardY rfl rfl rfl rfl (lt_of rfl) ?_
  refine evE ?_
  refine WO_guardY rfl rfl rfl rfl (lt_of rfl) ?_
  iterate 3 (refine ev ?_)
  refine WO_guard rfl rfl rfl rfl (lt_of rfl) (fun h2 => ?_) (fun h2 => ?_)
  rotate_left
  ·
    try simp only [HS] at h2
    iterate 3 (refine WO_guardN rfl rfl rfl rfl rfl (lt_of rfl) ?_)
    refine WO_keep [1, 2, 4, 5, 20, 24] rfl ?_
    refine ev ?_
    refine WO_nil ?_
    refine thenQ_n ?_
    refine W_condT rfl ?_
    refine W_seq ?_
    refine W_region ?_
    refine WO_struct tys rfl rfl (lt_of rfl) rfl rfl rfl (by kernel_rfl) rfl rfl rfl rfl rfl rfl ?_
    refine WO_store tys rfl rfl rfl rfl rfl rfl rfl rfl (lt_of rfl) ?_
    refine WO_norm rfl ?_
    refine ev ?_
    refine WO_nil ?_
    refine thenQ_n ?_
    try (refine W_le (Le.nilBox (u := 4) (j := 0) 4 rfl rfl) ?_; refine W_norm rfl ?_)
    refine W_ret ?_
    refine thenQ_r ?_
    refine Ends_of (.inr rfl) (ret_okF rfl) (by decide) rfl ?_
    · first
      | exact move_no (to := to) (by rw [moveB, h1]; rfl)
      | exact move_no (to := to) (by rw [moveB, h1, decide_eq_false (by omega)]; rfl)
      | exact move_no (to := to) (by rw [moveB, atI_at (by omega) (by omega), decide_eq_false h3, Bool.and_false]; rfl)
      | exact move_no (to := to) (by rw [moveB, decide_eq_false (not_nodup (k := k.toNat) (by omega) (by assumption)), Bool.and_false])
      | exact move_no (to := to) (by rw [moveB, allIn_no hk0 (by omega) (by assumption), Bool.and_false]; rfl)
      | exact move_yes (p := p) (to := to) (by
         rw [moveB, h1, decide_eq_true (show to.length = p.funcs.length by omega), atI_at (by omega) (by omega), decide_eq_true h3, decide_eq_true hnd, allIn_of (fun t ht => by have := hr t ht; omega)]; rfl) (by
         show ((C'.map (·.1)).map (movF to)).map Func.tt = _
         rw [placedC to hC' hC1])
      | skip
  try simp only [HS] at h2
  refine ev ?_
  refine WO_guardY rfl rfl rfl rfl (lt_of rfl) ?_
  have hgl := goodP_len h1
  first | refine WO_idxT tys rfl rfl (lt_of rfl) rfl rfl rfl rfl rfl rfl rfl (by omega) _ (getT _ _ (by omega) (by omega)) ?_ | refine WO_idxS tys rfl rfl (lt_of rfl) rfl rfl rfl rfl rfl rfl rfl rfl (by omega) (by omega) ?_
  refine WO_guardY rfl rfl rfl rfl (lt_of rfl) ?_
  first | refine ev ?_ | refine WO_loadL tys rfl rfl (lt_of rfl) rfl rfl rfl rfl ((by rw [Nat.zero_add]; exact hy)) rfl ?_
  refine WO_keep [1, 2, 4, 5, 20, 23] rfl ?_
  refine WO_guardY rfl rfl rfl rfl (lt_of rfl) ?_
  refine ev ?_
  refine ev ?_
  refine WO_nil ?_
  refine thenQ_n ?_
  refine W_cond rfl (fun h3 => ?_) (fun h3 => ?_)
  ·
    try simp only [HS] at h3
    refine W_seq ?_
    refine W_region ?_
    refine WO_struct tys rfl rfl (lt_of rfl) rfl rfl rfl (by kernel_rfl) rfl rfl rfl rfl rfl rfl ?_
    refine WO_store tys rfl rfl rfl rfl rfl rfl rfl rfl (lt_of rfl) ?_
    refine WO_norm rfl ?_
    refine ev ?_
    refine WO_nil ?_
    refine thenQ_n ?_
    try (refine W_le (Le.nilBox (u := 4) (j := 0) 4 rfl rfl) ?_; refine W_norm rfl ?_)
    refine W_ret ?_
    refine thenQ_r ?_
    refine Ends_of (.inr rfl) (ret_okF rfl) (by decide) rfl ?_
    · first
      | exact move_no (to := to) (by rw [moveB, h1]; rfl)
      | exact move_no (to := to) (by rw [moveB, h1, decide_eq_false (by omega)]; rfl)
      | exact move_no (to := to) (by rw [moveB, atI_at (by omega) (by omega), decide_eq_false h3, Bool.and_false]; rfl)
      | exact move_no (to := to) (by rw [moveB, decide_eq_false (not_nodup (k := k.toNat) (by omega) (by assumption)), Bool.and_false])
      | exact move_no (to := to) (by rw [moveB, allIn_no hk0 (by omega) (by assumption), Bool.and_false]; rfl)
      | exact move_yes (p := p) (to := to) (by
         rw [moveB, h1, decide_eq_true (show to.length = p.funcs.length by omega), atI_at (by omega) (by omega), decide_eq_true h3, decide_eq_true hnd, allIn_of (fun t ht => by have := hr t ht; omega)]; rfl) (by
         show ((C'.map (·.1)).map (movF to)).map Func.tt = _
         rw [placedC to hC' hC1])
      | skip
  try simp only [HS] at h3
  refine W_skip ?_
  refine thenQ_n ?_
  refine W_seq ?_
  refine W_region ?_
  refine ev ?_
  refine evE ?_
  refine WO_make tys (.agg [.v (.int .i64 0), .v (.int .i64 0), .list 1 [], .list 5 []]) _ rfl rfl (lt_of rfl) rfl rfl rfl rfl rfl (by repeat (first | exact AbsL.nil' | refine AbsL.v' ?_ | refine AbsL.none' ?_)) rfl (by omega) (by decide) ?_
  refine WO_norm rfl ?_
  refine WO_struct tys rfl rfl (lt_of rfl) rfl rfl rfl (by kernel_rfl) rfl rfl rfl rfl rfl rfl ?_
  refine WO_alloc tys rfl rfl (lt_of rfl) rfl rfl rfl ?_
  refine WO_norm rfl ?_
  refine WO_store tys rfl rfl rfl rfl rfl rfl rfl rfl (lt_of rfl) ?_
  refine WO_norm rfl ?_
  refine WO_nil ?_
  refine thenQ_n ?_
  iterate 2 (refine W_seq ?_)
  refine W_keep [1, 2, 4, 5, 6] rfl ?_
  refine W_region ?_
  first | (refine ev ?_; try refine WO_le (Le.freeze (u := 31) rfl) ?_) | refine WO_loadMove tys rfl rfl (lt_of rfl) rfl rfl rfl rfl rfl rfl ?_
  refine WO_norm rfl ?_
  refine callB ?_
  refine ⟨_, cloneProg_fun p hp, rfl, ?_⟩
  refine WO_norm rfl ?_
  refine WO_exposeB (u := 32) 132 rfl rfl (fun v32 hv32 => ?_)
  obtain ⟨q0, rfl⟩ : ∃ q0, v32 = [q0] := by
   match v32, hv32 with
   | [q0], _ => exact ⟨_, rfl⟩
  refine WO_norm rfl ?_
  refine WO_fieldA tys (e := 28) (off := 0) (us := [q0]) rfl rfl (lt_of rfl) rfl (by kernel_rfl) rfl rfl rfl rfl ?_
  refine WO_norm rfl ?_
  refine WO_le (Le.ownBack (t := 33) (id := 132) rfl rfl) ?_
  refine WO_norm rfl ?_
  refine WO_le (Le.adoptE (u := 33) 33 rfl (by first | exact lenN | exact rfl)) ?_
  refine WO_norm rfl ?_
  refine WO_exposeL (id := 33) (idp := 133) rfl rfl (fun vs hvs => ?_)
  obtain ⟨C, hC1, hC2, rfl⟩ := cutV (l := p.funcs) (vs := vs) (n := 4) (by rw [hvs, List.length_map])
  have hCl : C.length = p.funcs.length := by rw [← hC1, List.length_map]
  refine ⟨toldF C, toldF_flat C, by rw [toldF, List.length_map, List.length_map, hCl], toldF_cells hC2, ?_⟩
  refine WO_norm rfl ?_
  refine evE ?_
  refine ev ?_
  refine WO_nil ?_
  refine thenQ_n ?_
  refine W_block ?_
  refine W_loopK (α := Int × List T) [1, 2, 4, 5, 6, 33, 34] [2, 4, 33, 133] (fun (x : Int × List T) => [(35, .t (.int (x.1)))]) (fun (x : Int × List T) => [(6, .box [.sl 29 0 to.length]), (29, .L 4 (x.2))]) (fun (x : Int × List T) => 0 ≤ (x.1) ∧ (x.1) ≤ to.length ∧ (x.2) = (placed none to (C.map some) (x.1).toNat).map tOf ∧ (to.take (x.1).toNat).Nodup ∧ ∀ t, t ∈ to.take (x.1).toNat → 0 ≤ t ∧ t < to.length) (fun (x : Int × List T) => Int.toNat (to.length - (x.1))) (0, List.replicate to.length (Func.tt zF)) ?_ ?_ ?_ (fun x hx => ?_)
  · repeat (first | exact Sub.nil' | refine Sub.cons' rfl ?_ )
  · repeat (first | exact SubM.nil' | refine SubM.cons' rfl ?_ )
  · exact ⟨by omega, by omega, (by rw [show (0 : Int).toNat = 0 from rfl, placed, List.map_replicate]; rfl), List.nodup_nil, by simp⟩
  obtain ⟨k, zs⟩ := x
  obtain ⟨hk0, hk1, hzs, hnd, hr⟩ := hx
  try dsimp only at hk0 hk1 hzs hnd hr ⊢
  refine W_norm rfl ?_
  refine W_seq ?_
  refine W_region ?_
  refine ev ?_
  refine WO_nil ?_
  refine thenQ_n ?_
  refine W_seq ?_
  refine W_cond rfl (fun h4 => ?_) (fun h4 => ?_)
  ·
    try simp only [HS] at h4
    refine W_skip ?_
    refine thenQ_n ?_
    refine W_seq ?_
    refine W_block ?_
    refine W_seq ?_
    refine W_region ?_
    refine ev ?_
    have hkl : k.toNat < C.length := by omega
    obtain ⟨v0, v1, v2, v3, hv⟩ : ∃ v0 v1 v2 v3, (C[k.toNat]'hkl).2 = [v0, v1, v2, v3] := by
     have h4 := hC2 _ (List.getElem_mem hkl)
     match (C[k.toNat]'hkl).2, h4 with
     | [v0, v1, v2, v3], _ => exact ⟨_, _, _, _, rfl⟩
    have hy : (toldF C)[k.toNat]? = some (.agg [.v v0, .v v1, .v v2, .v v3]) := by rw [toldF, List.getElem?_map, List.getElem?_eq_getElem hkl]; simp [hv]
    have hzl : zs.length = to.length := by rw [hzs, List.length_map, placed_length]
    first | refine WO_idxT tys rfl rfl (lt_of rfl) rfl rfl rfl rfl rfl rfl rfl (by omega) _ (getT _ _ (by omega) (by omega)) ?_ | refine WO_idxS tys rfl rfl (lt_of rfl) rfl rfl rfl rfl rfl rfl rfl rfl (by omega) (by omega) ?_
    first | (refine ev ?_; try refine WO_le (Le.freeze (u := 39) rfl) ?_) | refine WO_loadL tys rfl rfl (lt_of rfl) rfl rfl rfl rfl ((by rw [Nat.zero_add]; exact hy)) rfl ?_
    refine WO_norm rfl ?_
    refine WO_alloc tys rfl rfl (lt_of rfl) rfl rfl rfl ?_
    refine WO_norm rfl ?_
    refine ev ?_
    refine WO_store tys rfl rfl rfl rfl rfl rfl rfl rfl (lt_of rfl) ?_
    refine WO_norm rfl ?_
    refine WO_nil ?_
    refine thenQ_n ?_
    iterate 2 (refine W_seq ?_)
    refine W_keep [1, 2, 4, 5, 6, 7, 8, 33, 34, 35, 36, 37, 38, 39] rfl ?_
    refine W_regionD mixed (by kernel_rfl) ?_
    refine evQ ?_
    refine evQ ?_
    first | refine QL_idxT tys rfl rfl (lt_of rfl) rfl rfl rfl rfl rfl rfl rfl (by omega) _ (getT _ _ (by omega) (by omega)) ?_ | refine QL_idxS tys rfl rfl (lt_of rfl) rfl rfl rfl rfl rfl rfl rfl rfl (by omega) (by omega) ?_
    first | refine evQ ?_ | refine QL_loadL tys rfl rfl (lt_of rfl) rfl rfl rfl rfl ((by rw [Nat.zero_add]; exact hy)) rfl ?_
    refine evQ ?_
    refine evEQ ?_
    refine QL_norm rfl ?_
    refine evIQ ?_
    refine callBQ ?_
    refine ⟨_, within_fun _ _ _, rfl, ?_⟩
    refine evQ ?_
    refine evQ ?_
    refine QL_split (fun h5 => ?_) (fun h5 => ?_)
    ·
      try simp only [HS] at h5
      iterate 8 (refine QL_guardN rfl rfl rfl rfl rfl (lt_of rfl) ?_)
      refine evQ ?_
      refine QL_nil ?_
      refine thenQ_n ?_
      refine W_condT rfl ?_
      refine W_seq ?_
      refine W_region ?_
      refine WO_struct tys rfl rfl (lt_of rfl) rfl rfl rfl (by kernel_rfl) rfl rfl rfl rfl rfl rfl ?_
      refine WO_store tys rfl rfl rfl rfl rfl rfl rfl rfl (lt_of rfl) ?_
      refine WO_norm rfl ?_
      refine ev ?_
      refine WO_nil ?_
      refine thenQ_n ?_
      try (refine W_le (Le.nilBox (u := 4) (j := 0) 4 rfl rfl) ?_; refine W_norm rfl ?_)
      refine W_ret ?_
      refine thenQ_r ?_
      refine inBlk_r ?_
      refine thenQ_r ?_
      refine loopQ_r ?_
      refine inBlk_r ?_
      refine thenQ_r ?_
      refine Ends_of (.inr rfl) (ret_okF rfl) (by decide) rfl ?_
      · first
        | exact move_no (to := to) (by rw [moveB, h1]; rfl)
        | exact move_no (to := to) (by rw [moveB, h1, decide_eq_false (by omega)]; rfl)
        | exact move_no (to := to) (by rw [moveB, atI_at (by omega) (by omega), decide_eq_false h3, Bool.and_false]; rfl)
        | exact move_no (to := to) (by rw [moveB, decide_eq_false (not_nodup (k := k.toNat) (by omega) (by assumption)), Bool.and_false])
        | exact move_no (to := to) (by rw [moveB, allIn_no hk0 (by omega) (by assumption), Bool.and_false]; rfl)
        | exact move_yes (p := p) (to := to) (by
           rw [moveB, h1, decide_eq_true (show to.length = p.funcs.length by omega), atI_at (by omega) (by omega), decide_eq_true h3, decide_eq_true hnd, allIn_of (fun t ht => by have := hr t ht; omega)]; rfl) (by
           show ((C'.map (·.1)).map (movF to)).map Func.tt = _
           rw [placedC to hC' hC1])
        | skip
    try simp only [HS] at h5
    refine QL_guardY rfl rfl rfl rfl (lt_of rfl) ?_
    refine evQ ?_
    refine QL_guardY rfl rfl rfl rfl (lt_of rfl) ?_
    refine evQ ?_
    refine QL_norm rfl ?_
    refine QL_guardY rfl rfl rfl rfl (lt_of rfl) ?_
    first | refine WO_sliceNil tys rfl rfl (lt_of rfl) rfl rfl rfl rfl rfl rfl rfl ?_ | refine QL_sliceT tys rfl rfl (lt_of rfl) rfl rfl rfl rfl rfl rfl rfl rfl (by first | omega | (simp only [List.length_map]; omega)) (by first | omega | (simp only [List.length_map]; omega)) (by first | omega | (simp only [List.length_map]; omega)) ?_ | refine WO_sliceS tys rfl rfl (lt_of rfl) rfl rfl rfl rfl rfl rfl rfl rfl rfl (by omega) (by omega) (by omega) ?_
    refine QL_guardY rfl rfl rfl rfl (lt_of rfl) ?_
    refine evQ ?_
    refine QL_guardY rfl rfl rfl rfl (lt_of rfl) ?_
    refine evQ ?_
    refine QL_guardY rfl rfl rfl rfl (lt_of rfl) ?_
    first | refine QL_idxT tys rfl rfl (lt_of rfl) rfl rfl rfl rfl rfl rfl rfl (by omega) _ (getT _ _ (by omega) (by omega)) ?_ | refine QL_idxS tys rfl rfl (lt_of rfl) rfl rfl rfl rfl rfl rfl rfl rfl (by omega) (by omega) ?_
    refine QL_guardY rfl rfl rfl rfl (lt_of rfl) ?_
    first | refine evQ ?_ | refine QL_loadL tys rfl rfl (lt_of rfl) rfl rfl rfl rfl ((by rw [Nat.zero_add]; exact hy)) rfl ?_
    refine QL_guardY rfl rfl rfl rfl (lt_of rfl) ?_
    refine callBQ ?_
    refine ⟨_, Fun.arg0 (containsI_fun (to.take k.toNat) (to[k.toNat]'(by omega)) (by rw [List.length_take]; omega)) (by show T.list 1 _ = T.ints _; simp [T.ints, List.map_take]), rfl, ?_⟩
    refine QL_norm rfl ?_
    refine evQ ?_
    refine QL_nil ?_
    refine thenQ_n ?_
    refine W_cond rfl (fun h6 => ?_) (fun h6 => ?_)
    ·
      try simp only [HS] at h6
      refine W_seq ?_
      refine W_region ?_
      refine WO_struct tys rfl rfl (lt_of rfl) rfl rfl rfl (by kernel_rfl) rfl rfl rfl rfl rfl rfl ?_
      refine WO_store tys rfl rfl rfl rfl rfl rfl rfl rfl (lt_of rfl) ?_
      refine WO_norm rfl ?_
      refine ev ?_
      refine WO_nil ?_
      refine thenQ_n ?_
      try (refine W_le (Le.nilBox (u := 4) (j := 0) 4 rfl rfl) ?_; refine W_norm rfl ?_)
      refine W_ret ?_
      refine thenQ_r ?_
      refine inBlk_r ?_
      refine thenQ_r ?_
      refine loopQ_r ?_
      refine inBlk_r ?_
      refine thenQ_r ?_
      refine Ends_of (.inr rfl) (ret_okF rfl) (by decide) rfl ?_
      · first
        | exact move_no (to := to) (by rw [moveB, h1]; rfl)
        | exact move_no (to := to) (by rw [moveB, h1, decide_eq_false (by omega)]; rfl)
        | exact move_no (to := to) (by rw [moveB, atI_at (by omega) (by omega), decide_eq_false h3, Bool.and_false]; rfl)
        | exact move_no (to := to) (by rw [moveB, decide_eq_false (not_nodup (k := k.toNat) (by omega) (by assumption)), Bool.and_false])
        | exact move_no (to := to) (by rw [moveB, allIn_no hk0 (by omega) (by assumption), Bool.and_false]; rfl)
        | exact move_yes (p := p) (to := to) (by
           rw [moveB, h1, decide_eq_true (show to.length = p.funcs.length by omega), atI_at (by omega) (by omega), decide_eq_true h3, decide_eq_true hnd, allIn_of (fun t ht => by have := hr t ht; omega)]; rfl) (by
           show ((C'.map (·.1)).map (movF to)).map Func.tt = _
           rw [placedC to hC' hC1])
        | skip
    try simp only [HS] at h6
    refine W_skip ?_
    refine thenQ_n ?_
    refine W_regionDm 8 mixed rfl (by kernel_rfl) (by kernel_rfl) ?_
    iterate 4 (refine evQ ?_)
    first | refine QL_idxT tys rfl rfl (lt_of rfl) rfl rfl rfl rfl rfl rfl rfl (by omega) _ (getT _ _ (by omega) (by omega)) ?_ | refine QL_idxS tys rfl rfl (lt_of rfl) rfl rfl rfl rfl rfl rfl rfl rfl (by omega) (by omega) ?_
    refine QL_norm rfl ?_
    first | refine evQ ?_ | refine QL_loadL tys rfl rfl (lt_of rfl) rfl rfl rfl rfl ((by rw [Nat.zero_add]; exact hy)) rfl ?_
    first | refine QL_evZ tys rfl rfl (lt_of rfl) rfl rfl ?_ | refine evQ ?_ | refine WO_loadMove tys rfl rfl (lt_of rfl) rfl rfl rfl rfl rfl rfl ?_
    first | refine QL_idxT tys rfl rfl (lt_of rfl) rfl rfl rfl rfl rfl rfl rfl (by omega) _ (getT _ _ (by omega) (by omega)) ?_ | refine QL_idxS tys rfl rfl (lt_of rfl) rfl rfl rfl rfl rfl rfl rfl rfl (by omega) (by omega) ?_
    refine QL_nil ?_
    first | refine WO_storeE tys (.agg [.v v0, .v v1, .v v2, .v v3]) rfl rfl rfl rfl rfl rfl (by first | exact Nat.zero_add _ | rfl) (by omega) rfl (by repeat (first | exact AbsL.nil' | refine AbsL.v' ?_ | refine AbsL.own' ?_)) rfl rfl rfl ?_ | refine WO_storeL tys _ rfl rfl rfl rfl rfl rfl (getT _ _ (by omega) (by omega)) rfl (by repeat (first | exact AbsL.nil' | refine AbsL.v' ?_ | refine AbsL.own' ?_)) rfl (by decide) (by decide) ?_
    refine WO_norm rfl ?_
    refine WO_nil ?_
    refine inBlk_n ?_
    refine thenQ_n ?_
    refine W_region ?_
    refine evI ?_
    refine ev ?_
    refine WO_nil ?_
    refine loopQ_n (_, _) (by (try dsimp only); repeat (first | exact Sub.nil' | refine Sub.cons' rfl ?_ )) (by (try dsimp only); repeat (first | exact SubM.nil' | refine SubM.cons' rfl ?_ )) ?_ ?_
    · try dsimp only
      rw [show (k + 1).toNat = k.toNat + 1 from by omega]
      refine ⟨by omega, by omega, ?_, take_nodup (by omega) hnd (by assumption), ?_⟩
      · rw [placed_succ _ _ _ (by omega) (by rw [List.length_map]; omega), List.map_set, ← hzs, List.getElem_map]
        show _ = zs.set _ (T.agg ((C[k.toNat]'hkl).2.map T.v))
        rw [hv]
        rfl
      · intro x hx
        rw [List.take_succ_eq_append_getElem (by omega)] at hx
        rcases List.mem_append.1 hx with hx | hx
        · exact hr x hx
        · rw [List.mem_singleton] at hx
          subst hx
          omega
    · (show Int.toNat _ < Int.toNat _); omega
  try simp only [HS] at h4
  refine W_exit ?_
  refine thenQ_e ?_
  refine loopQ_e ?_
  refine inBlk_y ?_
  refine thenQ_n ?_
  refine W_seq ?_
  refine W_region ?_
  have hkn : k.toNat = to.length := by omega
  rw [hkn, List.take_length] at hnd hr
  obtain ⟨C', hC', hperm⟩ := placed_some hr hnd (show C.length = to.length by omega)
  have hC2' : ∀ c, c ∈ C' → c.2.length = 4 := fun c hc => hC2 c (hperm.mem_iff.2 hc)
  have hlC : C'.length = to.length := by rw [← hperm.length_eq]; omega
  have hzs' : zs = toldF C' := by rw [hzs, hkn, hC', List.map_map]; rfl
  have hfs : (C'.map (·.1)).Perm p.funcs := by rw [← hC1]; exact (hperm.map _).symm
  have hpo : (Prog.ok 1048576 ⟨C'.map (·.1)⟩) := ⟨⟨by rw [hfs.length_eq]; exact hp.1.1, fun f hf => hp.1.2 f (hfs.mem_iff.1 hf)⟩, hp.2⟩
  clear hzs
  subst hzs'
  refine WO_norm rfl ?_
  refine WO_le (Le.rawPerm (idp := 133) (g := fun f => T.cells (Func.tt f)) (n := 4) (C := C) (C' := C') rfl (fun _ => rfl) hC2 rfl (by rw [hC1, List.flatMap_map]) hperm) ?_
  refine WO_norm rfl ?_
  refine WO_le (Le.claimAll (id := 29) (idp := 133) (xs := (C'.map (·.1)).map Func.tt) (ys := toldF C') rfl rfl (toldF_flat C') (by rw [List.flatMap_map]) (by simp [toldF]) (cellsF _) rfl) ?_
  refine WO_norm rfl ?_
  refine WO_le (Le.gatherBox (u := 6) (j := 0) (id := 29) rfl rfl rfl (by simp [hlC]) rfl) ?_
  rw [show ((C'.map (·.1)).map Func.tt).take to.length = (C'.map (·.1)).map Func.tt from List.take_of_length_le (by simp [hlC])]
  refine WO_norm rfl ?_
  refine WO_exposeBox (u := 6) (idp := 134) (j := 0) rfl rfl rfl (fun v => ?_)
  refine WO_norm rfl ?_
  refine ev ?_
  iterate 2 (refine WO_norm rfl ?_)
  refine ev ?_
  refine WO_writeS (id := 134) (us := [v]) rfl rfl (lt_of rfl) rfl rfl rfl rfl rfl rfl rfl (renumber_w ⟨C'.map (·.1)⟩ to hpo (fun f hf => goodP_seqs h1 (by omega) f (hfs.mem_iff.1 hf)) ht) ?_
  refine WO_norm rfl ?_
  refine WO_le (Le.claimBox (u := 6) (idp := 134) (j := 0) rfl rfl rfl rfl) ?_
  refine WO_norm rfl ?_
  refine WO_nil ?_
  refine thenQ_n ?_
  refine W_seq ?_
  refine W_region ?_
  first | (refine ev ?_; try refine WO_le (Le.freeze (u := 72) rfl) ?_) | refine WO_loadMove tys rfl rfl (lt_of rfl) rfl rfl rfl rfl rfl rfl ?_
  refine WO_norm rfl ?_
  refine WO_store tys rfl rfl rfl rfl rfl rfl rfl rfl (lt_of rfl) ?_
  refine WO_norm rfl ?_
  refine ev ?_
  refine WO_nil ?_
  refine thenQ_n ?_
  try (refine W_le (Le.nilBox (u := 4) (j := 0) 4 rfl rfl) ?_; refine W_norm rfl ?_)
  refine W_ret ?_
  refine Ends_of (.inr rfl) (ret_okF rfl) (by decide) rfl ?_
  · first
    | exact move_no (to := to) (by rw [moveB, h1]; rfl)
    | exact move_no (to := to) (by rw [moveB, h1, decide_eq_false (by omega)]; rfl)
    | exact move_no (to := to) (by rw [moveB, atI_at (by omega) (by omega), decide_eq_false h3, Bool.and_false]; rfl)
    | exact move_no (to := to) (by rw [moveB, decide_eq_false (not_nodup (k := k.toNat) (by omega) (by assumption)), Bool.and_false])
    | exact move_no (to := to) (by rw [moveB, allIn_no hk0 (by omega) (by assumption), Bool.and_false]; rfl)
    | exact move_yes (p := p) (to := to) (by
       rw [moveB, h1, decide_eq_true (show to.length = p.funcs.length by omega), atI_at (by omega) (by omega), decide_eq_true h3, decide_eq_true hnd, allIn_of (fun t ht => by have := hr t ht; omega)]; rfl) (by
       show ((C'.map (·.1)).map (movF to)).map Func.tt = _
       rw [placedC to hC' hC1])
    | skip

end Go.Proofs.Ytjnkcoaiccbmpaa
