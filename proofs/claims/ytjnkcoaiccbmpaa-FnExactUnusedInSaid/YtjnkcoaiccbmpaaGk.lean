/- Walks of ReachFrom and UnusedIn, and their laws. -/
import Derived.Test.YtjnkcoaiccbmpaaGh
import Derived.Test.YtjnkcoaiccbmpaaFt
set_option linter.unusedVariables false
set_option linter.unusedSimpArgs false
set_option maxRecDepth 10000
set_option maxHeartbeats 1000000
namespace Go.Proofs.Ytjnkcoaiccbmpaa
open Go.Eng

def reachOk (p : Prog) (fn : Int) : Bool := goodP p && decide (0 ≤ fn ∧ fn ≤ (p.funcs.length : Int) - 1)
def reachR (p : Prog) (fn : Int) : List Int := if reachOk p fn then reachP p fn else []
theorem reach_no {p : Prog} {fn : Int} (h : reachOk p fn = false) : [D.t (T.list 1 []), D.t (T.v (.bool false))] = [D.t (T.ints (reachR p fn)), D.t (T.bool (reachOk p fn))] := by
  rw [reachR, h]; rfl
theorem reach_yes {p : Prog} {fn : Int} (h : reachOk p fn = true) : [D.t (T.ints (reachP p fn)), D.t (T.v (.bool true))] = [D.t (T.ints (reachR p fn)), D.t (T.bool (reachOk p fn))] := by
  rw [reachR, h]; rfl
theorem reach_noO {p : Prog} {fn : Int} (h : reachOk p fn = false) : [D.own (T.list 1 []), D.t (T.v (.bool false))] = [D.own (T.ints (reachR p fn)), D.t (T.bool (reachOk p fn))] := by
  rw [reachR, h]; rfl
theorem reach_yesO {p : Prog} {fn : Int} (h : reachOk p fn = true) : [D.own (T.ints (reachP p fn)), D.t (T.v (.bool true))] = [D.own (T.ints (reachR p fn)), D.t (T.bool (reachOk p fn))] := by
  rw [reachR, h]; rfl

theorem specReach_fun (p : Prog) (fn : Int) (hp : p.ok 1048576) : Fun Try.prog 32 [.t p.tt, .t (.int fn)] (tupD [.t (T.ints (reachR p fn)), .t (.bool (reachOk p fn))]) := by
  have hpl : p.funcs.length ≤ 1048576 := hp.1.1
  refine Fun.begin tys Try.func32 rfl rfl (N := 21) [(0, .t p.tt), (1, .t (.int fn))] rfl rfl (fun w0 G F0 => ?_)
  refine W_seq ?_
  refine W_region ?_
  refine WO_box rfl rfl (lt_of rfl) rfl rfl ?_
  refine WO_norm rfl ?_
  refine ev ?_
  refine WO_le (Le.nilT (u := 4) 1 rfl) ?_
  refine WO_norm rfl ?_
  refine ev ?_
  refine WO_nil ?_
  refine thenQ_n ?_
  refine W_seq ?_
  refine W_seq ?_
  refine W_region ?_
  first | (refine ev ?_; try refine WO_le (Le.freeze (u := 6) rfl) ?_) | refine WO_loadMove tys rfl rfl (lt_of rfl) rfl rfl rfl rfl rfl rfl ?_
  refine WO_norm rfl ?_
  refine callB ?_
  refine ⟨_, goodProg_fun p hp, rfl, ?_⟩
  refine ev ?_
  refine ev ?_
  refine WO_guard rfl rfl rfl rfl (lt_of rfl) (fun h1 => ?_) (fun h1 => ?_)
  rotate_left
  ·
    try simp only [HS] at h1
    refine WO_guardN rfl rfl rfl rfl rfl (lt_of rfl) ?_
    refine WO_guardN rfl rfl rfl rfl rfl (lt_of rfl) ?_
    refine WO_keep [1, 2, 4, 5, 9, 10, 12] rfl ?_
    refine WO_guardN rfl rfl rfl rfl rfl (lt_of rfl) ?_
    refine WO_guardN rfl rfl rfl rfl rfl (lt_of rfl) ?_
    refine WO_guardN rfl rfl rfl rfl rfl (lt_of rfl) ?_
    refine WO_guardN rfl rfl rfl rfl rfl (lt_of rfl) ?_
    refine ev ?_
    refine WO_nil ?_
    refine thenQ_n ?_
    refine W_condT rfl ?_
    refine W_seq ?_
    refine W_region ?_
    refine ev ?_
    refine WO_le (Le.nilT (u := 4) 1 rfl) ?_
    refine WO_norm rfl ?_
    refine ev ?_
    refine WO_nil ?_
    refine thenQ_n ?_
    refine W_ret ?_
    refine thenQ_r ?_
    refine Ends_of (.inr rfl) (ret_okF rfl) (by decide) rfl ?_
    · first
      | exact reach_no (by rw [reachOk, h1]; rfl)
      | exact reach_no (by rw [reachOk, h1, decide_eq_false h2]; rfl)
      | exact reach_yes (by rw [reachOk, h1, decide_eq_true h2]; rfl)
  try simp only [HS] at h1
  refine ev ?_
  refine WO_guardY rfl rfl rfl rfl (lt_of rfl) ?_
  refine ev ?_
  refine WO_keep [1, 2, 4, 5, 9, 10, 11] rfl ?_
  refine WO_guardY rfl rfl rfl rfl (lt_of rfl) ?_
  refine ev ?_
  refine WO_guardY rfl rfl rfl rfl (lt_of rfl) ?_
  refine evE ?_
  refine WO_guardY rfl rfl rfl rfl (lt_of rfl) ?_
  refine evI ?_
  refine WO_guardY rfl rfl rfl rfl (lt_of rfl) ?_
  refine callB ?_
  refine ⟨_, l1In_fun _ _ _, rfl, ?_⟩
  refine WO_guardY rfl rfl rfl rfl (lt_of rfl) ?_
  refine ev ?_
  refine ev ?_
  refine WO_nil ?_
  refine thenQ_n ?_
  refine W_cond rfl (fun h2 => ?_) (fun h2 => ?_)
  ·
    try simp only [HS] at h2
    refine W_seq ?_
    refine W_region ?_
    refine ev ?_
    refine WO_le (Le.nilT (u := 4) 1 rfl) ?_
    refine WO_norm rfl ?_
    refine ev ?_
    refine WO_nil ?_
    refine thenQ_n ?_
    refine W_ret ?_
    refine thenQ_r ?_
    refine Ends_of (.inr rfl) (ret_okF rfl) (by decide) rfl ?_
    · first
      | exact reach_no (by rw [reachOk, h1]; rfl)
      | exact reach_no (by rw [reachOk, h1, decide_eq_false h2]; rfl)
      | exact reach_yes (by rw [reachOk, h1, decide_eq_true h2]; rfl)
  try simp only [HS] at h2
  refine W_skip ?_
  refine thenQ_n ?_
  refine W_seq ?_
  refine W_region ?_
  first | (refine ev ?_; try refine WO_le (Le.freeze (u := 18) rfl) ?_) | refine WO_loadMove tys rfl rfl (lt_of rfl) rfl rfl rfl rfl rfl rfl ?_
  refine WO_norm rfl ?_
  refine ev ?_
  refine WO_callF rfl rfl (lt_of rfl) rfl rfl rfl rfl rfl (l17Reach_fun p fn hp h1 (by omega) (by omega)) rfl ?_
  refine WO_keep [4, 5, 20] rfl ?_
  refine ev ?_
  refine ev ?_
  refine WO_nil ?_
  refine thenQ_n ?_
  refine W_ret ?_
  refine Ends_of (.inr rfl) (ret_okF rfl) (by decide) rfl ?_
  · first
    | exact reach_no (by rw [reachOk, h1]; rfl)
    | exact reach_no (by rw [reachOk, h1, decide_eq_false h2]; rfl)
    | exact reach_yes (by rw [reachOk, h1, decide_eq_true h2]; rfl)

theorem implReach_fun (p : Prog) (fn : Int) (hp : p.ok 1048576) : Fun Try.prog 33 [.t p.tt, .t (.int fn)] (tupD [.own (T.ints (reachR p fn)), .t (.bool (reachOk p fn))]) := by
  have hpl : p.funcs.length ≤ 1048576 := hp.1.1
  refine Fun.begin tys Try.func33 rfl rfl (N := 21) [(0, .t p.tt), (1, .t (.int fn))] rfl rfl (fun w0 G F0 => ?_)
  refine W_seq ?_
  refine W_region ?_
  refine WO_box rfl rfl (lt_of rfl) rfl rfl ?_
  refine WO_norm rfl ?_
  refine ev ?_
  refine WO_le (Le.nilOwn (u := 4) 1 rfl) ?_
  refine WO_norm rfl ?_
  refine ev ?_
  refine WO_nil ?_
  refine thenQ_n ?_
  refine W_seq ?_
  refine W_seq ?_
  refine W_region ?_
  first | (refine ev ?_; try refine WO_le (Le.freeze (u := 6) rfl) ?_) | refine WO_loadMove tys rfl rfl (lt_of rfl) rfl rfl rfl rfl rfl rfl ?_
  refine WO_norm rfl ?_
  refine callB ?_
  refine ⟨_, isProg_fun p hp, rfl, ?_⟩
  refine ev ?_
  refine ev ?_
  refine WO_guard rfl rfl rfl rfl (lt_of rfl) (fun h1 => ?_) (fun h1 => ?_)
  rotate_left
  ·
    try simp only [HS] at h1
    refine WO_guardN rfl rfl rfl rfl rfl (lt_of rfl) ?_
    refine WO_guardN rfl rfl rfl rfl rfl (lt_of rfl) ?_
    refine WO_keep [1, 2, 4, 5, 9, 10, 12] rfl ?_
    refine WO_guardN rfl rfl rfl rfl rfl (lt_of rfl) ?_
    refine WO_guardN rfl rfl rfl rfl rfl (lt_of rfl) ?_
    refine WO_guardN rfl rfl rfl rfl rfl (lt_of rfl) ?_
    refine WO_guardN rfl rfl rfl rfl rfl (lt_of rfl) ?_
    refine ev ?_
    refine WO_nil ?_
    refine thenQ_n ?_
    refine W_condT rfl ?_
    refine W_seq ?_
    refine W_region ?_
    refine ev ?_
    refine WO_le (Le.nilOwn (u := 4) 1 rfl) ?_
    refine WO_norm rfl ?_
    refine ev ?_
    refine WO_nil ?_
    refine thenQ_n ?_
    refine W_ret ?_
    refine thenQ_r ?_
    refine Ends_of (.inr rfl) (ret_okF rfl) (by decide) rfl ?_
    · first
      | exact reach_noO (by rw [reachOk, h1]; rfl)
      | exact reach_noO (by rw [reachOk, h1, decide_eq_false h2]; rfl)
      | exact reach_yesO (by rw [reachOk, h1, decide_eq_true h2]; rfl)
  try simp only [HS] at h1
  refine ev ?_
  refine WO_guardY rfl rfl rfl rfl (lt_of rfl) ?_
  refine ev ?_
  refine WO_keep [1, 2, 4, 5, 9, 10, 11] rfl ?_
  refine WO_guardY rfl rfl rfl rfl (lt_of rfl) ?_
  refine ev ?_
  refine WO_guardY rfl rfl rfl rfl (lt_of rfl) ?_
  refine evE ?_
  refine WO_guardY rfl rfl rfl rfl (lt_of rfl) ?_
  refine evI ?_
  refine WO_guardY rfl rfl rfl rfl (lt_of rfl) ?_
  refine callB ?_
  refine ⟨_, within_fun _ _ _, rfl, ?_⟩
  refine WO_guardY rfl rfl rfl rfl (lt_of rfl) ?_
  refine ev ?_
  refine ev ?_
  refine WO_nil ?_
  refine thenQ_n ?_
  refine W_cond rfl (fun h2 => ?_) (fun h2 => ?_)
  ·
    try simp only [HS] at h2
    refine W_seq ?_
    refine W_region ?_
    refine ev ?_
    refine WO_le (Le.nilOwn (u := 4) 1 rfl) ?_
    refine WO_norm rfl ?_
    refine ev ?_
    refine WO_nil ?_
    refine thenQ_n ?_
    refine W_ret ?_
    refine thenQ_r ?_
    refine Ends_of (.inr rfl) (ret_okF rfl) (by decide) rfl ?_
    · first
      | exact reach_noO (by rw [reachOk, h1]; rfl)
      | exact reach_noO (by rw [reachOk, h1, decide_eq_false h2]; rfl)
      | exact reach_yesO (by rw [reachOk, h1, decide_eq_true h2]; rfl)
  try simp only [HS] at h2
  refine W_skip ?_
  refine thenQ_n ?_
  refine W_seq ?_
  refine W_region ?_
  first | (refine ev ?_; try refine WO_le (Le.freeze (u := 18) rfl) ?_) | refine WO_loadMove tys rfl rfl (lt_of rfl) rfl rfl rfl rfl rfl rfl ?_
  refine WO_norm rfl ?_
  refine ev ?_
  refine callB ?_
  refine ⟨_, reachFrom_fun p fn hp h1 (by omega) (by omega), rfl, ?_⟩
  refine WO_keep [4, 5, 20] rfl ?_
  refine WO_moveAll rfl rfl (lt_of rfl) (.inl rfl) rfl rfl ?_
  refine ev ?_
  refine WO_nil ?_
  refine thenQ_n ?_
  refine W_ret ?_
  refine Ends_of (.inr rfl) (ret_okF rfl) (by decide) rfl ?_
  · first
    | exact reach_noO (by rw [reachOk, h1]; rfl)
    | exact reach_noO (by rw [reachOk, h1, decide_eq_false h2]; rfl)
    | exact reach_yesO (by rw [reachOk, h1, decide_eq_true h2]; rfl)

def unusedP (p : Prog) : List Int := pickN p.funcs.length fun k => !decide (k ∈ reachP p 0)
def unusedR (p : Prog) : List Int := if goodP p then unusedP p else []
theorem unused_no {p : Prog} (h : goodP p = false) : [D.own (T.list 1 []), D.t (T.v (.bool false))] = [D.own (T.ints (unusedR p)), D.t (T.bool (goodP p))] := by
  rw [unusedR, h]; rfl
theorem unused_yes {p : Prog} {l : List Int} (h : goodP p = true) (hl : l = unusedP p) : [D.own (T.list 1 (l.map T.int)), D.t (T.v (.bool true))] = [D.own (T.ints (unusedR p)), D.t (T.bool (goodP p))] := by
  rw [unusedR, h, hl]; rfl

theorem specUnused_fun (p : Prog) (hp : p.ok 1048576) : Fun Try.prog 38 [.t p.tt] (tupD [.own (T.ints (unusedR p)), .t (.bool (goodP p))]) := by
  have hpl : p.funcs.length ≤ 1048576 := hp.1.1
  refine Fun.begin tys Try.func38 rfl rfl (N := 28) [(0, .t p.tt)] rfl rfl (fun w0 G F0 => ?_)
  refine W_seq ?_
  refine W_region ?_
  refine WO_box rfl rfl (lt_of rfl) rfl rfl ?_
  refine WO_norm rfl ?_
  refine ev ?_
  refine WO_le (Le.nilOwn (u := 2) 1 rfl) ?_
  refine WO_norm rfl ?_
  refine ev ?_
  refine WO_nil ?_
  refine thenQ_n ?_
  refine W_seq ?_
  refine W_seq ?_
  refine W_region ?_
  first | (refine ev ?_; try refine WO_le (Le.freeze (u := 7) rfl) ?_) | refine WO_loadMove tys rfl rfl (lt_of rfl) rfl rfl rfl rfl rfl rfl ?_
  refine WO_norm rfl ?_
  refine callB ?_
  refine ⟨_, goodProg_fun p hp, rfl, ?_⟩
  refine ev ?_
  refine WO_nil ?_
  refine thenQ_n ?_
  refine W_cond rfl (fun h1 => ?_) (fun h1 => ?_)
  ·
    try simp only [HS] at h1
    refine W_seq ?_
    refine W_region ?_
    refine ev ?_
    refine WO_le (Le.nilOwn (u := 2) 1 rfl) ?_
    refine WO_norm rfl ?_
    refine ev ?_
    refine WO_nil ?_
    refine thenQ_n ?_
    try (refine W_le (Le.gather (u := 2) (id := 4) rfl rfl (by omega)) ?_)
    refine W_ret ?_
    refine thenQ_r ?_
    refine Ends_of (.inr rfl) (ret_okF rfl) (by decide) rfl ?_
    · first
      | exact unused_no h1
      | (rw [hm, List.take_length, hws]; exact unused_yes h1 (pickT_end (by omega)))
  try simp only [HS] at h1
  refine W_skip ?_
  refine thenQ_n ?_
  refine W_seq ?_
  refine W_region ?_
  refine ev ?_
  refine WO_le (Le.nilOwn (u := 4) 1 rfl) ?_
  refine WO_le (Le.adoptE (u := 4) 4 rfl rfl) ?_
  refine WO_norm rfl ?_
  refine WO_nil ?_
  refine thenQ_n ?_
  refine W_seq ?_
  refine W_keep [1, 2, 3, 4] rfl ?_
  refine W_region ?_
  first | (refine ev ?_; try refine WO_le (Le.freeze (u := 10) rfl) ?_) | refine WO_loadMove tys rfl rfl (lt_of rfl) rfl rfl rfl rfl rfl rfl ?_
  refine WO_norm rfl ?_
  refine WO_callF rfl rfl (lt_of rfl) rfl rfl rfl rfl rfl (l17Reach_fun p 0 hp h1 (by omega) (by have := goodP_len h1; omega)) rfl ?_
  refine ev ?_
  refine WO_nil ?_
  refine thenQ_n ?_
  refine W_seq ?_
  refine W_seq ?_
  refine W_region ?_
  refine ev ?_
  refine ev ?_
  refine evE ?_
  refine ev ?_
  refine WO_nil ?_
  refine thenQ_n ?_
  refine W_block ?_
  refine W_loopK (α := Int × Nat × List T) [5, 13, 14] [] (fun (x : Int × Nat × List T) => [(15, .t (.int (x.1))), (4, .sl 4 0 (x.2.1))]) (fun (x : Int × Nat × List T) => [(4, .L 1 (x.2.2))]) (fun (x : Int × Nat × List T) => 0 ≤ (x.1) ∧ (x.1) ≤ p.funcs.length ∧ (x.2.1) = (x.2.2).length ∧ (x.2.2).length ≤ (x.1) ∧ (x.2.2) = (pickT p.funcs.length (fun k => !decide (k ∈ reachP p 0)) (x.1)).map T.int) (fun (x : Int × Nat × List T) => Int.toNat (p.funcs.length - (x.1))) (0, 0, []) ?_ ?_ ?_ (fun x hx => ?_)
  · repeat (first | exact Sub.nil' | refine Sub.cons' rfl ?_ )
  · repeat (first | exact SubM.nil' | refine SubM.cons' rfl ?_ )
  · exact ⟨by omega, by omega, rfl, by simp, rfl⟩
  obtain ⟨q, m, ws⟩ := x
  obtain ⟨hq0, hq1, hm, hwl, hws⟩ := hx
  try dsimp only at hq0 hq1 hm hwl hws ⊢
  refine W_norm rfl ?_
  refine W_seq ?_
  refine W_region ?_
  refine ev ?_
  refine WO_nil ?_
  refine thenQ_n ?_
  refine W_seq ?_
  refine W_cond rfl (fun h2 => ?_) (fun h2 => ?_)
  ·
    try simp only [HS] at h2
    refine W_skip ?_
    refine thenQ_n ?_
    refine W_seq ?_
    refine W_block ?_
    refine W_seq ?_
    refine W_region ?_
    refine ev ?_
    refine ev ?_
    refine WO_nil ?_
    refine thenQ_n ?_
    refine W_seq ?_
    refine W_region ?_
    refine ev ?_
    refine ev ?_
    refine callB ?_
    refine ⟨_, l1Has_fun _ _ (by have := reachP_len h1 0; omega), rfl, ?_⟩
    refine ev ?_
    refine WO_nil ?_
    refine thenQ_n ?_
    refine W_cond rfl (fun h3 => ?_) (fun h3 => ?_)
    ·
      try simp only [HS] at h3
      refine W_keep [4, 5, 6, 13, 14, 15, 16, 17, 18, 19, 20, 21] rfl ?_
      refine W_region ?_
      refine ev ?_
      refine ev ?_
      refine WO_buildSlice tys [T.int q] rfl rfl (lt_of rfl) rfl rfl rfl rfl rfl (lt_of rfl) (by repeat (first | exact PartsOk.nil' | refine PartsOk.cons' rfl (by repeat (first | exact AbsL.nil' | refine AbsL.v' ?_ | refine AbsL.own' ?_)) rfl ?_)) (by first | exact List.nodup_nil | exact nodup1 _ | decide) rfl (by decide) ?_
      refine WO_norm rfl ?_
      first | refine WO_append tys rfl rfl (lt_of rfl) rfl rfl rfl rfl rfl (.own rfl (by first | omega | (simp only [List.length_append]; omega))) rfl (.own rfl (by first | decide | omega)) (by decide) (by simp only [List.length_take, List.length_cons, List.length_nil]; omega) (by decide) rfl ?_ | refine WO_append tys rfl rfl (lt_of rfl) rfl rfl rfl rfl rfl .nil rfl (.own rfl (by first | decide | omega)) (by decide) (by simp only [List.length_take, List.length_cons, List.length_nil]; omega) (by decide) rfl ?_
      refine WO_norm rfl ?_
      refine ev ?_
      refine WO_nil ?_
      refine inBlk_n ?_
      refine thenQ_n ?_
      refine W_region ?_
      refine evI ?_
      refine ev ?_
      refine WO_nil ?_
      refine loopQ_n (_, _, _) (by (try dsimp only); repeat (first | exact Sub.nil' | refine Sub.cons' rfl ?_ )) (by (try dsimp only); repeat (first | exact SubM.nil' | refine SubM.cons' rfl ?_ )) ?_ ?_
      · try dsimp only
        subst hm
        first
        | (refine ⟨by omega, by omega, by simp, by simp; omega, ?_⟩; rw [List.take_length, hws, pickT_at hq0 (by omega), if_pos (by simpa using h3), List.map_append]; rfl)
        | (refine ⟨by omega, by omega, rfl, by omega, ?_⟩; rw [hws, pickT_at hq0 (by omega), if_neg (by simpa using h3), List.append_nil]; done)
      · (show Int.toNat _ < Int.toNat _); omega
    try simp only [HS] at h3
    refine W_skip ?_
    refine inBlk_n ?_
    refine thenQ_n ?_
    refine W_keep [4, 5, 6, 13, 14, 15, 16, 17, 18, 19, 20, 21] rfl ?_
    refine W_region ?_
    refine evI ?_
    refine ev ?_
    refine WO_nil ?_
    refine loopQ_n (_, _, _) (by (try dsimp only); repeat (first | exact Sub.nil' | refine Sub.cons' rfl ?_ )) (by (try dsimp only); repeat (first | exact SubM.nil' | refine SubM.cons' rfl ?_ )) ?_ ?_
    · try dsimp only
      subst hm
      first
      | (refine ⟨by omega, by omega, by simp, by simp; omega, ?_⟩; rw [List.take_length, hws, pickT_at hq0 (by omega), if_pos (by simpa using h3), List.map_append]; rfl)
      | (refine ⟨by omega, by omega, rfl, by omega, ?_⟩; rw [hws, pickT_at hq0 (by omega), if_neg (by simpa using h3), List.append_nil]; done)
    · (show Int.toNat _ < Int.toNat _); omega
  try simp only [HS] at h2
  refine W_exit ?_
  refine thenQ_e ?_
  refine loopQ_e ?_
  refine inBlk_y ?_
  refine thenQ_n ?_
  refine W_seq ?_
  refine W_region ?_
  refine ev ?_
  refine ev ?_
  refine ev ?_
  refine WO_nil ?_
  refine thenQ_n ?_
  try (refine W_le (Le.gather (u := 2) (id := 4) rfl rfl (by omega)) ?_)
  refine W_ret ?_
  refine Ends_of (.inr rfl) (ret_okF rfl) (by decide) rfl ?_
  · first
    | exact unused_no h1
    | (rw [hm, List.take_length, hws]; exact unused_yes h1 (pickT_end (by omega)))

theorem unusedIn_fun (p : Prog) (hp : p.ok 1048576) (hg : goodP p = true) : Fun Try.prog 69 [.t p.tt] (tupD [.own (T.ints (unusedP p))]) := by
  have hgl := goodP_len hg
  have hrl := reachP_len hg 0
  refine Fun.begin tys Try.func69 rfl rfl (N := 24) [(0, .t p.tt)] rfl rfl (fun w0 G F0 => ?_)
  refine W_seq ?_
  refine W_region ?_
  refine WO_box rfl rfl (lt_of rfl) rfl rfl ?_
  refine WO_norm rfl ?_
  refine ev ?_
  refine WO_nil ?_
  refine thenQ_n ?_
  refine W_seq ?_
  refine W_region ?_
  first | (refine ev ?_; try refine WO_le (Le.freeze (u := 6) rfl) ?_) | refine WO_loadMove tys rfl rfl (lt_of rfl) rfl rfl rfl rfl rfl rfl ?_
  refine WO_norm rfl ?_
  refine callB ?_
  refine ⟨_, reachFrom_fun p 0 hp hg (by omega) (by omega), rfl, ?_⟩
  refine WO_le (Le.adoptE (u := 7) 7 rfl (by first | exact lenN | exact rfl)) ?_
  refine WO_norm rfl ?_
  refine ev ?_
  refine WO_nil ?_
  refine thenQ_n ?_
  refine W_seq ?_
  refine W_region ?_
  refine ev ?_
  refine WO_le (Le.nilOwn (u := 4) 1 rfl) ?_
  refine WO_le (Le.adoptE (u := 4) 4 rfl rfl) ?_
  refine WO_norm rfl ?_
  refine WO_nil ?_
  refine thenQ_n ?_
  refine W_seq ?_
  refine W_seq ?_
  refine W_region ?_
  refine ev ?_
  refine ev ?_
  refine evE ?_
  refine WO_keep [2, 3, 4, 10] rfl ?_
  refine ev ?_
  refine WO_nil ?_
  refine thenQ_n ?_
  refine W_block ?_
  refine W_loopK (α := Int × Nat × List T) [3, 9, 10] [7] (fun (x : Int × Nat × List T) => [(11, .t (.int (x.1))), (4, .sl 4 0 (x.2.1))]) (fun (x : Int × Nat × List T) => [(4, .L 1 (x.2.2))]) (fun (x : Int × Nat × List T) => 0 ≤ (x.1) ∧ (x.1) ≤ p.funcs.length ∧ (x.2.1) = (x.2.2).length ∧ (x.2.2).length ≤ (x.1) ∧ (x.2.2) = (pickT p.funcs.length (fun k => !decide (k ∈ reachP p 0)) (x.1)).map T.int) (fun (x : Int × Nat × List T) => Int.toNat (p.funcs.length - (x.1))) (0, 0, []) ?_ ?_ ?_ (fun x hx => ?_)
  · repeat (first | exact Sub.nil' | refine Sub.cons' rfl ?_ )
  · repeat (first | exact SubM.nil' | refine SubM.cons' rfl ?_ )
  · exact ⟨by omega, by omega, rfl, by simp, rfl⟩
  obtain ⟨q, m, ws⟩ := x
  obtain ⟨hq0, hq1, hm, hwl, hws⟩ := hx
  try dsimp only at hq0 hq1 hm hwl hws ⊢
  refine W_norm rfl ?_
  refine W_seq ?_
  refine W_region ?_
  refine ev ?_
  refine WO_nil ?_
  refine thenQ_n ?_
  refine W_seq ?_
  refine W_cond rfl (fun h1 => ?_) (fun h1 => ?_)
  ·
    try simp only [HS] at h1
    refine W_skip ?_
    refine thenQ_n ?_
    refine W_seq ?_
    refine W_block ?_
    refine W_seq ?_
    refine W_region ?_
    refine ev ?_
    refine ev ?_
    refine WO_nil ?_
    refine thenQ_n ?_
    refine W_seq ?_
    refine W_region ?_
    refine ev ?_
    refine ev ?_
    refine callB ?_
    refine ⟨_, containsI_fun _ _ (by omega), rfl, ?_⟩
    refine ev ?_
    refine WO_nil ?_
    refine thenQ_n ?_
    refine W_cond rfl (fun h2 => ?_) (fun h2 => ?_)
    ·
      try simp only [HS] at h2
      refine W_keep [3, 4, 5, 9, 10, 11, 12, 13, 14, 15, 16, 17] rfl ?_
      refine W_region ?_
      refine ev ?_
      refine ev ?_
      refine WO_buildSlice tys [T.int q] rfl rfl (lt_of rfl) rfl rfl rfl rfl rfl (lt_of rfl) (by repeat (first | exact PartsOk.nil' | refine PartsOk.cons' rfl (by repeat (first | exact AbsL.nil' | refine AbsL.v' ?_ | refine AbsL.own' ?_)) rfl ?_)) (by first | exact List.nodup_nil | exact nodup1 _ | decide) rfl (by decide) ?_
      refine WO_norm rfl ?_
      first | refine WO_append tys rfl rfl (lt_of rfl) rfl rfl rfl rfl rfl (.own rfl (by first | omega | (simp only [List.length_append]; omega))) rfl (.own rfl (by first | decide | omega)) (by decide) (by simp only [List.length_take, List.length_cons, List.length_nil]; omega) (by decide) rfl ?_ | refine WO_append tys rfl rfl (lt_of rfl) rfl rfl rfl rfl rfl .nil rfl (.own rfl (by first | decide | omega)) (by decide) (by simp only [List.length_take, List.length_cons, List.length_nil]; omega) (by decide) rfl ?_
      refine WO_norm rfl ?_
      refine ev ?_
      refine WO_nil ?_
      refine inBlk_n ?_
      refine thenQ_n ?_
      refine W_region ?_
      refine evI ?_
      refine ev ?_
      refine WO_nil ?_
      refine loopQ_n (_, _, _) (by (try dsimp only); repeat (first | exact Sub.nil' | refine Sub.cons' rfl ?_ )) (by (try dsimp only); repeat (first | exact SubM.nil' | refine SubM.cons' rfl ?_ )) ?_ ?_
      · try dsimp only
        subst hm
        first
        | (refine ⟨by omega, by omega, by simp, by simp; omega, ?_⟩; rw [List.take_length, hws, pickT_at hq0 (by omega), if_pos (by simpa using h2), List.map_append]; rfl)
        | (refine ⟨by omega, by omega, rfl, by omega, ?_⟩; rw [hws, pickT_at hq0 (by omega), if_neg (by simpa using h2), List.append_nil]; done)
      · (show Int.toNat _ < Int.toNat _); omega
    try simp only [HS] at h2
    refine W_skip ?_
    refine inBlk_n ?_
    refine thenQ_n ?_
    refine W_keep [3, 4, 5, 9, 10, 11, 12, 13, 14, 15, 16, 17] rfl ?_
    refine W_region ?_
    refine evI ?_
    refine ev ?_
    refine WO_nil ?_
    refine loopQ_n (_, _, _) (by (try dsimp only); repeat (first | exact Sub.nil' | refine Sub.cons' rfl ?_ )) (by (try dsimp only); repeat (first | exact SubM.nil' | refine SubM.cons' rfl ?_ )) ?_ ?_
    · try dsimp only
      subst hm
      first
      | (refine ⟨by omega, by omega, by simp, by simp; omega, ?_⟩; rw [List.take_length, hws, pickT_at hq0 (by omega), if_pos (by simpa using h2), List.map_append]; rfl)
      | (refine ⟨by omega, by omega, rfl, by omega, ?_⟩; rw [hws, pickT_at hq0 (by omega), if_neg (by simpa using h2), List.append_nil]; done)
    · (show Int.toNat _ < Int.toNat _); omega
  try simp only [HS] at h1
  refine W_exit ?_
  refine thenQ_e ?_
  refine loopQ_e ?_
  refine inBlk_y ?_
  refine thenQ_n ?_
  refine W_seq ?_
  refine W_region ?_
  refine ev ?_
  refine ev ?_
  refine WO_nil ?_
  refine thenQ_n ?_
  refine W_le (Le.gather (u := 2) (id := 4) rfl rfl (by omega)) ?_
  refine W_ret ?_
  refine Ends_of (.inr rfl) (ret_okF rfl) (by decide) rfl ?_
  · (rw [hm, List.take_length, hws]; exact retOwnI (pickT_end (by omega)))

theorem implUnused_fun (p : Prog) (hp : p.ok 1048576) : Fun Try.prog 39 [.t p.tt] (tupD [.own (T.ints (unusedR p)), .t (.bool (goodP p))]) := by
  refine Fun.begin tys Try.func39 rfl rfl (N := 9) [(0, .t p.tt)] rfl rfl (fun w0 G F0 => ?_)
  refine W_seq ?_
  refine W_region ?_
  refine WO_box rfl rfl (lt_of rfl) rfl rfl ?_
  refine WO_norm rfl ?_
  refine ev ?_
  refine WO_le (Le.nilOwn (u := 2) 1 rfl) ?_
  refine WO_norm rfl ?_
  refine ev ?_
  refine WO_nil ?_
  refine thenQ_n ?_
  refine W_seq ?_
  refine W_seq ?_
  refine W_region ?_
  first | (refine ev ?_; try refine WO_le (Le.freeze (u := 4) rfl) ?_) | refine WO_loadMove tys rfl rfl (lt_of rfl) rfl rfl rfl rfl rfl rfl ?_
  refine WO_norm rfl ?_
  refine callB ?_
  refine ⟨_, isProg_fun p hp, rfl, ?_⟩
  refine ev ?_
  refine WO_nil ?_
  refine thenQ_n ?_
  refine W_cond rfl (fun h1 => ?_) (fun h1 => ?_)
  ·
    try simp only [HS] at h1
    refine W_seq ?_
    refine W_region ?_
    refine ev ?_
    refine WO_le (Le.nilOwn (u := 2) 1 rfl) ?_
    refine WO_norm rfl ?_
    refine ev ?_
    refine WO_nil ?_
    refine thenQ_n ?_
    refine W_ret ?_
    refine thenQ_r ?_
    refine Ends_of (.inr rfl) (ret_okF rfl) (by decide) rfl ?_
    · first
      | exact unused_no h1
      | exact unused_yes h1 rfl
  try simp only [HS] at h1
  refine W_skip ?_
  refine thenQ_n ?_
  refine W_seq ?_
  refine W_region ?_
  first | (refine ev ?_; try refine WO_le (Le.freeze (u := 7) rfl) ?_) | refine WO_loadMove tys rfl rfl (lt_of rfl) rfl rfl rfl rfl rfl rfl ?_
  refine WO_norm rfl ?_
  refine callB ?_
  refine ⟨_, unusedIn_fun p hp h1, rfl, ?_⟩
  refine WO_moveAll rfl rfl (lt_of rfl) (.inl rfl) rfl rfl ?_
  refine WO_keep [2, 3] rfl ?_
  refine ev ?_
  refine WO_nil ?_
  refine thenQ_n ?_
  refine W_ret ?_
  refine Ends_of (.inr rfl) (ret_okF rfl) (by decide) rfl ?_
  · first
    | exact unused_no h1
    | exact unused_yes h1 rfl

theorem reachR_len (p : Prog) (fn : Int) : (reachR p fn).length ≤ p.funcs.length := by
  unfold reachR
  split
  · exact reachL_len
  · exact Nat.zero_le _
theorem unusedR_len (p : Prog) : (unusedR p).length ≤ p.funcs.length := by
  unfold unusedR
  split
  · exact pickN_len ..
  · exact Nat.zero_le _
theorem eqIs_refl (l : List Int) : eqL eqI l l = true := eqL_refl eqI_refl l

theorem lawReach_fun (p : Prog) (fn : Int) (hp : p.ok 9223372036854775807) : Fun Try.prog 10 [.t p.tt, .t (.int fn)] (tupD [.t (.bool true)]) := by
  refine Fun.begin tys Try.func10 rfl rfl (N := 101) [(0, .t p.tt), (1, .t (.int fn))] rfl rfl (fun w0 G F0 => ?_)
  refine W_seq ?_
  refine W_region ?_
  refine WO_box rfl rfl (lt_of rfl) rfl rfl ?_
  refine WO_norm rfl ?_
  refine ev ?_
  refine WO_nil ?_
  refine thenQ_n ?_
  refine W_seq ?_
  refine W_region ?_
  refine ev ?_
  refine WO_nil ?_
  refine thenQ_n ?_
  refine W_seq ?_
  refine W_region ?_
  first | (refine ev ?_; try refine WO_le (Le.freeze (u := 16) rfl) ?_) | refine WO_loadMove tys rfl rfl (lt_of rfl) rfl rfl rfl rfl rfl rfl ?_
  refine WO_norm rfl ?_
  refine ev ?_
  refine callB ?_
  refine ⟨_, szProg_fun p 1048576 hp (by omega) (by omega), rfl, ?_⟩
  refine ev ?_
  refine WO_nil ?_
  refine thenQ_n ?_
  refine W_seq ?_
  refine W_seq ?_
  refine W_keep [1, 2, 4, 5] rfl ?_
  refine W_region ?_
  refine ev ?_
  refine ev ?_
  refine WO_nil ?_
  refine thenQ_n ?_
  refine W_cond rfl (fun h1 => ?_) (fun h1 => ?_)
  ·
    try simp only [HS] at h1
    refine W_seq ?_
    refine W_region ?_
    refine ev ?_
    refine WO_nil ?_
    refine thenQ_n ?_
    refine W_ret ?_
    refine thenQ_r ?_
    refine Ends_of (.inr rfl) (ret_okF rfl) (by decide) rfl ?_
    · rfl
  try simp only [HS] at h1
  refine W_skip ?_
  refine thenQ_n ?_
  refine W_seq ?_
  refine W_region ?_
  have okp := Prog.small h1
  have cp := ctProg_small h1
  have hfl : p.funcs.length ≤ 1048576 := okp.1.1
  have lr := reachR_len p fn
  first | (refine ev ?_; try refine WO_le (Le.freeze (u := 22) rfl) ?_) | refine WO_loadMove tys rfl rfl (lt_of rfl) rfl rfl rfl rfl rfl rfl ?_
  refine WO_norm rfl ?_
  refine callB ?_
  refine ⟨_, toProg_fun p okp, rfl, ?_⟩
  refine WO_le (Le.freeze (u := 23) rfl) ?_
  refine WO_norm rfl ?_
  refine ev ?_
  refine WO_callF rfl rfl (lt_of rfl) rfl rfl rfl rfl rfl (specReach_fun p fn okp) rfl ?_
  refine ev ?_
  first | refine WO_evF tys rfl rfl (lt_of rfl) (d := .t _) rfl ?_ | (refine WO_extract rfl rfl (lt_of rfl) rfl rfl rfl rfl ?_; first | refine WO_le (Le.adoptE (u := 26) 26 rfl (by first | exact lenN | exact rfl)) ?_ | skip)
  refine WO_norm rfl ?_
  first | refine WO_evF tys rfl rfl (lt_of rfl) (d := .t _) rfl ?_ | (refine WO_extract rfl rfl (lt_of rfl) rfl rfl rfl rfl ?_; first | refine WO_le (Le.adoptE (u := 27) 27 rfl (by first | exact lenN | exact rfl)) ?_ | skip)
  refine WO_norm rfl ?_
  refine WO_keep [1, 2, 4, 26, 27] rfl ?_
  refine ev ?_
  refine ev ?_
  refine WO_nil ?_
  refine thenQ_n ?_
  refine W_seq ?_
  refine W_region ?_
  first | (refine ev ?_; try refine WO_le (Le.freeze (u := 28) rfl) ?_) | refine WO_loadMove tys rfl rfl (lt_of rfl) rfl rfl rfl rfl rfl rfl ?_
  refine WO_norm rfl ?_
  refine callB ?_
  refine ⟨_, toProg_fun p okp, rfl, ?_⟩
  refine WO_exposeB (u := 29) 29 rfl rfl (fun v29 hv29 => ?_)
  obtain ⟨a29_0, rfl⟩ : ∃ a29_0, v29 = [a29_0] := by
    match v29, hv29 with
    | [a29_0], _ => exact ⟨_, rfl⟩
  refine WO_norm rfl ?_
  refine WO_alloc tys rfl rfl (lt_of rfl) rfl rfl rfl ?_
  refine WO_norm rfl ?_
  refine WO_store tys rfl rfl rfl rfl rfl rfl rfl rfl (lt_of rfl) ?_
  refine WO_norm rfl ?_
  refine WO_nil ?_
  refine thenQ_n ?_
  refine W_seq ?_
  refine W_region ?_
  refine ev ?_
  refine WO_norm rfl ?_
  refine ev ?_
  refine WO_call rfl rfl (lt_of rfl) rfl rfl (by refine ResL.rawA (id := 29) rfl rfl ?_; (first | refine ResL.t ?_ | refine ResL.own ?_ | refine ResL.aggT (by repeat (first | exact ResL.done | refine ResL.own ?_ | refine ResL.t ?_)) ?_ | refine ResL.slA rfl (by first | rfl | (simp; done) | (simp; omega)) ?_ | refine ResL.nil' ?_); exact ResL.done) (implReach_fun p fn okp) rfl ?_
  refine WO_keep [1, 2, 4, 6, 7, 8, 33] rfl ?_
  refine WO_moveAll rfl rfl (lt_of rfl) (.inr rfl) rfl rfl ?_
  refine WO_norm rfl ?_
  refine WO_extract rfl rfl (lt_of rfl) rfl rfl rfl rfl ?_
  refine WO_exposeS (u := 34) 34 rfl (fun v34 => ?_)
  first | refine WO_evF tys rfl rfl (lt_of rfl) (d := .t _) rfl ?_ | (refine WO_extract rfl rfl (lt_of rfl) rfl rfl rfl rfl ?_; first | refine WO_le (Le.adoptE (u := 35) 35 rfl (by first | exact lenN | exact rfl)) ?_ | skip)
  refine WO_norm rfl ?_
  refine ev ?_
  refine ev ?_
  refine WO_nil ?_
  refine thenQ_n ?_
  refine W_seq ?_
  refine W_seq ?_
  refine W_region ?_
  refine ev ?_
  refine ev ?_
  refine WO_call rfl rfl (lt_of rfl) rfl rfl (by refine ResL.raw (id := 34) (j := 0) rfl rfl rfl ?_; (first | refine ResL.t ?_ | refine ResL.own ?_ | refine ResL.aggT (by repeat (first | exact ResL.done | refine ResL.own ?_ | refine ResL.t ?_)) ?_ | refine ResL.slA rfl (by first | rfl | (simp; done) | (simp; omega)) ?_ | refine ResL.nil' ?_); exact ResL.done) (eqIntSo_fun (reachR p fn) (reachR p fn) (by unfold okN; omega) (by unfold okN; omega)) rfl ?_
  refine WO_le (Le.known (t := 38) true rfl (eqIs_refl _)) ?_
  refine ev ?_
  refine WO_keep [1, 2, 4, 6, 7, 8, 9, 10, 39] rfl ?_
  refine ev ?_
  refine WO_guardY rfl rfl rfl rfl (lt_of rfl) ?_
  refine ev ?_
  refine WO_guardY rfl rfl rfl rfl (lt_of rfl) ?_
  refine ev ?_
  refine WO_guardY rfl rfl rfl rfl (lt_of rfl) ?_
  refine ev ?_
  refine WO_le (Le.known (t := 43) false rfl (by simp)) ?_
  refine ev ?_
  refine WO_nil ?_
  refine thenQ_n ?_
  refine W_condF rfl ?_
  refine W_skip ?_
  refine thenQ_n ?_
  refine W_seq ?_
  refine W_seq ?_
  refine W_regionD mixed (by kernel_rfl) ?_
  refine evQ ?_
  refine QL_norm rfl ?_
  first | refine QL_evZ tys rfl rfl (lt_of rfl) rfl rfl ?_ | refine evQ ?_ | refine WO_loadMove tys rfl rfl (lt_of rfl) rfl rfl rfl rfl rfl rfl ?_
  refine callBQ ?_
  refine ⟨_, toProg_fun p okp, rfl, ?_⟩
  refine QL_call rfl rfl (lt_of rfl) rfl rfl (by refine ResL.rawA (id := 29) rfl rfl ?_; (first | refine ResL.t ?_ | refine ResL.own ?_ | refine ResL.aggT (by repeat (first | exact ResL.done | refine ResL.own ?_ | refine ResL.t ?_)) ?_ | refine ResL.slA rfl (by first | rfl | (simp; done) | (simp; omega)) ?_ | refine ResL.nil' ?_); exact ResL.done) (eqProg_fun p p hp hp) rfl ?_
  refine QL_known (v := true) (eqProg_refl p) ?_
  refine evQ ?_
  refine QL_nil ?_
  refine thenQ_n ?_
  refine W_condF rfl ?_
  refine W_skip ?_
  refine thenQ_n ?_
  refine W_seq ?_
  refine W_region ?_
  refine ev ?_
  refine WO_nil ?_
  refine thenQ_n ?_
  refine W_seq ?_
  refine W_region ?_
  refine ev ?_
  refine WO_norm rfl ?_
  refine ev ?_
  refine WO_markS (id := 29) rfl rfl (lt_of rfl) rfl rfl rfl rfl rfl (markProg_m p 1 (by omega) (by omega)) ?_
  refine WO_norm rfl ?_
  refine ev ?_
  refine WO_keep [1, 2, 4, 6, 7, 9, 10, 11] rfl ?_
  refine WO_nil ?_
  refine thenQ_n ?_
  refine W_seq ?_
  refine W_seq ?_
  refine W_region ?_
  refine ev ?_
  refine ev ?_
  refine WO_le (Le.known (t := 54) false rfl (by have := ctL_pos ctFunc_pos p.funcs; have e : ctProg p = ctL ctFunc p.funcs := rfl; simp; omega)) ?_
  refine ev ?_
  refine WO_guardY rfl rfl rfl rfl (lt_of rfl) ?_
  refine ev ?_
  refine WO_guardY rfl rfl rfl rfl (lt_of rfl) ?_
  refine ev ?_
  refine WO_guardY rfl rfl rfl rfl (lt_of rfl) ?_
  refine WO_call rfl rfl (lt_of rfl) rfl rfl (by refine ResL.raw (id := 34) (j := 0) rfl rfl rfl ?_; (first | refine ResL.t ?_ | refine ResL.own ?_ | refine ResL.aggT (by repeat (first | exact ResL.done | refine ResL.own ?_ | refine ResL.t ?_)) ?_ | refine ResL.slA rfl (by first | rfl | (simp; done) | (simp; omega)) ?_ | refine ResL.nil' ?_); exact ResL.done) (eqIntSo_fun (reachR p fn) (reachR p fn) (by unfold okN; omega) (by unfold okN; omega)) rfl ?_
  refine WO_le (Le.known (t := 58) true rfl (eqIs_refl _)) ?_
  refine WO_guardY rfl rfl rfl rfl (lt_of rfl) ?_
  refine ev ?_
  refine ev ?_
  refine ev ?_
  refine WO_keep [1, 2, 4, 6, 7, 9, 10, 61] rfl ?_
  refine WO_guardY rfl rfl rfl rfl (lt_of rfl) ?_
  refine ev ?_
  refine WO_guardY rfl rfl rfl rfl (lt_of rfl) ?_
  refine ev ?_
  refine WO_guardY rfl rfl rfl rfl (lt_of rfl) ?_
  refine ev ?_
  refine WO_le (Le.known (t := 64) false rfl (by simp)) ?_
  refine ev ?_
  refine WO_nil ?_
  refine thenQ_n ?_
  refine W_condF rfl ?_
  refine W_skip ?_
  refine thenQ_n ?_
  refine W_seq ?_
  refine W_region ?_
  refine ev ?_
  refine WO_nil ?_
  refine thenQ_n ?_
  refine W_seq ?_
  refine W_region ?_
  refine ev ?_
  refine ev ?_
  refine WO_markN (id := 34) (j := 0) rfl rfl (lt_of rfl) rfl rfl rfl rfl rfl rfl rfl rfl (markIntS_m (reachR p fn) 1 (by omega) (by omega)) ?_
  refine WO_norm rfl ?_
  refine ev ?_
  refine WO_keep [1, 2, 4, 6, 7, 9, 12] rfl ?_
  refine WO_nil ?_
  refine thenQ_n ?_
  refine W_seq ?_
  refine W_region ?_
  refine ev ?_
  refine WO_nil ?_
  refine thenQ_n ?_
  refine W_seq ?_
  refine W_region ?_
  refine ev ?_
  refine ev ?_
  refine WO_call rfl rfl (lt_of rfl) rfl rfl (by refine ResL.raw (id := 34) (j := 0) rfl rfl rfl ?_; (first | refine ResL.t ?_ | refine ResL.own ?_ | refine ResL.aggT (by repeat (first | exact ResL.done | refine ResL.own ?_ | refine ResL.t ?_)) ?_ | refine ResL.slA rfl (by first | rfl | (simp; done) | (simp; omega)) ?_ | refine ResL.nil' ?_); exact ResL.done) (heldIntS_mk (reachR p fn) 1 (by omega) (by omega)) rfl ?_
  refine ev ?_
  refine WO_nil ?_
  refine thenQ_n ?_
  refine W_seq ?_
  refine W_seq ?_
  refine W_region ?_
  refine ev ?_
  refine ev ?_
  refine WO_le (Le.known (t := 73) false rfl (by simp; omega)) ?_
  refine WO_nil ?_
  refine thenQ_n ?_
  refine W_condF rfl ?_
  refine W_skip ?_
  refine thenQ_n ?_
  refine W_seq ?_
  refine W_seq ?_
  refine W_keep [1, 2, 4, 6, 7, 9, 12, 13] rfl ?_
  refine W_region ?_
  refine ev ?_
  refine ev ?_
  refine ev ?_
  refine WO_le (Le.known (t := 76) false rfl (by simp)) ?_
  refine WO_nil ?_
  refine thenQ_n ?_
  refine W_condF rfl ?_
  refine W_skip ?_
  refine thenQ_n ?_
  refine W_seq ?_
  refine W_region ?_
  first | (refine ev ?_; try refine WO_le (Le.freeze (u := 78) rfl) ?_) | refine WO_loadMove tys rfl rfl (lt_of rfl) rfl rfl rfl rfl rfl rfl ?_
  refine WO_norm rfl ?_
  refine callB ?_
  refine ⟨_, toProg_fun p okp, rfl, ?_⟩
  refine WO_le (Le.freeze (u := 79) rfl) ?_
  refine WO_norm rfl ?_
  refine ev ?_
  refine callB ?_
  refine ⟨_, implReach_fun p fn okp, rfl, ?_⟩
  refine WO_moveAll rfl rfl (lt_of rfl) (.inr rfl) rfl rfl ?_
  refine WO_norm rfl ?_
  refine WO_extract rfl rfl (lt_of rfl) rfl rfl rfl rfl ?_
  refine WO_le (Le.freeze (u := 82) rfl) ?_
  refine WO_norm rfl ?_
  refine WO_keep [4, 6, 7, 9, 12, 13, 77, 82] rfl ?_
  first | refine WO_evF tys rfl rfl (lt_of rfl) (d := .t _) rfl ?_ | (refine WO_extract rfl rfl (lt_of rfl) rfl rfl rfl rfl ?_; first | refine WO_le (Le.adoptE (u := 83) 83 rfl (by first | exact lenN | exact rfl)) ?_ | skip)
  refine WO_norm rfl ?_
  refine ev ?_
  refine ev ?_
  refine WO_nil ?_
  refine thenQ_n ?_
  refine W_seq ?_
  refine W_seq ?_
  refine W_region ?_
  refine ev ?_
  refine ev ?_
  refine callB ?_
  refine ⟨_, eqIntSo_fun (reachR p fn) (reachR p fn) (by unfold okN; omega) (by unfold okN; omega), rfl, ?_⟩
  refine WO_le (Le.known (t := 86) true rfl (eqIs_refl _)) ?_
  refine ev ?_
  refine ev ?_
  refine WO_guardY rfl rfl rfl rfl (lt_of rfl) ?_
  refine ev ?_
  refine WO_keep [4, 7, 9, 12, 13, 88, 89] rfl ?_
  refine WO_guardY rfl rfl rfl rfl (lt_of rfl) ?_
  refine ev ?_
  refine WO_guardY rfl rfl rfl rfl (lt_of rfl) ?_
  refine ev ?_
  refine WO_le (Le.known (t := 91) false rfl (by simp)) ?_
  refine ev ?_
  refine WO_nil ?_
  refine thenQ_n ?_
  refine W_condF rfl ?_
  refine W_skip ?_
  refine thenQ_n ?_
  refine W_seq ?_
  refine W_region ?_
  refine ev ?_
  refine WO_nil ?_
  refine thenQ_n ?_
  refine W_seq ?_
  refine W_region ?_
  refine ev ?_
  refine ev ?_
  refine WO_call rfl rfl (lt_of rfl) rfl rfl (by refine ResL.raw (id := 34) (j := 0) rfl rfl rfl ?_; (first | refine ResL.t ?_ | refine ResL.own ?_ | refine ResL.aggT (by repeat (first | exact ResL.done | refine ResL.own ?_ | refine ResL.t ?_)) ?_ | refine ResL.slA rfl (by first | rfl | (simp; done) | (simp; omega)) ?_ | refine ResL.nil' ?_); exact ResL.done) (heldIntS_mk (reachR p fn) 1 (by omega) (by omega)) rfl ?_
  refine ev ?_
  refine WO_nil ?_
  refine thenQ_n ?_
  refine W_seq ?_
  refine W_seq ?_
  refine W_keep [4, 12, 13] rfl ?_
  refine W_region ?_
  refine ev ?_
  refine ev ?_
  refine WO_le (Le.known (t := 97) false rfl (by simp; omega)) ?_
  refine WO_nil ?_
  refine thenQ_n ?_
  refine W_condF rfl ?_
  refine W_skip ?_
  refine thenQ_n ?_
  refine W_seq ?_
  refine W_seq ?_
  refine W_region ?_
  refine ev ?_
  refine ev ?_
  refine ev ?_
  refine WO_le (Le.known (t := 100) false rfl (by simp)) ?_
  refine WO_nil ?_
  refine thenQ_n ?_
  refine W_condF rfl ?_
  refine W_skip ?_
  refine thenQ_n ?_
  refine W_seq ?_
  refine W_region ?_
  refine ev ?_
  refine WO_nil ?_
  refine thenQ_n ?_
  refine W_ret ?_
  refine Ends_of (.inr rfl) (ret_okF rfl) (by decide) rfl ?_
  · rfl

theorem lawUnused_fun (p : Prog) (hp : p.ok 9223372036854775807) : Fun Try.prog 11 [.t p.tt] (tupD [.t (.bool true)]) := by
  refine Fun.begin tys Try.func11 rfl rfl (N := 96) [(0, .t p.tt)] rfl rfl (fun w0 G F0 => ?_)
  refine W_seq ?_
  refine W_region ?_
  refine WO_box rfl rfl (lt_of rfl) rfl rfl ?_
  refine WO_norm rfl ?_
  refine ev ?_
  refine WO_nil ?_
  refine thenQ_n ?_
  refine W_seq ?_
  refine W_region ?_
  refine ev ?_
  refine WO_nil ?_
  refine thenQ_n ?_
  refine W_seq ?_
  refine W_region ?_
  first | (refine ev ?_; try refine WO_le (Le.freeze (u := 14) rfl) ?_) | refine WO_loadMove tys rfl rfl (lt_of rfl) rfl rfl rfl rfl rfl rfl ?_
  refine WO_norm rfl ?_
  refine ev ?_
  refine callB ?_
  refine ⟨_, szProg_fun p 1048576 hp (by omega) (by omega), rfl, ?_⟩
  refine ev ?_
  refine WO_nil ?_
  refine thenQ_n ?_
  refine W_seq ?_
  refine W_seq ?_
  refine W_keep [1, 2, 3] rfl ?_
  refine W_region ?_
  refine ev ?_
  refine ev ?_
  refine WO_nil ?_
  refine thenQ_n ?_
  refine W_cond rfl (fun h1 => ?_) (fun h1 => ?_)
  ·
    try simp only [HS] at h1
    refine W_seq ?_
    refine W_region ?_
    refine ev ?_
    refine WO_nil ?_
    refine thenQ_n ?_
    refine W_ret ?_
    refine thenQ_r ?_
    refine Ends_of (.inr rfl) (ret_okF rfl) (by decide) rfl ?_
    · rfl
  try simp only [HS] at h1
  refine W_skip ?_
  refine thenQ_n ?_
  refine W_seq ?_
  refine W_region ?_
  have okp := Prog.small h1
  have cp := ctProg_small h1
  have hfl : p.funcs.length ≤ 1048576 := okp.1.1
  have lr := unusedR_len p
  first | (refine ev ?_; try refine WO_le (Le.freeze (u := 20) rfl) ?_) | refine WO_loadMove tys rfl rfl (lt_of rfl) rfl rfl rfl rfl rfl rfl ?_
  refine WO_norm rfl ?_
  refine callB ?_
  refine ⟨_, toProg_fun p okp, rfl, ?_⟩
  refine WO_le (Le.freeze (u := 21) rfl) ?_
  refine WO_norm rfl ?_
  refine callB ?_
  refine ⟨_, specUnused_fun p okp, rfl, ?_⟩
  refine WO_moveAll rfl rfl (lt_of rfl) (.inr rfl) rfl rfl ?_
  refine WO_norm rfl ?_
  refine WO_extract rfl rfl (lt_of rfl) rfl rfl rfl rfl ?_
  refine WO_le (Le.freeze (u := 23) rfl) ?_
  refine WO_norm rfl ?_
  first | refine WO_evF tys rfl rfl (lt_of rfl) (d := .t _) rfl ?_ | (refine WO_extract rfl rfl (lt_of rfl) rfl rfl rfl rfl ?_; first | refine WO_le (Le.adoptE (u := 24) 24 rfl (by first | exact lenN | exact rfl)) ?_ | skip)
  refine WO_norm rfl ?_
  refine ev ?_
  refine WO_keep [1, 2, 4, 24] rfl ?_
  refine ev ?_
  refine WO_nil ?_
  refine thenQ_n ?_
  refine W_seq ?_
  refine W_region ?_
  first | (refine ev ?_; try refine WO_le (Le.freeze (u := 25) rfl) ?_) | refine WO_loadMove tys rfl rfl (lt_of rfl) rfl rfl rfl rfl rfl rfl ?_
  refine WO_norm rfl ?_
  refine callB ?_
  refine ⟨_, toProg_fun p okp, rfl, ?_⟩
  refine WO_exposeB (u := 26) 26 rfl rfl (fun v26 hv26 => ?_)
  obtain ⟨a26_0, rfl⟩ : ∃ a26_0, v26 = [a26_0] := by
    match v26, hv26 with
    | [a26_0], _ => exact ⟨_, rfl⟩
  refine WO_norm rfl ?_
  refine WO_alloc tys rfl rfl (lt_of rfl) rfl rfl rfl ?_
  refine WO_norm rfl ?_
  refine WO_store tys rfl rfl rfl rfl rfl rfl rfl rfl (lt_of rfl) ?_
  refine WO_norm rfl ?_
  refine WO_nil ?_
  refine thenQ_n ?_
  refine W_seq ?_
  refine W_region ?_
  refine ev ?_
  refine WO_norm rfl ?_
  refine WO_call rfl rfl (lt_of rfl) rfl rfl (by refine ResL.rawA (id := 26) rfl rfl ?_; exact ResL.done) (implUnused_fun p okp) rfl ?_
  refine WO_moveAll rfl rfl (lt_of rfl) (.inr rfl) rfl rfl ?_
  refine WO_norm rfl ?_
  refine WO_extract rfl rfl (lt_of rfl) rfl rfl rfl rfl ?_
  refine WO_exposeS (u := 30) 30 rfl (fun v30 => ?_)
  refine WO_keep [1, 2, 4, 5, 6, 27, 30] rfl ?_
  first | refine WO_evF tys rfl rfl (lt_of rfl) (d := .t _) rfl ?_ | (refine WO_extract rfl rfl (lt_of rfl) rfl rfl rfl rfl ?_; first | refine WO_le (Le.adoptE (u := 31) 31 rfl (by first | exact lenN | exact rfl)) ?_ | skip)
  refine WO_norm rfl ?_
  refine ev ?_
  refine ev ?_
  refine WO_nil ?_
  refine thenQ_n ?_
  refine W_seq ?_
  refine W_seq ?_
  refine W_region ?_
  refine ev ?_
  refine ev ?_
  refine WO_call rfl rfl (lt_of rfl) rfl rfl (by refine ResL.raw (id := 30) (j := 0) rfl rfl rfl ?_; (first | refine ResL.t ?_ | refine ResL.own ?_ | refine ResL.aggT (by repeat (first | exact ResL.done | refine ResL.own ?_ | refine ResL.t ?_)) ?_ | refine ResL.slA rfl (by first | rfl | (simp; done) | (simp; omega)) ?_ | refine ResL.nil' ?_); exact ResL.done) (eqIntSo_fun (unusedR p) (unusedR p) (by unfold okN; omega) (by unfold okN; omega)) rfl ?_
  refine WO_le (Le.known (t := 34) true rfl (eqIs_refl _)) ?_
  refine ev ?_
  refine ev ?_
  refine WO_guardY rfl rfl rfl rfl (lt_of rfl) ?_
  refine ev ?_
  refine WO_keep [1, 2, 4, 5, 6, 7, 8, 36, 37] rfl ?_
  refine WO_guardY rfl rfl rfl rfl (lt_of rfl) ?_
  refine ev ?_
  refine WO_guardY rfl rfl rfl rfl (lt_of rfl) ?_
  refine ev ?_
  refine WO_le (Le.known (t := 39) false rfl (by simp)) ?_
  refine ev ?_
  refine WO_nil ?_
  refine thenQ_n ?_
  refine W_condF rfl ?_
  refine W_skip ?_
  refine thenQ_n ?_
  refine W_seq ?_
  refine W_seq ?_
  refine W_regionD mixed (by kernel_rfl) ?_
  refine evQ ?_
  first | refine QL_evZ tys rfl rfl (lt_of rfl) rfl rfl ?_ | refine evQ ?_ | refine WO_loadMove tys rfl rfl (lt_of rfl) rfl rfl rfl rfl rfl rfl ?_
  refine callBQ ?_
  refine ⟨_, toProg_fun p okp, rfl, ?_⟩
  refine QL_norm rfl ?_
  refine QL_call rfl rfl (lt_of rfl) rfl rfl (by refine ResL.rawA (id := 26) rfl rfl ?_; (first | refine ResL.t ?_ | refine ResL.own ?_ | refine ResL.aggT (by repeat (first | exact ResL.done | refine ResL.own ?_ | refine ResL.t ?_)) ?_ | refine ResL.slA rfl (by first | rfl | (simp; done) | (simp; omega)) ?_ | refine ResL.nil' ?_); exact ResL.done) (eqProg_fun p p hp hp) rfl ?_
  refine QL_known (v := true) (eqProg_refl p) ?_
  refine evQ ?_
  refine QL_nil ?_
  refine thenQ_n ?_
  refine W_condF rfl ?_
  refine W_skip ?_
  refine thenQ_n ?_
  refine W_seq ?_
  refine W_region ?_
  refine ev ?_
  refine WO_nil ?_
  refine thenQ_n ?_
  refine W_seq ?_
  refine W_region ?_
  refine ev ?_
  refine WO_norm rfl ?_
  refine ev ?_
  refine WO_markS (id := 26) rfl rfl (lt_of rfl) rfl rfl rfl rfl rfl (markProg_m p 1 (by omega) (by omega)) ?_
  refine WO_norm rfl ?_
  refine ev ?_
  refine WO_nil ?_
  refine thenQ_n ?_
  refine W_seq ?_
  refine W_seq ?_
  refine W_keep [1, 2, 4, 5, 7, 8, 9] rfl ?_
  refine W_region ?_
  refine ev ?_
  refine ev ?_
  refine WO_le (Le.known (t := 50) false rfl (by have := ctL_pos ctFunc_pos p.funcs; have e : ctProg p = ctL ctFunc p.funcs := rfl; simp; omega)) ?_
  refine ev ?_
  refine WO_guardY rfl rfl rfl rfl (lt_of rfl) ?_
  refine ev ?_
  refine WO_guardY rfl rfl rfl rfl (lt_of rfl) ?_
  refine ev ?_
  refine WO_guardY rfl rfl rfl rfl (lt_of rfl) ?_
  refine WO_call rfl rfl (lt_of rfl) rfl rfl (by refine ResL.raw (id := 30) (j := 0) rfl rfl rfl ?_; (first | refine ResL.t ?_ | refine ResL.own ?_ | refine ResL.aggT (by repeat (first | exact ResL.done | refine ResL.own ?_ | refine ResL.t ?_)) ?_ | refine ResL.slA rfl (by first | rfl | (simp; done) | (simp; omega)) ?_ | refine ResL.nil' ?_); exact ResL.done) (eqIntSo_fun (unusedR p) (unusedR p) (by unfold okN; omega) (by unfold okN; omega)) rfl ?_
  refine WO_le (Le.known (t := 54) true rfl (eqIs_refl _)) ?_
  refine WO_guardY rfl rfl rfl rfl (lt_of rfl) ?_
  refine ev ?_
  refine ev ?_
  refine ev ?_
  refine WO_keep [1, 2, 4, 5, 7, 8, 57] rfl ?_
  refine WO_guardY rfl rfl rfl rfl (lt_of rfl) ?_
  refine ev ?_
  refine WO_guardY rfl rfl rfl rfl (lt_of rfl) ?_
  refine ev ?_
  refine WO_guardY rfl rfl rfl rfl (lt_of rfl) ?_
  refine ev ?_
  refine WO_le (Le.known (t := 60) false rfl (by simp)) ?_
  refine ev ?_
  refine WO_nil ?_
  refine thenQ_n ?_
  refine W_condF rfl ?_
  refine W_skip ?_
  refine thenQ_n ?_
  refine W_seq ?_
  refine W_region ?_
  refine ev ?_
  refine WO_nil ?_
  refine thenQ_n ?_
  refine W_seq ?_
  refine W_region ?_
  refine ev ?_
  refine ev ?_
  refine WO_markN (id := 30) (j := 0) rfl rfl (lt_of rfl) rfl rfl rfl rfl rfl rfl rfl rfl (markIntS_m (unusedR p) 1 (by omega) (by omega)) ?_
  refine WO_norm rfl ?_
  refine ev ?_
  refine WO_keep [1, 2, 4, 5, 7, 10] rfl ?_
  refine WO_nil ?_
  refine thenQ_n ?_
  refine W_seq ?_
  refine W_region ?_
  refine ev ?_
  refine WO_nil ?_
  refine thenQ_n ?_
  refine W_seq ?_
  refine W_region ?_
  refine ev ?_
  refine ev ?_
  refine WO_call rfl rfl (lt_of rfl) rfl rfl (by refine ResL.raw (id := 30) (j := 0) rfl rfl rfl ?_; (first | refine ResL.t ?_ | refine ResL.own ?_ | refine ResL.aggT (by repeat (first | exact ResL.done | refine ResL.own ?_ | refine ResL.t ?_)) ?_ | refine ResL.slA rfl (by first | rfl | (simp; done) | (simp; omega)) ?_ | refine ResL.nil' ?_); exact ResL.done) (heldIntS_mk (unusedR p) 1 (by omega) (by omega)) rfl ?_
  refine ev ?_
  refine WO_nil ?_
  refine thenQ_n ?_
  refine W_seq ?_
  refine W_seq ?_
  refine W_region ?_
  refine ev ?_
  refine ev ?_
  refine WO_le (Le.known (t := 69) false rfl (by simp; omega)) ?_
  refine WO_nil ?_
  refine thenQ_n ?_
  refine W_condF rfl ?_
  refine W_skip ?_
  refine thenQ_n ?_
  refine W_seq ?_
  refine W_seq ?_
  refine W_keep [1, 2, 4, 5, 7, 10, 11] rfl ?_
  refine W_region ?_
  refine ev ?_
  refine ev ?_
  refine ev ?_
  refine WO_le (Le.known (t := 72) false rfl (by simp)) ?_
  refine WO_nil ?_
  refine thenQ_n ?_
  refine W_condF rfl ?_
  refine W_skip ?_
  refine thenQ_n ?_
  refine W_seq ?_
  refine W_region ?_
  first | (refine ev ?_; try refine WO_le (Le.freeze (u := 74) rfl) ?_) | refine WO_loadMove tys rfl rfl (lt_of rfl) rfl rfl rfl rfl rfl rfl ?_
  refine WO_norm rfl ?_
  refine callB ?_
  refine ⟨_, toProg_fun p okp, rfl, ?_⟩
  refine WO_le (Le.freeze (u := 75) rfl) ?_
  refine WO_norm rfl ?_
  refine callB ?_
  refine ⟨_, implUnused_fun p okp, rfl, ?_⟩
  refine WO_moveAll rfl rfl (lt_of rfl) (.inr rfl) rfl rfl ?_
  refine WO_norm rfl ?_
  refine WO_extract rfl rfl (lt_of rfl) rfl rfl rfl rfl ?_
  refine WO_le (Le.freeze (u := 77) rfl) ?_
  refine WO_norm rfl ?_
  first | refine WO_evF tys rfl rfl (lt_of rfl) (d := .t _) rfl ?_ | (refine WO_extract rfl rfl (lt_of rfl) rfl rfl rfl rfl ?_; first | refine WO_le (Le.adoptE (u := 78) 78 rfl (by first | exact lenN | exact rfl)) ?_ | skip)
  refine WO_norm rfl ?_
  refine WO_keep [2, 4, 5, 7, 10, 11, 77, 78] rfl ?_
  refine ev ?_
  refine ev ?_
  refine WO_nil ?_
  refine thenQ_n ?_
  refine W_seq ?_
  refine W_seq ?_
  refine W_region ?_
  refine ev ?_
  refine ev ?_
  refine callB ?_
  refine ⟨_, eqIntSo_fun (unusedR p) (unusedR p) (by unfold okN; omega) (by unfold okN; omega), rfl, ?_⟩
  refine WO_le (Le.known (t := 81) true rfl (eqIs_refl _)) ?_
  refine ev ?_
  refine ev ?_
  refine WO_guardY rfl rfl rfl rfl (lt_of rfl) ?_
  refine ev ?_
  refine WO_guardY rfl rfl rfl rfl (lt_of rfl) ?_
  refine ev ?_
  refine WO_keep [2, 7, 10, 11, 83, 84, 85] rfl ?_
  refine WO_guardY rfl rfl rfl rfl (lt_of rfl) ?_
  refine ev ?_
  refine WO_le (Le.known (t := 86) false rfl (by simp)) ?_
  refine ev ?_
  refine WO_nil ?_
  refine thenQ_n ?_
  refine W_condF rfl ?_
  refine W_skip ?_
  refine thenQ_n ?_
  refine W_seq ?_
  refine W_region ?_
  refine ev ?_
  refine WO_nil ?_
  refine thenQ_n ?_
  refine W_seq ?_
  refine W_region ?_
  refine ev ?_
  refine ev ?_
  refine WO_call rfl rfl (lt_of rfl) rfl rfl (by refine ResL.raw (id := 30) (j := 0) rfl rfl rfl ?_; (first | refine ResL.t ?_ | refine ResL.own ?_ | refine ResL.aggT (by repeat (first | exact ResL.done | refine ResL.own ?_ | refine ResL.t ?_)) ?_ | refine ResL.slA rfl (by first | rfl | (simp; done) | (simp; omega)) ?_ | refine ResL.nil' ?_); exact ResL.done) (heldIntS_mk (unusedR p) 1 (by omega) (by omega)) rfl ?_
  refine ev ?_
  refine WO_nil ?_
  refine thenQ_n ?_
  refine W_seq ?_
  refine W_seq ?_
  refine W_keep [2, 10, 11] rfl ?_
  refine W_region ?_
  refine ev ?_
  refine ev ?_
  refine WO_le (Le.known (t := 92) false rfl (by simp; omega)) ?_
  refine WO_nil ?_
  refine thenQ_n ?_
  refine W_condF rfl ?_
  refine W_skip ?_
  refine thenQ_n ?_
  refine W_seq ?_
  refine W_seq ?_
  refine W_region ?_
  refine ev ?_
  refine ev ?_
  refine ev ?_
  refine WO_le (Le.known (t := 95) false rfl (by simp)) ?_
  refine WO_nil ?_
  refine thenQ_n ?_
  refine W_condF rfl ?_
  refine W_skip ?_
  refine thenQ_n ?_
  refine W_seq ?_
  refine W_region ?_
  refine ev ?_
  refine WO_nil ?_
  refine thenQ_n ?_
  refine W_ret ?_
  refine Ends_of (.inr rfl) (ret_okF rfl) (by decide) rfl ?_
  · rfl

end Go.Proofs.Ytjnkcoaiccbmpaa
