/- Walks of ReachFrom and UnusedIn, and their laws. -/
import Derived.Test.YtiigmjlmhmgebaaGh
import Derived.Test.YtiigmjlmhmgebaaFt
set_option linter.unusedVariables false
set_option linter.unusedSimpArgs false
set_option maxRecDepth 10000
set_option maxHeartbeats 1000000
namespace Go.Proofs.Ytiigmjlmhmgebaa
open Go.Eng

def unusedP (p : Prog) : List Int := pickN p.funcs.length fun k => !decide (k ∈ reachP p 0)
theorem unusedIn_fun (p : Prog) (hp : p.ok 1048576) (hg : goodP p = true) : Fun Try.prog 25 [.t p.tt] (tupD [.own (T.ints (unusedP p))]) := by
  have hgl := goodP_len hg
  have hrl := reachP_len hg 0
  refine Fun.begin tys Try.func25 rfl rfl (N := 24) [(0, .t p.tt)] rfl rfl (fun w0 G F0 => ?_)
  refine W_seq ?_
  refine W_region ?_
  refine WO_box rfl rfl (lt_of rfl) rfl rfl ?_
  refine WO_norm rfl ?_
  refine ev ?_
  refine WO_nil ?_
  refine thenQ_n ?_
  refine W_seq ?_
  refine W_region ?_
  first | (refine ev ?_; try refine WO_le (Le.freeze (u := 6) rfl) ?_) | refine WO_loadMove tys rfl rfl (lt_of rfl) rfl rfl rfl rfl rfl rfl ?_
  refine WO_norm rfl ?_
  refine callB ?_
  refine ⟨_, reachFrom_fun p 0 hp hg (by omega) (by omega), rfl, ?_⟩
  refine WO_le (Le.adoptE (u := 7) 7 rfl (by first | exact lenN | exact rfl)) ?_
  refine WO_norm rfl ?_
  refine ev ?_
  refine WO_nil ?_
  refine thenQ_n ?_
  refine W_seq ?_
  refine W_region ?_
  refine ev ?_
  refine WO_le (Le.nilOwn (u := 4) 1 rfl) ?_
  refine WO_le (Le.adoptE (u := 4) 4 rfl rfl) ?_
  refine WO_norm rfl ?_
  refine WO_nil ?_
  refine thenQ_n ?_
  iterate 2 (refine W_seq ?_)
  refine W_region ?_
  refine ev ?_
  refine ev ?_
  refine evE ?_
  refine WO_keep [2, 3, 4, 10] rfl ?_
  refine ev ?_
  refine WO_nil ?_
  refine thenQ_n ?_
  refine W_block ?_
  refine W_loopK (α := Int × Nat × List T) [3, 9, 10] [7] (fun (x : Int × Nat × List T) => [(11, .t (.int (x.1))), (4, .sl 4 0 (x.2.1))]) (fun (x : Int × Nat × List T) => [(4, .L 1 (x.2.2))]) (fun (x : Int × Nat × List T) => 0 ≤ (x.1) ∧ (x.1) ≤ p.funcs.length ∧ (x.2.1) = (x.2.2).length ∧ (x.2.2).length ≤ (x.1) ∧ (x.2.2) = (pickT p.funcs.length (fun k => !decide (k ∈ reachP p 0)) (x.1)).map T.int) (fun (x : Int × Nat × List T) => Int.toNat (p.funcs.length - (x.1))) (0, 0, []) ?_ ?_ ?_ (fun x hx => ?_)
  · repeat (first | exact Sub.nil' | refine Sub.cons' rfl ?_ )
  · repeat (first | exact SubM.nil' | refine SubM.cons' rfl ?_ )
  · exact ⟨by omega, by omega, rfl, by simp, rfl⟩
  obtain ⟨q, m, ws⟩ := x
  obtain ⟨hq0, hq1, hm, hwl, hws⟩ := hx
  try dsimp only at hq0 hq1 hm hwl hws ⊢
  refine W_norm rfl ?_
  refine W_seq ?_
  refine W_region ?_
  refine ev ?_
  refine WO_nil ?_
  refine thenQ_n ?_
  refine W_seq ?_
  refine W_cond rfl (fun h1 => ?_) (fun h1 => ?_)
  ·
    try simp only [HS] at h1
    refine W_skip ?_
    refine thenQ_n ?_
    refine W_seq ?_
    refine W_block ?_
    refine W_seq ?_
    refine W_region ?_
    refine ev ?_
    refine ev ?_
    refine WO_nil ?_
    refine thenQ_n ?_
    refine W_seq ?_
    refine W_region ?_
    refine ev ?_
    refine ev ?_
    refine callB ?_
    refine ⟨_, containsI_fun _ _ (by omega), rfl, ?_⟩
    refine ev ?_
    refine WO_nil ?_
    refine thenQ_n ?_
    refine W_cond rfl (fun h2 => ?_) (fun h2 => ?_)
    ·
      try simp only [HS] at h2
      refine W_keep [3, 4, 5, 9, 10, 11, 12, 13, 14, 15, 16, 17] rfl ?_
      refine W_region ?_
      refine ev ?_
      refine ev ?_
      refine WO_buildSlice tys [T.int q] rfl rfl (lt_of rfl) rfl rfl rfl rfl rfl (lt_of rfl) (by repeat (first | exact PartsOk.nil' | refine PartsOk.cons' rfl (by repeat (first | exact AbsL.nil' | refine AbsL.v' ?_ | refine AbsL.own' ?_ | refine AbsL.none' ?_)) rfl ?_)) (by first | exact List.nodup_nil | exact nodup1 _ | decide | exact nodupB_sound rfl) rfl (by decide) ?_
      refine WO_norm rfl ?_
      first | refine WO_append tys rfl rfl (lt_of rfl) rfl rfl rfl rfl rfl (.own rfl (by first | omega | (simp only [List.length_append]; omega))) rfl (.own rfl (by first | decide | omega)) (by decide) (by simp only [List.length_take, List.length_cons, List.length_nil]; omega) (by decide) rfl ?_ | refine WO_append tys rfl rfl (lt_of rfl) rfl rfl rfl rfl rfl .nil rfl (.own rfl (by first | decide | omega)) (by decide) (by simp only [List.length_take, List.length_cons, List.length_nil]; omega) (by decide) rfl ?_
      refine WO_norm rfl ?_
      refine ev ?_
      refine WO_nil ?_
      refine inBlk_n ?_
      refine thenQ_n ?_
      refine W_region ?_
      refine evI ?_
      refine ev ?_
      refine WO_nil ?_
      refine loopQ_n (_, _, _) (by (try dsimp only); repeat (first | exact Sub.nil' | refine Sub.cons' rfl ?_ )) (by (try dsimp only); repeat (first | exact SubM.nil' | refine SubM.cons' rfl ?_ )) ?_ ?_
      · try dsimp only
        subst hm
        first
        | (refine ⟨by omega, by omega, by simp, by simp; omega, ?_⟩; rw [List.take_length, hws, pickT_at hq0 (by omega), if_pos (by simpa using h2), List.map_append]; rfl)
        | (refine ⟨by omega, by omega, rfl, by omega, ?_⟩; rw [hws, pickT_at hq0 (by omega), if_neg (by simpa using h2), List.append_nil]; done)
      · (show Int.toNat _ < Int.toNat _); omega
    try simp only [HS] at h2
    refine W_skip ?_
    refine inBlk_n ?_
    refine thenQ_n ?_
    refine W_keep [3, 4, 5, 9, 10, 11, 12, 13, 14, 15, 16, 17] rfl ?_
    refine W_region ?_
    refine evI ?_
    refine ev ?_
    refine WO_nil ?_
    refine loopQ_n (_, _, _) (by (try dsimp only); repeat (first | exact Sub.nil' | refine Sub.cons' rfl ?_ )) (by (try dsimp only); repeat (first | exact SubM.nil' | refine SubM.cons' rfl ?_ )) ?_ ?_
    · try dsimp only
      subst hm
      first
      | (refine ⟨by omega, by omega, by simp, by simp; omega, ?_⟩; rw [List.take_length, hws, pickT_at hq0 (by omega), if_pos (by simpa using h2), List.map_append]; rfl)
      | (refine ⟨by omega, by omega, rfl, by omega, ?_⟩; rw [hws, pickT_at hq0 (by omega), if_neg (by simpa using h2), List.append_nil]; done)
    · (show Int.toNat _ < Int.toNat _); omega
  try simp only [HS] at h1
  refine W_exit ?_
  refine thenQ_e ?_
  refine loopQ_e ?_
  refine inBlk_y ?_
  refine thenQ_n ?_
  refine W_seq ?_
  refine W_region ?_
  refine ev ?_
  refine ev ?_
  refine WO_nil ?_
  refine thenQ_n ?_
  refine W_le (Le.gather (u := 2) (id := 4) rfl rfl (by omega)) ?_
  refine W_ret ?_
  refine Ends_of (.inr rfl) (ret_okF rfl) (by decide) rfl ?_
  · (rw [hm, List.take_length, hws]; exact retOwnI (pickT_end (by omega)))


end Go.Proofs.Ytiigmjlmhmgebaa
