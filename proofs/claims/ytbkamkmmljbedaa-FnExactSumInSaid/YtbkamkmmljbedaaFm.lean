/- Walks of the functions that list the moves of a world. -/
import Derived.Test.YtbkamkmmljbedaaFk
set_option linter.unusedVariables false
set_option linter.unusedSimpArgs false
set_option maxRecDepth 10000
set_option maxHeartbeats 2000000
namespace Go.Proofs.Ytbkamkmmljbedaa
open Go.Eng

theorem pair_ints {i k j m : Int} : T.ints [i, k, j, m] = .list 1 [T.int i, T.int k, T.int j, T.int m] := rfl

theorem l15Moves_fun (w : World) (hg : Good w) : Fun Try.prog 48 [.t w.tt] (tupD [.own (intss (movesOf w))]) := by
  have g1 := hg.room
  have g2 := hg.held
  have g3 := hg.shut
  have g4 := hg.tasks
  refine Fun.begin tys Try.func48 rfl rfl (N := 102) [(0, .t w.tt)] rfl rfl (fun w0 G F0 => ?_)
  refine W_seq ?_
  refine W_region ?_
  refine WO_box rfl rfl (lt_of rfl) rfl rfl ?_
  refine WO_norm rfl ?_
  refine ev ?_
  refine WO_nil ?_
  refine thenQ_n ?_
  refine W_seq ?_
  refine W_region ?_
  refine ev ?_
  refine WO_le (Le.nilOwn (u := 3) 1 rfl) ?_
  refine WO_le (Le.adoptE (u := 3) 3 rfl rfl) ?_
  refine WO_norm rfl ?_
  refine WO_nil ?_
  refine thenQ_n ?_
  iterate 2 (refine W_seq ?_)
  refine W_region ?_
  refine ev ?_
  refine ev ?_
  refine evE ?_
  refine ev ?_
  refine WO_nil ?_
  refine thenQ_n ?_
  refine W_block ?_
  refine W_loopK (α := Int × Nat × List T) [1, 13, 14] [1] (fun (x : Int × Nat × List T) => [(15, .t (.int (x.1))), (3, .sl 3 0 (x.2.1))]) (fun (x : Int × Nat × List T) => [(3, .L 1 (x.2.2))]) (fun (x : Int × Nat × List T) => 0 ≤ (x.1) ∧ (x.1) ≤ w.tasks.length ∧ (x.2.1) = (x.2.2).length ∧ ∃ acc : List (List Int), (x.2.2) = acc.map T.ints ∧ (acc.length : Int) ≤ 39 * (x.1) ∧ movesOf w = mvT w (w.tasks.drop (x.1).toNat) (x.1) acc) (fun (x : Int × Nat × List T) => Int.toNat (w.tasks.length - (x.1))) (0, 0, []) ?_ ?_ ?_ (fun x hx => ?_)
  · repeat (first | exact Sub.nil' | refine Sub.cons' rfl ?_ )
  · repeat (first | exact SubM.nil' | refine SubM.cons' rfl ?_ )
  · exact ⟨by omega, by omega, by simp, [], rfl, by simp, rfl⟩
  obtain ⟨i, m, xs⟩ := x
  obtain ⟨hi0, hi1, hm, acc, hx, hl, he⟩ := hx
  try dsimp only at hi0 hi1 hm hx hl he ⊢
  refine W_norm rfl ?_
  refine W_seq ?_
  refine W_region ?_
  refine ev ?_
  refine WO_nil ?_
  refine thenQ_n ?_
  refine W_seq ?_
  refine W_cond rfl (fun h1 => ?_) (fun h1 => ?_)
  ·
    try simp only [HS] at h1
    refine W_skip ?_
    refine thenQ_n ?_
    refine W_seq ?_
    refine W_block ?_
    refine W_seq ?_
    refine W_region ?_
    refine ev ?_
    first | refine WO_idxT tys rfl rfl (lt_of rfl) rfl rfl rfl rfl rfl rfl rfl (by omega) _ (getT _ _ (by omega) (by omega)) ?_ | refine WO_idxS tys rfl rfl (lt_of rfl) rfl rfl rfl rfl rfl rfl rfl rfl (by omega) (by omega) ?_
    first | (refine ev ?_; try refine WO_le (Le.freeze (u := 19) rfl) ?_) | refine WO_loadL tys rfl rfl (lt_of rfl) rfl rfl rfl rfl (getT _ _ (by omega) (by omega)) rfl ?_ | refine WO_loadL tys rfl rfl (lt_of rfl) rfl rfl rfl rfl (getT0 _ _ (by omega) (by omega)) rfl ?_
    refine WO_norm rfl ?_
    refine WO_alloc tys rfl rfl (lt_of rfl) rfl rfl rfl ?_
    refine WO_norm rfl ?_
    refine ev ?_
    refine WO_store tys rfl rfl rfl rfl rfl rfl rfl rfl (lt_of rfl) ?_
    refine WO_norm rfl ?_
    refine WO_nil ?_
    refine thenQ_n ?_
    refine W_seq ?_
    refine W_keep [1, 3, 4, 5, 13, 14, 15, 16, 17, 18, 19] rfl ?_
    refine W_region ?_
    first | (refine ev ?_; try refine WO_le (Le.freeze (u := 20) rfl) ?_) | refine WO_loadMove tys rfl rfl (lt_of rfl) rfl rfl rfl rfl rfl rfl ?_
    refine WO_norm rfl ?_
    refine WO_callF rfl rfl (lt_of rfl) rfl rfl rfl rfl rfl (l15Ways_fun _ (hg.pos _ (List.getElem_mem _)).1 (hg.pos _ (List.getElem_mem _)).2.1) rfl ?_
    refine evE ?_
    refine ev ?_
    refine WO_nil ?_
    refine thenQ_n ?_
    refine W_block ?_
    refine W_loopK (α := Int × Nat × List T) [1, 4, 13, 14, 15, 21, 22] [1] (fun (x : Int × Nat × List T) => [(23, .t (.int (x.1))), (3, .sl 3 0 (x.2.1))]) (fun (x : Int × Nat × List T) => [(3, .L 1 (x.2.2))]) (fun (x : Int × Nat × List T) => 0 ≤ (x.1) ∧ (x.1) ≤ (ways (w.tasks[i.toNat]'(by omega))).length ∧ (x.2.1) = (x.2.2).length ∧ ((ways (w.tasks[i.toNat]'(by omega))).length ≤ 3 ∧ ∀ b, b ∈ ways (w.tasks[i.toNat]'(by omega)) → 0 ≤ b.chan ∧ b.chan < w.room.length) ∧ ∃ acc' : List (List Int), (x.2.2) = acc'.map T.ints ∧ (acc'.length : Int) ≤ 39 * i + 13 * (x.1) ∧ mvA w i (ways (w.tasks[i.toNat]'(by omega))) 0 acc = mvA w i ((ways (w.tasks[i.toNat]'(by omega))).drop (x.1).toNat) (x.1) acc') (fun (x : Int × Nat × List T) => Int.toNat ((ways (w.tasks[i.toNat]'(by omega))).length - (x.1))) (0, m, xs) ?_ ?_ ?_ (fun x hx => ?_)
    · repeat (first | exact Sub.nil' | refine Sub.cons' rfl ?_ )
    · repeat (first | exact SubM.nil' | refine SubM.cons' rfl ?_ )
    · exact ⟨by omega, by omega, hm, hg.ways _ (List.getElem_mem _), acc, hx, by omega, rfl⟩
    obtain ⟨k, m', xs'⟩ := x
    obtain ⟨hk0, hk1, hm', hw, acc', hx', hl', he'⟩ := hx
    try dsimp only at hk0 hk1 hm' hw hx' hl' he' ⊢
    refine W_norm rfl ?_
    refine W_seq ?_
    refine W_region ?_
    refine ev ?_
    refine WO_nil ?_
    refine thenQ_n ?_
    refine W_seq ?_
    refine W_cond rfl (fun h2 => ?_) (fun h2 => ?_)
    ·
      try simp only [HS] at h2
      refine W_skip ?_
      refine thenQ_n ?_
      refine W_seq ?_
      refine W_block ?_
      refine W_seq ?_
      refine W_region ?_
      refine ev ?_
      first | refine WO_idxT tys rfl rfl (lt_of rfl) rfl rfl rfl rfl rfl rfl rfl (by omega) _ (getAct _ (by omega) (by omega)) ?_ | refine WO_idxS tys rfl rfl (lt_of rfl) rfl rfl rfl rfl rfl rfl rfl rfl (by omega) (by omega) ?_
      first | (refine ev ?_; try refine WO_le (Le.freeze (u := 27) rfl) ?_) | refine WO_loadL tys rfl rfl (lt_of rfl) rfl rfl rfl rfl (getT _ _ (by omega) (by omega)) rfl ?_ | refine WO_loadL tys rfl rfl (lt_of rfl) rfl rfl rfl rfl (getT0 _ _ (by omega) (by omega)) rfl ?_
      refine WO_norm rfl ?_
      refine WO_alloc tys rfl rfl (lt_of rfl) rfl rfl rfl ?_
      refine WO_norm rfl ?_
      have hc := hw.2 _ (List.getElem_mem (l := ways (w.tasks[i.toNat]'(by omega))) (n := k.toNat) (by omega))
      refine ev ?_
      refine WO_store tys rfl rfl rfl rfl rfl rfl rfl rfl (lt_of rfl) ?_
      refine WO_norm rfl ?_
      refine WO_nil ?_
      refine thenQ_n ?_
      iterate 2 (refine W_seq ?_)
      refine W_keep [1, 3, 4, 6, 7, 13, 14, 15, 21, 22, 23, 24, 25, 26, 27] rfl ?_
      refine W_region ?_
      first | (refine ev ?_; try refine WO_le (Le.freeze (u := 28) rfl) ?_) | refine WO_loadMove tys rfl rfl (lt_of rfl) rfl rfl rfl rfl rfl rfl ?_
      refine WO_norm rfl ?_
      first | (refine ev ?_; try refine WO_le (Le.freeze (u := 29) rfl) ?_) | refine WO_loadMove tys rfl rfl (lt_of rfl) rfl rfl rfl rfl rfl rfl ?_
      refine WO_norm rfl ?_
      refine callB ?_
      refine ⟨_, l15Alone_fun _ _ (hw.2 _ (List.getElem_mem _)).1 (hw.2 _ (List.getElem_mem _)).2 g2 g3 g1, rfl, ?_⟩
      refine WO_nil ?_
      refine thenQ_n ?_
      refine W_joinN (α := Nat × List T) [1, 4, 6, 7, 13, 14, 15, 21, 22, 23, 24, 25, 26, 27, 28, 29, 30] [1, 7] (fun (x : Nat × List T) => [(3, .sl 3 0 (x.1))]) (fun (x : Nat × List T) => [(3, .L 1 (x.2))]) (fun (x : Nat × List T) => (x.1) = (x.2).length ∧ ∃ acc2 : List (List Int), (x.2) = acc2.map T.ints ∧ (acc2.length : Int) ≤ 39 * i + 13 * k + 1 ∧ acc2 = (if alone w ((ways (w.tasks[i.toNat]'(by omega)))[k.toNat]'(by omega)) then acc' ++ [[i, k, -1, 0]] else acc')) ?_ (fun x hx => ?_)
      ·
        refine W_cond rfl (fun h3 => ?_) (fun h3 => ?_)
        ·
          try simp only [HS] at h3
          refine W_region ?_
          iterate 3 (refine ev ?_)
          refine WO_buildSlice tys [T.int i, T.int k, T.int (-1), T.int 0] rfl rfl (lt_of rfl) rfl rfl rfl rfl rfl (lt_of rfl) (by repeat (first | exact PartsOk.nil' | refine PartsOk.cons' rfl (by repeat (first | exact AbsL.nil' | refine AbsL.v' ?_ | refine AbsL.own' ?_ | refine AbsL.none' ?_)) rfl ?_)) (by first | exact List.nodup_nil | exact nodup1 _ | decide | exact nodupB_sound rfl) rfl (by decide) ?_
          refine WO_norm rfl ?_
          refine WO_le (Le.gather (u := 34) (id := 34) rfl rfl (by first | (simp; done) | (simp; omega) | omega)) ?_
          refine WO_norm rfl ?_
          refine WO_buildSlice tys [T.ints [i, k, -1, 0]] rfl rfl (lt_of rfl) rfl rfl rfl rfl rfl (lt_of rfl) (by repeat (first | exact PartsOk.nil' | refine PartsOk.cons' rfl (by repeat (first | exact AbsL.nil' | refine AbsL.v' ?_ | refine AbsL.own' ?_ | refine AbsL.none' ?_)) rfl ?_)) (by first | exact List.nodup_nil | exact nodup1 _ | decide | exact nodupB_sound rfl) rfl (by decide) ?_
          refine WO_norm rfl ?_
          first | refine WO_append tys rfl rfl (lt_of rfl) rfl rfl rfl rfl rfl (.own rfl (by first | omega | (simp only [List.length_append]; omega))) rfl (.own rfl (by first | decide | omega)) (by decide) (by have q1 := congrArg List.length hx'; have q2 := hw.1; simp only [List.length_map] at q1; simp only [List.length_take, List.length_cons, List.length_nil]; omega) (by decide) rfl ?_ | refine WO_append tys rfl rfl (lt_of rfl) rfl rfl rfl rfl rfl .nil rfl (.own rfl (by first | decide | omega)) (by decide) (by have q1 := congrArg List.length hx'; have q2 := hw.1; simp only [List.length_map] at q1; simp only [List.length_take, List.length_cons, List.length_nil]; omega) (by decide) rfl ?_
          refine WO_norm rfl ?_
          refine WO_keep [1, 3, 4, 6, 7, 13, 14, 15, 21, 22, 23, 24, 25, 26, 27, 28, 29, 30, 31, 32, 33, 34, 35, 36] rfl ?_
          refine ev ?_
          refine WO_nil ?_
          refine joinQ_n (_, _) (by (try dsimp only); repeat (first | exact Sub.nil' | refine Sub.cons' rfl ?_)) (by (try dsimp only); repeat (first | exact SubM.nil' | refine SubM.cons' rfl ?_)) ?_
          try dsimp only
          first
          | (refine ⟨by simp, acc' ++ [[i, k, -1, 0]], ?_, by simp only [List.length_append, List.length_cons, List.length_nil]; omega, by rw [if_pos h3]⟩; rw [hm', List.take_of_length_le (Nat.le_refl _), hx', List.map_append]; rfl)
          | exact ⟨hm', acc', hx', by omega, by rw [if_neg (by simp [h3])]⟩
        try simp only [HS] at h3
        refine W_skip ?_
        refine joinQ_n (_, _) (by (try dsimp only); repeat (first | exact Sub.nil' | refine Sub.cons' rfl ?_)) (by (try dsimp only); repeat (first | exact SubM.nil' | refine SubM.cons' rfl ?_)) ?_
        try dsimp only
        first
        | (refine ⟨by simp, acc' ++ [[i, k, -1, 0]], ?_, by simp only [List.length_append, List.length_cons, List.length_nil]; omega, by rw [if_pos h3]⟩; rw [hm', List.take_of_length_le (Nat.le_refl _), hx', List.map_append]; rfl)
        | exact ⟨hm', acc', hx', by omega, by rw [if_neg (by simp [h3])]⟩
      obtain ⟨m2, xs2⟩ := x
      obtain ⟨hm2, acc2, hx2, hl2, he2⟩ := hx
      try dsimp only at hm2 hx2 hl2 he2 ⊢
      refine thenQ_n ?_
      iterate 2 (refine W_seq ?_)
      refine W_keep [1, 3, 4, 6, 7, 13, 14, 15, 21, 22, 23, 24, 25, 26, 27, 28, 29, 30] rfl ?_
      refine W_region ?_
      iterate 4 (refine ev ?_)
      refine WO_guard rfl rfl rfl rfl (lt_of rfl) (fun h3 => ?_) (fun h3 => ?_)
      rotate_left
      ·
        try simp only [HS] at h3
        iterate 5 (refine WO_guardN rfl rfl rfl rfl rfl (lt_of rfl) ?_)
        refine WO_keep [1, 3, 4, 6, 7, 13, 14, 15, 21, 22, 23, 24, 25, 26, 27, 28, 29, 30, 37, 38, 39, 40, 41, 42, 43, 44, 45, 46] rfl ?_
        refine ev ?_
        refine ev ?_
        iterate 7 (refine WO_guardN rfl rfl rfl rfl rfl (lt_of rfl) ?_)
        refine WO_keep [1, 3, 4, 6, 7, 13, 14, 15, 21, 22, 23, 24, 25, 26, 27, 28, 29, 30, 37, 38, 39, 40, 41, 42, 43, 44, 45, 46, 47, 48, 49, 50, 51, 52, 53, 54, 55] rfl ?_
        refine WO_guardN rfl rfl rfl rfl rfl (lt_of rfl) ?_
        refine ev ?_
        refine WO_nil ?_
        refine thenQ_n ?_
        refine W_condT rfl ?_
        refine W_exit ?_
        refine thenQ_e ?_
        refine inBlk_y ?_
        refine thenQ_n ?_
        refine W_region ?_
        refine evI ?_
        refine ev ?_
        refine WO_nil ?_
        refine loopQ_n (_, _, _) (by (try dsimp only); repeat (first | exact Sub.nil' | refine Sub.cons' rfl ?_ )) (by (try dsimp only); repeat (first | exact SubM.nil' | refine SubM.cons' rfl ?_ )) ?_ ?_
        · try dsimp only
          have e1 := at0_of (d := false) (l := w.shut) hc.1 (by omega); have e2 := at0_of (d := []) (l := w.held) hc.1 (by omega)
          first
          | (have hS : mvS w ((ways (w.tasks[i.toNat]'(by omega)))[k.toNat]'(by omega)) = false := (by grind [mvS]); refine ⟨by omega, by omega, hm2, hw, acc2, hx2, by omega, ?_⟩; rw [he', mvA_at hk0 h2, ← he2, hS]; rfl)
          | (have hS : mvS w ((ways (w.tasks[i.toNat]'(by omega)))[k.toNat]'(by omega)) = true := (by grind [mvS]); refine ⟨by omega, by omega, hm3, hw, acc3, hx3, by omega, ?_⟩; rw [he', mvA_at hk0 h2, ← he2, hS, if_pos rfl, he3, drop_end (l := w.tasks) (by omega)]; rfl)
        · (show Int.toNat _ < Int.toNat _); omega
      try simp only [HS] at h3
      refine ev ?_
      refine WO_guardY rfl rfl rfl rfl (lt_of rfl) ?_
      refine ev ?_
      refine WO_guardY rfl rfl rfl rfl (lt_of rfl) ?_
      refine ev ?_
      refine WO_guardY rfl rfl rfl rfl (lt_of rfl) ?_
      refine ev ?_
      refine WO_guardY rfl rfl rfl rfl (lt_of rfl) ?_
      first | refine WO_idxT tys rfl rfl (lt_of rfl) rfl rfl rfl rfl rfl rfl rfl (by omega) _ (getT _ _ (by omega) (by omega)) ?_ | refine WO_idxS tys rfl rfl (lt_of rfl) rfl rfl rfl rfl rfl rfl rfl rfl (by omega) (by omega) ?_
      refine WO_keep [1, 3, 4, 6, 7, 13, 14, 15, 21, 22, 23, 24, 25, 26, 27, 28, 29, 30, 37, 38, 39, 40, 41, 42, 43, 44, 45] rfl ?_
      refine WO_guardY rfl rfl rfl rfl (lt_of rfl) ?_
      first | refine ev ?_ | refine WO_loadL tys rfl rfl (lt_of rfl) rfl rfl rfl rfl (getT _ _ (by omega) (by omega)) rfl ?_ | refine WO_loadL tys rfl rfl (lt_of rfl) rfl rfl rfl rfl (getT0 _ _ (by omega) (by omega)) rfl ?_
      refine ev ?_
      refine ev ?_
      refine WO_guard rfl rfl rfl rfl (lt_of rfl) (fun h4 => ?_) (fun h4 => ?_)
      rotate_left
      ·
        try simp only [HS] at h4
        iterate 6 (refine WO_guardN rfl rfl rfl rfl rfl (lt_of rfl) ?_)
        refine WO_keep [1, 3, 4, 6, 7, 13, 14, 15, 21, 22, 23, 24, 25, 26, 27, 28, 29, 30, 37, 38, 39, 40, 41, 42, 43, 44, 45, 46, 47, 48, 49, 50, 51, 52, 53, 54, 55] rfl ?_
        refine WO_guardN rfl rfl rfl rfl rfl (lt_of rfl) ?_
        refine ev ?_
        refine WO_nil ?_
        refine thenQ_n ?_
        refine W_condT rfl ?_
        refine W_exit ?_
        refine thenQ_e ?_
        refine inBlk_y ?_
        refine thenQ_n ?_
        refine W_region ?_
        refine evI ?_
        refine ev ?_
        refine WO_nil ?_
        refine loopQ_n (_, _, _) (by (try dsimp only); repeat (first | exact Sub.nil' | refine Sub.cons' rfl ?_ )) (by (try dsimp only); repeat (first | exact SubM.nil' | refine SubM.cons' rfl ?_ )) ?_ ?_
        · try dsimp only
          have e1 := at0_of (d := false) (l := w.shut) hc.1 (by omega); have e2 := at0_of (d := []) (l := w.held) hc.1 (by omega)
          first
          | (have hS : mvS w ((ways (w.tasks[i.toNat]'(by omega)))[k.toNat]'(by omega)) = false := (by grind [mvS]); refine ⟨by omega, by omega, hm2, hw, acc2, hx2, by omega, ?_⟩; rw [he', mvA_at hk0 h2, ← he2, hS]; rfl)
          | (have hS : mvS w ((ways (w.tasks[i.toNat]'(by omega)))[k.toNat]'(by omega)) = true := (by grind [mvS]); refine ⟨by omega, by omega, hm3, hw, acc3, hx3, by omega, ?_⟩; rw [he', mvA_at hk0 h2, ← he2, hS, if_pos rfl, he3, drop_end (l := w.tasks) (by omega)]; rfl)
        · (show Int.toNat _ < Int.toNat _); omega
      try simp only [HS] at h4
      refine ev ?_
      refine WO_guardY rfl rfl rfl rfl (lt_of rfl) ?_
      refine ev ?_
      refine WO_guardY rfl rfl rfl rfl (lt_of rfl) ?_
      refine ev ?_
      refine WO_guardY rfl rfl rfl rfl (lt_of rfl) ?_
      refine ev ?_
      refine WO_guardY rfl rfl rfl rfl (lt_of rfl) ?_
      first | refine WO_idxT tys rfl rfl (lt_of rfl) rfl rfl rfl rfl rfl rfl rfl (by omega) _ (getT _ _ (by omega) (by omega)) ?_ | refine WO_idxS tys rfl rfl (lt_of rfl) rfl rfl rfl rfl rfl rfl rfl rfl (by omega) (by omega) ?_
      refine WO_guardY rfl rfl rfl rfl (lt_of rfl) ?_
      first | refine ev ?_ | refine WO_loadL tys rfl rfl (lt_of rfl) rfl rfl rfl rfl (getT _ _ (by omega) (by omega)) rfl ?_ | refine WO_loadL tys rfl rfl (lt_of rfl) rfl rfl rfl rfl (getT0 _ _ (by omega) (by omega)) rfl ?_
      refine WO_keep [1, 3, 4, 6, 7, 13, 14, 15, 21, 22, 23, 24, 25, 26, 27, 28, 29, 30, 37, 38, 39, 40, 41, 42, 43, 44, 45, 46, 47, 48, 49, 50, 51, 52, 53, 54] rfl ?_
      refine WO_guardY rfl rfl rfl rfl (lt_of rfl) ?_
      refine evE ?_
      refine WO_guardY rfl rfl rfl rfl (lt_of rfl) ?_
      refine ev ?_
      refine ev ?_
      refine WO_nil ?_
      refine thenQ_n ?_
      refine W_cond rfl (fun h5 => ?_) (fun h5 => ?_)
      ·
        try simp only [HS] at h5
        refine W_exit ?_
        refine thenQ_e ?_
        refine inBlk_y ?_
        refine thenQ_n ?_
        refine W_region ?_
        refine evI ?_
        refine ev ?_
        refine WO_nil ?_
        refine loopQ_n (_, _, _) (by (try dsimp only); repeat (first | exact Sub.nil' | refine Sub.cons' rfl ?_ )) (by (try dsimp only); repeat (first | exact SubM.nil' | refine SubM.cons' rfl ?_ )) ?_ ?_
        · try dsimp only
          have e1 := at0_of (d := false) (l := w.shut) hc.1 (by omega); have e2 := at0_of (d := []) (l := w.held) hc.1 (by omega)
          first
          | (have hS : mvS w ((ways (w.tasks[i.toNat]'(by omega)))[k.toNat]'(by omega)) = false := (by grind [mvS]); refine ⟨by omega, by omega, hm2, hw, acc2, hx2, by omega, ?_⟩; rw [he', mvA_at hk0 h2, ← he2, hS]; rfl)
          | (have hS : mvS w ((ways (w.tasks[i.toNat]'(by omega)))[k.toNat]'(by omega)) = true := (by grind [mvS]); refine ⟨by omega, by omega, hm3, hw, acc3, hx3, by omega, ?_⟩; rw [he', mvA_at hk0 h2, ← he2, hS, if_pos rfl, he3, drop_end (l := w.tasks) (by omega)]; rfl)
        · (show Int.toNat _ < Int.toNat _); omega
      try simp only [HS] at h5
      refine W_skip ?_
      refine thenQ_n ?_
      refine W_seq ?_
      refine W_region ?_
      refine ev ?_
      refine ev ?_
      refine evE ?_
      refine ev ?_
      refine WO_nil ?_
      refine thenQ_n ?_
      refine W_block ?_
      refine W_loopK (α := Int × Nat × List T) [1, 4, 6, 7, 13, 14, 15, 21, 22, 23, 59, 60] [1, 7] (fun (x : Int × Nat × List T) => [(61, .t (.int (x.1))), (3, .sl 3 0 (x.2.1))]) (fun (x : Int × Nat × List T) => [(3, .L 1 (x.2.2))]) (fun (x : Int × Nat × List T) => 0 ≤ (x.1) ∧ (x.1) ≤ w.tasks.length ∧ (x.2.1) = (x.2.2).length ∧ ∃ acc3 : List (List Int), (x.2.2) = acc3.map T.ints ∧ (acc3.length : Int) ≤ 39 * i + 13 * k + 1 + 3 * (x.1) ∧ mvU i k ((ways (w.tasks[i.toNat]'(by omega)))[k.toNat]'(by omega)) w.tasks 0 acc2 = mvU i k ((ways (w.tasks[i.toNat]'(by omega)))[k.toNat]'(by omega)) (w.tasks.drop (x.1).toNat) (x.1) acc3) (fun (x : Int × Nat × List T) => Int.toNat (w.tasks.length - (x.1))) (0, m2, xs2) ?_ ?_ ?_ (fun x hx => ?_)
      · repeat (first | exact Sub.nil' | refine Sub.cons' rfl ?_ )
      · repeat (first | exact SubM.nil' | refine SubM.cons' rfl ?_ )
      · exact ⟨by omega, by omega, hm2, acc2, hx2, by omega, rfl⟩
      obtain ⟨j, m3, xs3⟩ := x
      obtain ⟨hj0, hj1, hm3, acc3, hx3, hl3, he3⟩ := hx
      try dsimp only at hj0 hj1 hm3 hx3 hl3 he3 ⊢
      refine W_norm rfl ?_
      refine W_seq ?_
      refine W_region ?_
      refine ev ?_
      refine WO_nil ?_
      refine thenQ_n ?_
      refine W_seq ?_
      refine W_cond rfl (fun h6 => ?_) (fun h6 => ?_)
      ·
        try simp only [HS] at h6
        refine W_skip ?_
        refine thenQ_n ?_
        refine W_seq ?_
        refine W_block ?_
        refine W_seq ?_
        refine W_region ?_
        refine ev ?_
        first | refine WO_idxT tys rfl rfl (lt_of rfl) rfl rfl rfl rfl rfl rfl rfl (by omega) _ (getT _ _ (by omega) (by omega)) ?_ | refine WO_idxS tys rfl rfl (lt_of rfl) rfl rfl rfl rfl rfl rfl rfl rfl (by omega) (by omega) ?_
        first | (refine ev ?_; try refine WO_le (Le.freeze (u := 65) rfl) ?_) | refine WO_loadL tys rfl rfl (lt_of rfl) rfl rfl rfl rfl (getT _ _ (by omega) (by omega)) rfl ?_ | refine WO_loadL tys rfl rfl (lt_of rfl) rfl rfl rfl rfl (getT0 _ _ (by omega) (by omega)) rfl ?_
        refine WO_norm rfl ?_
        refine WO_alloc tys rfl rfl (lt_of rfl) rfl rfl rfl ?_
        refine WO_norm rfl ?_
        refine ev ?_
        refine WO_store tys rfl rfl rfl rfl rfl rfl rfl rfl (lt_of rfl) ?_
        refine WO_norm rfl ?_
        refine WO_nil ?_
        refine thenQ_n ?_
        refine W_seq ?_
        refine W_keep [1, 3, 4, 6, 7, 8, 9, 13, 14, 15, 21, 22, 23, 59, 60, 61, 62, 63, 64, 65] rfl ?_
        refine W_region ?_
        first | (refine ev ?_; try refine WO_le (Le.freeze (u := 66) rfl) ?_) | refine WO_loadMove tys rfl rfl (lt_of rfl) rfl rfl rfl rfl rfl rfl ?_
        refine WO_norm rfl ?_
        refine WO_callF rfl rfl (lt_of rfl) rfl rfl rfl rfl rfl (l15Ways_fun _ (hg.pos _ (List.getElem_mem _)).1 (hg.pos _ (List.getElem_mem _)).2.1) rfl ?_
        refine evE ?_
        refine ev ?_
        refine WO_nil ?_
        refine thenQ_n ?_
        refine W_block ?_
        refine W_loopK (α := Int × Nat × List T) [1, 4, 6, 7, 8, 13, 14, 15, 21, 22, 23, 59, 60, 61, 67, 68] [1, 7] (fun (x : Int × Nat × List T) => [(69, .t (.int (x.1))), (3, .sl 3 0 (x.2.1))]) (fun (x : Int × Nat × List T) => [(3, .L 1 (x.2.2))]) (fun (x : Int × Nat × List T) => 0 ≤ (x.1) ∧ (x.1) ≤ (ways (w.tasks[j.toNat]'(by omega))).length ∧ (x.2.1) = (x.2.2).length ∧ (ways (w.tasks[j.toNat]'(by omega))).length ≤ 3 ∧ ∃ acc4 : List (List Int), (x.2.2) = acc4.map T.ints ∧ (acc4.length : Int) ≤ 39 * i + 13 * k + 1 + 3 * j + (x.1) ∧ mvB i k ((ways (w.tasks[i.toNat]'(by omega)))[k.toNat]'(by omega)) j (ways (w.tasks[j.toNat]'(by omega))) 0 acc3 = mvB i k ((ways (w.tasks[i.toNat]'(by omega)))[k.toNat]'(by omega)) j ((ways (w.tasks[j.toNat]'(by omega))).drop (x.1).toNat) (x.1) acc4) (fun (x : Int × Nat × List T) => Int.toNat ((ways (w.tasks[j.toNat]'(by omega))).length - (x.1))) (0, m3, xs3) ?_ ?_ ?_ (fun x hx => ?_)
        · repeat (first | exact Sub.nil' | refine Sub.cons' rfl ?_ )
        · repeat (first | exact SubM.nil' | refine SubM.cons' rfl ?_ )
        · exact ⟨by omega, by omega, hm3, (hg.ways _ (List.getElem_mem _)).1, acc3, hx3, by omega, rfl⟩
        obtain ⟨q, m4, xs4⟩ := x
        obtain ⟨hq0, hq1, hm4, hw4, acc4, hx4, hl4, he4⟩ := hx
        try dsimp only at hq0 hq1 hm4 hw4 hx4 hl4 he4 ⊢
        refine W_norm rfl ?_
        refine W_seq ?_
        refine W_region ?_
        refine ev ?_
        refine WO_nil ?_
        refine thenQ_n ?_
        refine W_seq ?_
        refine W_cond rfl (fun h7 => ?_) (fun h7 => ?_)
        ·
          try simp only [HS] at h7
          refine W_skip ?_
          refine thenQ_n ?_
          refine W_seq ?_
          refine W_block ?_
          refine W_seq ?_
          refine W_region ?_
          refine ev ?_
          first | refine WO_idxT tys rfl rfl (lt_of rfl) rfl rfl rfl rfl rfl rfl rfl (by omega) _ (getAct _ (by omega) (by omega)) ?_ | refine WO_idxS tys rfl rfl (lt_of rfl) rfl rfl rfl rfl rfl rfl rfl rfl (by omega) (by omega) ?_
          first | (refine ev ?_; try refine WO_le (Le.freeze (u := 73) rfl) ?_) | refine WO_loadL tys rfl rfl (lt_of rfl) rfl rfl rfl rfl (getT _ _ (by omega) (by omega)) rfl ?_ | refine WO_loadL tys rfl rfl (lt_of rfl) rfl rfl rfl rfl (getT0 _ _ (by omega) (by omega)) rfl ?_
          refine WO_norm rfl ?_
          refine WO_alloc tys rfl rfl (lt_of rfl) rfl rfl rfl ?_
          refine WO_norm rfl ?_
          refine ev ?_
          refine WO_store tys rfl rfl rfl rfl rfl rfl rfl rfl (lt_of rfl) ?_
          refine WO_norm rfl ?_
          refine WO_nil ?_
          refine thenQ_n ?_
          refine W_seq ?_
          refine W_keep [1, 3, 4, 6, 7, 8, 10, 11, 13, 14, 15, 21, 22, 23, 59, 60, 61, 67, 68, 69, 70, 71, 72, 73] rfl ?_
          refine W_region ?_
          iterate 4 (refine ev ?_)
          refine WO_guard rfl rfl rfl rfl (lt_of rfl) (fun h8 => ?_) (fun h8 => ?_)
          rotate_left
          ·
            try simp only [HS] at h8
            iterate 2 (refine WO_guardN rfl rfl rfl rfl rfl (lt_of rfl) ?_)
            refine ev ?_
            refine ev ?_
            refine WO_guardN rfl rfl rfl rfl rfl (lt_of rfl) ?_
            refine WO_keep [1, 3, 4, 6, 7, 8, 10, 11, 13, 14, 15, 21, 22, 23, 59, 60, 61, 67, 68, 69, 70, 71, 72, 73, 74, 75, 76, 77, 78, 79, 80, 81, 82, 83] rfl ?_
            iterate 4 (refine WO_guardN rfl rfl rfl rfl rfl (lt_of rfl) ?_)
            refine ev ?_
            refine WO_nil ?_
            refine thenQ_n ?_
            refine W_joinN (α := Nat × List T) [1, 4, 6, 7, 8, 10, 11, 13, 14, 15, 21, 22, 23, 59, 60, 61, 67, 68, 69, 70, 71, 72, 73, 74, 75, 76, 77, 78, 79, 80, 81, 82, 83, 84, 85, 86, 87, 88] [1, 7] (fun (x : Nat × List T) => [(3, .sl 3 0 (x.1))]) (fun (x : Nat × List T) => [(3, .L 1 (x.2))]) (fun (x : Nat × List T) => (x.1) = (x.2).length ∧ ∃ acc5 : List (List Int), (x.2) = acc5.map T.ints ∧ (acc5.length : Int) ≤ 39 * i + 13 * k + 1 + 3 * j + q + 1 ∧ acc5 = (if ¬ i = j ∧ ((ways (w.tasks[j.toNat]'(by omega)))[q.toNat]'(by omega)).kind = 2 ∧ ((ways (w.tasks[j.toNat]'(by omega)))[q.toNat]'(by omega)).chan = ((ways (w.tasks[i.toNat]'(by omega)))[k.toNat]'(by omega)).chan then acc4 ++ [[i, k, j, q]] else acc4)) ?_ (fun x hx => ?_)
            ·
              refine W_condF rfl ?_
              refine W_skip ?_
              refine joinQ_n (_, _) (by (try dsimp only); repeat (first | exact Sub.nil' | refine Sub.cons' rfl ?_)) (by (try dsimp only); repeat (first | exact SubM.nil' | refine SubM.cons' rfl ?_)) ?_
              try dsimp only
              first
              | (refine ⟨by simp, acc4 ++ [[i, k, j, q]], ?_, by simp only [List.length_append, List.length_cons, List.length_nil]; omega, by rw [if_pos ⟨h8, h9, h10⟩]⟩; rw [hm4, List.take_of_length_le (Nat.le_refl _), hx4, List.map_append]; rfl)
              | exact ⟨hm4, acc4, hx4, by omega, by rw [if_neg (by grind)]⟩
            obtain ⟨m5, xs5⟩ := x
            obtain ⟨hm5, acc5, hx5, hl5, he5⟩ := hx
            try dsimp only at hm5 hx5 hl5 he5 ⊢
            refine inBlk_n ?_
            refine thenQ_n ?_
            refine W_keep [1, 3, 4, 6, 7, 8, 10, 11, 13, 14, 15, 21, 22, 23, 59, 60, 61, 67, 68, 69, 70, 71, 72, 73, 74, 75, 76, 77, 78, 79, 80, 81, 82, 83, 84, 85, 86, 87, 88] rfl ?_
            refine W_region ?_
            refine evI ?_
            refine ev ?_
            refine WO_nil ?_
            refine loopQ_n (_, _, _) (by (try dsimp only); repeat (first | exact Sub.nil' | refine Sub.cons' rfl ?_ )) (by (try dsimp only); repeat (first | exact SubM.nil' | refine SubM.cons' rfl ?_ )) ?_ ?_
            · try dsimp only
              exact ⟨by omega, by omega, hm5, hw4, acc5, hx5, by omega, by rw [he4, mvB_at hq0 h7, ← he5]⟩
            · (show Int.toNat _ < Int.toNat _); omega
          try simp only [HS] at h8
          refine ev ?_
          refine WO_guardY rfl rfl rfl rfl (lt_of rfl) ?_
          refine ev ?_
          refine WO_guardY rfl rfl rfl rfl (lt_of rfl) ?_
          iterate 3 (refine ev ?_)
          refine WO_keep [1, 3, 4, 6, 7, 8, 10, 11, 13, 14, 15, 21, 22, 23, 59, 60, 61, 67, 68, 69, 70, 71, 72, 73, 74, 75, 76, 77, 78, 79, 80, 81, 82] rfl ?_
          refine WO_guard rfl rfl rfl rfl (lt_of rfl) (fun h9 => ?_) (fun h9 => ?_)
          rotate_left
          ·
            try simp only [HS] at h9
            iterate 4 (refine WO_guardN rfl rfl rfl rfl rfl (lt_of rfl) ?_)
            refine ev ?_
            refine WO_nil ?_
            refine thenQ_n ?_
            refine W_joinN (α := Nat × List T) [1, 4, 6, 7, 8, 10, 11, 13, 14, 15, 21, 22, 23, 59, 60, 61, 67, 68, 69, 70, 71, 72, 73, 74, 75, 76, 77, 78, 79, 80, 81, 82, 83, 84, 85, 86, 87, 88] [1, 7] (fun (x : Nat × List T) => [(3, .sl 3 0 (x.1))]) (fun (x : Nat × List T) => [(3, .L 1 (x.2))]) (fun (x : Nat × List T) => (x.1) = (x.2).length ∧ ∃ acc5 : List (List Int), (x.2) = acc5.map T.ints ∧ (acc5.length : Int) ≤ 39 * i + 13 * k + 1 + 3 * j + q + 1 ∧ acc5 = (if ¬ i = j ∧ ((ways (w.tasks[j.toNat]'(by omega)))[q.toNat]'(by omega)).kind = 2 ∧ ((ways (w.tasks[j.toNat]'(by omega)))[q.toNat]'(by omega)).chan = ((ways (w.tasks[i.toNat]'(by omega)))[k.toNat]'(by omega)).chan then acc4 ++ [[i, k, j, q]] else acc4)) ?_ (fun x hx => ?_)
            ·
              refine W_condF rfl ?_
              refine W_skip ?_
              refine joinQ_n (_, _) (by (try dsimp only); repeat (first | exact Sub.nil' | refine Sub.cons' rfl ?_)) (by (try dsimp only); repeat (first | exact SubM.nil' | refine SubM.cons' rfl ?_)) ?_
              try dsimp only
              first
              | (refine ⟨by simp, acc4 ++ [[i, k, j, q]], ?_, by simp only [List.length_append, List.length_cons, List.length_nil]; omega, by rw [if_pos ⟨h8, h9, h10⟩]⟩; rw [hm4, List.take_of_length_le (Nat.le_refl _), hx4, List.map_append]; rfl)
              | exact ⟨hm4, acc4, hx4, by omega, by rw [if_neg (by grind)]⟩
            obtain ⟨m5, xs5⟩ := x
            obtain ⟨hm5, acc5, hx5, hl5, he5⟩ := hx
            try dsimp only at hm5 hx5 hl5 he5 ⊢
            refine inBlk_n ?_
            refine thenQ_n ?_
            refine W_keep [1, 3, 4, 6, 7, 8, 10, 11, 13, 14, 15, 21, 22, 23, 59, 60, 61, 67, 68, 69, 70, 71, 72, 73, 74, 75, 76, 77, 78, 79, 80, 81, 82, 83, 84, 85, 86, 87, 88] rfl ?_
            refine W_region ?_
            refine evI ?_
            refine ev ?_
            refine WO_nil ?_
            refine loopQ_n (_, _, _) (by (try dsimp only); repeat (first | exact Sub.nil' | refine Sub.cons' rfl ?_ )) (by (try dsimp only); repeat (first | exact SubM.nil' | refine SubM.cons' rfl ?_ )) ?_ ?_
            · try dsimp only
              exact ⟨by omega, by omega, hm5, hw4, acc5, hx5, by omega, by rw [he4, mvB_at hq0 h7, ← he5]⟩
            · (show Int.toNat _ < Int.toNat _); omega
          try simp only [HS] at h9
          refine ev ?_
          refine WO_guardY rfl rfl rfl rfl (lt_of rfl) ?_
          refine ev ?_
          refine WO_guardY rfl rfl rfl rfl (lt_of rfl) ?_
          refine ev ?_
          refine WO_guardY rfl rfl rfl rfl (lt_of rfl) ?_
          refine ev ?_
          refine WO_guardY rfl rfl rfl rfl (lt_of rfl) ?_
          refine ev ?_
          refine ev ?_
          refine WO_nil ?_
          refine thenQ_n ?_
          refine W_joinN (α := Nat × List T) [1, 4, 6, 7, 8, 10, 11, 13, 14, 15, 21, 22, 23, 59, 60, 61, 67, 68, 69, 70, 71, 72, 73, 74, 75, 76, 77, 78, 79, 80, 81, 82, 83, 84, 85, 86, 87, 88] [1, 7] (fun (x : Nat × List T) => [(3, .sl 3 0 (x.1))]) (fun (x : Nat × List T) => [(3, .L 1 (x.2))]) (fun (x : Nat × List T) => (x.1) = (x.2).length ∧ ∃ acc5 : List (List Int), (x.2) = acc5.map T.ints ∧ (acc5.length : Int) ≤ 39 * i + 13 * k + 1 + 3 * j + q + 1 ∧ acc5 = (if ¬ i = j ∧ ((ways (w.tasks[j.toNat]'(by omega)))[q.toNat]'(by omega)).kind = 2 ∧ ((ways (w.tasks[j.toNat]'(by omega)))[q.toNat]'(by omega)).chan = ((ways (w.tasks[i.toNat]'(by omega)))[k.toNat]'(by omega)).chan then acc4 ++ [[i, k, j, q]] else acc4)) ?_ (fun x hx => ?_)
          ·
            refine W_cond rfl (fun h10 => ?_) (fun h10 => ?_)
            ·
              try simp only [HS] at h10
              refine W_region ?_
              iterate 3 (refine ev ?_)
              refine WO_keep [1, 3, 4, 6, 7, 8, 10, 11, 13, 14, 15, 21, 22, 23, 59, 60, 61, 67, 68, 69, 70, 71, 72, 73, 74, 75, 76, 77, 78, 79, 80, 81, 82, 83, 84, 85, 86, 87, 88, 89, 90, 91] rfl ?_
              refine ev ?_
              refine ev ?_
              refine WO_buildSlice tys [T.int i, T.int k, T.int j, T.int q] rfl rfl (lt_of rfl) rfl rfl rfl rfl rfl (lt_of rfl) (by repeat (first | exact PartsOk.nil' | refine PartsOk.cons' rfl (by repeat (first | exact AbsL.nil' | refine AbsL.v' ?_ | refine AbsL.own' ?_ | refine AbsL.none' ?_)) rfl ?_)) (by first | exact List.nodup_nil | exact nodup1 _ | decide | exact nodupB_sound rfl) rfl (by decide) ?_
              refine WO_norm rfl ?_
              refine WO_le (Le.gather (u := 94) (id := 94) rfl rfl (by first | (simp; done) | (simp; omega) | omega)) ?_
              refine WO_norm rfl ?_
              refine WO_buildSlice tys [T.ints [i, k, j, q]] rfl rfl (lt_of rfl) rfl rfl rfl rfl rfl (lt_of rfl) (by repeat (first | exact PartsOk.nil' | refine PartsOk.cons' rfl (by repeat (first | exact AbsL.nil' | refine AbsL.v' ?_ | refine AbsL.own' ?_ | refine AbsL.none' ?_)) rfl ?_)) (by first | exact List.nodup_nil | exact nodup1 _ | decide | exact nodupB_sound rfl) rfl (by decide) ?_
              refine WO_norm rfl ?_
              first | refine WO_append tys rfl rfl (lt_of rfl) rfl rfl rfl rfl rfl (.own rfl (by first | omega | (simp only [List.length_append]; omega))) rfl (.own rfl (by first | decide | omega)) (by decide) (by have q1 := congrArg List.length hx4; have q2 := hw.1; simp only [List.length_map] at q1; simp only [List.length_take, List.length_cons, List.length_nil]; omega) (by decide) rfl ?_ | refine WO_append tys rfl rfl (lt_of rfl) rfl rfl rfl rfl rfl .nil rfl (.own rfl (by first | decide | omega)) (by decide) (by have q1 := congrArg List.length hx4; have q2 := hw.1; simp only [List.length_map] at q1; simp only [List.length_take, List.length_cons, List.length_nil]; omega) (by decide) rfl ?_
              refine WO_norm rfl ?_
              refine ev ?_
              refine WO_nil ?_
              refine joinQ_n (_, _) (by (try dsimp only); repeat (first | exact Sub.nil' | refine Sub.cons' rfl ?_)) (by (try dsimp only); repeat (first | exact SubM.nil' | refine SubM.cons' rfl ?_)) ?_
              try dsimp only
              first
              | (refine ⟨by simp, acc4 ++ [[i, k, j, q]], ?_, by simp only [List.length_append, List.length_cons, List.length_nil]; omega, by rw [if_pos ⟨h8, h9, h10⟩]⟩; rw [hm4, List.take_of_length_le (Nat.le_refl _), hx4, List.map_append]; rfl)
              | exact ⟨hm4, acc4, hx4, by omega, by rw [if_neg (by grind)]⟩
            try simp only [HS] at h10
            refine W_skip ?_
            refine joinQ_n (_, _) (by (try dsimp only); repeat (first | exact Sub.nil' | refine Sub.cons' rfl ?_)) (by (try dsimp only); repeat (first | exact SubM.nil' | refine SubM.cons' rfl ?_)) ?_
            try dsimp only
            first
            | (refine ⟨by simp, acc4 ++ [[i, k, j, q]], ?_, by simp only [List.length_append, List.length_cons, List.length_nil]; omega, by rw [if_pos ⟨h8, h9, h10⟩]⟩; rw [hm4, List.take_of_length_le (Nat.le_refl _), hx4, List.map_append]; rfl)
            | exact ⟨hm4, acc4, hx4, by omega, by rw [if_neg (by grind)]⟩
          obtain ⟨m5, xs5⟩ := x
          obtain ⟨hm5, acc5, hx5, hl5, he5⟩ := hx
          try dsimp only at hm5 hx5 hl5 he5 ⊢
          refine inBlk_n ?_
          refine thenQ_n ?_
          refine W_keep [1, 3, 4, 6, 7, 8, 10, 11, 13, 14, 15, 21, 22, 23, 59, 60, 61, 67, 68, 69, 70, 71, 72, 73, 74, 75, 76, 77, 78, 79, 80, 81, 82, 83, 84, 85, 86, 87, 88] rfl ?_
          refine W_region ?_
          refine evI ?_
          refine ev ?_
          refine WO_nil ?_
          refine loopQ_n (_, _, _) (by (try dsimp only); repeat (first | exact Sub.nil' | refine Sub.cons' rfl ?_ )) (by (try dsimp only); repeat (first | exact SubM.nil' | refine SubM.cons' rfl ?_ )) ?_ ?_
          · try dsimp only
            exact ⟨by omega, by omega, hm5, hw4, acc5, hx5, by omega, by rw [he4, mvB_at hq0 h7, ← he5]⟩
          · (show Int.toNat _ < Int.toNat _); omega
        try simp only [HS] at h7
        refine W_exit ?_
        refine thenQ_e ?_
        refine loopQ_e ?_
        refine inBlk_y ?_
        refine inBlk_n ?_
        refine thenQ_n ?_
        refine W_region ?_
        refine evI ?_
        refine ev ?_
        refine WO_nil ?_
        refine loopQ_n (_, _, _) (by (try dsimp only); repeat (first | exact Sub.nil' | refine Sub.cons' rfl ?_ )) (by (try dsimp only); repeat (first | exact SubM.nil' | refine SubM.cons' rfl ?_ )) ?_ ?_
        · try dsimp only
          exact ⟨by omega, by omega, hm4, acc4, hx4, by omega, by rw [he3, mvU_at hj0 h6, he4, drop_end h7]; rfl⟩
        · (show Int.toNat _ < Int.toNat _); omega
      try simp only [HS] at h6
      refine W_exit ?_
      refine thenQ_e ?_
      refine loopQ_e ?_
      refine inBlk_y ?_
      refine inBlk_n ?_
      refine thenQ_n ?_
      refine W_region ?_
      refine evI ?_
      refine ev ?_
      refine WO_nil ?_
      refine loopQ_n (_, _, _) (by (try dsimp only); repeat (first | exact Sub.nil' | refine Sub.cons' rfl ?_ )) (by (try dsimp only); repeat (first | exact SubM.nil' | refine SubM.cons' rfl ?_ )) ?_ ?_
      · try dsimp only
        have e1 := at0_of (d := false) (l := w.shut) hc.1 (by omega); have e2 := at0_of (d := []) (l := w.held) hc.1 (by omega)
        first
        | (have hS : mvS w ((ways (w.tasks[i.toNat]'(by omega)))[k.toNat]'(by omega)) = false := (by grind [mvS]); refine ⟨by omega, by omega, hm2, hw, acc2, hx2, by omega, ?_⟩; rw [he', mvA_at hk0 h2, ← he2, hS]; rfl)
        | (have hS : mvS w ((ways (w.tasks[i.toNat]'(by omega)))[k.toNat]'(by omega)) = true := (by grind [mvS]); refine ⟨by omega, by omega, hm3, hw, acc3, hx3, by omega, ?_⟩; rw [he', mvA_at hk0 h2, ← he2, hS, if_pos rfl, he3, drop_end (l := w.tasks) (by omega)]; rfl)
      · (show Int.toNat _ < Int.toNat _); omega
    try simp only [HS] at h2
    refine W_exit ?_
    refine thenQ_e ?_
    refine loopQ_e ?_
    refine inBlk_y ?_
    refine inBlk_n ?_
    refine thenQ_n ?_
    refine W_region ?_
    refine evI ?_
    refine ev ?_
    refine WO_nil ?_
    refine loopQ_n (_, _, _) (by (try dsimp only); repeat (first | exact Sub.nil' | refine Sub.cons' rfl ?_ )) (by (try dsimp only); repeat (first | exact SubM.nil' | refine SubM.cons' rfl ?_ )) ?_ ?_
    · try dsimp only
      exact ⟨by omega, by omega, hm', acc', hx', by (have := hw.1; omega), by rw [he, mvT_at hi0 h1, he', drop_end h2]; rfl⟩
    · (show Int.toNat _ < Int.toNat _); omega
  try simp only [HS] at h1
  refine W_exit ?_
  refine thenQ_e ?_
  refine loopQ_e ?_
  refine inBlk_y ?_
  refine thenQ_n ?_
  refine W_seq ?_
  refine W_region ?_
  refine ev ?_
  refine ev ?_
  refine WO_nil ?_
  refine thenQ_n ?_
  refine W_le (Le.gather (u := 2) (id := 3) rfl rfl (by omega)) ?_
  refine W_ret ?_
  refine Ends_of (.inr rfl) (ret_okF rfl) (by decide) rfl ?_
  · rw [hm, List.take_of_length_le (Nat.le_refl _), hx, he, drop_end h1]; rfl

theorem movesIn_fun (w : World) (hg : Good w) : Fun Try.prog 51 [.t w.tt] (tupD [.own (intss (movesOf w))]) := by
  have g1 := hg.room
  have g2 := hg.held
  have g3 := hg.shut
  have g4 := hg.tasks
  refine Fun.begin tys Try.func51 rfl rfl (N := 98) [(0, .t w.tt)] rfl rfl (fun w0 G F0 => ?_)
  refine W_seq ?_
  refine W_region ?_
  refine WO_box rfl rfl (lt_of rfl) rfl rfl ?_
  refine WO_norm rfl ?_
  refine ev ?_
  refine WO_nil ?_
  refine thenQ_n ?_
  refine W_seq ?_
  refine W_region ?_
  refine ev ?_
  refine WO_le (Le.nilOwn (u := 3) 1 rfl) ?_
  refine WO_le (Le.adoptE (u := 3) 3 rfl rfl) ?_
  refine WO_norm rfl ?_
  refine WO_nil ?_
  refine thenQ_n ?_
  iterate 2 (refine W_seq ?_)
  refine W_region ?_
  refine ev ?_
  refine ev ?_
  refine evE ?_
  refine ev ?_
  refine WO_nil ?_
  refine thenQ_n ?_
  refine W_block ?_
  refine W_loopK (α := Int × Nat × List T) [1, 11, 12] [1] (fun (x : Int × Nat × List T) => [(13, .t (.int (x.1))), (3, .sl 3 0 (x.2.1))]) (fun (x : Int × Nat × List T) => [(3, .L 1 (x.2.2))]) (fun (x : Int × Nat × List T) => 0 ≤ (x.1) ∧ (x.1) ≤ w.tasks.length ∧ (x.2.1) = (x.2.2).length ∧ ∃ acc : List (List Int), (x.2.2) = acc.map T.ints ∧ (acc.length : Int) ≤ 39 * (x.1) ∧ movesOf w = mvT w (w.tasks.drop (x.1).toNat) (x.1) acc) (fun (x : Int × Nat × List T) => Int.toNat (w.tasks.length - (x.1))) (0, 0, []) ?_ ?_ ?_ (fun x hx => ?_)
  · repeat (first | exact Sub.nil' | refine Sub.cons' rfl ?_ )
  · repeat (first | exact SubM.nil' | refine SubM.cons' rfl ?_ )
  · exact ⟨by omega, by omega, by simp, [], rfl, by simp, rfl⟩
  obtain ⟨i, m, xs⟩ := x
  obtain ⟨hi0, hi1, hm, acc, hx, hl, he⟩ := hx
  try dsimp only at hi0 hi1 hm hx hl he ⊢
  refine W_norm rfl ?_
  refine W_seq ?_
  refine W_region ?_
  refine ev ?_
  refine WO_nil ?_
  refine thenQ_n ?_
  refine W_seq ?_
  refine W_cond rfl (fun h1 => ?_) (fun h1 => ?_)
  ·
    try simp only [HS] at h1
    refine W_skip ?_
    refine thenQ_n ?_
    refine W_seq ?_
    refine W_block ?_
    refine W_seq ?_
    refine W_region ?_
    refine ev ?_
    refine ev ?_
    refine WO_nil ?_
    refine thenQ_n ?_
    refine W_seq ?_
    refine W_region ?_
    first | (refine ev ?_; try refine WO_le (Le.freeze (u := 16) rfl) ?_) | refine WO_loadMove tys rfl rfl (lt_of rfl) rfl rfl rfl rfl rfl rfl ?_
    refine WO_norm rfl ?_
    refine ev ?_
    refine WO_callF rfl rfl (lt_of rfl) rfl rfl rfl rfl rfl (casesOf_fun _ _ (by omega) (by omega) (by have := (hg.pos _ (List.getElem_mem (l := w.tasks) (n := i.toNat) (by omega))).2.2; omega) (hg.pos _ (List.getElem_mem _)).1 (hg.pos _ (List.getElem_mem _)).2.1) rfl ?_
    refine evE ?_
    refine ev ?_
    refine WO_nil ?_
    refine thenQ_n ?_
    refine W_block ?_
    refine W_loopK (α := Int × Nat × List T) [1, 4, 11, 12, 13, 18, 19] [1] (fun (x : Int × Nat × List T) => [(20, .t (.int (x.1))), (3, .sl 3 0 (x.2.1))]) (fun (x : Int × Nat × List T) => [(3, .L 1 (x.2.2))]) (fun (x : Int × Nat × List T) => 0 ≤ (x.1) ∧ (x.1) ≤ (ways (w.tasks[i.toNat]'(by omega))).length ∧ (x.2.1) = (x.2.2).length ∧ ((ways (w.tasks[i.toNat]'(by omega))).length ≤ 3 ∧ ∀ b, b ∈ ways (w.tasks[i.toNat]'(by omega)) → 0 ≤ b.chan ∧ b.chan < w.room.length) ∧ ∃ acc' : List (List Int), (x.2.2) = acc'.map T.ints ∧ (acc'.length : Int) ≤ 39 * i + 13 * (x.1) ∧ mvA w i (ways (w.tasks[i.toNat]'(by omega))) 0 acc = mvA w i ((ways (w.tasks[i.toNat]'(by omega))).drop (x.1).toNat) (x.1) acc') (fun (x : Int × Nat × List T) => Int.toNat ((ways (w.tasks[i.toNat]'(by omega))).length - (x.1))) (0, m, xs) ?_ ?_ ?_ (fun x hx => ?_)
    · repeat (first | exact Sub.nil' | refine Sub.cons' rfl ?_ )
    · repeat (first | exact SubM.nil' | refine SubM.cons' rfl ?_ )
    · exact ⟨by omega, by omega, hm, hg.ways _ (List.getElem_mem _), acc, hx, by omega, rfl⟩
    obtain ⟨k, m', xs'⟩ := x
    obtain ⟨hk0, hk1, hm', hw, acc', hx', hl', he'⟩ := hx
    try dsimp only at hk0 hk1 hm' hw hx' hl' he' ⊢
    refine W_norm rfl ?_
    refine W_seq ?_
    refine W_region ?_
    refine ev ?_
    refine WO_nil ?_
    refine thenQ_n ?_
    refine W_seq ?_
    refine W_cond rfl (fun h2 => ?_) (fun h2 => ?_)
    ·
      try simp only [HS] at h2
      refine W_skip ?_
      refine thenQ_n ?_
      refine W_seq ?_
      refine W_block ?_
      refine W_seq ?_
      refine W_region ?_
      refine ev ?_
      first | refine WO_idxT tys rfl rfl (lt_of rfl) rfl rfl rfl rfl rfl rfl rfl (by omega) _ (getAct _ (by omega) (by omega)) ?_ | refine WO_idxS tys rfl rfl (lt_of rfl) rfl rfl rfl rfl rfl rfl rfl rfl (by omega) (by omega) ?_
      first | (refine ev ?_; try refine WO_le (Le.freeze (u := 24) rfl) ?_) | refine WO_loadL tys rfl rfl (lt_of rfl) rfl rfl rfl rfl (getT _ _ (by omega) (by omega)) rfl ?_ | refine WO_loadL tys rfl rfl (lt_of rfl) rfl rfl rfl rfl (getT0 _ _ (by omega) (by omega)) rfl ?_
      refine WO_norm rfl ?_
      refine WO_alloc tys rfl rfl (lt_of rfl) rfl rfl rfl ?_
      refine WO_norm rfl ?_
      have hc := hw.2 _ (List.getElem_mem (l := ways (w.tasks[i.toNat]'(by omega))) (n := k.toNat) (by omega))
      refine ev ?_
      refine WO_store tys rfl rfl rfl rfl rfl rfl rfl rfl (lt_of rfl) ?_
      refine WO_norm rfl ?_
      refine WO_nil ?_
      refine thenQ_n ?_
      iterate 2 (refine W_seq ?_)
      refine W_keep [1, 3, 4, 5, 6, 11, 12, 13, 18, 19, 20, 21, 22, 23, 24] rfl ?_
      refine W_region ?_
      first | (refine ev ?_; try refine WO_le (Le.freeze (u := 25) rfl) ?_) | refine WO_loadMove tys rfl rfl (lt_of rfl) rfl rfl rfl rfl rfl rfl ?_
      refine WO_norm rfl ?_
      first | (refine ev ?_; try refine WO_le (Le.freeze (u := 26) rfl) ?_) | refine WO_loadMove tys rfl rfl (lt_of rfl) rfl rfl rfl rfl rfl rfl ?_
      refine WO_norm rfl ?_
      refine callB ?_
      refine ⟨_, isAlone_fun _ _ (hw.2 _ (List.getElem_mem _)).1 (hw.2 _ (List.getElem_mem _)).2 g2 g3 g1, rfl, ?_⟩
      refine WO_nil ?_
      refine thenQ_n ?_
      refine W_joinN (α := Nat × List T) [1, 4, 5, 6, 11, 12, 13, 18, 19, 20, 21, 22, 23, 24, 25, 26, 27] [1, 6] (fun (x : Nat × List T) => [(3, .sl 3 0 (x.1))]) (fun (x : Nat × List T) => [(3, .L 1 (x.2))]) (fun (x : Nat × List T) => (x.1) = (x.2).length ∧ ∃ acc2 : List (List Int), (x.2) = acc2.map T.ints ∧ (acc2.length : Int) ≤ 39 * i + 13 * k + 1 ∧ acc2 = (if alone w ((ways (w.tasks[i.toNat]'(by omega)))[k.toNat]'(by omega)) then acc' ++ [[i, k, -1, 0]] else acc')) ?_ (fun x hx => ?_)
      ·
        refine W_cond rfl (fun h3 => ?_) (fun h3 => ?_)
        ·
          try simp only [HS] at h3
          refine W_region ?_
          iterate 3 (refine ev ?_)
          refine WO_buildSlice tys [T.int i, T.int k, T.int (-1), T.int 0] rfl rfl (lt_of rfl) rfl rfl rfl rfl rfl (lt_of rfl) (by repeat (first | exact PartsOk.nil' | refine PartsOk.cons' rfl (by repeat (first | exact AbsL.nil' | refine AbsL.v' ?_ | refine AbsL.own' ?_ | refine AbsL.none' ?_)) rfl ?_)) (by first | exact List.nodup_nil | exact nodup1 _ | decide | exact nodupB_sound rfl) rfl (by decide) ?_
          refine WO_norm rfl ?_
          refine WO_le (Le.gather (u := 31) (id := 31) rfl rfl (by first | (simp; done) | (simp; omega) | omega)) ?_
          refine WO_norm rfl ?_
          refine WO_buildSlice tys [T.ints [i, k, -1, 0]] rfl rfl (lt_of rfl) rfl rfl rfl rfl rfl (lt_of rfl) (by repeat (first | exact PartsOk.nil' | refine PartsOk.cons' rfl (by repeat (first | exact AbsL.nil' | refine AbsL.v' ?_ | refine AbsL.own' ?_ | refine AbsL.none' ?_)) rfl ?_)) (by first | exact List.nodup_nil | exact nodup1 _ | decide | exact nodupB_sound rfl) rfl (by decide) ?_
          refine WO_norm rfl ?_
          first | refine WO_append tys rfl rfl (lt_of rfl) rfl rfl rfl rfl rfl (.own rfl (by first | omega | (simp only [List.length_append]; omega))) rfl (.own rfl (by first | decide | omega)) (by decide) (by have q1 := congrArg List.length hx'; have q2 := hw.1; simp only [List.length_map] at q1; simp only [List.length_take, List.length_cons, List.length_nil]; omega) (by decide) rfl ?_ | refine WO_append tys rfl rfl (lt_of rfl) rfl rfl rfl rfl rfl .nil rfl (.own rfl (by first | decide | omega)) (by decide) (by have q1 := congrArg List.length hx'; have q2 := hw.1; simp only [List.length_map] at q1; simp only [List.length_take, List.length_cons, List.length_nil]; omega) (by decide) rfl ?_
          refine WO_norm rfl ?_
          refine WO_keep [1, 3, 4, 5, 6, 11, 12, 13, 18, 19, 20, 21, 22, 23, 24, 25, 26, 27, 28, 29, 30, 31, 32, 33] rfl ?_
          refine ev ?_
          refine WO_nil ?_
          refine joinQ_n (_, _) (by (try dsimp only); repeat (first | exact Sub.nil' | refine Sub.cons' rfl ?_)) (by (try dsimp only); repeat (first | exact SubM.nil' | refine SubM.cons' rfl ?_)) ?_
          try dsimp only
          first
          | (refine ⟨by simp, acc' ++ [[i, k, -1, 0]], ?_, by simp only [List.length_append, List.length_cons, List.length_nil]; omega, by rw [if_pos h3]⟩; rw [hm', List.take_of_length_le (Nat.le_refl _), hx', List.map_append]; rfl)
          | exact ⟨hm', acc', hx', by omega, by rw [if_neg (by simp [h3])]⟩
        try simp only [HS] at h3
        refine W_skip ?_
        refine joinQ_n (_, _) (by (try dsimp only); repeat (first | exact Sub.nil' | refine Sub.cons' rfl ?_)) (by (try dsimp only); repeat (first | exact SubM.nil' | refine SubM.cons' rfl ?_)) ?_
        try dsimp only
        first
        | (refine ⟨by simp, acc' ++ [[i, k, -1, 0]], ?_, by simp only [List.length_append, List.length_cons, List.length_nil]; omega, by rw [if_pos h3]⟩; rw [hm', List.take_of_length_le (Nat.le_refl _), hx', List.map_append]; rfl)
        | exact ⟨hm', acc', hx', by omega, by rw [if_neg (by simp [h3])]⟩
      obtain ⟨m2, xs2⟩ := x
      obtain ⟨hm2, acc2, hx2, hl2, he2⟩ := hx
      try dsimp only at hm2 hx2 hl2 he2 ⊢
      refine thenQ_n ?_
      iterate 2 (refine W_seq ?_)
      refine W_keep [1, 3, 4, 5, 6, 11, 12, 13, 18, 19, 20, 21, 22, 23, 24, 25, 26, 27] rfl ?_
      refine W_region ?_
      iterate 4 (refine ev ?_)
      refine WO_guard rfl rfl rfl rfl (lt_of rfl) (fun h3 => ?_) (fun h3 => ?_)
      rotate_left
      ·
        try simp only [HS] at h3
        iterate 5 (refine WO_guardN rfl rfl rfl rfl rfl (lt_of rfl) ?_)
        refine WO_keep [1, 3, 4, 5, 6, 11, 12, 13, 18, 19, 20, 21, 22, 23, 24, 25, 26, 27, 34, 35, 36, 37, 38, 39, 40, 41, 42, 43] rfl ?_
        iterate 2 (refine WO_guardN rfl rfl rfl rfl rfl (lt_of rfl) ?_)
        refine ev ?_
        refine ev ?_
        iterate 5 (refine WO_guardN rfl rfl rfl rfl rfl (lt_of rfl) ?_)
        refine WO_keep [1, 3, 4, 5, 6, 11, 12, 13, 18, 19, 20, 21, 22, 23, 24, 25, 26, 27, 34, 35, 36, 37, 38, 39, 40, 41, 42, 43, 44, 45, 46, 47, 48, 49, 50, 51, 52] rfl ?_
        refine WO_guardN rfl rfl rfl rfl rfl (lt_of rfl) ?_
        refine ev ?_
        refine WO_nil ?_
        refine thenQ_n ?_
        refine W_condT rfl ?_
        refine W_exit ?_
        refine thenQ_e ?_
        refine inBlk_y ?_
        refine thenQ_n ?_
        refine W_region ?_
        refine evI ?_
        refine ev ?_
        refine WO_nil ?_
        refine loopQ_n (_, _, _) (by (try dsimp only); repeat (first | exact Sub.nil' | refine Sub.cons' rfl ?_ )) (by (try dsimp only); repeat (first | exact SubM.nil' | refine SubM.cons' rfl ?_ )) ?_ ?_
        · try dsimp only
          have e1 := at0_of (d := false) (l := w.shut) hc.1 (by omega); have e2 := at0_of (d := []) (l := w.held) hc.1 (by omega)
          first
          | (have hS : mvS w ((ways (w.tasks[i.toNat]'(by omega)))[k.toNat]'(by omega)) = false := (by grind [mvS]); refine ⟨by omega, by omega, hm2, hw, acc2, hx2, by omega, ?_⟩; rw [he', mvA_at hk0 h2, ← he2, hS]; rfl)
          | (have hS : mvS w ((ways (w.tasks[i.toNat]'(by omega)))[k.toNat]'(by omega)) = true := (by grind [mvS]); refine ⟨by omega, by omega, hm3, hw, acc3, hx3, by omega, ?_⟩; rw [he', mvA_at hk0 h2, ← he2, hS, if_pos rfl, he3, drop_end (l := w.tasks) (by omega)]; rfl)
        · (show Int.toNat _ < Int.toNat _); omega
      try simp only [HS] at h3
      refine ev ?_
      refine WO_guardY rfl rfl rfl rfl (lt_of rfl) ?_
      refine ev ?_
      refine WO_guardY rfl rfl rfl rfl (lt_of rfl) ?_
      refine ev ?_
      refine WO_guardY rfl rfl rfl rfl (lt_of rfl) ?_
      refine ev ?_
      refine WO_guardY rfl rfl rfl rfl (lt_of rfl) ?_
      first | refine WO_idxT tys rfl rfl (lt_of rfl) rfl rfl rfl rfl rfl rfl rfl (by omega) _ (getT _ _ (by omega) (by omega)) ?_ | refine WO_idxS tys rfl rfl (lt_of rfl) rfl rfl rfl rfl rfl rfl rfl rfl (by omega) (by omega) ?_
      refine WO_keep [1, 3, 4, 5, 6, 11, 12, 13, 18, 19, 20, 21, 22, 23, 24, 25, 26, 27, 34, 35, 36, 37, 38, 39, 40, 41, 42] rfl ?_
      refine WO_guardY rfl rfl rfl rfl (lt_of rfl) ?_
      first | refine ev ?_ | refine WO_loadL tys rfl rfl (lt_of rfl) rfl rfl rfl rfl (getT _ _ (by omega) (by omega)) rfl ?_ | refine WO_loadL tys rfl rfl (lt_of rfl) rfl rfl rfl rfl (getT0 _ _ (by omega) (by omega)) rfl ?_
      refine WO_guardY rfl rfl rfl rfl (lt_of rfl) ?_
      refine evE ?_
      refine WO_guardY rfl rfl rfl rfl (lt_of rfl) ?_
      iterate 3 (refine ev ?_)
      refine WO_guard rfl rfl rfl rfl (lt_of rfl) (fun h4 => ?_) (fun h4 => ?_)
      rotate_left
      ·
        try simp only [HS] at h4
        iterate 4 (refine WO_guardN rfl rfl rfl rfl rfl (lt_of rfl) ?_)
        refine WO_keep [1, 3, 4, 5, 6, 11, 12, 13, 18, 19, 20, 21, 22, 23, 24, 25, 26, 27, 34, 35, 36, 37, 38, 39, 40, 41, 42, 43, 44, 45, 46, 47, 48, 49, 50, 51, 52] rfl ?_
        refine WO_guardN rfl rfl rfl rfl rfl (lt_of rfl) ?_
        refine ev ?_
        refine WO_nil ?_
        refine thenQ_n ?_
        refine W_condT rfl ?_
        refine W_exit ?_
        refine thenQ_e ?_
        refine inBlk_y ?_
        refine thenQ_n ?_
        refine W_region ?_
        refine evI ?_
        refine ev ?_
        refine WO_nil ?_
        refine loopQ_n (_, _, _) (by (try dsimp only); repeat (first | exact Sub.nil' | refine Sub.cons' rfl ?_ )) (by (try dsimp only); repeat (first | exact SubM.nil' | refine SubM.cons' rfl ?_ )) ?_ ?_
        · try dsimp only
          have e1 := at0_of (d := false) (l := w.shut) hc.1 (by omega); have e2 := at0_of (d := []) (l := w.held) hc.1 (by omega)
          first
          | (have hS : mvS w ((ways (w.tasks[i.toNat]'(by omega)))[k.toNat]'(by omega)) = false := (by grind [mvS]); refine ⟨by omega, by omega, hm2, hw, acc2, hx2, by omega, ?_⟩; rw [he', mvA_at hk0 h2, ← he2, hS]; rfl)
          | (have hS : mvS w ((ways (w.tasks[i.toNat]'(by omega)))[k.toNat]'(by omega)) = true := (by grind [mvS]); refine ⟨by omega, by omega, hm3, hw, acc3, hx3, by omega, ?_⟩; rw [he', mvA_at hk0 h2, ← he2, hS, if_pos rfl, he3, drop_end (l := w.tasks) (by omega)]; rfl)
        · (show Int.toNat _ < Int.toNat _); omega
      try simp only [HS] at h4
      refine ev ?_
      refine WO_guardY rfl rfl rfl rfl (lt_of rfl) ?_
      refine ev ?_
      refine WO_guardY rfl rfl rfl rfl (lt_of rfl) ?_
      refine ev ?_
      refine WO_guardY rfl rfl rfl rfl (lt_of rfl) ?_
      refine ev ?_
      refine WO_keep [1, 3, 4, 5, 6, 11, 12, 13, 18, 19, 20, 21, 22, 23, 24, 25, 26, 27, 34, 35, 36, 37, 38, 39, 40, 41, 42, 43, 44, 45, 46, 47, 48, 49, 50, 51] rfl ?_
      refine WO_guardY rfl rfl rfl rfl (lt_of rfl) ?_
      first | refine WO_idxT tys rfl rfl (lt_of rfl) rfl rfl rfl rfl rfl rfl rfl (by omega) _ (getT _ _ (by omega) (by omega)) ?_ | refine WO_idxS tys rfl rfl (lt_of rfl) rfl rfl rfl rfl rfl rfl rfl rfl (by omega) (by omega) ?_
      refine WO_guardY rfl rfl rfl rfl (lt_of rfl) ?_
      first | refine ev ?_ | refine WO_loadL tys rfl rfl (lt_of rfl) rfl rfl rfl rfl (getT _ _ (by omega) (by omega)) rfl ?_ | refine WO_loadL tys rfl rfl (lt_of rfl) rfl rfl rfl rfl (getT0 _ _ (by omega) (by omega)) rfl ?_
      refine ev ?_
      refine WO_nil ?_
      refine thenQ_n ?_
      refine W_cond rfl (fun h5 => ?_) (fun h5 => ?_)
      ·
        try simp only [HS] at h5
        refine W_exit ?_
        refine thenQ_e ?_
        refine inBlk_y ?_
        refine thenQ_n ?_
        refine W_region ?_
        refine evI ?_
        refine ev ?_
        refine WO_nil ?_
        refine loopQ_n (_, _, _) (by (try dsimp only); repeat (first | exact Sub.nil' | refine Sub.cons' rfl ?_ )) (by (try dsimp only); repeat (first | exact SubM.nil' | refine SubM.cons' rfl ?_ )) ?_ ?_
        · try dsimp only
          have e1 := at0_of (d := false) (l := w.shut) hc.1 (by omega); have e2 := at0_of (d := []) (l := w.held) hc.1 (by omega)
          first
          | (have hS : mvS w ((ways (w.tasks[i.toNat]'(by omega)))[k.toNat]'(by omega)) = false := (by grind [mvS]); refine ⟨by omega, by omega, hm2, hw, acc2, hx2, by omega, ?_⟩; rw [he', mvA_at hk0 h2, ← he2, hS]; rfl)
          | (have hS : mvS w ((ways (w.tasks[i.toNat]'(by omega)))[k.toNat]'(by omega)) = true := (by grind [mvS]); refine ⟨by omega, by omega, hm3, hw, acc3, hx3, by omega, ?_⟩; rw [he', mvA_at hk0 h2, ← he2, hS, if_pos rfl, he3, drop_end (l := w.tasks) (by omega)]; rfl)
        · (show Int.toNat _ < Int.toNat _); omega
      try simp only [HS] at h5
      refine W_skip ?_
      refine thenQ_n ?_
      refine W_seq ?_
      refine W_region ?_
      refine ev ?_
      refine ev ?_
      refine evE ?_
      refine ev ?_
      refine WO_nil ?_
      refine thenQ_n ?_
      refine W_block ?_
      refine W_loopK (α := Int × Nat × List T) [1, 4, 5, 6, 11, 12, 13, 18, 19, 20, 56, 57] [1, 6] (fun (x : Int × Nat × List T) => [(58, .t (.int (x.1))), (3, .sl 3 0 (x.2.1))]) (fun (x : Int × Nat × List T) => [(3, .L 1 (x.2.2))]) (fun (x : Int × Nat × List T) => 0 ≤ (x.1) ∧ (x.1) ≤ w.tasks.length ∧ (x.2.1) = (x.2.2).length ∧ ∃ acc3 : List (List Int), (x.2.2) = acc3.map T.ints ∧ (acc3.length : Int) ≤ 39 * i + 13 * k + 1 + 3 * (x.1) ∧ mvU i k ((ways (w.tasks[i.toNat]'(by omega)))[k.toNat]'(by omega)) w.tasks 0 acc2 = mvU i k ((ways (w.tasks[i.toNat]'(by omega)))[k.toNat]'(by omega)) (w.tasks.drop (x.1).toNat) (x.1) acc3) (fun (x : Int × Nat × List T) => Int.toNat (w.tasks.length - (x.1))) (0, m2, xs2) ?_ ?_ ?_ (fun x hx => ?_)
      · repeat (first | exact Sub.nil' | refine Sub.cons' rfl ?_ )
      · repeat (first | exact SubM.nil' | refine SubM.cons' rfl ?_ )
      · exact ⟨by omega, by omega, hm2, acc2, hx2, by omega, rfl⟩
      obtain ⟨j, m3, xs3⟩ := x
      obtain ⟨hj0, hj1, hm3, acc3, hx3, hl3, he3⟩ := hx
      try dsimp only at hj0 hj1 hm3 hx3 hl3 he3 ⊢
      refine W_norm rfl ?_
      refine W_seq ?_
      refine W_region ?_
      refine ev ?_
      refine WO_nil ?_
      refine thenQ_n ?_
      refine W_seq ?_
      refine W_cond rfl (fun h6 => ?_) (fun h6 => ?_)
      ·
        try simp only [HS] at h6
        refine W_skip ?_
        refine thenQ_n ?_
        refine W_seq ?_
        refine W_block ?_
        refine W_seq ?_
        refine W_region ?_
        refine ev ?_
        refine ev ?_
        refine WO_nil ?_
        refine thenQ_n ?_
        refine W_seq ?_
        refine W_region ?_
        first | (refine ev ?_; try refine WO_le (Le.freeze (u := 61) rfl) ?_) | refine WO_loadMove tys rfl rfl (lt_of rfl) rfl rfl rfl rfl rfl rfl ?_
        refine WO_norm rfl ?_
        refine ev ?_
        refine WO_callF rfl rfl (lt_of rfl) rfl rfl rfl rfl rfl (casesOf_fun _ _ (by omega) (by omega) (by have := (hg.pos _ (List.getElem_mem (l := w.tasks) (n := j.toNat) (by omega))).2.2; omega) (hg.pos _ (List.getElem_mem _)).1 (hg.pos _ (List.getElem_mem _)).2.1) rfl ?_
        refine evE ?_
        refine ev ?_
        refine WO_nil ?_
        refine thenQ_n ?_
        refine W_block ?_
        refine W_loopK (α := Int × Nat × List T) [1, 4, 5, 6, 7, 11, 12, 13, 18, 19, 20, 56, 57, 58, 63, 64] [1, 6] (fun (x : Int × Nat × List T) => [(65, .t (.int (x.1))), (3, .sl 3 0 (x.2.1))]) (fun (x : Int × Nat × List T) => [(3, .L 1 (x.2.2))]) (fun (x : Int × Nat × List T) => 0 ≤ (x.1) ∧ (x.1) ≤ (ways (w.tasks[j.toNat]'(by omega))).length ∧ (x.2.1) = (x.2.2).length ∧ (ways (w.tasks[j.toNat]'(by omega))).length ≤ 3 ∧ ∃ acc4 : List (List Int), (x.2.2) = acc4.map T.ints ∧ (acc4.length : Int) ≤ 39 * i + 13 * k + 1 + 3 * j + (x.1) ∧ mvB i k ((ways (w.tasks[i.toNat]'(by omega)))[k.toNat]'(by omega)) j (ways (w.tasks[j.toNat]'(by omega))) 0 acc3 = mvB i k ((ways (w.tasks[i.toNat]'(by omega)))[k.toNat]'(by omega)) j ((ways (w.tasks[j.toNat]'(by omega))).drop (x.1).toNat) (x.1) acc4) (fun (x : Int × Nat × List T) => Int.toNat ((ways (w.tasks[j.toNat]'(by omega))).length - (x.1))) (0, m3, xs3) ?_ ?_ ?_ (fun x hx => ?_)
        · repeat (first | exact Sub.nil' | refine Sub.cons' rfl ?_ )
        · repeat (first | exact SubM.nil' | refine SubM.cons' rfl ?_ )
        · exact ⟨by omega, by omega, hm3, (hg.ways _ (List.getElem_mem _)).1, acc3, hx3, by omega, rfl⟩
        obtain ⟨q, m4, xs4⟩ := x
        obtain ⟨hq0, hq1, hm4, hw4, acc4, hx4, hl4, he4⟩ := hx
        try dsimp only at hq0 hq1 hm4 hw4 hx4 hl4 he4 ⊢
        refine W_norm rfl ?_
        refine W_seq ?_
        refine W_region ?_
        refine ev ?_
        refine WO_nil ?_
        refine thenQ_n ?_
        refine W_seq ?_
        refine W_cond rfl (fun h7 => ?_) (fun h7 => ?_)
        ·
          try simp only [HS] at h7
          refine W_skip ?_
          refine thenQ_n ?_
          refine W_seq ?_
          refine W_block ?_
          refine W_seq ?_
          refine W_region ?_
          refine ev ?_
          first | refine WO_idxT tys rfl rfl (lt_of rfl) rfl rfl rfl rfl rfl rfl rfl (by omega) _ (getAct _ (by omega) (by omega)) ?_ | refine WO_idxS tys rfl rfl (lt_of rfl) rfl rfl rfl rfl rfl rfl rfl rfl (by omega) (by omega) ?_
          first | (refine ev ?_; try refine WO_le (Le.freeze (u := 69) rfl) ?_) | refine WO_loadL tys rfl rfl (lt_of rfl) rfl rfl rfl rfl (getT _ _ (by omega) (by omega)) rfl ?_ | refine WO_loadL tys rfl rfl (lt_of rfl) rfl rfl rfl rfl (getT0 _ _ (by omega) (by omega)) rfl ?_
          refine WO_norm rfl ?_
          refine WO_alloc tys rfl rfl (lt_of rfl) rfl rfl rfl ?_
          refine WO_norm rfl ?_
          refine ev ?_
          refine WO_store tys rfl rfl rfl rfl rfl rfl rfl rfl (lt_of rfl) ?_
          refine WO_norm rfl ?_
          refine WO_nil ?_
          refine thenQ_n ?_
          refine W_seq ?_
          refine W_keep [1, 3, 4, 5, 6, 7, 8, 9, 11, 12, 13, 18, 19, 20, 56, 57, 58, 63, 64, 65, 66, 67, 68, 69] rfl ?_
          refine W_region ?_
          iterate 4 (refine ev ?_)
          refine WO_guard rfl rfl rfl rfl (lt_of rfl) (fun h8 => ?_) (fun h8 => ?_)
          rotate_left
          ·
            try simp only [HS] at h8
            iterate 2 (refine WO_guardN rfl rfl rfl rfl rfl (lt_of rfl) ?_)
            refine ev ?_
            refine ev ?_
            refine WO_guardN rfl rfl rfl rfl rfl (lt_of rfl) ?_
            refine WO_keep [1, 3, 4, 5, 6, 7, 8, 9, 11, 12, 13, 18, 19, 20, 56, 57, 58, 63, 64, 65, 66, 67, 68, 69, 70, 71, 72, 73, 74, 75, 76, 77, 78, 79] rfl ?_
            iterate 4 (refine WO_guardN rfl rfl rfl rfl rfl (lt_of rfl) ?_)
            refine ev ?_
            refine WO_nil ?_
            refine thenQ_n ?_
            refine W_joinN (α := Nat × List T) [1, 4, 5, 6, 7, 8, 9, 11, 12, 13, 18, 19, 20, 56, 57, 58, 63, 64, 65, 66, 67, 68, 69, 70, 71, 72, 73, 74, 75, 76, 77, 78, 79, 80, 81, 82, 83, 84] [1, 6] (fun (x : Nat × List T) => [(3, .sl 3 0 (x.1))]) (fun (x : Nat × List T) => [(3, .L 1 (x.2))]) (fun (x : Nat × List T) => (x.1) = (x.2).length ∧ ∃ acc5 : List (List Int), (x.2) = acc5.map T.ints ∧ (acc5.length : Int) ≤ 39 * i + 13 * k + 1 + 3 * j + q + 1 ∧ acc5 = (if ¬ i = j ∧ ((ways (w.tasks[j.toNat]'(by omega)))[q.toNat]'(by omega)).kind = 2 ∧ ((ways (w.tasks[j.toNat]'(by omega)))[q.toNat]'(by omega)).chan = ((ways (w.tasks[i.toNat]'(by omega)))[k.toNat]'(by omega)).chan then acc4 ++ [[i, k, j, q]] else acc4)) ?_ (fun x hx => ?_)
            ·
              refine W_condF rfl ?_
              refine W_skip ?_
              refine joinQ_n (_, _) (by (try dsimp only); repeat (first | exact Sub.nil' | refine Sub.cons' rfl ?_)) (by (try dsimp only); repeat (first | exact SubM.nil' | refine SubM.cons' rfl ?_)) ?_
              try dsimp only
              first
              | (refine ⟨by simp, acc4 ++ [[i, k, j, q]], ?_, by simp only [List.length_append, List.length_cons, List.length_nil]; omega, by rw [if_pos ⟨fun e => h8 e.symm, h9, h10⟩]⟩; rw [hm4, List.take_of_length_le (Nat.le_refl _), hx4, List.map_append]; rfl)
              | exact ⟨hm4, acc4, hx4, by omega, by rw [if_neg (by grind)]⟩
            obtain ⟨m5, xs5⟩ := x
            obtain ⟨hm5, acc5, hx5, hl5, he5⟩ := hx
            try dsimp only at hm5 hx5 hl5 he5 ⊢
            refine inBlk_n ?_
            refine thenQ_n ?_
            refine W_keep [1, 3, 4, 5, 6, 7, 8, 9, 11, 12, 13, 18, 19, 20, 56, 57, 58, 63, 64, 65, 66, 67, 68, 69, 70, 71, 72, 73, 74, 75, 76, 77, 78, 79, 80, 81, 82, 83, 84] rfl ?_
            refine W_region ?_
            refine evI ?_
            refine ev ?_
            refine WO_nil ?_
            refine loopQ_n (_, _, _) (by (try dsimp only); repeat (first | exact Sub.nil' | refine Sub.cons' rfl ?_ )) (by (try dsimp only); repeat (first | exact SubM.nil' | refine SubM.cons' rfl ?_ )) ?_ ?_
            · try dsimp only
              exact ⟨by omega, by omega, hm5, hw4, acc5, hx5, by omega, by rw [he4, mvB_at hq0 h7, ← he5]⟩
            · (show Int.toNat _ < Int.toNat _); omega
          try simp only [HS] at h8
          refine ev ?_
          refine WO_guardY rfl rfl rfl rfl (lt_of rfl) ?_
          refine ev ?_
          refine WO_guardY rfl rfl rfl rfl (lt_of rfl) ?_
          iterate 3 (refine ev ?_)
          refine WO_keep [1, 3, 4, 5, 6, 7, 8, 9, 11, 12, 13, 18, 19, 20, 56, 57, 58, 63, 64, 65, 66, 67, 68, 69, 70, 71, 72, 73, 74, 75, 76, 77, 78] rfl ?_
          refine WO_guard rfl rfl rfl rfl (lt_of rfl) (fun h9 => ?_) (fun h9 => ?_)
          rotate_left
          ·
            try simp only [HS] at h9
            iterate 4 (refine WO_guardN rfl rfl rfl rfl rfl (lt_of rfl) ?_)
            refine ev ?_
            refine WO_nil ?_
            refine thenQ_n ?_
            refine W_joinN (α := Nat × List T) [1, 4, 5, 6, 7, 8, 9, 11, 12, 13, 18, 19, 20, 56, 57, 58, 63, 64, 65, 66, 67, 68, 69, 70, 71, 72, 73, 74, 75, 76, 77, 78, 79, 80, 81, 82, 83, 84] [1, 6] (fun (x : Nat × List T) => [(3, .sl 3 0 (x.1))]) (fun (x : Nat × List T) => [(3, .L 1 (x.2))]) (fun (x : Nat × List T) => (x.1) = (x.2).length ∧ ∃ acc5 : List (List Int), (x.2) = acc5.map T.ints ∧ (acc5.length : Int) ≤ 39 * i + 13 * k + 1 + 3 * j + q + 1 ∧ acc5 = (if ¬ i = j ∧ ((ways (w.tasks[j.toNat]'(by omega)))[q.toNat]'(by omega)).kind = 2 ∧ ((ways (w.tasks[j.toNat]'(by omega)))[q.toNat]'(by omega)).chan = ((ways (w.tasks[i.toNat]'(by omega)))[k.toNat]'(by omega)).chan then acc4 ++ [[i, k, j, q]] else acc4)) ?_ (fun x hx => ?_)
            ·
              refine W_condF rfl ?_
              refine W_skip ?_
              refine joinQ_n (_, _) (by (try dsimp only); repeat (first | exact Sub.nil' | refine Sub.cons' rfl ?_)) (by (try dsimp only); repeat (first | exact SubM.nil' | refine SubM.cons' rfl ?_)) ?_
              try dsimp only
              first
              | (refine ⟨by simp, acc4 ++ [[i, k, j, q]], ?_, by simp only [List.length_append, List.length_cons, List.length_nil]; omega, by rw [if_pos ⟨fun e => h8 e.symm, h9, h10⟩]⟩; rw [hm4, List.take_of_length_le (Nat.le_refl _), hx4, List.map_append]; rfl)
              | exact ⟨hm4, acc4, hx4, by omega, by rw [if_neg (by grind)]⟩
            obtain ⟨m5, xs5⟩ := x
            obtain ⟨hm5, acc5, hx5, hl5, he5⟩ := hx
            try dsimp only at hm5 hx5 hl5 he5 ⊢
            refine inBlk_n ?_
            refine thenQ_n ?_
            refine W_keep [1, 3, 4, 5, 6, 7, 8, 9, 11, 12, 13, 18, 19, 20, 56, 57, 58, 63, 64, 65, 66, 67, 68, 69, 70, 71, 72, 73, 74, 75, 76, 77, 78, 79, 80, 81, 82, 83, 84] rfl ?_
            refine W_region ?_
            refine evI ?_
            refine ev ?_
            refine WO_nil ?_
            refine loopQ_n (_, _, _) (by (try dsimp only); repeat (first | exact Sub.nil' | refine Sub.cons' rfl ?_ )) (by (try dsimp only); repeat (first | exact SubM.nil' | refine SubM.cons' rfl ?_ )) ?_ ?_
            · try dsimp only
              exact ⟨by omega, by omega, hm5, hw4, acc5, hx5, by omega, by rw [he4, mvB_at hq0 h7, ← he5]⟩
            · (show Int.toNat _ < Int.toNat _); omega
          try simp only [HS] at h9
          refine ev ?_
          refine WO_guardY rfl rfl rfl rfl (lt_of rfl) ?_
          refine ev ?_
          refine WO_guardY rfl rfl rfl rfl (lt_of rfl) ?_
          refine ev ?_
          refine WO_guardY rfl rfl rfl rfl (lt_of rfl) ?_
          refine ev ?_
          refine WO_guardY rfl rfl rfl rfl (lt_of rfl) ?_
          refine ev ?_
          refine ev ?_
          refine WO_nil ?_
          refine thenQ_n ?_
          refine W_joinN (α := Nat × List T) [1, 4, 5, 6, 7, 8, 9, 11, 12, 13, 18, 19, 20, 56, 57, 58, 63, 64, 65, 66, 67, 68, 69, 70, 71, 72, 73, 74, 75, 76, 77, 78, 79, 80, 81, 82, 83, 84] [1, 6] (fun (x : Nat × List T) => [(3, .sl 3 0 (x.1))]) (fun (x : Nat × List T) => [(3, .L 1 (x.2))]) (fun (x : Nat × List T) => (x.1) = (x.2).length ∧ ∃ acc5 : List (List Int), (x.2) = acc5.map T.ints ∧ (acc5.length : Int) ≤ 39 * i + 13 * k + 1 + 3 * j + q + 1 ∧ acc5 = (if ¬ i = j ∧ ((ways (w.tasks[j.toNat]'(by omega)))[q.toNat]'(by omega)).kind = 2 ∧ ((ways (w.tasks[j.toNat]'(by omega)))[q.toNat]'(by omega)).chan = ((ways (w.tasks[i.toNat]'(by omega)))[k.toNat]'(by omega)).chan then acc4 ++ [[i, k, j, q]] else acc4)) ?_ (fun x hx => ?_)
          ·
            refine W_cond rfl (fun h10 => ?_) (fun h10 => ?_)
            ·
              try simp only [HS] at h10
              refine W_region ?_
              iterate 3 (refine ev ?_)
              refine WO_keep [1, 3, 4, 5, 6, 7, 8, 9, 11, 12, 13, 18, 19, 20, 56, 57, 58, 63, 64, 65, 66, 67, 68, 69, 70, 71, 72, 73, 74, 75, 76, 77, 78, 79, 80, 81, 82, 83, 84, 85, 86, 87] rfl ?_
              refine ev ?_
              refine ev ?_
              refine WO_buildSlice tys [T.int i, T.int k, T.int j, T.int q] rfl rfl (lt_of rfl) rfl rfl rfl rfl rfl (lt_of rfl) (by repeat (first | exact PartsOk.nil' | refine PartsOk.cons' rfl (by repeat (first | exact AbsL.nil' | refine AbsL.v' ?_ | refine AbsL.own' ?_ | refine AbsL.none' ?_)) rfl ?_)) (by first | exact List.nodup_nil | exact nodup1 _ | decide | exact nodupB_sound rfl) rfl (by decide) ?_
              refine WO_norm rfl ?_
              refine WO_le (Le.gather (u := 90) (id := 90) rfl rfl (by first | (simp; done) | (simp; omega) | omega)) ?_
              refine WO_norm rfl ?_
              refine WO_buildSlice tys [T.ints [i, k, j, q]] rfl rfl (lt_of rfl) rfl rfl rfl rfl rfl (lt_of rfl) (by repeat (first | exact PartsOk.nil' | refine PartsOk.cons' rfl (by repeat (first | exact AbsL.nil' | refine AbsL.v' ?_ | refine AbsL.own' ?_ | refine AbsL.none' ?_)) rfl ?_)) (by first | exact List.nodup_nil | exact nodup1 _ | decide | exact nodupB_sound rfl) rfl (by decide) ?_
              refine WO_norm rfl ?_
              first | refine WO_append tys rfl rfl (lt_of rfl) rfl rfl rfl rfl rfl (.own rfl (by first | omega | (simp only [List.length_append]; omega))) rfl (.own rfl (by first | decide | omega)) (by decide) (by have q1 := congrArg List.length hx4; have q2 := hw.1; simp only [List.length_map] at q1; simp only [List.length_take, List.length_cons, List.length_nil]; omega) (by decide) rfl ?_ | refine WO_append tys rfl rfl (lt_of rfl) rfl rfl rfl rfl rfl .nil rfl (.own rfl (by first | decide | omega)) (by decide) (by have q1 := congrArg List.length hx4; have q2 := hw.1; simp only [List.length_map] at q1; simp only [List.length_take, List.length_cons, List.length_nil]; omega) (by decide) rfl ?_
              refine WO_norm rfl ?_
              refine ev ?_
              refine WO_nil ?_
              refine joinQ_n (_, _) (by (try dsimp only); repeat (first | exact Sub.nil' | refine Sub.cons' rfl ?_)) (by (try dsimp only); repeat (first | exact SubM.nil' | refine SubM.cons' rfl ?_)) ?_
              try dsimp only
              first
              | (refine ⟨by simp, acc4 ++ [[i, k, j, q]], ?_, by simp only [List.length_append, List.length_cons, List.length_nil]; omega, by rw [if_pos ⟨fun e => h8 e.symm, h9, h10⟩]⟩; rw [hm4, List.take_of_length_le (Nat.le_refl _), hx4, List.map_append]; rfl)
              | exact ⟨hm4, acc4, hx4, by omega, by rw [if_neg (by grind)]⟩
            try simp only [HS] at h10
            refine W_skip ?_
            refine joinQ_n (_, _) (by (try dsimp only); repeat (first | exact Sub.nil' | refine Sub.cons' rfl ?_)) (by (try dsimp only); repeat (first | exact SubM.nil' | refine SubM.cons' rfl ?_)) ?_
            try dsimp only
            first
            | (refine ⟨by simp, acc4 ++ [[i, k, j, q]], ?_, by simp only [List.length_append, List.length_cons, List.length_nil]; omega, by rw [if_pos ⟨fun e => h8 e.symm, h9, h10⟩]⟩; rw [hm4, List.take_of_length_le (Nat.le_refl _), hx4, List.map_append]; rfl)
            | exact ⟨hm4, acc4, hx4, by omega, by rw [if_neg (by grind)]⟩
          obtain ⟨m5, xs5⟩ := x
          obtain ⟨hm5, acc5, hx5, hl5, he5⟩ := hx
          try dsimp only at hm5 hx5 hl5 he5 ⊢
          refine inBlk_n ?_
          refine thenQ_n ?_
          refine W_keep [1, 3, 4, 5, 6, 7, 8, 9, 11, 12, 13, 18, 19, 20, 56, 57, 58, 63, 64, 65, 66, 67, 68, 69, 70, 71, 72, 73, 74, 75, 76, 77, 78, 79, 80, 81, 82, 83, 84] rfl ?_
          refine W_region ?_
          refine evI ?_
          refine ev ?_
          refine WO_nil ?_
          refine loopQ_n (_, _, _) (by (try dsimp only); repeat (first | exact Sub.nil' | refine Sub.cons' rfl ?_ )) (by (try dsimp only); repeat (first | exact SubM.nil' | refine SubM.cons' rfl ?_ )) ?_ ?_
          · try dsimp only
            exact ⟨by omega, by omega, hm5, hw4, acc5, hx5, by omega, by rw [he4, mvB_at hq0 h7, ← he5]⟩
          · (show Int.toNat _ < Int.toNat _); omega
        try simp only [HS] at h7
        refine W_exit ?_
        refine thenQ_e ?_
        refine loopQ_e ?_
        refine inBlk_y ?_
        refine inBlk_n ?_
        refine thenQ_n ?_
        refine W_region ?_
        refine evI ?_
        refine ev ?_
        refine WO_nil ?_
        refine loopQ_n (_, _, _) (by (try dsimp only); repeat (first | exact Sub.nil' | refine Sub.cons' rfl ?_ )) (by (try dsimp only); repeat (first | exact SubM.nil' | refine SubM.cons' rfl ?_ )) ?_ ?_
        · try dsimp only
          exact ⟨by omega, by omega, hm4, acc4, hx4, by omega, by rw [he3, mvU_at hj0 h6, he4, drop_end h7]; rfl⟩
        · (show Int.toNat _ < Int.toNat _); omega
      try simp only [HS] at h6
      refine W_exit ?_
      refine thenQ_e ?_
      refine loopQ_e ?_
      refine inBlk_y ?_
      refine inBlk_n ?_
      refine thenQ_n ?_
      refine W_region ?_
      refine evI ?_
      refine ev ?_
      refine WO_nil ?_
      refine loopQ_n (_, _, _) (by (try dsimp only); repeat (first | exact Sub.nil' | refine Sub.cons' rfl ?_ )) (by (try dsimp only); repeat (first | exact SubM.nil' | refine SubM.cons' rfl ?_ )) ?_ ?_
      · try dsimp only
        have e1 := at0_of (d := false) (l := w.shut) hc.1 (by omega); have e2 := at0_of (d := []) (l := w.held) hc.1 (by omega)
        first
        | (have hS : mvS w ((ways (w.tasks[i.toNat]'(by omega)))[k.toNat]'(by omega)) = false := (by grind [mvS]); refine ⟨by omega, by omega, hm2, hw, acc2, hx2, by omega, ?_⟩; rw [he', mvA_at hk0 h2, ← he2, hS]; rfl)
        | (have hS : mvS w ((ways (w.tasks[i.toNat]'(by omega)))[k.toNat]'(by omega)) = true := (by grind [mvS]); refine ⟨by omega, by omega, hm3, hw, acc3, hx3, by omega, ?_⟩; rw [he', mvA_at hk0 h2, ← he2, hS, if_pos rfl, he3, drop_end (l := w.tasks) (by omega)]; rfl)
      · (show Int.toNat _ < Int.toNat _); omega
    try simp only [HS] at h2
    refine W_exit ?_
    refine thenQ_e ?_
    refine loopQ_e ?_
    refine inBlk_y ?_
    refine inBlk_n ?_
    refine thenQ_n ?_
    refine W_region ?_
    refine evI ?_
    refine ev ?_
    refine WO_nil ?_
    refine loopQ_n (_, _, _) (by (try dsimp only); repeat (first | exact Sub.nil' | refine Sub.cons' rfl ?_ )) (by (try dsimp only); repeat (first | exact SubM.nil' | refine SubM.cons' rfl ?_ )) ?_ ?_
    · try dsimp only
      exact ⟨by omega, by omega, hm', acc', hx', by (have := hw.1; omega), by rw [he, mvT_at hi0 h1, he', drop_end h2]; rfl⟩
    · (show Int.toNat _ < Int.toNat _); omega
  try simp only [HS] at h1
  refine W_exit ?_
  refine thenQ_e ?_
  refine loopQ_e ?_
  refine inBlk_y ?_
  refine thenQ_n ?_
  refine W_seq ?_
  refine W_region ?_
  refine ev ?_
  refine ev ?_
  refine WO_nil ?_
  refine thenQ_n ?_
  refine W_le (Le.gather (u := 2) (id := 3) rfl rfl (by omega)) ?_
  refine W_ret ?_
  refine Ends_of (.inr rfl) (ret_okF rfl) (by decide) rfl ?_
  · rw [hm, List.take_of_length_le (Nat.le_refl _), hx, he, drop_end h1]; rfl

end Go.Proofs.Ytbkamkmmljbedaa
