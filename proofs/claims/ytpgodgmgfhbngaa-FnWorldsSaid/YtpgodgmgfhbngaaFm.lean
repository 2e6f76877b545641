/- Walks and laws of the claim. -/
import Derived.Test.YtpgodgmgfhbngaaFa
import Derived.Test.YtpgodgmgfhbngaaMb
import Derived.Test.YtpgodgmgfhbngaaMc
import Derived.Test.YtpgodgmgfhbngaaMd
import Derived.Test.YtpgodgmgfhbngaaMe
set_option linter.unusedVariables false
set_option linter.unusedSimpArgs false
set_option maxRecDepth 10000
set_option maxHeartbeats 2000000
namespace Go.Proofs.Ytpgodgmgfhbngaa
open Go.Eng
open Go.Eng
theorem l15Moves_fun (w : World) (hg : Good w) : Fun Try.prog 39 [.t w.tt] (tupD [.own (intss (movesOf w))]) := by
 have g1 := hg.room
 have g2 := hg.held
 have g3 := hg.shut
 have g4 := hg.tasks
 refine Fun.begin tys Try.func39 Z Z (N := 102) [(0, .t w.tt)] Z Z (fun w0 G F0 => ?_)
 refine sQ (rG (WO_box Z Z (lt_of Z) Z Z (nZ Z (eZ Z (oN (tN (sQ (rG (eZ Z (WO_le (Le.nilOwn (u := 3) 1 Z) (WO_le (Le.adoptE (u := 3) 3 Z Z) (nZ Z (oN (tN (sQ ?_)))))))))))))))
 refine sQ (rG (eK 2 Z (evE ?_)))
 refine eZ Z (oN (tN (W_block ?_)))
 refine lK (α := Int × Nat × List T) [1, 13, 14] [1] (fun x => [(15, .t (.int (x.1))), (3, .sl 3 0 (x.2.1))]) (fun x => [(3, .L 1 (x.2.2))]) (fun x => 0 ≤ (x.1) ∧ (x.1) ≤ w.tasks.length ∧ (x.2.1) = (x.2.2).length ∧ ∃ acc : List (List Int), (x.2.2) = acc.map T.ints ∧ (acc.length : Int) ≤ 39 * (x.1) ∧ movesOf w = mvT w (w.tasks.drop (x.1).toNat) (x.1) acc) (fun x => Int.toNat (w.tasks.length - (x.1))) (0, 0, []) ?_ (fun x hx => ?_)
 ·exact ⟨by omega, by omega, by simp, [], rfl, by simp, rfl⟩
 obtain ⟨i, m, xs⟩ := x
 obtain ⟨hi0, hi1, hm, acc, hx, hl, he⟩ := hx
 dsimp only at hi0 hi1 hm hx hl he ⊢
 refine nY Z (sQ (rG (eZ Z (oN (tN (sQ ?_))))))
 refine W_cond Z (fun h1 => ?_) (fun h1 => ?_)
 ·
  simp only [HS] at h1
  refine W_skip (tN (sQ (W_block (sQ (rG (eZ Z (WO_idxT tys Z Z (lt_of Z) Z Z Z Z Z Z Z (by omega) _ (getT _ _ (by omega) (by omega)) (eZ Z ?_))))))))
  try refine WO_le (Le.freeze (u := 19) rfl) ?_
  refine nZ Z (WO_alloc tys Z Z (lt_of Z) Z Z Z (nZ Z (eZ Z (sT Z (nZ Z (oN (tN (sQ (kY [1,3,4,5,13,14,15,16,17,18,19] Z (rG (eZ Z ?_)))))))))))
  try refine WO_le (Le.freeze (u := 20) rfl) ?_
  refine nZ Z (WO_callF Z Z (lt_of Z) Z Z Z Z Z (l15Ways_fun _ (hg.pos _ (List.getElem_mem _)).1 (hg.pos _ (List.getElem_mem _)).2.1) Z (evE ?_))
  refine eZ Z (oN (tN (W_block ?_)))
  refine lK (α := Int × Nat × List T) [1, 4, 13, 14, 15, 21, 22] [1] (fun x => [(23, .t (.int (x.1))), (3, .sl 3 0 (x.2.1))]) (fun x => [(3, .L 1 (x.2.2))]) (fun x => 0 ≤ (x.1) ∧ (x.1) ≤ (ways (w.tasks[i.toNat]'(by omega))).length ∧ (x.2.1) = (x.2.2).length ∧ ((ways (w.tasks[i.toNat]'(by omega))).length ≤ 3 ∧ ∀ b, b ∈ ways (w.tasks[i.toNat]'(by omega)) → 0 ≤ b.chan ∧ b.chan < w.room.length) ∧ ∃ acc' : List (List Int), (x.2.2) = acc'.map T.ints ∧ (acc'.length : Int) ≤ 39 * i + 13 * (x.1) ∧ mvA w i (ways (w.tasks[i.toNat]'(by omega))) 0 acc = mvA w i ((ways (w.tasks[i.toNat]'(by omega))).drop (x.1).toNat) (x.1) acc') (fun x => Int.toNat ((ways (w.tasks[i.toNat]'(by omega))).length - (x.1))) (0, m, xs) ?_ (fun x hx => ?_)
  ·exact ⟨by omega, by omega, hm, hg.ways _ (List.getElem_mem _), acc, hx, by omega, rfl⟩
  obtain ⟨k, m', xs'⟩ := x
  obtain ⟨hk0, hk1, hm', hw, acc', hx', hl', he'⟩ := hx
  dsimp only at hk0 hk1 hm' hw hx' hl' he' ⊢
  refine nY Z (sQ (rG (eZ Z (oN (tN (sQ ?_))))))
  refine W_cond Z (fun h2 => ?_) (fun h2 => ?_)
  ·
   simp only [HS] at h2
   refine W_skip (tN (sQ (W_block (sQ (rG (eZ Z (WO_idxT tys Z Z (lt_of Z) Z Z Z Z Z Z Z (by omega) _ (getAct _ (by omega) (by omega)) (eZ Z ?_))))))))
   try refine WO_le (Le.freeze (u := 27) rfl) ?_
   refine nZ Z (WO_alloc tys Z Z (lt_of Z) Z Z Z (nZ Z ?_))
   have hc := hw.2 _ (List.getElem_mem (l := ways (w.tasks[i.toNat]'(by omega))) (n := k.toNat) (by omega))
   refine eZ Z (sT Z (nZ Z (oN (tN (sQ (sQ (kY [1,3,4,6,7,13,14,15,21,22,23,24,25,26,27] Z (rG (eZ Z ?_)))))))))
   try refine WO_le (Le.freeze (u := 28) rfl) ?_
   refine nZ Z (eZ Z ?_)
   try refine WO_le (Le.freeze (u := 29) rfl) ?_
   refine nZ Z (callB ?_)
   refine ⟨_, l15Alone_fun _ _ (hw.2 _ (List.getElem_mem _)).1 (hw.2 _ (List.getElem_mem _)).2 g2 g3 g1, rfl, ?_⟩
   refine oN (tN ?_)
   refine W_joinN (α := Nat × List T) [1, 4, 6, 7, 13, 14, 15, 21, 22, 23, 24, 25, 26, 27, 28, 29, 30] [1, 7] (fun x => [(3, .sl 3 0 (x.1))]) (fun x => [(3, .L 1 (x.2))]) (fun x => (x.1) = (x.2).length ∧ ∃ acc2 : List (List Int), (x.2) = acc2.map T.ints ∧ (acc2.length : Int) ≤ 39 * i + 13 * k + 1 ∧ acc2 = (if alone w ((ways (w.tasks[i.toNat]'(by omega)))[k.toNat]'(by omega)) then acc' ++ [[i, k, -1, 0]] else acc')) ?_ (fun x hx => ?_)
   ·
    refine W_cond Z (fun h3 => ?_) (fun h3 => ?_)
    ·
     refine rG (eK 3 Z ?_)
     refine WO_buildSlice tys [T.int i, T.int k, T.int (-1), T.int 0] Z Z (lt_of Z) Z Z Z Z Z (lt_of Z) (by repeat (first | exact PartsOk.nil' | refine PartsOk.cons' rfl (by repeat (first | exact AbsL.nil' | refine AbsL.v' ?_ | refine AbsL.own' ?_ | refine AbsL.none' ?_)) Z ?_)) (by first | exact List.nodup_nil | exact nodup1 _ | decide | exact nodupB_sound Z) Z (by decide) ?_
     refine nZ Z (WO_le (Le.gather (u := 34) (id := 34) Z Z (by first | (simp; done) | (simp; omega) | omega)) ?_)
     refine nZ Z ?_
     refine WO_buildSlice tys [T.ints [i, k, -1, 0]] Z Z (lt_of Z) Z Z Z Z Z (lt_of Z) (by repeat (first | exact PartsOk.nil' | refine PartsOk.cons' rfl (by repeat (first | exact AbsL.nil' | refine AbsL.v' ?_ | refine AbsL.own' ?_ | refine AbsL.none' ?_)) Z ?_)) (by first | exact List.nodup_nil | exact nodup1 _ | decide | exact nodupB_sound Z) Z (by decide) ?_
     refine nZ Z (WO_append tys Z Z (lt_of Z) Z Z Z Z Z (.own Z (by first | omega | (simp only [List.length_append]; omega))) Z (.own Z (by first | decide | omega)) (by decide) (by have q1 := congrArg List.length hx'; have q2 := hw.1; simp only [List.length_map] at q1; simp only [List.length_take, List.length_cons, List.length_nil]; omega) (by decide) Z ?_)
     refine nZ Z (kZ [1,3,4,6,7,13,14,15,21,22,23,24,25,26,27,28,29,30,31,32,33,34,35,36] Z (eZ Z (oN ?_)))
     refine joinQ_n (_, _) (by (try dsimp only); repeat (first | exact Sub.nil' | refine Sub.cons' rfl ?_)) (by (try dsimp only); repeat (first | exact SubM.nil' | refine SubM.cons' rfl ?_)) ?_
     dsimp only
     first
     | (refine ⟨by simp, acc' ++ [[i, k, -1, 0]], ?_, by simp only [List.length_append, List.length_cons, List.length_nil]; omega, by rw [if_pos h3]⟩; rw [hm', List.take_of_length_le (Nat.le_refl _), hx', List.map_append]; rfl)
    refine W_skip ?_
    refine joinQ_n (_, _) (by (try dsimp only); repeat (first | exact Sub.nil' | refine Sub.cons' rfl ?_)) (by (try dsimp only); repeat (first | exact SubM.nil' | refine SubM.cons' rfl ?_)) ?_
    dsimp only
    first
    | exact ⟨hm', acc', hx', by omega, by rw [if_neg (by simp [h3])]⟩
   obtain ⟨m2, xs2⟩ := x
   obtain ⟨hm2, acc2, hx2, hl2, he2⟩ := hx
   dsimp only at hm2 hx2 hl2 he2 ⊢
   refine tN (sQ (sQ (kY [1,3,4,6,7,13,14,15,21,22,23,24,25,26,27,28,29,30] Z (rG (eK 4 Z ?_)))))
   refine WO_guard Z Z Z Z (lt_of Z) (fun h3 => ?_) (fun h3 => ?_)
   rotate_left
   ·
    simp only [HS] at h3
    refine gM Z (gM Z (gM Z (gM Z (gM Z (kZ [1,3,4,6,7,13,14,15,21,22,23,24,25,26,27,28,29,30,37,38,39,40,41,42,43,44,45,46] Z (eK 2 Z (gM Z (gM Z (gM Z (gM Z (gM Z (gM Z (gM Z (kZ [1,3,4,6,7,13,14,15,21,22,23,24,25,26,27,28,29,30,37,38,39,40,41,42,43,44,45,46,47,48,49,50,51,52,53,54,55] Z (gM Z ?_)))))))))))))))
    refine eZ Z (oN (tN (W_condT Z (W_exit (tE (inBlk_y (tN (rG (evI ?_)))))))))
    refine eZ Z (oN ?_)
    refine lQ (_, _, _) ?_ ?_
    ·dsimp only
     have e1 := at0_of (d := false) (l := w.shut) hc.1 (by omega); have e2 := at0_of (d := []) (l := w.held) hc.1 (by omega)
     first
     | (have hS : mvS w ((ways (w.tasks[i.toNat]'(by omega)))[k.toNat]'(by omega)) = false := (by grind [mvS]); refine ⟨by omega, by omega, hm2, hw, acc2, hx2, by omega, ?_⟩; rw [he', mvA_at hk0 h2, ← he2, hS]; rfl)
    ·(show Int.toNat _ < Int.toNat _); omega
   simp only [HS] at h3
   refine eZ Z (gY Z (eZ Z (gY Z (eZ Z (gY Z (eZ Z (gY Z (WO_idxT tys Z Z (lt_of Z) Z Z Z Z Z Z Z (by omega) _ (getT _ _ (by omega) (by omega)) (kZ [1,3,4,6,7,13,14,15,21,22,23,24,25,26,27,28,29,30,37,38,39,40,41,42,43,44,45] Z (gY Z (eK 3 Z ?_)))))))))))
   refine WO_guard Z Z Z Z (lt_of Z) (fun h4 => ?_) (fun h4 => ?_)
   rotate_left
   ·
    simp only [HS] at h4
    refine gM Z (gM Z (gM Z (gM Z (gM Z (gM Z (kZ [1,3,4,6,7,13,14,15,21,22,23,24,25,26,27,28,29,30,37,38,39,40,41,42,43,44,45,46,47,48,49,50,51,52,53,54,55] Z (gM Z (eZ Z (oN (tN (W_condT Z (W_exit (tE (inBlk_y (tN ?_)))))))))))))))
    refine rG (evI ?_)
    refine eZ Z (oN ?_)
    refine lQ (_, _, _) ?_ ?_
    ·dsimp only
     have e1 := at0_of (d := false) (l := w.shut) hc.1 (by omega); have e2 := at0_of (d := []) (l := w.held) hc.1 (by omega)
     first
     | (have hS : mvS w ((ways (w.tasks[i.toNat]'(by omega)))[k.toNat]'(by omega)) = false := (by grind [mvS]); refine ⟨by omega, by omega, hm2, hw, acc2, hx2, by omega, ?_⟩; rw [he', mvA_at hk0 h2, ← he2, hS]; rfl)
    ·(show Int.toNat _ < Int.toNat _); omega
   refine eZ Z (gY Z (eZ Z (gY Z (eZ Z (gY Z (eZ Z (gY Z (WO_idxT tys Z Z (lt_of Z) Z Z Z Z Z Z Z (by omega) _ (getT _ _ (by omega) (by omega)) (gY Z (eZ Z (kZ [1,3,4,6,7,13,14,15,21,22,23,24,25,26,27,28,29,30,37,38,39,40,41,42,43,44,45,46,47,48,49,50,51,52,53,54] Z (gY Z (evE ?_)))))))))))))
   refine gY Z (eK 2 Z (oN (tN ?_)))
   refine W_cond Z (fun h5 => ?_) (fun h5 => ?_)
   ·
    simp only [HS] at h5
    refine W_exit (tE (inBlk_y (tN (rG (evI ?_)))))
    refine eZ Z (oN ?_)
    refine lQ (_, _, _) ?_ ?_
    ·dsimp only
     have e1 := at0_of (d := false) (l := w.shut) hc.1 (by omega); have e2 := at0_of (d := []) (l := w.held) hc.1 (by omega)
     first
     | (have hS : mvS w ((ways (w.tasks[i.toNat]'(by omega)))[k.toNat]'(by omega)) = false := (by grind [mvS]); refine ⟨by omega, by omega, hm2, hw, acc2, hx2, by omega, ?_⟩; rw [he', mvA_at hk0 h2, ← he2, hS]; rfl)
    ·(show Int.toNat _ < Int.toNat _); omega
   simp only [HS] at h5
   refine W_skip (tN (sQ (rG (eK 2 Z (evE ?_)))))
   refine eZ Z (oN (tN (W_block ?_)))
   refine lK (α := Int × Nat × List T) [1, 4, 6, 7, 13, 14, 15, 21, 22, 23, 59, 60] [1, 7] (fun x => [(61, .t (.int (x.1))), (3, .sl 3 0 (x.2.1))]) (fun x => [(3, .L 1 (x.2.2))]) (fun x => 0 ≤ (x.1) ∧ (x.1) ≤ w.tasks.length ∧ (x.2.1) = (x.2.2).length ∧ ∃ acc3 : List (List Int), (x.2.2) = acc3.map T.ints ∧ (acc3.length : Int) ≤ 39 * i + 13 * k + 1 + 3 * (x.1) ∧ mvU i k ((ways (w.tasks[i.toNat]'(by omega)))[k.toNat]'(by omega)) w.tasks 0 acc2 = mvU i k ((ways (w.tasks[i.toNat]'(by omega)))[k.toNat]'(by omega)) (w.tasks.drop (x.1).toNat) (x.1) acc3) (fun x => Int.toNat (w.tasks.length - (x.1))) (0, m2, xs2) ?_ (fun x hx => ?_)
   ·exact ⟨by omega, by omega, hm2, acc2, hx2, by omega, rfl⟩
   obtain ⟨j, m3, xs3⟩ := x
   obtain ⟨hj0, hj1, hm3, acc3, hx3, hl3, he3⟩ := hx
   dsimp only at hj0 hj1 hm3 hx3 hl3 he3 ⊢
   refine nY Z (sQ (rG (eZ Z (oN (tN (sQ ?_))))))
   refine W_cond Z (fun h6 => ?_) (fun h6 => ?_)
   ·
    simp only [HS] at h6
    refine W_skip (tN (sQ (W_block (sQ (rG (eZ Z (WO_idxT tys Z Z (lt_of Z) Z Z Z Z Z Z Z (by omega) _ (getT _ _ (by omega) (by omega)) (eZ Z ?_))))))))
    try refine WO_le (Le.freeze (u := 65) rfl) ?_
    refine nZ Z (WO_alloc tys Z Z (lt_of Z) Z Z Z (nZ Z (eZ Z (sT Z (nZ Z (oN (tN (sQ (kY [1,3,4,6,7,8,9,13,14,15,21,22,23,59,60,61,62,63,64,65] Z (rG (eZ Z ?_)))))))))))
    try refine WO_le (Le.freeze (u := 66) rfl) ?_
    refine nZ Z (WO_callF Z Z (lt_of Z) Z Z Z Z Z (l15Ways_fun _ (hg.pos _ (List.getElem_mem _)).1 (hg.pos _ (List.getElem_mem _)).2.1) Z (evE ?_))
    refine eZ Z (oN (tN (W_block ?_)))
    refine lK (α := Int × Nat × List T) [1, 4, 6, 7, 8, 13, 14, 15, 21, 22, 23, 59, 60, 61, 67, 68] [1, 7] (fun x => [(69, .t (.int (x.1))), (3, .sl 3 0 (x.2.1))]) (fun x => [(3, .L 1 (x.2.2))]) (fun x => 0 ≤ (x.1) ∧ (x.1) ≤ (ways (w.tasks[j.toNat]'(by omega))).length ∧ (x.2.1) = (x.2.2).length ∧ (ways (w.tasks[j.toNat]'(by omega))).length ≤ 3 ∧ ∃ acc4 : List (List Int), (x.2.2) = acc4.map T.ints ∧ (acc4.length : Int) ≤ 39 * i + 13 * k + 1 + 3 * j + (x.1) ∧ mvB i k ((ways (w.tasks[i.toNat]'(by omega)))[k.toNat]'(by omega)) j (ways (w.tasks[j.toNat]'(by omega))) 0 acc3 = mvB i k ((ways (w.tasks[i.toNat]'(by omega)))[k.toNat]'(by omega)) j ((ways (w.tasks[j.toNat]'(by omega))).drop (x.1).toNat) (x.1) acc4) (fun x => Int.toNat ((ways (w.tasks[j.toNat]'(by omega))).length - (x.1))) (0, m3, xs3) ?_ (fun x hx => ?_)
    ·exact ⟨by omega, by omega, hm3, (hg.ways _ (List.getElem_mem _)).1, acc3, hx3, by omega, rfl⟩
    obtain ⟨q, m4, xs4⟩ := x
    obtain ⟨hq0, hq1, hm4, hw4, acc4, hx4, hl4, he4⟩ := hx
    dsimp only at hq0 hq1 hm4 hw4 hx4 hl4 he4 ⊢
    refine nY Z (sQ (rG (eZ Z (oN (tN (sQ ?_))))))
    refine W_cond Z (fun h7 => ?_) (fun h7 => ?_)
    ·
     simp only [HS] at h7
     refine W_skip (tN (sQ (W_block (sQ (rG (eZ Z (WO_idxT tys Z Z (lt_of Z) Z Z Z Z Z Z Z (by omega) _ (getAct _ (by omega) (by omega)) (eZ Z ?_))))))))
     try refine WO_le (Le.freeze (u := 73) rfl) ?_
     refine nZ Z (WO_alloc tys Z Z (lt_of Z) Z Z Z (nZ Z (eZ Z (sT Z (nZ Z (oN (tN (sQ (kY [1,3,4,6,7,8,10,11,13,14,15,21,22,23,59,60,61,67,68,69,70,71,72,73] Z (rG (eK 4 Z ?_)))))))))))
     refine WO_guard Z Z Z Z (lt_of Z) (fun h8 => ?_) (fun h8 => ?_)
     rotate_left
     ·
      simp only [HS] at h8
      refine gM Z (gM Z (eK 2 Z (gM Z (kZ [1,3,4,6,7,8,10,11,13,14,15,21,22,23,59,60,61,67,68,69,70,71,72,73,74,75,76,77,78,79,80,81,82,83] Z (gM Z (gM Z (gM Z (gM Z (eZ Z (oN (tN ?_)))))))))))
      refine W_joinN (α := Nat × List T) [1, 4, 6, 7, 8, 10, 11, 13, 14, 15, 21, 22, 23, 59, 60, 61, 67, 68, 69, 70, 71, 72, 73, 74, 75, 76, 77, 78, 79, 80, 81, 82, 83, 84, 85, 86, 87, 88] [1, 7] (fun x => [(3, .sl 3 0 (x.1))]) (fun x => [(3, .L 1 (x.2))]) (fun x => (x.1) = (x.2).length ∧ ∃ acc5 : List (List Int), (x.2) = acc5.map T.ints ∧ (acc5.length : Int) ≤ 39 * i + 13 * k + 1 + 3 * j + q + 1 ∧ acc5 = (if ¬ i = j ∧ ((ways (w.tasks[j.toNat]'(by omega)))[q.toNat]'(by omega)).kind = 2 ∧ ((ways (w.tasks[j.toNat]'(by omega)))[q.toNat]'(by omega)).chan = ((ways (w.tasks[i.toNat]'(by omega)))[k.toNat]'(by omega)).chan then acc4 ++ [[i, k, j, q]] else acc4)) ?_ (fun x hx => ?_)
      ·
       refine W_condF Z (W_skip ?_)
       refine joinQ_n (_, _) (by (try dsimp only); repeat (first | exact Sub.nil' | refine Sub.cons' rfl ?_)) (by (try dsimp only); repeat (first | exact SubM.nil' | refine SubM.cons' rfl ?_)) ?_
       dsimp only
       first
       | exact ⟨hm4, acc4, hx4, by omega, by rw [if_neg (by grind)]⟩
      obtain ⟨m5, xs5⟩ := x
      obtain ⟨hm5, acc5, hx5, hl5, he5⟩ := hx
      dsimp only at hm5 hx5 hl5 he5 ⊢
      refine bN (tN (kY [1,3,4,6,7,8,10,11,13,14,15,21,22,23,59,60,61,67,68,69,70,71,72,73,74,75,76,77,78,79,80,81,82,83,84,85,86,87,88] Z (rG (evI ?_))))
      refine eZ Z (oN ?_)
      refine lQ (_, _, _) ?_ ?_
      ·dsimp only
       exact ⟨by omega, by omega, hm5, hw4, acc5, hx5, by omega, by rw [he4, mvB_at hq0 h7, ← he5]⟩
      ·(show Int.toNat _ < Int.toNat _); omega
     simp only [HS] at h8
     refine eZ Z (gY Z (eZ Z (gY Z (eK 3 Z (kZ [1,3,4,6,7,8,10,11,13,14,15,21,22,23,59,60,61,67,68,69,70,71,72,73,74,75,76,77,78,79,80,81,82] Z ?_)))))
     refine WO_guard Z Z Z Z (lt_of Z) (fun h9 => ?_) (fun h9 => ?_)
     rotate_left
     ·
      simp only [HS] at h9
      refine gM Z (gM Z (gM Z (gM Z (eZ Z (oN (tN ?_))))))
      refine W_joinN (α := Nat × List T) [1, 4, 6, 7, 8, 10, 11, 13, 14, 15, 21, 22, 23, 59, 60, 61, 67, 68, 69, 70, 71, 72, 73, 74, 75, 76, 77, 78, 79, 80, 81, 82, 83, 84, 85, 86, 87, 88] [1, 7] (fun x => [(3, .sl 3 0 (x.1))]) (fun x => [(3, .L 1 (x.2))]) (fun x => (x.1) = (x.2).length ∧ ∃ acc5 : List (List Int), (x.2) = acc5.map T.ints ∧ (acc5.length : Int) ≤ 39 * i + 13 * k + 1 + 3 * j + q + 1 ∧ acc5 = (if ¬ i = j ∧ ((ways (w.tasks[j.toNat]'(by omega)))[q.toNat]'(by omega)).kind = 2 ∧ ((ways (w.tasks[j.toNat]'(by omega)))[q.toNat]'(by omega)).chan = ((ways (w.tasks[i.toNat]'(by omega)))[k.toNat]'(by omega)).chan then acc4 ++ [[i, k, j, q]] else acc4)) ?_ (fun x hx => ?_)
      ·
       refine W_condF Z (W_skip ?_)
       refine joinQ_n (_, _) (by (try dsimp only); repeat (first | exact Sub.nil' | refine Sub.cons' rfl ?_)) (by (try dsimp only); repeat (first | exact SubM.nil' | refine SubM.cons' rfl ?_)) ?_
       dsimp only
       first
       | exact ⟨hm4, acc4, hx4, by omega, by rw [if_neg (by grind)]⟩
      obtain ⟨m5, xs5⟩ := x
      obtain ⟨hm5, acc5, hx5, hl5, he5⟩ := hx
      dsimp only at hm5 hx5 hl5 he5 ⊢
      refine bN (tN (kY [1,3,4,6,7,8,10,11,13,14,15,21,22,23,59,60,61,67,68,69,70,71,72,73,74,75,76,77,78,79,80,81,82,83,84,85,86,87,88] Z (rG (evI ?_))))
      refine eZ Z (oN ?_)
      refine lQ (_, _, _) ?_ ?_
      ·dsimp only
       exact ⟨by omega, by omega, hm5, hw4, acc5, hx5, by omega, by rw [he4, mvB_at hq0 h7, ← he5]⟩
      ·(show Int.toNat _ < Int.toNat _); omega
     simp only [HS] at h9
     refine eZ Z (gY Z (eZ Z (gY Z (eZ Z (gY Z (eZ Z (gY Z (eK 2 Z (oN (tN ?_))))))))))
     refine W_joinN (α := Nat × List T) [1, 4, 6, 7, 8, 10, 11, 13, 14, 15, 21, 22, 23, 59, 60, 61, 67, 68, 69, 70, 71, 72, 73, 74, 75, 76, 77, 78, 79, 80, 81, 82, 83, 84, 85, 86, 87, 88] [1, 7] (fun x => [(3, .sl 3 0 (x.1))]) (fun x => [(3, .L 1 (x.2))]) (fun x => (x.1) = (x.2).length ∧ ∃ acc5 : List (List Int), (x.2) = acc5.map T.ints ∧ (acc5.length : Int) ≤ 39 * i + 13 * k + 1 + 3 * j + q + 1 ∧ acc5 = (if ¬ i = j ∧ ((ways (w.tasks[j.toNat]'(by omega)))[q.toNat]'(by omega)).kind = 2 ∧ ((ways (w.tasks[j.toNat]'(by omega)))[q.toNat]'(by omega)).chan = ((ways (w.tasks[i.toNat]'(by omega)))[k.toNat]'(by omega)).chan then acc4 ++ [[i, k, j, q]] else acc4)) ?_ (fun x hx => ?_)
     ·
      refine W_cond Z (fun h10 => ?_) (fun h10 => ?_)
      ·
       simp only [HS] at h10
       refine rG (eK 3 Z (kZ [1,3,4,6,7,8,10,11,13,14,15,21,22,23,59,60,61,67,68,69,70,71,72,73,74,75,76,77,78,79,80,81,82,83,84,85,86,87,88,89,90,91] Z (eK 2 Z ?_)))
       refine WO_buildSlice tys [T.int i, T.int k, T.int j, T.int q] Z Z (lt_of Z) Z Z Z Z Z (lt_of Z) (by repeat (first | exact PartsOk.nil' | refine PartsOk.cons' rfl (by repeat (first | exact AbsL.nil' | refine AbsL.v' ?_ | refine AbsL.own' ?_ | refine AbsL.none' ?_)) Z ?_)) (by first | exact List.nodup_nil | exact nodup1 _ | decide | exact nodupB_sound Z) Z (by decide) ?_
       refine nZ Z (WO_le (Le.gather (u := 94) (id := 94) Z Z (by first | (simp; done) | (simp; omega) | omega)) ?_)
       refine nZ Z ?_
       refine WO_buildSlice tys [T.ints [i, k, j, q]] Z Z (lt_of Z) Z Z Z Z Z (lt_of Z) (by repeat (first | exact PartsOk.nil' | refine PartsOk.cons' rfl (by repeat (first | exact AbsL.nil' | refine AbsL.v' ?_ | refine AbsL.own' ?_ | refine AbsL.none' ?_)) Z ?_)) (by first | exact List.nodup_nil | exact nodup1 _ | decide | exact nodupB_sound Z) Z (by decide) ?_
       refine nZ Z (WO_append tys Z Z (lt_of Z) Z Z Z Z Z (.own Z (by first | omega | (simp only [List.length_append]; omega))) Z (.own Z (by first | decide | omega)) (by decide) (by have q1 := congrArg List.length hx4; have q2 := hw.1; simp only [List.length_map] at q1; simp only [List.length_take, List.length_cons, List.length_nil]; omega) (by decide) Z ?_)
       refine nZ Z (eZ Z (oN ?_))
       refine joinQ_n (_, _) (by (try dsimp only); repeat (first | exact Sub.nil' | refine Sub.cons' rfl ?_)) (by (try dsimp only); repeat (first | exact SubM.nil' | refine SubM.cons' rfl ?_)) ?_
       dsimp only
       first
       | (refine ⟨by simp, acc4 ++ [[i, k, j, q]], ?_, by simp only [List.length_append, List.length_cons, List.length_nil]; omega, by rw [if_pos ⟨h8, h9, h10⟩]⟩; rw [hm4, List.take_of_length_le (Nat.le_refl _), hx4, List.map_append]; rfl)
      simp only [HS] at h10
      refine W_skip ?_
      refine joinQ_n (_, _) (by (try dsimp only); repeat (first | exact Sub.nil' | refine Sub.cons' rfl ?_)) (by (try dsimp only); repeat (first | exact SubM.nil' | refine SubM.cons' rfl ?_)) ?_
      dsimp only
      first
      | exact ⟨hm4, acc4, hx4, by omega, by rw [if_neg (by grind)]⟩
     obtain ⟨m5, xs5⟩ := x
     obtain ⟨hm5, acc5, hx5, hl5, he5⟩ := hx
     dsimp only at hm5 hx5 hl5 he5 ⊢
     refine bN (tN (kY [1,3,4,6,7,8,10,11,13,14,15,21,22,23,59,60,61,67,68,69,70,71,72,73,74,75,76,77,78,79,80,81,82,83,84,85,86,87,88] Z (rG (evI ?_))))
     refine eZ Z (oN ?_)
     refine lQ (_, _, _) ?_ ?_
     ·dsimp only
      exact ⟨by omega, by omega, hm5, hw4, acc5, hx5, by omega, by rw [he4, mvB_at hq0 h7, ← he5]⟩
     ·(show Int.toNat _ < Int.toNat _); omega
    simp only [HS] at h7
    refine W_exit (tE (loopQ_e (inBlk_y (bN (tN (rG (evI ?_)))))))
    refine eZ Z (oN ?_)
    refine lQ (_, _, _) ?_ ?_
    ·dsimp only
     exact ⟨by omega, by omega, hm4, acc4, hx4, by omega, by rw [he3, mvU_at hj0 h6, he4, drop_end h7]; rfl⟩
    ·(show Int.toNat _ < Int.toNat _); omega
   simp only [HS] at h6
   refine W_exit (tE (loopQ_e (inBlk_y (bN (tN (rG (evI ?_)))))))
   refine eZ Z (oN ?_)
   refine lQ (_, _, _) ?_ ?_
   ·dsimp only
    have e1 := at0_of (d := false) (l := w.shut) hc.1 (by omega); have e2 := at0_of (d := []) (l := w.held) hc.1 (by omega)
    first
    | (have hS : mvS w ((ways (w.tasks[i.toNat]'(by omega)))[k.toNat]'(by omega)) = true := (by grind [mvS]); refine ⟨by omega, by omega, hm3, hw, acc3, hx3, by omega, ?_⟩; rw [he', mvA_at hk0 h2, ← he2, hS, if_pos rfl, he3, drop_end (l := w.tasks) (by omega)]; rfl)
   ·(show Int.toNat _ < Int.toNat _); omega
  simp only [HS] at h2
  refine W_exit (tE (loopQ_e (inBlk_y (bN (tN (rG (evI ?_)))))))
  refine eZ Z (oN ?_)
  refine lQ (_, _, _) ?_ ?_
  ·dsimp only
   exact ⟨by omega, by omega, hm', acc', hx', by (have := hw.1; omega), by rw [he, mvT_at hi0 h1, he', drop_end h2]; rfl⟩
  ·(show Int.toNat _ < Int.toNat _); omega
 simp only [HS] at h1
 refine W_exit (tE (loopQ_e (inBlk_y (tN (sQ (rG (eK 2 Z (oN (tN (W_le (Le.gather (u := 2) (id := 3) Z Z (by omega)) (rT (eR ?_))))))))))))
 ·rw [hm, List.take_of_length_le (Nat.le_refl _), hx, he, drop_end h1]; rfl
theorem movesIn_fun (w : World) (hg : Good w) : Fun Try.prog 36 [.t w.tt] (tupD [.own (intss (movesOf w))]) := by
 have g1 := hg.room
 have g2 := hg.held
 have g3 := hg.shut
 have g4 := hg.tasks
 refine Fun.begin tys Try.func36 Z Z (N := 98) [(0, .t w.tt)] Z Z (fun w0 G F0 => ?_)
 refine sQ (rG (WO_box Z Z (lt_of Z) Z Z (nZ Z (eZ Z (oN (tN (sQ (rG (eZ Z (WO_le (Le.nilOwn (u := 3) 1 Z) (WO_le (Le.adoptE (u := 3) 3 Z Z) (nZ Z (oN (tN (sQ ?_)))))))))))))))
 refine sQ (rG (eK 2 Z (evE ?_)))
 refine eZ Z (oN (tN (W_block ?_)))
 refine lK (α := Int × Nat × List T) [1, 11, 12] [1] (fun x => [(13, .t (.int (x.1))), (3, .sl 3 0 (x.2.1))]) (fun x => [(3, .L 1 (x.2.2))]) (fun x => 0 ≤ (x.1) ∧ (x.1) ≤ w.tasks.length ∧ (x.2.1) = (x.2.2).length ∧ ∃ acc : List (List Int), (x.2.2) = acc.map T.ints ∧ (acc.length : Int) ≤ 39 * (x.1) ∧ movesOf w = mvT w (w.tasks.drop (x.1).toNat) (x.1) acc) (fun x => Int.toNat (w.tasks.length - (x.1))) (0, 0, []) ?_ (fun x hx => ?_)
 ·exact ⟨by omega, by omega, by simp, [], rfl, by simp, rfl⟩
 obtain ⟨i, m, xs⟩ := x
 obtain ⟨hi0, hi1, hm, acc, hx, hl, he⟩ := hx
 dsimp only at hi0 hi1 hm hx hl he ⊢
 refine nY Z (sQ (rG (eZ Z (oN (tN (sQ ?_))))))
 refine W_cond Z (fun h1 => ?_) (fun h1 => ?_)
 ·
  simp only [HS] at h1
  refine W_skip (tN (sQ (W_block (sQ (rG (eK 2 Z (oN (tN (sQ (rG (eZ Z ?_)))))))))))
  try refine WO_le (Le.freeze (u := 16) rfl) ?_
  refine nZ Z (eZ Z (WO_callF Z Z (lt_of Z) Z Z Z Z Z (casesOf_fun _ _ (by omega) (by omega) (by have := (hg.pos _ (List.getElem_mem (l := w.tasks) (n := i.toNat) (by omega))).2.2; omega) (hg.pos _ (List.getElem_mem _)).1 (hg.pos _ (List.getElem_mem _)).2.1) Z ?_))
  refine evE ?_
  refine eZ Z (oN (tN (W_block ?_)))
  refine lK (α := Int × Nat × List T) [1, 4, 11, 12, 13, 18, 19] [1] (fun x => [(20, .t (.int (x.1))), (3, .sl 3 0 (x.2.1))]) (fun x => [(3, .L 1 (x.2.2))]) (fun x => 0 ≤ (x.1) ∧ (x.1) ≤ (ways (w.tasks[i.toNat]'(by omega))).length ∧ (x.2.1) = (x.2.2).length ∧ ((ways (w.tasks[i.toNat]'(by omega))).length ≤ 3 ∧ ∀ b, b ∈ ways (w.tasks[i.toNat]'(by omega)) → 0 ≤ b.chan ∧ b.chan < w.room.length) ∧ ∃ acc' : List (List Int), (x.2.2) = acc'.map T.ints ∧ (acc'.length : Int) ≤ 39 * i + 13 * (x.1) ∧ mvA w i (ways (w.tasks[i.toNat]'(by omega))) 0 acc = mvA w i ((ways (w.tasks[i.toNat]'(by omega))).drop (x.1).toNat) (x.1) acc') (fun x => Int.toNat ((ways (w.tasks[i.toNat]'(by omega))).length - (x.1))) (0, m, xs) ?_ (fun x hx => ?_)
  ·exact ⟨by omega, by omega, hm, hg.ways _ (List.getElem_mem _), acc, hx, by omega, rfl⟩
  obtain ⟨k, m', xs'⟩ := x
  obtain ⟨hk0, hk1, hm', hw, acc', hx', hl', he'⟩ := hx
  dsimp only at hk0 hk1 hm' hw hx' hl' he' ⊢
  refine nY Z (sQ (rG (eZ Z (oN (tN (sQ ?_))))))
  refine W_cond Z (fun h2 => ?_) (fun h2 => ?_)
  ·
   simp only [HS] at h2
   refine W_skip (tN (sQ (W_block (sQ (rG (eZ Z (WO_idxT tys Z Z (lt_of Z) Z Z Z Z Z Z Z (by omega) _ (getAct _ (by omega) (by omega)) (eZ Z ?_))))))))
   try refine WO_le (Le.freeze (u := 24) rfl) ?_
   refine nZ Z (WO_alloc tys Z Z (lt_of Z) Z Z Z (nZ Z ?_))
   have hc := hw.2 _ (List.getElem_mem (l := ways (w.tasks[i.toNat]'(by omega))) (n := k.toNat) (by omega))
   refine eZ Z (sT Z (nZ Z (oN (tN (sQ (sQ (kY [1,3,4,5,6,11,12,13,18,19,20,21,22,23,24] Z (rG (eZ Z ?_)))))))))
   try refine WO_le (Le.freeze (u := 25) rfl) ?_
   refine nZ Z (eZ Z ?_)
   try refine WO_le (Le.freeze (u := 26) rfl) ?_
   refine nZ Z (callB ?_)
   refine ⟨_, isAlone_fun _ _ (hw.2 _ (List.getElem_mem _)).1 (hw.2 _ (List.getElem_mem _)).2 g2 g3 g1, rfl, ?_⟩
   refine oN (tN ?_)
   refine W_joinN (α := Nat × List T) [1, 4, 5, 6, 11, 12, 13, 18, 19, 20, 21, 22, 23, 24, 25, 26, 27] [1, 6] (fun x => [(3, .sl 3 0 (x.1))]) (fun x => [(3, .L 1 (x.2))]) (fun x => (x.1) = (x.2).length ∧ ∃ acc2 : List (List Int), (x.2) = acc2.map T.ints ∧ (acc2.length : Int) ≤ 39 * i + 13 * k + 1 ∧ acc2 = (if alone w ((ways (w.tasks[i.toNat]'(by omega)))[k.toNat]'(by omega)) then acc' ++ [[i, k, -1, 0]] else acc')) ?_ (fun x hx => ?_)
   ·
    refine W_cond Z (fun h3 => ?_) (fun h3 => ?_)
    ·
     refine rG (eK 3 Z ?_)
     refine WO_buildSlice tys [T.int i, T.int k, T.int (-1), T.int 0] Z Z (lt_of Z) Z Z Z Z Z (lt_of Z) (by repeat (first | exact PartsOk.nil' | refine PartsOk.cons' rfl (by repeat (first | exact AbsL.nil' | refine AbsL.v' ?_ | refine AbsL.own' ?_ | refine AbsL.none' ?_)) Z ?_)) (by first | exact List.nodup_nil | exact nodup1 _ | decide | exact nodupB_sound Z) Z (by decide) ?_
     refine nZ Z (WO_le (Le.gather (u := 31) (id := 31) Z Z (by first | (simp; done) | (simp; omega) | omega)) ?_)
     refine nZ Z ?_
     refine WO_buildSlice tys [T.ints [i, k, -1, 0]] Z Z (lt_of Z) Z Z Z Z Z (lt_of Z) (by repeat (first | exact PartsOk.nil' | refine PartsOk.cons' rfl (by repeat (first | exact AbsL.nil' | refine AbsL.v' ?_ | refine AbsL.own' ?_ | refine AbsL.none' ?_)) Z ?_)) (by first | exact List.nodup_nil | exact nodup1 _ | decide | exact nodupB_sound Z) Z (by decide) ?_
     refine nZ Z (WO_append tys Z Z (lt_of Z) Z Z Z Z Z (.own Z (by first | omega | (simp only [List.length_append]; omega))) Z (.own Z (by first | decide | omega)) (by decide) (by have q1 := congrArg List.length hx'; have q2 := hw.1; simp only [List.length_map] at q1; simp only [List.length_take, List.length_cons, List.length_nil]; omega) (by decide) Z ?_)
     refine nZ Z (kZ [1,3,4,5,6,11,12,13,18,19,20,21,22,23,24,25,26,27,28,29,30,31,32,33] Z (eZ Z (oN ?_)))
     refine joinQ_n (_, _) (by (try dsimp only); repeat (first | exact Sub.nil' | refine Sub.cons' rfl ?_)) (by (try dsimp only); repeat (first | exact SubM.nil' | refine SubM.cons' rfl ?_)) ?_
     dsimp only
     first
     | (refine ⟨by simp, acc' ++ [[i, k, -1, 0]], ?_, by simp only [List.length_append, List.length_cons, List.length_nil]; omega, by rw [if_pos h3]⟩; rw [hm', List.take_of_length_le (Nat.le_refl _), hx', List.map_append]; rfl)
    refine W_skip ?_
    refine joinQ_n (_, _) (by (try dsimp only); repeat (first | exact Sub.nil' | refine Sub.cons' rfl ?_)) (by (try dsimp only); repeat (first | exact SubM.nil' | refine SubM.cons' rfl ?_)) ?_
    dsimp only
    first
    | exact ⟨hm', acc', hx', by omega, by rw [if_neg (by simp [h3])]⟩
   obtain ⟨m2, xs2⟩ := x
   obtain ⟨hm2, acc2, hx2, hl2, he2⟩ := hx
   dsimp only at hm2 hx2 hl2 he2 ⊢
   refine tN (sQ (sQ (kY [1,3,4,5,6,11,12,13,18,19,20,21,22,23,24,25,26,27] Z (rG (eK 4 Z ?_)))))
   refine WO_guard Z Z Z Z (lt_of Z) (fun h3 => ?_) (fun h3 => ?_)
   rotate_left
   ·
    simp only [HS] at h3
    refine gM Z (gM Z (gM Z (gM Z (gM Z (kZ [1,3,4,5,6,11,12,13,18,19,20,21,22,23,24,25,26,27,34,35,36,37,38,39,40,41,42,43] Z (gM Z (gM Z (eK 2 Z (gM Z (gM Z (gM Z (gM Z (gM Z (kZ [1,3,4,5,6,11,12,13,18,19,20,21,22,23,24,25,26,27,34,35,36,37,38,39,40,41,42,43,44,45,46,47,48,49,50,51,52] Z (gM Z ?_)))))))))))))))
    refine eZ Z (oN (tN (W_condT Z (W_exit (tE (inBlk_y (tN (rG (evI ?_)))))))))
    refine eZ Z (oN ?_)
    refine lQ (_, _, _) ?_ ?_
    ·dsimp only
     have e1 := at0_of (d := false) (l := w.shut) hc.1 (by omega); have e2 := at0_of (d := []) (l := w.held) hc.1 (by omega)
     first
     | (have hS : mvS w ((ways (w.tasks[i.toNat]'(by omega)))[k.toNat]'(by omega)) = false := (by grind [mvS]); refine ⟨by omega, by omega, hm2, hw, acc2, hx2, by omega, ?_⟩; rw [he', mvA_at hk0 h2, ← he2, hS]; rfl)
    ·(show Int.toNat _ < Int.toNat _); omega
   simp only [HS] at h3
   refine eZ Z (gY Z (eZ Z (gY Z (eZ Z (gY Z (eZ Z (gY Z (WO_idxT tys Z Z (lt_of Z) Z Z Z Z Z Z Z (by omega) _ (getT _ _ (by omega) (by omega)) (kZ [1,3,4,5,6,11,12,13,18,19,20,21,22,23,24,25,26,27,34,35,36,37,38,39,40,41,42] Z (gY Z (eZ Z (gY Z (evE ?_)))))))))))))
   refine gY Z (eK 3 Z ?_)
   refine WO_guard Z Z Z Z (lt_of Z) (fun h4 => ?_) (fun h4 => ?_)
   rotate_left
   ·
    simp only [HS] at h4
    refine gM Z (gM Z (gM Z (gM Z (kZ [1,3,4,5,6,11,12,13,18,19,20,21,22,23,24,25,26,27,34,35,36,37,38,39,40,41,42,43,44,45,46,47,48,49,50,51,52] Z (gM Z (eZ Z (oN (tN (W_condT Z (W_exit (tE (inBlk_y (tN (rG (evI ?_)))))))))))))))
    refine eZ Z (oN ?_)
    refine lQ (_, _, _) ?_ ?_
    ·dsimp only
     have e1 := at0_of (d := false) (l := w.shut) hc.1 (by omega); have e2 := at0_of (d := []) (l := w.held) hc.1 (by omega)
     first
     | (have hS : mvS w ((ways (w.tasks[i.toNat]'(by omega)))[k.toNat]'(by omega)) = false := (by grind [mvS]); refine ⟨by omega, by omega, hm2, hw, acc2, hx2, by omega, ?_⟩; rw [he', mvA_at hk0 h2, ← he2, hS]; rfl)
    ·(show Int.toNat _ < Int.toNat _); omega
   simp only [HS] at h4
   refine eZ Z (gY Z (eZ Z (gY Z (eZ Z (gY Z (eZ Z (kZ [1,3,4,5,6,11,12,13,18,19,20,21,22,23,24,25,26,27,34,35,36,37,38,39,40,41,42,43,44,45,46,47,48,49,50,51] Z (gY Z (WO_idxT tys Z Z (lt_of Z) Z Z Z Z Z Z Z (by omega) _ (getT _ _ (by omega) (by omega)) (gY Z (eK 2 Z (oN (tN ?_)))))))))))))
   refine W_cond Z (fun h5 => ?_) (fun h5 => ?_)
   ·
    refine W_exit (tE (inBlk_y (tN (rG (evI ?_)))))
    refine eZ Z (oN ?_)
    refine lQ (_, _, _) ?_ ?_
    ·dsimp only
     have e1 := at0_of (d := false) (l := w.shut) hc.1 (by omega); have e2 := at0_of (d := []) (l := w.held) hc.1 (by omega)
     first
     | (have hS : mvS w ((ways (w.tasks[i.toNat]'(by omega)))[k.toNat]'(by omega)) = false := (by grind [mvS]); refine ⟨by omega, by omega, hm2, hw, acc2, hx2, by omega, ?_⟩; rw [he', mvA_at hk0 h2, ← he2, hS]; rfl)
    ·(show Int.toNat _ < Int.toNat _); omega
   refine W_skip (tN (sQ (rG (eK 2 Z (evE ?_)))))
   refine eZ Z (oN (tN (W_block ?_)))
   refine lK (α := Int × Nat × List T) [1, 4, 5, 6, 11, 12, 13, 18, 19, 20, 56, 57] [1, 6] (fun x => [(58, .t (.int (x.1))), (3, .sl 3 0 (x.2.1))]) (fun x => [(3, .L 1 (x.2.2))]) (fun x => 0 ≤ (x.1) ∧ (x.1) ≤ w.tasks.length ∧ (x.2.1) = (x.2.2).length ∧ ∃ acc3 : List (List Int), (x.2.2) = acc3.map T.ints ∧ (acc3.length : Int) ≤ 39 * i + 13 * k + 1 + 3 * (x.1) ∧ mvU i k ((ways (w.tasks[i.toNat]'(by omega)))[k.toNat]'(by omega)) w.tasks 0 acc2 = mvU i k ((ways (w.tasks[i.toNat]'(by omega)))[k.toNat]'(by omega)) (w.tasks.drop (x.1).toNat) (x.1) acc3) (fun x => Int.toNat (w.tasks.length - (x.1))) (0, m2, xs2) ?_ (fun x hx => ?_)
   ·exact ⟨by omega, by omega, hm2, acc2, hx2, by omega, rfl⟩
   obtain ⟨j, m3, xs3⟩ := x
   obtain ⟨hj0, hj1, hm3, acc3, hx3, hl3, he3⟩ := hx
   dsimp only at hj0 hj1 hm3 hx3 hl3 he3 ⊢
   refine nY Z (sQ (rG (eZ Z (oN (tN (sQ ?_))))))
   refine W_cond Z (fun h6 => ?_) (fun h6 => ?_)
   ·
    simp only [HS] at h6
    refine W_skip (tN (sQ (W_block (sQ (rG (eK 2 Z (oN (tN (sQ (rG (eZ Z ?_)))))))))))
    try refine WO_le (Le.freeze (u := 61) rfl) ?_
    refine nZ Z (eZ Z (WO_callF Z Z (lt_of Z) Z Z Z Z Z (casesOf_fun _ _ (by omega) (by omega) (by have := (hg.pos _ (List.getElem_mem (l := w.tasks) (n := j.toNat) (by omega))).2.2; omega) (hg.pos _ (List.getElem_mem _)).1 (hg.pos _ (List.getElem_mem _)).2.1) Z ?_))
    refine evE ?_
    refine eZ Z (oN (tN (W_block ?_)))
    refine lK (α := Int × Nat × List T) [1, 4, 5, 6, 7, 11, 12, 13, 18, 19, 20, 56, 57, 58, 63, 64] [1, 6] (fun x => [(65, .t (.int (x.1))), (3, .sl 3 0 (x.2.1))]) (fun x => [(3, .L 1 (x.2.2))]) (fun x => 0 ≤ (x.1) ∧ (x.1) ≤ (ways (w.tasks[j.toNat]'(by omega))).length ∧ (x.2.1) = (x.2.2).length ∧ (ways (w.tasks[j.toNat]'(by omega))).length ≤ 3 ∧ ∃ acc4 : List (List Int), (x.2.2) = acc4.map T.ints ∧ (acc4.length : Int) ≤ 39 * i + 13 * k + 1 + 3 * j + (x.1) ∧ mvB i k ((ways (w.tasks[i.toNat]'(by omega)))[k.toNat]'(by omega)) j (ways (w.tasks[j.toNat]'(by omega))) 0 acc3 = mvB i k ((ways (w.tasks[i.toNat]'(by omega)))[k.toNat]'(by omega)) j ((ways (w.tasks[j.toNat]'(by omega))).drop (x.1).toNat) (x.1) acc4) (fun x => Int.toNat ((ways (w.tasks[j.toNat]'(by omega))).length - (x.1))) (0, m3, xs3) ?_ (fun x hx => ?_)
    ·exact ⟨by omega, by omega, hm3, (hg.ways _ (List.getElem_mem _)).1, acc3, hx3, by omega, rfl⟩
    obtain ⟨q, m4, xs4⟩ := x
    obtain ⟨hq0, hq1, hm4, hw4, acc4, hx4, hl4, he4⟩ := hx
    dsimp only at hq0 hq1 hm4 hw4 hx4 hl4 he4 ⊢
    refine nY Z (sQ (rG (eZ Z (oN (tN (sQ ?_))))))
    refine W_cond Z (fun h7 => ?_) (fun h7 => ?_)
    ·
     simp only [HS] at h7
     refine W_skip (tN (sQ (W_block (sQ (rG (eZ Z (WO_idxT tys Z Z (lt_of Z) Z Z Z Z Z Z Z (by omega) _ (getAct _ (by omega) (by omega)) (eZ Z ?_))))))))
     try refine WO_le (Le.freeze (u := 69) rfl) ?_
     refine nZ Z (WO_alloc tys Z Z (lt_of Z) Z Z Z (nZ Z (eZ Z (sT Z (nZ Z (oN (tN (sQ (kY [1,3,4,5,6,7,8,9,11,12,13,18,19,20,56,57,58,63,64,65,66,67,68,69] Z (rG (eK 4 Z ?_)))))))))))
     refine WO_guard Z Z Z Z (lt_of Z) (fun h8 => ?_) (fun h8 => ?_)
     rotate_left
     ·
      simp only [HS] at h8
      refine gM Z (gM Z (eK 2 Z (gM Z (kZ [1,3,4,5,6,7,8,9,11,12,13,18,19,20,56,57,58,63,64,65,66,67,68,69,70,71,72,73,74,75,76,77,78,79] Z (gM Z (gM Z (gM Z (gM Z (eZ Z (oN (tN ?_)))))))))))
      refine W_joinN (α := Nat × List T) [1, 4, 5, 6, 7, 8, 9, 11, 12, 13, 18, 19, 20, 56, 57, 58, 63, 64, 65, 66, 67, 68, 69, 70, 71, 72, 73, 74, 75, 76, 77, 78, 79, 80, 81, 82, 83, 84] [1, 6] (fun x => [(3, .sl 3 0 (x.1))]) (fun x => [(3, .L 1 (x.2))]) (fun x => (x.1) = (x.2).length ∧ ∃ acc5 : List (List Int), (x.2) = acc5.map T.ints ∧ (acc5.length : Int) ≤ 39 * i + 13 * k + 1 + 3 * j + q + 1 ∧ acc5 = (if ¬ i = j ∧ ((ways (w.tasks[j.toNat]'(by omega)))[q.toNat]'(by omega)).kind = 2 ∧ ((ways (w.tasks[j.toNat]'(by omega)))[q.toNat]'(by omega)).chan = ((ways (w.tasks[i.toNat]'(by omega)))[k.toNat]'(by omega)).chan then acc4 ++ [[i, k, j, q]] else acc4)) ?_ (fun x hx => ?_)
      ·
       refine W_condF Z (W_skip ?_)
       refine joinQ_n (_, _) (by (try dsimp only); repeat (first | exact Sub.nil' | refine Sub.cons' rfl ?_)) (by (try dsimp only); repeat (first | exact SubM.nil' | refine SubM.cons' rfl ?_)) ?_
       dsimp only
       first
       | exact ⟨hm4, acc4, hx4, by omega, by rw [if_neg (by grind)]⟩
      obtain ⟨m5, xs5⟩ := x
      obtain ⟨hm5, acc5, hx5, hl5, he5⟩ := hx
      dsimp only at hm5 hx5 hl5 he5 ⊢
      refine bN (tN (kY [1,3,4,5,6,7,8,9,11,12,13,18,19,20,56,57,58,63,64,65,66,67,68,69,70,71,72,73,74,75,76,77,78,79,80,81,82,83,84] Z (rG (evI ?_))))
      refine eZ Z (oN ?_)
      refine lQ (_, _, _) ?_ ?_
      ·dsimp only
       exact ⟨by omega, by omega, hm5, hw4, acc5, hx5, by omega, by rw [he4, mvB_at hq0 h7, ← he5]⟩
      ·(show Int.toNat _ < Int.toNat _); omega
     simp only [HS] at h8
     refine eZ Z (gY Z (eZ Z (gY Z (eK 3 Z (kZ [1,3,4,5,6,7,8,9,11,12,13,18,19,20,56,57,58,63,64,65,66,67,68,69,70,71,72,73,74,75,76,77,78] Z ?_)))))
     refine WO_guard Z Z Z Z (lt_of Z) (fun h9 => ?_) (fun h9 => ?_)
     rotate_left
     ·
      simp only [HS] at h9
      refine gM Z (gM Z (gM Z (gM Z (eZ Z (oN (tN ?_))))))
      refine W_joinN (α := Nat × List T) [1, 4, 5, 6, 7, 8, 9, 11, 12, 13, 18, 19, 20, 56, 57, 58, 63, 64, 65, 66, 67, 68, 69, 70, 71, 72, 73, 74, 75, 76, 77, 78, 79, 80, 81, 82, 83, 84] [1, 6] (fun x => [(3, .sl 3 0 (x.1))]) (fun x => [(3, .L 1 (x.2))]) (fun x => (x.1) = (x.2).length ∧ ∃ acc5 : List (List Int), (x.2) = acc5.map T.ints ∧ (acc5.length : Int) ≤ 39 * i + 13 * k + 1 + 3 * j + q + 1 ∧ acc5 = (if ¬ i = j ∧ ((ways (w.tasks[j.toNat]'(by omega)))[q.toNat]'(by omega)).kind = 2 ∧ ((ways (w.tasks[j.toNat]'(by omega)))[q.toNat]'(by omega)).chan = ((ways (w.tasks[i.toNat]'(by omega)))[k.toNat]'(by omega)).chan then acc4 ++ [[i, k, j, q]] else acc4)) ?_ (fun x hx => ?_)
      ·
       refine W_condF Z (W_skip ?_)
       refine joinQ_n (_, _) (by (try dsimp only); repeat (first | exact Sub.nil' | refine Sub.cons' rfl ?_)) (by (try dsimp only); repeat (first | exact SubM.nil' | refine SubM.cons' rfl ?_)) ?_
       dsimp only
       first
       | exact ⟨hm4, acc4, hx4, by omega, by rw [if_neg (by grind)]⟩
      obtain ⟨m5, xs5⟩ := x
      obtain ⟨hm5, acc5, hx5, hl5, he5⟩ := hx
      dsimp only at hm5 hx5 hl5 he5 ⊢
      refine bN (tN (kY [1,3,4,5,6,7,8,9,11,12,13,18,19,20,56,57,58,63,64,65,66,67,68,69,70,71,72,73,74,75,76,77,78,79,80,81,82,83,84] Z (rG (evI ?_))))
      refine eZ Z (oN ?_)
      refine lQ (_, _, _) ?_ ?_
      ·dsimp only
       exact ⟨by omega, by omega, hm5, hw4, acc5, hx5, by omega, by rw [he4, mvB_at hq0 h7, ← he5]⟩
      ·(show Int.toNat _ < Int.toNat _); omega
     simp only [HS] at h9
     refine eZ Z (gY Z (eZ Z (gY Z (eZ Z (gY Z (eZ Z (gY Z (eK 2 Z (oN (tN ?_))))))))))
     refine W_joinN (α := Nat × List T) [1, 4, 5, 6, 7, 8, 9, 11, 12, 13, 18, 19, 20, 56, 57, 58, 63, 64, 65, 66, 67, 68, 69, 70, 71, 72, 73, 74, 75, 76, 77, 78, 79, 80, 81, 82, 83, 84] [1, 6] (fun x => [(3, .sl 3 0 (x.1))]) (fun x => [(3, .L 1 (x.2))]) (fun x => (x.1) = (x.2).length ∧ ∃ acc5 : List (List Int), (x.2) = acc5.map T.ints ∧ (acc5.length : Int) ≤ 39 * i + 13 * k + 1 + 3 * j + q + 1 ∧ acc5 = (if ¬ i = j ∧ ((ways (w.tasks[j.toNat]'(by omega)))[q.toNat]'(by omega)).kind = 2 ∧ ((ways (w.tasks[j.toNat]'(by omega)))[q.toNat]'(by omega)).chan = ((ways (w.tasks[i.toNat]'(by omega)))[k.toNat]'(by omega)).chan then acc4 ++ [[i, k, j, q]] else acc4)) ?_ (fun x hx => ?_)
     ·
      refine W_cond Z (fun h10 => ?_) (fun h10 => ?_)
      ·
       simp only [HS] at h10
       refine rG (eK 3 Z (kZ [1,3,4,5,6,7,8,9,11,12,13,18,19,20,56,57,58,63,64,65,66,67,68,69,70,71,72,73,74,75,76,77,78,79,80,81,82,83,84,85,86,87] Z (eK 2 Z ?_)))
       refine WO_buildSlice tys [T.int i, T.int k, T.int j, T.int q] Z Z (lt_of Z) Z Z Z Z Z (lt_of Z) (by repeat (first | exact PartsOk.nil' | refine PartsOk.cons' rfl (by repeat (first | exact AbsL.nil' | refine AbsL.v' ?_ | refine AbsL.own' ?_ | refine AbsL.none' ?_)) Z ?_)) (by first | exact List.nodup_nil | exact nodup1 _ | decide | exact nodupB_sound Z) Z (by decide) ?_
       refine nZ Z (WO_le (Le.gather (u := 90) (id := 90) Z Z (by first | (simp; done) | (simp; omega) | omega)) ?_)
       refine nZ Z ?_
       refine WO_buildSlice tys [T.ints [i, k, j, q]] Z Z (lt_of Z) Z Z Z Z Z (lt_of Z) (by repeat (first | exact PartsOk.nil' | refine PartsOk.cons' rfl (by repeat (first | exact AbsL.nil' | refine AbsL.v' ?_ | refine AbsL.own' ?_ | refine AbsL.none' ?_)) Z ?_)) (by first | exact List.nodup_nil | exact nodup1 _ | decide | exact nodupB_sound Z) Z (by decide) ?_
       refine nZ Z (WO_append tys Z Z (lt_of Z) Z Z Z Z Z (.own Z (by first | omega | (simp only [List.length_append]; omega))) Z (.own Z (by first | decide | omega)) (by decide) (by have q1 := congrArg List.length hx4; have q2 := hw.1; simp only [List.length_map] at q1; simp only [List.length_take, List.length_cons, List.length_nil]; omega) (by decide) Z ?_)
       refine nZ Z (eZ Z (oN ?_))
       refine joinQ_n (_, _) (by (try dsimp only); repeat (first | exact Sub.nil' | refine Sub.cons' rfl ?_)) (by (try dsimp only); repeat (first | exact SubM.nil' | refine SubM.cons' rfl ?_)) ?_
       dsimp only
       first
       | (refine ⟨by simp, acc4 ++ [[i, k, j, q]], ?_, by simp only [List.length_append, List.length_cons, List.length_nil]; omega, by rw [if_pos ⟨fun e => h8 e.symm, h9, h10⟩]⟩; rw [hm4, List.take_of_length_le (Nat.le_refl _), hx4, List.map_append]; rfl)
      simp only [HS] at h10
      refine W_skip ?_
      refine joinQ_n (_, _) (by (try dsimp only); repeat (first | exact Sub.nil' | refine Sub.cons' rfl ?_)) (by (try dsimp only); repeat (first | exact SubM.nil' | refine SubM.cons' rfl ?_)) ?_
      dsimp only
      first
      | exact ⟨hm4, acc4, hx4, by omega, by rw [if_neg (by grind)]⟩
     obtain ⟨m5, xs5⟩ := x
     obtain ⟨hm5, acc5, hx5, hl5, he5⟩ := hx
     dsimp only at hm5 hx5 hl5 he5 ⊢
     refine bN (tN (kY [1,3,4,5,6,7,8,9,11,12,13,18,19,20,56,57,58,63,64,65,66,67,68,69,70,71,72,73,74,75,76,77,78,79,80,81,82,83,84] Z (rG (evI ?_))))
     refine eZ Z (oN ?_)
     refine lQ (_, _, _) ?_ ?_
     ·dsimp only
      exact ⟨by omega, by omega, hm5, hw4, acc5, hx5, by omega, by rw [he4, mvB_at hq0 h7, ← he5]⟩
     ·(show Int.toNat _ < Int.toNat _); omega
    simp only [HS] at h7
    refine W_exit (tE (loopQ_e (inBlk_y (bN (tN (rG (evI ?_)))))))
    refine eZ Z (oN ?_)
    refine lQ (_, _, _) ?_ ?_
    ·dsimp only
     exact ⟨by omega, by omega, hm4, acc4, hx4, by omega, by rw [he3, mvU_at hj0 h6, he4, drop_end h7]; rfl⟩
    ·(show Int.toNat _ < Int.toNat _); omega
   simp only [HS] at h6
   refine W_exit (tE (loopQ_e (inBlk_y (bN (tN (rG (evI ?_)))))))
   refine eZ Z (oN ?_)
   refine lQ (_, _, _) ?_ ?_
   ·dsimp only
    have e1 := at0_of (d := false) (l := w.shut) hc.1 (by omega); have e2 := at0_of (d := []) (l := w.held) hc.1 (by omega)
    first
    | (have hS : mvS w ((ways (w.tasks[i.toNat]'(by omega)))[k.toNat]'(by omega)) = true := (by grind [mvS]); refine ⟨by omega, by omega, hm3, hw, acc3, hx3, by omega, ?_⟩; rw [he', mvA_at hk0 h2, ← he2, hS, if_pos rfl, he3, drop_end (l := w.tasks) (by omega)]; rfl)
   ·(show Int.toNat _ < Int.toNat _); omega
  simp only [HS] at h2
  refine W_exit (tE (loopQ_e (inBlk_y (bN (tN (rG (evI ?_)))))))
  refine eZ Z (oN ?_)
  refine lQ (_, _, _) ?_ ?_
  ·dsimp only
   exact ⟨by omega, by omega, hm', acc', hx', by (have := hw.1; omega), by rw [he, mvT_at hi0 h1, he', drop_end h2]; rfl⟩
  ·(show Int.toNat _ < Int.toNat _); omega
 simp only [HS] at h1
 refine W_exit (tE (loopQ_e (inBlk_y (tN (sQ (rG (eK 2 Z (oN (tN (W_le (Le.gather (u := 2) (id := 3) Z Z (by omega)) (rT (eR ?_))))))))))))
 ·rw [hm, List.take_of_length_le (Nat.le_refl _), hx, he, drop_end h1]; rfl
open Go.Eng
def four (n : Nat) (l : List (List Int)) : Prop := l.length ≤ n ∧ ∀ x, x ∈ l → x.length = 4
theorem four_add {n : Nat} {l : List (List Int)} {x : List Int} (h : four n l) (hx : x.length = 4) : four (n + 1) (l ++ [x]) :=
 ⟨by have := h.1; simp; omega, fun y hy => by
  rcases List.mem_append.1 hy with hy | hy
  ·exact h.2 y hy
  ·rw [List.mem_singleton] at hy; subst hy; exact hx⟩
theorem four_le {n m : Nat} {l : List (List Int)} (h : four n l) (hm : n ≤ m) : four m l := ⟨Nat.le_trans h.1 hm, h.2⟩
theorem mvB_four {i k j : Int} {a : Act} : ∀ (l : List Act) (m : Int) {n : Nat} {acc : List (List Int)}, four n acc → four (n + l.length) (mvB i k a j l m acc)
 | [], m, n, acc, h => h
 | b :: l, m, n, acc, h => by
  rw [mvB, List.length_cons, show n + (l.length + 1) = (n + 1) + l.length from by omega]
  refine mvB_four l (m + 1) ?_
  split
  ·exact four_add h rfl
  ·exact four_le h (by omega)
theorem mvU_four {i k : Int} {a : Act} : ∀ (l : List Task) (j : Int) {n : Nat} {acc : List (List Int)}, (∀ t, t ∈ l → (ways t).length ≤ 3) → four n acc → four (n + 3 * l.length) (mvU i k a l j acc)
 | [], j, n, acc, _, h => h
 | u :: l, j, n, acc, hw, h => by
  rw [mvU, List.length_cons, show n + 3 * (l.length + 1) = (n + 3) + 3 * l.length from by omega]
  have h1 := hw u (List.mem_cons_self ..)
  exact mvU_four l (j + 1) (fun t ht => hw t (List.mem_cons_of_mem _ ht)) (four_le (mvB_four _ _ h) (by omega))
theorem mvA_four {w : World} {i : Int} (hw : ∀ t, t ∈ w.tasks → (ways t).length ≤ 3) (ht : w.tasks.length ≤ 4) : ∀ (l : List Act) (k : Int) {n : Nat} {acc : List (List Int)}, four n acc → four (n + 13 * l.length) (mvA w i l k acc)
 | [], k, n, acc, h => h
 | a :: l, k, n, acc, h => by
  rw [mvA, List.length_cons, show n + 13 * (l.length + 1) = (n + 13) + 13 * l.length from by omega]
  refine mvA_four hw ht l (k + 1) ?_
  have h1 : four (n + 1) (if alone w a then acc ++ [[i, k, -1, 0]] else acc) := by
   split
   ·exact four_add h rfl
   ·exact four_le h (by omega)
  split
  ·exact four_le (mvU_four _ _ hw h1) (by omega)
  ·exact four_le h1 (by omega)
theorem mvT_four {w : World} (hw : ∀ t, t ∈ w.tasks → (ways t).length ≤ 3) (ht : w.tasks.length ≤ 4) : ∀ (l : List Task) (i : Int) {n : Nat} {acc : List (List Int)}, (∀ t, t ∈ l → (ways t).length ≤ 3) → four n acc → four (n + 39 * l.length) (mvT w l i acc)
 | [], i, n, acc, _, h => h
 | t :: l, i, n, acc, hl, h => by
  rw [mvT, List.length_cons, show n + 39 * (l.length + 1) = (n + 39) + 39 * l.length from by omega]
  have h1 := hl t (List.mem_cons_self ..)
  exact mvT_four hw ht l (i + 1) (fun t ht => hl t (List.mem_cons_of_mem _ ht)) (four_le (mvA_four hw ht _ _ h) (by omega))
theorem movesOf_four {w : World} (hg : Good w) : four 156 (movesOf w) := by
 have hw : ∀ t, t ∈ w.tasks → (ways t).length ≤ 3 := fun t h => (hg.ways t h).1
 exact four_le (mvT_four hw hg.tasks w.tasks 0 (n := 0) hw ⟨Nat.zero_le _, fun x hx => by cases hx⟩) (by have := hg.tasks; omega)
def movesR (w : World) : List (List Int) := if goodWorld w then movesOf w else []
theorem moves_no {w : World} (h : goodWorld w = false) : [D.own (T.list 1 []), D.t (T.v (.bool false))] = [D.own (intss (movesR w)), D.t (T.bool (goodWorld w))] := by
 rw [movesR, h]; rfl
theorem moves_yes {w : World} (h : goodWorld w = true) : [D.own (intss (movesOf w)), D.t (T.v (.bool true))] = [D.own (intss (movesR w)), D.t (T.bool (goodWorld w))] := by
 rw [movesR, h]; rfl
theorem implMoves_fun (w : World) (hw : w.ok 1048576) (hw' : w.ok 9223372036854775807) : Fun Try.prog 10 [.t w.tt] (tupD [.own (intss (movesR w)), .t (.bool (goodWorld w))]) := by
 refine Fun.begin tys Try.func10 Z Z (N := 9) [(0, .t w.tt)] Z Z (fun w0 G F0 => ?_)
 refine sQ (rG (WO_box Z Z (lt_of Z) Z Z (nZ Z (eZ Z (WO_le (Le.nilOwn (u := 2) 1 Z) (nZ Z (eZ Z (oN (tN (sQ (sQ (rG (eZ Z ?_)))))))))))))
 try refine WO_le (Le.freeze (u := 4) rfl) ?_
 refine nZ Z (callB ?_)
 refine ⟨_, isWorld_fun w hw hw', rfl, ?_⟩
 refine eZ Z (oN (tN ?_))
 refine W_cond Z (fun h1 => ?_) (fun h1 => ?_)
 ·
  simp only [HS] at h1
  refine sQ (rG (eZ Z (WO_le (Le.nilOwn (u := 2) 1 Z) (nZ Z (eZ Z (oN (tN (rT (tR (eR ?_))))))))))
  ·exact moves_no h1
 simp only [HS] at h1
 refine W_skip (tN (sQ (rG (eZ Z ?_))))
 try refine WO_le (Le.freeze (u := 7) rfl) ?_
 refine nZ Z (callB ?_)
 refine ⟨_, movesIn_fun w (good_of h1), rfl, ?_⟩
 refine WO_moveAll Z Z (lt_of Z) (.inl Z) Z Z (kZ [2,3] Z (eZ Z (oN (tN (rT (eR ?_))))))
 ·exact moves_yes h1
open Go.Eng
def task0 : Task := ⟨[], 0, 0, 0⟩
def act0 : Act := .mk 0 0 0 []
def tk (w : World) (i : Int) : Task := at0 task0 w.tasks i
def advT (t : Task) : Task := { t with pos := t.pos + 1, state := if t.pos + 1 = t.acts.length then 1 else t.state }
def setT (w : World) (i : Int) (t : Task) : World := { w with tasks := w.tasks.set i.toNat t }
def advW (w : World) (i : Int) : World := setT w i (advT (tk w i))
def actOf (w : World) (mv : List Int) : Act := at0 act0 (ways (tk w (at0 0 mv 0))) (at0 0 mv 1)
def doW (w : World) (mv : List Int) : World :=
 if (actOf w mv).kind = 3 then advW { w with trace := w.trace ++ [(tk w (at0 0 mv 0)).last] } (at0 0 mv 0)
 else if ((actOf w mv).kind = 5 ∨ (actOf w mv).kind = 1) ∧ at0 false w.shut (actOf w mv).chan = true then setT w (at0 0 mv 0) { tk w (at0 0 mv 0) with state := 2 }
 else if (actOf w mv).kind = 5 then advW { w with shut := w.shut.set (actOf w mv).chan.toNat true } (at0 0 mv 0)
 else if (actOf w mv).kind = 1 ∧ 0 ≤ at0 0 mv 2 then advW (advW (setT w (at0 0 mv 2) { tk w (at0 0 mv 2) with last := (actOf w mv).n }) (at0 0 mv 2)) (at0 0 mv 0)
 else if (actOf w mv).kind = 1 then advW { w with held := w.held.set (actOf w mv).chan.toNat (at0 [] w.held (actOf w mv).chan ++ [(actOf w mv).n]) } (at0 0 mv 0)
 else if 0 < (at0 [] w.held (actOf w mv).chan).length then
  advW { setT w (at0 0 mv 0) { tk w (at0 0 mv 0) with last := at0 0 (at0 [] w.held (actOf w mv).chan) 0 } with held := w.held.set (actOf w mv).chan.toNat ((at0 [] w.held (actOf w mv).chan).drop 1) } (at0 0 mv 0)
 else advW (setT w (at0 0 mv 0) { tk w (at0 0 mv 0) with last := 0 }) (at0 0 mv 0)
def doOk (w : World) (mv : List Int) : Bool := decide ((doW w mv).trace.length ≤ 120)
structure MvOk (w : World) (mv : List Int) : Prop where
 len : mv.length = 4
 i0 : 0 ≤ at0 0 mv 0
 i1 : at0 0 mv 0 < w.tasks.length
 k0 : 0 ≤ at0 0 mv 1
 k1 : at0 0 mv 1 < (ways (tk w (at0 0 mv 0))).length
 j : (at0 0 mv 2 = -1 ∧ alone w (actOf w mv) = true) ∨ ((0 ≤ at0 0 mv 2 ∧ at0 0 mv 2 < w.tasks.length) ∧ (¬ at0 0 mv 0 = at0 0 mv 2) ∧ 0 < (ways (tk w (at0 0 mv 2))).length)
section
variable {w : World} {i k : Int} {a : Act}
def AllOk (w : World) (acc : List (List Int)) : Prop := ∀ x, x ∈ acc → MvOk w x
theorem AllOk.add {acc : List (List Int)} (h : AllOk w acc) {x : List Int} (hx : MvOk w x) : AllOk w (acc ++ [x]) := fun y hy => by
 rcases List.mem_append.1 hy with hy | hy
 ·exact h y hy
 ·rw [List.mem_singleton] at hy; subst hy; exact hx
theorem mvOk_of (h0 : 0 ≤ i) (h1 : i < w.tasks.length) (h2 : 0 ≤ k) (h3 : k < (ways (tk w i)).length) {j m : Int} (hj : (j = -1 ∧ alone w (at0 act0 (ways (tk w i)) k) = true) ∨ ((0 ≤ j ∧ j < w.tasks.length) ∧ (¬ i = j) ∧ 0 < (ways (tk w j)).length)) : MvOk w [i, k, j, m] :=
 ⟨rfl, h0, h1, h2, h3, hj⟩
theorem mvB_ok (h0 : 0 ≤ i) (h1 : i < w.tasks.length) (h2 : 0 ≤ k) (h3 : k < (ways (tk w i)).length) {j : Int} (hj0 : 0 ≤ j) (hj1 : j < w.tasks.length) : ∀ (l : List Act) (m : Int) {acc : List (List Int)}, l.length ≤ (ways (tk w j)).length → AllOk w acc → AllOk w (mvB i k a j l m acc)
 | [], _, _, _, h => h
 | b :: l, m, acc, hl, h => by
  rw [List.length_cons] at hl
  rw [mvB]
  refine mvB_ok h0 h1 h2 h3 hj0 hj1 l (m + 1) (by omega) ?_
  split
  ·rename_i hc
   exact h.add (mvOk_of h0 h1 h2 h3 (.inr ⟨⟨hj0, hj1⟩, hc.1, by omega⟩))
  ·exact h
theorem mvU_ok (h0 : 0 ≤ i) (h1 : i < w.tasks.length) (h2 : 0 ≤ k) (h3 : k < (ways (tk w i)).length) : ∀ (l : List Task) (j : Int) {acc : List (List Int)}, 0 ≤ j → l = w.tasks.drop j.toNat → AllOk w acc → AllOk w (mvU i k a l j acc)
 | [], _, _, _, _, h => h
 | u :: l, j, acc, hj, he, h => by
  have hl := congrArg List.length he
  rw [List.length_cons, List.length_drop] at hl
  have h6 := drop_at (l := w.tasks) hj (by omega)
  rw [← he] at h6
  have hb : tk w j = u := by
   rw [tk, at0_of hj (by omega)]
   exact (List.cons.inj h6).1.symm
  rw [mvU]
  exact mvU_ok h0 h1 h2 h3 l (j + 1) (by omega) (List.cons.inj h6).2 (mvB_ok h0 h1 h2 h3 hj (by omega) _ _ (by rw [hb]; exact Nat.le_refl _) h)
theorem mvA_ok (h0 : 0 ≤ i) (h1 : i < w.tasks.length) : ∀ (l : List Act) (k : Int) {acc : List (List Int)}, 0 ≤ k → l = (ways (tk w i)).drop k.toNat → AllOk w acc → AllOk w (mvA w i l k acc)
 | [], _, _, _, _, h => h
 | b :: l, k, acc, hk, he, h => by
  have hl := congrArg List.length he
  rw [List.length_cons, List.length_drop] at hl
  have h6 := drop_at (l := ways (tk w i)) hk (by omega)
  rw [← he] at h6
  have hb : at0 act0 (ways (tk w i)) k = b := by
   rw [at0_of hk (by omega)]
   exact (List.cons.inj h6).1.symm
  rw [mvA]
  refine mvA_ok h0 h1 l (k + 1) (by omega) (List.cons.inj h6).2 ?_
  have h5 : AllOk w (if alone w b then acc ++ [[i, k, -1, 0]] else acc) := by
   split
   ·rename_i ha
    exact h.add (mvOk_of h0 h1 hk (by omega) (.inl ⟨rfl, by rw [hb]; exact ha⟩))
   ·exact h
  split
  ·exact mvU_ok h0 h1 hk (by omega) w.tasks 0 (by omega) rfl h5
  ·exact h5
theorem mvT_ok : ∀ (l : List Task) (i : Int) {acc : List (List Int)}, 0 ≤ i → l = w.tasks.drop i.toNat → AllOk w acc → AllOk w (mvT w l i acc)
 | [], _, _, _, _, h => h
 | t :: l, i, acc, hi, hl, h => by
  have hlen := congrArg List.length hl
  rw [List.length_cons, List.length_drop] at hlen
  have ht : tk w i = t := by
   have h5 := drop_at (l := w.tasks) hi (by omega)
   rw [← hl] at h5
   rw [tk, at0_of hi (by omega)]
   exact (List.cons.inj h5).1.symm
  rw [mvT]
  refine mvT_ok l (i + 1) (by omega) ?_ (mvA_ok hi (by omega) (ways t) 0 (by omega) (by rw [ht]; rfl) h)
  have h5 := drop_at (l := w.tasks) hi (by omega)
  rw [← hl] at h5
  exact (List.cons.inj h5).2
theorem moves_ok {mv : List Int} (h : mv ∈ movesOf w) : MvOk w mv := mvT_ok w.tasks 0 (by omega) rfl (fun x hx => by cases hx) mv h
end
theorem goodAct_ways {w : World} (hg : goodWorld w = true) {t : Task} (ht : t ∈ w.tasks) {a : Act} (ha : a ∈ ways t) : (a.kind = 1 ∨ a.kind = 2 ∨ a.kind = 3 ∨ a.kind = 5) ∧ (0 ≤ a.chan ∧ a.chan < w.room.length) ∧ inNum a.n = true ∧ t.state = 0 ∧ (0 ≤ t.pos ∧ t.pos < t.acts.length) := by
 have hgo := good_of hg
 have h9 : goodTask w.room.length t = true := by
  unfold goodWorld at hg
  simp only [Bool.and_eq_true, List.all_eq_true] at hg
  exact hg.2.2.2.2.2.2.2.2 t ht
 unfold goodTask goodActs at h9
 simp only [Bool.and_eq_true, decide_eq_true_eq, List.all_eq_true] at h9
 have hs : t.state = 0 := Classical.byContradiction fun h => by unfold ways at ha; rw [if_neg h] at ha; cases ha
 have hp := hgo.pos t ht
 have hp1 := hp.2.1 hs
 have hch := (hgo.ways t ht).2 a ha
 refine ⟨?_, hch, ?_, hs, hp.1, hp1⟩
 all_goals
  rw [ways_at hs hp.1 hp1] at ha
  have hga := h9.1.1 _ (List.getElem_mem (l := t.acts) (n := t.pos.toNat) (by omega))
  unfold goodAct at hga
  split at ha
  ·rename_i hk
   rw [if_pos hk] at hga
   simp only [Bool.and_eq_true, List.all_eq_true] at hga
   have := hga.1 a ha
   unfold caseAct plainAct at this
   simp only [Bool.and_eq_true, decide_eq_true_eq] at this
   grind [inNum]
  ·rename_i hk
   rw [if_neg hk] at hga
   rw [List.mem_singleton] at ha
   subst ha
   unfold plainAct at hga
   simp only [Bool.and_eq_true, decide_eq_true_eq] at hga
   grind [inNum]
theorem heldGo_iff : ∀ {hs : List (List Int)} {rs : List Int}, heldGo hs rs = true ↔ ∀ (k : Nat) (h1 : k < hs.length) (h2 : k < rs.length), ((hs[k].length : Int) ≤ rs[k]) ∧ allIn hs[k] (-1000) 1000 = true
 | [], _ => by simp [heldGo]
 | _ :: _, [] => by simp [heldGo]
 | l :: hs, r :: rs => by
  rw [heldGo, Bool.and_eq_true, Bool.and_eq_true, decide_eq_true_eq, heldGo_iff]
  constructor
  ·rintro ⟨a, b, h⟩ k h1 h2
   cases k with
   | zero => exact ⟨a, b⟩
   | succ k => exact h k (by simpa using h1) (by simpa using h2)
  ·intro h
   refine ⟨(h 0 (by simp) (by simp)).1, (h 0 (by simp) (by simp)).2, fun k h1 h2 => ?_⟩
   exact h (k + 1) (by simpa using h1) (by simpa using h2)
structure GW (w : World) : Prop where
 room : (1 : Int) ≤ w.room.length ∧ (w.room.length : Int) ≤ 3
 held : (w.held.length : Int) = w.room.length
 shut : (w.shut.length : Int) = w.room.length
 rooms : allIn w.room 0 3 = true
 tasks : (1 : Int) ≤ w.tasks.length ∧ (w.tasks.length : Int) ≤ 4
 trace : (w.trace.length : Int) ≤ 120
 tr : allIn w.trace (-1000) 1000 = true
 hs : ∀ (k : Nat) (h1 : k < w.held.length) (h2 : k < w.room.length), ((w.held[k].length : Int) ≤ w.room[k]) ∧ allIn w.held[k] (-1000) 1000 = true
 ts : ∀ t, t ∈ w.tasks → goodTask w.room.length t = true
theorem gw_iff {w : World} : goodWorld w = true ↔ GW w := by
 unfold goodWorld
 simp only [Bool.and_eq_true, decide_eq_true_eq, List.all_eq_true, heldGo_iff]
 exact ⟨fun ⟨a, b, d, e, f, g, h, i, j⟩ => ⟨a, b, d, e, f, g, h, i, j⟩, fun h => ⟨h.1, h.2, h.3, h.4, h.5, h.6, h.7, h.8, h.9⟩⟩
theorem gw_set {w : World} (h : GW w) {i : Int} {t : Task} (ht : goodTask w.room.length t = true) : GW (setT w i t) :=
 { h with
  tasks := by have e : (setT w i t).tasks.length = w.tasks.length := List.length_set; rw [e]; exact h.tasks
  ts := fun u hu => by
   rcases List.mem_or_eq_of_mem_set hu with hu | rfl
   ·exact h.ts u hu
   ·exact ht }
theorem tk_set {w : World} {i j : Int} {t : Task} (h0 : 0 ≤ i) (h1 : i < w.tasks.length) (hj : 0 ≤ j) : tk (setT w i t) j = if j = i then t else tk w j := by
 unfold tk setT at0
 by_cases e : j = i
 ·subst e; rw [if_pos rfl]; simp only; rw [List.getElem?_set_self (by omega)]; rfl
 ·rw [if_neg e]; simp only; rw [List.getElem?_set_ne (by omega)]
theorem tk_mem {w : World} {i : Int} (h0 : 0 ≤ i) (h1 : i < w.tasks.length) : tk w i ∈ w.tasks := by
 rw [tk, at0_of h0 h1]; exact List.getElem_mem _
theorem good_advT {c : Int} {t : Task} (h : goodTask c t = true) (hs : t.state = 0) (hp : t.pos < t.acts.length) : goodTask c (advT t) = true := by
 unfold goodTask at h ⊢
 simp only [Bool.and_eq_true, decide_eq_true_eq] at h ⊢
 obtain ⟨a, b, d, e, f⟩ := h
 unfold advT
 refine ⟨a, by simp only; omega, ?_, e, ?_⟩ <;> simp only <;> split <;> omega
theorem good_stT {c : Int} {t : Task} (h : goodTask c t = true) (hp : t.pos < t.acts.length) : goodTask c { t with state := 2 } = true := by
 unfold goodTask at h ⊢
 simp only [Bool.and_eq_true, decide_eq_true_eq] at h ⊢
 obtain ⟨a, b, d, e, f⟩ := h
 exact ⟨a, b, by omega, e, by omega⟩
theorem good_laT {c : Int} {t : Task} (h : goodTask c t = true) {n : Int} (hn : inNum n = true) : goodTask c { t with last := n } = true := by
 unfold goodTask at h ⊢
 simp only [Bool.and_eq_true, decide_eq_true_eq] at h ⊢
 obtain ⟨a, b, d, e, f⟩ := h
 exact ⟨a, b, d, hn, f⟩
theorem gw_adv {w : World} (h : GW w) {i : Int} (h0 : 0 ≤ i) (h1 : i < w.tasks.length) (hs : (tk w i).state = 0) (hp : (tk w i).pos < (tk w i).acts.length) : GW (advW w i) :=
 gw_set h (good_advT (h.ts _ (tk_mem h0 h1)) hs hp)
theorem gw_held {w : World} (h : GW w) {c : Int} (hc0 : 0 ≤ c) (hc1 : c < w.room.length) {v : List Int} (hv : (v.length : Int) ≤ at0 0 w.room c) (hva : allIn v (-1000) 1000 = true) : GW { w with held := w.held.set c.toNat v } :=
 { h with
  held := by show ((w.held.set c.toNat v).length : Int) = _; rw [List.length_set]; exact h.held
  hs := fun k h1 h2 => by
   have h3 : k < w.held.length := by have : k < (w.held.set c.toNat v).length := h1; rwa [List.length_set] at this
   show (((w.held.set c.toNat v)[k]'h1).length : Int) ≤ w.room[k]'h2 ∧ allIn ((w.held.set c.toNat v)[k]'h1) (-1000) 1000 = true
   rw [List.getElem_set]
   split
   ·rename_i e
    subst e
    rw [at0_of hc0 hc1] at hv
    exact ⟨hv, hva⟩
   ·exact h.hs k h3 h2 }
theorem gw_shut {w : World} (h : GW w) {l : List Bool} (hl : l.length = w.shut.length) : GW { w with shut := l } :=
 { h with shut := by show (l.length : Int) = _; rw [hl]; exact h.shut }
theorem gw_trace {w : World} (h : GW w) {l : List Int} (hl : (l.length : Int) ≤ 120) (ha : allIn l (-1000) 1000 = true) : GW { w with trace := l } :=
 { h with trace := hl, tr := ha }
theorem allIn_add {l : List Int} {n lo hi : Int} (h : allIn l lo hi = true) (hn : lo ≤ n ∧ n ≤ hi) : allIn (l ++ [n]) lo hi = true := by
 unfold allIn at h ⊢
 rw [List.all_append, h]
 simp [hn]
theorem allIn_drop {l : List Int} {k : Nat} {lo hi : Int} (h : allIn l lo hi = true) : allIn (l.drop k) lo hi = true := by
 unfold allIn at h ⊢
 rw [List.all_eq_true] at h ⊢
 exact fun x hx => h x (List.mem_of_mem_drop hx)
theorem inNum_iff {n : Int} : inNum n = true ↔ -1000 ≤ n ∧ n ≤ 1000 := by unfold inNum; rw [decide_eq_true_eq]
theorem gw_hold {w : World} (h : GW w) {c : Int} (hc0 : 0 ≤ c) (hc1 : c < w.room.length) : ((at0 [] w.held c).length : Int) ≤ at0 0 w.room c ∧ allIn (at0 [] w.held c) (-1000) 1000 = true := by
 have e := h.held
 rw [at0_of hc0 (by omega), at0_of hc0 hc1]
 exact h.hs c.toNat (by omega) (by omega)
theorem good_doW {w : World} {mv : List Int} (hg : goodWorld w = true) (hm : MvOk w mv) (hd : doOk w mv = true) : goodWorld (doW w mv) = true := by
 rw [gw_iff]
 have h := gw_iff.1 hg
 have hat : actOf w mv ∈ ways (tk w (at0 0 mv 0)) := by rw [actOf, at0_of hm.k0 hm.k1]; exact List.getElem_mem _
 have htm := tk_mem hm.i0 hm.i1
 obtain ⟨hk, hch, hn, hst, hp⟩ := goodAct_ways hg htm hat
 have hla : inNum (tk w (at0 0 mv 0)).last = true := by
  have := h.ts _ htm
  unfold goodTask at this
  simp only [Bool.and_eq_true] at this
  exact this.2.2.2.1
 rw [inNum_iff] at hn hla
 have hho := gw_hold h hch.1 hch.2
 have hdd : (doW w mv).trace.length ≤ 120 := of_decide_eq_true hd
 have hj := hm.j
 have hi0 := hm.i0
 have hi1 := hm.i1
 unfold doW at hdd ⊢
 generalize hA : actOf w mv = A at *
 generalize hI : at0 0 mv 0 = I at *
 generalize hJ : at0 0 mv 2 = J at *
 split
 ·rename_i h3
  rw [if_pos h3] at hdd
  have hlen : (w.trace ++ [(tk w I).last]).length ≤ 120 := hdd
  exact gw_adv (gw_trace h (by omega) (allIn_add h.tr hla)) hi0 hi1 hst hp.2
 ·split
  ·exact gw_set h (good_stT (h.ts _ htm) hp.2)
  ·split
   ·exact gw_adv (gw_shut h List.length_set) hi0 hi1 hst hp.2
   ·split
    ·rename_i hs5
     obtain ⟨hj1, hj2, hj3⟩ := hj.resolve_left (by omega)
     have hjm := tk_mem hj1.1 hj1.2
     have hjs : (tk w J).state = 0 := Classical.byContradiction fun hx => by unfold ways at hj3; rw [if_neg hx] at hj3; simp at hj3
     have hjp := (good_of hg).pos _ hjm
     have g1 : GW (setT w J { tk w J with last := A.n }) := gw_set h (good_laT (h.ts _ hjm) (inNum_iff.2 hn))
     have e1 : tk (setT w J { tk w J with last := A.n }) J = { tk w J with last := A.n } := by rw [tk_set hj1.1 hj1.2 hj1.1, if_pos rfl]
     have l1 : ∀ (w : World) (i : Int) (t : Task), (setT w i t).tasks.length = w.tasks.length := fun w i t => List.length_set
     have g2 : GW (advW (setT w J { tk w J with last := A.n }) J) := gw_adv g1 hj1.1 (by rw [l1]; exact hj1.2) (by rw [e1]; exact hjs) (by rw [e1]; exact hjp.2.1 hjs)
     have e2 : tk (advW (setT w J { tk w J with last := A.n }) J) I = tk w I := by
      rw [advW, tk_set hj1.1 (by rw [l1]; exact hj1.2) hi0, if_neg hj2, tk_set hj1.1 hj1.2 hi0, if_neg hj2]
     exact gw_adv g2 hi0 (by rw [advW, l1, l1]; exact hi1) (by rw [e2]; exact hst) (by rw [e2]; exact hp.2)
    ·split
     ·rename_i hns hk1
      have hal : alone w A = true := (hj.resolve_right (by omega)).2
      have hsh : ¬ at0 false w.shut A.chan = true := by grind
      have hroom : ((at0 [] w.held A.chan).length : Int) < at0 0 w.room A.chan := by
       unfold alone at hal
       rw [if_pos hk1] at hal
       simp only [Bool.or_eq_true, decide_eq_true_eq] at hal
       exact hal.resolve_left hsh
      exact gw_adv (gw_held h hch.1 hch.2 (by simp; omega) (allIn_add hho.2 hn)) hi0 hi1 hst hp.2
     ·split
      ·rename_i hh
       have hn0 : inNum (at0 0 (at0 [] w.held A.chan) 0) = true := by
        have h5 := hho.2
        unfold allIn at h5
        rw [List.all_eq_true] at h5
        have h6 := h5 _ (List.getElem_mem (l := at0 [] w.held A.chan) (n := 0) hh)
        rw [at0_of (by omega) (by omega)]
        exact inNum_iff.2 (of_decide_eq_true h6)
       have g1 : GW (setT w I { tk w I with last := at0 0 (at0 [] w.held A.chan) 0 }) := gw_set h (good_laT (h.ts _ htm) hn0)
       have e1 : tk (setT w I { tk w I with last := at0 0 (at0 [] w.held A.chan) 0 }) I = { tk w I with last := at0 0 (at0 [] w.held A.chan) 0 } := by rw [tk_set hi0 hi1 hi0, if_pos rfl]
       have l1 : (setT w I { tk w I with last := at0 0 (at0 [] w.held A.chan) 0 }).tasks.length = w.tasks.length := List.length_set
       refine gw_adv (w := { setT w I { tk w I with last := at0 0 (at0 [] w.held A.chan) 0 } with held := w.held.set A.chan.toNat ((at0 [] w.held A.chan).drop 1) }) (gw_held g1 hch.1 hch.2 ?_ (allIn_drop hho.2)) hi0 (by show I < ((setT w I _).tasks.length : Int); rw [l1]; exact hi1) ?_ ?_
       ·rw [List.length_drop]; show _ ≤ at0 0 w.room A.chan; omega
       ·show (tk (setT w I _) I).state = 0
        rw [e1]; exact hst
       ·show (tk (setT w I _) I).pos < (tk (setT w I _) I).acts.length
        rw [e1]; exact hp.2
      ·have g1 : GW (setT w I { tk w I with last := 0 }) := gw_set h (good_laT (h.ts _ htm) rfl)
       have e1 : tk (setT w I { tk w I with last := 0 }) I = { tk w I with last := 0 } := by rw [tk_set hi0 hi1 hi0, if_pos rfl]
       have l1 : (setT w I { tk w I with last := 0 }).tasks.length = w.tasks.length := List.length_set
       exact gw_adv g1 hi0 (by rw [l1]; exact hi1) (by rw [e1]; exact hst) (by rw [e1]; exact hp.2)
open Go.Eng
theorem grow_fun (n : Int) (h0 : 0 ≤ n) (hn : n ≤ 1073741824) : Fun Try.prog 92 [.nil, .t (.int n)] (tupD [.own (T.ints [])]) := by
 refine Fun.begin tys Try.func92 Z Z (N := 27) [(0, .nil), (1, .t (.int n))] Z Z (fun w0 G F0 => ?_)
 refine sQ (rG (eZ Z (oN (tN (sQ (sQ (rG (eK 2 Z (oN (tN ?_))))))))))
 refine W_cond Z (fun h1 => ?_) (fun h1 => ?_)
 ·
  simp only [HS] at h1
  exfalso; first | omega | (simp_all; done) | (simp_all; omega)
 simp only [HS] at h1
 refine W_skip (tN (sQ (sQ (rG (eK 2 Z (WO_capNil Z Z (lt_of Z) Z ⟨3, by kernel_rfl⟩ rfl (eZ Z (evE ?_))))))))
 refine evI ?_
 refine kZ [0,1,4,8,13] Z (evI ?_)
 refine eZ Z (oN (tN (sQ (rG (eK 2 Z (oN (tN ?_)))))))
 refine W_cond Z (fun h2 => ?_) (fun h2 => ?_)
 ·
  simp only [HS] at h2
  refine rG (eK 2 Z (WO_capNil Z Z (lt_of Z) Z ⟨3, by kernel_rfl⟩ rfl (WO_sliceNil tys Z Z (lt_of Z) Z Z Z Z Z Z Z (eZ Z (kZ [0,4,20,21] Z ?_)))))
  refine WO_growNil tys (.v (.int .i64 0)) Z Z (lt_of Z) Z Z Z Z (by kernel_rfl) Z Z (by repeat (first | exact AbsL.nil' | refine AbsL.v' ?_ | refine AbsL.none' ?_)) Z (by decide) (by omega) (by omega) (by decide) ?_
  refine nZ Z (eZ Z (evE ?_))
  refine WO_sliceS tys Z Z (lt_of Z) Z Z Z Z Z Z Z Z Z (by omega) (by omega) (by omega) (eZ Z (oN (tN (sQ (rG (eK 2 Z (oN (tN (W_le (Le.gather (u := 4) (id := 22) Z Z (by simp)) ?_)))))))))
  refine rT (eR ?_)
  ·rfl
 simp only [HS] at h2
 refine W_skip (tN (sQ (rG (eK 2 Z (oN (tN (W_le (Le.nilOwn (u := 4) 1 Z) (rT (eR ?_)))))))))
 ·rfl
theorem read_ints (l : List Int) : ∀ x, x ∈ l.map T.int → (T.cells x).length = 1 ∧ ∀ y, y ∈ T.cells x → ∃ v, y = .v v := by
 intro x hx
 obtain ⟨n, _, rfl⟩ := List.mem_map.1 hx
 exact ⟨rfl, fun y hy => by simp [T.cells] at hy; exact ⟨_, hy⟩⟩
theorem concat_fun (l : List (List Int)) (hl : l.length ≤ 1048576) (hs : l.flatten.length ≤ 1048576) : Fun Try.prog 47 [.t (intss l)] (tupD [.own (T.ints l.flatten)]) := by
 refine Fun.begin tys Try.func47 Z Z (N := 36) [(0, .t (intss l))] Z Z (fun w0 G F0 => ?_)
 refine sQ (rG (eZ Z (oN (tN (sQ (rG (eZ Z (oN (tN (sQ (sQ (rG (eZ Z (evE ?_))))))))))))))
 refine eZ Z (oN (tN (W_block ?_)))
 refine lK (α := Int × Int) [0, 9, 10] [] (fun x => [(11, .t (.int (x.1))), (3, .t (.int (x.2)))]) (fun x => []) (fun x => 0 ≤ (x.1) ∧ (x.1) ≤ l.length ∧ 0 ≤ (x.2) ∧ (x.2) + (l.drop (x.1).toNat).flatten.length = l.flatten.length) (fun x => Int.toNat (l.length - (x.1))) (0, 0) ?_ (fun x hx => ?_)
 ·exact ⟨by omega, by omega, by omega, by simp⟩
 obtain ⟨k, n⟩ := x
 obtain ⟨hk0, hk1, hk2, hk⟩ := hx
 dsimp only at hk0 hk1 hk2 hk ⊢
 refine nY Z (sQ (rG (eZ Z (oN (tN (sQ ?_))))))
 refine W_cond Z (fun h1 => ?_) (fun h1 => ?_)
 ·
  simp only [HS] at h1
  refine W_skip (tN (sQ (W_block (sQ (rG (WO_idxT tys Z Z (lt_of Z) Z Z Z Z Z Z Z (by omega) _ (getT _ _ (by omega) (by omega)) (eK 2 Z (oN (tN (sQ (rG (eK 2 Z (evE ?_)))))))))))))
  have hk3 := flat_at hk0 h1
  have hk4 := congrArg List.length hk3
  simp only [List.length_append] at hk4
  refine WO_int tys Z Z (lt_of Z) Z (wrap_id (by omega) (by omega)) (eZ Z (kZ [0,3,5,9,10,11,12,13,14,15,16,17,18] Z (oN (tN (sQ (rG (eK 2 Z (oN (tN ?_)))))))))
  refine W_cond Z (fun h2 => ?_) (fun h2 => ?_)
  ·
   simp only [HS] at h2
   exfalso; first | omega | (simp_all; done) | (simp_all; omega)
  simp only [HS] at h2
  refine W_skip (bN (tN (rG (evI ?_))))
  refine eZ Z (oN ?_)
  refine lQ (_, _) ?_ ?_
  ·dsimp only
   exact ⟨by omega, by omega, by omega, by omega⟩
  ·(show Int.toNat _ < Int.toNat _); omega
 simp only [HS] at h1
 refine W_exit (tE (loopQ_e (inBlk_y (tN (sQ (rG (eZ Z (callB ?_))))))))
 refine ⟨_, grow_fun _ (by omega) (by omega), rfl, ?_⟩
 refine WO_le (Le.adoptE (u := 24) 24 Z (by first | exact lenN | exact Z)) ?_
 refine nZ Z (eZ Z (oN (tN (sQ (sQ (rG (eZ Z (evE ?_))))))))
 refine eZ Z (oN (tN (W_block ?_)))
 refine lK (α := Int × Nat × List T) [0, 25, 26] [] (fun x => [(27, .t (.int (x.1))), (6, .sl 24 0 (x.2.1))]) (fun x => [(24, .L 1 (x.2.2))]) (fun x => 0 ≤ (x.1) ∧ (x.1) ≤ l.length ∧ (x.2.1) = (x.2.2).length ∧ (x.2.2) = (l.take (x.1).toNat).flatten.map T.int) (fun x => Int.toNat (l.length - (x.1))) (0, 0, []) ?_ (fun x hx => ?_)
 ·exact ⟨by omega, by omega, by simp, by simp⟩
 obtain ⟨j, m, xs⟩ := x
 obtain ⟨hj0, hj1, hj2, hj3⟩ := hx
 dsimp only at hj0 hj1 hj2 hj3 ⊢
 refine nY Z (sQ (rG (eZ Z (oN (tN (sQ ?_))))))
 refine W_cond Z (fun h2 => ?_) (fun h2 => ?_)
 ·
  simp only [HS] at h2
  refine W_skip (tN (sQ (W_block (sQ (rG (WO_idxT tys Z Z (lt_of Z) Z Z Z Z Z Z Z (by omega) _ (getT _ _ (by omega) (by omega)) (eK 2 Z (oN (tN (rG (eK 2 Z (WO_append tys Z Z (lt_of Z) Z Z Z Z Z (.own Z (by first | omega | (simp only [List.length_append]; omega))) Z (.read (read_ints _)) (by decide) (by have hq := flat_take_len (l := l) j.toNat; rw [flat_at hj0 (by omega)] at hq; simp only [hj3, List.length_append, List.length_take, List.length_map, List.length_nil] at hq ⊢; omega) (by decide) Z ?_))))))))))))
  refine nZ Z (eZ Z (oN (bN (tN (kY [0,6,8,25,26,27,28,29,30,31,32,33] Z (rG (evI ?_)))))))
  refine eZ Z (oN ?_)
  refine lQ (_, _, _) ?_ ?_
  ·dsimp only
   exact ⟨by omega, by omega, by simp [hj2], by rw [hj2, List.take_of_length_le (Nat.le_refl _), flat_take_at hj0 (by omega), List.map_append, ← hj3]⟩
  ·(show Int.toNat _ < Int.toNat _); omega
 simp only [HS] at h2
 refine W_exit (tE (loopQ_e (inBlk_y (tN (sQ (rG (eK 2 Z (oN (tN (W_le (Le.gather (u := 2) (id := 24) Z Z (by omega)) (rT (eR ?_))))))))))))
 ·rw [hj2, List.take_of_length_le (Nat.le_refl _), hj3, take_end (by omega)]; rfl
theorem flat_le {α : Type} {m : Nat} : ∀ {ll : List (List α)}, (∀ l, l ∈ ll → l.length ≤ m) → ll.flatten.length ≤ ll.length * m
 | [], _ => by simp
 | l :: ll, h => by
  have h1 := h l (List.mem_cons_self ..)
  have h2 := flat_le fun x hx => h x (List.mem_cons_of_mem l hx)
  rw [List.flatten_cons, List.length_append, List.length_cons, Nat.add_mul]
  omega
open Go.Eng
def addW (a x : Int) : Int := IntKind.i64.wrap (a + x)
def sumW (s : Int) (l : List Int) : Int := l.foldl addW s
def allL (w : World) : List (List Int) := w.held ++ [w.trace]
def sumR (w : World) : Int := if goodWorld w then sumW 0 (allL w).flatten else 0
theorem sumW_at {s : Int} {l : List Int} {k : Int} (h0 : 0 ≤ k) (h1 : k < l.length) : sumW s (l.take (k + 1).toNat) = addW (sumW s (l.take k.toNat)) (l[k.toNat]'(by omega)) := by
 unfold sumW; rw [take_at h0 h1, List.foldl_append]; rfl
theorem held_le : ∀ {hs : List (List Int)} {rs : List Int}, heldGo hs rs = true → hs.length = rs.length → (∀ r, r ∈ rs → r ≤ 3) → ∀ l, l ∈ hs → l.length ≤ 3
 | [], _, _, _, _, l, hl => by cases hl
 | _ :: _, [], _, h, _, l, hl => by simp at h
 | h :: hs, r :: rs, hg, hlen, hr, l, hl => by
  rw [heldGo, Bool.and_eq_true, Bool.and_eq_true, decide_eq_true_eq] at hg
  have h3 := hr r (by simp)
  rcases List.mem_cons.1 hl with rfl | hl
  ·omega
  ·exact held_le hg.2.2 (by simpa using hlen) (fun r hr' => hr r (by simp [hr'])) l hl
theorem held_good {w : World} (h : goodWorld w = true) : (∀ l, l ∈ w.held → l.length ≤ 3) ∧ w.held.length ≤ 3 ∧ w.trace.length ≤ 120 := by
 have hg := good_of h
 unfold goodWorld at h
 simp only [Bool.and_eq_true, decide_eq_true_eq] at h
 obtain ⟨h1, h2, h3, h4, h5, h6, h7, h8, h9⟩ := h
 refine ⟨held_le h8 (by omega) (fun r hr => ?_), by omega, by omega⟩
 unfold allIn at h4
 rw [List.all_eq_true] at h4
 have := h4 r hr
 simp at this
 omega
theorem sum_no {w : World} (h : goodWorld w = false) : [D.t (T.v (.int .i64 0)), D.t (T.v (.bool false))] = [D.t (T.int (sumR w)), D.t (T.bool (goodWorld w))] := by
 rw [sumR, h]; rfl
theorem sum_yes {w : World} {n : Int} (h : goodWorld w = true) (hn : n = sumW 0 (allL w).flatten) : [D.t (T.v (.int .i64 n)), D.t (T.v (.bool true))] = [D.t (T.int (sumR w)), D.t (T.bool (goodWorld w))] := by
 rw [sumR, h, hn]; rfl
theorem flatA (w : World) : [w.held.flatten, w.trace].flatten = (allL w).flatten := by simp [allL]
theorem concatA (w : World) (h : w.held.flatten.length + w.trace.length ≤ 1048576) : Fun Try.prog 47 [.t (intss [w.held.flatten, w.trace])] (tupD [.own (T.ints (allL w).flatten)]) := by
 rw [← flatA]
 exact concat_fun _ (by simp) (by rw [List.flatten_cons, List.flatten_cons, List.flatten_nil, List.append_nil, List.length_append]; exact h)
theorem implSum_fun (w : World) (hw : w.ok 1048576) (hw' : w.ok 9223372036854775807) : Fun Try.prog 15 [.t w.tt] (tupD [.t (.int (sumR w)), .t (.bool (goodWorld w))]) := by
 refine Fun.begin tys Try.func15 Z Z (N := 27) [(0, .t w.tt)] Z Z (fun w0 G F0 => ?_)
 refine sQ (rG (WO_box Z Z (lt_of Z) Z Z (nZ Z (eK 2 Z (oN (tN (sQ (sQ (rG (eZ Z ?_))))))))))
 try refine WO_le (Le.freeze (u := 7) rfl) ?_
 refine nZ Z (callB ?_)
 refine ⟨_, isWorld_fun w hw hw', rfl, ?_⟩
 refine eZ Z (oN (tN ?_))
 refine W_cond Z (fun h1 => ?_) (fun h1 => ?_)
 ·
  simp only [HS] at h1
  refine sQ (rG (eK 2 Z (oN (tN (rT (tR (eR ?_)))))))
  ·first
   | exact sum_no h1
 simp only [HS] at h1
 refine W_skip (tN (sQ (rG (eZ Z (oN (tN (sQ (sQ ?_))))))))
 have hgl := held_good h1
 have hf1 : w.held.flatten.length ≤ 9 := by have := flat_le hgl.1; omega
 have hfl : (allL w).flatten.length ≤ 129 := by rw [← flatA, List.flatten_cons, List.flatten_cons, List.flatten_nil, List.append_nil, List.length_append]; omega
 refine kY [1,2,3,4] Z (W_regionDZm 5 8 mixed Z Z Z Z Z Z Z (lt_of Z) (by kernel_rfl) (by kernel_rfl) (by kernel_rfl) (by kernel_rfl) (by kernel_rfl) (evQ ?_))
 refine evQ ?_
 refine callBQ ?_
 refine ⟨_, concat_fun w.held (by omega) (by omega), rfl, ?_⟩
 refine evQ ?_
 refine evQ ?_
 refine QL_nil (nZ Z (WO_le (Le.freeze (u := 12) Z) (nZ Z ?_)))
 refine WO_buildF tys [T.ints w.held.flatten, T.ints w.trace] Z Z (lt_of Z) Z Z Z Z Z (by decide) (by repeat (first | exact PartsF.nil' | refine PartsF.cons' rfl Z ?_)) Z ?_
 refine nZ Z (callB ?_)
 refine ⟨_, concatA w (by omega), rfl, ?_⟩
 refine WO_le (Le.adoptE (u := 16) 16 Z (by first | exact lenN | exact Z)) ?_
 refine nZ Z (evE ?_)
 refine oN (nQ_n (tN (W_block ?_)))
 refine lK (α := Int × Int) [1, 2, 3, 16, 17] [16] (fun x => [(18, .t (.int (x.1))), (4, .t (.int (x.2)))]) (fun x => []) (fun x => 0 ≤ (x.1) ∧ (x.1) ≤ (allL w).flatten.length ∧ (x.2) = sumW 0 ((allL w).flatten.take (x.1).toNat)) (fun x => Int.toNat ((allL w).flatten.length - (x.1))) (0, 0) ?_ (fun x hx => ?_)
 ·exact ⟨by omega, by omega, rfl⟩
 obtain ⟨k, n⟩ := x
 obtain ⟨hk0, hk1, hn⟩ := hx
 dsimp only at hk0 hk1 hn ⊢
 refine nY Z (sQ (rG (eZ Z (oN (tN (sQ ?_))))))
 refine W_cond Z (fun h2 => ?_) (fun h2 => ?_)
 ·
  simp only [HS] at h2
  refine W_skip (tN (sQ (W_block (sQ (rG (WO_idxS tys Z Z (lt_of Z) Z Z Z Z Z Z Z Z (by omega) (by omega) (WO_loadL tys Z Z (lt_of Z) Z Z Z Z (getT0 _ _ (by omega) (by omega)) Z (eZ Z (oN (tN (rG (eK 4 Z (oN (bN (tN ?_)))))))))))))))
  refine kY [1,2,3,4,6,16,17,18,19,20,21,22,23,24] Z (rG (evI ?_))
  refine eZ Z (oN ?_)
  refine lQ (_, _) ?_ ?_
  ·dsimp only
   refine ⟨by omega, by omega, ?_⟩
   rw [sumW_at hk0 (by omega), ← hn]
   rfl
  ·(show Int.toNat _ < Int.toNat _); omega
 simp only [HS] at h2
 refine W_exit (tE (loopQ_e (inBlk_y (tN (sQ (rG (eK 3 Z (oN (tN (rT (eR ?_)))))))))))
 ·first
  | exact sum_yes h1 (by rw [hn, take_end (by omega)])
open Go.Eng
theorem readIz (l : List Int) : ∀ x, x ∈ l.map T.int → (T.cells x).length = 1 ∧ ∀ y, y ∈ T.cells x → ∃ v, y = .v v := by
 intro x hx
 obtain ⟨n, _, rfl⟩ := List.mem_map.1 hx
 exact ⟨rfl, fun y hy => by simp [T.cells] at hy; exact ⟨_, hy⟩⟩
theorem readBz (l : List Bool) : ∀ x, x ∈ l.map T.bool → (T.cells x).length = 1 ∧ ∀ y, y ∈ T.cells x → ∃ v, y = .v v := by
 intro x hx
 obtain ⟨n, _, rfl⟩ := List.mem_map.1 hx
 exact ⟨rfl, fun y hy => by simp [T.cells] at hy; exact ⟨_, hy⟩⟩
theorem cloneI_fun (l : List Int) (hl : l.length ≤ 1073741824) : Fun Try.prog 74 [.t (T.ints l)] (tupD [.own (T.ints l)]) := by
 refine Fun.begin tys Try.func74 Z Z (N := 8) [(0, .t (T.ints l))] Z Z (fun w0 G F0 => ?_)
 refine sQ (rG (eZ Z (oN (tN (sQ (sQ (rG (eZ Z ?_))))))))
 refine WO_nilEq (e := 3) Z Z (lt_of Z) Z (by kernel_rfl) Z Z (fun b hb => ?_)
 refine oN (tN ?_)
 refine W_cond Z (fun h1 => ?_) (fun h1 => ?_)
 ·
  refine sQ (rG (eZ Z (oN (tN (W_le (Le.nilOwn (u := 2) 1 Z) (rT (tR (eR ?_))))))))
  ·have e := List.map_eq_nil_iff.1 (hb h1)
   rw [e]
   rfl
 refine W_skip (tN (sQ (rG ?_)))
 refine WO_buildSlice tys [] Z Z (lt_of Z) Z Z Z Z Z (by decide) (by repeat (first | exact PartsOk.nil' | refine PartsOk.cons' rfl (by repeat (first | exact AbsL.nil' | refine AbsL.v' ?_ | refine AbsL.own' ?_ | refine AbsL.none' ?_)) Z ?_)) (by first | exact List.nodup_nil | exact nodup1 _ | decide | exact nodupB_sound Z) Z (by decide) ?_
 refine nZ Z (eZ Z (WO_append tys Z Z (lt_of Z) Z Z Z Z Z (.own Z (by first | omega | (simp only [List.length_append]; omega))) Z (.read (readIz _)) (by decide) (by simp; omega) (by decide) Z ?_))
 refine nZ Z (eZ Z (oN (tN (W_le (Le.gather (u := 2) (id := 5) Z Z (by simp)) ?_))))
 refine rT (eR ?_)
 ·show [D.own (.list 1 _)] = [D.own (.list 1 _)]
  simp only [List.take_length, List.nil_append, List.length_map]
  rw [List.take_of_length_le (by simp)]
def toldA (C : List (Act × List Value)) : List T := C.map fun c => .agg (c.2.map T.v)
theorem toldA_flat (C : List (Act × List Value)) : (toldA C).flatMap T.cells = (C.flatMap (·.2)).map T.v := by
 unfold toldA; rw [List.flatMap_map, List.map_flatMap]; rfl
theorem toldA_len (C : List (Act × List Value)) : (toldA C).length = C.length := List.length_map ..
theorem toldA_read {C : List (Act × List Value)} (h : ∀ c, c ∈ C → c.2.length = 4) : ∀ x, x ∈ toldA C → (T.cells x).length = 4 ∧ ∀ y, y ∈ T.cells x → ∃ v, y = .v v := by
 intro x hx
 obtain ⟨c, hc, rfl⟩ := List.mem_map.1 hx
 refine ⟨by show (c.2.map T.v).length = 4; rw [List.length_map, h c hc], fun y hy => ?_⟩
 obtain ⟨v, _, rfl⟩ := List.mem_map.1 hy
 exact ⟨v, rfl⟩
theorem mapAt' {α β : Type} {f : α → β} {l : List α} {k : Nat} {x : α} (h : l[k]? = some x) : (l.map f)[k]? = some (f x) := by rw [List.getElem?_map, h]; rfl
theorem cellsA (l : List Act) : ∀ x, x ∈ l.map Act.toT → (T.cells x).length = 4 := by
 intro x hx; obtain ⟨a, _, rfl⟩ := List.mem_map.1 hx; rw [Act.toT_eq]; rfl
theorem cloneAv_fun (ys : List T) (hl : ys.length ≤ 1073741824) (hr : ∀ x, x ∈ ys → (T.cells x).length = 4 ∧ ∀ y, y ∈ T.cells x → ∃ v, y = .v v) : Fun Try.prog 75 [.t (.list 4 ys)] (tupD [.own (.list 4 ys)]) := by
 refine Fun.begin tys Try.func75 Z Z (N := 8) [(0, .t (.list 4 ys))] Z Z (fun w0 G F0 => ?_)
 refine sQ (rG (eZ Z (oN (tN (sQ (sQ (rG (eZ Z ?_))))))))
 refine WO_nilEq (e := 86) Z Z (lt_of Z) Z (by kernel_rfl) Z Z (fun b hb => ?_)
 refine oN (tN ?_)
 refine W_cond Z (fun h1 => ?_) (fun h1 => ?_)
 ·
  refine sQ (rG (eZ Z (oN (tN (W_le (Le.nilOwn (u := 2) 4 Z) (rT (tR (eR ?_))))))))
  ·rw [hb h1]
   done
 refine W_skip (tN (sQ (rG ?_)))
 refine WO_buildSlice tys [] Z Z (lt_of Z) Z Z Z Z Z (by decide) (by repeat (first | exact PartsOk.nil' | refine PartsOk.cons' rfl (by repeat (first | exact AbsL.nil' | refine AbsL.v' ?_ | refine AbsL.own' ?_ | refine AbsL.none' ?_)) Z ?_)) (by first | exact List.nodup_nil | exact nodup1 _ | decide | exact nodupB_sound Z) Z (by decide) ?_
 refine nZ Z (eZ Z (WO_append tys Z Z (lt_of Z) Z Z Z Z Z (.own Z (by first | omega | (simp only [List.length_append]; omega))) Z (.read hr) (by decide) (by simp; omega) (by decide) Z ?_))
 refine nZ Z (eZ Z (oN (tN (W_le (Le.gather (u := 2) (id := 5) Z Z (by simp)) ?_))))
 refine rT (eR ?_)
 ·show [D.own (.list 4 _)] = [D.own (.list 4 _)]
  simp
  done
theorem snd_at {n : Nat} : ∀ {C : List (Act × List Value)} (h : ∀ c, c ∈ C → c.2.length = n) {k j : Nat} (hk : k < C.length), j < n → (C.flatMap (·.2))[k * n + j]? = (C[k]).2[j]?
 | [], _, k, _, hk, _ => by simp at hk
 | c :: C, h, 0, j, hk, hj => by
  have := h c (by simp)
  rw [List.flatMap_cons, Nat.zero_mul, Nat.zero_add, List.getElem?_append_left (by omega)]
  rfl
 | c :: C, h, k + 1, j, hk, hj => by
  have hc := h c (by simp)
  rw [List.flatMap_cons, List.getElem?_append_right (by rw [hc, Nat.succ_mul]; omega)]
  have := snd_at (C := C) (fun d hd => h d (by simp [hd])) (k := k) (j := j) (by simpa using hk) hj
  rw [hc, show (k + 1) * n + j - n = k * n + j from by rw [Nat.succ_mul]; omega, this]
  rfl
theorem mixA_at {α : Type} {f : α → T} {l : List α} {ys : List T} {k : Nat} (hk : k ≤ l.length) : ((l.take k).map f ++ ys.drop k)[0 + k]? = ys[k]? := by
 rw [List.getElem?_append_right (by simp; omega)]
 simp [Nat.min_eq_left hk]
theorem mixA_set {α : Type} {f : α → T} {l : List α} {ys : List T} {k : Nat} (hk : k < l.length) (hy : k < ys.length) {t : T} (ht : t = f l[k]) : ((l.take k).map f ++ ys.drop k).set (0 + k) t = (l.take (k + 1)).map f ++ ys.drop (k + 1) := by
 subst ht
 rw [List.set_append_right _ _ (by simp; omega), List.take_succ_eq_append_getElem hk, List.map_append]
 simp [Nat.min_eq_left (Nat.le_of_lt hk)]
 rw [List.drop_eq_getElem_cons hy]
 rfl
theorem cloneActs_rec (l : List Act) (hl : l.length ≤ 1048576) (ih : ∀ a, a ∈ l → Fun Try.prog 76 [.t (T.Acts a.cases)] (tupD [.own (T.Acts a.cases)])) : Fun Try.prog 76 [.t (T.Acts l)] (tupD [.own (T.Acts l)]) := by
  refine Fun.begin tys Try.func76 Z Z (N := 24) [(0, .t (T.Acts l))] Z Z (fun w0 G F0 => ?_)
  refine sQ ?_
  refine W_tellL (u := 0) 101 Z (fun vs hvs => ?_)
  obtain ⟨C, hC1, hC2, rfl⟩ := cutV (l := l) (vs := vs) (n := 4) (by rw [hvs, List.length_map])
  have hCl : C.length = l.length := by rw [← hC1, List.length_map]
  refine ⟨toldA C, toldA_flat C, by rw [toldA_len, List.length_map, hCl], fun y hy => (toldA_read hC2 y hy).1, ?_⟩
  refine nY Z (rG (eZ Z (oN (tN (sQ (rG (eZ Z (callB ?_))))))))
  refine ⟨_, cloneAv_fun _ (by rw [toldA_len]; omega) (toldA_read hC2), rfl, ?_⟩
  refine WO_le (Le.adoptE (u := 7) 7 Z (by first | exact lenN | exact Z)) ?_
  refine nZ Z (eZ Z (oN (tN (sQ (sQ (rG (eZ Z (evE ?_))))))))
  refine eZ Z (oN (tN (W_block ?_)))
  refine lK (α := Int × List T) [3, 8, 9] [101] (fun x => [(10, .t (.int (x.1)))]) (fun x => [(7, .L 4 (x.2))]) (fun x => 0 ≤ (x.1) ∧ (x.1) ≤ l.length ∧ (x.2) = (l.take (x.1).toNat).map Act.toT ++ (toldA C).drop (x.1).toNat) (fun x => Int.toNat (l.length - (x.1))) (0, toldA C) ?_ (fun x hx => ?_)
  · exact ⟨by omega, by omega, rfl⟩
  obtain ⟨k, zs⟩ := x
  obtain ⟨hk0, hk1, hzs⟩ := hx
  dsimp only at hk0 hk1 hzs ⊢
  refine nY Z (sQ (rG (eZ Z (oN (tN (sQ ?_))))))
  refine W_cond Z (fun h1 => ?_) (fun h1 => ?_)
  ·
    simp only [HS] at h1
    refine W_skip (tN (sQ (W_block (sQ (rG (eZ Z ?_))))))
    have hkl : k.toNat < C.length := by omega
    have hlk : k.toNat < l.length := by omega
    obtain ⟨v0, v1, v2, v3, hv⟩ : ∃ v0 v1 v2 v3, (C[k.toNat]'hkl).2 = [v0, v1, v2, v3] := by
     have h4 := hC2 _ (List.getElem_mem hkl)
     match (C[k.toNat]'hkl).2, h4 with
     | [v0, v1, v2, v3], _ => exact ⟨_, _, _, _, rfl⟩
    have hy : zs[0 + k.toNat]? = some (.agg [.v v0, .v v1, .v v2, .v v3]) := by rw [hzs, mixA_at (by omega), toldA, List.getElem?_map, List.getElem?_eq_getElem hkl]; simp [hv]
    have hcv : ∀ j (hj : j < 4), (C.flatMap (·.2))[k.toNat * 4 + j]? = [v0, v1, v2, v3][j]? := fun j hj => by rw [snd_at hC2 hkl hj, hv]
    have hct : ∀ j (hj : j < 4), ((l.map Act.toT).flatMap T.cells)[k.toNat * 4 + j]? = (T.cells (l[k.toNat]).tt)[j]? := fun j hj => by rw [flat_atc (cellsA l) (mapAt' (List.getElem?_eq_getElem hlk)) hj, Act.toT_eq]
    refine WO_roTold 101 (k.toNat * 4 + 0) Z (x := .int .i64 (l[k.toNat]).kind) (by rw [hct 0 (by decide)]; rfl) (hcv 0 (by decide)) (fun e0 => ?_)
    refine WO_roTold 101 (k.toNat * 4 + 1) Z (x := .int .i64 (l[k.toNat]).chan) (by rw [hct 1 (by decide)]; rfl) (hcv 1 (by decide)) (fun e1 => ?_)
    refine WO_roTold 101 (k.toNat * 4 + 2) Z (x := .int .i64 (l[k.toNat]).n) (by rw [hct 2 (by decide)]; rfl) (hcv 2 (by decide)) (fun e2 => ?_)
    subst e0 e1 e2
    refine WO_idxS tys Z Z (lt_of Z) Z Z Z Z Z Z Z Z (by omega) (by omega) (WO_loadL tys Z Z (lt_of Z) Z Z Z Z (hy) Z (nZ Z (WO_alloc tys Z Z (lt_of Z) Z Z Z (nZ Z (eZ Z (sT Z (nZ Z (oN (tN (kY [3,4,5,8,9,10,11,12,13,14] Z (rG (eK 4 Z (nZ Z (WO_le (Le.roUntell (u := 18) 101 (k.toNat * 4 + 3) Z Z (hcv 3 (by decide)) (by rw [hct 3 (by decide)]; rfl)) ?_))))))))))))))
    refine nZ Z (callB ?_)
    refine ⟨_, ih _ (List.getElem_mem (show k.toNat < l.length by omega)), rfl, ?_⟩
    refine nZ Z (WO_idxS tys Z Z (lt_of Z) Z Z Z Z Z Z Z Z (by omega) (by omega) (eZ Z (WO_storeL tys [T.Acts (l[k.toNat]).cases] Z Z Z Z Z Z hy Z (AbsL.own' AbsL.nil') Z (Nat.le_of_ble_eq_true Z) (Nat.le_of_ble_eq_true Z) (nZ Z (oN (bN (tN (kY [3,4,5,8,9,10,11,12,13,14,15,16,17,18,19,20,21] Z (rG (evI ?_))))))))))
    refine eZ Z (oN ?_)
    refine lQ (_, _) ?_ ?_
    · dsimp only
      rw [show (k + 1).toNat = k.toNat + 1 from by omega]
      refine ⟨by omega, by omega, ?_⟩
      rw [hzs]
      exact mixA_set hlk (by rw [toldA_len]; exact hkl) (Act.toT_eq _).symm
    · (show Int.toNat _ < Int.toNat _); omega
  simp only [HS] at h1
  refine W_exit (tE (loopQ_e (inBlk_y (tN (sQ (rG (eK 2 Z (oN (tN (W_le (Le.gather (u := 2) (id := 7) Z Z (by rw [hzs]; simp [toldA_len]; omega)) ?_))))))))))
  refine rT (eR ?_)
  · (rw [hzs, List.drop_eq_nil_of_le (by rw [toldA_len]; omega), List.append_nil, take_end (by omega), List.take_of_length_le (by simp; omega)])
    all_goals rfl
theorem cloneActs_of (a : Act) : a.ok 1048576 → Fun Try.prog 76 [.t (T.Acts a.cases)] (tupD [.own (T.Acts a.cases)]) :=
 Act.ind (p := fun a => a.ok 1048576 → Fun Try.prog 76 [.t (T.Acts a.cases)] (tupD [.own (T.Acts a.cases)])) (fun a ih h => cloneActs_rec a.cases h.cases'.1 fun b hb => ih b hb (h.cases'.2 b hb)) a
theorem cloneActs_fun (l : List Act) (h : okL 1048576 (Act.ok 1048576) l) : Fun Try.prog 76 [.t (T.Acts l)] (tupD [.own (T.Acts l)]) :=
 cloneActs_rec l h.1 fun a ha => cloneActs_of a (h.2 a ha)
open Go.Eng
abbrev TC := (Option Addr × Nat) × Task
def tcW (c : TC) : List Value := [.slice c.1.1 c.2.acts.length c.1.2, .int .i64 c.2.pos, .int .i64 c.2.state, .int .i64 c.2.last]
def tcT (c : TC) : List T := [T.Acts c.2.acts, T.int c.2.pos, T.int c.2.state, T.int c.2.last]
def tcsW (C : List TC) : List Value := C.flatMap tcW
def tcsT (C : List TC) : List T := C.flatMap tcT
section
variable {α : Type} {f : (Option Addr × Nat) × Task → List α} {C : List ((Option Addr × Nat) × Task)} {c c' : (Option Addr × Nat) × Task} {i j : Nat} {y : α}
theorem tcs_at (hf : ∀ c, (f c).length = 4) : ∀ {C : List TC} {i : Nat}, C[i]? = some c → j < 4 → (C.flatMap f)[i * 4 + j]? = (f c)[j]?
 | [], _, h, _ => by simp at h
 | d :: C, 0, h, hj => by
  simp at h; subst h
  rw [List.flatMap_cons, Nat.zero_mul, Nat.zero_add, List.getElem?_append_left (by rw [hf]; exact hj)]
 | d :: C, i + 1, h, hj => by
  rw [List.flatMap_cons, List.getElem?_append_right (by rw [hf]; omega), hf, show (i + 1) * 4 + j - 4 = i * 4 + j from by omega]
  exact tcs_at hf (by simpa using h) hj
theorem tcs_set (hf : ∀ c, (f c).length = 4) (hy : f c' = (f c).set j y) : ∀ {C : List TC} {i : Nat}, C[i]? = some c → j < 4 → (C.flatMap f).set (i * 4 + j) y = (C.set i c').flatMap f
 | [], _, h, _ => by simp at h
 | d :: C, 0, h, hj => by
  simp at h; subst h
  rw [List.flatMap_cons, Nat.zero_mul, Nat.zero_add, List.set_append_left _ _ (by rw [hf]; exact hj), List.set_cons_zero, List.flatMap_cons, hy]
 | d :: C, i + 1, h, hj => by
  rw [List.flatMap_cons, List.set_append_right _ _ (by rw [hf]; omega), hf, show (i + 1) * 4 + j - 4 = i * 4 + j from by omega, tcs_set hf hy (by simpa using h) hj, List.set_cons_succ, List.flatMap_cons]
theorem tcW_at (hc : C[i]? = some c) (hj : j < 4) : (tcsW C)[i * 4 + j]? = (tcW c)[j]? := tcs_at (fun _ => rfl) hc hj
theorem tcT_at (hc : C[i]? = some c) (hj : j < 4) : (tcsT C)[i * 4 + j]? = (tcT c)[j]? := tcs_at (fun _ => rfl) hc hj
theorem tcW_set {u : Value} (hc : C[i]? = some c) (hj : j < 4) (h : tcW c' = (tcW c).set j u) : (tcsW C).set (i * 4 + j) u = tcsW (C.set i c') := tcs_set (fun _ => rfl) h hc hj
theorem tcT_set {u : T} (hc : C[i]? = some c) (hj : j < 4) (h : tcT c' = (tcT c).set j u) : (tcsT C).set (i * 4 + j) u = tcsT (C.set i c') := tcs_set (fun _ => rfl) h hc hj
theorem tc_mid (hc : C[i]? = some c) : (C.set i c')[i]? = some c' := by
 rw [List.getElem?_set_self (List.getElem?_eq_some_iff.1 hc).1]
theorem tcs_to {b sz : Nat} {k : Nat} {u : Value} (hc : C[i]? = some c) (hj : k < 4) (h1 : tcW c' = (tcW c).set k u) (h2 : tcT c' = (tcT c).set k (T.v u)) :
  Blk.raw b sz ((tcsW C).set (i * 4 + k) u) ((tcsT C).set (i * 4 + k) (T.v u)) = .raw b sz (tcsW (C.set i c')) (tcsT (C.set i c')) := by
 rw [tcW_set hc hj h1, tcT_set hc hj h2]
end
theorem advI_fun (b sz i : Nat) (C : List TC) (h : Option Addr × Nat) (t : Task) (hc : C[i]? = some (h, t)) (hp : 0 ≤ t.pos ∧ t.pos ≤ 1048576) (hl : t.acts.length ≤ 1048576) : Proc Try.prog 80 [.t (.v (.pointer (some ⟨b, i * 4, none⟩)))] ([]) ([]) [.raw b sz (tcsW C) (tcsT C)] (.tup []) [.raw b sz (tcsW (C.set i (h, advT t))) (tcsT (C.set i (h, advT t)))] := by
 refine Proc.intro tys Try.func80 Z Z (N := 22) [100] 99 ([(0, .t (.v (.pointer (some ⟨b, i * 4, none⟩))))]) ([(100, .raw b sz (tcsW C) (tcsT C)), (99, .ro [] [])]) Z Z Z Z (by decide) (by decide) Z (fun w0 G F0 => ?_)
 refine nY Z (sQ (rG (eZ Z (WO_nil' rfl Z (lt_of Z) Z Z Z (WO_fieldV tys Z Z (lt_of Z) Z Z Z Z Z (WO_loadU (id := 100) (u := .int .i64 t.pos) tys Z Z (lt_of Z) Z Z Z Z Z (tcT_at hc (by decide)) (tcW_at hc (by decide)) (evI ?_)))))))
 refine WO_nil' rfl Z (lt_of Z) Z Z Z (WO_fieldV tys Z Z (lt_of Z) Z Z Z Z Z (WO_storeV (id := 100) (u0 := .int .i64 t.pos) (u := .int .i64 (t.pos + 1)) tys Z Z Z Z Z Z Z (tcT_at hc (by decide)) Z Z Z (nZ Z (WO_le (Le.eqK (id := 100) Z (tcs_to (c' := (h, { t with pos := t.pos + 1 })) hc (by decide) Z Z)) ?_))))
 have hc1 : (C.set i (h, { t with pos := t.pos + 1 }))[i]? = some (h, { t with pos := t.pos + 1 }) := tc_mid hc
 refine nZ Z (oN (tN (sQ (kY [0] Z (W_regionD mixed (by kernel_rfl) (evQ ?_))))))
 refine QL_nil' rfl Z (lt_of Z) Z Z Z (QL_fieldV tys Z Z (lt_of Z) Z Z Z Z Z (QL_loadU (id := 100) (u := .int .i64 (t.pos + 1)) tys Z Z (lt_of Z) Z Z Z Z Z (tcT_at hc1 (by decide)) (tcW_at hc1 (by decide)) (evQ ?_)))
 refine QL_nil' rfl Z (lt_of Z) Z Z Z (QL_norm Z (QL_fieldV tys Z Z (lt_of Z) Z Z Z Z Z (QL_loadU (id := 100) (u := .slice h.1 t.acts.length h.2) tys Z Z (lt_of Z) Z Z Z Z Z (tcT_at hc1 (by decide)) (tcW_at hc1 (by decide)) (QL_lenV Z Z (lt_of Z) Z ⟨86, by kernel_rfl⟩ rfl (evQ ?_)))))
 refine QL_nil (tN ?_)
 refine W_cond Z (fun h1 => ?_) (fun h1 => ?_)
 ·
  simp only [HS] at h1
  refine rG (eZ Z (WO_nil' rfl Z (lt_of Z) Z Z Z (WO_fieldV tys Z Z (lt_of Z) Z Z Z Z Z (WO_storeV (id := 100) (u0 := .int .i64 t.state) (u := .int .i64 1) tys Z Z Z Z Z Z Z (tcT_at hc1 (by decide)) Z Z Z (nZ Z (WO_le (Le.eqK (id := 100) Z (tcs_to (c' := (h, { t with pos := t.pos + 1, state := 1 })) hc1 (by decide) Z Z)) (nZ Z (oN ?_))))))))
  refine EndsP_of (ks := [_]) (.inl Z) (ret_okF Z) (by decide) Z (noR_spec Z) (by repeat (first | exact trivial | refine ⟨rfl, rfl, ?_⟩)) ?_ ?_
  ·rfl
  ·rw [List.set_set, advT, if_pos h1]
   done
 simp only [HS] at h1
 refine W_skip ?_
 refine EndsP_of (ks := [_]) (.inl Z) (ret_okF Z) (by decide) Z (noR_spec Z) (by repeat (first | exact trivial | refine ⟨rfl, rfl, ?_⟩)) ?_ ?_
 ·rfl
 ·rw [advT, if_neg h1]
  done
end Go.Proofs.Ytpgodgmgfhbngaa
