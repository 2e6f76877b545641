/- Walks and laws of the claim. -/
import Derived.Test.YtkllmdolplcklaaFa
import Derived.Test.YtkllmdolplcklaaMb
import Derived.Test.YtkllmdolplcklaaMc
import Derived.Test.YtkllmdolplcklaaMd
import Derived.Test.YtkllmdolplcklaaMe
set_option linter.unusedVariables false
set_option linter.unusedSimpArgs false
set_option maxRecDepth 10000
set_option maxHeartbeats 2000000
namespace Go.Proofs.Ytkllmdolplcklaa
open Go.Eng
open Go.Eng
theorem CX (w : World) (hg : Good w) : Fun Try.prog 34 [.t w.tt] (tupD [.own (Af (Al w))]) := by
 have g1 := hg.room
 have g2 := hg.held
 have g3 := hg.shut
 have g4 := hg.tasks
 refine Fun.begin tys Try.func34 Z Z (N := 102) [(0, .t w.tt)] Z Z (fun w0 G F0 => ?_);refine sG (Aa Z Z (AA Z) Z Z (nZ Z (eZ Z (nA (eZ Z (WO_le (Le.nilOwn (u := 3) 1 Z) (WO_le (Le.adoptE (u := 3) 3 Z Z) (nZ Z (nB (sQ (sG (eK 2 Z (evE ?_)))))))))))));refine eZ Z (nB (AG ?_));refine lK (α := Int × Nat × List T) [1, 13, 14] [1] (fun x => [(15, .t (.int (x.1))), (3, .sl 3 0 (x.2.1))]) (fun x => [(3, .L 1 (x.2.2))]) (fun x => 0 ≤ (x.1) ∧ (x.1) ≤ w.tasks.length ∧ (x.2.1) = (x.2.2).length ∧ ∃ acc : List (List Int), (x.2.2) = acc.map T.ints ∧ (acc.length : Int) ≤ 39 * (x.1) ∧ Al w = mvT w (w.tasks.drop (x.1).toNat) (x.1) acc) (fun x => Int.toNat (w.tasks.length - (x.1))) (0, 0, []) ?_ (fun x hx => ?_)
 ·exact ⟨by omega, by omega, by simp, [], rfl, by simp, rfl⟩
 obtain ⟨i, m, xs⟩ := x
 obtain ⟨hi0, hi1, hm, acc, hx, hl, he⟩ := hx
 dsimp only at hi0 hi1 hm hx hl he ⊢;refine nY Z (sG (eZ Z (nB (sQ ?_))));refine AD Z (fun h1 => ?_) (fun h1 => ?_)
 ·
  simp only [HS] at h1;refine AE (tN (sQ (AG (sG (eZ Z ?_)))));refine iY (k := ?_);refine eZ Z ?_
  try refine WO_le (Le.freeze (u := 19) rfl) ?_
  refine nZ Z (AK tys Z Z (AA Z) Z Z Z (nZ Z (eZ Z (sT Z (nZ Z (nB (sQ (kY [1,3,4,5,13,14,15,16,17,18,19] Z (rG (eZ Z ?_))))))))))
  try refine WO_le (Le.freeze (u := 20) rfl) ?_
  refine nZ Z (BG Z Z (AA Z) Z Z Z Z Z (Dp _ (hg.pos _ (Nl _)).1 (hg.pos _ (Nl _)).2.1) Z (evE ?_));refine eZ Z (nB (AG ?_));refine lK (α := Int × Nat × List T) [1, 4, 13, 14, 15, 21, 22] [1] (fun x => [(23, .t (.int (x.1))), (3, .sl 3 0 (x.2.1))]) (fun x => [(3, .L 1 (x.2.2))]) (fun x => 0 ≤ (x.1) ∧ (x.1) ≤ (ways (w.tasks[i.toNat]'(by omega))).length ∧ (x.2.1) = (x.2.2).length ∧ ((ways (w.tasks[i.toNat]'(by omega))).length ≤ 3 ∧ ∀ b, b ∈ ways (w.tasks[i.toNat]'(by omega)) → 0 ≤ b.chan ∧ b.chan < w.room.length) ∧ ∃ acc' : List (List Int), (x.2.2) = acc'.map T.ints ∧ (acc'.length : Int) ≤ 39 * i + 13 * (x.1) ∧ mvA w i (ways (w.tasks[i.toNat]'(by omega))) 0 acc = mvA w i ((ways (w.tasks[i.toNat]'(by omega))).drop (x.1).toNat) (x.1) acc') (fun x => Int.toNat ((ways (w.tasks[i.toNat]'(by omega))).length - (x.1))) (0, m, xs) ?_ (fun x hx => ?_)
  ·exact ⟨by omega, by omega, hm, hg.ways _ (Nl _), acc, hx, by omega, rfl⟩
  obtain ⟨k, m', xs'⟩ := x
  obtain ⟨hk0, hk1, hm', hw, acc', hx', hl', he'⟩ := hx
  dsimp only at hk0 hk1 hm' hw hx' hl' he' ⊢;refine nY Z (sG (eZ Z (nB (sQ ?_))));refine AD Z (fun h2 => ?_) (fun h2 => ?_)
  ·
   simp only [HS] at h2;refine AE (tN (sQ (AG (sG (eZ Z (BU tys Z Z (AA Z) Z Z Z Z Z Z Z (by omega) _ (Az _ (by omega) (by omega)) (eZ Z ?_)))))))
   try refine WO_le (Le.freeze (u := 27) rfl) ?_
   refine nZ Z (AK tys Z Z (AA Z) Z Z Z (nZ Z ?_))
   have hc := hw.2 _ (Nl (l := ways (w.tasks[i.toNat]'(by omega))) (n := k.toNat) (by omega))
   refine eZ Z (sT Z (nZ Z (nB (sQ (sQ (kY [1,3,4,6,7,13,14,15,21,22,23,24,25,26,27] Z (rG (eZ Z ?_))))))))
   try refine WO_le (Le.freeze (u := 28) rfl) ?_
   refine nZ Z (eZ Z ?_)
   try refine WO_le (Le.freeze (u := 29) rfl) ?_
   refine nZ Z (AQ ?_);refine ⟨_, Hg _ _ (hw.2 _ (Nl _)).1 (hw.2 _ (Nl _)).2 g2 g3 g1, rfl, ?_⟩;refine nB ?_;refine BM (α := Nat × List T) [1, 4, 6, 7, 13, 14, 15, 21, 22, 23, 24, 25, 26, 27, 28, 29, 30] [1, 7] (fun x => [(3, .sl 3 0 (x.1))]) (fun x => [(3, .L 1 (x.2))]) (fun x => (x.1) = (x.2).length ∧ ∃ acc2 : List (List Int), (x.2) = acc2.map T.ints ∧ (acc2.length : Int) ≤ 39 * i + 13 * k + 1 ∧ acc2 = (if CJ w ((ways (w.tasks[i.toNat]'(by omega)))[k.toNat]'(by omega)) then acc' ++ [[i, k, -1, 0]] else acc')) ?_ (fun x hx => ?_)
   ·
    refine AD Z (fun h3 => ?_) (fun h3 => ?_)
    ·
     refine rG (eK 3 Z (bZ [T.int i, T.int k, T.int (-1), T.int 0] ?_));refine nZ Z (WO_le (Le.gather (u := 34) (id := 34) Z Z (by first | (simp; done) | (simp; omega) | omega)) ?_);refine nZ Z (bZ [T.ints [i, k, -1, 0]] ?_);refine nZ Z (Ab tys Z Z (AA Z) Z Z Z Z Z (.own Z (by first | omega | (simp only [Nu]; omega))) Z (.own Z (by first | decide | omega)) (by decide) (by have q1 := congrArg List.length hx'; have q2 := hw.1; simp only [Nj] at q1; simp only [N0, Nx, N6]; omega) (by decide) Z ?_);refine nZ Z (kZ [1,3,4,6,7,13,14,15,21,22,23,24,25,26,27,28,29,30,31,32,33,34,35,36] Z (eZ Z (oN (jQ (_, _) ?_))));dsimp only
     first
     | (refine ⟨by simp, acc' ++ [[i, k, -1, 0]], ?_, by simp only [Nu, Nx, N6]; omega, by rw [if_pos h3]⟩; rw [hm', Ni (Nm _), hx', OU]; rfl)
    refine AE (jQ (_, _) ?_);dsimp only
    first
    | exact ⟨hm', acc', hx', by omega, by rw [if_neg (by simp [h3])]⟩
   obtain ⟨m2, xs2⟩ := x
   obtain ⟨hm2, acc2, hx2, hl2, he2⟩ := hx
   dsimp only at hm2 hx2 hl2 he2 ⊢;refine tN (sQ (sQ (kY [1,3,4,6,7,13,14,15,21,22,23,24,25,26,27,28,29,30] Z (rG (eK 4 Z ?_)))));refine gB (fun h3 => ?_) (fun h3 => ?_)
   ·
    simp only [HS] at h3;refine xK 5 Z (kZ [1,3,4,6,7,13,14,15,21,22,23,24,25,26,27,28,29,30,37,38,39,40,41,42,43,44,45,46] Z (xK 9 Z (kZ [1,3,4,6,7,13,14,15,21,22,23,24,25,26,27,28,29,30,37,38,39,40,41,42,43,44,45,46,47,48,49,50,51,52,53,54,55] Z (xK 2 Z (nB (AS Z (AR (tE (AN (tN (rG (evI ?_))))))))))));refine eZ Z (oN ?_);refine lQ (_, _, _) ?_ ?_
    ·dsimp only
     have e1 := AL (d := false) (l := w.shut) hc.1 (by omega); have e2 := AL (d := []) (l := w.held) hc.1 (by omega)
     first
     | (have hS : mvS w ((ways (w.tasks[i.toNat]'(by omega)))[k.toNat]'(by omega)) = false := (by grind [mvS]); refine ⟨by omega, by omega, hm2, hw, acc2, hx2, by omega, ?_⟩; rw [he', Ee hk0 h2, ← he2, hS]; rfl)
    ·(show Int.toNat _ < Int.toNat _); omega
   simp only [HS] at h3;refine xK 4 Z (gY Z ?_);refine iY (k := ?_);refine kZ [1,3,4,6,7,13,14,15,21,22,23,24,25,26,27,28,29,30,37,38,39,40,41,42,43,44,45] Z (xK 3 Z ?_);refine gB (fun h4 => ?_) (fun h4 => ?_)
   ·
    simp only [HS] at h4;refine xK 6 Z (kZ [1,3,4,6,7,13,14,15,21,22,23,24,25,26,27,28,29,30,37,38,39,40,41,42,43,44,45,46,47,48,49,50,51,52,53,54,55] Z (xK 2 Z (nB (AS Z (AR (tE (AN (tN (rG (evI ?_))))))))));refine eZ Z (oN ?_);refine lQ (_, _, _) ?_ ?_
    ·dsimp only
     have e1 := AL (d := false) (l := w.shut) hc.1 (by omega); have e2 := AL (d := []) (l := w.held) hc.1 (by omega)
     first
     | (have hS : mvS w ((ways (w.tasks[i.toNat]'(by omega)))[k.toNat]'(by omega)) = false := (by grind [mvS]); refine ⟨by omega, by omega, hm2, hw, acc2, hx2, by omega, ?_⟩; rw [he', Ee hk0 h2, ← he2, hS]; rfl)
    ·(show Int.toNat _ < Int.toNat _); omega
   refine xK 4 Z (gY Z ?_);refine iY (k := ?_);refine xZ Z (kZ [1,3,4,6,7,13,14,15,21,22,23,24,25,26,27,28,29,30,37,38,39,40,41,42,43,44,45,46,47,48,49,50,51,52,53,54] Z (gY Z (evE ?_)));refine xK 2 Z (nB ?_);refine AD Z (fun h5 => ?_) (fun h5 => ?_)
   ·
    simp only [HS] at h5;refine AR (tE (AN (tN (rG (evI ?_)))));refine eZ Z (oN ?_);refine lQ (_, _, _) ?_ ?_
    ·dsimp only
     have e1 := AL (d := false) (l := w.shut) hc.1 (by omega); have e2 := AL (d := []) (l := w.held) hc.1 (by omega)
     first
     | (have hS : mvS w ((ways (w.tasks[i.toNat]'(by omega)))[k.toNat]'(by omega)) = false := (by grind [mvS]); refine ⟨by omega, by omega, hm2, hw, acc2, hx2, by omega, ?_⟩; rw [he', Ee hk0 h2, ← he2, hS]; rfl)
    ·(show Int.toNat _ < Int.toNat _); omega
   simp only [HS] at h5;refine AE (tN (sG (eK 2 Z (evE ?_))));refine eZ Z (nB (AG ?_));refine lK (α := Int × Nat × List T) [1, 4, 6, 7, 13, 14, 15, 21, 22, 23, 59, 60] [1, 7] (fun x => [(61, .t (.int (x.1))), (3, .sl 3 0 (x.2.1))]) (fun x => [(3, .L 1 (x.2.2))]) (fun x => 0 ≤ (x.1) ∧ (x.1) ≤ w.tasks.length ∧ (x.2.1) = (x.2.2).length ∧ ∃ acc3 : List (List Int), (x.2.2) = acc3.map T.ints ∧ (acc3.length : Int) ≤ 39 * i + 13 * k + 1 + 3 * (x.1) ∧ mvU i k ((ways (w.tasks[i.toNat]'(by omega)))[k.toNat]'(by omega)) w.tasks 0 acc2 = mvU i k ((ways (w.tasks[i.toNat]'(by omega)))[k.toNat]'(by omega)) (w.tasks.drop (x.1).toNat) (x.1) acc3) (fun x => Int.toNat (w.tasks.length - (x.1))) (0, m2, xs2) ?_ (fun x hx => ?_)
   ·exact ⟨by omega, by omega, hm2, acc2, hx2, by omega, rfl⟩
   obtain ⟨j, m3, xs3⟩ := x
   obtain ⟨hj0, hj1, hm3, acc3, hx3, hl3, he3⟩ := hx
   dsimp only at hj0 hj1 hm3 hx3 hl3 he3 ⊢;refine nY Z (sG (eZ Z (nB (sQ ?_))));refine AD Z (fun h6 => ?_) (fun h6 => ?_)
   ·
    simp only [HS] at h6;refine AE (tN (sQ (AG (sG (eZ Z ?_)))));refine iY (k := ?_);refine eZ Z ?_
    try refine WO_le (Le.freeze (u := 65) rfl) ?_
    refine nZ Z (AK tys Z Z (AA Z) Z Z Z (nZ Z (eZ Z (sT Z (nZ Z (nB (sQ (kY [1,3,4,6,7,8,9,13,14,15,21,22,23,59,60,61,62,63,64,65] Z (rG (eZ Z ?_))))))))))
    try refine WO_le (Le.freeze (u := 66) rfl) ?_
    refine nZ Z (BG Z Z (AA Z) Z Z Z Z Z (Dp _ (hg.pos _ (Nl _)).1 (hg.pos _ (Nl _)).2.1) Z (evE ?_));refine eZ Z (nB (AG ?_));refine lK (α := Int × Nat × List T) [1, 4, 6, 7, 8, 13, 14, 15, 21, 22, 23, 59, 60, 61, 67, 68] [1, 7] (fun x => [(69, .t (.int (x.1))), (3, .sl 3 0 (x.2.1))]) (fun x => [(3, .L 1 (x.2.2))]) (fun x => 0 ≤ (x.1) ∧ (x.1) ≤ (ways (w.tasks[j.toNat]'(by omega))).length ∧ (x.2.1) = (x.2.2).length ∧ (ways (w.tasks[j.toNat]'(by omega))).length ≤ 3 ∧ ∃ acc4 : List (List Int), (x.2.2) = acc4.map T.ints ∧ (acc4.length : Int) ≤ 39 * i + 13 * k + 1 + 3 * j + (x.1) ∧ mvB i k ((ways (w.tasks[i.toNat]'(by omega)))[k.toNat]'(by omega)) j (ways (w.tasks[j.toNat]'(by omega))) 0 acc3 = mvB i k ((ways (w.tasks[i.toNat]'(by omega)))[k.toNat]'(by omega)) j ((ways (w.tasks[j.toNat]'(by omega))).drop (x.1).toNat) (x.1) acc4) (fun x => Int.toNat ((ways (w.tasks[j.toNat]'(by omega))).length - (x.1))) (0, m3, xs3) ?_ (fun x hx => ?_)
    ·exact ⟨by omega, by omega, hm3, (hg.ways _ (Nl _)).1, acc3, hx3, by omega, rfl⟩
    obtain ⟨q, m4, xs4⟩ := x
    obtain ⟨hq0, hq1, hm4, hw4, acc4, hx4, hl4, he4⟩ := hx
    dsimp only at hq0 hq1 hm4 hw4 hx4 hl4 he4 ⊢;refine nY Z (sG (eZ Z (nB (sQ ?_))));refine AD Z (fun h7 => ?_) (fun h7 => ?_)
    ·
     simp only [HS] at h7;refine AE (tN (sQ (AG (sG (eZ Z (BU tys Z Z (AA Z) Z Z Z Z Z Z Z (by omega) _ (Az _ (by omega) (by omega)) (eZ Z ?_)))))))
     try refine WO_le (Le.freeze (u := 73) rfl) ?_
     refine nZ Z (AK tys Z Z (AA Z) Z Z Z (nZ Z (eZ Z (sT Z (nZ Z (nB (sQ (kY [1,3,4,6,7,8,10,11,13,14,15,21,22,23,59,60,61,67,68,69,70,71,72,73] Z (rG (eK 4 Z ?_))))))))));refine gB (fun h8 => ?_) (fun h8 => ?_)
     ·
      simp only [HS] at h8;refine xK 5 Z (kZ [1,3,4,6,7,8,10,11,13,14,15,21,22,23,59,60,61,67,68,69,70,71,72,73,74,75,76,77,78,79,80,81,82,83] Z (xK 5 Z (nB ?_)));refine BM (α := Nat × List T) [1, 4, 6, 7, 8, 10, 11, 13, 14, 15, 21, 22, 23, 59, 60, 61, 67, 68, 69, 70, 71, 72, 73, 74, 75, 76, 77, 78, 79, 80, 81, 82, 83, 84, 85, 86, 87, 88] [1, 7] (fun x => [(3, .sl 3 0 (x.1))]) (fun x => [(3, .L 1 (x.2))]) (fun x => (x.1) = (x.2).length ∧ ∃ acc5 : List (List Int), (x.2) = acc5.map T.ints ∧ (acc5.length : Int) ≤ 39 * i + 13 * k + 1 + 3 * j + q + 1 ∧ acc5 = (if ¬ i = j ∧ ((ways (w.tasks[j.toNat]'(by omega)))[q.toNat]'(by omega)).kind = 2 ∧ ((ways (w.tasks[j.toNat]'(by omega)))[q.toNat]'(by omega)).chan = ((ways (w.tasks[i.toNat]'(by omega)))[k.toNat]'(by omega)).chan then acc4 ++ [[i, k, j, q]] else acc4)) ?_ (fun x hx => ?_)
      ·
       refine A0 Z (AE (jQ (_, _) ?_));dsimp only
       first
       | exact ⟨hm4, acc4, hx4, by omega, by rw [if_neg (by grind)]⟩
      obtain ⟨m5, xs5⟩ := x
      obtain ⟨hm5, acc5, hx5, hl5, he5⟩ := hx
      dsimp only at hm5 hx5 hl5 he5 ⊢;refine bN (tN (kY [1,3,4,6,7,8,10,11,13,14,15,21,22,23,59,60,61,67,68,69,70,71,72,73,74,75,76,77,78,79,80,81,82,83,84,85,86,87,88] Z (rG (evI ?_))));refine eZ Z (oN ?_);refine lQ (_, _, _) ?_ ?_
      ·dsimp only
       exact ⟨by omega, by omega, hm5, hw4, acc5, hx5, by omega, by rw [he4, Fz hq0 h7, ← he5]⟩
      ·(show Int.toNat _ < Int.toNat _); omega
     simp only [HS] at h8;refine xK 5 Z (kZ [1,3,4,6,7,8,10,11,13,14,15,21,22,23,59,60,61,67,68,69,70,71,72,73,74,75,76,77,78,79,80,81,82] Z ?_);refine gB (fun h9 => ?_) (fun h9 => ?_)
     ·
      simp only [HS] at h9;refine xK 5 Z (nB ?_);refine BM (α := Nat × List T) [1, 4, 6, 7, 8, 10, 11, 13, 14, 15, 21, 22, 23, 59, 60, 61, 67, 68, 69, 70, 71, 72, 73, 74, 75, 76, 77, 78, 79, 80, 81, 82, 83, 84, 85, 86, 87, 88] [1, 7] (fun x => [(3, .sl 3 0 (x.1))]) (fun x => [(3, .L 1 (x.2))]) (fun x => (x.1) = (x.2).length ∧ ∃ acc5 : List (List Int), (x.2) = acc5.map T.ints ∧ (acc5.length : Int) ≤ 39 * i + 13 * k + 1 + 3 * j + q + 1 ∧ acc5 = (if ¬ i = j ∧ ((ways (w.tasks[j.toNat]'(by omega)))[q.toNat]'(by omega)).kind = 2 ∧ ((ways (w.tasks[j.toNat]'(by omega)))[q.toNat]'(by omega)).chan = ((ways (w.tasks[i.toNat]'(by omega)))[k.toNat]'(by omega)).chan then acc4 ++ [[i, k, j, q]] else acc4)) ?_ (fun x hx => ?_)
      ·
       refine A0 Z (AE (jQ (_, _) ?_));dsimp only
       first
       | exact ⟨hm4, acc4, hx4, by omega, by rw [if_neg (by grind)]⟩
      obtain ⟨m5, xs5⟩ := x
      obtain ⟨hm5, acc5, hx5, hl5, he5⟩ := hx
      dsimp only at hm5 hx5 hl5 he5 ⊢;refine bN (tN (kY [1,3,4,6,7,8,10,11,13,14,15,21,22,23,59,60,61,67,68,69,70,71,72,73,74,75,76,77,78,79,80,81,82,83,84,85,86,87,88] Z (rG (evI ?_))));refine eZ Z (oN ?_);refine lQ (_, _, _) ?_ ?_
      ·dsimp only
       exact ⟨by omega, by omega, hm5, hw4, acc5, hx5, by omega, by rw [he4, Fz hq0 h7, ← he5]⟩
      ·(show Int.toNat _ < Int.toNat _); omega
     simp only [HS] at h9;refine xK 6 Z (nB ?_);refine BM (α := Nat × List T) [1, 4, 6, 7, 8, 10, 11, 13, 14, 15, 21, 22, 23, 59, 60, 61, 67, 68, 69, 70, 71, 72, 73, 74, 75, 76, 77, 78, 79, 80, 81, 82, 83, 84, 85, 86, 87, 88] [1, 7] (fun x => [(3, .sl 3 0 (x.1))]) (fun x => [(3, .L 1 (x.2))]) (fun x => (x.1) = (x.2).length ∧ ∃ acc5 : List (List Int), (x.2) = acc5.map T.ints ∧ (acc5.length : Int) ≤ 39 * i + 13 * k + 1 + 3 * j + q + 1 ∧ acc5 = (if ¬ i = j ∧ ((ways (w.tasks[j.toNat]'(by omega)))[q.toNat]'(by omega)).kind = 2 ∧ ((ways (w.tasks[j.toNat]'(by omega)))[q.toNat]'(by omega)).chan = ((ways (w.tasks[i.toNat]'(by omega)))[k.toNat]'(by omega)).chan then acc4 ++ [[i, k, j, q]] else acc4)) ?_ (fun x hx => ?_)
     ·
      refine AD Z (fun h10 => ?_) (fun h10 => ?_)
      ·
       simp only [HS] at h10;refine rG (eK 3 Z (kZ [1,3,4,6,7,8,10,11,13,14,15,21,22,23,59,60,61,67,68,69,70,71,72,73,74,75,76,77,78,79,80,81,82,83,84,85,86,87,88,89,90,91] Z (eK 2 Z (bZ [T.int i, T.int k, T.int j, T.int q] ?_))));refine nZ Z (WO_le (Le.gather (u := 94) (id := 94) Z Z (by first | (simp; done) | (simp; omega) | omega)) ?_);refine nZ Z (bZ [T.ints [i, k, j, q]] ?_);refine nZ Z (Ab tys Z Z (AA Z) Z Z Z Z Z (.own Z (by first | omega | (simp only [Nu]; omega))) Z (.own Z (by first | decide | omega)) (by decide) (by have q1 := congrArg List.length hx4; have q2 := hw.1; simp only [Nj] at q1; simp only [N0, Nx, N6]; omega) (by decide) Z ?_);refine nZ Z (eZ Z (oN (jQ (_, _) ?_)));dsimp only
       first
       | (refine ⟨by simp, acc4 ++ [[i, k, j, q]], ?_, by simp only [Nu, Nx, N6]; omega, by rw [if_pos ⟨h8, h9, h10⟩]⟩; rw [hm4, Ni (Nm _), hx4, OU]; rfl)
      simp only [HS] at h10;refine AE (jQ (_, _) ?_);dsimp only
      first
      | exact ⟨hm4, acc4, hx4, by omega, by rw [if_neg (by grind)]⟩
     obtain ⟨m5, xs5⟩ := x
     obtain ⟨hm5, acc5, hx5, hl5, he5⟩ := hx
     dsimp only at hm5 hx5 hl5 he5 ⊢;refine bN (tN (kY [1,3,4,6,7,8,10,11,13,14,15,21,22,23,59,60,61,67,68,69,70,71,72,73,74,75,76,77,78,79,80,81,82,83,84,85,86,87,88] Z (rG (evI ?_))));refine eZ Z (oN ?_);refine lQ (_, _, _) ?_ ?_
     ·dsimp only
      exact ⟨by omega, by omega, hm5, hw4, acc5, hx5, by omega, by rw [he4, Fz hq0 h7, ← he5]⟩
     ·(show Int.toNat _ < Int.toNat _); omega
    simp only [HS] at h7;refine AR (tE (AO (AN (bN (tN (rG (evI ?_)))))));refine eZ Z (oN ?_);refine lQ (_, _, _) ?_ ?_
    ·dsimp only
     exact ⟨by omega, by omega, hm4, acc4, hx4, by omega, by rw [he3, Mg hj0 h6, he4, BB h7]; rfl⟩
    ·(show Int.toNat _ < Int.toNat _); omega
   simp only [HS] at h6;refine AR (tE (AO (AN (bN (tN (rG (evI ?_)))))));refine eZ Z (oN ?_);refine lQ (_, _, _) ?_ ?_
   ·dsimp only
    have e1 := AL (d := false) (l := w.shut) hc.1 (by omega); have e2 := AL (d := []) (l := w.held) hc.1 (by omega)
    first
    | (have hS : mvS w ((ways (w.tasks[i.toNat]'(by omega)))[k.toNat]'(by omega)) = true := (by grind [mvS]); refine ⟨by omega, by omega, hm3, hw, acc3, hx3, by omega, ?_⟩; rw [he', Ee hk0 h2, ← he2, hS, if_pos rfl, he3, BB (l := w.tasks) (by omega)]; rfl)
   ·(show Int.toNat _ < Int.toNat _); omega
  simp only [HS] at h2;refine AR (tE (AO (AN (bN (tN (rG (evI ?_)))))));refine eZ Z (oN ?_);refine lQ (_, _, _) ?_ ?_
  ·dsimp only
   exact ⟨by omega, by omega, hm', acc', hx', by (have := hw.1; omega), by rw [he, Mi hi0 h1, he', BB h2]; rfl⟩
  ·(show Int.toNat _ < Int.toNat _); omega
 simp only [HS] at h1;refine AR (tE (AO (AN (tN (sG (eK 2 Z (nB (W_le (Le.gather (u := 2) (id := 3) Z Z (by omega)) (rT (eR ?_))))))))))
 ·rw [hm, Ni (Nm _), hx, he, BB h1]; rfl
theorem Dm (w : World) (hg : Good w) : Fun Try.prog 28 [.t w.tt] (tupD [.own (Af (Al w))]) := by
 have g1 := hg.room
 have g2 := hg.held
 have g3 := hg.shut
 have g4 := hg.tasks
 refine Fun.begin tys Try.func28 Z Z (N := 98) [(0, .t w.tt)] Z Z (fun w0 G F0 => ?_);refine sG (Aa Z Z (AA Z) Z Z (nZ Z (eZ Z (nA (eZ Z (WO_le (Le.nilOwn (u := 3) 1 Z) (WO_le (Le.adoptE (u := 3) 3 Z Z) (nZ Z (nB (sQ (sG (eK 2 Z (evE ?_)))))))))))));refine eZ Z (nB (AG ?_));refine lK (α := Int × Nat × List T) [1, 11, 12] [1] (fun x => [(13, .t (.int (x.1))), (3, .sl 3 0 (x.2.1))]) (fun x => [(3, .L 1 (x.2.2))]) (fun x => 0 ≤ (x.1) ∧ (x.1) ≤ w.tasks.length ∧ (x.2.1) = (x.2.2).length ∧ ∃ acc : List (List Int), (x.2.2) = acc.map T.ints ∧ (acc.length : Int) ≤ 39 * (x.1) ∧ Al w = mvT w (w.tasks.drop (x.1).toNat) (x.1) acc) (fun x => Int.toNat (w.tasks.length - (x.1))) (0, 0, []) ?_ (fun x hx => ?_)
 ·exact ⟨by omega, by omega, by simp, [], rfl, by simp, rfl⟩
 obtain ⟨i, m, xs⟩ := x
 obtain ⟨hi0, hi1, hm, acc, hx, hl, he⟩ := hx
 dsimp only at hi0 hi1 hm hx hl he ⊢;refine nY Z (sG (eZ Z (nB (sQ ?_))));refine AD Z (fun h1 => ?_) (fun h1 => ?_)
 ·
  simp only [HS] at h1;refine AE (tN (sQ (AG (sG (eK 2 Z (nA (eZ Z ?_)))))))
  try refine WO_le (Le.freeze (u := 16) rfl) ?_
  refine nZ Z (eZ Z (BG Z Z (AA Z) Z Z Z Z Z (Du _ _ (by omega) (by omega) (by have := (hg.pos _ (Nl (l := w.tasks) (n := i.toNat) (by omega))).2.2; omega) (hg.pos _ (Nl _)).1 (hg.pos _ (Nl _)).2.1) Z ?_));refine evE ?_;refine eZ Z (nB (AG ?_));refine lK (α := Int × Nat × List T) [1, 4, 11, 12, 13, 18, 19] [1] (fun x => [(20, .t (.int (x.1))), (3, .sl 3 0 (x.2.1))]) (fun x => [(3, .L 1 (x.2.2))]) (fun x => 0 ≤ (x.1) ∧ (x.1) ≤ (ways (w.tasks[i.toNat]'(by omega))).length ∧ (x.2.1) = (x.2.2).length ∧ ((ways (w.tasks[i.toNat]'(by omega))).length ≤ 3 ∧ ∀ b, b ∈ ways (w.tasks[i.toNat]'(by omega)) → 0 ≤ b.chan ∧ b.chan < w.room.length) ∧ ∃ acc' : List (List Int), (x.2.2) = acc'.map T.ints ∧ (acc'.length : Int) ≤ 39 * i + 13 * (x.1) ∧ mvA w i (ways (w.tasks[i.toNat]'(by omega))) 0 acc = mvA w i ((ways (w.tasks[i.toNat]'(by omega))).drop (x.1).toNat) (x.1) acc') (fun x => Int.toNat ((ways (w.tasks[i.toNat]'(by omega))).length - (x.1))) (0, m, xs) ?_ (fun x hx => ?_)
  ·exact ⟨by omega, by omega, hm, hg.ways _ (Nl _), acc, hx, by omega, rfl⟩
  obtain ⟨k, m', xs'⟩ := x
  obtain ⟨hk0, hk1, hm', hw, acc', hx', hl', he'⟩ := hx
  dsimp only at hk0 hk1 hm' hw hx' hl' he' ⊢;refine nY Z (sG (eZ Z (nB (sQ ?_))));refine AD Z (fun h2 => ?_) (fun h2 => ?_)
  ·
   simp only [HS] at h2;refine AE (tN (sQ (AG (sG (eZ Z (BU tys Z Z (AA Z) Z Z Z Z Z Z Z (by omega) _ (Az _ (by omega) (by omega)) (eZ Z ?_)))))))
   try refine WO_le (Le.freeze (u := 24) rfl) ?_
   refine nZ Z (AK tys Z Z (AA Z) Z Z Z (nZ Z ?_))
   have hc := hw.2 _ (Nl (l := ways (w.tasks[i.toNat]'(by omega))) (n := k.toNat) (by omega))
   refine eZ Z (sT Z (nZ Z (nB (sQ (sQ (kY [1,3,4,5,6,11,12,13,18,19,20,21,22,23,24] Z (rG (eZ Z ?_))))))))
   try refine WO_le (Le.freeze (u := 25) rfl) ?_
   refine nZ Z (eZ Z ?_)
   try refine WO_le (Le.freeze (u := 26) rfl) ?_
   refine nZ Z (AQ ?_);refine ⟨_, IX _ _ (hw.2 _ (Nl _)).1 (hw.2 _ (Nl _)).2 g2 g3 g1, rfl, ?_⟩;refine nB ?_;refine BM (α := Nat × List T) [1, 4, 5, 6, 11, 12, 13, 18, 19, 20, 21, 22, 23, 24, 25, 26, 27] [1, 6] (fun x => [(3, .sl 3 0 (x.1))]) (fun x => [(3, .L 1 (x.2))]) (fun x => (x.1) = (x.2).length ∧ ∃ acc2 : List (List Int), (x.2) = acc2.map T.ints ∧ (acc2.length : Int) ≤ 39 * i + 13 * k + 1 ∧ acc2 = (if CJ w ((ways (w.tasks[i.toNat]'(by omega)))[k.toNat]'(by omega)) then acc' ++ [[i, k, -1, 0]] else acc')) ?_ (fun x hx => ?_)
   ·
    refine AD Z (fun h3 => ?_) (fun h3 => ?_)
    ·
     refine rG (eK 3 Z (bZ [T.int i, T.int k, T.int (-1), T.int 0] ?_));refine nZ Z (WO_le (Le.gather (u := 31) (id := 31) Z Z (by first | (simp; done) | (simp; omega) | omega)) ?_);refine nZ Z (bZ [T.ints [i, k, -1, 0]] ?_);refine nZ Z (Ab tys Z Z (AA Z) Z Z Z Z Z (.own Z (by first | omega | (simp only [Nu]; omega))) Z (.own Z (by first | decide | omega)) (by decide) (by have q1 := congrArg List.length hx'; have q2 := hw.1; simp only [Nj] at q1; simp only [N0, Nx, N6]; omega) (by decide) Z ?_);refine nZ Z (kZ [1,3,4,5,6,11,12,13,18,19,20,21,22,23,24,25,26,27,28,29,30,31,32,33] Z (eZ Z (oN (jQ (_, _) ?_))));dsimp only
     first
     | (refine ⟨by simp, acc' ++ [[i, k, -1, 0]], ?_, by simp only [Nu, Nx, N6]; omega, by rw [if_pos h3]⟩; rw [hm', Ni (Nm _), hx', OU]; rfl)
    refine AE (jQ (_, _) ?_);dsimp only
    first
    | exact ⟨hm', acc', hx', by omega, by rw [if_neg (by simp [h3])]⟩
   obtain ⟨m2, xs2⟩ := x
   obtain ⟨hm2, acc2, hx2, hl2, he2⟩ := hx
   dsimp only at hm2 hx2 hl2 he2 ⊢;refine tN (sQ (sQ (kY [1,3,4,5,6,11,12,13,18,19,20,21,22,23,24,25,26,27] Z (rG (eK 4 Z ?_)))));refine gB (fun h3 => ?_) (fun h3 => ?_)
   ·
    simp only [HS] at h3;refine xK 5 Z (kZ [1,3,4,5,6,11,12,13,18,19,20,21,22,23,24,25,26,27,34,35,36,37,38,39,40,41,42,43] Z (xK 9 Z (kZ [1,3,4,5,6,11,12,13,18,19,20,21,22,23,24,25,26,27,34,35,36,37,38,39,40,41,42,43,44,45,46,47,48,49,50,51,52] Z (xK 2 Z (nB (AS Z (AR (tE (AN (tN (rG (evI ?_))))))))))));refine eZ Z (oN ?_);refine lQ (_, _, _) ?_ ?_
    ·dsimp only
     have e1 := AL (d := false) (l := w.shut) hc.1 (by omega); have e2 := AL (d := []) (l := w.held) hc.1 (by omega)
     first
     | (have hS : mvS w ((ways (w.tasks[i.toNat]'(by omega)))[k.toNat]'(by omega)) = false := (by grind [mvS]); refine ⟨by omega, by omega, hm2, hw, acc2, hx2, by omega, ?_⟩; rw [he', Ee hk0 h2, ← he2, hS]; rfl)
    ·(show Int.toNat _ < Int.toNat _); omega
   simp only [HS] at h3;refine xK 4 Z (gY Z ?_);refine iY (k := ?_);refine kZ [1,3,4,5,6,11,12,13,18,19,20,21,22,23,24,25,26,27,34,35,36,37,38,39,40,41,42] Z (xZ Z (gY Z (evE ?_)));refine xK 3 Z ?_;refine gB (fun h4 => ?_) (fun h4 => ?_)
   ·
    simp only [HS] at h4;refine xK 4 Z (kZ [1,3,4,5,6,11,12,13,18,19,20,21,22,23,24,25,26,27,34,35,36,37,38,39,40,41,42,43,44,45,46,47,48,49,50,51,52] Z (xK 2 Z (nB (AS Z (AR (tE (AN (tN (rG (evI ?_))))))))));refine eZ Z (oN ?_);refine lQ (_, _, _) ?_ ?_
    ·dsimp only
     have e1 := AL (d := false) (l := w.shut) hc.1 (by omega); have e2 := AL (d := []) (l := w.held) hc.1 (by omega)
     first
     | (have hS : mvS w ((ways (w.tasks[i.toNat]'(by omega)))[k.toNat]'(by omega)) = false := (by grind [mvS]); refine ⟨by omega, by omega, hm2, hw, acc2, hx2, by omega, ?_⟩; rw [he', Ee hk0 h2, ← he2, hS]; rfl)
    ·(show Int.toNat _ < Int.toNat _); omega
   simp only [HS] at h4;refine xK 4 Z (kZ [1,3,4,5,6,11,12,13,18,19,20,21,22,23,24,25,26,27,34,35,36,37,38,39,40,41,42,43,44,45,46,47,48,49,50,51] Z (gY Z ?_));refine iY (k := ?_);refine xK 2 Z (nB ?_);refine AD Z (fun h5 => ?_) (fun h5 => ?_)
   ·
    refine AR (tE (AN (tN (rG (evI ?_)))));refine eZ Z (oN ?_);refine lQ (_, _, _) ?_ ?_
    ·dsimp only
     have e1 := AL (d := false) (l := w.shut) hc.1 (by omega); have e2 := AL (d := []) (l := w.held) hc.1 (by omega)
     first
     | (have hS : mvS w ((ways (w.tasks[i.toNat]'(by omega)))[k.toNat]'(by omega)) = false := (by grind [mvS]); refine ⟨by omega, by omega, hm2, hw, acc2, hx2, by omega, ?_⟩; rw [he', Ee hk0 h2, ← he2, hS]; rfl)
    ·(show Int.toNat _ < Int.toNat _); omega
   refine AE (tN (sG (eK 2 Z (evE ?_))));refine eZ Z (nB (AG ?_));refine lK (α := Int × Nat × List T) [1, 4, 5, 6, 11, 12, 13, 18, 19, 20, 56, 57] [1, 6] (fun x => [(58, .t (.int (x.1))), (3, .sl 3 0 (x.2.1))]) (fun x => [(3, .L 1 (x.2.2))]) (fun x => 0 ≤ (x.1) ∧ (x.1) ≤ w.tasks.length ∧ (x.2.1) = (x.2.2).length ∧ ∃ acc3 : List (List Int), (x.2.2) = acc3.map T.ints ∧ (acc3.length : Int) ≤ 39 * i + 13 * k + 1 + 3 * (x.1) ∧ mvU i k ((ways (w.tasks[i.toNat]'(by omega)))[k.toNat]'(by omega)) w.tasks 0 acc2 = mvU i k ((ways (w.tasks[i.toNat]'(by omega)))[k.toNat]'(by omega)) (w.tasks.drop (x.1).toNat) (x.1) acc3) (fun x => Int.toNat (w.tasks.length - (x.1))) (0, m2, xs2) ?_ (fun x hx => ?_)
   ·exact ⟨by omega, by omega, hm2, acc2, hx2, by omega, rfl⟩
   obtain ⟨j, m3, xs3⟩ := x
   obtain ⟨hj0, hj1, hm3, acc3, hx3, hl3, he3⟩ := hx
   dsimp only at hj0 hj1 hm3 hx3 hl3 he3 ⊢;refine nY Z (sG (eZ Z (nB (sQ ?_))));refine AD Z (fun h6 => ?_) (fun h6 => ?_)
   ·
    simp only [HS] at h6;refine AE (tN (sQ (AG (sG (eK 2 Z (nA (eZ Z ?_)))))))
    try refine WO_le (Le.freeze (u := 61) rfl) ?_
    refine nZ Z (eZ Z (BG Z Z (AA Z) Z Z Z Z Z (Du _ _ (by omega) (by omega) (by have := (hg.pos _ (Nl (l := w.tasks) (n := j.toNat) (by omega))).2.2; omega) (hg.pos _ (Nl _)).1 (hg.pos _ (Nl _)).2.1) Z ?_));refine evE ?_;refine eZ Z (nB (AG ?_));refine lK (α := Int × Nat × List T) [1, 4, 5, 6, 7, 11, 12, 13, 18, 19, 20, 56, 57, 58, 63, 64] [1, 6] (fun x => [(65, .t (.int (x.1))), (3, .sl 3 0 (x.2.1))]) (fun x => [(3, .L 1 (x.2.2))]) (fun x => 0 ≤ (x.1) ∧ (x.1) ≤ (ways (w.tasks[j.toNat]'(by omega))).length ∧ (x.2.1) = (x.2.2).length ∧ (ways (w.tasks[j.toNat]'(by omega))).length ≤ 3 ∧ ∃ acc4 : List (List Int), (x.2.2) = acc4.map T.ints ∧ (acc4.length : Int) ≤ 39 * i + 13 * k + 1 + 3 * j + (x.1) ∧ mvB i k ((ways (w.tasks[i.toNat]'(by omega)))[k.toNat]'(by omega)) j (ways (w.tasks[j.toNat]'(by omega))) 0 acc3 = mvB i k ((ways (w.tasks[i.toNat]'(by omega)))[k.toNat]'(by omega)) j ((ways (w.tasks[j.toNat]'(by omega))).drop (x.1).toNat) (x.1) acc4) (fun x => Int.toNat ((ways (w.tasks[j.toNat]'(by omega))).length - (x.1))) (0, m3, xs3) ?_ (fun x hx => ?_)
    ·exact ⟨by omega, by omega, hm3, (hg.ways _ (Nl _)).1, acc3, hx3, by omega, rfl⟩
    obtain ⟨q, m4, xs4⟩ := x
    obtain ⟨hq0, hq1, hm4, hw4, acc4, hx4, hl4, he4⟩ := hx
    dsimp only at hq0 hq1 hm4 hw4 hx4 hl4 he4 ⊢;refine nY Z (sG (eZ Z (nB (sQ ?_))));refine AD Z (fun h7 => ?_) (fun h7 => ?_)
    ·
     simp only [HS] at h7;refine AE (tN (sQ (AG (sG (eZ Z (BU tys Z Z (AA Z) Z Z Z Z Z Z Z (by omega) _ (Az _ (by omega) (by omega)) (eZ Z ?_)))))))
     try refine WO_le (Le.freeze (u := 69) rfl) ?_
     refine nZ Z (AK tys Z Z (AA Z) Z Z Z (nZ Z (eZ Z (sT Z (nZ Z (nB (sQ (kY [1,3,4,5,6,7,8,9,11,12,13,18,19,20,56,57,58,63,64,65,66,67,68,69] Z (rG (eK 4 Z ?_))))))))));refine gB (fun h8 => ?_) (fun h8 => ?_)
     ·
      simp only [HS] at h8;refine xK 5 Z (kZ [1,3,4,5,6,7,8,9,11,12,13,18,19,20,56,57,58,63,64,65,66,67,68,69,70,71,72,73,74,75,76,77,78,79] Z (xK 5 Z (nB ?_)));refine BM (α := Nat × List T) [1, 4, 5, 6, 7, 8, 9, 11, 12, 13, 18, 19, 20, 56, 57, 58, 63, 64, 65, 66, 67, 68, 69, 70, 71, 72, 73, 74, 75, 76, 77, 78, 79, 80, 81, 82, 83, 84] [1, 6] (fun x => [(3, .sl 3 0 (x.1))]) (fun x => [(3, .L 1 (x.2))]) (fun x => (x.1) = (x.2).length ∧ ∃ acc5 : List (List Int), (x.2) = acc5.map T.ints ∧ (acc5.length : Int) ≤ 39 * i + 13 * k + 1 + 3 * j + q + 1 ∧ acc5 = (if ¬ i = j ∧ ((ways (w.tasks[j.toNat]'(by omega)))[q.toNat]'(by omega)).kind = 2 ∧ ((ways (w.tasks[j.toNat]'(by omega)))[q.toNat]'(by omega)).chan = ((ways (w.tasks[i.toNat]'(by omega)))[k.toNat]'(by omega)).chan then acc4 ++ [[i, k, j, q]] else acc4)) ?_ (fun x hx => ?_)
      ·
       refine A0 Z (AE (jQ (_, _) ?_));dsimp only
       first
       | exact ⟨hm4, acc4, hx4, by omega, by rw [if_neg (by grind)]⟩
      obtain ⟨m5, xs5⟩ := x
      obtain ⟨hm5, acc5, hx5, hl5, he5⟩ := hx
      dsimp only at hm5 hx5 hl5 he5 ⊢;refine bN (tN (kY [1,3,4,5,6,7,8,9,11,12,13,18,19,20,56,57,58,63,64,65,66,67,68,69,70,71,72,73,74,75,76,77,78,79,80,81,82,83,84] Z (rG (evI ?_))));refine eZ Z (oN ?_);refine lQ (_, _, _) ?_ ?_
      ·dsimp only
       exact ⟨by omega, by omega, hm5, hw4, acc5, hx5, by omega, by rw [he4, Fz hq0 h7, ← he5]⟩
      ·(show Int.toNat _ < Int.toNat _); omega
     simp only [HS] at h8;refine xK 5 Z (kZ [1,3,4,5,6,7,8,9,11,12,13,18,19,20,56,57,58,63,64,65,66,67,68,69,70,71,72,73,74,75,76,77,78] Z ?_);refine gB (fun h9 => ?_) (fun h9 => ?_)
     ·
      simp only [HS] at h9;refine xK 5 Z (nB ?_);refine BM (α := Nat × List T) [1, 4, 5, 6, 7, 8, 9, 11, 12, 13, 18, 19, 20, 56, 57, 58, 63, 64, 65, 66, 67, 68, 69, 70, 71, 72, 73, 74, 75, 76, 77, 78, 79, 80, 81, 82, 83, 84] [1, 6] (fun x => [(3, .sl 3 0 (x.1))]) (fun x => [(3, .L 1 (x.2))]) (fun x => (x.1) = (x.2).length ∧ ∃ acc5 : List (List Int), (x.2) = acc5.map T.ints ∧ (acc5.length : Int) ≤ 39 * i + 13 * k + 1 + 3 * j + q + 1 ∧ acc5 = (if ¬ i = j ∧ ((ways (w.tasks[j.toNat]'(by omega)))[q.toNat]'(by omega)).kind = 2 ∧ ((ways (w.tasks[j.toNat]'(by omega)))[q.toNat]'(by omega)).chan = ((ways (w.tasks[i.toNat]'(by omega)))[k.toNat]'(by omega)).chan then acc4 ++ [[i, k, j, q]] else acc4)) ?_ (fun x hx => ?_)
      ·
       refine A0 Z (AE (jQ (_, _) ?_));dsimp only
       first
       | exact ⟨hm4, acc4, hx4, by omega, by rw [if_neg (by grind)]⟩
      obtain ⟨m5, xs5⟩ := x
      obtain ⟨hm5, acc5, hx5, hl5, he5⟩ := hx
      dsimp only at hm5 hx5 hl5 he5 ⊢;refine bN (tN (kY [1,3,4,5,6,7,8,9,11,12,13,18,19,20,56,57,58,63,64,65,66,67,68,69,70,71,72,73,74,75,76,77,78,79,80,81,82,83,84] Z (rG (evI ?_))));refine eZ Z (oN ?_);refine lQ (_, _, _) ?_ ?_
      ·dsimp only
       exact ⟨by omega, by omega, hm5, hw4, acc5, hx5, by omega, by rw [he4, Fz hq0 h7, ← he5]⟩
      ·(show Int.toNat _ < Int.toNat _); omega
     simp only [HS] at h9;refine xK 6 Z (nB ?_);refine BM (α := Nat × List T) [1, 4, 5, 6, 7, 8, 9, 11, 12, 13, 18, 19, 20, 56, 57, 58, 63, 64, 65, 66, 67, 68, 69, 70, 71, 72, 73, 74, 75, 76, 77, 78, 79, 80, 81, 82, 83, 84] [1, 6] (fun x => [(3, .sl 3 0 (x.1))]) (fun x => [(3, .L 1 (x.2))]) (fun x => (x.1) = (x.2).length ∧ ∃ acc5 : List (List Int), (x.2) = acc5.map T.ints ∧ (acc5.length : Int) ≤ 39 * i + 13 * k + 1 + 3 * j + q + 1 ∧ acc5 = (if ¬ i = j ∧ ((ways (w.tasks[j.toNat]'(by omega)))[q.toNat]'(by omega)).kind = 2 ∧ ((ways (w.tasks[j.toNat]'(by omega)))[q.toNat]'(by omega)).chan = ((ways (w.tasks[i.toNat]'(by omega)))[k.toNat]'(by omega)).chan then acc4 ++ [[i, k, j, q]] else acc4)) ?_ (fun x hx => ?_)
     ·
      refine AD Z (fun h10 => ?_) (fun h10 => ?_)
      ·
       simp only [HS] at h10;refine rG (eK 3 Z (kZ [1,3,4,5,6,7,8,9,11,12,13,18,19,20,56,57,58,63,64,65,66,67,68,69,70,71,72,73,74,75,76,77,78,79,80,81,82,83,84,85,86,87] Z (eK 2 Z (bZ [T.int i, T.int k, T.int j, T.int q] ?_))));refine nZ Z (WO_le (Le.gather (u := 90) (id := 90) Z Z (by first | (simp; done) | (simp; omega) | omega)) ?_);refine nZ Z (bZ [T.ints [i, k, j, q]] ?_);refine nZ Z (Ab tys Z Z (AA Z) Z Z Z Z Z (.own Z (by first | omega | (simp only [Nu]; omega))) Z (.own Z (by first | decide | omega)) (by decide) (by have q1 := congrArg List.length hx4; have q2 := hw.1; simp only [Nj] at q1; simp only [N0, Nx, N6]; omega) (by decide) Z ?_);refine nZ Z (eZ Z (oN (jQ (_, _) ?_)));dsimp only
       first
       | (refine ⟨by simp, acc4 ++ [[i, k, j, q]], ?_, by simp only [Nu, Nx, N6]; omega, by rw [if_pos ⟨fun e => h8 e.symm, h9, h10⟩]⟩; rw [hm4, Ni (Nm _), hx4, OU]; rfl)
      simp only [HS] at h10;refine AE (jQ (_, _) ?_);dsimp only
      first
      | exact ⟨hm4, acc4, hx4, by omega, by rw [if_neg (by grind)]⟩
     obtain ⟨m5, xs5⟩ := x
     obtain ⟨hm5, acc5, hx5, hl5, he5⟩ := hx
     dsimp only at hm5 hx5 hl5 he5 ⊢;refine bN (tN (kY [1,3,4,5,6,7,8,9,11,12,13,18,19,20,56,57,58,63,64,65,66,67,68,69,70,71,72,73,74,75,76,77,78,79,80,81,82,83,84] Z (rG (evI ?_))));refine eZ Z (oN ?_);refine lQ (_, _, _) ?_ ?_
     ·dsimp only
      exact ⟨by omega, by omega, hm5, hw4, acc5, hx5, by omega, by rw [he4, Fz hq0 h7, ← he5]⟩
     ·(show Int.toNat _ < Int.toNat _); omega
    simp only [HS] at h7;refine AR (tE (AO (AN (bN (tN (rG (evI ?_)))))));refine eZ Z (oN ?_);refine lQ (_, _, _) ?_ ?_
    ·dsimp only
     exact ⟨by omega, by omega, hm4, acc4, hx4, by omega, by rw [he3, Mg hj0 h6, he4, BB h7]; rfl⟩
    ·(show Int.toNat _ < Int.toNat _); omega
   simp only [HS] at h6;refine AR (tE (AO (AN (bN (tN (rG (evI ?_)))))));refine eZ Z (oN ?_);refine lQ (_, _, _) ?_ ?_
   ·dsimp only
    have e1 := AL (d := false) (l := w.shut) hc.1 (by omega); have e2 := AL (d := []) (l := w.held) hc.1 (by omega)
    first
    | (have hS : mvS w ((ways (w.tasks[i.toNat]'(by omega)))[k.toNat]'(by omega)) = true := (by grind [mvS]); refine ⟨by omega, by omega, hm3, hw, acc3, hx3, by omega, ?_⟩; rw [he', Ee hk0 h2, ← he2, hS, if_pos rfl, he3, BB (l := w.tasks) (by omega)]; rfl)
   ·(show Int.toNat _ < Int.toNat _); omega
  simp only [HS] at h2;refine AR (tE (AO (AN (bN (tN (rG (evI ?_)))))));refine eZ Z (oN ?_);refine lQ (_, _, _) ?_ ?_
  ·dsimp only
   exact ⟨by omega, by omega, hm', acc', hx', by (have := hw.1; omega), by rw [he, Mi hi0 h1, he', BB h2]; rfl⟩
  ·(show Int.toNat _ < Int.toNat _); omega
 simp only [HS] at h1;refine AR (tE (AO (AN (tN (sG (eK 2 Z (nB (W_le (Le.gather (u := 2) (id := 3) Z Z (by omega)) (rT (eR ?_))))))))))
 ·rw [hm, Ni (Nm _), hx, he, BB h1]; rfl
open Go.Eng
def Lv (w : World) : Bool := w.tasks.any fun t => decide (t.state = 0)
def G8 (w : World) : Bool := Lv w && decide (((Al w).length : Int) = 0)
theorem any_at {α : Type} {p : α → Bool} {l : List α} {k : Int} (h0 : 0 ≤ k) (h1 : k < l.length) (h : p (l[k.toNat]'(by omega)) = true) : l.any p = true := OJ.2 ⟨_, Nl _, h⟩
theorem MM {α : Type} {p : α → Bool} {l : List α} {k : Int} (h0 : 0 ≤ k) (h1 : k < l.length) (h : (l.take k.toNat).any p = false) (h2 : p (l[k.toNat]'(by omega)) = false) : (l.take (k + 1).toNat).any p = false := by
 rw [show (k + 1).toNat = k.toNat + 1 from by omega, List.take_add_one, List.getElem?_eq_getElem (by omega), List.any_append, h]
 simpa using h2
theorem MO {α : Type} {p : α → Bool} {l : List α} {k : Int} (h1 : (l.length : Int) ≤ k) (h : (l.take k.toNat).any p = false) : l.any p = false := by
 rwa [Ni (by omega)] at h
theorem Ly {a a' b b' : Bool} (h : a = a') (h' : b = b') : [D.t (T.v (Value.bool a)), D.t (T.v (Value.bool b))] = [D.t (T.bool a'), D.t (T.bool b')] := by rw [h, h']
theorem E3 (w : World) (hw : w.ok 1048576) : Fun Try.prog 16 [.t w.tt] (tupD [.t (.bool (AC w && G8 w)), .t (.bool (AC w))]) := by
 refine Fun.begin tys Try.func16 Z Z (N := 24) [(0, .t w.tt)] Z Z (fun w0 G F0 => ?_);refine sG (Aa Z Z (AA Z) Z Z (nZ Z (eK 2 Z (nB (sQ (sG (eZ Z ?_)))))))
 try refine WO_le (Le.freeze (u := 6) rfl) ?_
 refine nZ Z (AQ ?_);refine ⟨_, A2 w hw, rfl, ?_⟩;refine eZ Z (nB ?_);refine AD Z (fun h1 => ?_) (fun h1 => ?_)
 ·
  simp only [HS] at h1;refine sG (eK 2 Z (nB (rT (tR (eR ?_)))))
  ·first
   | (rw [h1]; rfl)
 simp only [HS] at h1;refine AE (tN (sQ (sG (eK 2 Z (evE ?_)))));refine kZ [1,2,3,10,11] Z (eZ Z (nB (AG ?_)));refine lK (α := Int) [1, 10, 11] [1] (fun x => [(12, .t (.int x))]) (fun x => []) (fun x => 0 ≤ x ∧ x ≤ w.tasks.length ∧ w.tasks.length ≤ 4 ∧ (w.tasks.take x.toNat).any (fun t => decide (t.state = 0)) = false) (fun x => Int.toNat (w.tasks.length - x)) 0 ?_ (fun k hx => ?_)
 ·exact ⟨by omega, by omega, (good_of h1).tasks, by simp⟩
 obtain ⟨hk0, hk1, hk3, hk2⟩ := hx
 refine nY Z (sG (eZ Z (nB (sQ ?_))));refine AD Z (fun h2 => ?_) (fun h2 => ?_)
 ·
  simp only [HS] at h2;refine AE (tN (sQ (AG (sG ?_))));refine iY (k := ?_);refine eZ Z ?_
  try refine WO_le (Le.freeze (u := 15) rfl) ?_
  refine nZ Z (AK tys Z Z (AA Z) Z Z Z (nZ Z (sT Z (nZ Z (nA (eK 3 Z (nB ?_)))))));refine AD Z (fun h3 => ?_) (fun h3 => ?_)
  ·
   simp only [HS] at h3;refine sQ (kY [1,5,10,11,12,13,14,15,16,17,18] Z (rG (eZ Z ?_)))
   try refine WO_le (Le.freeze (u := 19) rfl) ?_
   refine nZ Z (AQ ?_);refine ⟨_, CX w (good_of h1), rfl, ?_⟩;refine WO_le (Le.adoptE (u := 20) 20 Z (by first | exact He | exact Z)) ?_;refine nZ Z (evE ?_);refine eK 3 Z (nB (rT (bR (tR (AU (bR (tR (eR ?_))))))))
   ·first
    | (have e := any_at (p := fun t : Task => decide (t.state = 0)) hk0 h2 (by simp [h3]); exact Ly (by rw [h1, G8, Lv, e]; rfl) h1.symm)
  simp only [HS] at h3;refine AE (bN (tN (kY [1,5,10,11,12,13,14,15,16,17,18] Z (rG (evI ?_)))));refine eZ Z (oN ?_);refine lQ _ ?_ ?_
  ·skip
   exact ⟨by omega, by omega, hk3, MM hk0 h2 hk2 (by simp [h3])⟩
  ·(show Int.toNat _ < Int.toNat _); omega
 simp only [HS] at h2;refine AR (tE (AO (AN (tN (sG (eK 2 Z (nB (rT (eR ?_)))))))))
 ·first
  | (have e := MO h2 hk2; exact Ly (by rw [h1, G8, Lv, e]; rfl) h1.symm)
theorem IZ (l : List Task) (p : Task → Bool) (f : Nat) (caps : List D) (hcaps : caps.all D.imm = true) (hl : l.length ≤ 9223372036854775807) (hf : ∀ x, x ∈ l → Fun Try.prog f (.t x.tt :: caps) (.t (.bool (p x)))) : Fun Try.prog 81 [.t (T.Tasks l), .clo f caps] (tupD [.t (.int (C6 p l 0))]) := by
 refine Fun.begin tys Try.func81 Z Z (N := 19) [(0, .t (T.Tasks l)), (1, .clo f caps)] Z Z (fun w0 G F0 => ?_);refine sG (eZ Z (nB (sQ (sG (eZ Z (evE ?_))))));refine eZ Z (nB (AG ?_));refine lK (α := Int) [0, 1, 7] [] (fun x => [(8, .t (.int x))]) (fun x => []) (fun x => 0 ≤ x ∧ x ≤ l.length ∧ C6 p l 0 = C6 p (l.drop x.toNat) x) (fun x => Int.toNat (l.length - x)) 0 ?_ (fun k hx => ?_)
 ·exact ⟨by omega, by omega, rfl⟩
 obtain ⟨hk0, hk1, hk2⟩ := hx
 refine nY Z (sG (eZ Z (nB (sQ ?_))));refine AD Z (fun h1 => ?_) (fun h1 => ?_)
 ·
  simp only [HS] at h1;refine AE (tN (sQ (AG (sG (eK 2 Z (nA (BJ tys Z Z (AA Z) Z Z (by assumption) ?_)))))));refine eK 2 Z ?_;refine iY (k := ?_);refine eZ Z ?_
  try refine WO_le (Le.freeze (u := 15) rfl) ?_
  refine nZ Z ?_;refine CK Z Z (AA Z) Z Z (by repeat (first | exact ResL.done | exact ResL.imms (by first | rfl | assumption) | refine ResL.t ?_ | refine ResL.own ?_ | refine ResL.slA Z (by first | rfl | (simp; done) | (simp; omega)) ?_ | refine ResL.sl Z (by first | omega | (simp; done) | (simp; omega)) ?_ | refine ResL.rp ?_ | refine ResL.clo ?_ ?_ | refine ResL.aggT ?_ ?_ | refine ResL.ref Z ?_ ?_ | refine ResL.nil' ?_ | refine ResL.nil 1 ?_)) (hf _ (Nl _)) Z ?_;refine kZ [0,1,5,7,8,9,10,11,12,13,14,15,16] Z (nB ?_);refine AD Z (fun h2 => ?_) (fun h2 => ?_)
  ·
   refine sG (eK 2 Z (nB (rT (bR (tR (AU (bR (tR (eR ?_)))))))))
   ·rw [hk2, Ef hk0 h1]
    simp [h2]
    done
  refine AE (bN (tN (rG (evI ?_))));refine eZ Z (oN ?_);refine lQ _ ?_ ?_
  ·skip
   refine ⟨by omega, by omega, ?_⟩; rw [hk2, Ef hk0 h1]; simp [h2]
  ·(show Int.toNat _ < Int.toNat _); omega
 simp only [HS] at h1;refine AR (tE (AO (AN (tN (sG (eZ Z (nB (rT (eR ?_)))))))))
 ·rw [hk2, BB h1]
  rfl
theorem Ib (l : List Task) (p : Task → Bool) (f : Nat) (caps : List D) (hcaps : caps.all D.imm = true) (hl : l.length ≤ 9223372036854775807) (hf : ∀ x, x ∈ l → Fun Try.prog f (.t x.tt :: caps) (.t (.bool (p x)))) : Fun Try.prog 43 [.t (T.Tasks l), .clo f caps] (tupD [.t (.bool (l.any p))]) := by
 refine Fun.begin tys Try.func43 Z Z (N := 9) [(0, .t (T.Tasks l)), (1, .clo f caps)] Z Z (fun w0 G F0 => ?_);refine sG (eZ Z (nA (eZ Z (BJ tys Z Z (AA Z) Z Z (by assumption) ?_))));refine CK Z Z (AA Z) Z Z (by repeat (first | exact ResL.done | exact ResL.imms (by first | rfl | assumption) | refine ResL.t ?_ | refine ResL.own ?_ | refine ResL.slA Z (by first | rfl | (simp; done) | (simp; omega)) ?_ | refine ResL.sl Z (by first | omega | (simp; done) | (simp; omega)) ?_ | refine ResL.rp ?_ | refine ResL.clo ?_ ?_ | refine ResL.aggT ?_ ?_ | refine ResL.ref Z ?_ ?_ | refine ResL.nil' ?_ | refine ResL.nil 1 ?_)) (IZ l p f caps hcaps hl hf) Z ?_;refine eK 2 Z (nB (rT (eR ?_)))
 ·rw [← DL (OZ 0)]
theorem Hk (t : Task) : Fun Try.prog 44 [.t t.tt] (tupD [.t (.bool (decide (t.state = 0)))]) := by
 refine Fun.begin tys Try.func44 Z Z (N := 6) [(0, .t t.tt)] Z Z (fun w0 G F0 => ?_);refine sG (Aa Z Z (AA Z) Z Z (nZ Z (eZ Z (nA (eK 4 Z (nB (rT (eR ?_))))))))
 ·rfl
theorem DK (w : World) (hw : w.ok 1048576) (hw' : w.ok 9223372036854775807) : Fun Try.prog 14 [.t w.tt] (tupD [.t (.bool (AC w && G8 w)), .t (.bool (AC w))]) := by
 refine Fun.begin tys Try.func14 Z Z (N := 18) [(0, .t w.tt)] Z Z (fun w0 G F0 => ?_);refine sG (Aa Z Z (AA Z) Z Z (nZ Z (eK 2 Z (nB (sQ (sG (eZ Z ?_)))))))
 try refine WO_le (Le.freeze (u := 5) rfl) ?_
 refine nZ Z (AQ ?_);refine ⟨_, CR w hw hw', rfl, ?_⟩;refine eZ Z (nB ?_);refine AD Z (fun h1 => ?_) (fun h1 => ?_)
 ·
  simp only [HS] at h1;refine sG (eK 2 Z (nB (rT (tR (eR ?_)))))
  ·first
   | (rw [h1]; rfl)
 simp only [HS] at h1;refine AE (tN (sG (eK 2 Z (AQ ?_))));refine ⟨_, Ib w.tasks (fun t => decide (t.state = 0)) _ [] Z (by have := (good_of h1).tasks; omega) (fun t _ => Hk t), rfl, ?_⟩;refine kZ [1,2,3,10] Z (eZ Z (nA (eK 2 Z ?_)));refine gB (fun h2 => ?_) (fun h2 => ?_)
 ·
  simp only [HS] at h2;refine xK 6 Z (kZ [2,3] Z (nB (rT (eR ?_))))
  ·first
   | (exact Ly (by rw [h1, G8, Lv, h2]; rfl) h1.symm)
 refine eZ Z ?_
 try refine WO_le (Le.freeze (u := 13) rfl) ?_
 refine nZ Z (gY Z (AQ ?_));refine ⟨_, Dm w (good_of h1), rfl, ?_⟩;refine WO_le (Le.adoptE (u := 14) 14 Z (by first | exact He | exact Z)) ?_;refine nZ Z (gY Z (evE ?_));refine xK 3 Z (kZ [2,3] Z (eZ Z (nB (rT (eR ?_)))))
 ·first
  | (exact Ly (by rw [h1, G8, Lv, h2]; rfl) h1.symm)
open Go.Eng
def Ih (n : Nat) (l : List (List Int)) : Prop := l.length ≤ n ∧ ∀ x, x ∈ l → x.length = 4
theorem JX {n : Nat} {l : List (List Int)} {x : List Int} (h : Ih n l) (hx : x.length = 4) : Ih (n + 1) (l ++ [x]) :=
 ⟨by have := h.1; simp; omega, fun y hy => by
  rcases Nn.1 hy with hy | hy
  ·exact h.2 y hy
  ·rw [OE] at hy; subst hy; exact hx⟩
theorem Ds {n m : Nat} {l : List (List Int)} (h : Ih n l) (hm : n ≤ m) : Ih m l := ⟨N7 h.1 hm, h.2⟩
theorem JL {i k j : Int} {a : Act} : ∀ (l : List Act) (m : Int) {n : Nat} {acc : List (List Int)}, Ih n acc → Ih (n + l.length) (mvB i k a j l m acc)
 | [], m, n, acc, h => h
 | b :: l, m, n, acc, h => by
  rw [mvB, Nx, show n + (l.length + 1) = (n + 1) + l.length from by omega];refine JL l (m + 1) ?_;split
  ·exact JX h rfl
  ·exact Ds h (by omega)
theorem JJ {i k : Int} {a : Act} : ∀ (l : List Task) (j : Int) {n : Nat} {acc : List (List Int)}, (∀ t, t ∈ l → (ways t).length ≤ 3) → Ih n acc → Ih (n + 3 * l.length) (mvU i k a l j acc)
 | [], j, n, acc, _, h => h
 | u :: l, j, n, acc, hw, h => by
  rw [mvU, Nx, show n + 3 * (l.length + 1) = (n + 3) + 3 * l.length from by omega]
  have h1 := hw u (OP ..)
  exact JJ l (j + 1) (fun t ht => hw t (OB _ ht)) (Ds (JL _ _ h) (by omega))
theorem JM {w : World} {i : Int} (hw : ∀ t, t ∈ w.tasks → (ways t).length ≤ 3) (ht : w.tasks.length ≤ 4) : ∀ (l : List Act) (k : Int) {n : Nat} {acc : List (List Int)}, Ih n acc → Ih (n + 13 * l.length) (mvA w i l k acc)
 | [], k, n, acc, h => h
 | a :: l, k, n, acc, h => by
  rw [mvA, Nx, show n + 13 * (l.length + 1) = (n + 13) + 13 * l.length from by omega];refine JM hw ht l (k + 1) ?_
  have h1 : Ih (n + 1) (if CJ w a then acc ++ [[i, k, -1, 0]] else acc) := by
   split
   ·exact JX h rfl
   ·exact Ds h (by omega)
  split
  ·exact Ds (JJ _ _ hw h1) (by omega)
  ·exact Ds h1 (by omega)
theorem JK {w : World} (hw : ∀ t, t ∈ w.tasks → (ways t).length ≤ 3) (ht : w.tasks.length ≤ 4) : ∀ (l : List Task) (i : Int) {n : Nat} {acc : List (List Int)}, (∀ t, t ∈ l → (ways t).length ≤ 3) → Ih n acc → Ih (n + 39 * l.length) (mvT w l i acc)
 | [], i, n, acc, _, h => h
 | t :: l, i, n, acc, hl, h => by
  rw [mvT, Nx, show n + 39 * (l.length + 1) = (n + 39) + 39 * l.length from by omega]
  have h1 := hl t (OP ..)
  exact JK hw ht l (i + 1) (fun t ht => hl t (OB _ ht)) (Ds (JM hw ht _ _ h) (by omega))
theorem movesOf_four {w : World} (hg : Good w) : Ih 156 (Al w) := by
 have hw : ∀ t, t ∈ w.tasks → (ways t).length ≤ 3 := fun t h => (hg.ways t h).1
 exact Ds (JK hw hg.tasks w.tasks 0 (n := 0) hw ⟨OQ _, fun x hx => by cases hx⟩) (by have := hg.tasks; omega)
def Ay (w : World) : List (List Int) := if AC w then Al w else []
theorem IU (w : World) : Ih 156 (Ay w) := by
 unfold Ay;split
 ·rename_i h; exact movesOf_four (good_of h)
 ·exact ⟨OQ _, fun x hx => by cases hx⟩
theorem Hb {B : Nat} (hB : 156 ≤ B) (w : World) : okL B (okN B) (Ay w) := by
 have h := IU w
 exact ⟨N7 h.1 hB, fun x hx => by unfold okN; rw [h.2 x hx]; omega⟩
theorem JN {w : World} (h : AC w = false) : [D.own (T.list 1 []), D.t (T.v (.bool false))] = [D.own (Af (Ay w)), D.t (T.bool (AC w))] := by
 rw [Ay, h]; rfl
theorem Ha {w : World} (h : AC w = true) : [D.own (Af (Al w)), D.t (T.v (.bool true))] = [D.own (Af (Ay w)), D.t (T.bool (AC w))] := by
 rw [Ay, h]; rfl
theorem D3 (w : World) (hw : w.ok 1048576) (hw' : w.ok 9223372036854775807) : Fun Try.prog 9 [.t w.tt] (tupD [.own (Af (Ay w)), .t (.bool (AC w))]) := by
 refine Fun.begin tys Try.func9 Z Z (N := 9) [(0, .t w.tt)] Z Z (fun w0 G F0 => ?_);refine sG (Aa Z Z (AA Z) Z Z (nZ Z (eZ Z (WO_le (Le.nilOwn (u := 2) 1 Z) (nZ Z (eZ Z (nB (sQ (sG (eZ Z ?_))))))))))
 try refine WO_le (Le.freeze (u := 4) rfl) ?_
 refine nZ Z (AQ ?_);refine ⟨_, A2 w hw, rfl, ?_⟩;refine eZ Z (nB ?_);refine AD Z (fun h1 => ?_) (fun h1 => ?_)
 ·
  simp only [HS] at h1;refine sG (eZ Z (WO_le (Le.nilOwn (u := 2) 1 Z) (nZ Z (eZ Z (nB (rT (tR (eR ?_))))))))
  ·exact JN h1
 simp only [HS] at h1;refine AE (tN (sG (eZ Z ?_)))
 try refine WO_le (Le.freeze (u := 7) rfl) ?_
 refine nZ Z (AQ ?_);refine ⟨_, CX w (good_of h1), rfl, ?_⟩;refine Ae Z Z (AA Z) (.inl Z) Z Z (kZ [2,3] Z (eZ Z (nB (rT (eR ?_)))))
 ·exact Ha h1
theorem Gj (w : World) (hw : w.ok 1048576) (hw' : w.ok 9223372036854775807) : Fun Try.prog 8 [.t w.tt] (tupD [.own (Af (Ay w)), .t (.bool (AC w))]) := by
 refine Fun.begin tys Try.func8 Z Z (N := 9) [(0, .t w.tt)] Z Z (fun w0 G F0 => ?_);refine sG (Aa Z Z (AA Z) Z Z (nZ Z (eZ Z (WO_le (Le.nilOwn (u := 2) 1 Z) (nZ Z (eZ Z (nB (sQ (sG (eZ Z ?_))))))))))
 try refine WO_le (Le.freeze (u := 4) rfl) ?_
 refine nZ Z (AQ ?_);refine ⟨_, CR w hw hw', rfl, ?_⟩;refine eZ Z (nB ?_);refine AD Z (fun h1 => ?_) (fun h1 => ?_)
 ·
  simp only [HS] at h1;refine sG (eZ Z (WO_le (Le.nilOwn (u := 2) 1 Z) (nZ Z (eZ Z (nB (rT (tR (eR ?_))))))))
  ·exact JN h1
 simp only [HS] at h1;refine AE (tN (sG (eZ Z ?_)))
 try refine WO_le (Le.freeze (u := 7) rfl) ?_
 refine nZ Z (AQ ?_);refine ⟨_, Dm w (good_of h1), rfl, ?_⟩;refine Ae Z Z (AA Z) (.inl Z) Z Z (kZ [2,3] Z (eZ Z (nB (rT (eR ?_)))))
 ·exact Ha h1
open Go.Eng
def task0 : Task := ⟨[], 0, 0, 0⟩
def act0 : Act := .mk 0 0 0 []
def tk (w : World) (i : Int) : Task := at0 task0 w.tasks i
def advT (t : Task) : Task := { t with pos := t.pos + 1, state := if t.pos + 1 = t.acts.length then 1 else t.state }
def setT (w : World) (i : Int) (t : Task) : World := { w with tasks := w.tasks.set i.toNat t }
def advW (w : World) (i : Int) : World := setT w i (advT (tk w i))
def Ax (w : World) (mv : List Int) : Act := at0 act0 (ways (tk w (at0 0 mv 0))) (at0 0 mv 1)
def doW (w : World) (mv : List Int) : World :=
 if (Ax w mv).kind = 3 then advW { w with trace := w.trace ++ [(tk w (at0 0 mv 0)).last] } (at0 0 mv 0)
 else if ((Ax w mv).kind = 5 ∨ (Ax w mv).kind = 1) ∧ at0 false w.shut (Ax w mv).chan = true then setT w (at0 0 mv 0) { tk w (at0 0 mv 0) with state := 2 }
 else if (Ax w mv).kind = 5 then advW { w with shut := w.shut.set (Ax w mv).chan.toNat true } (at0 0 mv 0)
 else if (Ax w mv).kind = 1 ∧ 0 ≤ at0 0 mv 2 then advW (advW (setT w (at0 0 mv 2) { tk w (at0 0 mv 2) with last := (Ax w mv).n }) (at0 0 mv 2)) (at0 0 mv 0)
 else if (Ax w mv).kind = 1 then advW { w with held := w.held.set (Ax w mv).chan.toNat (at0 [] w.held (Ax w mv).chan ++ [(Ax w mv).n]) } (at0 0 mv 0)
 else if 0 < (at0 [] w.held (Ax w mv).chan).length then
  advW { setT w (at0 0 mv 0) { tk w (at0 0 mv 0) with last := at0 0 (at0 [] w.held (Ax w mv).chan) 0 } with held := w.held.set (Ax w mv).chan.toNat ((at0 [] w.held (Ax w mv).chan).drop 1) } (at0 0 mv 0)
 else advW (setT w (at0 0 mv 0) { tk w (at0 0 mv 0) with last := 0 }) (at0 0 mv 0)
def GA (w : World) (mv : List Int) : Bool := decide ((doW w mv).trace.length ≤ 120)
structure Ll (w : World) (mv : List Int) : Prop where
 len : mv.length = 4
 i0 : 0 ≤ at0 0 mv 0
 i1 : at0 0 mv 0 < w.tasks.length
 k0 : 0 ≤ at0 0 mv 1
 k1 : at0 0 mv 1 < (ways (tk w (at0 0 mv 0))).length
 j : (at0 0 mv 2 = -1 ∧ CJ w (Ax w mv) = true) ∨ ((0 ≤ at0 0 mv 2 ∧ at0 0 mv 2 < w.tasks.length) ∧ (¬ at0 0 mv 0 = at0 0 mv 2) ∧ 0 < (ways (tk w (at0 0 mv 2))).length)
section
variable {w : World} {i k : Int} {a : Act}
def AllOk (w : World) (acc : List (List Int)) : Prop := ∀ x, x ∈ acc → Ll w x
theorem AllOk.add {acc : List (List Int)} (h : AllOk w acc) {x : List Int} (hx : Ll w x) : AllOk w (acc ++ [x]) := fun y hy => by
 rcases Nn.1 hy with hy | hy
 ·exact h y hy
 ·rw [OE] at hy; subst hy; exact hx
theorem Ky (h0 : 0 ≤ i) (h1 : i < w.tasks.length) (h2 : 0 ≤ k) (h3 : k < (ways (tk w i)).length) {j m : Int} (hj : (j = -1 ∧ CJ w (at0 act0 (ways (tk w i)) k) = true) ∨ ((0 ≤ j ∧ j < w.tasks.length) ∧ (¬ i = j) ∧ 0 < (ways (tk w j)).length)) : Ll w [i, k, j, m] :=
 ⟨rfl, h0, h1, h2, h3, hj⟩
theorem Mj (h0 : 0 ≤ i) (h1 : i < w.tasks.length) (h2 : 0 ≤ k) (h3 : k < (ways (tk w i)).length) {j : Int} (hj0 : 0 ≤ j) (hj1 : j < w.tasks.length) : ∀ (l : List Act) (m : Int) {acc : List (List Int)}, l.length ≤ (ways (tk w j)).length → AllOk w acc → AllOk w (mvB i k a j l m acc)
 | [], _, _, _, h => h
 | b :: l, m, acc, hl, h => by
  rw [Nx] at hl;rw [mvB];refine Mj h0 h1 h2 h3 hj0 hj1 l (m + 1) (by omega) ?_;split
  ·rename_i hc
   exact h.add (Ky h0 h1 h2 h3 (.inr ⟨⟨hj0, hj1⟩, hc.1, by omega⟩))
  ·exact h
theorem Mf (h0 : 0 ≤ i) (h1 : i < w.tasks.length) (h2 : 0 ≤ k) (h3 : k < (ways (tk w i)).length) : ∀ (l : List Task) (j : Int) {acc : List (List Int)}, 0 ≤ j → l = w.tasks.drop j.toNat → AllOk w acc → AllOk w (mvU i k a l j acc)
 | [], _, _, _, _, h => h
 | u :: l, j, acc, hj, he, h => by
  have hl := congrArg List.length he
  rw [Nx, OS] at hl
  have h6 := Bg (l := w.tasks) hj (by omega)
  rw [← he] at h6
  have hb : tk w j = u := by
   rw [tk, AL hj (by omega)];exact (List.cons.inj h6).1.symm
  rw [mvU];exact Mf h0 h1 h2 h3 l (j + 1) (by omega) (List.cons.inj h6).2 (Mj h0 h1 h2 h3 hj (by omega) _ _ (by rw [hb]; exact Nm _) h)
theorem Ml (h0 : 0 ≤ i) (h1 : i < w.tasks.length) : ∀ (l : List Act) (k : Int) {acc : List (List Int)}, 0 ≤ k → l = (ways (tk w i)).drop k.toNat → AllOk w acc → AllOk w (mvA w i l k acc)
 | [], _, _, _, _, h => h
 | b :: l, k, acc, hk, he, h => by
  have hl := congrArg List.length he
  rw [Nx, OS] at hl
  have h6 := Bg (l := ways (tk w i)) hk (by omega)
  rw [← he] at h6
  have hb : at0 act0 (ways (tk w i)) k = b := by
   rw [AL hk (by omega)];exact (List.cons.inj h6).1.symm
  rw [mvA];refine Ml h0 h1 l (k + 1) (by omega) (List.cons.inj h6).2 ?_
  have h5 : AllOk w (if CJ w b then acc ++ [[i, k, -1, 0]] else acc) := by
   split
   ·rename_i ha
    exact h.add (Ky h0 h1 hk (by omega) (.inl ⟨rfl, by rw [hb]; exact ha⟩))
   ·exact h
  split
  ·exact Mf h0 h1 hk (by omega) w.tasks 0 (by omega) rfl h5
  ·exact h5
theorem Mh : ∀ (l : List Task) (i : Int) {acc : List (List Int)}, 0 ≤ i → l = w.tasks.drop i.toNat → AllOk w acc → AllOk w (mvT w l i acc)
 | [], _, _, _, _, h => h
 | t :: l, i, acc, hi, hl, h => by
  have hlen := congrArg List.length hl
  rw [Nx, OS] at hlen
  have ht : tk w i = t := by
   have h5 := Bg (l := w.tasks) hi (by omega)
   rw [← hl] at h5;rw [tk, AL hi (by omega)];exact (List.cons.inj h5).1.symm
  rw [mvT];refine Mh l (i + 1) (by omega) ?_ (Ml hi (by omega) (ways t) 0 (by omega) (by rw [ht]; rfl) h)
  have h5 := Bg (l := w.tasks) hi (by omega)
  rw [← hl] at h5;exact (List.cons.inj h5).2
theorem En {mv : List Int} (h : mv ∈ Al w) : Ll w mv := Mh w.tasks 0 (by omega) rfl (fun x hx => by cases hx) mv h
end
theorem CY {w : World} (hg : AC w = true) {t : Task} (ht : t ∈ w.tasks) {a : Act} (ha : a ∈ ways t) : (a.kind = 1 ∨ a.kind = 2 ∨ a.kind = 3 ∨ a.kind = 5) ∧ (0 ≤ a.chan ∧ a.chan < w.room.length) ∧ DJ a.n = true ∧ t.state = 0 ∧ (0 ≤ t.pos ∧ t.pos < t.acts.length) := by
 have hgo := good_of hg
 have h9 : AM w.room.length t = true := by
  unfold AC at hg;simp only [Nk, Np] at hg;exact hg.2.2.2.2.2.2.2.2 t ht
 unfold AM BK at h9;simp only [Nk, decide_eq_true_eq, Np] at h9
 have hs : t.state = 0 := Classical.byContradiction fun h => by unfold ways at ha; rw [if_neg h] at ha; cases ha
 have hp := hgo.pos t ht
 have hp1 := hp.2.1 hs
 have hch := (hgo.ways t ht).2 a ha
 refine ⟨?_, hch, ?_, hs, hp.1, hp1⟩
 all_goals
  rw [EU hs hp.1 hp1] at ha
  have hga := h9.1.1 _ (Nl (l := t.acts) (n := t.pos.toNat) (by omega))
  unfold AJ at hga;split at ha
  ·rename_i hk
   rw [if_pos hk] at hga;simp only [Nk, Np] at hga
   have := hga.1 a ha
   unfold caseAct AI at this;simp only [Nk, decide_eq_true_eq] at this
   grind [DJ]
  ·rename_i hk
   rw [if_neg hk] at hga;rw [OE] at ha;subst ha;unfold AI at hga;simp only [Nk, decide_eq_true_eq] at hga
   grind [DJ]
theorem F7 : ∀ {hs : List (List Int)} {rs : List Int}, BT hs rs = true ↔ ∀ (k : Nat) (h1 : k < hs.length) (h2 : k < rs.length), ((hs[k].length : Int) ≤ rs[k]) ∧ BD hs[k] (-1000) 1000 = true
 | [], _ => by simp [BT]
 | _ :: _, [] => by simp [BT]
 | l :: hs, r :: rs => by
  rw [BT, Nk, Nk, decide_eq_true_eq, F7]
  constructor
  ·rintro ⟨a, b, h⟩ k h1 h2
   cases k with
   | zero => exact ⟨a, b⟩
   | succ k => exact h k (by simpa using h1) (by simpa using h2)
  ·intro h
   refine ⟨(h 0 (by simp) (by simp)).1, (h 0 (by simp) (by simp)).2, fun k h1 h2 => ?_⟩;exact h (k + 1) (by simpa using h1) (by simpa using h2)
structure GW (w : World) : Prop where
 room : (1 : Int) ≤ w.room.length ∧ (w.room.length : Int) ≤ 3
 held : (w.held.length : Int) = w.room.length
 shut : (w.shut.length : Int) = w.room.length
 rooms : BD w.room 0 3 = true
 tasks : (1 : Int) ≤ w.tasks.length ∧ (w.tasks.length : Int) ≤ 4
 trace : (w.trace.length : Int) ≤ 120
 tr : BD w.trace (-1000) 1000 = true
 hs : ∀ (k : Nat) (h1 : k < w.held.length) (h2 : k < w.room.length), ((w.held[k].length : Int) ≤ w.room[k]) ∧ BD w.held[k] (-1000) 1000 = true
 ts : ∀ t, t ∈ w.tasks → AM w.room.length t = true
theorem gw_iff {w : World} : AC w = true ↔ GW w := by
 unfold AC;simp only [Nk, decide_eq_true_eq, Np, F7];exact ⟨fun ⟨a, b, d, e, f, g, h, i, j⟩ => ⟨a, b, d, e, f, g, h, i, j⟩, fun h => ⟨h.1, h.2, h.3, h.4, h.5, h.6, h.7, h.8, h.9⟩⟩
theorem Hn {w : World} (h : GW w) {i : Int} {t : Task} (ht : AM w.room.length t = true) : GW (setT w i t) :=
 { h with
  tasks := by have e : (setT w i t).tasks.length = w.tasks.length := Ns; rw [e]; exact h.tasks
  ts := fun u hu => by
   rcases OK hu with hu | rfl
   ·exact h.ts u hu
   ·exact ht }
theorem B5 {w : World} {i j : Int} {t : Task} (h0 : 0 ≤ i) (h1 : i < w.tasks.length) (hj : 0 ≤ j) : tk (setT w i t) j = if j = i then t else tk w j := by
 unfold tk setT at0
 by_cases e : j = i
 ·subst e; rw [if_pos rfl]; simp only; rw [List.getElem?_set_self (by omega)]; rfl
 ·rw [if_neg e]; simp only; rw [List.getElem?_set_ne (by omega)]
theorem Iy {w : World} {i : Int} (h0 : 0 ≤ i) (h1 : i < w.tasks.length) : tk w i ∈ w.tasks := by
 rw [tk, AL h0 h1]; exact Nl _
theorem LA {c : Int} {t : Task} (h : AM c t = true) (hs : t.state = 0) (hp : t.pos < t.acts.length) : AM c (advT t) = true := by
 unfold AM at h ⊢;simp only [Nk, decide_eq_true_eq] at h ⊢
 obtain ⟨a, b, d, e, f⟩ := h
 unfold advT
 refine ⟨a, by simp only; omega, ?_, e, ?_⟩ <;> simp only <;> split <;> omega
theorem MB {c : Int} {t : Task} (h : AM c t = true) (hp : t.pos < t.acts.length) : AM c { t with state := 2 } = true := by
 unfold AM at h ⊢;simp only [Nk, decide_eq_true_eq] at h ⊢
 obtain ⟨a, b, d, e, f⟩ := h
 exact ⟨a, b, by omega, e, by omega⟩
theorem Gl {c : Int} {t : Task} (h : AM c t = true) {n : Int} (hn : DJ n = true) : AM c { t with last := n } = true := by
 unfold AM at h ⊢;simp only [Nk, decide_eq_true_eq] at h ⊢
 obtain ⟨a, b, d, e, f⟩ := h
 exact ⟨a, b, d, hn, f⟩
theorem FK {w : World} (h : GW w) {i : Int} (h0 : 0 ≤ i) (h1 : i < w.tasks.length) (hs : (tk w i).state = 0) (hp : (tk w i).pos < (tk w i).acts.length) : GW (advW w i) :=
 Hn h (LA (h.ts _ (Iy h0 h1)) hs hp)
theorem K7 {w : World} (h : GW w) {c : Int} (hc0 : 0 ≤ c) (hc1 : c < w.room.length) {v : List Int} (hv : (v.length : Int) ≤ at0 0 w.room c) (hva : BD v (-1000) 1000 = true) : GW { w with held := w.held.set c.toNat v } :=
 { h with
  held := by show ((w.held.set c.toNat v).length : Int) = _; rw [Ns]; exact h.held
  hs := fun k h1 h2 => by
   have h3 : k < w.held.length := by have : k < (w.held.set c.toNat v).length := h1; rwa [Ns] at this
   show (((w.held.set c.toNat v)[k]'h1).length : Int) ≤ w.room[k]'h2 ∧ BD ((w.held.set c.toNat v)[k]'h1) (-1000) 1000 = true;rw [List.getElem_set];split
   ·rename_i e
    subst e;rw [AL hc0 hc1] at hv;exact ⟨hv, hva⟩
   ·exact h.hs k h3 h2 }
theorem NE {w : World} (h : GW w) {l : List Bool} (hl : l.length = w.shut.length) : GW { w with shut := l } :=
 { h with shut := by show (l.length : Int) = _; rw [hl]; exact h.shut }
theorem L9 {w : World} (h : GW w) {l : List Int} (hl : (l.length : Int) ≤ 120) (ha : BD l (-1000) 1000 = true) : GW { w with trace := l } :=
 { h with trace := hl, tr := ha }
theorem H0 {l : List Int} {n lo hi : Int} (h : BD l lo hi = true) (hn : lo ≤ n ∧ n ≤ hi) : BD (l ++ [n]) lo hi = true := by
 unfold BD at h ⊢;rw [List.all_append, h]
 simp [hn]
theorem KG {l : List Int} {k : Nat} {lo hi : Int} (h : BD l lo hi = true) : BD (l.drop k) lo hi = true := by
 unfold BD at h ⊢;rw [Np] at h ⊢
 exact fun x hx => h x (List.mem_of_mem_drop hx)
theorem inNum_iff {n : Int} : DJ n = true ↔ -1000 ≤ n ∧ n ≤ 1000 := by unfold DJ; rw [decide_eq_true_eq]
theorem Ie {w : World} (h : GW w) {c : Int} (hc0 : 0 ≤ c) (hc1 : c < w.room.length) : ((at0 [] w.held c).length : Int) ≤ at0 0 w.room c ∧ BD (at0 [] w.held c) (-1000) 1000 = true := by
 have e := h.held
 rw [AL hc0 (by omega), AL hc0 hc1];exact h.hs c.toNat (by omega) (by omega)
theorem EI {w : World} {mv : List Int} (hg : AC w = true) (hm : Ll w mv) (hd : GA w mv = true) : AC (doW w mv) = true := by
 rw [gw_iff]
 have h := gw_iff.1 hg
 have hat : Ax w mv ∈ ways (tk w (at0 0 mv 0)) := by rw [Ax, AL hm.k0 hm.k1]; exact Nl _
 have htm := Iy hm.i0 hm.i1
 obtain ⟨hk, hch, hn, hst, hp⟩ := CY hg htm hat
 have hla : DJ (tk w (at0 0 mv 0)).last = true := by
  have := h.ts _ htm
  unfold AM at this;simp only [Nk] at this;exact this.2.2.2.1
 rw [inNum_iff] at hn hla
 have hho := Ie h hch.1 hch.2
 have hdd : (doW w mv).trace.length ≤ 120 := of_decide_eq_true hd
 have hj := hm.j
 have hi0 := hm.i0
 have hi1 := hm.i1
 unfold doW at hdd ⊢;generalize hA : Ax w mv = A at *;generalize hI : at0 0 mv 0 = I at *;generalize hJ : at0 0 mv 2 = J at *;split
 ·rename_i h3
  rw [if_pos h3] at hdd
  have hlen : (w.trace ++ [(tk w I).last]).length ≤ 120 := hdd
  exact FK (L9 h (by omega) (H0 h.tr hla)) hi0 hi1 hst hp.2
 ·split
  ·exact Hn h (MB (h.ts _ htm) hp.2)
  ·split
   ·exact FK (NE h Ns) hi0 hi1 hst hp.2
   ·split
    ·rename_i hs5
     obtain ⟨hj1, hj2, hj3⟩ := hj.resolve_left (by omega)
     have hjm := Iy hj1.1 hj1.2
     have hjs : (tk w J).state = 0 := Classical.byContradiction fun hx => by unfold ways at hj3; rw [if_neg hx] at hj3; simp at hj3
     have hjp := (good_of hg).pos _ hjm
     have g1 : GW (setT w J { tk w J with last := A.n }) := Hn h (Gl (h.ts _ hjm) (inNum_iff.2 hn))
     have e1 : tk (setT w J { tk w J with last := A.n }) J = { tk w J with last := A.n } := by rw [B5 hj1.1 hj1.2 hj1.1, if_pos rfl]
     have l1 : ∀ (w : World) (i : Int) (t : Task), (setT w i t).tasks.length = w.tasks.length := fun w i t => Ns
     have g2 : GW (advW (setT w J { tk w J with last := A.n }) J) := FK g1 hj1.1 (by rw [l1]; exact hj1.2) (by rw [e1]; exact hjs) (by rw [e1]; exact hjp.2.1 hjs)
     have e2 : tk (advW (setT w J { tk w J with last := A.n }) J) I = tk w I := by
      rw [advW, B5 hj1.1 (by rw [l1]; exact hj1.2) hi0, if_neg hj2, B5 hj1.1 hj1.2 hi0, if_neg hj2]
     exact FK g2 hi0 (by rw [advW, l1, l1]; exact hi1) (by rw [e2]; exact hst) (by rw [e2]; exact hp.2)
    ·split
     ·rename_i hns hk1
      have hal : CJ w A = true := (hj.resolve_right (by omega)).2
      have hsh : ¬ at0 false w.shut A.chan = true := by grind
      have hroom : ((at0 [] w.held A.chan).length : Int) < at0 0 w.room A.chan := by
       unfold CJ at hal;rw [if_pos hk1] at hal;simp only [Bool.or_eq_true, decide_eq_true_eq] at hal;exact hal.resolve_left hsh
      exact FK (K7 h hch.1 hch.2 (by simp; omega) (H0 hho.2 hn)) hi0 hi1 hst hp.2
     ·split
      ·rename_i hh
       have hn0 : DJ (at0 0 (at0 [] w.held A.chan) 0) = true := by
        have h5 := hho.2
        unfold BD at h5;rw [Np] at h5
        have h6 := h5 _ (Nl (l := at0 [] w.held A.chan) (n := 0) hh)
        rw [AL (by omega) (by omega)];exact inNum_iff.2 (of_decide_eq_true h6)
       have g1 : GW (setT w I { tk w I with last := at0 0 (at0 [] w.held A.chan) 0 }) := Hn h (Gl (h.ts _ htm) hn0)
       have e1 : tk (setT w I { tk w I with last := at0 0 (at0 [] w.held A.chan) 0 }) I = { tk w I with last := at0 0 (at0 [] w.held A.chan) 0 } := by rw [B5 hi0 hi1 hi0, if_pos rfl]
       have l1 : (setT w I { tk w I with last := at0 0 (at0 [] w.held A.chan) 0 }).tasks.length = w.tasks.length := Ns
       refine FK (w := { setT w I { tk w I with last := at0 0 (at0 [] w.held A.chan) 0 } with held := w.held.set A.chan.toNat ((at0 [] w.held A.chan).drop 1) }) (K7 g1 hch.1 hch.2 ?_ (KG hho.2)) hi0 (by show I < ((setT w I _).tasks.length : Int); rw [l1]; exact hi1) ?_ ?_
       ·rw [OS]; show _ ≤ at0 0 w.room A.chan; omega
       ·show (tk (setT w I _) I).state = 0
        rw [e1]; exact hst
       ·show (tk (setT w I _) I).pos < (tk (setT w I _) I).acts.length
        rw [e1]; exact hp.2
      ·have g1 : GW (setT w I { tk w I with last := 0 }) := Hn h (Gl (h.ts _ htm) rfl)
       have e1 : tk (setT w I { tk w I with last := 0 }) I = { tk w I with last := 0 } := by rw [B5 hi0 hi1 hi0, if_pos rfl]
       have l1 : (setT w I { tk w I with last := 0 }).tasks.length = w.tasks.length := Ns
       exact FK g1 hi0 (by rw [l1]; exact hi1) (by rw [e1]; exact hst) (by rw [e1]; exact hp.2)
open Go.Eng
theorem MA (n : Int) (h0 : 0 ≤ n) (hn : n ≤ 1073741824) : Fun Try.prog 83 [.nil, .t (.int n)] (tupD [.own (T.ints [])]) := by
 refine Fun.begin tys Try.func83 Z Z (N := 27) [(0, .nil), (1, .t (.int n))] Z Z (fun w0 G F0 => ?_);refine sG (eZ Z (nB (sQ (sG (eK 2 Z (nB ?_))))));refine AD Z (fun h1 => ?_) (fun h1 => ?_)
 ·
  simp only [HS] at h1
  exfalso; first | omega | (simp_all; done) | (simp_all; omega)
 simp only [HS] at h1;refine AE (tN (sQ (sG (eK 2 Z (H6 Z Z (AA Z) Z ⟨3, by kernel_rfl⟩ rfl (eZ Z (evE ?_)))))));refine evI ?_;refine kZ [0,1,4,8,13] Z (evI ?_);refine eZ Z (nA (eK 2 Z (nB ?_)));refine AD Z (fun h2 => ?_) (fun h2 => ?_)
 ·
  simp only [HS] at h2;refine rG (eK 2 Z (H6 Z Z (AA Z) Z ⟨3, by kernel_rfl⟩ rfl (Ir tys Z Z (AA Z) Z Z Z Z Z Z Z (eZ Z (kZ [0,4,20,21] Z ?_)))));refine KM tys (.v (.int .i64 0)) Z Z (AA Z) Z Z Z Z (by kernel_rfl) Z Z (by repeat (first | exact AbsL.nil' | refine AbsL.v' ?_ | refine AbsL.none' ?_)) Z (by decide) (by omega) (by omega) (by decide) ?_;refine nZ Z (eZ Z (evE ?_));refine H2 tys Z Z (AA Z) Z Z Z Z Z Z Z Z Z (by omega) (by omega) (by omega) (eZ Z (nA (eK 2 Z (nB (W_le (Le.gather (u := 4) (id := 22) Z Z (by simp)) ?_)))));refine rT (eR ?_)
  ·rfl
 simp only [HS] at h2;refine AE (tN (sG (eK 2 Z (nB (W_le (Le.nilOwn (u := 4) 1 Z) (rT (eR ?_)))))))
 ·rfl
theorem Kl (l : List Int) : ∀ x, x ∈ l.map T.int → (T.cells x).length = 1 ∧ ∀ y, y ∈ T.cells x → ∃ v, y = .v v := by
 intro x hx
 obtain ⟨n, _, rfl⟩ := OM.1 hx
 exact ⟨rfl, fun y hy => by simp [T.cells] at hy; exact ⟨_, hy⟩⟩
theorem GB (l : List (List Int)) (hl : l.length ≤ 1048576) (hs : l.flatten.length ≤ 1048576) : Fun Try.prog 47 [.t (Af l)] (tupD [.own (T.ints l.flatten)]) := by
 refine Fun.begin tys Try.func47 Z Z (N := 36) [(0, .t (Af l))] Z Z (fun w0 G F0 => ?_);refine sG (eZ Z (nA (eZ Z (nB (sQ (sG (eZ Z (evE ?_))))))));refine eZ Z (nB (AG ?_));refine lK (α := Int × Int) [0, 9, 10] [] (fun x => [(11, .t (.int (x.1))), (3, .t (.int (x.2)))]) (fun x => []) (fun x => 0 ≤ (x.1) ∧ (x.1) ≤ l.length ∧ 0 ≤ (x.2) ∧ (x.2) + (l.drop (x.1).toNat).flatten.length = l.flatten.length) (fun x => Int.toNat (l.length - (x.1))) (0, 0) ?_ (fun x hx => ?_)
 ·exact ⟨by omega, by omega, by omega, by simp⟩
 obtain ⟨k, n⟩ := x
 obtain ⟨hk0, hk1, hk2, hk⟩ := hx
 dsimp only at hk0 hk1 hk2 hk ⊢;refine nY Z (sG (eZ Z (nB (sQ ?_))));refine AD Z (fun h1 => ?_) (fun h1 => ?_)
 ·
  simp only [HS] at h1;refine AE (tN (sQ (AG (sG ?_))));refine iY (k := ?_);refine eK 2 Z (nA (eK 2 Z (evE ?_)))
  have hk3 := LD hk0 h1
  have hk4 := congrArg List.length hk3
  simp only [Nu] at hk4;refine Ji tys Z Z (AA Z) Z (Df (by omega) (by omega)) (eZ Z (kZ [0,3,5,9,10,11,12,13,14,15,16,17,18] Z (nA (eK 2 Z (nB ?_)))));refine AD Z (fun h2 => ?_) (fun h2 => ?_)
  ·
   simp only [HS] at h2
   exfalso; first | omega | (simp_all; done) | (simp_all; omega)
  simp only [HS] at h2;refine AE (bN (tN (rG (evI ?_))));refine eZ Z (oN ?_);refine lQ (_, _) ?_ ?_
  ·dsimp only
   exact ⟨by omega, by omega, by omega, by omega⟩
  ·(show Int.toNat _ < Int.toNat _); omega
 simp only [HS] at h1;refine AR (tE (AO (AN (tN (sG (eZ Z (AQ ?_)))))));refine ⟨_, MA _ (by omega) (by omega), rfl, ?_⟩;refine WO_le (Le.adoptE (u := 24) 24 Z (by first | exact He | exact Z)) ?_;refine nZ Z (eZ Z (nB (sQ (sG (eZ Z (evE ?_))))));refine eZ Z (nB (AG ?_));refine lK (α := Int × Nat × List T) [0, 25, 26] [] (fun x => [(27, .t (.int (x.1))), (6, .sl 24 0 (x.2.1))]) (fun x => [(24, .L 1 (x.2.2))]) (fun x => 0 ≤ (x.1) ∧ (x.1) ≤ l.length ∧ (x.2.1) = (x.2.2).length ∧ (x.2.2) = (l.take (x.1).toNat).flatten.map T.int) (fun x => Int.toNat (l.length - (x.1))) (0, 0, []) ?_ (fun x hx => ?_)
 ·exact ⟨by omega, by omega, by simp, by simp⟩
 obtain ⟨j, m, xs⟩ := x
 obtain ⟨hj0, hj1, hj2, hj3⟩ := hx
 dsimp only at hj0 hj1 hj2 hj3 ⊢;refine nY Z (sG (eZ Z (nB (sQ ?_))));refine AD Z (fun h2 => ?_) (fun h2 => ?_)
 ·
  simp only [HS] at h2;refine AE (tN (sQ (AG (sG ?_))));refine iY (k := ?_);refine eK 2 Z (nB (rG (eK 2 Z (Ab tys Z Z (AA Z) Z Z Z Z Z (.own Z (by first | omega | (simp only [Nu]; omega))) Z (.read (Kl _)) (by decide) (by have hq := Gm (l := l) j.toNat; rw [LD hj0 (by omega)] at hq; simp only [hj3, Nu, N0, Nj, N6] at hq ⊢; omega) (by decide) Z ?_))));refine nZ Z (eZ Z (oN (bN (tN (kY [0,6,8,25,26,27,28,29,30,31,32,33] Z (rG (evI ?_)))))));refine eZ Z (oN ?_);refine lQ (_, _, _) ?_ ?_
  ·dsimp only
   exact ⟨by omega, by omega, by simp [hj2], by rw [hj2, Ni (Nm _), Hp hj0 (by omega), OU, ← hj3]⟩
  ·(show Int.toNat _ < Int.toNat _); omega
 simp only [HS] at h2;refine AR (tE (AO (AN (tN (sG (eK 2 Z (nB (W_le (Le.gather (u := 2) (id := 24) Z Z (by omega)) (rT (eR ?_))))))))))
 ·rw [hj2, Ni (Nm _), hj3, BF (by omega)]; rfl
theorem LC {α : Type} {m : Nat} : ∀ {ll : List (List α)}, (∀ l, l ∈ ll → l.length ≤ m) → ll.flatten.length ≤ ll.length * m
 | [], _ => by simp
 | l :: ll, h => by
  have h1 := h l (OP ..)
  have h2 := LC fun x hx => h x (OB l hx)
  rw [List.flatten_cons, Nu, Nx, Nat.add_mul];omega
open Go.Eng
def addW (a x : Int) : Int := IntKind.i64.wrap (a + x)
def IK (s : Int) (l : List Int) : Int := l.foldl addW s
def Eu (w : World) : List (List Int) := w.held ++ [w.trace]
def sumR (w : World) : Int := if AC w then IK 0 (Eu w).flatten else 0
theorem Kc {s : Int} {l : List Int} {k : Int} (h0 : 0 ≤ k) (h1 : k < l.length) : IK s (l.take (k + 1).toNat) = addW (IK s (l.take k.toNat)) (l[k.toNat]'(by omega)) := by
 unfold IK; rw [Bf h0 h1, List.foldl_append]; rfl
theorem Ls (s : Int) (a b : List Int) : IK s (a ++ b) = IK (IK s a) b := by unfold IK; rw [List.foldl_append]
theorem Kb {l : List (List Int)} {k : Int} (h0 : 0 ≤ k) (h1 : k < l.length) : IK 0 (l.take (k + 1).toNat).flatten = IK (IK 0 (l.take k.toNat).flatten) (l[k.toNat]'(by omega)) := by
 rw [Bf h0 h1, List.flatten_append, Ls]; simp
theorem K6 : ∀ {hs : List (List Int)} {rs : List Int}, BT hs rs = true → hs.length = rs.length → (∀ r, r ∈ rs → r ≤ 3) → ∀ l, l ∈ hs → l.length ≤ 3
 | [], _, _, _, _, l, hl => by cases hl
 | _ :: _, [], _, h, _, l, hl => by simp at h
 | h :: hs, r :: rs, hg, hlen, hr, l, hl => by
  rw [BT, Nk, Nk, decide_eq_true_eq] at hg
  have h3 := hr r (by simp)
  rcases N2.1 hl with rfl | hl
  ·omega
  ·exact K6 hg.2.2 (by simpa using hlen) (fun r hr' => hr r (by simp [hr'])) l hl
theorem Hm {w : World} (h : AC w = true) : (∀ l, l ∈ w.held → l.length ≤ 3) ∧ w.held.length ≤ 3 ∧ w.trace.length ≤ 120 := by
 have hg := good_of h
 unfold AC at h;simp only [Nk, decide_eq_true_eq] at h
 obtain ⟨h1, h2, h3, h4, h5, h6, h7, h8, h9⟩ := h
 refine ⟨K6 h8 (by omega) (fun r hr => ?_), by omega, by omega⟩;unfold BD at h4;rw [Np] at h4
 have := h4 r hr
 simp at this
 omega
theorem MX {w : World} (h : AC w = false) : [D.t (T.v (.int .i64 0)), D.t (T.v (.bool false))] = [D.t (T.int (sumR w)), D.t (T.bool (AC w))] := by
 rw [sumR, h]; rfl
theorem Ka {w : World} {n : Int} (h : AC w = true) (hn : n = IK 0 (Eu w).flatten) : [D.t (T.v (.int .i64 n)), D.t (T.v (.bool true))] = [D.t (T.int (sumR w)), D.t (T.bool (AC w))] := by
 rw [sumR, h, hn]; rfl
theorem IM (w : World) (hw : w.ok 1048576) : Fun Try.prog 20 [.t w.tt] (tupD [.t (.int (sumR w)), .t (.bool (AC w))]) := by
  refine Fun.begin tys Try.func20 Z Z (N := 37) [(0, .t w.tt)] Z Z (fun w0 G F0 => ?_);refine sG (Aa Z Z (AA Z) Z Z (nZ Z (eK 2 Z (nB (sQ (sG (eZ Z ?_)))))))
  try refine WO_le (Le.freeze (u := 9) rfl) ?_
  refine nZ Z (AQ ?_);refine ⟨_, A2 w hw, rfl, ?_⟩;refine eZ Z (nB ?_);refine AD Z (fun h1 => ?_) (fun h1 => ?_)
  ·
    simp only [HS] at h1;refine sG (eK 2 Z (nB (rT (tR (eR ?_)))))
    · first
      | exact MX h1
  simp only [HS] at h1;refine AE (tN (sG (eZ Z (nB (sQ (sQ ?_))))))
  have hgl := Hm h1
  refine KH (u := 1) (j := 1) (ts := w.held.map T.ints) 101 rfl rfl rfl (fun t ht => by obtain ⟨l, _, rfl⟩ := OM.1 ht; rfl) (fun us hus => ?_);refine nY Z ?_;refine LR (u := 1) (j := 4) 102 Z Z Z (fun v => ?_);refine nY Z ?_;rw [Nj] at hus;refine kY [1,2,3,4] Z (KJ Ac (by kernel_rfl) ?_);refine BC tys [] Z Z (AA Z) Z Z Z Z Z (by decide) (by repeat (first | exact PartsOk.nil' | refine PartsOk.cons' rfl (by repeat (first | exact AbsL.nil' | refine AbsL.v' ?_ | refine AbsL.own' ?_ | refine AbsL.none' ?_)) Z ?_)) Z Z Z (by decide) ?_;refine QG_ev tys rfl rfl (AA rfl) rfl (QG_ev tys rfl rfl (AA rfl) rfl (IA tys rfl rfl (AA rfl) rfl rfl rfl rfl rfl rfl rfl rfl (fun _ => .read (fun x hx => by obtain ⟨y, _, rfl⟩ := OM.1 hx; exact ⟨rfl, fun z hz => ⟨y, by simpa [T.cells] using hz⟩⟩)) (by simp; omega) (by decide) rfl ?_));refine QG_ev tys Z Z (AA Z) Z (QG_ev tys Z Z (AA Z) Z (BW Z ?_));refine BC tys [T.v v] Z Z (AA Z) Z Z Z Z Z (AA Z) (by repeat (first | exact PartsOk.nil' | refine PartsOk.cons' rfl (by repeat (first | exact AbsL.nil' | refine AbsL.v' ?_ | refine AbsL.own' ?_ | refine AbsL.none' ?_)) Z ?_)) Z Z Z (by decide) ?_;refine B7 tys Z Z (AA Z) Z Z Z Z Z Z Z Z Z ((fun x hx => by rw [OE] at hx; subst hx; exact ⟨rfl, fun z hz => ⟨v, by simpa [T.cells] using hz⟩⟩)) (by simp; omega) (by decide) Z ?_;refine Ng Z Z (AA Z) Z ⟨24, by kernel_rfl⟩ rfl (show _ = ((Eu w).length : Int) by simp [Eu, hus]) ?_;refine QG_ev tys Z Z (AA Z) Z (AF ?_);refine ⟨by kernel_rfl, ?_⟩;refine nZ Z (WO_le (Le.freeze (u := 19) Z) (nZ Z (WO_le (Le.roJoin 101 102 Z Z) (nZ Z ?_))))
  refine WO_le (Le.roReadE (u := 19) (id := 101) (ts' := (Eu w).map T.ints) Z Z (by simp) (by simp [Eu, T.ints]) (fun t ht => by
   rcases Nn.1 ht with ht | ht
   · obtain ⟨l, _, rfl⟩ := OM.1 ht; rfl
   · rw [OE] at ht; subst ht; rfl)) ?_
  refine nZ Z (nB (AG ?_));refine lK (α := Int × Int) [1, 2, 3, 19, 20] [] (fun x => [(21, .t (.int (x.1))), (4, .t (.int (x.2)))]) (fun x => []) (fun x => 0 ≤ (x.1) ∧ (x.1) ≤ (Eu w).length ∧ (x.2) = IK 0 ((Eu w).take (x.1).toNat).flatten) (fun x => Int.toNat ((Eu w).length - (x.1))) (0, 0) ?_ (fun x hx => ?_)
  · exact ⟨by omega, by omega, rfl⟩
  obtain ⟨k, n⟩ := x
  obtain ⟨hk0, hk1, hn⟩ := hx
  dsimp only at hk0 hk1 hn ⊢;refine nY Z (sG (eZ Z (nB (sQ ?_))));refine AD Z (fun h2 => ?_) (fun h2 => ?_)
  ·
    simp only [HS] at h2;refine AE (tN (sQ (AG (sG ?_))));refine iY (k := ?_);refine eK 2 Z (nA ?_)
    have hL : (Eu w).length ≤ 4 := by simp [Eu]; omega
    have hlk : ((Eu w)[k.toNat]'(by omega)).length ≤ 120 := by
     rcases Nn.1 (Nl (l := Eu w) (n := k.toNat) (by omega)) with h | h
     · have := hgl.1 _ h; omega
     · rw [OE] at h; rw [h]; exact hgl.2.2
    refine eZ Z (evE ?_);refine eZ Z (nB (AG ?_));refine lK (α := Int × Int) [1, 2, 3, 19, 20, 21, 25, 26] [] (fun x => [(27, .t (.int (x.1))), (4, .t (.int (x.2)))]) (fun x => []) (fun x => 0 ≤ (x.1) ∧ (x.1) ≤ ((Eu w)[k.toNat]'(by omega)).length ∧ (x.2) = IK n (((Eu w)[k.toNat]'(by omega)).take (x.1).toNat)) (fun x => Int.toNat (((Eu w)[k.toNat]'(by omega)).length - (x.1))) (0, n) ?_ (fun x hx => ?_)
    · exact ⟨by omega, by omega, rfl⟩
    obtain ⟨i, m⟩ := x
    obtain ⟨hi0, hi1, hm⟩ := hx
    dsimp only at hi0 hi1 hm ⊢;refine nY Z (sG (eZ Z (nB (sQ ?_))));refine AD Z (fun h3 => ?_) (fun h3 => ?_)
    ·
      simp only [HS] at h3;refine AE (tN (sQ (AG (sG ?_))));refine iY (k := ?_);refine eK 2 Z (nB (rG (eK 4 Z (oN (bN (tN (kY [1,2,3,4,8,19,20,21,25,26,27,28,29,30,31,32,33] Z (rG (evI ?_)))))))));refine eZ Z (oN ?_);refine lQ (_, _) ?_ ?_
      · dsimp only
        refine ⟨by omega, by omega, ?_⟩;rw [Kc hi0 (by omega), ← hm];rfl
      · (show Int.toNat _ < Int.toNat _); omega
    simp only [HS] at h3;refine AR (tE (AO (AN (bN (tN (rG (evI ?_)))))));refine eZ Z (oN ?_);refine lQ (_, _) ?_ ?_
    · dsimp only
      refine ⟨by omega, by omega, ?_⟩;rw [hm, hn, BF (l := (Eu w)[k.toNat]'(by omega)) (k := i) (by omega), Kb hk0 (by omega)]
    · (show Int.toNat _ < Int.toNat _); omega
  simp only [HS] at h2;refine AR (tE (AO (AN (tN (sG (eK 3 Z (nB (rT (eR ?_)))))))))
  · first
    | exact Ka h1 (by rw [hn, BF (by omega)])
theorem flatA (w : World) : [w.held.flatten, w.trace].flatten = (Eu w).flatten := by simp [Eu]
theorem NR (w : World) (h : w.held.flatten.length + w.trace.length ≤ 1048576) : Fun Try.prog 47 [.t (Af [w.held.flatten, w.trace])] (tupD [.own (T.ints (Eu w).flatten)]) := by
 rw [← flatA];exact GB _ (by simp) (by rw [List.flatten_cons, List.flatten_cons, List.flatten_nil, OD, Nu]; exact h)
theorem IY (w : World) (hw : w.ok 1048576) (hw' : w.ok 9223372036854775807) : Fun Try.prog 19 [.t w.tt] (tupD [.t (.int (sumR w)), .t (.bool (AC w))]) := by
 refine Fun.begin tys Try.func19 Z Z (N := 27) [(0, .t w.tt)] Z Z (fun w0 G F0 => ?_);refine sG (Aa Z Z (AA Z) Z Z (nZ Z (eK 2 Z (nB (sQ (sG (eZ Z ?_)))))))
 try refine WO_le (Le.freeze (u := 7) rfl) ?_
 refine nZ Z (AQ ?_);refine ⟨_, CR w hw hw', rfl, ?_⟩;refine eZ Z (nB ?_);refine AD Z (fun h1 => ?_) (fun h1 => ?_)
 ·
  simp only [HS] at h1;refine sG (eK 2 Z (nB (rT (tR (eR ?_)))))
  ·first
   | exact MX h1
 simp only [HS] at h1;refine AE (tN (sG (eZ Z (nB (sQ (sQ ?_))))))
 have hgl := Hm h1
 have hf1 : w.held.flatten.length ≤ 9 := by have := LC hgl.1; omega
 have hfl : (Eu w).flatten.length ≤ 129 := by rw [← flatA, List.flatten_cons, List.flatten_cons, List.flatten_nil, OD, Nu]; omega
 refine kY [1,2,3,4] Z (Ip 5 8 Ac Z Z Z Z Z Z Z (AA Z) (by kernel_rfl) (by kernel_rfl) (by kernel_rfl) (by kernel_rfl) (by kernel_rfl) (evQ ?_));refine evQ ?_;refine Cb ?_;refine ⟨_, GB w.held (by omega) (by omega), rfl, ?_⟩;refine evQ ?_;refine evQ ?_;refine Aj (nZ Z (WO_le (Le.freeze (u := 12) Z) (nZ Z ?_)));refine H7 tys [T.ints w.held.flatten, T.ints w.trace] Z Z (AA Z) Z Z Z Z Z (by decide) (by repeat (first | exact PartsF.nil' | refine PartsF.cons' rfl Z ?_)) Z ?_;refine nZ Z (AQ ?_);refine ⟨_, NR w (by omega), rfl, ?_⟩;refine WO_le (Le.adoptE (u := 16) 16 Z (by first | exact He | exact Z)) ?_;refine nZ Z (evE ?_);refine oN (nQ_n (tN (AG ?_)));refine lK (α := Int × Int) [1, 2, 3, 16, 17] [16] (fun x => [(18, .t (.int (x.1))), (4, .t (.int (x.2)))]) (fun x => []) (fun x => 0 ≤ (x.1) ∧ (x.1) ≤ (Eu w).flatten.length ∧ (x.2) = IK 0 ((Eu w).flatten.take (x.1).toNat)) (fun x => Int.toNat ((Eu w).flatten.length - (x.1))) (0, 0) ?_ (fun x hx => ?_)
 ·exact ⟨by omega, by omega, rfl⟩
 obtain ⟨k, n⟩ := x
 obtain ⟨hk0, hk1, hn⟩ := hx
 dsimp only at hk0 hk1 hn ⊢;refine nY Z (sG (eZ Z (nB (sQ ?_))));refine AD Z (fun h2 => ?_) (fun h2 => ?_)
 ·
  simp only [HS] at h2;refine AE (tN (sQ (AG (sG (BE tys Z Z (AA Z) Z Z Z Z Z Z Z Z (by omega) (by omega) (Bl tys Z Z (AA Z) Z Z Z Z (Ig _ _ (by omega) (by omega)) Z (eZ Z (nB (rG (eK 4 Z (oN (bN (tN (kY [1,2,3,4,6,16,17,18,19,20,21,22,23,24] Z (rG ?_)))))))))))))));refine evI ?_;refine eZ Z (oN ?_);refine lQ (_, _) ?_ ?_
  ·dsimp only
   refine ⟨by omega, by omega, ?_⟩;rw [Kc hk0 (by omega), ← hn];rfl
  ·(show Int.toNat _ < Int.toNat _); omega
 simp only [HS] at h2;refine AR (tE (AO (AN (tN (sG (eK 3 Z (nB (rT (eR ?_)))))))))
 ·first
  | exact Ka h1 (by rw [hn, BF (by omega)])
open Go.Eng
theorem Ma (l : List Int) : ∀ x, x ∈ l.map T.int → (T.cells x).length = 1 ∧ ∀ y, y ∈ T.cells x → ∃ v, y = .v v := by
 intro x hx
 obtain ⟨n, _, rfl⟩ := OM.1 hx
 exact ⟨rfl, fun y hy => by simp [T.cells] at hy; exact ⟨_, hy⟩⟩
theorem Mb (l : List Bool) : ∀ x, x ∈ l.map T.bool → (T.cells x).length = 1 ∧ ∀ y, y ∈ T.cells x → ∃ v, y = .v v := by
 intro x hx
 obtain ⟨n, _, rfl⟩ := OM.1 hx
 exact ⟨rfl, fun y hy => by simp [T.cells] at hy; exact ⟨_, hy⟩⟩
theorem Cr (l : List Int) (hl : l.length ≤ 1073741824) : Fun Try.prog 72 [.t (T.ints l)] (tupD [.own (T.ints l)]) := by
 refine Fun.begin tys Try.func72 Z Z (N := 8) [(0, .t (T.ints l))] Z Z (fun w0 G F0 => ?_);refine sG (eZ Z (nB (sQ (sG (eZ Z ?_)))));refine Gz (e := 3) Z Z (AA Z) Z (by kernel_rfl) Z Z (fun b hb => ?_);refine nB ?_;refine AD Z (fun h1 => ?_) (fun h1 => ?_)
 ·
  refine sG (eZ Z (nB (W_le (Le.nilOwn (u := 2) 1 Z) (rT (tR (eR ?_))))))
  ·have e := List.map_eq_nil_iff.1 (hb h1)
   rw [e];rfl
 refine AE (tN (sG (bZ [] ?_)));refine nZ Z (eZ Z (Ab tys Z Z (AA Z) Z Z Z Z Z (.own Z (by first | omega | (simp only [Nu]; omega))) Z (.read (Ma _)) (by decide) (by simp; omega) (by decide) Z ?_));refine nZ Z (eZ Z (nB (W_le (Le.gather (u := 2) (id := 5) Z Z (by simp)) ?_)));refine rT (eR ?_)
 ·show [D.own (.list 1 _)] = [D.own (.list 1 _)]
  simp only [N8, List.nil_append, Nj];rw [Ni (by simp)]
theorem KC (l : List Bool) (hl : l.length ≤ 1073741824) : Fun Try.prog 73 [.t (T.bools l)] (tupD [.own (T.bools l)]) := by
 refine Fun.begin tys Try.func73 Z Z (N := 8) [(0, .t (T.bools l))] Z Z (fun w0 G F0 => ?_);refine sG (eZ Z (nB (sQ (sG (eZ Z ?_)))));refine Gz (e := 4) Z Z (AA Z) Z (by kernel_rfl) Z Z (fun b hb => ?_);refine nB ?_;refine AD Z (fun h1 => ?_) (fun h1 => ?_)
 ·
  refine sG (eZ Z (nB (W_le (Le.nilOwn (u := 2) 1 Z) (rT (tR (eR ?_))))))
  ·have e := List.map_eq_nil_iff.1 (hb h1)
   rw [e];rfl
 refine AE (tN (sG (bZ [] ?_)));refine nZ Z (eZ Z (Ab tys Z Z (AA Z) Z Z Z Z Z (.own Z (by first | omega | (simp only [Nu]; omega))) Z (.read (Mb _)) (by decide) (by simp; omega) (by decide) Z ?_));refine nZ Z (eZ Z (nB (W_le (Le.gather (u := 2) (id := 5) Z Z (by simp)) ?_)));refine rT (eR ?_)
 ·show [D.own (.list 1 _)] = [D.own (.list 1 _)]
  simp only [N8, List.nil_append, Nj];rw [Ni (by simp)]
def G3 (C : List (Act × List Value)) : List T := C.map fun c => .agg (c.2.map T.v)
theorem Jn (C : List (Act × List Value)) : (G3 C).flatMap T.cells = (C.flatMap (·.2)).map T.v := by
 unfold G3; rw [List.flatMap_map, List.map_flatMap]; rfl
theorem C7 (C : List (Act × List Value)) : (G3 C).length = C.length := Nj ..
theorem Fr {C : List (Act × List Value)} (h : ∀ c, c ∈ C → c.2.length = 4) : ∀ x, x ∈ G3 C → (T.cells x).length = 4 ∧ ∀ y, y ∈ T.cells x → ∃ v, y = .v v := by
 intro x hx
 obtain ⟨c, hc, rfl⟩ := OM.1 hx
 refine ⟨by show (c.2.map T.v).length = 4; rw [Nj, h c hc], fun y hy => ?_⟩
 obtain ⟨v, _, rfl⟩ := OM.1 hy
 exact ⟨v, rfl⟩
theorem mapAt' {α β : Type} {f : α → β} {l : List α} {k : Nat} {x : α} (h : l[k]? = some x) : (l.map f)[k]? = some (f x) := by rw [List.getElem?_map, h]; rfl
theorem LK (l : List Act) : ∀ x, x ∈ l.map Act.toT → (T.cells x).length = 4 := by
 intro x hx; obtain ⟨a, _, rfl⟩ := OM.1 hx; rw [Act.toT_eq]; rfl
theorem Im (ys : List T) (hl : ys.length ≤ 1073741824) (hr : ∀ x, x ∈ ys → (T.cells x).length = 4 ∧ ∀ y, y ∈ T.cells x → ∃ v, y = .v v) : Fun Try.prog 91 [.t (.list 4 ys)] (tupD [.own (.list 4 ys)]) := by
 refine Fun.begin tys Try.func91 Z Z (N := 8) [(0, .t (.list 4 ys))] Z Z (fun w0 G F0 => ?_);refine sG (eZ Z (nB (sQ (sG (eZ Z ?_)))));refine Gz (e := 74) Z Z (AA Z) Z (by kernel_rfl) Z Z (fun b hb => ?_);refine nB ?_;refine AD Z (fun h1 => ?_) (fun h1 => ?_)
 ·
  refine sG (eZ Z (nB (W_le (Le.nilOwn (u := 2) 4 Z) (rT (tR (eR ?_))))))
  ·rw [hb h1]
   done
 refine AE (tN (sG (bZ [] ?_)));refine nZ Z (eZ Z (Ab tys Z Z (AA Z) Z Z Z Z Z (.own Z (by first | omega | (simp only [Nu]; omega))) Z (.read hr) (by decide) (by simp; omega) (by decide) Z ?_));refine nZ Z (eZ Z (nB (W_le (Le.gather (u := 2) (id := 5) Z Z (by simp)) ?_)));refine rT (eR ?_)
 ·show [D.own (.list 4 _)] = [D.own (.list 4 _)]
  simp
  done
theorem MZ {n : Nat} : ∀ {C : List (Act × List Value)} (h : ∀ c, c ∈ C → c.2.length = n) {k j : Nat} (hk : k < C.length), j < n → (C.flatMap (·.2))[k * n + j]? = (C[k]).2[j]?
 | [], _, k, _, hk, _ => by simp at hk
 | c :: C, h, 0, j, hk, hj => by
  have := h c (by simp)
  rw [Nt, OY, N5, List.getElem?_append_left (by omega)];rfl
 | c :: C, h, k + 1, j, hk, hj => by
  have hc := h c (by simp)
  rw [Nt, List.getElem?_append_right (by rw [hc, Og]; omega)]
  have := MZ (C := C) (fun d hd => h d (by simp [hd])) (k := k) (j := j) (by simpa using hk) hj
  rw [hc, show (k + 1) * n + j - n = k * n + j from by rw [Og]; omega, this];rfl
theorem M8 {α : Type} {f : α → T} {l : List α} {ys : List T} {k : Nat} (hk : k ≤ l.length) : ((l.take k).map f ++ ys.drop k)[0 + k]? = ys[k]? := by
 rw [List.getElem?_append_right (by simp; omega)]
 simp [Oh hk]
theorem L5 {α : Type} {f : α → T} {l : List α} {ys : List T} {k : Nat} (hk : k < l.length) (hy : k < ys.length) {t : T} (ht : t = f l[k]) : ((l.take k).map f ++ ys.drop k).set (0 + k) t = (l.take (k + 1)).map f ++ ys.drop (k + 1) := by
 subst ht;rw [List.set_append_right _ _ (by simp; omega), List.take_succ_eq_append_getElem hk, OU]
 simp [Oh (Nat.le_of_lt hk)]
 rw [List.drop_eq_getElem_cons hy];rfl
theorem cloneActs_rec (l : List Act) (hl : l.length ≤ 1048576) (ih : ∀ a, a ∈ l → Fun Try.prog 74 [.t (T.Acts a.cases)] (tupD [.own (T.Acts a.cases)])) : Fun Try.prog 74 [.t (T.Acts l)] (tupD [.own (T.Acts l)]) := by
  refine Fun.begin tys Try.func74 Z Z (N := 24) [(0, .t (T.Acts l))] Z Z (fun w0 G F0 => ?_);refine sQ ?_;refine NV (u := 0) 101 Z (fun vs hvs => ?_)
  obtain ⟨C, hC1, hC2, rfl⟩ := cutV (l := l) (vs := vs) (n := 4) (by rw [hvs, Nj])
  have hCl : C.length = l.length := by rw [← hC1, Nj]
  refine ⟨G3 C, Jn C, by rw [C7, Nj, hCl], fun y hy => (Fr hC2 y hy).1, ?_⟩;refine nY Z (rG (eZ Z (nA (eZ Z (AQ ?_)))));refine ⟨_, Im _ (by rw [C7]; omega) (Fr hC2), rfl, ?_⟩;refine WO_le (Le.adoptE (u := 7) 7 Z (by first | exact He | exact Z)) ?_;refine nZ Z (eZ Z (nB (sQ (sG (eZ Z (evE ?_))))));refine eZ Z (nB (AG ?_));refine lK (α := Int × List T) [3, 8, 9] [101] (fun x => [(10, .t (.int (x.1)))]) (fun x => [(7, .L 4 (x.2))]) (fun x => 0 ≤ (x.1) ∧ (x.1) ≤ l.length ∧ (x.2) = (l.take (x.1).toNat).map Act.toT ++ (G3 C).drop (x.1).toNat) (fun x => Int.toNat (l.length - (x.1))) (0, G3 C) ?_ (fun x hx => ?_)
  · exact ⟨by omega, by omega, rfl⟩
  obtain ⟨k, zs⟩ := x
  obtain ⟨hk0, hk1, hzs⟩ := hx
  dsimp only at hk0 hk1 hzs ⊢;refine nY Z (sG (eZ Z (nB (sQ ?_))));refine AD Z (fun h1 => ?_) (fun h1 => ?_)
  ·
    simp only [HS] at h1;refine AE (tN (sQ (AG (sG (eZ Z ?_)))))
    have hkl : k.toNat < C.length := by omega
    have hlk : k.toNat < l.length := by omega
    obtain ⟨v0, v1, v2, v3, hv⟩ : ∃ v0 v1 v2 v3, (C[k.toNat]'hkl).2 = [v0, v1, v2, v3] := by
     have h4 := hC2 _ (Nl hkl)
     match (C[k.toNat]'hkl).2, h4 with
     | [v0, v1, v2, v3], _ => exact ⟨_, _, _, _, rfl⟩
    have hy : zs[0 + k.toNat]? = some (.agg [.v v0, .v v1, .v v2, .v v3]) := by rw [hzs, M8 (by omega), G3, List.getElem?_map, List.getElem?_eq_getElem hkl]; simp [hv]
    have hcv : ∀ j (hj : j < 4), (C.flatMap (·.2))[k.toNat * 4 + j]? = [v0, v1, v2, v3][j]? := fun j hj => by rw [MZ hC2 hkl hj, hv]
    have hct : ∀ j (hj : j < 4), ((l.map Act.toT).flatMap T.cells)[k.toNat * 4 + j]? = (T.cells (l[k.toNat]).tt)[j]? := fun j hj => by rw [EK (LK l) (mapAt' (List.getElem?_eq_getElem hlk)) hj, Act.toT_eq]
    refine FU 101 (k.toNat * 4 + 0) Z (x := .int .i64 (l[k.toNat]).kind) (by rw [hct 0 (by decide)]; rfl) (hcv 0 (by decide)) (fun e0 => ?_);refine FU 101 (k.toNat * 4 + 1) Z (x := .int .i64 (l[k.toNat]).chan) (by rw [hct 1 (by decide)]; rfl) (hcv 1 (by decide)) (fun e1 => ?_);refine FU 101 (k.toNat * 4 + 2) Z (x := .int .i64 (l[k.toNat]).n) (by rw [hct 2 (by decide)]; rfl) (hcv 2 (by decide)) (fun e2 => ?_);subst e0 e1 e2;refine BE tys Z Z (AA Z) Z Z Z Z Z Z Z Z (by omega) (by omega) (Bl tys Z Z (AA Z) Z Z Z Z (hy) Z (nZ Z (AK tys Z Z (AA Z) Z Z Z (nZ Z (eZ Z (sT Z (nZ Z (nB (kY [3,4,5,8,9,10,11,12,13,14] Z (rG (eK 4 Z (nZ Z (WO_le (Le.roUntell (u := 18) 101 (k.toNat * 4 + 3) Z Z (hcv 3 (by decide)) (by rw [hct 3 (by decide)]; rfl)) ?_)))))))))))));refine nZ Z (AQ ?_);refine ⟨_, ih _ (Nl (show k.toNat < l.length by omega)), rfl, ?_⟩;refine nZ Z (BE tys Z Z (AA Z) Z Z Z Z Z Z Z Z (by omega) (by omega) (eZ Z (Cs tys [T.Acts (l[k.toNat]).cases] Z Z Z Z Z Z hy Z (AbsL.own' AbsL.nil') Z (N3 Z) (N3 Z) (nZ Z (oN (bN (tN (kY [3,4,5,8,9,10,11,12,13,14,15,16,17,18,19,20,21] Z (rG (evI ?_))))))))));refine eZ Z (oN ?_);refine lQ (_, _) ?_ ?_
    · dsimp only
      rw [show (k + 1).toNat = k.toNat + 1 from by omega];refine ⟨by omega, by omega, ?_⟩;rw [hzs];exact L5 hlk (by rw [C7]; exact hkl) (Act.toT_eq _).symm
    · (show Int.toNat _ < Int.toNat _); omega
  simp only [HS] at h1;refine AR (tE (AO (AN (tN (sG (eK 2 Z (nB (W_le (Le.gather (u := 2) (id := 7) Z Z (by rw [hzs]; simp [C7]; omega)) ?_))))))));refine rT (eR ?_)
  · (rw [hzs, List.drop_eq_nil_of_le (by rw [C7]; omega), OD, BF (by omega), Ni (by simp; omega)])
    all_goals rfl
theorem Hw (a : Act) : a.ok 1048576 → Fun Try.prog 74 [.t (T.Acts a.cases)] (tupD [.own (T.Acts a.cases)]) :=
 Act.ind (p := fun a => a.ok 1048576 → Fun Try.prog 74 [.t (T.Acts a.cases)] (tupD [.own (T.Acts a.cases)])) (fun a ih h => cloneActs_rec a.cases h.cases'.1 fun b hb => ih b hb (h.cases'.2 b hb)) a
theorem Gt (l : List Act) (h : okL 1048576 (Act.ok 1048576) l) : Fun Try.prog 74 [.t (T.Acts l)] (tupD [.own (T.Acts l)]) :=
 cloneActs_rec l h.1 fun a ha => Hw a (h.2 a ha)
theorem Fo (w : World) (hw : w.ok 1048576) : Fun Try.prog 31 [.t w.tt] (tupD [.agg [.own (T.ints w.room), .own (Af w.held), .own (T.bools w.shut), .own (T.Tasks w.tasks), .own (T.ints w.trace)]]) := by
 have hw1 : w.room.length ≤ 1048576 := hw.1
 have hw2 : w.held.length ≤ 1048576 := hw.2.1.1
 have hw3 : w.shut.length ≤ 1048576 := hw.2.2.1
 have hw4 : w.tasks.length ≤ 1048576 := hw.2.2.2.1.1
 have hw5 : w.trace.length ≤ 1048576 := hw.2.2.2.2.1
 refine Fun.begin tys Try.func31 Z Z (N := 52) [(0, .t w.tt)] Z Z (fun w0 G F0 => ?_);refine sG (Aa Z Z (AA Z) Z Z (nZ Z (AK tys Z Z (AA Z) Z Z Z (nZ Z (nB (sQ (Bd 11 Ac Z (by kernel_rfl) (by kernel_rfl) (QG_ev tys Z Z (AA Z) Z (QG_ev tys Z Z (AA Z) Z (Eg ?_))))))))));refine ⟨_, Cr w.room (by omega), rfl, ?_⟩;refine QG_ev tys Z Z (AA Z) Z (BW Z (QG_ev tys Z Z (AA Z) Z (Eg ?_)));refine ⟨_, KC w.shut (by omega), rfl, ?_⟩;refine QG_ev tys Z Z (AA Z) Z (QG_ev tys Z Z (AA Z) Z (Eg ?_));refine ⟨_, Cr w.trace (by omega), rfl, ?_⟩;refine Fe tys Z Z (AA Z) Z Z Z (by kernel_rfl) Z Z Z Z Z Z (BW Z (DY tys Z Z (AA Z) Z Z Z Z (AF ?_)));refine ⟨by kernel_rfl, ?_⟩;refine nZ Z (sT Z (nZ Z (nB (sQ (sG (nZ Z (WO_le (Le.nilBox (u := 3) (j := 1) 1 Z Z) (nZ Z (WO_le (Le.adoptBox (u := 3) (j := 1) (id := 191) Z Z Z) (nZ Z (eK 2 Z (evE ?_))))))))))));refine eZ Z (nB (AG ?_));refine lK (α := Int × Nat × List T) [1, 2, 3, 19, 20] [1, 2] (fun x => [(21, .t (.int (x.1)))]) (fun x => [(3, .box [.own (T.ints w.room), .sl 191 0 (x.2.1), .own (T.bools w.shut), .nil, .own (T.ints w.trace)]), (191, .L 1 (x.2.2))]) (fun x => 0 ≤ (x.1) ∧ (x.1) ≤ w.held.length ∧ (x.2.1) = (x.2.2).length ∧ (x.2.2) = (w.held.take (x.1).toNat).map T.ints) (fun x => Int.toNat (w.held.length - (x.1))) (0, 0, []) ?_ (fun x hx => ?_)
 ·exact ⟨by omega, by omega, rfl, rfl⟩
 obtain ⟨k, m, xs⟩ := x
 obtain ⟨hk0, hk1, hm, hxs⟩ := hx
 dsimp only at hk0 hk1 hm hxs ⊢;refine nY Z (sG (eZ Z (nB (sQ ?_))));refine AD Z (fun h1 => ?_) (fun h1 => ?_)
 ·
  simp only [HS] at h1;refine AE (tN (sQ (AG (sG ?_))));refine iY (k := ?_);refine eK 2 Z (nB (Bd 5 Ac Z (by kernel_rfl) (by kernel_rfl) (QG_ev tys Z Z (AA Z) Z (QG_ev tys Z Z (AA Z) Z (BW Z (QG_ev tys Z Z (AA Z) Z (Eg ?_)))))));refine ⟨_, Cr (w.held[k.toNat]'(by omega)) (by have : (w.held[k.toNat]'(by omega)).length ≤ 1048576 := hw.2.1.2 _ (Nl _); omega), rfl, ?_⟩;refine BC tys [T.ints (w.held[k.toNat]'(by omega))] Z Z (AA Z) Z Z Z Z Z (AA Z) (by repeat (first | exact PartsOk.nil' | refine PartsOk.cons' rfl (by repeat (first | exact AbsL.nil' | refine AbsL.v' ?_ | refine AbsL.own' ?_ | refine AbsL.none' ?_)) Z ?_)) Z Z Z (by decide) ?_;refine AF ?_;refine ⟨by kernel_rfl, ?_⟩;refine nZ Z (WO_le (Le.adoptE (u := 29) 29 Z Z) (nZ Z (Ab tys Z Z (AA Z) Z Z Z Z Z (.own Z (by first | omega | (simp only [Nu]; omega))) Z (.own Z (by first | decide | omega)) (by decide) (by simp only [N0, Nx, N6]; rw [hxs, Nj, N0]; omega) (by decide) Z ?_)));refine nZ Z (eZ Z (sT Z (nZ Z (oN (bN (tN (rG (evI ?_))))))));refine eZ Z (oN ?_);refine lQ (_, _, _) ?_ ?_
  ·dsimp only
   subst hm;refine ⟨by omega, by omega, by simp, ?_⟩;rw [N8, hxs, Bf hk0 (by omega), OU];rfl
  ·(show Int.toNat _ < Int.toNat _); omega
 simp only [HS] at h1;refine AR (tE (AO (AN (tN (sQ (sG (nZ Z (WO_le (Le.gatherBox (u := 3) (j := 1) (id := 191) Z Z Z (by omega) Z) (nZ Z (WO_le (Le.nilBox (u := 3) (j := 3) 4 Z Z) (nZ Z (WO_le (Le.adoptBox (u := 3) (j := 3) (id := 192) Z Z Z) (nZ Z (eK 2 Z (evE ?_)))))))))))))));refine eZ Z (nB (AG ?_));refine lK (α := Int × Nat × List T) [2, 3, 34, 35] [2] (fun x => [(36, .t (.int (x.1)))]) (fun x => [(3, .box [.own (T.ints w.room), .own (.list 1 (xs.take m)), .own (T.bools w.shut), .sl 192 0 (x.2.1), .own (T.ints w.trace)]), (192, .L 4 (x.2.2))]) (fun x => 0 ≤ (x.1) ∧ (x.1) ≤ w.tasks.length ∧ (x.2.1) = (x.2.2).length ∧ (x.2.2) = (w.tasks.take (x.1).toNat).map Task.tt) (fun x => Int.toNat (w.tasks.length - (x.1))) (0, 0, []) ?_ (fun x hx => ?_)
 ·exact ⟨by omega, by omega, rfl, rfl⟩
 obtain ⟨i, m2, ys⟩ := x
 obtain ⟨hi0, hi1, hm2, hys⟩ := hx
 dsimp only at hi0 hi1 hm2 hys ⊢;refine nY Z (sG (eZ Z (nB (sQ ?_))));refine AD Z (fun h2 => ?_) (fun h2 => ?_)
 ·
  simp only [HS] at h2;refine AE (tN (sQ (AG (sG ?_))));refine iY (k := ?_);refine eZ Z ?_
  try refine WO_le (Le.freeze (u := 39) rfl) ?_
  refine nZ Z (AK tys Z Z (AA Z) Z Z Z (nZ Z (sT Z (nZ Z (nA (eK 2 Z (AQ ?_)))))));refine ⟨_, Gt (w.tasks[i.toNat]'(by omega)).acts (hw.2.2.2.1.2 _ (Nl (show i.toNat < w.tasks.length by omega))).1, rfl, ?_⟩;refine eZ Z (kZ [2,3,7,34,35,36,37,38,39,40,41,42,43] Z (sT Z (nZ Z (nB (rG (eK 2 Z (A7 tys Z Z (AA Z) Z Z Z Z Z Z (nZ Z (bZ [(w.tasks[i.toNat]'(by omega)).tt] ?_)))))))));refine nZ Z (Ab tys Z Z (AA Z) Z Z Z Z Z (.own Z (by first | omega | (simp only [Nu]; omega))) Z (.own Z (by first | decide | omega)) (by decide) (by simp only [N0, Nx, N6]; rw [hys, Nj, N0]; omega) (by decide) Z ?_);refine nZ Z (eZ Z (sT Z (nZ Z (oN (bN (tN (kY [2,3,7,34,35,36,37,38,39,40,41,42,43,44,45,46,47,48,49] Z (rG (evI ?_)))))))));refine eZ Z (oN ?_);refine lQ (_, _, _) ?_ ?_
  ·dsimp only
   subst hm2;refine ⟨by omega, by omega, by simp, ?_⟩;rw [N8, hys, Bf hi0 (by omega), OU];rfl
  ·(show Int.toNat _ < Int.toNat _); omega
 simp only [HS] at h2;refine AR (tE (AO (AN (tN (sG (nZ Z (WO_le (Le.gatherBox (u := 3) (j := 3) (id := 192) Z Z Z (by omega) Z) (nZ Z (A7 tys Z Z (AA Z) Z Z Z Z Z Z (nZ Z (sT Z (nZ Z (nB (rT (eR ?_)))))))))))))))
 ·rw [hm2, N8, hys, BF (by omega), hm, N8, hxs, BF (by omega)]
  all_goals rfl
open Go.Eng
abbrev TC := (Option Addr × Nat) × Task
def tcW (c : TC) : List Value := [.slice c.1.1 c.2.acts.length c.1.2, .int .i64 c.2.pos, .int .i64 c.2.state, .int .i64 c.2.last]
def tcT (c : TC) : List T := [T.Acts c.2.acts, T.int c.2.pos, T.int c.2.state, T.int c.2.last]
def tcsW (C : List TC) : List Value := C.flatMap tcW
def tcsT (C : List TC) : List T := C.flatMap tcT
section
variable {α : Type} {f : (Option Addr × Nat) × Task → List α} {C : List ((Option Addr × Nat) × Task)} {c c' : (Option Addr × Nat) × Task} {i j : Nat} {y : α}
theorem KY (hf : ∀ c, (f c).length = 4) : ∀ {C : List TC} {i : Nat}, C[i]? = some c → j < 4 → (C.flatMap f)[i * 4 + j]? = (f c)[j]?
 | [], _, h, _ => by simp at h
 | d :: C, 0, h, hj => by
  simp at h; subst h
  rw [Nt, OY, N5, List.getElem?_append_left (by rw [hf]; exact hj)]
 | d :: C, i + 1, h, hj => by
  rw [Nt, List.getElem?_append_right (by rw [hf]; omega), hf, show (i + 1) * 4 + j - 4 = i * 4 + j from by omega];exact KY hf (by simpa using h) hj
theorem IH (hf : ∀ c, (f c).length = 4) (hy : f c' = (f c).set j y) : ∀ {C : List TC} {i : Nat}, C[i]? = some c → j < 4 → (C.flatMap f).set (i * 4 + j) y = (C.set i c').flatMap f
 | [], _, h, _ => by simp at h
 | d :: C, 0, h, hj => by
  simp at h; subst h
  rw [Nt, OY, N5, List.set_append_left _ _ (by rw [hf]; exact hj), List.set_cons_zero, Nt, hy]
 | d :: C, i + 1, h, hj => by
  rw [Nt, List.set_append_right _ _ (by rw [hf]; omega), hf, show (i + 1) * 4 + j - 4 = i * 4 + j from by omega, IH hf hy (by simpa using h) hj, List.set_cons_succ, Nt]
theorem Iz (hc : C[i]? = some c) (hj : j < 4) : (tcsW C)[i * 4 + j]? = (tcW c)[j]? := KY (fun _ => rfl) hc hj
theorem Cg (hc : C[i]? = some c) (hj : j < 4) : (tcsT C)[i * 4 + j]? = (tcT c)[j]? := KY (fun _ => rfl) hc hj
theorem Mz {u : Value} (hc : C[i]? = some c) (hj : j < 4) (h : tcW c' = (tcW c).set j u) : (tcsW C).set (i * 4 + j) u = tcsW (C.set i c') := IH (fun _ => rfl) h hc hj
theorem M1 {u : T} (hc : C[i]? = some c) (hj : j < 4) (h : tcT c' = (tcT c).set j u) : (tcsT C).set (i * 4 + j) u = tcsT (C.set i c') := IH (fun _ => rfl) h hc hj
theorem E1 (hc : C[i]? = some c) : (C.set i c')[i]? = some c' := by
 rw [List.getElem?_set_self (List.getElem?_eq_some_iff.1 hc).1]
theorem D1 {b sz : Nat} {k : Nat} {u : Value} (hc : C[i]? = some c) (hj : k < 4) (h1 : tcW c' = (tcW c).set k u) (h2 : tcT c' = (tcT c).set k (T.v u)) :
  Blk.raw b sz ((tcsW C).set (i * 4 + k) u) ((tcsT C).set (i * 4 + k) (T.v u)) = .raw b sz (tcsW (C.set i c')) (tcsT (C.set i c')) := by
 rw [Mz hc hj h1, M1 hc hj h2]
end
theorem Bb (b sz i : Nat) (C : List TC) (h : Option Addr × Nat) (t : Task) (hc : C[i]? = some (h, t)) (hp : 0 ≤ t.pos ∧ t.pos ≤ 1048576) (hl : t.acts.length ≤ 1048576) : Proc Try.prog 75 [.t (.v (.pointer (some ⟨b, i * 4, none⟩)))] ([]) ([]) [.raw b sz (tcsW C) (tcsT C)] (.tup []) [.raw b sz (tcsW (C.set i (h, advT t))) (tcsT (C.set i (h, advT t)))] := by
 refine Proc.intro tys Try.func75 Z Z (N := 22) [100] 99 ([(0, .t (.v (.pointer (some ⟨b, i * 4, none⟩))))]) ([(100, .raw b sz (tcsW C) (tcsT C)), (99, .ro [] [])]) Z Z Z Z (by decide) (by decide) Z (fun w0 G F0 => ?_);refine nY Z (sG (eZ Z (A6 rfl Z (AA Z) Z Z Z (Au tys Z Z (AA Z) Z Z Z Z Z (Ev (id := 100) (u := .int .i64 t.pos) tys Z Z (AA Z) Z Z Z Z Z (Cg hc (by decide)) (Iz hc (by decide)) (evI ?_))))));refine A6 rfl Z (AA Z) Z Z Z (Au tys Z Z (AA Z) Z Z Z Z Z (A5 (id := 100) (u0 := .int .i64 t.pos) (u := .int .i64 (t.pos + 1)) tys Z Z Z Z Z Z Z (Cg hc (by decide)) Z Z Z (nZ Z (WO_le (Le.eqK (id := 100) Z (D1 (c' := (h, { t with pos := t.pos + 1 })) hc (by decide) Z Z)) ?_))))
 have hc1 : (C.set i (h, { t with pos := t.pos + 1 }))[i]? = some (h, { t with pos := t.pos + 1 }) := E1 hc
 refine nZ Z (nB (sQ (kY [0] Z (AV Ac (by kernel_rfl) (evQ ?_)))));refine BQ rfl Z (AA Z) Z Z Z (Ct tys Z Z (AA Z) Z Z Z Z Z (Ew (id := 100) (u := .int .i64 (t.pos + 1)) tys Z Z (AA Z) Z Z Z Z Z (Cg hc1 (by decide)) (Iz hc1 (by decide)) (evQ ?_)));refine BQ rfl Z (AA Z) Z Z Z (AH Z (Ct tys Z Z (AA Z) Z Z Z Z Z (Ew (id := 100) (u := .slice h.1 t.acts.length h.2) tys Z Z (AA Z) Z Z Z Z Z (Cg hc1 (by decide)) (Iz hc1 (by decide)) (Lb Z Z (AA Z) Z ⟨74, by kernel_rfl⟩ rfl (evQ ?_)))));refine Aj (tN ?_);refine AD Z (fun h1 => ?_) (fun h1 => ?_)
 ·
  simp only [HS] at h1;refine rG (eZ Z (A6 rfl Z (AA Z) Z Z Z (Au tys Z Z (AA Z) Z Z Z Z Z (A5 (id := 100) (u0 := .int .i64 t.state) (u := .int .i64 1) tys Z Z Z Z Z Z Z (Cg hc1 (by decide)) Z Z Z (nZ Z (WO_le (Le.eqK (id := 100) Z (D1 (c' := (h, { t with pos := t.pos + 1, state := 1 })) hc1 (by decide) Z Z)) (nZ Z (oN ?_))))))));refine eP [_] ?_ ?_
  ·rfl
  ·rw [Nr, advT, if_pos h1]
   done
 simp only [HS] at h1;refine AE ?_;refine eP [_] ?_ ?_
 ·rfl
 ·rw [advT, if_neg h1]
  done
end Go.Proofs.Ytkllmdolplcklaa
