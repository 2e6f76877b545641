/- Walks of what a function calls, and of what is reached. -/
import Derived.Test.YtimpganophnehaaGreatGea
import Derived.Test.YtimpganophnehaaGreatPc
import Derived.Test.YtimpganophnehaaGreatMc
set_option linter.unusedVariables false
set_option linter.unusedSimpArgs false
set_option maxRecDepth 10000
set_option maxHeartbeats 1000000
namespace Go.Proofs.YtimpganophnehaaGreat
open Go.Eng

def marks (N : Nat) (l : List Int) : List T := (upto N).map fun n => T.bool (decide (n ∈ l))
theorem retOwnI {a b : List Int} (h : a = b) : [D.own (.list 1 (a.map T.int))] = [D.own (T.ints b)] := by subst h; rfl

theorem put_same {l : List Int} {n k : Int} (h0 : 0 ≤ k) (h1 : k < l.length) (h : l[k.toNat]'(by omega) = n) : put l n = l := by
 rw [put, if_pos (h ▸ List.getElem_mem _)]
theorem put_new {l : List Int} {n k : Int} (hl : l.Pairwise (· < ·)) (h0 : 0 ≤ k) (h1 : k ≤ l.length) (hlt : ∀ (i : Nat) (hi : i < l.length), (i : Int) < k → l[i] < n) (hge : ∀ (h : k < l.length), n < l[k.toNat]'(by omega)) : put l n = l.take k.toNat ++ n :: l.drop k.toNat := by
 rw [put_at h0 h1 hl hlt fun h => Int.le_of_lt (hge h), dif_neg]
 rintro ⟨h, he⟩
 rw [List.getElem?_eq_getElem (by omega)] at he
 have := hge h
 have : l[k.toNat] = n := Option.some.inj he
 omega
theorem put_shape {l : List Int} {n k : Int} (e : put l n = l.take k.toNat ++ n :: l.drop k.toNat) : ((l.map T.int).drop (0 : Int).toNat).take (k.toNat - (0 : Int).toNat) ++ [T.int n] ++ ((l.map T.int).drop k.toNat).take ((((l.map T.int).length : Nat) : Int).toNat - k.toNat) = (put l n).map T.int := by
 rw [e, List.take_of_length_le (l := (l.map T.int).drop k.toNat) (by simp)]
 simp

theorem l1Put_fun (l : List Int) (n : Int) (hl : l.length ≤ 1048576) (hr : l.Pairwise (· < ·)) : Fun Tryz.prog 136 [.t (T.ints l), .t (.int n)] (tupD [.t (T.ints (put l n))]) := by
  refine Fun.begin tys Tryz.func136 rfl rfl (N := 48) [(0, .t (T.ints l)), (1, .t (.int n))] rfl rfl (fun w0 G F0 => ?_)
  refine sQ (rG (eZ rfl (oN (tN (sQ (rG (eZ rfl (oN (tN (sQ (W_block ?_)))))))))))
  refine lK (α := Int) [0, 1] [] (fun x => [(5, .t (.int x))]) (fun x => []) (fun x => 0 ≤ x ∧ x ≤ l.length ∧ ∀ (i : Nat) (hi : i < l.length), (i : Int) < x → l[i] < n) (fun x => Int.toNat (l.length - x)) 0 ?_ (fun k hx => ?_)
  · exact ⟨by omega, by omega, fun i hi h => by omega⟩
  obtain ⟨hk0, hk1, hk2⟩ := hx
  refine nY rfl (sQ (sQ (rG (eK 2 rfl (evE ?_)))))
  refine eK 2 rfl ?_
  refine WO_guard rfl rfl rfl rfl (lt_of rfl) (fun h1 => ?_) (fun h1 => ?_)
  rotate_left
  ·
    simp only [HS] at h1
    refine gN rfl rfl (gN rfl rfl (gN rfl rfl (gN rfl rfl (kZ [0,1,5,7,8,9,10,11,12,13,14,15,16] rfl (gN rfl rfl (eZ rfl (oN (tN (W_condF rfl (W_exit (tE (loopQ_e (inBlk_y (tN (sQ ?_)))))))))))))))
    refine sQ (rG (eK 2 rfl (evE ?_)))
    refine eK 2 rfl ?_
    refine WO_guard rfl rfl rfl rfl (lt_of rfl) (fun h2 => ?_) (fun h2 => ?_)
    rotate_left
    ·
      simp only [HS] at h2
      refine gN rfl rfl (gN rfl rfl (kZ [0,1,5,25,28] rfl (gN rfl rfl (gN rfl rfl (gN rfl rfl (eZ rfl (oN (tN (W_condF rfl (W_skip (tN (sQ (rG ?_)))))))))))))
      refine WO_buildSlice tys [] rfl rfl (lt_of rfl) rfl rfl rfl rfl rfl (by decide) (by repeat (first | exact PartsOk.nil' | refine PartsOk.cons' rfl (by repeat (first | exact AbsL.nil' | refine AbsL.v' ?_ | refine AbsL.own' ?_ | refine AbsL.none' ?_)) rfl ?_)) (by first | exact List.nodup_nil | exact nodup1 _ | decide | exact nodupB_sound rfl) rfl (by decide) ?_
      refine nZ rfl (eK 2 rfl (WO_sliceT tys rfl rfl (lt_of rfl) rfl rfl rfl rfl rfl rfl rfl rfl (by first | omega | (simp only [List.length_map]; omega)) (by first | omega | (simp only [List.length_map]; omega)) (by first | omega | (simp only [List.length_map]; omega)) ?_))
      refine WO_append tys rfl rfl (lt_of rfl) rfl rfl rfl rfl rfl (.own rfl (by first | omega | (simp only [List.length_append]; omega))) rfl (.read (readTD _ _ _)) (by decide) (by simp; omega) (by decide) rfl ?_
      refine nZ rfl (kZ [0,1,5,38] rfl (eZ rfl (oN (tN (sQ (rG (eK 2 rfl ?_)))))))
      refine WO_buildSlice tys [T.int n] rfl rfl (lt_of rfl) rfl rfl rfl rfl rfl (lt_of rfl) (by repeat (first | exact PartsOk.nil' | refine PartsOk.cons' rfl (by repeat (first | exact AbsL.nil' | refine AbsL.v' ?_ | refine AbsL.own' ?_ | refine AbsL.none' ?_)) rfl ?_)) (by first | exact List.nodup_nil | exact nodup1 _ | decide | exact nodupB_sound rfl) rfl (by decide) ?_
      refine nZ rfl (WO_append tys rfl rfl (lt_of rfl) rfl rfl rfl rfl rfl (.own rfl (by first | omega | (simp only [List.length_append]; omega))) rfl (.own rfl (by first | decide | omega)) (by decide) (by simp; omega) (by decide) rfl ?_)
      refine nZ rfl (eZ rfl (oN (tN (sQ (rG (eK 3 rfl (kZ [43,44,45] rfl (WO_sliceT tys rfl rfl (lt_of rfl) rfl rfl rfl rfl rfl rfl rfl rfl (by first | omega | (simp only [List.length_map]; omega)) (by first | omega | (simp only [List.length_map]; omega)) (by first | omega | (simp only [List.length_map]; omega)) ?_))))))))
      refine WO_append tys rfl rfl (lt_of rfl) rfl rfl rfl rfl rfl (.own rfl (by first | omega | (simp only [List.length_append]; omega))) rfl (.read (readTD _ _ _)) (by decide) (by simp; omega) (by decide) rfl ?_
      refine nZ rfl (eZ rfl (oN (tN ?_)))
      try (refine W_le (Le.gather (u := 4) (id := 34) rfl rfl (by first | (simp; done) | (simp; omega) | omega)) ?_; refine W_norm rfl ?_; refine W_le (Le.freeze (u := 4) rfl) ?_; refine W_norm rfl ?_)
      refine rT (eR ?_)
      · first
        | (have e := put_new hr hk0 hk1 hk2 (fun h => by omega)
           refine retTI ?_
           rw [← put_shape e]
           simp only [take_app, List.take_length, List.nil_append, List.length_nil, Nat.zero_add, List.take_nil]
           done)
    simp only [HS] at h2
    refine eZ rfl (gY rfl (eZ rfl (kZ [0,1,5,25,26,27] rfl (gY rfl (WO_idxT tys rfl rfl (lt_of rfl) rfl rfl rfl rfl rfl rfl rfl (by omega) _ (getT _ _ (by omega) (by omega)) (gY rfl (eZ rfl (gY rfl (eZ rfl (gY rfl (eK 2 rfl (oN (tN ?_)))))))))))))
    refine W_cond rfl (fun h3 => ?_) (fun h3 => ?_)
    ·
      simp only [HS] at h3
      refine sQ (rG (eK 2 rfl (oN (tN ?_))))
      try (refine W_le (Le.gather (u := 4) (id := 34) rfl rfl (by first | (simp; done) | (simp; omega) | omega)) ?_; refine W_norm rfl ?_; refine W_le (Le.freeze (u := 4) rfl) ?_; refine W_norm rfl ?_)
      refine rT (tR (eR ?_))
      · first
        | (exfalso; omega)
    simp only [HS] at h3
    refine W_skip (tN (sQ (rG ?_)))
    refine WO_buildSlice tys [] rfl rfl (lt_of rfl) rfl rfl rfl rfl rfl (by decide) (by repeat (first | exact PartsOk.nil' | refine PartsOk.cons' rfl (by repeat (first | exact AbsL.nil' | refine AbsL.v' ?_ | refine AbsL.own' ?_ | refine AbsL.none' ?_)) rfl ?_)) (by first | exact List.nodup_nil | exact nodup1 _ | decide | exact nodupB_sound rfl) rfl (by decide) ?_
    refine nZ rfl (eK 2 rfl (WO_sliceT tys rfl rfl (lt_of rfl) rfl rfl rfl rfl rfl rfl rfl rfl (by first | omega | (simp only [List.length_map]; omega)) (by first | omega | (simp only [List.length_map]; omega)) (by first | omega | (simp only [List.length_map]; omega)) ?_))
    refine kZ [0,1,5,34,37] rfl (WO_append tys rfl rfl (lt_of rfl) rfl rfl rfl rfl rfl (.own rfl (by first | omega | (simp only [List.length_append]; omega))) rfl (.read (readTD _ _ _)) (by decide) (by simp; omega) (by decide) rfl ?_)
    refine nZ rfl (eZ rfl (oN (tN (sQ (rG (eK 2 rfl ?_))))))
    refine WO_buildSlice tys [T.int n] rfl rfl (lt_of rfl) rfl rfl rfl rfl rfl (lt_of rfl) (by repeat (first | exact PartsOk.nil' | refine PartsOk.cons' rfl (by repeat (first | exact AbsL.nil' | refine AbsL.v' ?_ | refine AbsL.own' ?_ | refine AbsL.none' ?_)) rfl ?_)) (by first | exact List.nodup_nil | exact nodup1 _ | decide | exact nodupB_sound rfl) rfl (by decide) ?_
    refine nZ rfl (WO_append tys rfl rfl (lt_of rfl) rfl rfl rfl rfl rfl (.own rfl (by first | omega | (simp only [List.length_append]; omega))) rfl (.own rfl (by first | decide | omega)) (by decide) (by simp; omega) (by decide) rfl ?_)
    refine nZ rfl (eZ rfl (oN (tN (sQ (kY [0,5,6] rfl (rG (eK 3 rfl (WO_sliceT tys rfl rfl (lt_of rfl) rfl rfl rfl rfl rfl rfl rfl rfl (by first | omega | (simp only [List.length_map]; omega)) (by first | omega | (simp only [List.length_map]; omega)) (by first | omega | (simp only [List.length_map]; omega)) ?_))))))))
    refine WO_append tys rfl rfl (lt_of rfl) rfl rfl rfl rfl rfl (.own rfl (by first | omega | (simp only [List.length_append]; omega))) rfl (.read (readTD _ _ _)) (by decide) (by simp; omega) (by decide) rfl ?_
    refine nZ rfl (eZ rfl (oN (tN ?_)))
    try (refine W_le (Le.gather (u := 4) (id := 34) rfl rfl (by first | (simp; done) | (simp; omega) | omega)) ?_; refine W_norm rfl ?_; refine W_le (Le.freeze (u := 4) rfl) ?_; refine W_norm rfl ?_)
    refine rT (eR ?_)
    · first
      | (exfalso; omega)
  simp only [HS] at h1
  refine eZ rfl (gY rfl (eZ rfl (gY rfl (WO_idxT tys rfl rfl (lt_of rfl) rfl rfl rfl rfl rfl rfl rfl (by omega) _ (getT _ _ (by omega) (by omega)) (gY rfl (eZ rfl (kZ [0,1,5,7,8,9,10,11,12,13,14,15] rfl (gY rfl (eZ rfl (gY rfl (eK 2 rfl (oN (tN ?_)))))))))))))
  refine W_cond rfl (fun h2 => ?_) (fun h2 => ?_)
  ·
    simp only [HS] at h2
    refine W_skip (tN (W_block (rG (eZ rfl (evI ?_)))))
    refine eZ rfl (oN (bN ?_))
    refine lQ _ ?_ ?_
    · skip
      refine ⟨by omega, by omega, fun i hi h => ?_⟩
      by_cases hq : (i : Int) < k
      · exact hk2 i hi hq
      · obtain rfl : i = k.toNat := by omega
        exact h2
    · (show Int.toNat _ < Int.toNat _); omega
  simp only [HS] at h2
  refine W_exit (tE (loopQ_e (inBlk_y (tN (sQ (sQ (rG (eK 2 rfl (evE ?_)))))))))
  refine eK 2 rfl ?_
  refine WO_guard rfl rfl rfl rfl (lt_of rfl) (fun h3 => ?_) (fun h3 => ?_)
  rotate_left
  ·
    simp only [HS] at h3
    refine gN rfl rfl (kZ [0,1,5,25,26,27] rfl (gN rfl rfl (gN rfl rfl (gN rfl rfl (gN rfl rfl (eZ rfl (oN (tN (W_condF rfl (W_skip (tN (sQ (rG ?_)))))))))))))
    refine WO_buildSlice tys [] rfl rfl (lt_of rfl) rfl rfl rfl rfl rfl (by decide) (by repeat (first | exact PartsOk.nil' | refine PartsOk.cons' rfl (by repeat (first | exact AbsL.nil' | refine AbsL.v' ?_ | refine AbsL.own' ?_ | refine AbsL.none' ?_)) rfl ?_)) (by first | exact List.nodup_nil | exact nodup1 _ | decide | exact nodupB_sound rfl) rfl (by decide) ?_
    refine nZ rfl (eK 2 rfl (WO_sliceT tys rfl rfl (lt_of rfl) rfl rfl rfl rfl rfl rfl rfl rfl (by first | omega | (simp only [List.length_map]; omega)) (by first | omega | (simp only [List.length_map]; omega)) (by first | omega | (simp only [List.length_map]; omega)) ?_))
    refine kZ [0,1,5,34,37] rfl (WO_append tys rfl rfl (lt_of rfl) rfl rfl rfl rfl rfl (.own rfl (by first | omega | (simp only [List.length_append]; omega))) rfl (.read (readTD _ _ _)) (by decide) (by simp; omega) (by decide) rfl ?_)
    refine nZ rfl (eZ rfl (oN (tN (sQ (rG (eK 2 rfl ?_))))))
    refine WO_buildSlice tys [T.int n] rfl rfl (lt_of rfl) rfl rfl rfl rfl rfl (lt_of rfl) (by repeat (first | exact PartsOk.nil' | refine PartsOk.cons' rfl (by repeat (first | exact AbsL.nil' | refine AbsL.v' ?_ | refine AbsL.own' ?_ | refine AbsL.none' ?_)) rfl ?_)) (by first | exact List.nodup_nil | exact nodup1 _ | decide | exact nodupB_sound rfl) rfl (by decide) ?_
    refine nZ rfl (WO_append tys rfl rfl (lt_of rfl) rfl rfl rfl rfl rfl (.own rfl (by first | omega | (simp only [List.length_append]; omega))) rfl (.own rfl (by first | decide | omega)) (by decide) (by simp; omega) (by decide) rfl ?_)
    refine nZ rfl (eZ rfl (oN (tN (sQ (kY [0,5,6] rfl (rG (eK 3 rfl (WO_sliceT tys rfl rfl (lt_of rfl) rfl rfl rfl rfl rfl rfl rfl rfl (by first | omega | (simp only [List.length_map]; omega)) (by first | omega | (simp only [List.length_map]; omega)) (by first | omega | (simp only [List.length_map]; omega)) ?_))))))))
    refine WO_append tys rfl rfl (lt_of rfl) rfl rfl rfl rfl rfl (.own rfl (by first | omega | (simp only [List.length_append]; omega))) rfl (.read (readTD _ _ _)) (by decide) (by simp; omega) (by decide) rfl ?_
    refine nZ rfl (eZ rfl (oN (tN ?_)))
    try (refine W_le (Le.gather (u := 4) (id := 34) rfl rfl (by first | (simp; done) | (simp; omega) | omega)) ?_; refine W_norm rfl ?_; refine W_le (Le.freeze (u := 4) rfl) ?_; refine W_norm rfl ?_)
    refine rT (eR ?_)
    · first
      | (exfalso; omega)
  simp only [HS] at h3
  refine eZ rfl (gY rfl (eZ rfl (kZ [0,1,5,25,26,27] rfl (gY rfl (WO_idxT tys rfl rfl (lt_of rfl) rfl rfl rfl rfl rfl rfl rfl (by omega) _ (getT _ _ (by omega) (by omega)) (gY rfl (eZ rfl (gY rfl (eZ rfl (gY rfl (eK 2 rfl (oN (tN ?_)))))))))))))
  refine W_cond rfl (fun h4 => ?_) (fun h4 => ?_)
  ·
    simp only [HS] at h4
    refine sQ (rG (eK 2 rfl (oN (tN ?_))))
    try (refine W_le (Le.gather (u := 4) (id := 34) rfl rfl (by first | (simp; done) | (simp; omega) | omega)) ?_; refine W_norm rfl ?_; refine W_le (Le.freeze (u := 4) rfl) ?_; refine W_norm rfl ?_)
    refine rT (tR (eR ?_))
    · first
      | (refine retTI ?_; rw [put_same hk0 (by omega) (by assumption)]; done)
  simp only [HS] at h4
  refine W_skip (tN (sQ (rG ?_)))
  refine WO_buildSlice tys [] rfl rfl (lt_of rfl) rfl rfl rfl rfl rfl (by decide) (by repeat (first | exact PartsOk.nil' | refine PartsOk.cons' rfl (by repeat (first | exact AbsL.nil' | refine AbsL.v' ?_ | refine AbsL.own' ?_ | refine AbsL.none' ?_)) rfl ?_)) (by first | exact List.nodup_nil | exact nodup1 _ | decide | exact nodupB_sound rfl) rfl (by decide) ?_
  refine nZ rfl (eK 2 rfl (WO_sliceT tys rfl rfl (lt_of rfl) rfl rfl rfl rfl rfl rfl rfl rfl (by first | omega | (simp only [List.length_map]; omega)) (by first | omega | (simp only [List.length_map]; omega)) (by first | omega | (simp only [List.length_map]; omega)) ?_))
  refine kZ [0,1,5,34,37] rfl (WO_append tys rfl rfl (lt_of rfl) rfl rfl rfl rfl rfl (.own rfl (by first | omega | (simp only [List.length_append]; omega))) rfl (.read (readTD _ _ _)) (by decide) (by simp; omega) (by decide) rfl ?_)
  refine nZ rfl (eZ rfl (oN (tN (sQ (rG (eK 2 rfl ?_))))))
  refine WO_buildSlice tys [T.int n] rfl rfl (lt_of rfl) rfl rfl rfl rfl rfl (lt_of rfl) (by repeat (first | exact PartsOk.nil' | refine PartsOk.cons' rfl (by repeat (first | exact AbsL.nil' | refine AbsL.v' ?_ | refine AbsL.own' ?_ | refine AbsL.none' ?_)) rfl ?_)) (by first | exact List.nodup_nil | exact nodup1 _ | decide | exact nodupB_sound rfl) rfl (by decide) ?_
  refine nZ rfl (WO_append tys rfl rfl (lt_of rfl) rfl rfl rfl rfl rfl (.own rfl (by first | omega | (simp only [List.length_append]; omega))) rfl (.own rfl (by first | decide | omega)) (by decide) (by simp; omega) (by decide) rfl ?_)
  refine nZ rfl (eZ rfl (oN (tN (sQ (kY [0,5,6] rfl (rG (eK 3 rfl (WO_sliceT tys rfl rfl (lt_of rfl) rfl rfl rfl rfl rfl rfl rfl rfl (by first | omega | (simp only [List.length_map]; omega)) (by first | omega | (simp only [List.length_map]; omega)) (by first | omega | (simp only [List.length_map]; omega)) ?_))))))))
  refine WO_append tys rfl rfl (lt_of rfl) rfl rfl rfl rfl rfl (.own rfl (by first | omega | (simp only [List.length_append]; omega))) rfl (.read (readTD _ _ _)) (by decide) (by simp; omega) (by decide) rfl ?_
  refine nZ rfl (eZ rfl (oN (tN ?_)))
  try (refine W_le (Le.gather (u := 4) (id := 34) rfl rfl (by first | (simp; done) | (simp; omega) | omega)) ?_; refine W_norm rfl ?_; refine W_le (Le.freeze (u := 4) rfl) ?_; refine W_norm rfl ?_)
  refine rT (eR ?_)
  · first
    | (have e := put_new hr hk0 hk1 hk2 (fun h => by omega)
       refine retTI ?_
       rw [← put_shape e]
       simp only [take_app, List.take_length, List.nil_append, List.length_nil, Nat.zero_add, List.take_nil]
       done)

end Go.Proofs.YtimpganophnehaaGreat
