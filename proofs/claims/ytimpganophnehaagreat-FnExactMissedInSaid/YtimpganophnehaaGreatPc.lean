/- Walks and laws of the claim. -/
import Derived.Test.YtimpganophnehaaGreatFa
import Derived.Test.YtimpganophnehaaGreatMc
set_option linter.unusedVariables false
set_option linter.unusedSimpArgs false
set_option maxRecDepth 10000
set_option maxHeartbeats 1000000
namespace Go.Proofs.YtimpganophnehaaGreat
open Go.Eng
inductive Lead (calls : Int → List Int) (a : Int) : Int → Prop
 | refl : Lead calls a a
 | step {b c : Int} : Lead calls a b → c ∈ calls b → Lead calls a c
section
variable {N : Nat} {calls : Int → List Int} {a : Int}
end
def put (l : List Int) (n : Int) : List Int := if n ∈ l then l else l.takeWhile (fun x => decide (x < n)) ++ n :: l.dropWhile (fun x => decide (x < n))
theorem put_at {l : List Int} {n : Int} {k : Int} (h0 : 0 ≤ k) (h1 : k ≤ l.length) (hl : l.Pairwise (· < ·)) (hlt : ∀ (i : Nat) (hi : i < l.length), (i : Int) < k → l[i] < n) (hge : ∀ (h : k < l.length), n ≤ l[k.toNat]'(by omega)) :
  put l n = if h : k < l.length ∧ l[k.toNat]? = some n then l else l.take k.toNat ++ n :: l.drop k.toNat := by
 have hafter : ∀ x, x ∈ l.drop k.toNat → n ≤ x := by
  intro x hx
  by_cases hk : k < l.length
  ·rw [List.drop_eq_getElem_cons (by omega)] at hx
   have := hge hk
   rcases List.mem_cons.1 hx with rfl | hx
   ·exact this
   ·have h2 : (l.drop k.toNat).Pairwise (· < ·) := hl.drop
    rw [List.drop_eq_getElem_cons (by omega), List.pairwise_cons] at h2
    have := h2.1 x hx; omega
  ·rw [List.drop_eq_nil_of_le (by omega)] at hx; cases hx
 have hbefore : ∀ x, x ∈ l.take k.toNat → x < n := by
  intro x hx
  obtain ⟨i, hi, rfl⟩ := List.getElem_of_mem hx
  rw [List.getElem_take]
  rw [List.length_take] at hi
  exact hlt i (by omega) (by omega)
 have hsplit := List.take_append_drop k.toNat l
 split
 ·rename_i h
  rw [put, if_pos]
  exact List.mem_of_getElem? h.2
 ·rename_i h
  have hn : n ∉ l := by
   intro hn
   rw [← hsplit, List.mem_append] at hn
   rcases hn with hn | hn
   ·have := hbefore n hn; omega
   ·apply h
    have hk : k < l.length := by
     refine Classical.byContradiction fun hk => ?_
     rw [List.drop_eq_nil_of_le (by omega)] at hn; cases hn
    refine ⟨hk, ?_⟩
    rw [List.getElem?_eq_getElem (by omega)]
    have h2 : (l.drop k.toNat).Pairwise (· < ·) := hl.drop
    rw [List.drop_eq_getElem_cons (by omega)] at hn h2
    rw [List.pairwise_cons] at h2
    rcases List.mem_cons.1 hn with hn | hn
    ·rw [← hn]
    ·have := h2.1 n hn; have := hge hk; omega
  rw [put, if_neg hn]
  have e1 : l.takeWhile (fun x => decide (x < n)) = l.take k.toNat := by
   conv => lhs; rw [← hsplit]
   rw [List.takeWhile_append_of_pos (by intro x hx; simpa using hbefore x hx)]
   have : (l.drop k.toNat).takeWhile (fun x => decide (x < n)) = [] := by
    cases e : l.drop k.toNat with
    | nil => rfl
    | cons y r => rw [List.takeWhile_cons_of_neg]; have := hafter y (by rw [e]; exact List.mem_cons_self ..); simp; omega
   rw [this, List.append_nil]
  have e2 : l.dropWhile (fun x => decide (x < n)) = l.drop k.toNat := by
   conv => lhs; rw [← hsplit]
   rw [List.dropWhile_append_of_pos (by intro x hx; simpa using hbefore x hx)]
   cases e : l.drop k.toNat with
   | nil => rfl
   | cons y r => rw [List.dropWhile_cons_of_neg]; have := hafter y (by rw [e]; exact List.mem_cons_self ..); simp; omega
  rw [e1, e2]
open Go.Eng
def marks (N : Nat) (l : List Int) : List T := (upto N).map fun n => T.bool (decide (n ∈ l))
theorem put_same {l : List Int} {n k : Int} (h0 : 0 ≤ k) (h1 : k < l.length) (h : l[k.toNat]'(by omega) = n) : put l n = l := by
 rw [put, if_pos (h ▸ List.getElem_mem _)]
theorem put_new {l : List Int} {n k : Int} (hl : l.Pairwise (· < ·)) (h0 : 0 ≤ k) (h1 : k ≤ l.length) (hlt : ∀ (i : Nat) (hi : i < l.length), (i : Int) < k → l[i] < n) (hge : ∀ (h : k < l.length), n < l[k.toNat]'(by omega)) : put l n = l.take k.toNat ++ n :: l.drop k.toNat := by
 rw [put_at h0 h1 hl hlt fun h => Int.le_of_lt (hge h), dif_neg]
 rintro ⟨h, he⟩
 rw [List.getElem?_eq_getElem (by omega)] at he
 have := hge h
 have : l[k.toNat] = n := Option.some.inj he
 omega
theorem put_shape {l : List Int} {n k : Int} (e : put l n = l.take k.toNat ++ n :: l.drop k.toNat) : ((l.map T.int).drop (0 : Int).toNat).take (k.toNat - (0 : Int).toNat) ++ [T.int n] ++ ((l.map T.int).drop k.toNat).take ((((l.map T.int).length : Nat) : Int).toNat - k.toNat) = (put l n).map T.int := by
 rw [e, List.take_of_length_le (l := (l.map T.int).drop k.toNat) (by simp)]
 simp
theorem l1Put_fun (l : List Int) (n : Int) (hl : l.length ≤ 1048576) (hr : l.Pairwise (· < ·)) : Fun Tryz.prog 136 [.t (T.ints l), .t (.int n)] (tupD [.t (T.ints (put l n))]) := by
  refine Fun.begin tys Tryz.func136 Z Z (N := 48) [(0, .t (T.ints l)), (1, .t (.int n))] Z Z (fun w0 G F0 => ?_)
  refine sQ (rG (eZ Z (oN (tN (sQ (rG (eZ Z (oN (tN (sQ (W_block ?_)))))))))))
  refine lK (α := Int) [0, 1] [] (fun x => [(5, .t (.int x))]) (fun x => []) (fun x => 0 ≤ x ∧ x ≤ l.length ∧ ∀ (i : Nat) (hi : i < l.length), (i : Int) < x → l[i] < n) (fun x => Int.toNat (l.length - x)) 0 ?_ (fun k hx => ?_)
  · exact ⟨by omega, by omega, fun i hi h => by omega⟩
  obtain ⟨hk0, hk1, hk2⟩ := hx
  refine nY Z (sQ (sQ (rG (eK 2 Z (evE ?_)))))
  refine eK 2 Z ?_
  refine WO_guard Z Z Z Z (lt_of Z) (fun h1 => ?_) (fun h1 => ?_)
  rotate_left
  ·
    simp only [HS] at h1
    refine gM Z (gM Z (gM Z (gM Z (kZ [0,1,5,7,8,9,10,11,12,13,14,15,16] Z (gM Z (eZ Z (oN (tN (W_condF Z (W_exit (tE (loopQ_e (inBlk_y (tN (sQ ?_)))))))))))))))
    refine sQ (rG (eK 2 Z (evE ?_)))
    refine eK 2 Z ?_
    refine WO_guard Z Z Z Z (lt_of Z) (fun h2 => ?_) (fun h2 => ?_)
    rotate_left
    ·
      simp only [HS] at h2
      refine gM Z (gM Z (kZ [0,1,5,25,28] Z (gM Z (gM Z (gM Z (eZ Z (oN (tN (W_condF Z (W_skip (tN (sQ (rG ?_)))))))))))))
      refine WO_buildSlice tys [] Z Z (lt_of Z) Z Z Z Z Z (by decide) (by repeat (first | exact PartsOk.nil' | refine PartsOk.cons' rfl (by repeat (first | exact AbsL.nil' | refine AbsL.v' ?_ | refine AbsL.own' ?_ | refine AbsL.none' ?_)) Z ?_)) (by first | exact List.nodup_nil | exact nodup1 _ | decide | exact nodupB_sound Z) Z (by decide) ?_
      refine nZ Z (eK 2 Z (WO_sliceT tys Z Z (lt_of Z) Z Z Z Z Z Z Z Z (by first | omega | (simp only [List.length_map]; omega)) (by first | omega | (simp only [List.length_map]; omega)) (by first | omega | (simp only [List.length_map]; omega)) ?_))
      refine WO_append tys Z Z (lt_of Z) Z Z Z Z Z (.own Z (by first | omega | (simp only [List.length_append]; omega))) Z (.read (readTD _ _ _)) (by decide) (by simp; omega) (by decide) Z ?_
      refine nZ Z (kZ [0,1,5,38] Z (eZ Z (oN (tN (sQ (rG (eK 2 Z ?_)))))))
      refine WO_buildSlice tys [T.int n] Z Z (lt_of Z) Z Z Z Z Z (lt_of Z) (by repeat (first | exact PartsOk.nil' | refine PartsOk.cons' rfl (by repeat (first | exact AbsL.nil' | refine AbsL.v' ?_ | refine AbsL.own' ?_ | refine AbsL.none' ?_)) Z ?_)) (by first | exact List.nodup_nil | exact nodup1 _ | decide | exact nodupB_sound Z) Z (by decide) ?_
      refine nZ Z (WO_append tys Z Z (lt_of Z) Z Z Z Z Z (.own Z (by first | omega | (simp only [List.length_append]; omega))) Z (.own Z (by first | decide | omega)) (by decide) (by simp; omega) (by decide) Z ?_)
      refine nZ Z (eZ Z (oN (tN (sQ (rG (eK 3 Z (kZ [43,44,45] Z (WO_sliceT tys Z Z (lt_of Z) Z Z Z Z Z Z Z Z (by first | omega | (simp only [List.length_map]; omega)) (by first | omega | (simp only [List.length_map]; omega)) (by first | omega | (simp only [List.length_map]; omega)) ?_))))))))
      refine WO_append tys Z Z (lt_of Z) Z Z Z Z Z (.own Z (by first | omega | (simp only [List.length_append]; omega))) Z (.read (readTD _ _ _)) (by decide) (by simp; omega) (by decide) Z ?_
      refine nZ Z (eZ Z (oN (tN ?_)))
      try (refine W_le (Le.gather (u := 4) (id := 34) rfl rfl (by first | (simp; done) | (simp; omega) | omega)) ?_; refine W_norm rfl ?_; refine W_le (Le.freeze (u := 4) rfl) ?_; refine W_norm rfl ?_)
      refine rT (eR ?_)
      · first
        | (have e := put_new hr hk0 hk1 hk2 (fun h => by omega)
           refine retTI ?_
           rw [← put_shape e]
           simp only [take_app, List.take_length, List.nil_append, List.length_nil, Nat.zero_add, List.take_nil]
           done)
    simp only [HS] at h2
    refine eZ Z (gY Z (eZ Z (kZ [0,1,5,25,26,27] Z (gY Z (WO_idxT tys Z Z (lt_of Z) Z Z Z Z Z Z Z (by omega) _ (getT _ _ (by omega) (by omega)) (gY Z (eZ Z (gY Z (eZ Z (gY Z (eK 2 Z (oN (tN ?_)))))))))))))
    refine W_cond Z (fun h3 => ?_) (fun h3 => ?_)
    ·
      simp only [HS] at h3
      refine sQ (rG (eK 2 Z (oN (tN ?_))))
      try (refine W_le (Le.gather (u := 4) (id := 34) rfl rfl (by first | (simp; done) | (simp; omega) | omega)) ?_; refine W_norm rfl ?_; refine W_le (Le.freeze (u := 4) rfl) ?_; refine W_norm rfl ?_)
      refine rT (tR (eR ?_))
      · first
        | (exfalso; omega)
    simp only [HS] at h3
    refine W_skip (tN (sQ (rG ?_)))
    refine WO_buildSlice tys [] Z Z (lt_of Z) Z Z Z Z Z (by decide) (by repeat (first | exact PartsOk.nil' | refine PartsOk.cons' rfl (by repeat (first | exact AbsL.nil' | refine AbsL.v' ?_ | refine AbsL.own' ?_ | refine AbsL.none' ?_)) Z ?_)) (by first | exact List.nodup_nil | exact nodup1 _ | decide | exact nodupB_sound Z) Z (by decide) ?_
    refine nZ Z (eK 2 Z (WO_sliceT tys Z Z (lt_of Z) Z Z Z Z Z Z Z Z (by first | omega | (simp only [List.length_map]; omega)) (by first | omega | (simp only [List.length_map]; omega)) (by first | omega | (simp only [List.length_map]; omega)) ?_))
    refine kZ [0,1,5,34,37] Z (WO_append tys Z Z (lt_of Z) Z Z Z Z Z (.own Z (by first | omega | (simp only [List.length_append]; omega))) Z (.read (readTD _ _ _)) (by decide) (by simp; omega) (by decide) Z ?_)
    refine nZ Z (eZ Z (oN (tN (sQ (rG (eK 2 Z ?_))))))
    refine WO_buildSlice tys [T.int n] Z Z (lt_of Z) Z Z Z Z Z (lt_of Z) (by repeat (first | exact PartsOk.nil' | refine PartsOk.cons' rfl (by repeat (first | exact AbsL.nil' | refine AbsL.v' ?_ | refine AbsL.own' ?_ | refine AbsL.none' ?_)) Z ?_)) (by first | exact List.nodup_nil | exact nodup1 _ | decide | exact nodupB_sound Z) Z (by decide) ?_
    refine nZ Z (WO_append tys Z Z (lt_of Z) Z Z Z Z Z (.own Z (by first | omega | (simp only [List.length_append]; omega))) Z (.own Z (by first | decide | omega)) (by decide) (by simp; omega) (by decide) Z ?_)
    refine nZ Z (eZ Z (oN (tN (sQ (kY [0,5,6] Z (rG (eK 3 Z (WO_sliceT tys Z Z (lt_of Z) Z Z Z Z Z Z Z Z (by first | omega | (simp only [List.length_map]; omega)) (by first | omega | (simp only [List.length_map]; omega)) (by first | omega | (simp only [List.length_map]; omega)) ?_))))))))
    refine WO_append tys Z Z (lt_of Z) Z Z Z Z Z (.own Z (by first | omega | (simp only [List.length_append]; omega))) Z (.read (readTD _ _ _)) (by decide) (by simp; omega) (by decide) Z ?_
    refine nZ Z (eZ Z (oN (tN ?_)))
    try (refine W_le (Le.gather (u := 4) (id := 34) rfl rfl (by first | (simp; done) | (simp; omega) | omega)) ?_; refine W_norm rfl ?_; refine W_le (Le.freeze (u := 4) rfl) ?_; refine W_norm rfl ?_)
    refine rT (eR ?_)
    · first
      | (exfalso; omega)
  simp only [HS] at h1
  refine eZ Z (gY Z (eZ Z (gY Z (WO_idxT tys Z Z (lt_of Z) Z Z Z Z Z Z Z (by omega) _ (getT _ _ (by omega) (by omega)) (gY Z (eZ Z (kZ [0,1,5,7,8,9,10,11,12,13,14,15] Z (gY Z (eZ Z (gY Z (eK 2 Z (oN (tN ?_)))))))))))))
  refine W_cond Z (fun h2 => ?_) (fun h2 => ?_)
  ·
    simp only [HS] at h2
    refine W_skip (tN (W_block (rG (eZ Z (evI ?_)))))
    refine eZ Z (oN (bN ?_))
    refine lQ _ ?_ ?_
    · skip
      refine ⟨by omega, by omega, fun i hi h => ?_⟩
      by_cases hq : (i : Int) < k
      · exact hk2 i hi hq
      · obtain rfl : i = k.toNat := by omega
        exact h2
    · (show Int.toNat _ < Int.toNat _); omega
  simp only [HS] at h2
  refine W_exit (tE (loopQ_e (inBlk_y (tN (sQ (sQ (rG (eK 2 Z (evE ?_)))))))))
  refine eK 2 Z ?_
  refine WO_guard Z Z Z Z (lt_of Z) (fun h3 => ?_) (fun h3 => ?_)
  rotate_left
  ·
    simp only [HS] at h3
    refine gM Z (kZ [0,1,5,25,26,27] Z (gM Z (gM Z (gM Z (gM Z (eZ Z (oN (tN (W_condF Z (W_skip (tN (sQ (rG ?_)))))))))))))
    refine WO_buildSlice tys [] Z Z (lt_of Z) Z Z Z Z Z (by decide) (by repeat (first | exact PartsOk.nil' | refine PartsOk.cons' rfl (by repeat (first | exact AbsL.nil' | refine AbsL.v' ?_ | refine AbsL.own' ?_ | refine AbsL.none' ?_)) Z ?_)) (by first | exact List.nodup_nil | exact nodup1 _ | decide | exact nodupB_sound Z) Z (by decide) ?_
    refine nZ Z (eK 2 Z (WO_sliceT tys Z Z (lt_of Z) Z Z Z Z Z Z Z Z (by first | omega | (simp only [List.length_map]; omega)) (by first | omega | (simp only [List.length_map]; omega)) (by first | omega | (simp only [List.length_map]; omega)) ?_))
    refine kZ [0,1,5,34,37] Z (WO_append tys Z Z (lt_of Z) Z Z Z Z Z (.own Z (by first | omega | (simp only [List.length_append]; omega))) Z (.read (readTD _ _ _)) (by decide) (by simp; omega) (by decide) Z ?_)
    refine nZ Z (eZ Z (oN (tN (sQ (rG (eK 2 Z ?_))))))
    refine WO_buildSlice tys [T.int n] Z Z (lt_of Z) Z Z Z Z Z (lt_of Z) (by repeat (first | exact PartsOk.nil' | refine PartsOk.cons' rfl (by repeat (first | exact AbsL.nil' | refine AbsL.v' ?_ | refine AbsL.own' ?_ | refine AbsL.none' ?_)) Z ?_)) (by first | exact List.nodup_nil | exact nodup1 _ | decide | exact nodupB_sound Z) Z (by decide) ?_
    refine nZ Z (WO_append tys Z Z (lt_of Z) Z Z Z Z Z (.own Z (by first | omega | (simp only [List.length_append]; omega))) Z (.own Z (by first | decide | omega)) (by decide) (by simp; omega) (by decide) Z ?_)
    refine nZ Z (eZ Z (oN (tN (sQ (kY [0,5,6] Z (rG (eK 3 Z (WO_sliceT tys Z Z (lt_of Z) Z Z Z Z Z Z Z Z (by first | omega | (simp only [List.length_map]; omega)) (by first | omega | (simp only [List.length_map]; omega)) (by first | omega | (simp only [List.length_map]; omega)) ?_))))))))
    refine WO_append tys Z Z (lt_of Z) Z Z Z Z Z (.own Z (by first | omega | (simp only [List.length_append]; omega))) Z (.read (readTD _ _ _)) (by decide) (by simp; omega) (by decide) Z ?_
    refine nZ Z (eZ Z (oN (tN ?_)))
    try (refine W_le (Le.gather (u := 4) (id := 34) rfl rfl (by first | (simp; done) | (simp; omega) | omega)) ?_; refine W_norm rfl ?_; refine W_le (Le.freeze (u := 4) rfl) ?_; refine W_norm rfl ?_)
    refine rT (eR ?_)
    · first
      | (exfalso; omega)
  simp only [HS] at h3
  refine eZ Z (gY Z (eZ Z (kZ [0,1,5,25,26,27] Z (gY Z (WO_idxT tys Z Z (lt_of Z) Z Z Z Z Z Z Z (by omega) _ (getT _ _ (by omega) (by omega)) (gY Z (eZ Z (gY Z (eZ Z (gY Z (eK 2 Z (oN (tN ?_)))))))))))))
  refine W_cond Z (fun h4 => ?_) (fun h4 => ?_)
  ·
    simp only [HS] at h4
    refine sQ (rG (eK 2 Z (oN (tN ?_))))
    try (refine W_le (Le.gather (u := 4) (id := 34) rfl rfl (by first | (simp; done) | (simp; omega) | omega)) ?_; refine W_norm rfl ?_; refine W_le (Le.freeze (u := 4) rfl) ?_; refine W_norm rfl ?_)
    refine rT (tR (eR ?_))
    · first
      | (refine retTI ?_; rw [put_same hk0 (by omega) (by assumption)]; done)
  simp only [HS] at h4
  refine W_skip (tN (sQ (rG ?_)))
  refine WO_buildSlice tys [] Z Z (lt_of Z) Z Z Z Z Z (by decide) (by repeat (first | exact PartsOk.nil' | refine PartsOk.cons' rfl (by repeat (first | exact AbsL.nil' | refine AbsL.v' ?_ | refine AbsL.own' ?_ | refine AbsL.none' ?_)) Z ?_)) (by first | exact List.nodup_nil | exact nodup1 _ | decide | exact nodupB_sound Z) Z (by decide) ?_
  refine nZ Z (eK 2 Z (WO_sliceT tys Z Z (lt_of Z) Z Z Z Z Z Z Z Z (by first | omega | (simp only [List.length_map]; omega)) (by first | omega | (simp only [List.length_map]; omega)) (by first | omega | (simp only [List.length_map]; omega)) ?_))
  refine kZ [0,1,5,34,37] Z (WO_append tys Z Z (lt_of Z) Z Z Z Z Z (.own Z (by first | omega | (simp only [List.length_append]; omega))) Z (.read (readTD _ _ _)) (by decide) (by simp; omega) (by decide) Z ?_)
  refine nZ Z (eZ Z (oN (tN (sQ (rG (eK 2 Z ?_))))))
  refine WO_buildSlice tys [T.int n] Z Z (lt_of Z) Z Z Z Z Z (lt_of Z) (by repeat (first | exact PartsOk.nil' | refine PartsOk.cons' rfl (by repeat (first | exact AbsL.nil' | refine AbsL.v' ?_ | refine AbsL.own' ?_ | refine AbsL.none' ?_)) Z ?_)) (by first | exact List.nodup_nil | exact nodup1 _ | decide | exact nodupB_sound Z) Z (by decide) ?_
  refine nZ Z (WO_append tys Z Z (lt_of Z) Z Z Z Z Z (.own Z (by first | omega | (simp only [List.length_append]; omega))) Z (.own Z (by first | decide | omega)) (by decide) (by simp; omega) (by decide) Z ?_)
  refine nZ Z (eZ Z (oN (tN (sQ (kY [0,5,6] Z (rG (eK 3 Z (WO_sliceT tys Z Z (lt_of Z) Z Z Z Z Z Z Z Z (by first | omega | (simp only [List.length_map]; omega)) (by first | omega | (simp only [List.length_map]; omega)) (by first | omega | (simp only [List.length_map]; omega)) ?_))))))))
  refine WO_append tys Z Z (lt_of Z) Z Z Z Z Z (.own Z (by first | omega | (simp only [List.length_append]; omega))) Z (.read (readTD _ _ _)) (by decide) (by simp; omega) (by decide) Z ?_
  refine nZ Z (eZ Z (oN (tN ?_)))
  try (refine W_le (Le.gather (u := 4) (id := 34) rfl rfl (by first | (simp; done) | (simp; omega) | omega)) ?_; refine W_norm rfl ?_; refine W_le (Le.freeze (u := 4) rfl) ?_; refine W_norm rfl ?_)
  refine rT (eR ?_)
  · first
    | (have e := put_new hr hk0 hk1 hk2 (fun h => by omega)
       refine retTI ?_
       rw [← put_shape e]
       simp only [take_app, List.take_length, List.nil_append, List.length_nil, Nat.zero_add, List.take_nil]
       done)
open Go.Eng
structure Met (N : Nat) (calls : Int → List Int) (fn : Int) (met : List Int) (k : Nat) : Prop where
 nodup : met.Nodup
 lead : ∀ x, x ∈ met → Lead calls fn x
 first : fn ∈ met
 closed : ∀ (i : Nat) (h : i < met.length), i < k → ∀ c, c ∈ calls met[i] → c ∈ met
section
variable {N : Nat} {calls : Int → List Int} {fn : Int} {met : List Int} {k : Nat}
end
structure Dfs (calls : Int → List Int) (fn : Int) (S ol : List Int) : Prop where
 leadS : ∀ x, x ∈ S → Lead calls fn x
 leadO : ∀ x, x ∈ ol → Lead calls fn x
 first : fn ∈ S ∨ fn ∈ ol
 closed : ∀ x, x ∈ S → ∀ c, c ∈ calls x → c ∈ S ∨ c ∈ ol
section
variable {N : Nat} {calls : Int → List Int} {fn x : Int} {S ol : List Int}
end
open Go.Eng
theorem retNN {a a' b b' : Int} (h : a = a') (h' : b = b') : [D.t (T.v (Value.int .i64 a)), D.t (T.v (Value.int .i64 b))] = [D.t (T.int a'), D.t (T.int b')] := by rw [h, h']
theorem retTX {a b : List Int} (h : a = b) : [D.t (T.ints a)] = [D.t (T.ints b)] := by rw [h]
theorem hasN_fun (op : Int) : Fun Tryz.prog 216 [.t (.int op)] (tupD [.t (.bool (hasNB op))]) := by
 refine Fun.begin tys Tryz.func216 Z Z (N := 14) [(0, .t (.int op))] Z Z (fun w0 G F0 => ?_)
 refine sQ (rG (eZ Z (oN (tN (sQ (sQ (rG (eZ Z (oN (tN (W_block (sQ (sQ (rG (eK 2 Z ?_)))))))))))))))
 refine oN (tN ?_)
 refine W_joinN (α := Bool) [2] [] (fun x => [(4, .t (.bool x))]) (fun x => []) (fun x => x = hasNB op) ?_ (fun b hx => ?_)
 ·
  refine W_cond Z (fun h1 => ?_) (fun h1 => ?_)
  ·
   try simp only [HS] at h1
   refine W_skip ?_
   refine joinQ_n _ (by (try dsimp only); repeat (first | exact Sub.nil' | refine Sub.cons' rfl ?_)) (by (try dsimp only); repeat (first | exact SubM.nil' | refine SubM.cons' rfl ?_)) ?_
   try dsimp only
   grind [hasNB]
  try simp only [HS] at h1
  refine sQ (rG (eK 2 Z (oN (tN ?_))))
  refine W_cond Z (fun h2 => ?_) (fun h2 => ?_)
  ·
   try simp only [HS] at h2
   refine W_skip ?_
   refine joinQ_n _ (by (try dsimp only); repeat (first | exact Sub.nil' | refine Sub.cons' rfl ?_)) (by (try dsimp only); repeat (first | exact SubM.nil' | refine SubM.cons' rfl ?_)) ?_
   try dsimp only
   grind [hasNB]
  try simp only [HS] at h2
  refine sQ (rG (eK 2 Z (oN (tN ?_))))
  refine W_cond Z (fun h3 => ?_) (fun h3 => ?_)
  ·
   try simp only [HS] at h3
   refine W_skip ?_
   refine joinQ_n _ (by (try dsimp only); repeat (first | exact Sub.nil' | refine Sub.cons' rfl ?_)) (by (try dsimp only); repeat (first | exact SubM.nil' | refine SubM.cons' rfl ?_)) ?_
   try dsimp only
   grind [hasNB]
  try simp only [HS] at h3
  refine sQ (kY [2,3,4] Z (rG (eK 2 Z (oN (tN ?_)))))
  refine W_cond Z (fun h4 => ?_) (fun h4 => ?_)
  ·
   try simp only [HS] at h4
   refine W_skip ?_
   refine joinQ_n _ (by (try dsimp only); repeat (first | exact Sub.nil' | refine Sub.cons' rfl ?_)) (by (try dsimp only); repeat (first | exact SubM.nil' | refine SubM.cons' rfl ?_)) ?_
   try dsimp only
   grind [hasNB]
  try simp only [HS] at h4
  refine sQ (rG (eK 2 Z (oN (tN ?_))))
  refine W_cond Z (fun h5 => ?_) (fun h5 => ?_)
  ·
   try simp only [HS] at h5
   refine W_skip ?_
   refine joinQ_n _ (by (try dsimp only); repeat (first | exact Sub.nil' | refine Sub.cons' rfl ?_)) (by (try dsimp only); repeat (first | exact SubM.nil' | refine SubM.cons' rfl ?_)) ?_
   try dsimp only
   grind [hasNB]
  try simp only [HS] at h5
  refine sQ (rG (eK 2 Z (oN (tN ?_))))
  refine W_cond Z (fun h6 => ?_) (fun h6 => ?_)
  ·
   try simp only [HS] at h6
   refine W_skip ?_
   refine joinQ_n _ (by (try dsimp only); repeat (first | exact Sub.nil' | refine Sub.cons' rfl ?_)) (by (try dsimp only); repeat (first | exact SubM.nil' | refine SubM.cons' rfl ?_)) ?_
   try dsimp only
   grind [hasNB]
  try simp only [HS] at h6
  refine sQ (rG (eK 2 Z (oN (tN ?_))))
  refine W_cond Z (fun h7 => ?_) (fun h7 => ?_)
  ·
   try simp only [HS] at h7
   refine W_skip ?_
   refine joinQ_n _ (by (try dsimp only); repeat (first | exact Sub.nil' | refine Sub.cons' rfl ?_)) (by (try dsimp only); repeat (first | exact SubM.nil' | refine SubM.cons' rfl ?_)) ?_
   try dsimp only
   grind [hasNB]
  try simp only [HS] at h7
  refine sQ (kY [2,3,4] Z (rG (eK 2 Z (oN (tN ?_)))))
  refine W_cond Z (fun h8 => ?_) (fun h8 => ?_)
  ·
   try simp only [HS] at h8
   refine W_skip ?_
   refine joinQ_n _ (by (try dsimp only); repeat (first | exact Sub.nil' | refine Sub.cons' rfl ?_)) (by (try dsimp only); repeat (first | exact SubM.nil' | refine SubM.cons' rfl ?_)) ?_
   try dsimp only
   grind [hasNB]
  try simp only [HS] at h8
  refine rG (eK 2 Z (oN ?_))
  refine joinQ_n _ (by (try dsimp only); repeat (first | exact Sub.nil' | refine Sub.cons' rfl ?_)) (by (try dsimp only); repeat (first | exact SubM.nil' | refine SubM.cons' rfl ?_)) ?_
  try dsimp only
  grind [hasNB]
 have hb := hx
 refine tN ?_
 refine W_cond Z (fun h1 => ?_) (fun h1 => ?_)
 ·
  try simp only [HS] at h1
  refine sQ (kY [2] Z (rG (eZ Z (oN (tN (rT (bR (tR (eR ?_)))))))))
  ·exact retB (by simp_all)
 try simp only [HS] at h1
 refine W_skip (bN (tN (sQ (kY [2] Z (rG (eZ Z (oN (tN (rT (eR ?_))))))))))
 ·exact retB (by simp_all)
theorem raises_fun (op : Int) : Fun Tryz.prog 184 [.t (.int op)] (tupD [.t (.bool (raisesB op))]) := by
 refine Fun.begin tys Tryz.func184 Z Z (N := 11) [(0, .t (.int op))] Z Z (fun w0 G F0 => ?_)
 refine sQ (rG (eZ Z (oN (tN (sQ (sQ (rG (eZ Z (oN (tN (W_block (sQ (sQ (rG (eK 2 Z ?_)))))))))))))))
 refine oN (tN ?_)
 refine W_joinN (α := Bool) [2] [] (fun x => [(4, .t (.bool x))]) (fun x => []) (fun x => x = raisesB op) ?_ (fun b hx => ?_)
 ·
  refine W_cond Z (fun h1 => ?_) (fun h1 => ?_)
  ·
   try simp only [HS] at h1
   refine W_skip ?_
   refine joinQ_n _ (by (try dsimp only); repeat (first | exact Sub.nil' | refine Sub.cons' rfl ?_)) (by (try dsimp only); repeat (first | exact SubM.nil' | refine SubM.cons' rfl ?_)) ?_
   try dsimp only
   grind [raisesB]
  try simp only [HS] at h1
  refine sQ (rG (eK 2 Z (oN (tN ?_))))
  refine W_cond Z (fun h2 => ?_) (fun h2 => ?_)
  ·
   try simp only [HS] at h2
   refine W_skip ?_
   refine joinQ_n _ (by (try dsimp only); repeat (first | exact Sub.nil' | refine Sub.cons' rfl ?_)) (by (try dsimp only); repeat (first | exact SubM.nil' | refine SubM.cons' rfl ?_)) ?_
   try dsimp only
   grind [raisesB]
  try simp only [HS] at h2
  refine sQ (rG (eK 2 Z (oN (tN ?_))))
  refine W_cond Z (fun h3 => ?_) (fun h3 => ?_)
  ·
   try simp only [HS] at h3
   refine W_skip ?_
   refine joinQ_n _ (by (try dsimp only); repeat (first | exact Sub.nil' | refine Sub.cons' rfl ?_)) (by (try dsimp only); repeat (first | exact SubM.nil' | refine SubM.cons' rfl ?_)) ?_
   try dsimp only
   grind [raisesB]
  try simp only [HS] at h3
  refine sQ (kY [2,3,4] Z (rG (eK 2 Z (oN (tN ?_)))))
  refine W_cond Z (fun h4 => ?_) (fun h4 => ?_)
  ·
   try simp only [HS] at h4
   refine W_skip ?_
   refine joinQ_n _ (by (try dsimp only); repeat (first | exact Sub.nil' | refine Sub.cons' rfl ?_)) (by (try dsimp only); repeat (first | exact SubM.nil' | refine SubM.cons' rfl ?_)) ?_
   try dsimp only
   grind [raisesB]
  try simp only [HS] at h4
  refine sQ (rG (eK 2 Z (oN (tN ?_))))
  refine W_cond Z (fun h5 => ?_) (fun h5 => ?_)
  ·
   try simp only [HS] at h5
   refine W_skip ?_
   refine joinQ_n _ (by (try dsimp only); repeat (first | exact Sub.nil' | refine Sub.cons' rfl ?_)) (by (try dsimp only); repeat (first | exact SubM.nil' | refine SubM.cons' rfl ?_)) ?_
   try dsimp only
   grind [raisesB]
  try simp only [HS] at h5
  refine rG (eK 2 Z (oN ?_))
  refine joinQ_n _ (by (try dsimp only); repeat (first | exact Sub.nil' | refine Sub.cons' rfl ?_)) (by (try dsimp only); repeat (first | exact SubM.nil' | refine SubM.cons' rfl ?_)) ?_
  try dsimp only
  grind [raisesB]
 have hb := hx
 refine tN ?_
 refine W_cond Z (fun h1 => ?_) (fun h1 => ?_)
 ·
  try simp only [HS] at h1
  refine sQ (kY [2] Z (rG (eZ Z (oN (tN (rT (bR (tR (eR ?_)))))))))
  ·exact retB (by simp_all)
 try simp only [HS] at h1
 refine W_skip (bN (tN (sQ (kY [2] Z (rG (eZ Z (oN (tN (rT (eR ?_))))))))))
 ·exact retB (by simp_all)
theorem l5Ins_fun (i : Ins) : Fun Tryz.prog 179 [.t i.tt] (tupD [.t (.bool (insB i))]) := by
 refine Fun.begin tys Tryz.func179 Z Z (N := 32) [(0, .t i.tt)] Z Z (fun w0 G F0 => ?_)
 refine sQ (rG (WO_box Z Z (lt_of Z) Z Z (nZ Z (eZ Z (oN (tN (sQ (W_block (sQ (rG (eK 4 Z (oN (tN ?_)))))))))))))
 refine W_cond Z (fun h1 => ?_) (fun h1 => ?_)
 ·
  try simp only [HS] at h1
  refine sQ (rG (eK 2 Z (callB ?_)))
  refine ⟨_, l2Bound_fun _, rfl, ?_⟩
  refine kZ [1,2,9] Z (eZ Z (oN (tN (rT (bR (tR (eR ?_)))))))
  ·exact retB (by grind [insB])
 try simp only [HS] at h1
 refine sQ (rG (eK 3 Z (kZ [1,2,13] Z (eZ Z (oN (tN ?_))))))
 refine W_cond Z (fun h2 => ?_) (fun h2 => ?_)
 ·
  try simp only [HS] at h2
  refine sQ (rG (eK 2 Z (callB ?_)))
  refine ⟨_, l1In_fun _ _ _, rfl, ?_⟩
  refine eZ Z (oN (tN (rT (bR (tR (eR ?_))))))
  ·exact retB (by grind [insB])
 try simp only [HS] at h2
 refine sQ (rG (eK 2 Z (callB ?_)))
 refine ⟨_, hasN_fun _, rfl, ?_⟩
 refine eZ Z (oN (tN ?_))
 refine W_cond Z (fun h3 => ?_) (fun h3 => ?_)
 ·
  try simp only [HS] at h3
  refine sQ (rG (eK 2 Z (callB ?_)))
  refine ⟨_, l1In_fun _ _ _, rfl, ?_⟩
  refine eZ Z (kZ [1,2] Z (oN (tN (rT (bR (tR (eR ?_)))))))
  ·exact retB (by grind [insB])
 try simp only [HS] at h3
 refine W_skip (bN (tN (sQ (rG (eK 2 Z (callB ?_))))))
 refine ⟨_, l1In_fun _ _ _, rfl, ?_⟩
 refine eZ Z (kZ [1,2,27] Z ?_)
 refine WO_guard Z Z Z Z (lt_of Z) (fun h4 => ?_) (fun h4 => ?_)
 rotate_left
 ·
  try simp only [HS] at h4
  refine gM Z (gM Z (eK 2 Z (oN (tN (rT (eR ?_))))))
  ·exact retB (by grind [insB])
 try simp only [HS] at h4
 refine eZ Z (gY Z (eZ Z (gY Z (eK 3 Z (oN (tN (rT (eR ?_))))))))
 ·exact retB (by grind [insB])
theorem l5Sized_fun (im : Image) (hx : im.ok 1048576) : Fun Tryz.prog 134 [.t im.tt] (tupD [.t (.bool (sizedX im))]) := by
  have hxl : im.codes.length ≤ 1048576 := hx.1.1
  refine Fun.begin tys Tryz.func134 Z Z (N := 61) [(0, .t im.tt)] Z Z (fun w0 G F0 => ?_)
  refine sQ (rG (WO_box Z Z (lt_of Z) Z Z (nZ Z (eZ Z (oN (tN (sQ (sQ (rG (eK 2 Z (evE ?_)))))))))))
  refine eZ Z (oN (tN (W_block ?_)))
  refine lK (α := Int) [1, 8, 9] [1] (fun x => [(10, .t (.int x))]) (fun x => []) (fun x => 0 ≤ x ∧ x ≤ im.codes.length ∧ (im.codes.take x.toNat).all sizedC = true) (fun x => Int.toNat (im.codes.length - x)) 0 ?_ (fun k hx => ?_)
  · exact ⟨by omega, by omega, by simp⟩
  obtain ⟨hk0, hk1, hk2⟩ := hx
  refine nY Z (sQ (rG (eZ Z (oN (tN (sQ ?_))))))
  refine W_cond Z (fun h1 => ?_) (fun h1 => ?_)
  ·
    try simp only [HS] at h1
    refine W_skip (tN (sQ (W_block (sQ (rG ?_)))))
    have hc := hx.1.2 _ (List.getElem_mem (l := im.codes) (n := k.toNat) (by omega))
    have hc1 : (im.codes[k.toNat]'(by omega)).sites.length ≤ 1048576 := hc.1
    have hc2 : (im.codes[k.toNat]'(by omega)).ins.length ≤ 1048576 := hc.2.1
    have hc3 : (im.codes[k.toNat]'(by omega)).rows.length ≤ 1048576 := hc.2.2.1
    first | refine WO_idxT tys rfl rfl (lt_of rfl) rfl rfl rfl rfl rfl rfl rfl (by omega) _ (getT _ _ (by omega) (by omega)) ?_ | refine WO_idxS tys rfl rfl (lt_of rfl) rfl rfl rfl rfl rfl rfl rfl rfl (by omega) (by omega) ?_
    first | (refine ev ?_; try refine WO_le (Le.freeze (u := 13) rfl) ?_) | refine WO_loadL tys rfl rfl (lt_of rfl) rfl rfl rfl rfl (getT _ _ (by omega) (by omega)) rfl ?_ | refine WO_loadL tys rfl rfl (lt_of rfl) rfl rfl rfl rfl (getT0 _ _ (by omega) (by omega)) rfl ?_
    refine nZ Z (WO_alloc tys Z Z (lt_of Z) Z Z Z (nZ Z (sT Z (nZ Z (oN (tN (sQ (sQ (rG (eK 2 Z (callB ?_)))))))))))
    refine ⟨_, l1In_fun _ _ _, rfl, ?_⟩
    refine eZ Z (kZ [1,4,8,9,10,11,12,13,14,15,16,17] Z (eZ Z ?_))
    refine WO_guard Z Z Z Z (lt_of Z) (fun h2 => ?_) (fun h2 => ?_)
    rotate_left
    ·
      try simp only [HS] at h2
      refine gM Z (gM Z (gM Z (gM Z (gM Z (eK 2 Z (gM Z (kZ [1,4,8,9,10,11,12,13,14,15,16,17,18,19,20,21,22,23,24,25,26,27] Z (gM Z (gM Z (gM Z (eK 2 Z (gM Z (gM Z (gM Z (gM Z ?_)))))))))))))))
      refine kZ [1,4,8,9,10,11,12,13,14,15,16,17,18,19,20,21,22,23,24,25,26,27,28,29,30,31,32,33,34,35,36] Z (gM Z (eK 2 Z (gM Z (gM Z (gM Z (gM Z (eZ Z (oN (tN (W_condT Z (sQ (kY [1,4,8,9,10,11,12,13,14,15,16,17,18,19,20,21,22,23,24,25,26,27,28,29,30,31,32,33,34,35,36,37,38,39,40,41,42,43,44] Z (rG (eZ Z (oN ?_)))))))))))))))
      refine tN (rT (tR (bR (tR (loopQ_r (bR (tR (eR ?_))))))))
      · first
        | (have hno : sizedC (im.codes[k.toNat]'(by omega)) = false := (by rw [← Bool.not_eq_true]; intro h; obtain ⟨a, b, d, e, f, g⟩ := sizedC_of h; first | omega | (have := g _ (List.getElem_mem (l := (im.codes[k.toNat]'(by omega)).ins) (n := j.toNat) (by omega)); simp_all; done))
           exact retB (by rw [sizedX, all_no hk0 (by omega) hno, Bool.and_false]))
        | exact retB (by rw [sizedX, all_fl (by omega) hk2, Bool.and_true]; exact decide_eq_decide.2 (by omega))
    try simp only [HS] at h2
    refine eZ Z (gY Z (eZ Z (gY Z (eZ Z (gY Z (eZ Z (gY Z (callB ?_))))))))
    refine ⟨_, l1In_fun _ _ _, rfl, ?_⟩
    refine gY Z (eK 3 Z (kZ [1,4,8,9,10,11,12,13,14,15,16,17,18,19,20,21,22,23,24,25,26] Z ?_))
    refine WO_guard Z Z Z Z (lt_of Z) (fun h3 => ?_) (fun h3 => ?_)
    rotate_left
    ·
      try simp only [HS] at h3
      refine gM Z (gM Z (gM Z (eK 2 Z (gM Z (gM Z (gM Z (gM Z (kZ [1,4,8,9,10,11,12,13,14,15,16,17,18,19,20,21,22,23,24,25,26,27,28,29,30,31,32,33,34,35,36] Z (gM Z (eK 2 Z (gM Z (gM Z (gM Z (gM Z (eZ Z ?_)))))))))))))))
      refine oN (tN (W_condT Z (sQ (kY [1,4,8,9,10,11,12,13,14,15,16,17,18,19,20,21,22,23,24,25,26,27,28,29,30,31,32,33,34,35,36,37,38,39,40,41,42,43,44] Z (rG (eZ Z (oN (tN (rT (tR (bR (tR (loopQ_r (bR (tR ?_)))))))))))))))
      refine eR ?_
      · first
        | (have hno : sizedC (im.codes[k.toNat]'(by omega)) = false := (by rw [← Bool.not_eq_true]; intro h; obtain ⟨a, b, d, e, f, g⟩ := sizedC_of h; first | omega | (have := g _ (List.getElem_mem (l := (im.codes[k.toNat]'(by omega)).ins) (n := j.toNat) (by omega)); simp_all; done))
           exact retB (by rw [sizedX, all_no hk0 (by omega) hno, Bool.and_false]))
        | exact retB (by rw [sizedX, all_fl (by omega) hk2, Bool.and_true]; exact decide_eq_decide.2 (by omega))
    try simp only [HS] at h3
    refine eZ Z (gY Z (eZ Z (gY Z (evE ?_))))
    refine gY Z (eK 3 Z ?_)
    refine WO_guard Z Z Z Z (lt_of Z) (fun h4 => ?_) (fun h4 => ?_)
    rotate_left
    ·
      try simp only [HS] at h4
      refine gM Z (gM Z (gM Z (kZ [1,4,8,9,10,11,12,13,14,15,16,17,18,19,20,21,22,23,24,25,26,27,28,29,30,31,32,33,34,35,36] Z (gM Z (eK 2 Z (gM Z (gM Z (gM Z (gM Z (eZ Z (oN (tN (W_condT Z (sQ (kY [1,4,8,9,10,11,12,13,14,15,16,17,18,19,20,21,22,23,24,25,26,27,28,29,30,31,32,33,34,35,36,37,38,39,40,41,42,43,44] Z ?_)))))))))))))))
      refine rG (eZ Z (oN (tN (rT (tR (bR (tR (loopQ_r (bR (tR (eR ?_)))))))))))
      · first
        | (have hno : sizedC (im.codes[k.toNat]'(by omega)) = false := (by rw [← Bool.not_eq_true]; intro h; obtain ⟨a, b, d, e, f, g⟩ := sizedC_of h; first | omega | (have := g _ (List.getElem_mem (l := (im.codes[k.toNat]'(by omega)).ins) (n := j.toNat) (by omega)); simp_all; done))
           exact retB (by rw [sizedX, all_no hk0 (by omega) hno, Bool.and_false]))
        | exact retB (by rw [sizedX, all_fl (by omega) hk2, Bool.and_true]; exact decide_eq_decide.2 (by omega))
    try simp only [HS] at h4
    refine eZ Z (gY Z (eZ Z (gY Z (evE ?_))))
    refine kZ [1,4,8,9,10,11,12,13,14,15,16,17,18,19,20,21,22,23,24,25,26,27,28,29,30,31,32,33,34,35] Z (gY Z (callB ?_))
    refine ⟨_, l1In_fun _ _ _, rfl, ?_⟩
    refine gY Z (eK 3 Z ?_)
    refine WO_guard Z Z Z Z (lt_of Z) (fun h5 => ?_) (fun h5 => ?_)
    rotate_left
    ·
      try simp only [HS] at h5
      refine gM Z (gM Z (gM Z (eZ Z (oN (tN (W_condT Z (sQ (kY [1,4,8,9,10,11,12,13,14,15,16,17,18,19,20,21,22,23,24,25,26,27,28,29,30,31,32,33,34,35,36,37,38,39,40,41,42,43,44] Z (rG (eZ Z (oN (tN (rT (tR (bR ?_)))))))))))))))
      refine tR (loopQ_r (bR (tR (eR ?_))))
      · first
        | (have hno : sizedC (im.codes[k.toNat]'(by omega)) = false := (by rw [← Bool.not_eq_true]; intro h; obtain ⟨a, b, d, e, f, g⟩ := sizedC_of h; first | omega | (have := g _ (List.getElem_mem (l := (im.codes[k.toNat]'(by omega)).ins) (n := j.toNat) (by omega)); simp_all; done))
           exact retB (by rw [sizedX, all_no hk0 (by omega) hno, Bool.and_false]))
        | exact retB (by rw [sizedX, all_fl (by omega) hk2, Bool.and_true]; exact decide_eq_decide.2 (by omega))
    try simp only [HS] at h5
    refine eZ Z (gY Z (eZ Z (gY Z (evE ?_))))
    refine gY Z (eK 2 Z (kZ [1,4,8,9,10,11,12,13,14,15,16,17,18,19,20,21,22,23,24,25,26,27,28,29,30,31,32,33,34,35,36,37,38,39,40,41,42,43,44] Z (oN (tN ?_))))
    refine W_cond Z (fun h6 => ?_) (fun h6 => ?_)
    ·
      try simp only [HS] at h6
      refine sQ (rG (eZ Z (oN (tN (rT (tR (bR (tR (loopQ_r (bR (tR (eR ?_))))))))))))
      · first
        | (have hno : sizedC (im.codes[k.toNat]'(by omega)) = false := (by rw [← Bool.not_eq_true]; intro h; obtain ⟨a, b, d, e, f, g⟩ := sizedC_of h; first | omega | (have := g _ (List.getElem_mem (l := (im.codes[k.toNat]'(by omega)).ins) (n := j.toNat) (by omega)); simp_all; done))
           exact retB (by rw [sizedX, all_no hk0 (by omega) hno, Bool.and_false]))
        | exact retB (by rw [sizedX, all_fl (by omega) hk2, Bool.and_true]; exact decide_eq_decide.2 (by omega))
    try simp only [HS] at h6
    refine W_skip (tN (sQ (rG (eK 2 Z (evE ?_)))))
    refine eZ Z (oN (tN (W_block ?_)))
    refine lK (α := Int) [1, 8, 9, 10, 46, 47] [1] (fun x => [(48, .t (.int x))]) (fun x => []) (fun x => 0 ≤ x ∧ x ≤ (im.codes[k.toNat]'(by omega)).ins.length ∧ ((im.codes[k.toNat]'(by omega)).ins.take x.toNat).all insB = true) (fun x => Int.toNat ((im.codes[k.toNat]'(by omega)).ins.length - x)) 0 ?_ (fun j hx => ?_)
    · exact ⟨by omega, by omega, by simp⟩
    obtain ⟨hj0, hj1, hj2⟩ := hx
    refine nY Z (sQ (rG (eZ Z (oN (tN (sQ ?_))))))
    refine W_cond Z (fun h7 => ?_) (fun h7 => ?_)
    ·
      try simp only [HS] at h7
      refine W_skip (tN (sQ (W_block (sQ (rG ?_)))))
      first | refine WO_idxT tys rfl rfl (lt_of rfl) rfl rfl rfl rfl rfl rfl rfl (by omega) _ (getT _ _ (by omega) (by omega)) ?_ | refine WO_idxS tys rfl rfl (lt_of rfl) rfl rfl rfl rfl rfl rfl rfl rfl (by omega) (by omega) ?_
      first | (refine ev ?_; try refine WO_le (Le.freeze (u := 51) rfl) ?_) | refine WO_loadL tys rfl rfl (lt_of rfl) rfl rfl rfl rfl (getT _ _ (by omega) (by omega)) rfl ?_ | refine WO_loadL tys rfl rfl (lt_of rfl) rfl rfl rfl rfl (getT0 _ _ (by omega) (by omega)) rfl ?_
      refine nZ Z (WO_alloc tys Z Z (lt_of Z) Z Z Z (nZ Z (sT Z (nZ Z (oN (tN (sQ (rG ?_))))))))
      first | (refine ev ?_; try refine WO_le (Le.freeze (u := 52) rfl) ?_) | refine WO_loadMove tys rfl rfl (lt_of rfl) rfl rfl rfl rfl rfl rfl ?_
      refine nZ Z (callB ?_)
      refine ⟨_, l5Ins_fun _, rfl, ?_⟩
      refine eZ Z (oN (tN ?_))
      refine W_cond Z (fun h8 => ?_) (fun h8 => ?_)
      ·
        try simp only [HS] at h8
        refine sQ (kY [1,6,8,9,10,46,47,48,49,50,51,52,53,54] Z (rG (eZ Z (oN (tN (rT (bR (tR (loopQ_r (bR (bR (tR (loopQ_r (bR (tR ?_)))))))))))))))
        refine eR ?_
        · first
          | (have hno : sizedC (im.codes[k.toNat]'(by omega)) = false := (by rw [← Bool.not_eq_true]; intro h; obtain ⟨a, b, d, e, f, g⟩ := sizedC_of h; first | omega | (have := g _ (List.getElem_mem (l := (im.codes[k.toNat]'(by omega)).ins) (n := j.toNat) (by omega)); simp_all; done))
             exact retB (by rw [sizedX, all_no hk0 (by omega) hno, Bool.and_false]))
          | exact retB (by rw [sizedX, all_fl (by omega) hk2, Bool.and_true]; exact decide_eq_decide.2 (by omega))
      try simp only [HS] at h8
      refine W_skip (bN (tN (kY [1,6,8,9,10,46,47,48,49,50,51,52,53,54] Z (rG (evI ?_)))))
      refine eZ Z (oN ?_)
      refine lQ _ ?_ ?_
      · try dsimp only
        exact ⟨by omega, by omega, all_tk hj0 (by omega) hj2 (by assumption)⟩
      · (show Int.toNat _ < Int.toNat _); omega
    try simp only [HS] at h7
    refine W_exit (tE (loopQ_e (inBlk_y (bN (tN (rG (evI ?_)))))))
    refine eZ Z (oN ?_)
    refine lQ _ ?_ ?_
    · try dsimp only
      refine ⟨by omega, by omega, all_tk hk0 (by omega) hk2 ?_⟩
      have hall := all_fl (by omega) hj2
      unfold sizedC
      rw [hall]
      simp_all <;> omega
    · (show Int.toNat _ < Int.toNat _); omega
  try simp only [HS] at h1
  refine W_exit (tE (loopQ_e (inBlk_y (tN (sQ (rG (eK 2 Z (evE ?_))))))))
  refine callB ?_
  refine ⟨_, l1In_fun _ _ _, rfl, ?_⟩
  refine eZ Z (oN (tN (rT (eR ?_))))
  · first
    | (have hno : sizedC (im.codes[k.toNat]'(by omega)) = false := (by rw [← Bool.not_eq_true]; intro h; obtain ⟨a, b, d, e, f, g⟩ := sizedC_of h; first | omega | (have := g _ (List.getElem_mem (l := (im.codes[k.toNat]'(by omega)).ins) (n := j.toNat) (by omega)); simp_all; done))
       exact retB (by rw [sizedX, all_no hk0 (by omega) hno, Bool.and_false]))
    | exact retB (by rw [sizedX, all_fl (by omega) hk2, Bool.and_true]; exact decide_eq_decide.2 (by omega))
theorem two_of {x : Image} {i : Ins} (h7 : i.op = 7 → 0 ≤ i.n ∧ i.n < x.codes.length) (h : i.op = 7) : (x.codes[i.n.toNat]'(by have := h7 h; omega)).params = tkX x i := by
 have := h7 h
 rw [tkX, if_neg (by omega), if_neg (by omega), if_pos h, codeAt_at this.1 this.2]
theorem l5Takes_fun (im : Image) (i : Ins) (hxl : im.codes.length ≤ 1048576) (hcall : i.op = 7 → 0 ≤ i.n ∧ i.n < im.codes.length) : Fun Tryz.prog 78 [.t im.tt, .t i.tt] (tupD [.t (.int (tkX im i)), .t (.int (ptX i))]) := by
 refine Fun.begin tys Tryz.func78 Z Z (N := 31) [(0, .t im.tt), (1, .t i.tt)] Z Z (fun w0 G F0 => ?_)
 refine sQ (rG (WO_box Z Z (lt_of Z) Z Z (nZ Z (WO_box Z Z (lt_of Z) Z Z (nZ Z (eK 2 Z (oN (tN (sQ (sQ (rG (eK 2 Z (oN (tN (W_block ?_)))))))))))))))
 refine sQ (sQ (rG (eK 2 Z (oN (tN ?_)))))
 refine W_joinN (α := Bool) [2, 3, 4, 5, 7] [2, 3] (fun x => [(8, .t (.bool x))]) (fun x => []) (fun x => x = decide (i.op = 1 ∨ i.op = 2 ∨ i.op = 5 ∨ i.op = 6)) ?_ (fun b hx => ?_)
 ·
  refine W_cond Z (fun h1 => ?_) (fun h1 => ?_)
  ·
   try simp only [HS] at h1
   refine W_skip ?_
   refine joinQ_n _ (by (try dsimp only); repeat (first | exact Sub.nil' | refine Sub.cons' rfl ?_)) (by (try dsimp only); repeat (first | exact SubM.nil' | refine SubM.cons' rfl ?_)) ?_
   try dsimp only
   grind
  try simp only [HS] at h1
  refine sQ (kY [2,3,4,5,7,8] Z (rG (eK 2 Z (oN (tN ?_)))))
  refine W_cond Z (fun h2 => ?_) (fun h2 => ?_)
  ·
   try simp only [HS] at h2
   refine W_skip ?_
   refine joinQ_n _ (by (try dsimp only); repeat (first | exact Sub.nil' | refine Sub.cons' rfl ?_)) (by (try dsimp only); repeat (first | exact SubM.nil' | refine SubM.cons' rfl ?_)) ?_
   try dsimp only
   grind
  try simp only [HS] at h2
  refine sQ (rG (eK 2 Z (oN (tN ?_))))
  refine W_cond Z (fun h3 => ?_) (fun h3 => ?_)
  ·
   try simp only [HS] at h3
   refine W_skip ?_
   refine joinQ_n _ (by (try dsimp only); repeat (first | exact Sub.nil' | refine Sub.cons' rfl ?_)) (by (try dsimp only); repeat (first | exact SubM.nil' | refine SubM.cons' rfl ?_)) ?_
   try dsimp only
   grind
  try simp only [HS] at h3
  refine rG (eK 2 Z (oN ?_))
  refine joinQ_n _ (by (try dsimp only); repeat (first | exact Sub.nil' | refine Sub.cons' rfl ?_)) (by (try dsimp only); repeat (first | exact SubM.nil' | refine SubM.cons' rfl ?_)) ?_
  try dsimp only
  grind
 have hb := hx
 refine tN ?_
 refine W_cond Z (fun h1 => ?_) (fun h1 => ?_)
 ·
  try simp only [HS] at h1
  refine sQ (kY [4,5] Z (rG (eK 2 Z (oN (tN (rT (bR (tR (eR ?_)))))))))
  ·first
   | exact retNN (two_of hcall (by assumption)) (by grind [ptX])
   | exact retNN (by grind [tkX]) (by grind [ptX])
 try simp only [HS] at h1
 refine sQ (sQ (kY [2,3,4,5,7] Z (rG (eK 2 Z (oN (tN ?_))))))
 refine W_cond Z (fun h2 => ?_) (fun h2 => ?_)
 ·
  try simp only [HS] at h2
  refine W_skip (tN ?_)
  refine W_cond Z (fun h3 => ?_) (fun h3 => ?_)
  ·
   try simp only [HS] at h3
   refine sQ (rG (eK 2 Z (oN (tN (rT (bR (tR (eR ?_))))))))
   ·first
    | exact retNN (two_of hcall (by assumption)) (by grind [ptX])
    | exact retNN (by grind [tkX]) (by grind [ptX])
  try simp only [HS] at h3
  refine sQ (rG (eK 2 Z (oN (tN ?_))))
  refine W_cond Z (fun h4 => ?_) (fun h4 => ?_)
  ·
   try simp only [HS] at h4
   refine sQ (rG (eK 2 Z (oN (tN (rT (bR (tR (eR ?_))))))))
   ·first
    | exact retNN (two_of hcall (by assumption)) (by grind [ptX])
    | exact retNN (by grind [tkX]) (by grind [ptX])
  try simp only [HS] at h4
  refine sQ (rG (eK 2 Z (oN (tN ?_))))
  refine W_cond Z (fun h5 => ?_) (fun h5 => ?_)
  ·
   try simp only [HS] at h5
   refine sQ (rG (eK 3 Z (kZ [4,5,25,26] Z (eZ Z ?_))))
   have h77 := hcall (by assumption)
   first | refine WO_idxT tys rfl rfl (lt_of rfl) rfl rfl rfl rfl rfl rfl rfl (by omega) _ (getT _ _ (by omega) (by omega)) ?_ | refine WO_idxS tys rfl rfl (lt_of rfl) rfl rfl rfl rfl rfl rfl rfl rfl (by omega) (by omega) ?_
   refine eZ Z ?_
   first | refine ev ?_ | refine WO_loadL tys rfl rfl (lt_of rfl) rfl rfl rfl rfl (getT _ _ (by omega) (by omega)) rfl ?_ | refine WO_loadL tys rfl rfl (lt_of rfl) rfl rfl rfl rfl (getT0 _ _ (by omega) (by omega)) rfl ?_
   refine eK 2 Z (oN (tN (rT (bR (tR (eR ?_))))))
   ·first
    | exact retNN (two_of hcall (by assumption)) (by grind [ptX])
    | exact retNN (by grind [tkX]) (by grind [ptX])
  try simp only [HS] at h5
  refine W_skip (bN (tN (sQ (rG (eK 2 Z (oN (tN (rT (eR ?_)))))))))
  ·first
   | exact retNN (two_of hcall (by assumption)) (by grind [ptX])
   | exact retNN (by grind [tkX]) (by grind [ptX])
 try simp only [HS] at h2
 refine sQ (rG (eK 2 Z (oN (tN ?_))))
 refine W_cond Z (fun h3 => ?_) (fun h3 => ?_)
 ·
  try simp only [HS] at h3
  refine W_skip (tN ?_)
  refine W_cond Z (fun h4 => ?_) (fun h4 => ?_)
  ·
   try simp only [HS] at h4
   refine sQ (rG (eK 2 Z (oN (tN (rT (bR (tR (eR ?_))))))))
   ·first
    | exact retNN (two_of hcall (by assumption)) (by grind [ptX])
    | exact retNN (by grind [tkX]) (by grind [ptX])
  try simp only [HS] at h4
  refine sQ (rG (eK 2 Z (oN (tN ?_))))
  refine W_cond Z (fun h5 => ?_) (fun h5 => ?_)
  ·
   try simp only [HS] at h5
   refine sQ (rG (eK 2 Z (oN (tN (rT (bR (tR (eR ?_))))))))
   ·first
    | exact retNN (two_of hcall (by assumption)) (by grind [ptX])
    | exact retNN (by grind [tkX]) (by grind [ptX])
  try simp only [HS] at h5
  refine sQ (rG (eK 2 Z (oN (tN ?_))))
  refine W_cond Z (fun h6 => ?_) (fun h6 => ?_)
  ·
   try simp only [HS] at h6
   refine sQ (kY [2,3,4,5] Z (rG (eK 4 Z ?_)))
   have h77 := hcall (by assumption)
   first | refine WO_idxT tys rfl rfl (lt_of rfl) rfl rfl rfl rfl rfl rfl rfl (by omega) _ (getT _ _ (by omega) (by omega)) ?_ | refine WO_idxS tys rfl rfl (lt_of rfl) rfl rfl rfl rfl rfl rfl rfl rfl (by omega) (by omega) ?_
   refine eZ Z ?_
   first | refine ev ?_ | refine WO_loadL tys rfl rfl (lt_of rfl) rfl rfl rfl rfl (getT _ _ (by omega) (by omega)) rfl ?_ | refine WO_loadL tys rfl rfl (lt_of rfl) rfl rfl rfl rfl (getT0 _ _ (by omega) (by omega)) rfl ?_
   refine eK 2 Z (kZ [4,5] Z (oN (tN (rT (bR (tR (eR ?_)))))))
   ·first
    | exact retNN (two_of hcall (by assumption)) (by grind [ptX])
    | exact retNN (by grind [tkX]) (by grind [ptX])
  try simp only [HS] at h6
  refine W_skip (bN (tN (sQ (kY [4,5] Z (rG (eK 2 Z (oN (tN (rT (eR ?_))))))))))
  ·first
   | exact retNN (two_of hcall (by assumption)) (by grind [ptX])
   | exact retNN (by grind [tkX]) (by grind [ptX])
 try simp only [HS] at h3
 refine sQ (rG (eK 2 Z (oN (tN ?_))))
 refine W_cond Z (fun h4 => ?_) (fun h4 => ?_)
 ·
  try simp only [HS] at h4
  refine W_skip (tN ?_)
  refine W_cond Z (fun h5 => ?_) (fun h5 => ?_)
  ·
   try simp only [HS] at h5
   refine sQ (rG (eK 2 Z (oN (tN (rT (bR (tR (eR ?_))))))))
   ·first
    | exact retNN (two_of hcall (by assumption)) (by grind [ptX])
    | exact retNN (by grind [tkX]) (by grind [ptX])
  try simp only [HS] at h5
  refine sQ (rG (eK 2 Z (oN (tN ?_))))
  refine W_cond Z (fun h6 => ?_) (fun h6 => ?_)
  ·
   try simp only [HS] at h6
   refine sQ (kY [4,5] Z (rG (eK 2 Z (oN (tN (rT (bR (tR (eR ?_)))))))))
   ·first
    | exact retNN (two_of hcall (by assumption)) (by grind [ptX])
    | exact retNN (by grind [tkX]) (by grind [ptX])
  try simp only [HS] at h6
  refine sQ (kY [2,3,4,5,7] Z (rG (eK 2 Z (oN (tN ?_)))))
  refine W_cond Z (fun h7 => ?_) (fun h7 => ?_)
  ·
   try simp only [HS] at h7
   refine sQ (rG (eK 4 Z ?_))
   have h77 := hcall (by assumption)
   first | refine WO_idxT tys rfl rfl (lt_of rfl) rfl rfl rfl rfl rfl rfl rfl (by omega) _ (getT _ _ (by omega) (by omega)) ?_ | refine WO_idxS tys rfl rfl (lt_of rfl) rfl rfl rfl rfl rfl rfl rfl rfl (by omega) (by omega) ?_
   refine eZ Z ?_
   first | refine ev ?_ | refine WO_loadL tys rfl rfl (lt_of rfl) rfl rfl rfl rfl (getT _ _ (by omega) (by omega)) rfl ?_ | refine WO_loadL tys rfl rfl (lt_of rfl) rfl rfl rfl rfl (getT0 _ _ (by omega) (by omega)) rfl ?_
   refine kZ [4,5,30] Z (eK 2 Z (oN (tN (rT (bR (tR (eR ?_)))))))
   ·first
    | exact retNN (two_of hcall (by assumption)) (by grind [ptX])
    | exact retNN (by grind [tkX]) (by grind [ptX])
  try simp only [HS] at h7
  refine W_skip (bN (tN (sQ (rG (eK 2 Z (oN (tN (rT (eR ?_)))))))))
  ·first
   | exact retNN (two_of hcall (by assumption)) (by grind [ptX])
   | exact retNN (by grind [tkX]) (by grind [ptX])
 try simp only [HS] at h4
 refine sQ (rG (eK 2 Z (oN (tN ?_))))
 refine W_cond Z (fun h5 => ?_) (fun h5 => ?_)
 ·
  try simp only [HS] at h5
  refine W_skip (tN ?_)
  refine W_cond Z (fun h6 => ?_) (fun h6 => ?_)
  ·
   try simp only [HS] at h6
   refine sQ (kY [4,5] Z (rG (eK 2 Z (oN (tN (rT (bR (tR (eR ?_)))))))))
   ·first
    | exact retNN (two_of hcall (by assumption)) (by grind [ptX])
    | exact retNN (by grind [tkX]) (by grind [ptX])
  try simp only [HS] at h6
  refine sQ (kY [2,3,4,5,7] Z (rG (eK 2 Z (oN (tN ?_)))))
  refine W_cond Z (fun h7 => ?_) (fun h7 => ?_)
  ·
   try simp only [HS] at h7
   refine sQ (rG (eK 2 Z (oN (tN (rT (bR (tR (eR ?_))))))))
   ·first
    | exact retNN (two_of hcall (by assumption)) (by grind [ptX])
    | exact retNN (by grind [tkX]) (by grind [ptX])
  try simp only [HS] at h7
  refine sQ (rG (eK 2 Z (oN (tN ?_))))
  refine W_cond Z (fun h8 => ?_) (fun h8 => ?_)
  ·
   try simp only [HS] at h8
   refine sQ (rG (eK 4 Z ?_))
   have h77 := hcall (by assumption)
   first | refine WO_idxT tys rfl rfl (lt_of rfl) rfl rfl rfl rfl rfl rfl rfl (by omega) _ (getT _ _ (by omega) (by omega)) ?_ | refine WO_idxS tys rfl rfl (lt_of rfl) rfl rfl rfl rfl rfl rfl rfl rfl (by omega) (by omega) ?_
   refine kZ [4,5,28] Z (eZ Z ?_)
   first | refine ev ?_ | refine WO_loadL tys rfl rfl (lt_of rfl) rfl rfl rfl rfl (getT _ _ (by omega) (by omega)) rfl ?_ | refine WO_loadL tys rfl rfl (lt_of rfl) rfl rfl rfl rfl (getT0 _ _ (by omega) (by omega)) rfl ?_
   refine eK 2 Z (oN (tN (rT (bR (tR (eR ?_))))))
   ·first
    | exact retNN (two_of hcall (by assumption)) (by grind [ptX])
    | exact retNN (by grind [tkX]) (by grind [ptX])
  try simp only [HS] at h8
  refine W_skip (bN (tN (sQ (rG (eK 2 Z (oN (tN (rT (eR ?_)))))))))
  ·first
   | exact retNN (two_of hcall (by assumption)) (by grind [ptX])
   | exact retNN (by grind [tkX]) (by grind [ptX])
 try simp only [HS] at h5
 refine sQ (kY [2,3,4,5,7,13] Z (rG (eK 2 Z (oN (tN ?_)))))
 refine W_cond Z (fun h6 => ?_) (fun h6 => ?_)
 ·
  try simp only [HS] at h6
  refine W_skip (tN ?_)
  refine W_cond Z (fun h7 => ?_) (fun h7 => ?_)
  ·
   try simp only [HS] at h7
   refine sQ (rG (eK 2 Z (oN (tN (rT (bR (tR (eR ?_))))))))
   ·first
    | exact retNN (two_of hcall (by assumption)) (by grind [ptX])
    | exact retNN (by grind [tkX]) (by grind [ptX])
  try simp only [HS] at h7
  refine sQ (rG (eK 2 Z (oN (tN ?_))))
  refine W_cond Z (fun h8 => ?_) (fun h8 => ?_)
  ·
   try simp only [HS] at h8
   refine sQ (rG (eK 2 Z (oN (tN (rT (bR (tR (eR ?_))))))))
   ·first
    | exact retNN (two_of hcall (by assumption)) (by grind [ptX])
    | exact retNN (by grind [tkX]) (by grind [ptX])
  try simp only [HS] at h8
  refine sQ (rG (eK 2 Z (oN (tN ?_))))
  refine W_cond Z (fun h9 => ?_) (fun h9 => ?_)
  ·
   try simp only [HS] at h9
   refine sQ (rG (eK 3 Z (kZ [4,5,25,26] Z (eZ Z ?_))))
   have h77 := hcall (by assumption)
   first | refine WO_idxT tys rfl rfl (lt_of rfl) rfl rfl rfl rfl rfl rfl rfl (by omega) _ (getT _ _ (by omega) (by omega)) ?_ | refine WO_idxS tys rfl rfl (lt_of rfl) rfl rfl rfl rfl rfl rfl rfl rfl (by omega) (by omega) ?_
   refine eZ Z ?_
   first | refine ev ?_ | refine WO_loadL tys rfl rfl (lt_of rfl) rfl rfl rfl rfl (getT _ _ (by omega) (by omega)) rfl ?_ | refine WO_loadL tys rfl rfl (lt_of rfl) rfl rfl rfl rfl (getT0 _ _ (by omega) (by omega)) rfl ?_
   refine eK 2 Z (oN (tN (rT (bR (tR (eR ?_))))))
   ·first
    | exact retNN (two_of hcall (by assumption)) (by grind [ptX])
    | exact retNN (by grind [tkX]) (by grind [ptX])
  try simp only [HS] at h9
  refine W_skip (bN (tN (sQ (rG (eK 2 Z (oN (tN (rT (eR ?_)))))))))
  ·first
   | exact retNN (two_of hcall (by assumption)) (by grind [ptX])
   | exact retNN (by grind [tkX]) (by grind [ptX])
 try simp only [HS] at h6
 refine rG (eK 2 Z (oN (tN ?_)))
 refine W_cond Z (fun h7 => ?_) (fun h7 => ?_)
 ·
  try simp only [HS] at h7
  refine sQ (rG (eK 2 Z (oN (tN (rT (bR (tR (eR ?_))))))))
  ·first
   | exact retNN (two_of hcall (by assumption)) (by grind [ptX])
   | exact retNN (by grind [tkX]) (by grind [ptX])
 try simp only [HS] at h7
 refine sQ (rG (eK 2 Z (oN (tN ?_))))
 refine W_cond Z (fun h8 => ?_) (fun h8 => ?_)
 ·
  try simp only [HS] at h8
  refine sQ (rG (eK 2 Z (oN (tN (rT (bR (tR (eR ?_))))))))
  ·first
   | exact retNN (two_of hcall (by assumption)) (by grind [ptX])
   | exact retNN (by grind [tkX]) (by grind [ptX])
 try simp only [HS] at h8
 refine sQ (rG (eK 2 Z (oN (tN ?_))))
 refine W_cond Z (fun h9 => ?_) (fun h9 => ?_)
 ·
  try simp only [HS] at h9
  refine sQ (kY [2,3,4,5] Z (rG (eK 4 Z ?_)))
  have h77 := hcall (by assumption)
  first | refine WO_idxT tys rfl rfl (lt_of rfl) rfl rfl rfl rfl rfl rfl rfl (by omega) _ (getT _ _ (by omega) (by omega)) ?_ | refine WO_idxS tys rfl rfl (lt_of rfl) rfl rfl rfl rfl rfl rfl rfl rfl (by omega) (by omega) ?_
  refine eZ Z ?_
  first | refine ev ?_ | refine WO_loadL tys rfl rfl (lt_of rfl) rfl rfl rfl rfl (getT _ _ (by omega) (by omega)) rfl ?_ | refine WO_loadL tys rfl rfl (lt_of rfl) rfl rfl rfl rfl (getT0 _ _ (by omega) (by omega)) rfl ?_
  refine eK 2 Z (kZ [4,5] Z (oN (tN (rT (bR (tR (eR ?_)))))))
  ·first
   | exact retNN (two_of hcall (by assumption)) (by grind [ptX])
   | exact retNN (by grind [tkX]) (by grind [ptX])
 try simp only [HS] at h9
 refine W_skip (bN (tN (sQ (kY [4,5] Z (rG (eK 2 Z (oN (tN (rT (eR ?_))))))))))
 ·first
  | exact retNN (two_of hcall (by assumption)) (by grind [ptX])
  | exact retNN (by grind [tkX]) (by grind [ptX])
theorem put_one {a n : Int} : put [a] n = if a < n then [a, n] else if a = n then [a] else [n, a] := by
 unfold put
 by_cases h1 : a < n
 ·rw [if_pos h1, if_neg (by simp; omega)]
  simp [h1]
 ·rw [if_neg h1]
  by_cases h2 : a = n
  ·subst h2; simp
  ·rw [if_neg h2, if_neg (by simp; omega)]
   simp [h1]
theorem l5Next_fun (i : Ins) (k : Int) (hk : 0 ≤ k ∧ k ≤ 1048576) : Fun Tryz.prog 79 [.t i.tt, .t (.int k)] (tupD [.t (T.ints (nextX i k))]) := by
 refine Fun.begin tys Tryz.func79 Z Z (N := 28) [(0, .t i.tt), (1, .t (.int k))] Z Z (fun w0 G F0 => ?_)
 refine sQ (rG (WO_box Z Z (lt_of Z) Z Z (nZ Z (eZ Z (oN (tN (sQ (sQ (rG (eK 2 Z (oN (tN (W_block (sQ (rG ?_)))))))))))))))
 refine eK 2 Z (oN (tN ?_))
 refine W_cond Z (fun h1 => ?_) (fun h1 => ?_)
 ·
  try simp only [HS] at h1
  refine sQ (rG (eK 2 Z ?_))
  refine WO_buildF tys [_] Z Z (lt_of Z) Z Z Z Z Z (by decide) (by repeat (first | exact PartsF.nil' | refine PartsF.cons' rfl Z ?_)) Z ?_
  refine nZ Z (kZ [1,4,11] Z (eZ Z (oN (tN ?_))))
  try (refine W_le (Le.nilT (u := 4) 1 rfl) ?_; refine W_norm rfl ?_)
  refine rT (bR (tR (eR ?_)))
  ·first
   | exact retTX (a := [i.n]) (by rw [nextX, if_pos (by assumption)])
   | exact retTX (a := put [k + 1] i.n) (by rw [put_one]; unfold nextX; rw [if_neg h1, if_pos h2])
   | exact retTX (a := []) (by grind [nextX])
   | exact retTX (a := [k + 1]) (by grind [nextX])
 try simp only [HS] at h1
 refine sQ (rG (eK 2 Z (oN (tN ?_))))
 refine W_cond Z (fun h2 => ?_) (fun h2 => ?_)
 ·
  try simp only [HS] at h2
  refine sQ (kY [1,2,4] Z (rG (eZ Z (evI ?_))))
  refine WO_buildF tys [_] Z Z (lt_of Z) Z Z Z Z Z (by decide) (by repeat (first | exact PartsF.nil' | refine PartsF.cons' rfl Z ?_)) Z ?_
  refine nZ Z (eK 2 Z (WO_callF Z Z (lt_of Z) Z Z Z Z Z (l1Put_fun [k + 1] i.n (by simp) (by simp)) Z ?_))
  refine eZ Z (oN (tN ?_))
  try (refine W_le (Le.nilT (u := 4) 1 rfl) ?_; refine W_norm rfl ?_)
  refine rT (bR (tR (eR ?_)))
  ·first
   | exact retTX (a := [i.n]) (by rw [nextX, if_pos (by assumption)])
   | exact retTX (a := put [k + 1] i.n) (by rw [put_one]; unfold nextX; rw [if_neg h1, if_pos h2])
   | exact retTX (a := []) (by grind [nextX])
   | exact retTX (a := [k + 1]) (by grind [nextX])
 try simp only [HS] at h2
 refine sQ (sQ (kY [1,4,6] Z (rG (eK 2 Z (oN (tN ?_))))))
 refine W_joinN (α := Bool) [1, 4] [2] (fun x => [(20, .t (.bool x))]) (fun x => []) (fun x => x = decide (i.op = 13 ∨ i.op = 14 ∨ i.op = 16 ∨ i.op = 18)) ?_ (fun b hx => ?_)
 ·
  refine W_cond Z (fun h3 => ?_) (fun h3 => ?_)
  ·
   try simp only [HS] at h3
   refine W_skip ?_
   refine joinQ_n _ (by (try dsimp only); repeat (first | exact Sub.nil' | refine Sub.cons' rfl ?_)) (by (try dsimp only); repeat (first | exact SubM.nil' | refine SubM.cons' rfl ?_)) ?_
   try dsimp only
   grind
  try simp only [HS] at h3
  refine sQ (rG (eK 2 Z (oN (tN ?_))))
  refine W_cond Z (fun h4 => ?_) (fun h4 => ?_)
  ·
   try simp only [HS] at h4
   refine W_skip ?_
   refine joinQ_n _ (by (try dsimp only); repeat (first | exact Sub.nil' | refine Sub.cons' rfl ?_)) (by (try dsimp only); repeat (first | exact SubM.nil' | refine SubM.cons' rfl ?_)) ?_
   try dsimp only
   grind
  try simp only [HS] at h4
  refine sQ (rG (eK 2 Z (oN (tN ?_))))
  refine W_cond Z (fun h5 => ?_) (fun h5 => ?_)
  ·
   try simp only [HS] at h5
   refine W_skip ?_
   refine joinQ_n _ (by (try dsimp only); repeat (first | exact Sub.nil' | refine Sub.cons' rfl ?_)) (by (try dsimp only); repeat (first | exact SubM.nil' | refine SubM.cons' rfl ?_)) ?_
   try dsimp only
   grind
  try simp only [HS] at h5
  refine rG (eK 2 Z (oN ?_))
  refine joinQ_n _ (by (try dsimp only); repeat (first | exact Sub.nil' | refine Sub.cons' rfl ?_)) (by (try dsimp only); repeat (first | exact SubM.nil' | refine SubM.cons' rfl ?_)) ?_
  try dsimp only
  grind
 have hb := hx
 refine tN ?_
 refine W_cond Z (fun h3 => ?_) (fun h3 => ?_)
 ·
  try simp only [HS] at h3
  refine sQ (kY [1,4] Z (rG (eZ Z (oN (tN ?_)))))
  try (refine W_le (Le.nilT (u := 4) 1 rfl) ?_; refine W_norm rfl ?_)
  refine rT (bR (tR (eR ?_)))
  ·first
   | exact retTX (a := [i.n]) (by rw [nextX, if_pos (by assumption)])
   | exact retTX (a := put [k + 1] i.n) (by rw [put_one]; unfold nextX; rw [if_neg h1, if_pos h2])
   | exact retTX (a := []) (by grind [nextX])
   | exact retTX (a := [k + 1]) (by grind [nextX])
 try simp only [HS] at h3
 refine W_skip (bN (tN (sQ (kY [1,4] Z (rG (eZ Z (evI ?_)))))))
 refine WO_buildF tys [_] Z Z (lt_of Z) Z Z Z Z Z (by decide) (by repeat (first | exact PartsF.nil' | refine PartsF.cons' rfl Z ?_)) Z ?_
 refine nZ Z (eZ Z (oN (tN ?_)))
 try (refine W_le (Le.nilT (u := 4) 1 rfl) ?_; refine W_norm rfl ?_)
 refine rT (eR ?_)
 ·first
  | exact retTX (a := [i.n]) (by rw [nextX, if_pos (by assumption)])
  | exact retTX (a := put [k + 1] i.n) (by rw [put_one]; unfold nextX; rw [if_neg h1, if_pos h2])
  | exact retTX (a := []) (by grind [nextX])
  | exact retTX (a := [k + 1]) (by grind [nextX])
theorem l5Named_fun (im : Image) (c : Code) (hxl : im.codes.length ≤ 1048576) (hcl : c.ins.length ≤ 1048576) (hsl : c.sites.length ≤ 1048576) : Fun Tryz.prog 180 [.t im.tt, .t c.tt] (tupD [.t (.bool (namedB im c))]) := by
 refine Fun.begin tys Tryz.func180 Z Z (N := 42) [(0, .t im.tt), (1, .t c.tt)] Z Z (fun w0 G F0 => ?_)
 refine sQ (rG (WO_box Z Z (lt_of Z) Z Z (nZ Z (WO_box Z Z (lt_of Z) Z Z (nZ Z (eZ Z (oN (tN (sQ (sQ (rG (eK 2 Z (evE ?_)))))))))))))
 refine eZ Z (oN (tN (W_block ?_)))
 refine lK (α := Int) [2, 3, 8, 9] [2, 3] (fun x => [(10, .t (.int x))]) (fun x => []) (fun x => 0 ≤ x ∧ x ≤ c.ins.length ∧ (c.ins.take x.toNat).all (namedI im c) = true) (fun x => Int.toNat (c.ins.length - x)) 0 ?_ (fun k hx => ?_)
 ·exact ⟨by omega, by omega, by simp⟩
 obtain ⟨hk0, hk1, hk2⟩ := hx
 refine nY Z (sQ (rG (eZ Z (oN (tN (sQ ?_))))))
 refine W_cond Z (fun h1 => ?_) (fun h1 => ?_)
 ·
  try simp only [HS] at h1
  refine W_skip (tN (sQ (W_block (sQ (rG ?_)))))
  first | refine WO_idxT tys rfl rfl (lt_of rfl) rfl rfl rfl rfl rfl rfl rfl (by omega) _ (getT _ _ (by omega) (by omega)) ?_ | refine WO_idxS tys rfl rfl (lt_of rfl) rfl rfl rfl rfl rfl rfl rfl rfl (by omega) (by omega) ?_
  first | (refine ev ?_; try refine WO_le (Le.freeze (u := 13) rfl) ?_) | refine WO_loadL tys rfl rfl (lt_of rfl) rfl rfl rfl rfl (getT _ _ (by omega) (by omega)) rfl ?_ | refine WO_loadL tys rfl rfl (lt_of rfl) rfl rfl rfl rfl (getT0 _ _ (by omega) (by omega)) rfl ?_
  refine nZ Z (WO_alloc tys Z Z (lt_of Z) Z Z Z (nZ Z (sT Z (nZ Z (oN (tN (sQ (rG (eK 2 Z (oN (tN (W_block (sQ (sQ (kY [2,3,6,8,9,10,11,12,13,14,15] Z ?_)))))))))))))))
  refine rG (eK 2 Z (oN (tN ?_)))
  refine W_joinN (α := Bool) [2, 3, 6, 8, 9, 10, 11, 12, 13, 14, 15, 17] [2, 3, 6] (fun x => [(16, .t (.bool x))]) (fun x => []) (fun x => x = decide ((c.ins[k.toNat]'(by omega)).op = 2 ∨ (c.ins[k.toNat]'(by omega)).op = 3)) ?_ (fun b hx => ?_)
  ·
   refine W_cond Z (fun h2 => ?_) (fun h2 => ?_)
   ·
    try simp only [HS] at h2
    refine W_skip ?_
    refine joinQ_n _ (by (try dsimp only); repeat (first | exact Sub.nil' | refine Sub.cons' rfl ?_)) (by (try dsimp only); repeat (first | exact SubM.nil' | refine SubM.cons' rfl ?_)) ?_
    try dsimp only
    grind
   try simp only [HS] at h2
   refine rG (eK 2 Z (oN ?_))
   refine joinQ_n _ (by (try dsimp only); repeat (first | exact Sub.nil' | refine Sub.cons' rfl ?_)) (by (try dsimp only); repeat (first | exact SubM.nil' | refine SubM.cons' rfl ?_)) ?_
   try dsimp only
   grind
  have hb := hx
  refine tN ?_
  refine W_cond Z (fun h2 => ?_) (fun h2 => ?_)
  ·
   try simp only [HS] at h2
   refine sQ (kY [2,3,6,8,9,10,11,12,13,14,15,16,17] Z (rG (eK 5 Z (oN (tN ?_)))))
   refine W_cond Z (fun h3 => ?_) (fun h3 => ?_)
   ·
    try simp only [HS] at h3
    refine sQ (rG (eZ Z (oN (tN (rT (bR (bR (tR (loopQ_r (bR (tR (eR ?_))))))))))))
    ·first
     | exact retB (by rw [namedB, all_fl (by omega) hk2])
     | exact retB (by rw [namedB, all_no hk0 (by omega) (by grind [namedI])])
   try simp only [HS] at h3
   refine W_skip (bN (bN (tN (rG (evI ?_)))))
   refine eZ Z (oN ?_)
   refine lQ _ ?_ ?_
   ·try dsimp only
    exact ⟨by omega, by omega, all_tk hk0 (by omega) hk2 (by grind [namedI])⟩
   ·(show Int.toNat _ < Int.toNat _); omega
  try simp only [HS] at h2
  refine sQ (sQ (kY [2,3,6,8,9,10,11,12,13,14,15,16,17] Z (rG (eK 2 Z (oN (tN ?_))))))
  refine W_joinN (α := Bool) [2, 3, 6, 8, 9, 10, 11, 12, 13, 14, 15, 16, 17, 25] [2, 3, 6] (fun x => [(24, .t (.bool x))]) (fun x => []) (fun x => x = decide ((c.ins[k.toNat]'(by omega)).op = 12 ∨ (c.ins[k.toNat]'(by omega)).op = 17)) ?_ (fun d hx => ?_)
  ·
   refine W_cond Z (fun h3 => ?_) (fun h3 => ?_)
   ·
    try simp only [HS] at h3
    refine W_skip ?_
    refine joinQ_n _ (by (try dsimp only); repeat (first | exact Sub.nil' | refine Sub.cons' rfl ?_)) (by (try dsimp only); repeat (first | exact SubM.nil' | refine SubM.cons' rfl ?_)) ?_
    try dsimp only
    grind
   try simp only [HS] at h3
   refine rG (eK 2 Z (oN ?_))
   refine joinQ_n _ (by (try dsimp only); repeat (first | exact Sub.nil' | refine Sub.cons' rfl ?_)) (by (try dsimp only); repeat (first | exact SubM.nil' | refine SubM.cons' rfl ?_)) ?_
   try dsimp only
   grind
  have hd := hx
  refine tN ?_
  refine W_cond Z (fun h3 => ?_) (fun h3 => ?_)
  ·
   try simp only [HS] at h3
   refine sQ (kY [2,3,6,8,9,10,11,12,13,14,15,16,17,24,25] Z (rG (eK 4 Z (evE ?_))))
   refine eZ Z (oN (tN ?_))
   refine W_cond Z (fun h4 => ?_) (fun h4 => ?_)
   ·
    try simp only [HS] at h4
    refine sQ (rG (eZ Z (oN (tN (rT (bR (bR (tR (loopQ_r (bR (tR (eR ?_))))))))))))
    ·first
     | exact retB (by rw [namedB, all_fl (by omega) hk2])
     | exact retB (by rw [namedB, all_no hk0 (by omega) (by grind [namedI])])
   try simp only [HS] at h4
   refine W_skip (bN (bN (tN (rG (evI ?_)))))
   refine eZ Z (oN ?_)
   refine lQ _ ?_ ?_
   ·try dsimp only
    exact ⟨by omega, by omega, all_tk hk0 (by omega) hk2 (by grind [namedI])⟩
   ·(show Int.toNat _ < Int.toNat _); omega
  try simp only [HS] at h3
  refine sQ (kY [2,3,6,8,9,10,11,12,13,14,15,16,17,24,25] Z (rG (eK 2 Z (oN (tN ?_)))))
  refine W_cond Z (fun h4 => ?_) (fun h4 => ?_)
  ·
   try simp only [HS] at h4
   refine sQ (rG (eK 4 Z (evE ?_)))
   refine eZ Z (oN (tN ?_))
   refine W_cond Z (fun h5 => ?_) (fun h5 => ?_)
   ·
    try simp only [HS] at h5
    refine sQ (kY [2,3,6,8,9,10,11,12,13,14,15,16,17,24,25,33,34,35,36,37,38,39,40] Z (rG (eZ Z (oN (tN (rT (bR (bR (tR (loopQ_r (bR (tR (eR ?_)))))))))))))
    ·first
     | exact retB (by rw [namedB, all_fl (by omega) hk2])
     | exact retB (by rw [namedB, all_no hk0 (by omega) (by grind [namedI])])
   try simp only [HS] at h5
   refine W_skip (bN (bN (tN (kY [2,3,6,8,9,10,11,12,13,14,15,16,17,24,25,33,34,35,36,37,38,39,40] Z (rG (evI ?_))))))
   refine eZ Z (oN ?_)
   refine lQ _ ?_ ?_
   ·try dsimp only
    exact ⟨by omega, by omega, all_tk hk0 (by omega) hk2 (by grind [namedI])⟩
   ·(show Int.toNat _ < Int.toNat _); omega
  try simp only [HS] at h4
  refine W_skip (bN (bN (tN (rG (evI ?_)))))
  refine eZ Z (oN ?_)
  refine lQ _ ?_ ?_
  ·try dsimp only
   exact ⟨by omega, by omega, all_tk hk0 (by omega) hk2 (by grind [namedI])⟩
  ·(show Int.toNat _ < Int.toNat _); omega
 try simp only [HS] at h1
 refine W_exit (tE (loopQ_e (inBlk_y (tN (sQ (rG (eZ Z (oN (tN (rT (eR ?_)))))))))))
 ·first
  | exact retB (by rw [namedB, all_fl (by omega) hk2])
  | exact retB (by rw [namedB, all_no hk0 (by omega) (by grind [namedI])])
theorem siteI_at {x : Image} {n : Int} (h0 : 0 ≤ n) (h1 : n < x.codes.length) : siteI x n = decide ((x.codes[n.toNat]'(by omega)).params = 0) := by
 rw [siteI, codeAt_at h0 h1, decide_eq_true (show 0 ≤ n ∧ n < (x.codes.length : Int) from ⟨h0, h1⟩), Bool.true_and]
theorem l5Sites_fun (im : Image) (c : Code) (hxl : im.codes.length ≤ 1048576) (hsl : c.sites.length ≤ 1048576) : Fun Tryz.prog 181 [.t im.tt, .t c.tt] (tupD [.t (.bool (sitesB im c))]) := by
 refine Fun.begin tys Tryz.func181 Z Z (N := 31) [(0, .t im.tt), (1, .t c.tt)] Z Z (fun w0 G F0 => ?_)
 refine sQ (rG (WO_box Z Z (lt_of Z) Z Z (nZ Z (WO_box Z Z (lt_of Z) Z Z (nZ Z (eZ Z (oN (tN (sQ (sQ (rG (eK 2 Z (evE ?_)))))))))))))
 refine eZ Z (oN (tN (W_block ?_)))
 refine lK (α := Int) [2, 3, 8, 9] [2, 3] (fun x => [(10, .t (.int x))]) (fun x => []) (fun x => 0 ≤ x ∧ x ≤ c.sites.length ∧ (c.sites.take x.toNat).all (siteI im) = true) (fun x => Int.toNat (c.sites.length - x)) 0 ?_ (fun k hx => ?_)
 ·exact ⟨by omega, by omega, by simp⟩
 obtain ⟨hk0, hk1, hk2⟩ := hx
 refine nY Z (sQ (rG (eZ Z (oN (tN (sQ ?_))))))
 refine W_cond Z (fun h1 => ?_) (fun h1 => ?_)
 ·
  try simp only [HS] at h1
  refine W_skip (tN (sQ (W_block (sQ (rG ?_)))))
  first | refine WO_idxT tys rfl rfl (lt_of rfl) rfl rfl rfl rfl rfl rfl rfl (by omega) _ (getT _ _ (by omega) (by omega)) ?_ | refine WO_idxS tys rfl rfl (lt_of rfl) rfl rfl rfl rfl rfl rfl rfl rfl (by omega) (by omega) ?_
  first | refine ev ?_ | refine WO_loadL tys rfl rfl (lt_of rfl) rfl rfl rfl rfl (getT _ _ (by omega) (by omega)) rfl ?_ | refine WO_loadL tys rfl rfl (lt_of rfl) rfl rfl rfl rfl (getT0 _ _ (by omega) (by omega)) rfl ?_
  refine eZ Z (oN (tN (sQ (rG (eK 3 Z (evE ?_))))))
  refine evI ?_
  refine kZ [2,3,6,8,9,10,11,12,13,14,15,16,17,18] Z (callB ?_)
  refine ⟨_, l1In_fun _ _ _, rfl, ?_⟩
  refine eK 2 Z ?_
  refine WO_guard Z Z Z Z (lt_of Z) (fun h2 => ?_) (fun h2 => ?_)
  rotate_left
  ·
   try simp only [HS] at h2
   refine gM Z (gM Z (gM Z (gM Z (gM Z (gM Z (kZ [2,3,6,8,9,10,11,12,13,14,15,16,17,18,19,20,21,22,23,24,25,26,27,28] Z (eZ Z (oN (tN (W_condT Z (sQ (rG (eZ Z (oN (tN ?_)))))))))))))))
   refine rT (bR (tR (loopQ_r (bR (tR (eR ?_))))))
   ·first
    | exact retB (by rw [sitesB, all_fl (by omega) hk2])
    | exact retB (by rw [sitesB, all_no hk0 (by omega) (by first | (rw [siteI_at (by omega) (by omega)]; simp_all; done) | (rw [siteI, decide_eq_false (by omega)]; rfl))])
  try simp only [HS] at h2
  refine eZ Z (gY Z (eZ Z (gY Z (eZ Z (gY Z ?_)))))
  first | refine WO_idxT tys rfl rfl (lt_of rfl) rfl rfl rfl rfl rfl rfl rfl (by omega) _ (getT _ _ (by omega) (by omega)) ?_ | refine WO_idxS tys rfl rfl (lt_of rfl) rfl rfl rfl rfl rfl rfl rfl rfl (by omega) (by omega) ?_
  refine gY Z (eZ Z (gY Z ?_))
  first | refine ev ?_ | refine WO_loadL tys rfl rfl (lt_of rfl) rfl rfl rfl rfl (getT _ _ (by omega) (by omega)) rfl ?_ | refine WO_loadL tys rfl rfl (lt_of rfl) rfl rfl rfl rfl (getT0 _ _ (by omega) (by omega)) rfl ?_
  refine kZ [2,3,6,8,9,10,11,12,13,14,15,16,17,18,19,20,21,22,23,24,25,26,27] Z (gY Z (eK 2 Z (oN (tN ?_))))
  refine W_cond Z (fun h3 => ?_) (fun h3 => ?_)
  ·
   try simp only [HS] at h3
   refine sQ (rG (eZ Z (oN (tN (rT (bR (tR (loopQ_r (bR (tR (eR ?_)))))))))))
   ·first
    | exact retB (by rw [sitesB, all_fl (by omega) hk2])
    | exact retB (by rw [sitesB, all_no hk0 (by omega) (by first | (rw [siteI_at (by omega) (by omega)]; simp_all; done) | (rw [siteI, decide_eq_false (by omega)]; rfl))])
  try simp only [HS] at h3
  refine W_skip (bN (tN (rG (evI ?_))))
  refine eZ Z (oN ?_)
  refine lQ _ ?_ ?_
  ·try dsimp only
   exact ⟨by omega, by omega, all_tk hk0 (by omega) hk2 (by rw [siteI_at (by omega) (by omega)]; simp_all)⟩
  ·(show Int.toNat _ < Int.toNat _); omega
 try simp only [HS] at h1
 refine W_exit (tE (loopQ_e (inBlk_y (tN (sQ (rG (eZ Z (oN (tN (rT (eR ?_)))))))))))
 ·first
  | exact retB (by rw [sitesB, all_fl (by omega) hk2])
  | exact retB (by rw [sitesB, all_no hk0 (by omega) (by first | (rw [siteI_at (by omega) (by omega)]; simp_all; done) | (rw [siteI, decide_eq_false (by omega)]; rfl))])
theorem next_all {i : Ins} (h : insB i = true) {k N : Int} (hk : 0 ≤ k) : allIn (nextX i k) 0 (N - 1) = (nextX i k).all fun n => decide (n < N) := by
 have hn := nextX_nn h hk
 unfold allIn
 rw [Bool.eq_iff_iff, List.all_eq_true, List.all_eq_true]
 constructor
 ·intro g n hm; have := of_decide_eq_true (g n hm); exact decide_eq_true (by omega)
 ·intro g n hm; have := of_decide_eq_true (g n hm); have := hn n hm; exact decide_eq_true (by omega)
theorem l5Goes_fun (c : Code) (hcl : c.ins.length ≤ 1048576) (hi : c.ins.all insB = true) : Fun Tryz.prog 182 [.t c.tt] (tupD [.t (.bool (goesB c))]) := by
 refine Fun.begin tys Tryz.func182 Z Z (N := 23) [(0, .t c.tt)] Z Z (fun w0 G F0 => ?_)
 refine sQ (rG (WO_box Z Z (lt_of Z) Z Z (nZ Z (eZ Z (oN (tN (sQ (sQ (rG (eK 2 Z (evE ?_)))))))))))
 refine eZ Z (oN (tN (W_block ?_)))
 refine lK (α := Int) [1, 6, 7] [1] (fun x => [(8, .t (.int x))]) (fun x => []) (fun x => 0 ≤ x ∧ x ≤ c.ins.length ∧ goesB c = goesGo c.ins.length (c.ins.drop x.toNat) x) (fun x => Int.toNat (c.ins.length - x)) 0 ?_ (fun k hx => ?_)
 ·exact ⟨by omega, by omega, rfl⟩
 obtain ⟨hk0, hk1, hk2⟩ := hx
 refine nY Z (sQ (rG (eZ Z (oN (tN (sQ ?_))))))
 refine W_cond Z (fun h1 => ?_) (fun h1 => ?_)
 ·
  try simp only [HS] at h1
  refine W_skip (tN (sQ (W_block (sQ (rG (eZ Z ?_))))))
  first | refine WO_idxT tys rfl rfl (lt_of rfl) rfl rfl rfl rfl rfl rfl rfl (by omega) _ (getT _ _ (by omega) (by omega)) ?_ | refine WO_idxS tys rfl rfl (lt_of rfl) rfl rfl rfl rfl rfl rfl rfl rfl (by omega) (by omega) ?_
  first | (refine ev ?_; try refine WO_le (Le.freeze (u := 12) rfl) ?_) | refine WO_loadL tys rfl rfl (lt_of rfl) rfl rfl rfl rfl (getT _ _ (by omega) (by omega)) rfl ?_ | refine WO_loadL tys rfl rfl (lt_of rfl) rfl rfl rfl rfl (getT0 _ _ (by omega) (by omega)) rfl ?_
  refine nZ Z (WO_alloc tys Z Z (lt_of Z) Z Z Z (nZ Z (eZ Z (sT Z (nZ Z (oN (tN (sQ (kY [1,3,4,6,7,8,9,10,11,12] Z (W_regionD mixed (by kernel_rfl) ?_))))))))))
  first | refine QL_evZ tys rfl rfl (lt_of rfl) rfl rfl ?_ | refine evQ ?_ | refine WO_loadMove tys rfl rfl (lt_of rfl) rfl rfl rfl rfl rfl rfl ?_
  refine evQ ?_
  refine QL_callF Z Z (lt_of Z) Z Z Z Z Z (l5Next_fun _ _ (by omega)) Z (evQ ?_)
  refine evQ ?_
  refine evEQ ?_
  refine QL_norm Z (evIQ ?_)
  refine callBQ ?_
  refine ⟨_, l1All_fun _ _ _ (by have := nextX_len (c.ins[k.toNat]'(by omega)) k; omega), rfl, ?_⟩
  refine evQ ?_
  refine QL_nil (tN ?_)
  refine W_cond Z (fun h2 => ?_) (fun h2 => ?_)
  ·
   try simp only [HS] at h2
   refine sQ (rG (eZ Z (oN (tN (rT (bR (tR (loopQ_r (bR (tR (eR ?_)))))))))))
   ·first
    | exact retB (by rw [hk2, drop_end (by omega)]; rfl)
    | exact retB (by rw [hk2, drop_at hk0 (by omega), goesGo, ← next_all (List.all_eq_true.1 hi _ (List.getElem_mem _)) hk0, h2]; rfl)
  try simp only [HS] at h2
  refine W_skip (bN (tN (rG (evI ?_))))
  refine eZ Z (oN ?_)
  refine lQ _ ?_ ?_
  ·try dsimp only
   refine ⟨by omega, by omega, ?_⟩
   rw [hk2, drop_at hk0 (by omega), goesGo, ← next_all (List.all_eq_true.1 hi _ (List.getElem_mem _)) hk0, h2, Bool.true_and]
  ·(show Int.toNat _ < Int.toNat _); omega
 try simp only [HS] at h1
 refine W_exit (tE (loopQ_e (inBlk_y (tN (sQ (rG (eZ Z (oN (tN (rT (eR ?_)))))))))))
 ·first
  | exact retB (by rw [hk2, drop_end (by omega)]; rfl)
  | exact retB (by rw [hk2, drop_at hk0 (by omega), goesGo, ← next_all (List.all_eq_true.1 hi _ (List.getElem_mem _)) hk0, h2]; rfl)
theorem l5Rows_fun (rows : List Row) (many : Int) (hl : rows.length ≤ 1048576) (hm : 0 ≤ many ∧ many ≤ 1048576) : Fun Tryz.prog 183 [.t (T.Rows rows), .t (.int many)] (tupD [.t (.bool (rowsB rows many))]) := by
 refine Fun.begin tys Tryz.func183 Z Z (N := 42) [(0, .t (T.Rows rows)), (1, .t (.int many))] Z Z (fun w0 G F0 => ?_)
 refine sQ (rG (eZ Z (oN (tN (sQ (rG (eZ Z (oN (tN (sQ (sQ (rG (eZ Z (evE ?_))))))))))))))
 refine eZ Z (oN (tN (W_block ?_)))
 refine lK (α := Int × Int) [0, 1, 8, 9] [] (fun x => [(10, .t (.int (x.1))), (5, .t (.int (x.2)))]) (fun x => []) (fun x => 0 ≤ (x.1) ∧ (x.1) ≤ rows.length ∧ rowsB rows many = rowsGo many (rows.drop (x.1).toNat) (x.2)) (fun x => Int.toNat (rows.length - (x.1))) (0, 0) ?_ (fun x hx => ?_)
 ·exact ⟨by omega, by omega, rfl⟩
 obtain ⟨k, e⟩ := x
 obtain ⟨hk0, hk1, hk2⟩ := hx
 try dsimp only at hk0 hk1 hk2 ⊢
 refine nY Z (sQ (rG (eZ Z (oN (tN (sQ ?_))))))
 refine W_cond Z (fun h1 => ?_) (fun h1 => ?_)
 ·
  try simp only [HS] at h1
  refine W_skip (tN (sQ (W_block (sQ (rG ?_)))))
  first | refine WO_idxT tys rfl rfl (lt_of rfl) rfl rfl rfl rfl rfl rfl rfl (by omega) _ (getT _ _ (by omega) (by omega)) ?_ | refine WO_idxS tys rfl rfl (lt_of rfl) rfl rfl rfl rfl rfl rfl rfl rfl (by omega) (by omega) ?_
  first | (refine ev ?_; try refine WO_le (Le.freeze (u := 13) rfl) ?_) | refine WO_loadL tys rfl rfl (lt_of rfl) rfl rfl rfl rfl (getT _ _ (by omega) (by omega)) rfl ?_ | refine WO_loadL tys rfl rfl (lt_of rfl) rfl rfl rfl rfl (getT0 _ _ (by omega) (by omega)) rfl ?_
  refine nZ Z (WO_alloc tys Z Z (lt_of Z) Z Z Z (nZ Z (sT Z (nZ Z (oN (tN (sQ (sQ (rG (eK 4 Z (kZ [0,1,5,7,8,9,10,11,12,13,14,15,16,17] Z (eZ Z ?_))))))))))))
  refine WO_guard Z Z Z Z (lt_of Z) (fun h2 => ?_) (fun h2 => ?_)
  rotate_left
  ·
   try simp only [HS] at h2
   refine gM Z (gM Z (gM Z (gM Z (eK 2 Z (gM Z (gM Z (kZ [0,1,5,7,8,9,10,11,12,13,14,15,16,17,18,19,20,21,22,23,24,25,26,27] Z (gM Z (gM Z (eK 2 Z (gM Z (gM Z (gM Z (gM Z (gM Z ?_)))))))))))))))
   refine kZ [0,1,5,7,8,9,10,11,12,13,14,15,16,17,18,19,20,21,22,23,24,25,26,27,28,29,30,31,32,33,34,35,36] Z (gM Z (eZ Z (oN (tN (W_condT Z (sQ (rG (eZ Z (oN (tN (rT (tR (bR (tR (loopQ_r ?_)))))))))))))))
   refine bR (tR (eR ?_))
   ·first
    | exact retB (by rw [hk2, drop_end (by omega)]; rfl)
    | exact retB (by rw [hk2, drop_at hk0 (by omega), rowsGo]; simp_all <;> omega)
  try simp only [HS] at h2
  refine eZ Z (gY Z (eZ Z (gY Z (eZ Z (gY Z (eZ Z (gY Z (eK 3 Z ?_))))))))
  refine WO_guard Z Z Z Z (lt_of Z) (fun h3 => ?_) (fun h3 => ?_)
  rotate_left
  ·
   try simp only [HS] at h3
   refine gM Z (kZ [0,1,5,7,8,9,10,11,12,13,14,15,16,17,18,19,20,21,22,23,24,25,26,27] Z (gM Z (gM Z (eK 2 Z (gM Z (gM Z (gM Z (gM Z (gM Z (kZ [0,1,5,7,8,9,10,11,12,13,14,15,16,17,18,19,20,21,22,23,24,25,26,27,28,29,30,31,32,33,34,35,36] Z (gM Z (eZ Z (oN (tN (W_condT Z ?_)))))))))))))))
   refine sQ (rG (eZ Z (oN (tN (rT (tR (bR (tR (loopQ_r (bR (tR (eR ?_))))))))))))
   ·first
    | exact retB (by rw [hk2, drop_end (by omega)]; rfl)
    | exact retB (by rw [hk2, drop_at hk0 (by omega), rowsGo]; simp_all <;> omega)
  try simp only [HS] at h3
  refine eZ Z (gY Z (eZ Z (kZ [0,1,5,7,8,9,10,11,12,13,14,15,16,17,18,19,20,21,22,23,24,25,26,27] Z (gY Z (eZ Z (gY Z (eK 3 Z ?_)))))))
  refine WO_guard Z Z Z Z (lt_of Z) (fun h4 => ?_) (fun h4 => ?_)
  rotate_left
  ·
   try simp only [HS] at h4
   refine gM Z (gM Z (gM Z (gM Z (gM Z (kZ [0,1,5,7,8,9,10,11,12,13,14,15,16,17,18,19,20,21,22,23,24,25,26,27,28,29,30,31,32,33,34,35,36,37] Z (eZ Z (oN (tN (W_condT Z (sQ (rG (eZ Z (oN (tN (rT ?_)))))))))))))))
   refine tR (bR (tR (loopQ_r (bR (tR (eR ?_))))))
   ·first
    | exact retB (by rw [hk2, drop_end (by omega)]; rfl)
    | exact retB (by rw [hk2, drop_at hk0 (by omega), rowsGo]; simp_all <;> omega)
  try simp only [HS] at h4
  refine eZ Z (gY Z (eZ Z (gY Z (eZ Z (gY Z (evI ?_))))))
  refine gY Z (callB ?_)
  refine ⟨_, l1In_fun _ _ _, rfl, ?_⟩
  refine kZ [0,1,5,7,8,9,10,11,12,13,14,15,16,17,18,19,20,21,22,23,24,25,26,27,28,29,30,31,32,33,34,35,36] Z (gY Z (eK 2 Z (oN (tN ?_))))
  refine W_cond Z (fun h5 => ?_) (fun h5 => ?_)
  ·
   try simp only [HS] at h5
   refine sQ (rG (eZ Z (oN (tN (rT (tR (bR (tR (loopQ_r (bR (tR (eR ?_))))))))))))
   ·first
    | exact retB (by rw [hk2, drop_end (by omega)]; rfl)
    | exact retB (by rw [hk2, drop_at hk0 (by omega), rowsGo]; simp_all <;> omega)
  try simp only [HS] at h5
  refine W_skip (tN (rG (eK 3 Z (oN (bN (tN (rG (evI ?_))))))))
  refine eZ Z (oN ?_)
  refine lQ (_, _) ?_ ?_
  ·try dsimp only
   refine ⟨by omega, by omega, ?_⟩
   rw [hk2, drop_at hk0 (by omega), rowsGo]
   simp_all <;> omega
  ·(show Int.toNat _ < Int.toNat _); omega
 try simp only [HS] at h1
 refine W_exit (tE (loopQ_e (inBlk_y (tN (sQ (rG (eZ Z (oN (tN (rT (eR ?_)))))))))))
 ·first
  | exact retB (by rw [hk2, drop_end (by omega)]; rfl)
  | exact retB (by rw [hk2, drop_at hk0 (by omega), rowsGo]; simp_all <;> omega)
theorem l5RowAt_fun (rows : List Row) (at' : Int) (hl : rows.length ≤ 1048576) (hr : ∀ r, r ∈ rows → -1048576 ≤ r.hi ∧ r.hi ≤ 1048576) : Fun Tryz.prog 163 [.t (T.Rows rows), .t (.int at')] (tupD [.t (.int (rowX rows at'))]) := by
 refine Fun.begin tys Tryz.func163 Z Z (N := 23) [(0, .t (T.Rows rows)), (1, .t (.int at'))] Z Z (fun w0 G F0 => ?_)
 refine sQ (rG (eZ Z (oN (tN (sQ (sQ (rG (eZ Z (evE ?_)))))))))
 refine eZ Z (oN (tN (W_block ?_)))
 refine lK (α := Int) [0, 1, 7, 8] [] (fun x => [(9, .t (.int x))]) (fun x => []) (fun x => 0 ≤ x ∧ x ≤ rows.length ∧ rowX rows at' = rowGo at' (rows.drop x.toNat) x.toNat) (fun x => Int.toNat (rows.length - x)) 0 ?_ (fun k hx => ?_)
 ·exact ⟨by omega, by omega, rfl⟩
 obtain ⟨hk0, hk1, hk2⟩ := hx
 refine nY Z (sQ (rG (eZ Z (oN (tN (sQ ?_))))))
 refine W_cond Z (fun h1 => ?_) (fun h1 => ?_)
 ·
  try simp only [HS] at h1
  refine W_skip (tN (sQ (W_block (sQ (rG (eZ Z ?_))))))
  have hrk := hr _ (List.getElem_mem (l := rows) (n := k.toNat) (by omega))
  first | refine WO_idxT tys rfl rfl (lt_of rfl) rfl rfl rfl rfl rfl rfl rfl (by omega) _ (getT _ _ (by omega) (by omega)) ?_ | refine WO_idxS tys rfl rfl (lt_of rfl) rfl rfl rfl rfl rfl rfl rfl rfl (by omega) (by omega) ?_
  first | (refine ev ?_; try refine WO_le (Le.freeze (u := 13) rfl) ?_) | refine WO_loadL tys rfl rfl (lt_of rfl) rfl rfl rfl rfl (getT _ _ (by omega) (by omega)) rfl ?_ | refine WO_loadL tys rfl rfl (lt_of rfl) rfl rfl rfl rfl (getT0 _ _ (by omega) (by omega)) rfl ?_
  refine nZ Z (WO_alloc tys Z Z (lt_of Z) Z Z Z (nZ Z (eZ Z (sT Z (nZ Z (oN (tN (sQ (kY [0,1,5,6,7,8,9,10,11,12,13] Z (rG (eK 5 Z (evI ?_))))))))))))
  refine callB ?_
  refine ⟨_, l1In_fun _ _ _, rfl, ?_⟩
  refine oN (tN ?_)
  refine W_cond Z (fun h2 => ?_) (fun h2 => ?_)
  ·
   try simp only [HS] at h2
   refine sQ (kY [0,1,5,6,7,8,9,10,11,12,13,14,15,16,17,18,19,20] Z (rG (eK 2 Z (oN (tN (rT (bR (tR (loopQ_r (bR (tR (eR ?_))))))))))))
   ·first
    | (refine retI ?_; rw [hk2, drop_at hk0 (by omega), rowGo, if_pos (by omega)]; omega)
    | (refine retI ?_; rw [hk2, drop_end (by omega)]; rfl)
  try simp only [HS] at h2
  refine W_skip (bN (tN (kY [0,1,5,6,7,8,9,10,11,12,13,14,15,16,17,18,19,20] Z (rG (evI ?_)))))
  refine eZ Z (oN ?_)
  refine lQ _ ?_ ?_
  ·try dsimp only
   refine ⟨by omega, by omega, ?_⟩
   rw [hk2, drop_at hk0 (by omega), rowGo, if_neg (by omega), show (k + 1).toNat = k.toNat + 1 from by omega]
  ·(show Int.toNat _ < Int.toNat _); omega
 try simp only [HS] at h1
 refine W_exit (tE (loopQ_e (inBlk_y (tN (sQ (rG (eZ Z (oN (tN (rT (eR ?_)))))))))))
 ·first
  | (refine retI ?_; rw [hk2, drop_at hk0 (by omega), rowGo, if_pos (by omega)]; omega)
  | (refine retI ?_; rw [hk2, drop_end (by omega)]; rfl)
end Go.Proofs.YtimpganophnehaaGreat
