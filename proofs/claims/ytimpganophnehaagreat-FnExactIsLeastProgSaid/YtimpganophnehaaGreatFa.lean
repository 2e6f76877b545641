/- Walks of small functions. -/
import Derived.Test.YtimpganophnehaaGreatTy
set_option linter.unusedVariables false
set_option linter.unusedSimpArgs false
set_option maxRecDepth 10000
namespace Go.Proofs.YtimpganophnehaaGreat
open Go.Eng

theorem l1In_fun (n lo hi : Int) : Fun Tryz.prog 44 [.t (.int n), .t (.int lo), .t (.int hi)] (tupD [.t (.bool (decide (lo ≤ n ∧ n ≤ hi)))]) := by
 refine Fun.begin tys Tryz.func44 rfl rfl (N := 15) [(0, .t (.int n)), (1, .t (.int lo)), (2, .t (.int hi))] rfl rfl (fun w0 G F0 => ?_)
 refine sQ (rG (eZ rfl (oN (tN (sQ (rG (eK 4 rfl ?_)))))))
 refine WO_guard rfl rfl rfl rfl (lt_of rfl) (fun h1 => ?_) (fun h1 => ?_)
 rotate_left
 ·
  simp only [HS] at h1
  refine gN rfl rfl (gN rfl rfl (eK 2 rfl (kZ [6] rfl (oN (tN (rT (eR ?_)))))))
  ·(simp_all <;> omega)
 simp only [HS] at h1
 refine eZ rfl (gY rfl (eZ rfl (gY rfl (eK 2 rfl (kZ [6,14] rfl (eZ rfl (oN (tN (rT (eR ?_))))))))))
 ·(simp_all <;> omega)

theorem within_fun (n lo hi : Int) : Fun Tryz.prog 60 [.t (.int n), .t (.int lo), .t (.int hi)] (tupD [.t (.bool (decide (lo ≤ n ∧ n ≤ hi)))]) := by
 refine Fun.begin tys Tryz.func60 rfl rfl (N := 15) [(0, .t (.int n)), (1, .t (.int lo)), (2, .t (.int hi))] rfl rfl (fun w0 G F0 => ?_)
 refine sQ (rG (eZ rfl (oN (tN (sQ (rG (eK 4 rfl ?_)))))))
 refine WO_guard rfl rfl rfl rfl (lt_of rfl) (fun h1 => ?_) (fun h1 => ?_)
 rotate_left
 ·
  simp only [HS] at h1
  refine gN rfl rfl (gN rfl rfl (eK 2 rfl (kZ [6] rfl (oN (tN (rT (eR ?_)))))))
  ·(simp_all <;> omega)
 simp only [HS] at h1
 refine eZ rfl (gY rfl (eZ rfl (gY rfl (eK 2 rfl (kZ [6,14] rfl (eZ rfl (oN (tN (rT (eR ?_))))))))))
 ·(simp_all <;> omega)

def allIn (l : List Int) (lo hi : Int) : Bool := l.all fun n => decide (lo ≤ n ∧ n ≤ hi)

theorem allIn_step {l : List Int} {lo hi k : Int} (h0 : 0 ≤ k) (h1 : k < l.length) (h : allIn (l.take k.toNat) lo hi = true) (h2 : lo ≤ l[k.toNat]'(by omega) ∧ l[k.toNat]'(by omega) ≤ hi) : allIn (l.take (k + 1).toNat) lo hi = true := by
 rw [show (k + 1).toNat = k.toNat + 1 from by omega, List.take_add_one, List.getElem?_eq_getElem (by omega)]
 unfold allIn at *
 rw [List.all_append, h]
 simpa using h2
theorem allIn_no {l : List Int} {lo hi k : Int} (h0 : 0 ≤ k) (h1 : k < l.length) (h2 : ¬ (lo ≤ l[k.toNat]'(by omega) ∧ l[k.toNat]'(by omega) ≤ hi)) : allIn l lo hi = false := by
 unfold allIn
 rw [List.all_eq_false]
 exact ⟨l[k.toNat]'(by omega), List.getElem_mem _, by simpa using h2⟩
theorem allIn_yes {l : List Int} {lo hi k : Int} (h : allIn (l.take k.toNat) lo hi = true) (h0 : 0 ≤ k) (h1 : (l.length : Int) ≤ k) : allIn l lo hi = true := by
 rwa [List.take_of_length_le (by omega)] at h

theorem l1All_fun (l : List Int) (lo hi : Int) (hl : l.length ≤ 1073741824) : Fun Tryz.prog 119 [.t (T.ints l), .t (.int lo), .t (.int hi)] (tupD [.t (.bool (allIn l lo hi))]) := by
 refine Fun.begin tys Tryz.func119 rfl rfl (N := 21) [(0, .t (T.ints l)), (1, .t (.int lo)), (2, .t (.int hi))] rfl rfl (fun w0 G F0 => ?_)
 refine sQ (rG (eZ rfl (oN (tN (sQ (sQ (rG (eZ rfl (evE ?_)))))))))
 refine eZ rfl (oN (tN (W_block ?_)))
 refine lK (α := Int) [9, 10, 1, 2] [] (fun x => [(11, .t (.int x))]) (fun x => []) (fun x => 0 ≤ x ∧ x ≤ l.length ∧ allIn (l.take x.toNat) lo hi = true) (fun x => Int.toNat (l.length - x)) 0 ?_ (fun k hx => ?_)
 ·refine ⟨?_, ?_, ?_⟩ <;> simp [allIn]
 obtain ⟨hk0, hk1, hk2⟩ := hx
 refine nY rfl (sQ (rG (eZ rfl (oN (tN (sQ ?_))))))
 refine W_cond rfl (fun h1 => ?_) (fun h1 => ?_)
 ·
  simp only [HS] at h1
  refine W_skip (tN (sQ (W_block (sQ (rG (WO_idxT tys rfl rfl (lt_of rfl) rfl rfl rfl rfl rfl rfl rfl (by omega) _ (getT _ _ (by omega) (by omega)) (eK 2 rfl (oN (tN (sQ (rG (eK 3 rfl (callB ?_)))))))))))))
  refine ⟨_, l1In_fun _ _ _, rfl, ?_⟩
  refine eZ rfl (kZ [1,2,8,9,10,11,12,13,14,15,16,17,18,19] rfl (oN (tN ?_)))
  refine W_cond rfl (fun h2 => ?_) (fun h2 => ?_)
  ·
   simp only [HS] at h2
   refine sQ (rG (eZ rfl (oN (tN (rT (bR (tR (loopQ_r (bR (tR (eR ?_)))))))))))
   ·rw [allIn_no hk0 (by omega) (by simpa using h2)]
  simp only [HS] at h2
  refine W_skip (bN (tN (rG (evI ?_))))
  refine eZ rfl (oN ?_)
  refine lQ _ ?_ ?_
  ·skip
   exact ⟨by omega, by omega, allIn_step hk0 (by omega) hk2 (by simpa using h2)⟩
  ·(show Int.toNat _ < Int.toNat _); omega
 simp only [HS] at h1
 refine W_exit (tE (loopQ_e (inBlk_y (tN (sQ (rG (eZ rfl (oN (tN (rT (eR ?_)))))))))))
 ·rw [allIn_yes hk2 hk0 (by omega)]

end Go.Proofs.YtimpganophnehaaGreat
