/- What statements name; whether a list has a number. -/
import Derived.Test.YtimpganophnehaaGreatGd
set_option linter.unusedVariables false
set_option linter.unusedSimpArgs false
set_option maxRecDepth 10000
set_option maxHeartbeats 1000000
namespace Go.Proofs.YtimpganophnehaaGreat
open Go.Eng

def d3 (s : Stmt) : List Int := if s.kind = 3 then [s.n] else []
theorem l1Has_fun (l : List Int) (n : Int) (hl : l.length ≤ 1073741824) : Fun Tryz.prog 123 [.t (T.ints l), .t (.int n)] (tupD [.t (.bool (decide (n ∈ l)))]) := by
 refine Fun.begin tys Tryz.func123 rfl rfl (N := 17) [(0, .t (T.ints l)), (1, .t (.int n))] rfl rfl (fun w0 G F0 => ?_)
 refine sQ (rG (eZ rfl (oN (tN (sQ (sQ (rG (eZ rfl (evE ?_)))))))))
 refine eZ rfl (oN (tN (W_block ?_)))
 refine lK (α := Int) [1, 7, 8] [] (fun x => [(9, .t (.int x))]) (fun x => []) (fun x => 0 ≤ x ∧ x ≤ l.length ∧ n ∉ l.take x.toNat) (fun x => Int.toNat (l.length - x)) 0 ?_ (fun k hx => ?_)
 ·exact ⟨by omega, by omega, by simp⟩
 obtain ⟨hk0, hk1, hk2⟩ := hx
 refine nY rfl (sQ (rG (eZ rfl (oN (tN (sQ ?_))))))
 refine W_cond rfl (fun h1 => ?_) (fun h1 => ?_)
 ·
  simp only [HS] at h1
  refine W_skip (tN (sQ (W_block (sQ (rG (WO_idxT tys rfl rfl (lt_of rfl) rfl rfl rfl rfl rfl rfl rfl (by omega) _ (getT _ _ (by omega) (by omega)) (eK 2 rfl (oN (tN (sQ (rG (eK 3 rfl (oN (tN ?_))))))))))))))
  refine W_cond rfl (fun h2 => ?_) (fun h2 => ?_)
  ·
   simp only [HS] at h2
   refine sQ (kY [1,6,7,8,9,10,11,12,13,14,15] rfl (rG (eZ rfl (oN (tN (rT (bR (tR (loopQ_r (bR (tR (eR ?_))))))))))))
   ·exact retB (decide_eq_true (h2 ▸ List.getElem_mem _)).symm
  simp only [HS] at h2
  refine W_skip (bN (tN (kY [1,6,7,8,9,10,11,12,13,14,15] rfl (rG (evI ?_)))))
  refine eZ rfl (oN ?_)
  refine lQ _ ?_ ?_
  ·skip
   refine ⟨by omega, by omega, ?_⟩; rw [take_at hk0 (by omega), List.mem_append, List.mem_singleton]; exact fun h => h.elim hk2 fun e => h2 e.symm
  ·(show Int.toNat _ < Int.toNat _); omega
 simp only [HS] at h1
 refine W_exit (tE (loopQ_e (inBlk_y (tN (sQ (rG (eZ rfl (oN (tN (rT (eR ?_)))))))))))
 ·(rw [take_end (by omega)] at hk2; exact retB (decide_eq_false hk2).symm)

theorem readTD (l : List Int) (i j : Nat) : ∀ x, x ∈ ((l.map T.int).drop i).take j → (T.cells x).length = 1 ∧ ∀ y, y ∈ T.cells x → ∃ v, y = .v v :=
 fun x hx => readI l x (List.mem_of_mem_drop (List.mem_of_mem_take hx))

theorem take_app {α : Type} (x y : List α) : List.take (x.length + y.length) (x ++ y) = x ++ y := by
 rw [← List.length_append, List.take_length]
theorem retTI {xs : List T} {b : List Int} (h : xs = b.map T.int) : [D.t (.list 1 xs)] = [D.t (T.ints b)] := by subst h; rfl
end Go.Proofs.YtimpganophnehaaGreat
