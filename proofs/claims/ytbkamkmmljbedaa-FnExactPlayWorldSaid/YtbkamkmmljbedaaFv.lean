/- Walks and laws of the claim. -/
import Derived.Test.YtbkamkmmljbedaaFk
import Derived.Test.YtbkamkmmljbedaaFa
import Derived.Test.YtbkamkmmljbedaaMc
import Derived.Test.YtbkamkmmljbedaaMd
import Derived.Test.YtbkamkmmljbedaaMe
set_option linter.unusedVariables false
set_option linter.unusedSimpArgs false
set_option maxRecDepth 10000
set_option maxHeartbeats 2000000
namespace Go.Proofs.Ytbkamkmmljbedaa
open Go.Eng
open Go.Eng
def mkB {α : Type} : List α → Int → List Bool
 | [], _ => []
 | _ :: l, k => decide (k.tmod 3 = 0) :: mkB l (k + 1)
theorem mkB_len {α : Type} : ∀ (l : List α) (k : Int), (mkB l k).length = l.length
 | [], _ => rfl
 | _ :: l, k => by rw [mkB, List.length_cons, mkB_len l, List.length_cons]
theorem markBoolS_nil (k : Int) : Fun Try.prog 59 [.t (.list 1 []), .t (.int k)] (tupD [.t (.int k)]) := by
 refine Fun.begin tys Try.func59 Z Z (N := 21) [(0, .t (.list 1 [])), (1, .t (.int k))] Z Z (fun w0 G F0 => ?_)
 refine sQ (rG (eZ Z (oN (tN (sQ (sQ (rG (eZ Z (oN (tN (W_block ?_)))))))))))
 refine lK (α := Int) [0, 1] [] (fun x => [(5, .t (.int x))]) (fun x => []) (fun x => 0 ≤ x) (fun x => Int.toNat (0)) 0 ?_ (fun z hx => ?_)
 ·exact Int.le_refl 0
 have hz := hx
 refine nY Z (sQ (sQ (rG (eK 2 Z (evE ?_)))))
 refine eZ Z (oN (tN ?_))
 refine W_cond Z (fun h1 => ?_) (fun h1 => ?_)
 ·
  simp only [HS] at h1
  exfalso; simp at h1; omega
 simp only [HS] at h1
 refine W_exit (tE (loopQ_e (inBlk_y (tN (sQ (rG (eK 2 Z (oN (tN (rT (eR ?_)))))))))))
 ·rfl
theorem markBoolS_m (l : List Bool) (k : Int) (hk : 0 ≤ k) (hb : k + l.length ≤ 1073741824) : MarkF Try.prog 59 (.list 1 (l.map T.bool)) (k) (k + l.length) (.list 1 ((mkB l k).map T.bool)) := by
 refine MarkF.slice Try.func59 rfl rfl (N := 21) rfl (fun y hy => (by obtain ⟨a, _, rfl⟩ := List.mem_map.1 hy; rfl) ) ( by simp [mkB_len]) (fun h => by cases l with | nil => (rw [show k + (([] : List Bool).length : Int) = k from by simp]; exact markBoolS_nil k) | cons _ _ => simp at h) (fun b cap vs w0 G F0 => ?_)
 refine sQ (rG (eZ Z (oN (tN (sQ (sQ (rG (eZ Z (oN (tN (W_block ?_)))))))))))
 refine lK (α := Int × Int × List Value × List T) [0] [] (fun x => [(5, .t (.int (x.1))), (1, .t (.int (x.2.1)))]) (fun x => [(21, .raw b (cap * 1) (x.2.2.1) (x.2.2.2))]) (fun x => 0 ≤ (x.1) ∧ (x.1) ≤ l.length ∧ (x.2.1) = k + (x.1) ∧ ∃ done : List Bool, done.length = (x.1).toNat ∧ (x.2.2.2) = (done ++ l.drop (x.1).toNat).map T.bool ∧ mkB l k = done ++ mkB (l.drop (x.1).toNat) (x.2.1)) (fun x => Int.toNat (l.length - (x.1))) (0, k, vs, (l.map T.bool).flatMap T.cells) ?_ (fun x hx => ?_)
 ·exact ⟨by omega, by omega, by show k = k + 0; omega, [], rfl, by rw [flat_one fun _ => rfl]; rfl, rfl⟩
 obtain ⟨i, k', vs', ts⟩ := x
 obtain ⟨hi0, hi1, hk', done, hd, hts, he⟩ := hx
 dsimp only at hi0 hi1 hk' hd hts he ⊢
 refine nY Z (sQ (sQ (rG (eK 2 Z (WO_lenV Z Z (lt_of Z) Z ⟨4, by kernel_rfl⟩ rfl (eZ Z (oN (tN ?_))))))))
 refine W_cond Z (fun h1 => ?_) (fun h1 => ?_)
 ·
  simp only [HS] at h1
  refine W_skip (tN (sQ (W_block (sQ (rG (eK 3 Z (WO_rem Z Z (lt_of Z) Z Z Z (by first | decide | omega) ?_)))))))
  refine eZ Z (kZ [0,1,5,6,7,8,9,12,13,14,15,16] Z (WO_idxV tys Z Z (lt_of Z) Z Z Z Z Z Z (by omega) (by first | omega | (simp only [List.length_map]; omega)) ?_))
  refine WO_storeV tys (id := 21) Z Z Z Z Z Z Z (by rw [hts]; exact cell1 hd hi0 (by omega)) Z Z Z ?_
  refine nZ Z (oN (tN (rG (eZ Z (evI ?_)))))
  refine eZ Z (oN (bN (tN (rG (eZ Z (evI ?_))))))
  refine eZ Z (oN ?_)
  refine lQ (_, _, _, _) ?_ ?_
  ·dsimp only
   exact ⟨by omega, by omega, by omega, done ++ [decide (k'.tmod 3 = 0)], by simp [hd]; omega, by rw [hts]; exact set1 (g := T.bool) hd hi0 h1 (decide (k'.tmod 3 = 0)), by rw [he, drop_at hi0 h1, mkB]; simp⟩
  ·(show Int.toNat _ < Int.toNat _); omega
 simp only [HS] at h1
 refine W_exit (tE (loopQ_e (inBlk_y (tN (sQ (rG (eK 2 Z (oN (tN (rT ?_))))))))))
 refine EndsM_slice (.inr Z) Z Z Z ?_ ?_
 ·omega
 ·rw [hts, drop_end h1, he, drop_end h1, flat_one fun _ => rfl]; rfl
theorem mkB_at {α : Type} : ∀ (l : List α) (k : Int) (n : Nat) (h : n < (mkB l k).length), (mkB l k)[n] = decide ((k + n).tmod 3 = 0)
 | [], _, n, h => by simp [mkB] at h
 | _ :: l, k, 0, h => by simp [mkB]
 | _ :: l, k, n + 1, h => by
  simp only [mkB, List.getElem_cons_succ]
  rw [mkB_at l (k + 1) n]
  rw [show k + 1 + (n : Int) = k + ((n + 1 : Nat) : Int) from by omega]
theorem heldBoolS_mk (l : List Bool) (k : Int) (hk : 0 ≤ k) (hb : k + l.length ≤ 1073741824) : Fun Try.prog 62 [.t (T.bools (mkB l k)), .t (.int k)] (tupD [.t (.int (k + l.length))]) := by
 have hml := mkB_len l k
 refine Fun.begin tys Try.func62 Z Z (N := 23) [(0, .t (T.bools (mkB l k))), (1, .t (.int k))] Z Z (fun w0 G F0 => ?_)
 refine sQ (rG (eZ Z (oN (tN (sQ (sQ (rG (eZ Z (oN (tN (W_block ?_)))))))))))
 refine lK (α := Int × Int) [0] [] (fun x => [(5, .t (.int (x.1))), (1, .t (.int (x.2)))]) (fun x => []) (fun x => 0 ≤ (x.1) ∧ (x.1) ≤ l.length ∧ (x.2) = k + (x.1)) (fun x => Int.toNat (l.length - (x.1))) (0, k) ?_ (fun x hx => ?_)
 ·exact ⟨by omega, by omega, by show k = k + 0; omega⟩
 obtain ⟨i, k'⟩ := x
 obtain ⟨hi0, hi1, hk'⟩ := hx
 dsimp only at hi0 hi1 hk' ⊢
 refine nY Z (sQ (sQ (rG (eK 2 Z (evE ?_)))))
 refine eZ Z (oN (tN ?_))
 refine W_cond Z (fun h1 => ?_) (fun h1 => ?_)
 ·
  simp only [HS] at h1
  refine W_skip (tN (sQ (W_block (sQ (sQ (rG (eK 2 Z (WO_idxT tys Z Z (lt_of Z) Z Z Z Z Z Z Z (by omega) _ (getT _ _ (by omega) (by omega)) (eK 2 Z (kZ [0,1,5,6,7,8,9,12,13,14,15,16] Z (WO_rem Z Z (lt_of Z) Z Z Z (by first | decide | omega) ?_)))))))))))
  refine eK 2 Z (WO_le (Le.known (t := 19) false Z (by rw [mkB_at]; rw [show k + ((i.toNat : Nat) : Int) = k' from by omega]; simp)) ?_)
  refine oN (tN (W_condF Z (W_skip (tN (rG (eZ Z (evI ?_)))))))
  refine eZ Z (oN (bN (tN (rG (eZ Z (evI ?_))))))
  refine eZ Z (kZ [0,1,5,6,7,8,9,10,11,12,13,14,15,16,17,18,19,20,21] Z (oN ?_))
  refine lQ (_, _) ?_ ?_
  ·dsimp only
   exact ⟨by omega, by omega, by omega⟩
  ·(show Int.toNat _ < Int.toNat _); omega
 simp only [HS] at h1
 refine W_exit (tE (loopQ_e (inBlk_y (tN (sQ (rG (eK 2 Z (oN (tN (rT (eR ?_)))))))))))
 ·refine congrArg (fun n => [D.t (T.int n)]) ?_; omega
mutual
def ctAct : Act → Int
 | .mk _ _ _ l => 1 + 1 + 1 + ctActG l
def ctActG : List Act → Int
 | [] => 0
 | a :: l => ctAct a + ctActG l
end
theorem ctActG_eq : ∀ l, ctActG l = ctL ctAct l
 | [] => by simp [ctActG, ctL]
 | a :: l => by rw [ctActG, ctL_cons, ctActG_eq l]
theorem ctAct_eq (a : Act) : ctAct a = 1 + 1 + 1 + ctL ctAct a.cases := by
 cases a with
 | mk k c n l => rw [ctAct, ctActG_eq]; rfl
mutual
def mkAct : Act → Int → Act
 | .mk _ _ _ l, k => .mk k (k + 1) (k + 1 + 1) (mkActG l (k + 1 + 1 + 1))
def mkActG : List Act → Int → List Act
 | [], _ => []
 | a :: l, k => mkAct a k :: mkActG l (k + ctAct a)
end
theorem mkActG_eq : ∀ l k, mkActG l k = mkL mkAct ctAct l k
 | [], k => by simp [mkActG, mkL]
 | a :: l, k => by rw [mkActG, mkL, mkActG_eq l]
theorem mkAct_eq (a : Act) (k : Int) : mkAct a k = .mk k (k + 1) (k + 1 + 1) (mkL mkAct ctAct a.cases (k + 1 + 1 + 1)) := by
 cases a with
 | mk k c n l => rw [mkAct, mkActG_eq]; rfl
theorem ctAct_pos (a : Act) : 1 ≤ ctAct a := Act.ind (p := fun a => 1 ≤ ctAct a) (fun a ih => by
 rw [ctAct_eq]
 have : 0 ≤ ctL ctAct a.cases := by
  unfold ctL
  have key : ∀ l : List Act, (∀ x, x ∈ l → 1 ≤ ctAct x) → 0 ≤ (l.map ctAct).sum := by
   intro l
   induction l with
   | nil => intro _; simp
   | cons x l ih => intro h; have := h x (List.mem_cons_self ..); have := ih fun y hy => h y (List.mem_cons_of_mem _ hy); rw [List.map_cons, List.sum_cons]; omega
  exact key _ ih
 omega) a
def Act.cl (x : Act) : List T := (Act.tt x).cells
theorem Act.cl_len (x : Act) : x.cl.length = 4 := rfl
theorem mkAct_cl (x : Act) (k : Int) : (mkAct x k).cl = [T.int k, T.int (k + 1), T.int (k + 1 + 1), .list 4 ((mkL mkAct ctAct x.cases (k + 1 + 1 + 1)).map Act.toT)] := by rw [mkAct_eq]; rfl
theorem actFlat : ∀ l : List Act, (l.map Act.toT).flatMap T.cells = l.flatMap Act.cl
 | [] => rfl
 | a :: l => by rw [List.map_cons, List.flatMap_cons, List.flatMap_cons, actFlat l, Act.toT_eq]; rfl
def Act.mtt (x : Act) (k : Int) : T := .agg [T.int k, T.int (k + 1), T.int (k + 1 + 1), .list 4 ((mkL mkAct ctAct x.cases (k + 1 + 1 + 1)).map Act.toT)]
theorem getMkA {l : List Act} {k k' i : Int} (hk : k' = k + ctL ctAct (l.take i.toNat)) (h0 : 0 ≤ i) (h1 : i.toNat < l.length) : ((mkL mkAct ctAct l k).map Act.toT)[i.toNat]? = some ((l[i.toNat]).mtt k') := by
 rw [getMk Act.toT mkAct ctAct hk h0 h1, Act.toT_eq, mkAct_eq]; rfl
theorem markActS_nil (k : Int) : Fun Try.prog 58 [.t (.list 4 []), .t (.int k)] (tupD [.t (.int k)]) := by
 refine Fun.begin tys Try.func58 Z Z (N := 41) [(0, .t (.list 4 [])), (1, .t (.int k))] Z Z (fun w0 G F0 => ?_)
 refine sQ (rG (eZ Z (oN (tN (sQ (sQ (rG (eZ Z (oN (tN (W_block ?_)))))))))))
 refine lK (α := Int) [0, 1] [] (fun x => [(5, .t (.int x))]) (fun x => []) (fun x => 0 ≤ x) (fun x => Int.toNat (0)) 0 ?_ (fun z hx => ?_)
 ·exact Int.le_refl 0
 have hz := hx
 refine nY Z (sQ (sQ (rG (eK 2 Z (evE ?_)))))
 refine eZ Z (oN (tN ?_))
 refine W_cond Z (fun h1 => ?_) (fun h1 => ?_)
 ·
  simp only [HS] at h1
  exfalso; simp at h1; omega
 simp only [HS] at h1
 refine W_exit (tE (loopQ_e (inBlk_y (tN (sQ (rG (eK 2 Z (oN (tN (rT (eR ?_)))))))))))
 ·rfl
theorem markActS_m0 (l : List Act) (k : Int) (hk : 0 ≤ k) (hb : k + ctL ctAct l ≤ 1073741824) (hf : ∀ y, y ∈ l → ∀ k : Int, 0 ≤ k → k + ctL ctAct y.cases ≤ 1073741824 → MarkF Try.prog 58 (T.Acts y.cases) k (k + ctL ctAct y.cases) (T.Acts (mkL mkAct ctAct y.cases k))) : MarkF Try.prog 58 (.list 4 (l.map Act.toT)) (k) (k + ctL ctAct l) (.list 4 ((mkL mkAct ctAct l k).map Act.toT)) := by
 have hlen := ctL_len ctAct_pos l
 refine MarkF.slice Try.func58 rfl rfl (N := 41) rfl (fun y hy => (by obtain ⟨a, _, rfl⟩ := List.mem_map.1 hy; rw [Act.toT_eq]; rfl) ) ( by simp [mkL_len]) (fun h => by cases l with | nil => (rw [show k + ctL ctAct [] = k from by simp [ctL]]; exact markActS_nil k) | cons _ _ => simp at h) (fun b cap vs w0 G F0 => ?_)
 refine sQ (rG (eZ Z (oN (tN (sQ (sQ (rG (eZ Z (oN (tN (W_block ?_)))))))))))
 refine lK (α := Int × Int × List Value × List T) [0] [] (fun x => [(5, .t (.int (x.1))), (1, .t (.int (x.2.1)))]) (fun x => [(41, .raw b (cap * 4) (x.2.2.1) (x.2.2.2))]) (fun x => 0 ≤ (x.1) ∧ (x.1) ≤ l.length ∧ k ≤ (x.2.1) ∧ (x.2.1) + ctL ctAct (l.drop (x.1).toNat) = k + ctL ctAct l ∧ ∃ done : List Act, done.length = (x.1).toNat ∧ (x.2.2.2) = done.flatMap Act.cl ++ (l.drop (x.1).toNat).flatMap Act.cl ∧ mkL mkAct ctAct l k = done ++ mkL mkAct ctAct (l.drop (x.1).toNat) (x.2.1)) (fun x => Int.toNat (l.length - (x.1))) (0, k, vs, (l.map Act.toT).flatMap T.cells) ?_ (fun x hx => ?_)
 ·exact ⟨by omega, by omega, Int.le_refl k, rfl, [], rfl, actFlat l, rfl⟩
 obtain ⟨i, k', vs', ts⟩ := x
 obtain ⟨hi0, hi1, hkk, hk', done, hd, hts, he⟩ := hx
 dsimp only at hi0 hi1 hkk hk' hd hts he ⊢
 refine nY Z (sQ (sQ (rG (eK 2 Z (WO_lenV Z Z (lt_of Z) Z ⟨98, by kernel_rfl⟩ rfl (eZ Z (oN (tN ?_))))))))
 refine W_cond Z (fun h1 => ?_) (fun h1 => ?_)
 ·
  simp only [HS] at h1
  refine W_skip (tN (sQ (W_block (sQ (rG ?_)))))
  have hD := flat_lens Act.cl_len done hd
  have hca := ctL_at ctAct hi0 h1
  have hcx := ctAct_eq (l[i.toNat]'(by omega))
  have hcr := ctL_pos ctAct_pos (l.drop (i + 1).toNat)
  have p0 := ctL_pos ctAct_pos (l[i.toNat]'(by omega)).cases
  rw [drop_at hi0 h1, List.flatMap_cons] at hts
  subst hts
  refine eK 3 Z (WO_idxV tys Z Z (lt_of Z) Z Z Z Z Z Z (by omega) (by first | omega | (simp only [List.length_map]; omega)) ?_)
  refine WO_fieldV tys Z Z (lt_of Z) Z Z Z Z Z (kZ [0,1,5,6,7,8,9,12,13,14,15,16] Z (WO_storeV tys (id := 41) Z Z Z Z Z Z Z (by exact fgetE hD Z) Z Z Z ?_))
  refine nZ Z (oN (tN (sQ (rG (eZ Z (evI ?_))))))
  refine eZ Z (oN (tN (sQ (rG (eK 3 Z (WO_idxV tys Z Z (lt_of Z) Z Z Z Z Z Z (by omega) (by first | omega | (simp only [List.length_map]; omega)) ?_))))))
  refine WO_fieldV tys Z Z (lt_of Z) Z Z Z Z Z (kZ [0,1,5,6,7,8,9,12,13,14,15,16,17,18,19,20,21,22,23] Z (WO_storeV tys (id := 41) Z Z Z Z Z Z Z (by rw [fset hD]; exact fgetE hD Z) Z Z Z ?_))
  refine nZ Z (oN (tN (sQ (rG (eZ Z (evI ?_))))))
  refine eZ Z (oN (tN (sQ (rG (eK 3 Z (WO_idxV tys Z Z (lt_of Z) Z Z Z Z Z Z (by omega) (by first | omega | (simp only [List.length_map]; omega)) ?_))))))
  refine WO_fieldV tys Z Z (lt_of Z) Z Z Z Z Z (kZ [0,1,5,6,7,8,9,12,13,14,15,16,17,18,19,20,21,22,23,24,25,26,27,28,29,30] Z (WO_storeV tys (id := 41) Z Z Z Z Z Z Z (by rw [fset hD, fset hD]; exact fgetE hD Z) Z Z Z ?_))
  refine nZ Z (oN (tN (sQ (rG (eZ Z (evI ?_))))))
  refine eZ Z (oN (tN (rG (eK 2 Z (WO_idxV tys Z Z (lt_of Z) Z Z Z Z Z Z (by omega) (by first | omega | (simp only [List.length_map]; omega)) ?_)))))
  refine WO_fieldV tys Z Z (lt_of Z) Z Z Z Z Z ?_
  refine WO_loadV tys (id := 41) Z Z (lt_of Z) Z Z Z Z Z (by rw [fset hD, fset hD, fset hD]; exact fgetE hD Z) (fun u37 hu37 => ?_)
  refine kZ [0,1,5,6,7,8,9,12,13,14,15,16,17,18,19,20,21,22,23,24,25,26,27,28,29,30,31,32,33,34,35,36,37] Z (eZ Z (WO_markN (id := 41) (j := i.toNat * 4 + 3) Z Z (lt_of Z) Z Z Z Z Z Z (hu37) (by rw [fset hD, fset hD, fset hD]; exact fgetE hD Z) (hf _ (List.getElem_mem (l := l) (n := i.toNat) (by omega)) (k' + 1 + 1 + 1) (by omega) (by omega)) ?_))
  refine eZ Z (oN (bN (tN (rG (eZ Z (evI ?_))))))
  refine eZ Z (oN ?_)
  refine lQ (_, _, _, _) ?_ ?_
  ·dsimp only
   refine ⟨by omega, by omega, by omega, by omega, done ++ [mkAct (l[i.toNat]'(by omega)) k'], by simp [hd]; omega, ?_, ?_⟩
   ·simp only [fset hD]
    rw [List.flatMap_append, List.append_assoc, List.flatMap_cons, mkAct_cl]
    rfl
   ·rw [he, drop_at hi0 h1, mkL, List.append_assoc, show k' + ctAct (l[i.toNat]'(by omega)) = k' + 1 + 1 + 1 + ctL ctAct (l[i.toNat]'(by omega)).cases from by omega]
    rfl
  ·(show Int.toNat _ < Int.toNat _); omega
 simp only [HS] at h1
 refine W_exit (tE (loopQ_e (inBlk_y (tN (sQ (rG (eK 2 Z (oN (tN (rT ?_))))))))))
 refine EndsM_slice (.inr Z) Z Z Z ?_ ?_
 ·rw [drop_end h1] at hk'; simp only [ctL_nil] at hk'; omega
 ·rw [hts, drop_end h1, he, drop_end h1, actFlat, mkL, List.append_nil]; exact List.append_nil _
theorem heldActS_mk0 (l : List Act) (k : Int) (hk : 0 ≤ k) (hb : k + ctL ctAct l ≤ 1073741824) (hf : ∀ y, y ∈ l → ∀ k : Int, 0 ≤ k → k + ctL ctAct y.cases ≤ 1073741824 → Fun Try.prog 103 [.t (T.Acts (mkL mkAct ctAct y.cases k)), .t (.int k)] (.t (.int (k + ctL ctAct y.cases)))) : Fun Try.prog 103 [.t (T.Acts (mkL mkAct ctAct l k)), .t (.int k)] (tupD [.t (.int (k + ctL ctAct l))]) := by
 have hlen := ctL_len ctAct_pos l
 have hml := mkL_len mkAct ctAct l k
 refine Fun.begin tys Try.func103 Z Z (N := 49) [(0, .t (T.Acts (mkL mkAct ctAct l k))), (1, .t (.int k))] Z Z (fun w0 G F0 => ?_)
 refine sQ (rG (eZ Z (oN (tN (sQ (sQ (rG (eZ Z (oN (tN (W_block ?_)))))))))))
 refine lK (α := Int × Int) [0] [] (fun x => [(5, .t (.int (x.1))), (1, .t (.int (x.2)))]) (fun x => []) (fun x => 0 ≤ (x.1) ∧ (x.1) ≤ l.length ∧ k ≤ (x.2) ∧ (x.2) + ctL ctAct (l.drop (x.1).toNat) = k + ctL ctAct l ∧ (x.2) = k + ctL ctAct (l.take (x.1).toNat)) (fun x => Int.toNat (l.length - (x.1))) (0, k) ?_ (fun x hx => ?_)
 ·exact ⟨by omega, by omega, Int.le_refl k, rfl, by rw [show l.take (0 : Int).toNat = [] from rfl]; rw [ctL_nil]; omega⟩
 obtain ⟨i, k'⟩ := x
 obtain ⟨hi0, hi1, hkk, hk', hkt⟩ := hx
 dsimp only at hi0 hi1 hkk hk' hkt ⊢
 refine nY Z (sQ (sQ (rG (eK 2 Z (evE ?_)))))
 refine eZ Z (oN (tN ?_))
 refine W_cond Z (fun h1 => ?_) (fun h1 => ?_)
 ·
  simp only [HS] at h1
  refine W_skip (tN (sQ (W_block (sQ (sQ (rG ?_))))))
  have hca := ctL_at ctAct (l := l) hi0 (by omega)
  have hcx := ctAct_eq (l[i.toNat]'(by omega))
  have hcr := ctL_pos ctAct_pos (l.drop (i + 1).toNat)
  have p0 := ctL_pos ctAct_pos (l[i.toNat]'(by omega)).cases
  refine eK 2 Z (WO_idxT tys Z Z (lt_of Z) Z Z Z Z Z Z Z (by omega) _ (getMkA hkt (by omega) (by omega)) (eK 2 Z (kZ [0,1,5,6,7,8,9,12,13,14,15,16] Z (eK 2 Z (WO_le (Le.known (t := 18) false Z (by simp)) ?_)))))
  refine oN (tN (W_condF Z (W_skip (tN (sQ (rG (eZ Z (evI ?_))))))))
  refine eZ Z (oN (tN (sQ (sQ (rG (eK 2 Z (WO_idxT tys Z Z (lt_of Z) Z Z Z Z Z Z Z (by omega) _ (getMkA hkt (by omega) (by omega)) (eZ Z (kZ [0,1,5,6,7,8,9,12,13,14,15,16,17,18,19,20,21,22,23,24] Z (eK 3 Z (WO_le (Le.known (t := 27) false Z (by simp)) ?_)))))))))))
  refine oN (tN (W_condF Z (W_skip (tN (sQ (rG (eZ Z (evI ?_))))))))
  refine eZ Z (oN (tN (sQ (sQ (rG (eK 2 Z (WO_idxT tys Z Z (lt_of Z) Z Z Z Z Z Z Z (by omega) _ (getMkA hkt (by omega) (by omega)) (kZ [0,1,5,6,7,8,9,12,13,14,15,16,17,18,19,20,21,22,23,24,25,26,27,28,29,30,31,32] Z (eK 4 Z (WO_le (Le.known (t := 36) false Z (by simp)) ?_))))))))))
  refine oN (tN (W_condF Z (W_skip (tN (sQ (rG (eZ Z (evI ?_))))))))
  refine eZ Z (oN (tN (sQ (kY [0,1,5,6,7,8,9,12,13,14,15,16,17,18,19,20,21,22,23,24,25,26,27,28,29,30,31,32,33,34,35,36,37,38] Z (rG (eK 2 Z (WO_idxT tys Z Z (lt_of Z) Z Z Z Z Z Z Z (by omega) _ (getMkA hkt (by omega) (by omega)) (eK 3 Z (callB ?_)))))))))
  refine ⟨_, hf _ (List.getElem_mem (l := l) (n := i.toNat) (by omega)) (k' + 1 + 1 + 1) (by omega) (by omega), rfl, ?_⟩
  refine eZ Z (oN (tN (sQ (kY [0,1,5,6,7,8,9,12,13,14,15,16,17,18,19,20,21,22,23,24,25,26,27,28,29,30,31,32,33,34,35,36,37,38,39,40,41,42,43,44,45] Z (rG (eK 2 Z (WO_le (Le.known (t := 47) false Z (by first | (simp; done) | (simp; omega))) ?_)))))))
  refine oN (tN (W_condF Z (W_skip (bN (tN (rG (eZ Z (evI ?_))))))))
  refine eZ Z (oN ?_)
  refine lQ (_, _) ?_ ?_
  ·dsimp only
   refine ⟨by omega, by omega, by omega, by omega, ?_⟩
   rw [ctL_take ctAct hi0 (by omega)]
   omega
  ·(show Int.toNat _ < Int.toNat _); omega
 simp only [HS] at h1
 refine W_exit (tE (loopQ_e (inBlk_y (tN (sQ (rG (eK 2 Z (oN (tN (rT (eR ?_)))))))))))
 ·rw [drop_end (by omega)] at hk'; simp only [ctL_nil] at hk'; refine congrArg (fun n => [D.t (T.int n)]) ?_; omega
theorem markActS_c (x : Act) (k : Int) (hk : 0 ≤ k) (hb : k + ctL ctAct x.cases ≤ 1073741824) : MarkF Try.prog 58 (T.Acts x.cases) k (k + ctL ctAct x.cases) (T.Acts (mkL mkAct ctAct x.cases k)) :=
 Act.ind (p := fun x => ∀ k : Int, 0 ≤ k → k + ctL ctAct x.cases ≤ 1073741824 → MarkF Try.prog 58 (T.Acts x.cases) k (k + ctL ctAct x.cases) (T.Acts (mkL mkAct ctAct x.cases k)))
  (fun x ih k hk hb => markActS_m0 x.cases k hk hb ih) x k hk hb
theorem markActS_m (l : List Act) (k : Int) (hk : 0 ≤ k) (hb : k + ctL ctAct l ≤ 1073741824) : MarkF Try.prog 58 (T.Acts l) k (k + ctL ctAct l) (T.Acts (mkL mkAct ctAct l k)) := markActS_c (.mk 0 0 0 l) k hk hb
theorem heldActS_c (x : Act) (k : Int) (hk : 0 ≤ k) (hb : k + ctL ctAct x.cases ≤ 1073741824) : Fun Try.prog 103 [.t (T.Acts (mkL mkAct ctAct x.cases k)), .t (.int k)] (.t (.int (k + ctL ctAct x.cases))) :=
 Act.ind (p := fun x => ∀ k : Int, 0 ≤ k → k + ctL ctAct x.cases ≤ 1073741824 → Fun Try.prog 103 [.t (T.Acts (mkL mkAct ctAct x.cases k)), .t (.int k)] (.t (.int (k + ctL ctAct x.cases))))
  (fun x ih k hk hb => heldActS_mk0 x.cases k hk hb ih) x k hk hb
theorem heldActS_mk (l : List Act) (k : Int) (hk : 0 ≤ k) (hb : k + ctL ctAct l ≤ 1073741824) : Fun Try.prog 103 [.t (T.Acts (mkL mkAct ctAct l k)), .t (.int k)] (.t (.int (k + ctL ctAct l))) := heldActS_c (.mk 0 0 0 l) k hk hb
def mkTask (x : Task) (k : Int) : Task := ⟨mkL mkAct ctAct x.acts (k), k + ctL ctAct x.acts, k + ctL ctAct x.acts + 1, k + ctL ctAct x.acts + 1 + 1⟩
def ctTask (x : Task) : Int := ctL ctAct x.acts + 1 + 1 + 1
theorem ctTask_pos (x : Task) : 1 ≤ ctTask x := by
 have p0 := ctL_pos ctAct_pos x.acts
 unfold ctTask; omega
def Task.cl (x : Task) : List T := (Task.tt x).cells
theorem Task.cl_len (x : Task) : x.cl.length = 4 := rfl
theorem markTaskS_nil (k : Int) : Fun Try.prog 60 [.t (.list 4 []), .t (.int k)] (tupD [.t (.int k)]) := by
 refine Fun.begin tys Try.func60 Z Z (N := 41) [(0, .t (.list 4 [])), (1, .t (.int k))] Z Z (fun w0 G F0 => ?_)
 refine sQ (rG (eZ Z (oN (tN (sQ (sQ (rG (eZ Z (oN (tN (W_block ?_)))))))))))
 refine lK (α := Int) [0, 1] [] (fun x => [(5, .t (.int x))]) (fun x => []) (fun x => 0 ≤ x) (fun x => Int.toNat (0)) 0 ?_ (fun z hx => ?_)
 ·exact Int.le_refl 0
 have hz := hx
 refine nY Z (sQ (sQ (rG (eK 2 Z (evE ?_)))))
 refine eZ Z (oN (tN ?_))
 refine W_cond Z (fun h1 => ?_) (fun h1 => ?_)
 ·
  simp only [HS] at h1
  exfalso; simp at h1; omega
 simp only [HS] at h1
 refine W_exit (tE (loopQ_e (inBlk_y (tN (sQ (rG (eK 2 Z (oN (tN (rT (eR ?_)))))))))))
 ·rfl
theorem markTaskS_m (l : List Task) (k : Int) (hk : 0 ≤ k) (hb : k + ctL ctTask l ≤ 1073741824) : MarkF Try.prog 60 (.list 4 (l.map Task.tt)) (k) (k + ctL ctTask l) (.list 4 ((mkL mkTask ctTask l k).map Task.tt)) := by
 have hlen := ctL_len ctTask_pos l
 refine MarkF.slice Try.func60 rfl rfl (N := 41) rfl (fun y hy => (by obtain ⟨a, _, rfl⟩ := List.mem_map.1 hy; rfl) ) ( by simp [mkL_len]) (fun h => by cases l with | nil => (rw [show k + ctL ctTask [] = k from by simp [ctL]]; exact markTaskS_nil k) | cons _ _ => simp at h) (fun b cap vs w0 G F0 => ?_)
 refine sQ (rG (eZ Z (oN (tN (sQ (sQ (rG (eZ Z (oN (tN (W_block ?_)))))))))))
 refine lK (α := Int × Int × List Value × List T) [0] [] (fun x => [(5, .t (.int (x.1))), (1, .t (.int (x.2.1)))]) (fun x => [(41, .raw b (cap * 4) (x.2.2.1) (x.2.2.2))]) (fun x => 0 ≤ (x.1) ∧ (x.1) ≤ l.length ∧ k ≤ (x.2.1) ∧ (x.2.1) + ctL ctTask (l.drop (x.1).toNat) = k + ctL ctTask l ∧ ∃ done : List Task, done.length = (x.1).toNat ∧ (x.2.2.2) = done.flatMap Task.cl ++ (l.drop (x.1).toNat).flatMap Task.cl ∧ mkL mkTask ctTask l k = done ++ mkL mkTask ctTask (l.drop (x.1).toNat) (x.2.1)) (fun x => Int.toNat (l.length - (x.1))) (0, k, vs, (l.map Task.tt).flatMap T.cells) ?_ (fun x hx => ?_)
 ·exact ⟨by omega, by omega, Int.le_refl k, rfl, [], rfl, by rw [List.flatMap_map]; rfl, rfl⟩
 obtain ⟨i, k', vs', ts⟩ := x
 obtain ⟨hi0, hi1, hkk, hk', done, hd, hts, he⟩ := hx
 dsimp only at hi0 hi1 hkk hk' hd hts he ⊢
 refine nY Z (sQ (sQ (rG (eK 2 Z (WO_lenV Z Z (lt_of Z) Z ⟨72, by kernel_rfl⟩ rfl (eZ Z (oN (tN ?_))))))))
 refine W_cond Z (fun h1 => ?_) (fun h1 => ?_)
 ·
  simp only [HS] at h1
  refine W_skip (tN (sQ (W_block (sQ (rG ?_)))))
  have hD := flat_lens Task.cl_len done hd
  have hca := ctL_at ctTask hi0 h1
  have hcx : ctTask (l[i.toNat]'(by omega)) = ctTask (l[i.toNat]'(by omega)) := rfl
  conv at hcx => rhs; unfold ctTask
  have hcr := ctL_pos ctTask_pos (l.drop (i + 1).toNat)
  have p0 := ctL_pos ctAct_pos (l[i.toNat]'(by omega)).acts
  rw [drop_at hi0 h1, List.flatMap_cons] at hts
  subst hts
  refine eK 2 Z (WO_idxV tys Z Z (lt_of Z) Z Z Z Z Z Z (by omega) (by first | omega | (simp only [List.length_map]; omega)) ?_)
  refine WO_fieldV tys Z Z (lt_of Z) Z Z Z Z Z ?_
  refine WO_loadV tys (id := 41) Z Z (lt_of Z) Z Z Z Z Z (by exact fgetE hD Z) (fun u16 hu16 => ?_)
  refine kZ [0,1,5,6,7,8,9,12,13,14,15,16] Z (eZ Z (WO_markN (id := 41) (j := i.toNat * 4 + 0) Z Z (lt_of Z) Z Z Z Z Z Z (hu16) (by exact fgetE hD Z) (markActS_m (l[i.toNat]'(by omega)).acts (k') (by omega) (by omega)) ?_))
  refine eZ Z (oN (tN (sQ (rG (eK 3 Z (WO_idxV tys Z Z (lt_of Z) Z Z Z Z Z Z (by omega) (by first | omega | (simp only [List.length_map]; omega)) ?_))))))
  refine WO_fieldV tys Z Z (lt_of Z) Z Z Z Z Z (WO_storeV tys (id := 41) Z Z Z Z Z Z Z (by rw [fset hD]; exact fgetE hD Z) Z Z Z ?_)
  refine nZ Z (kZ [0,1,5,6,7,8,9,12,13,14,15,16,17,18,19,20,21,22,23] Z (oN (tN (sQ (rG (eZ Z (evI ?_)))))))
  refine eZ Z (oN (tN (sQ (rG (eK 3 Z (WO_idxV tys Z Z (lt_of Z) Z Z Z Z Z Z (by omega) (by first | omega | (simp only [List.length_map]; omega)) ?_))))))
  refine WO_fieldV tys Z Z (lt_of Z) Z Z Z Z Z (WO_storeV tys (id := 41) Z Z Z Z Z Z Z (by rw [fset hD, fset hD]; exact fgetE hD Z) Z Z Z ?_)
  refine nZ Z (kZ [0,1,5,6,7,8,9,12,13,14,15,16,17,18,19,20,21,22,23,24,25,26,27,28,29,30] Z (oN (tN (sQ (rG (eZ Z (evI ?_)))))))
  refine eZ Z (oN (tN (sQ (rG (eK 3 Z (WO_idxV tys Z Z (lt_of Z) Z Z Z Z Z Z (by omega) (by first | omega | (simp only [List.length_map]; omega)) ?_))))))
  refine WO_fieldV tys Z Z (lt_of Z) Z Z Z Z Z (WO_storeV tys (id := 41) Z Z Z Z Z Z Z (by rw [fset hD, fset hD, fset hD]; exact fgetE hD Z) Z Z Z ?_)
  refine nZ Z (kZ [0,1,5,6,7,8,9,12,13,14,15,16,17,18,19,20,21,22,23,24,25,26,27,28,29,30,31,32,33,34,35,36,37] Z (oN (tN (rG (eZ Z (evI ?_))))))
  refine eZ Z (oN (bN (tN (rG (eZ Z (evI ?_))))))
  refine eZ Z (oN ?_)
  refine lQ (_, _, _, _) ?_ ?_
  ·dsimp only
   refine ⟨by omega, by omega, by omega, by omega, done ++ [mkTask (l[i.toNat]'(by omega)) k'], by simp [hd]; omega, ?_, ?_⟩
   ·simp only [fset hD]
    rw [List.flatMap_append, List.append_assoc]
    rfl
   ·rw [he, drop_at hi0 h1, mkL, List.append_assoc, show k' + ctTask (l[i.toNat]'(by omega)) = k' + ctL ctAct (l[i.toNat]'(by omega)).acts + 1 + 1 + 1 from by omega]
    rfl
  ·(show Int.toNat _ < Int.toNat _); omega
 simp only [HS] at h1
 refine W_exit (tE (loopQ_e (inBlk_y (tN (sQ (rG (eK 2 Z (oN (tN (rT ?_))))))))))
 refine EndsM_slice (.inr Z) Z Z Z ?_ ?_
 ·rw [drop_end h1] at hk'; simp only [ctL_nil] at hk'; omega
 ·rw [hts, drop_end h1, he, drop_end h1, List.flatMap_map, mkL, List.append_nil]; exact List.append_nil _
theorem heldTaskS_mk (l : List Task) (k : Int) (hk : 0 ≤ k) (hb : k + ctL ctTask l ≤ 1073741824) : Fun Try.prog 63 [.t (T.Tasks (mkL mkTask ctTask l k)), .t (.int k)] (tupD [.t (.int (k + ctL ctTask l))]) := by
 have hlen := ctL_len ctTask_pos l
 have hml := mkL_len mkTask ctTask l k
 refine Fun.begin tys Try.func63 Z Z (N := 49) [(0, .t (T.Tasks (mkL mkTask ctTask l k))), (1, .t (.int k))] Z Z (fun w0 G F0 => ?_)
 refine sQ (rG (eZ Z (oN (tN (sQ (sQ (rG (eZ Z (oN (tN (W_block ?_)))))))))))
 refine lK (α := Int × Int) [0] [] (fun x => [(5, .t (.int (x.1))), (1, .t (.int (x.2)))]) (fun x => []) (fun x => 0 ≤ (x.1) ∧ (x.1) ≤ l.length ∧ k ≤ (x.2) ∧ (x.2) + ctL ctTask (l.drop (x.1).toNat) = k + ctL ctTask l ∧ (x.2) = k + ctL ctTask (l.take (x.1).toNat)) (fun x => Int.toNat (l.length - (x.1))) (0, k) ?_ (fun x hx => ?_)
 ·exact ⟨by omega, by omega, Int.le_refl k, rfl, by rw [show l.take (0 : Int).toNat = [] from rfl]; rw [ctL_nil]; omega⟩
 obtain ⟨i, k'⟩ := x
 obtain ⟨hi0, hi1, hkk, hk', hkt⟩ := hx
 dsimp only at hi0 hi1 hkk hk' hkt ⊢
 refine nY Z (sQ (sQ (rG (eK 2 Z (evE ?_)))))
 refine eZ Z (oN (tN ?_))
 refine W_cond Z (fun h1 => ?_) (fun h1 => ?_)
 ·
  simp only [HS] at h1
  refine W_skip (tN (sQ (W_block (sQ (rG ?_)))))
  have hca := ctL_at ctTask (l := l) hi0 (by omega)
  have hcx : ctTask (l[i.toNat]'(by omega)) = ctTask (l[i.toNat]'(by omega)) := rfl
  conv at hcx => rhs; unfold ctTask
  have hcr := ctL_pos ctTask_pos (l.drop (i + 1).toNat)
  have p0 := ctL_pos ctAct_pos (l[i.toNat]'(by omega)).acts
  refine eK 2 Z (WO_idxT tys Z Z (lt_of Z) Z Z Z Z Z Z Z (by omega) _ (getMk Task.tt mkTask ctTask hkt (by omega) (by omega)) (eK 2 Z (kZ [0,1,5,6,7,8,9,12,13,14,15,16] Z (eZ Z (callB ?_)))))
  refine ⟨_, heldActS_mk (l[i.toNat]'(by omega)).acts (k') (by omega) (by omega), rfl, ?_⟩
  refine eZ Z (oN (tN (sQ (sQ (rG (eK 2 Z (WO_le (Le.known (t := 20) false Z (by first | (simp; done) | (simp; omega))) ?_)))))))
  refine oN (tN (W_condF Z (W_skip (tN (sQ (sQ (rG (eK 2 Z (WO_idxT tys Z Z (lt_of Z) Z Z Z Z Z Z Z (by omega) _ (getMk Task.tt mkTask ctTask hkt (by omega) (by omega)) (eZ Z (kZ [0,1,5,6,7,8,9,12,13,14,15,16,17,18,19,20,21,22,23,24] Z (eK 3 Z (WO_le (Le.known (t := 27) false Z (by simp [mkTask])) ?_)))))))))))))
  refine oN (tN (W_condF Z (W_skip (tN (sQ (rG (eZ Z (evI ?_))))))))
  refine eZ Z (oN (tN (sQ (sQ (rG (eK 2 Z (WO_idxT tys Z Z (lt_of Z) Z Z Z Z Z Z Z (by omega) _ (getMk Task.tt mkTask ctTask hkt (by omega) (by omega)) (kZ [0,1,5,6,7,8,9,12,13,14,15,16,17,18,19,20,21,22,23,24,25,26,27,28,29,30,31,32] Z (eK 4 Z (WO_le (Le.known (t := 36) false Z (by simp [mkTask])) ?_))))))))))
  refine oN (tN (W_condF Z (W_skip (tN (sQ (rG (eZ Z (evI ?_))))))))
  refine eZ Z (oN (tN (sQ (sQ (kY [0,1,5,6,7,8,9,12,13,14,15,16,17,18,19,20,21,22,23,24,25,26,27,28,29,30,31,32,33,34,35,36,37,38] Z (rG (eK 2 Z (WO_idxT tys Z Z (lt_of Z) Z Z Z Z Z Z Z (by omega) _ (getMk Task.tt mkTask ctTask hkt (by omega) (by omega)) (eK 4 Z (WO_le (Le.known (t := 45) false Z (by simp [mkTask])) ?_))))))))))
  refine oN (tN (W_condF Z (W_skip (tN (kY [0,1,5,6,7,8,9,12,13,14,15,16,17,18,19,20,21,22,23,24,25,26,27,28,29,30,31,32,33,34,35,36,37,38,39,40,41,42,43,44,45] Z (rG (eZ Z (evI ?_))))))))
  refine eZ Z (oN (bN (tN (rG (eZ Z (evI ?_))))))
  refine eZ Z (oN ?_)
  refine lQ (_, _) ?_ ?_
  ·dsimp only
   refine ⟨by omega, by omega, by omega, by omega, ?_⟩
   rw [ctL_take ctTask hi0 (by omega)]
   omega
  ·(show Int.toNat _ < Int.toNat _); omega
 simp only [HS] at h1
 refine W_exit (tE (loopQ_e (inBlk_y (tN (sQ (rG (eK 2 Z (oN (tN (rT (eR ?_)))))))))))
 ·rw [drop_end (by omega)] at hk'; simp only [ctL_nil] at hk'; refine congrArg (fun n => [D.t (T.int n)]) ?_; omega
def mkWorld (x : World) (k : Int) : World := ⟨mkI x.room (k), mkSS x.held (k + (x.room.length : Int)), mkB x.shut (k + (x.room.length : Int) + (x.held.flatten.length : Int)), mkL mkTask ctTask x.tasks (k + (x.room.length : Int) + (x.held.flatten.length : Int) + (x.shut.length : Int)), mkI x.trace (k + (x.room.length : Int) + (x.held.flatten.length : Int) + (x.shut.length : Int) + ctL ctTask x.tasks)⟩
def ctWorld (x : World) : Int := (x.room.length : Int) + (x.held.flatten.length : Int) + (x.shut.length : Int) + ctL ctTask x.tasks + (x.trace.length : Int)
theorem ctWorld_pos (x : World) : 0 ≤ ctWorld x := by
 have p3 := ctL_pos ctTask_pos x.tasks
 unfold ctWorld; omega
theorem markWorld_m (x : World) (k : Int) (hk : 0 ≤ k) (hb : k + ctWorld x ≤ 1073741824) (hl_held : x.held.length ≤ 1073741824) : MarkF Try.prog 25 (.agg ([T.ints x.room, intss x.held, T.bools x.shut, T.Tasks x.tasks, T.ints x.trace])) (k) (k + ctWorld x) (.agg ([T.ints (mkI x.room (k)), intss (mkSS x.held (k + (x.room.length : Int))), T.bools (mkB x.shut (k + (x.room.length : Int) + (x.held.flatten.length : Int))), T.Tasks (mkL mkTask ctTask x.tasks (k + (x.room.length : Int) + (x.held.flatten.length : Int) + (x.shut.length : Int))), T.ints (mkI x.trace (k + (x.room.length : Int) + (x.held.flatten.length : Int) + (x.shut.length : Int) + ctL ctTask x.tasks))])) := by
 have hb2 := hb
 unfold ctWorld at hb2
 have p0 := ctL_pos ctTask_pos x.tasks
 refine MarkF.struct Try.func25 Z Z (N := 26) Z (fun vs hvs hone w0 G F0 => ?_)
 obtain ⟨a0, a1, a2, a3, a4, rfl⟩ : ∃ a0 a1 a2 a3 a4, vs = [a0, a1, a2, a3, a4] := by
  match vs, hvs with
  | [a0, a1, a2, a3, a4], _ => exact ⟨_, _, _, _, _, rfl⟩
 refine sQ (rG (WO_box Z Z (lt_of Z) Z Z (nZ Z (eZ Z (oN (tN (sQ (rG (eK 3 Z (WO_markN (id := 26) (j := 0) Z Z (lt_of Z) Z Z Z Z Z Z (rfl) (rfl) (markIntS_m x.room (k) (by omega) (by omega)) (eZ Z (oN (tN (sQ (kY [1,2,4] Z ?_)))))))))))))))
 refine rG (eK 3 Z (WO_markN (id := 26) (j := 1) Z Z (lt_of Z) Z Z Z Z Z Z (rfl) (rfl) (markIntSS_m x.held (k + (x.room.length : Int)) (by omega) (by omega) (by omega)) (eZ Z (oN (tN (sQ (rG (eK 3 Z (WO_markN (id := 26) (j := 2) Z Z (lt_of Z) Z Z Z Z Z Z (rfl) (rfl) (markBoolS_m x.shut (k + (x.room.length : Int) + (x.held.flatten.length : Int)) (by omega) (by omega)) (kZ [1,2,4,16] Z (eZ Z (oN (tN (sQ (rG ?_)))))))))))))))
 refine eK 3 Z (WO_markN (id := 26) (j := 3) Z Z (lt_of Z) Z Z Z Z Z Z (rfl) (rfl) (markTaskS_m x.tasks (k + (x.room.length : Int) + (x.held.flatten.length : Int) + (x.shut.length : Int)) (by omega) (by omega)) (eZ Z (oN (tN (sQ (rG (eK 3 Z (kZ [1,4,22,23] Z (WO_markN (id := 26) (j := 4) Z Z (lt_of Z) Z Z Z Z Z Z (rfl) (rfl) (markIntS_m x.trace (k + (x.room.length : Int) + (x.held.flatten.length : Int) + (x.shut.length : Int) + ctL ctTask x.tasks) (by omega) (by omega)) (eZ Z (oN (tN (sQ (rG (eK 2 Z ?_)))))))))))))))
 refine oN (tN (rT ?_))
 refine EndsM_struct (.inr Z) Z Z Z ?_ ?_
 ·unfold ctWorld; omega
 ·rfl
theorem heldWorld_mk (x : World) (k : Int) (hk : 0 ≤ k) (hb : k + ctWorld x ≤ 1073741824) (hl_held : x.held.length ≤ 1073741824) : Fun Try.prog 26 [.t (mkWorld x k).tt, .t (.int k)] (tupD [.t (.int (k + ctWorld x))]) := by
 have hb2 := hb
 unfold ctWorld at hb2
 have p0 := ctL_pos ctTask_pos x.tasks
 refine Fun.begin tys Try.func26 Z Z (N := 36) [(0, .t (mkWorld x k).tt), (1, .t (.int k))] Z Z (fun w0 G F0 => ?_)
 refine sQ (rG (WO_box Z Z (lt_of Z) Z Z (nZ Z (eZ Z (oN (tN (sQ (rG (eK 3 Z (callB ?_))))))))))
 refine ⟨_, heldIntS_mk x.room (k) (by omega) (by omega), rfl, ?_⟩
 refine eZ Z (oN (tN (sQ (sQ (kY [1,2,4] Z (rG (eK 2 Z (WO_le (Le.known (t := 10) false Z (by first | (simp; done) | (simp; omega))) ?_))))))))
 refine oN (tN (W_condF Z (W_skip (tN (sQ (rG (eK 3 Z (callB ?_))))))))
 refine ⟨_, heldIntSS_mk x.held (k + (x.room.length : Int)) (by omega) (by omega) (by omega), rfl, ?_⟩
 refine eZ Z (oN (tN (sQ (sQ (kY [1,2,4] Z (rG (eK 2 Z (WO_le (Le.known (t := 16) false Z (by first | (simp; done) | (simp; omega))) ?_))))))))
 refine oN (tN (W_condF Z (W_skip (tN (sQ (rG (eK 3 Z (callB ?_))))))))
 refine ⟨_, heldBoolS_mk x.shut (k + (x.room.length : Int) + (x.held.flatten.length : Int)) (by omega) (by omega), rfl, ?_⟩
 refine eZ Z (oN (tN (sQ (sQ (kY [1,2,4] Z (rG (eK 2 Z (WO_le (Le.known (t := 22) false Z (by first | (simp; done) | (simp; omega))) ?_))))))))
 refine oN (tN (W_condF Z (W_skip (tN (sQ (rG (eK 3 Z (callB ?_))))))))
 refine ⟨_, heldTaskS_mk x.tasks (k + (x.room.length : Int) + (x.held.flatten.length : Int) + (x.shut.length : Int)) (by omega) (by omega), rfl, ?_⟩
 refine eZ Z (oN (tN (sQ (sQ (kY [1,2,4] Z (rG (eK 2 Z (WO_le (Le.known (t := 28) false Z (by first | (simp; done) | (simp; omega))) ?_))))))))
 refine oN (tN (W_condF Z (W_skip (tN (sQ (rG (eK 3 Z (callB ?_))))))))
 refine ⟨_, heldIntS_mk x.trace (k + (x.room.length : Int) + (x.held.flatten.length : Int) + (x.shut.length : Int) + ctL ctTask x.tasks) (by omega) (by omega), rfl, ?_⟩
 refine eZ Z (oN (tN (sQ (sQ (kY [1,4] Z (rG (eK 2 Z (WO_le (Le.known (t := 34) false Z (by first | (simp; done) | (simp; omega))) ?_))))))))
 refine oN (tN (W_condF Z (W_skip (tN (sQ (rG (eK 2 Z (oN (tN (rT (eR ?_)))))))))))
 ·refine congrArg (fun n => [D.t (T.int n)]) ?_; unfold ctWorld; omega
theorem szAct_c (x : Act) : SzC (szAct x) (ctAct x - 8) := Act.ind (p := fun x => SzC (szAct x) (ctAct x - 8)) (fun x ih => by
 have h := (szSeq_cs (szL_cm x.cases ih) szSeq_cn).mono (d := ctAct x - 8) (by rw [ctAct_eq]; omega)
 intro left h0 hg
 rw [szAct_eq] at hg ⊢
 exact h left h0 hg) x
open Go.Eng
def four (n : Nat) (l : List (List Int)) : Prop := l.length ≤ n ∧ ∀ x, x ∈ l → x.length = 4
theorem four_add {n : Nat} {l : List (List Int)} {x : List Int} (h : four n l) (hx : x.length = 4) : four (n + 1) (l ++ [x]) :=
 ⟨by have := h.1; simp; omega, fun y hy => by
  rcases List.mem_append.1 hy with hy | hy
  ·exact h.2 y hy
  ·rw [List.mem_singleton] at hy; subst hy; exact hx⟩
theorem four_le {n m : Nat} {l : List (List Int)} (h : four n l) (hm : n ≤ m) : four m l := ⟨Nat.le_trans h.1 hm, h.2⟩
theorem mvB_four {i k j : Int} {a : Act} : ∀ (l : List Act) (m : Int) {n : Nat} {acc : List (List Int)}, four n acc → four (n + l.length) (mvB i k a j l m acc)
 | [], m, n, acc, h => h
 | b :: l, m, n, acc, h => by
  rw [mvB, List.length_cons, show n + (l.length + 1) = (n + 1) + l.length from by omega]
  refine mvB_four l (m + 1) ?_
  split
  ·exact four_add h rfl
  ·exact four_le h (by omega)
theorem mvU_four {i k : Int} {a : Act} : ∀ (l : List Task) (j : Int) {n : Nat} {acc : List (List Int)}, (∀ t, t ∈ l → (ways t).length ≤ 3) → four n acc → four (n + 3 * l.length) (mvU i k a l j acc)
 | [], j, n, acc, _, h => h
 | u :: l, j, n, acc, hw, h => by
  rw [mvU, List.length_cons, show n + 3 * (l.length + 1) = (n + 3) + 3 * l.length from by omega]
  have h1 := hw u (List.mem_cons_self ..)
  exact mvU_four l (j + 1) (fun t ht => hw t (List.mem_cons_of_mem _ ht)) (four_le (mvB_four _ _ h) (by omega))
theorem mvA_four {w : World} {i : Int} (hw : ∀ t, t ∈ w.tasks → (ways t).length ≤ 3) (ht : w.tasks.length ≤ 4) : ∀ (l : List Act) (k : Int) {n : Nat} {acc : List (List Int)}, four n acc → four (n + 13 * l.length) (mvA w i l k acc)
 | [], k, n, acc, h => h
 | a :: l, k, n, acc, h => by
  rw [mvA, List.length_cons, show n + 13 * (l.length + 1) = (n + 13) + 13 * l.length from by omega]
  refine mvA_four hw ht l (k + 1) ?_
  have h1 : four (n + 1) (if alone w a then acc ++ [[i, k, -1, 0]] else acc) := by
   split
   ·exact four_add h rfl
   ·exact four_le h (by omega)
  split
  ·exact four_le (mvU_four _ _ hw h1) (by omega)
  ·exact four_le h1 (by omega)
theorem mvT_four {w : World} (hw : ∀ t, t ∈ w.tasks → (ways t).length ≤ 3) (ht : w.tasks.length ≤ 4) : ∀ (l : List Task) (i : Int) {n : Nat} {acc : List (List Int)}, (∀ t, t ∈ l → (ways t).length ≤ 3) → four n acc → four (n + 39 * l.length) (mvT w l i acc)
 | [], i, n, acc, _, h => h
 | t :: l, i, n, acc, hl, h => by
  rw [mvT, List.length_cons, show n + 39 * (l.length + 1) = (n + 39) + 39 * l.length from by omega]
  have h1 := hl t (List.mem_cons_self ..)
  exact mvT_four hw ht l (i + 1) (fun t ht => hl t (List.mem_cons_of_mem _ ht)) (four_le (mvA_four hw ht _ _ h) (by omega))
theorem movesOf_four {w : World} (hg : Good w) : four 156 (movesOf w) := by
 have hw : ∀ t, t ∈ w.tasks → (ways t).length ≤ 3 := fun t h => (hg.ways t h).1
 exact four_le (mvT_four hw hg.tasks w.tasks 0 (n := 0) hw ⟨Nat.zero_le _, fun x hx => by cases hx⟩) (by have := hg.tasks; omega)
open Go.Eng
def task0 : Task := ⟨[], 0, 0, 0⟩
def act0 : Act := .mk 0 0 0 []
def tk (w : World) (i : Int) : Task := at0 task0 w.tasks i
def advT (t : Task) : Task := { t with pos := t.pos + 1, state := if t.pos + 1 = t.acts.length then 1 else t.state }
def setT (w : World) (i : Int) (t : Task) : World := { w with tasks := w.tasks.set i.toNat t }
def advW (w : World) (i : Int) : World := setT w i (advT (tk w i))
def actOf (w : World) (mv : List Int) : Act := at0 act0 (ways (tk w (at0 0 mv 0))) (at0 0 mv 1)
def doW (w : World) (mv : List Int) : World :=
 if (actOf w mv).kind = 3 then advW { w with trace := w.trace ++ [(tk w (at0 0 mv 0)).last] } (at0 0 mv 0)
 else if ((actOf w mv).kind = 5 ∨ (actOf w mv).kind = 1) ∧ at0 false w.shut (actOf w mv).chan = true then setT w (at0 0 mv 0) { tk w (at0 0 mv 0) with state := 2 }
 else if (actOf w mv).kind = 5 then advW { w with shut := w.shut.set (actOf w mv).chan.toNat true } (at0 0 mv 0)
 else if (actOf w mv).kind = 1 ∧ 0 ≤ at0 0 mv 2 then advW (advW (setT w (at0 0 mv 2) { tk w (at0 0 mv 2) with last := (actOf w mv).n }) (at0 0 mv 2)) (at0 0 mv 0)
 else if (actOf w mv).kind = 1 then advW { w with held := w.held.set (actOf w mv).chan.toNat (at0 [] w.held (actOf w mv).chan ++ [(actOf w mv).n]) } (at0 0 mv 0)
 else if 0 < (at0 [] w.held (actOf w mv).chan).length then
  advW { setT w (at0 0 mv 0) { tk w (at0 0 mv 0) with last := at0 0 (at0 [] w.held (actOf w mv).chan) 0 } with held := w.held.set (actOf w mv).chan.toNat ((at0 [] w.held (actOf w mv).chan).drop 1) } (at0 0 mv 0)
 else advW (setT w (at0 0 mv 0) { tk w (at0 0 mv 0) with last := 0 }) (at0 0 mv 0)
def doOk (w : World) (mv : List Int) : Bool := decide ((doW w mv).trace.length ≤ 120)
structure MvOk (w : World) (mv : List Int) : Prop where
 len : mv.length = 4
 i0 : 0 ≤ at0 0 mv 0
 i1 : at0 0 mv 0 < w.tasks.length
 k0 : 0 ≤ at0 0 mv 1
 k1 : at0 0 mv 1 < (ways (tk w (at0 0 mv 0))).length
 j : (at0 0 mv 2 = -1 ∧ alone w (actOf w mv) = true) ∨ ((0 ≤ at0 0 mv 2 ∧ at0 0 mv 2 < w.tasks.length) ∧ (¬ at0 0 mv 0 = at0 0 mv 2) ∧ 0 < (ways (tk w (at0 0 mv 2))).length)
section
variable {w : World} {i k : Int} {a : Act}
def AllOk (w : World) (acc : List (List Int)) : Prop := ∀ x, x ∈ acc → MvOk w x
theorem AllOk.add {acc : List (List Int)} (h : AllOk w acc) {x : List Int} (hx : MvOk w x) : AllOk w (acc ++ [x]) := fun y hy => by
 rcases List.mem_append.1 hy with hy | hy
 ·exact h y hy
 ·rw [List.mem_singleton] at hy; subst hy; exact hx
theorem mvOk_of (h0 : 0 ≤ i) (h1 : i < w.tasks.length) (h2 : 0 ≤ k) (h3 : k < (ways (tk w i)).length) {j m : Int} (hj : (j = -1 ∧ alone w (at0 act0 (ways (tk w i)) k) = true) ∨ ((0 ≤ j ∧ j < w.tasks.length) ∧ (¬ i = j) ∧ 0 < (ways (tk w j)).length)) : MvOk w [i, k, j, m] :=
 ⟨rfl, h0, h1, h2, h3, hj⟩
theorem mvB_ok (h0 : 0 ≤ i) (h1 : i < w.tasks.length) (h2 : 0 ≤ k) (h3 : k < (ways (tk w i)).length) {j : Int} (hj0 : 0 ≤ j) (hj1 : j < w.tasks.length) : ∀ (l : List Act) (m : Int) {acc : List (List Int)}, l.length ≤ (ways (tk w j)).length → AllOk w acc → AllOk w (mvB i k a j l m acc)
 | [], _, _, _, h => h
 | b :: l, m, acc, hl, h => by
  rw [List.length_cons] at hl
  rw [mvB]
  refine mvB_ok h0 h1 h2 h3 hj0 hj1 l (m + 1) (by omega) ?_
  split
  ·rename_i hc
   exact h.add (mvOk_of h0 h1 h2 h3 (.inr ⟨⟨hj0, hj1⟩, hc.1, by omega⟩))
  ·exact h
theorem mvU_ok (h0 : 0 ≤ i) (h1 : i < w.tasks.length) (h2 : 0 ≤ k) (h3 : k < (ways (tk w i)).length) : ∀ (l : List Task) (j : Int) {acc : List (List Int)}, 0 ≤ j → l = w.tasks.drop j.toNat → AllOk w acc → AllOk w (mvU i k a l j acc)
 | [], _, _, _, _, h => h
 | u :: l, j, acc, hj, he, h => by
  have hl := congrArg List.length he
  rw [List.length_cons, List.length_drop] at hl
  have h6 := drop_at (l := w.tasks) hj (by omega)
  rw [← he] at h6
  have hb : tk w j = u := by
   rw [tk, at0_of hj (by omega)]
   exact (List.cons.inj h6).1.symm
  rw [mvU]
  exact mvU_ok h0 h1 h2 h3 l (j + 1) (by omega) (List.cons.inj h6).2 (mvB_ok h0 h1 h2 h3 hj (by omega) _ _ (by rw [hb]; exact Nat.le_refl _) h)
theorem mvA_ok (h0 : 0 ≤ i) (h1 : i < w.tasks.length) : ∀ (l : List Act) (k : Int) {acc : List (List Int)}, 0 ≤ k → l = (ways (tk w i)).drop k.toNat → AllOk w acc → AllOk w (mvA w i l k acc)
 | [], _, _, _, _, h => h
 | b :: l, k, acc, hk, he, h => by
  have hl := congrArg List.length he
  rw [List.length_cons, List.length_drop] at hl
  have h6 := drop_at (l := ways (tk w i)) hk (by omega)
  rw [← he] at h6
  have hb : at0 act0 (ways (tk w i)) k = b := by
   rw [at0_of hk (by omega)]
   exact (List.cons.inj h6).1.symm
  rw [mvA]
  refine mvA_ok h0 h1 l (k + 1) (by omega) (List.cons.inj h6).2 ?_
  have h5 : AllOk w (if alone w b then acc ++ [[i, k, -1, 0]] else acc) := by
   split
   ·rename_i ha
    exact h.add (mvOk_of h0 h1 hk (by omega) (.inl ⟨rfl, by rw [hb]; exact ha⟩))
   ·exact h
  split
  ·exact mvU_ok h0 h1 hk (by omega) w.tasks 0 (by omega) rfl h5
  ·exact h5
theorem mvT_ok : ∀ (l : List Task) (i : Int) {acc : List (List Int)}, 0 ≤ i → l = w.tasks.drop i.toNat → AllOk w acc → AllOk w (mvT w l i acc)
 | [], _, _, _, _, h => h
 | t :: l, i, acc, hi, hl, h => by
  have hlen := congrArg List.length hl
  rw [List.length_cons, List.length_drop] at hlen
  have ht : tk w i = t := by
   have h5 := drop_at (l := w.tasks) hi (by omega)
   rw [← hl] at h5
   rw [tk, at0_of hi (by omega)]
   exact (List.cons.inj h5).1.symm
  rw [mvT]
  refine mvT_ok l (i + 1) (by omega) ?_ (mvA_ok hi (by omega) (ways t) 0 (by omega) (by rw [ht]; rfl) h)
  have h5 := drop_at (l := w.tasks) hi (by omega)
  rw [← hl] at h5
  exact (List.cons.inj h5).2
theorem moves_ok {mv : List Int} (h : mv ∈ movesOf w) : MvOk w mv := mvT_ok w.tasks 0 (by omega) rfl (fun x hx => by cases hx) mv h
end
theorem goodAct_ways {w : World} (hg : goodWorld w = true) {t : Task} (ht : t ∈ w.tasks) {a : Act} (ha : a ∈ ways t) : (a.kind = 1 ∨ a.kind = 2 ∨ a.kind = 3 ∨ a.kind = 5) ∧ (0 ≤ a.chan ∧ a.chan < w.room.length) ∧ inNum a.n = true ∧ t.state = 0 ∧ (0 ≤ t.pos ∧ t.pos < t.acts.length) := by
 have hgo := good_of hg
 have h9 : goodTask w.room.length t = true := by
  unfold goodWorld at hg
  simp only [Bool.and_eq_true, List.all_eq_true] at hg
  exact hg.2.2.2.2.2.2.2.2 t ht
 unfold goodTask goodActs at h9
 simp only [Bool.and_eq_true, decide_eq_true_eq, List.all_eq_true] at h9
 have hs : t.state = 0 := Classical.byContradiction fun h => by unfold ways at ha; rw [if_neg h] at ha; cases ha
 have hp := hgo.pos t ht
 have hp1 := hp.2.1 hs
 have hch := (hgo.ways t ht).2 a ha
 refine ⟨?_, hch, ?_, hs, hp.1, hp1⟩
 all_goals
  rw [ways_at hs hp.1 hp1] at ha
  have hga := h9.1.1 _ (List.getElem_mem (l := t.acts) (n := t.pos.toNat) (by omega))
  unfold goodAct at hga
  split at ha
  ·rename_i hk
   rw [if_pos hk] at hga
   simp only [Bool.and_eq_true, List.all_eq_true] at hga
   have := hga.1 a ha
   unfold caseAct plainAct at this
   simp only [Bool.and_eq_true, decide_eq_true_eq] at this
   grind [inNum]
  ·rename_i hk
   rw [if_neg hk] at hga
   rw [List.mem_singleton] at ha
   subst ha
   unfold plainAct at hga
   simp only [Bool.and_eq_true, decide_eq_true_eq] at hga
   grind [inNum]
theorem heldGo_iff : ∀ {hs : List (List Int)} {rs : List Int}, heldGo hs rs = true ↔ ∀ (k : Nat) (h1 : k < hs.length) (h2 : k < rs.length), ((hs[k].length : Int) ≤ rs[k]) ∧ allIn hs[k] (-1000) 1000 = true
 | [], _ => by simp [heldGo]
 | _ :: _, [] => by simp [heldGo]
 | l :: hs, r :: rs => by
  rw [heldGo, Bool.and_eq_true, Bool.and_eq_true, decide_eq_true_eq, heldGo_iff]
  constructor
  ·rintro ⟨a, b, h⟩ k h1 h2
   cases k with
   | zero => exact ⟨a, b⟩
   | succ k => exact h k (by simpa using h1) (by simpa using h2)
  ·intro h
   refine ⟨(h 0 (by simp) (by simp)).1, (h 0 (by simp) (by simp)).2, fun k h1 h2 => ?_⟩
   exact h (k + 1) (by simpa using h1) (by simpa using h2)
structure GW (w : World) : Prop where
 room : (1 : Int) ≤ w.room.length ∧ (w.room.length : Int) ≤ 3
 held : (w.held.length : Int) = w.room.length
 shut : (w.shut.length : Int) = w.room.length
 rooms : allIn w.room 0 3 = true
 tasks : (1 : Int) ≤ w.tasks.length ∧ (w.tasks.length : Int) ≤ 4
 trace : (w.trace.length : Int) ≤ 120
 tr : allIn w.trace (-1000) 1000 = true
 hs : ∀ (k : Nat) (h1 : k < w.held.length) (h2 : k < w.room.length), ((w.held[k].length : Int) ≤ w.room[k]) ∧ allIn w.held[k] (-1000) 1000 = true
 ts : ∀ t, t ∈ w.tasks → goodTask w.room.length t = true
theorem gw_iff {w : World} : goodWorld w = true ↔ GW w := by
 unfold goodWorld
 simp only [Bool.and_eq_true, decide_eq_true_eq, List.all_eq_true, heldGo_iff]
 exact ⟨fun ⟨a, b, d, e, f, g, h, i, j⟩ => ⟨a, b, d, e, f, g, h, i, j⟩, fun h => ⟨h.1, h.2, h.3, h.4, h.5, h.6, h.7, h.8, h.9⟩⟩
theorem gw_set {w : World} (h : GW w) {i : Int} {t : Task} (ht : goodTask w.room.length t = true) : GW (setT w i t) :=
 { h with
  tasks := by have e : (setT w i t).tasks.length = w.tasks.length := List.length_set; rw [e]; exact h.tasks
  ts := fun u hu => by
   rcases List.mem_or_eq_of_mem_set hu with hu | rfl
   ·exact h.ts u hu
   ·exact ht }
theorem tk_set {w : World} {i j : Int} {t : Task} (h0 : 0 ≤ i) (h1 : i < w.tasks.length) (hj : 0 ≤ j) : tk (setT w i t) j = if j = i then t else tk w j := by
 unfold tk setT at0
 by_cases e : j = i
 ·subst e; rw [if_pos rfl]; simp only; rw [List.getElem?_set_self (by omega)]; rfl
 ·rw [if_neg e]; simp only; rw [List.getElem?_set_ne (by omega)]
theorem tk_mem {w : World} {i : Int} (h0 : 0 ≤ i) (h1 : i < w.tasks.length) : tk w i ∈ w.tasks := by
 rw [tk, at0_of h0 h1]; exact List.getElem_mem _
theorem good_advT {c : Int} {t : Task} (h : goodTask c t = true) (hs : t.state = 0) (hp : t.pos < t.acts.length) : goodTask c (advT t) = true := by
 unfold goodTask at h ⊢
 simp only [Bool.and_eq_true, decide_eq_true_eq] at h ⊢
 obtain ⟨a, b, d, e, f⟩ := h
 unfold advT
 refine ⟨a, by simp only; omega, ?_, e, ?_⟩ <;> simp only <;> split <;> omega
theorem good_stT {c : Int} {t : Task} (h : goodTask c t = true) (hp : t.pos < t.acts.length) : goodTask c { t with state := 2 } = true := by
 unfold goodTask at h ⊢
 simp only [Bool.and_eq_true, decide_eq_true_eq] at h ⊢
 obtain ⟨a, b, d, e, f⟩ := h
 exact ⟨a, b, by omega, e, by omega⟩
theorem good_laT {c : Int} {t : Task} (h : goodTask c t = true) {n : Int} (hn : inNum n = true) : goodTask c { t with last := n } = true := by
 unfold goodTask at h ⊢
 simp only [Bool.and_eq_true, decide_eq_true_eq] at h ⊢
 obtain ⟨a, b, d, e, f⟩ := h
 exact ⟨a, b, d, hn, f⟩
theorem gw_adv {w : World} (h : GW w) {i : Int} (h0 : 0 ≤ i) (h1 : i < w.tasks.length) (hs : (tk w i).state = 0) (hp : (tk w i).pos < (tk w i).acts.length) : GW (advW w i) :=
 gw_set h (good_advT (h.ts _ (tk_mem h0 h1)) hs hp)
theorem gw_held {w : World} (h : GW w) {c : Int} (hc0 : 0 ≤ c) (hc1 : c < w.room.length) {v : List Int} (hv : (v.length : Int) ≤ at0 0 w.room c) (hva : allIn v (-1000) 1000 = true) : GW { w with held := w.held.set c.toNat v } :=
 { h with
  held := by show ((w.held.set c.toNat v).length : Int) = _; rw [List.length_set]; exact h.held
  hs := fun k h1 h2 => by
   have h3 : k < w.held.length := by have : k < (w.held.set c.toNat v).length := h1; rwa [List.length_set] at this
   show (((w.held.set c.toNat v)[k]'h1).length : Int) ≤ w.room[k]'h2 ∧ allIn ((w.held.set c.toNat v)[k]'h1) (-1000) 1000 = true
   rw [List.getElem_set]
   split
   ·rename_i e
    subst e
    rw [at0_of hc0 hc1] at hv
    exact ⟨hv, hva⟩
   ·exact h.hs k h3 h2 }
theorem gw_shut {w : World} (h : GW w) {l : List Bool} (hl : l.length = w.shut.length) : GW { w with shut := l } :=
 { h with shut := by show (l.length : Int) = _; rw [hl]; exact h.shut }
theorem gw_trace {w : World} (h : GW w) {l : List Int} (hl : (l.length : Int) ≤ 120) (ha : allIn l (-1000) 1000 = true) : GW { w with trace := l } :=
 { h with trace := hl, tr := ha }
theorem allIn_add {l : List Int} {n lo hi : Int} (h : allIn l lo hi = true) (hn : lo ≤ n ∧ n ≤ hi) : allIn (l ++ [n]) lo hi = true := by
 unfold allIn at h ⊢
 rw [List.all_append, h]
 simp [hn]
theorem allIn_drop {l : List Int} {k : Nat} {lo hi : Int} (h : allIn l lo hi = true) : allIn (l.drop k) lo hi = true := by
 unfold allIn at h ⊢
 rw [List.all_eq_true] at h ⊢
 exact fun x hx => h x (List.mem_of_mem_drop hx)
theorem inNum_iff {n : Int} : inNum n = true ↔ -1000 ≤ n ∧ n ≤ 1000 := by unfold inNum; rw [decide_eq_true_eq]
theorem gw_hold {w : World} (h : GW w) {c : Int} (hc0 : 0 ≤ c) (hc1 : c < w.room.length) : ((at0 [] w.held c).length : Int) ≤ at0 0 w.room c ∧ allIn (at0 [] w.held c) (-1000) 1000 = true := by
 have e := h.held
 rw [at0_of hc0 (by omega), at0_of hc0 hc1]
 exact h.hs c.toNat (by omega) (by omega)
theorem good_doW {w : World} {mv : List Int} (hg : goodWorld w = true) (hm : MvOk w mv) (hd : doOk w mv = true) : goodWorld (doW w mv) = true := by
 rw [gw_iff]
 have h := gw_iff.1 hg
 have hat : actOf w mv ∈ ways (tk w (at0 0 mv 0)) := by rw [actOf, at0_of hm.k0 hm.k1]; exact List.getElem_mem _
 have htm := tk_mem hm.i0 hm.i1
 obtain ⟨hk, hch, hn, hst, hp⟩ := goodAct_ways hg htm hat
 have hla : inNum (tk w (at0 0 mv 0)).last = true := by
  have := h.ts _ htm
  unfold goodTask at this
  simp only [Bool.and_eq_true] at this
  exact this.2.2.2.1
 rw [inNum_iff] at hn hla
 have hho := gw_hold h hch.1 hch.2
 have hdd : (doW w mv).trace.length ≤ 120 := of_decide_eq_true hd
 have hj := hm.j
 have hi0 := hm.i0
 have hi1 := hm.i1
 unfold doW at hdd ⊢
 generalize hA : actOf w mv = A at *
 generalize hI : at0 0 mv 0 = I at *
 generalize hJ : at0 0 mv 2 = J at *
 split
 ·rename_i h3
  rw [if_pos h3] at hdd
  have hlen : (w.trace ++ [(tk w I).last]).length ≤ 120 := hdd
  exact gw_adv (gw_trace h (by omega) (allIn_add h.tr hla)) hi0 hi1 hst hp.2
 ·split
  ·exact gw_set h (good_stT (h.ts _ htm) hp.2)
  ·split
   ·exact gw_adv (gw_shut h List.length_set) hi0 hi1 hst hp.2
   ·split
    ·rename_i hs5
     obtain ⟨hj1, hj2, hj3⟩ := hj.resolve_left (by omega)
     have hjm := tk_mem hj1.1 hj1.2
     have hjs : (tk w J).state = 0 := Classical.byContradiction fun hx => by unfold ways at hj3; rw [if_neg hx] at hj3; simp at hj3
     have hjp := (good_of hg).pos _ hjm
     have g1 : GW (setT w J { tk w J with last := A.n }) := gw_set h (good_laT (h.ts _ hjm) (inNum_iff.2 hn))
     have e1 : tk (setT w J { tk w J with last := A.n }) J = { tk w J with last := A.n } := by rw [tk_set hj1.1 hj1.2 hj1.1, if_pos rfl]
     have l1 : ∀ (w : World) (i : Int) (t : Task), (setT w i t).tasks.length = w.tasks.length := fun w i t => List.length_set
     have g2 : GW (advW (setT w J { tk w J with last := A.n }) J) := gw_adv g1 hj1.1 (by rw [l1]; exact hj1.2) (by rw [e1]; exact hjs) (by rw [e1]; exact hjp.2.1 hjs)
     have e2 : tk (advW (setT w J { tk w J with last := A.n }) J) I = tk w I := by
      rw [advW, tk_set hj1.1 (by rw [l1]; exact hj1.2) hi0, if_neg hj2, tk_set hj1.1 hj1.2 hi0, if_neg hj2]
     exact gw_adv g2 hi0 (by rw [advW, l1, l1]; exact hi1) (by rw [e2]; exact hst) (by rw [e2]; exact hp.2)
    ·split
     ·rename_i hns hk1
      have hal : alone w A = true := (hj.resolve_right (by omega)).2
      have hsh : ¬ at0 false w.shut A.chan = true := by grind
      have hroom : ((at0 [] w.held A.chan).length : Int) < at0 0 w.room A.chan := by
       unfold alone at hal
       rw [if_pos hk1] at hal
       simp only [Bool.or_eq_true, decide_eq_true_eq] at hal
       exact hal.resolve_left hsh
      exact gw_adv (gw_held h hch.1 hch.2 (by simp; omega) (allIn_add hho.2 hn)) hi0 hi1 hst hp.2
     ·split
      ·rename_i hh
       have hn0 : inNum (at0 0 (at0 [] w.held A.chan) 0) = true := by
        have h5 := hho.2
        unfold allIn at h5
        rw [List.all_eq_true] at h5
        have h6 := h5 _ (List.getElem_mem (l := at0 [] w.held A.chan) (n := 0) hh)
        rw [at0_of (by omega) (by omega)]
        exact inNum_iff.2 (of_decide_eq_true h6)
       have g1 : GW (setT w I { tk w I with last := at0 0 (at0 [] w.held A.chan) 0 }) := gw_set h (good_laT (h.ts _ htm) hn0)
       have e1 : tk (setT w I { tk w I with last := at0 0 (at0 [] w.held A.chan) 0 }) I = { tk w I with last := at0 0 (at0 [] w.held A.chan) 0 } := by rw [tk_set hi0 hi1 hi0, if_pos rfl]
       have l1 : (setT w I { tk w I with last := at0 0 (at0 [] w.held A.chan) 0 }).tasks.length = w.tasks.length := List.length_set
       refine gw_adv (w := { setT w I { tk w I with last := at0 0 (at0 [] w.held A.chan) 0 } with held := w.held.set A.chan.toNat ((at0 [] w.held A.chan).drop 1) }) (gw_held g1 hch.1 hch.2 ?_ (allIn_drop hho.2)) hi0 (by show I < ((setT w I _).tasks.length : Int); rw [l1]; exact hi1) ?_ ?_
       ·rw [List.length_drop]; show _ ≤ at0 0 w.room A.chan; omega
       ·show (tk (setT w I _) I).state = 0
        rw [e1]; exact hst
       ·show (tk (setT w I _) I).pos < (tk (setT w I _) I).acts.length
        rw [e1]; exact hp.2
      ·have g1 : GW (setT w I { tk w I with last := 0 }) := gw_set h (good_laT (h.ts _ htm) rfl)
       have e1 : tk (setT w I { tk w I with last := 0 }) I = { tk w I with last := 0 } := by rw [tk_set hi0 hi1 hi0, if_pos rfl]
       have l1 : (setT w I { tk w I with last := 0 }).tasks.length = w.tasks.length := List.length_set
       exact gw_adv g1 hi0 (by rw [l1]; exact hi1) (by rw [e1]; exact hst) (by rw [e1]; exact hp.2)
open Go.Eng
theorem readIz (l : List Int) : ∀ x, x ∈ l.map T.int → (T.cells x).length = 1 ∧ ∀ y, y ∈ T.cells x → ∃ v, y = .v v := by
 intro x hx
 obtain ⟨n, _, rfl⟩ := List.mem_map.1 hx
 exact ⟨rfl, fun y hy => by simp [T.cells] at hy; exact ⟨_, hy⟩⟩
theorem readBz (l : List Bool) : ∀ x, x ∈ l.map T.bool → (T.cells x).length = 1 ∧ ∀ y, y ∈ T.cells x → ∃ v, y = .v v := by
 intro x hx
 obtain ⟨n, _, rfl⟩ := List.mem_map.1 hx
 exact ⟨rfl, fun y hy => by simp [T.cells] at hy; exact ⟨_, hy⟩⟩
theorem cloneI_fun (l : List Int) (hl : l.length ≤ 1073741824) : Fun Try.prog 99 [.t (T.ints l)] (tupD [.own (T.ints l)]) := by
 refine Fun.begin tys Try.func99 Z Z (N := 8) [(0, .t (T.ints l))] Z Z (fun w0 G F0 => ?_)
 refine sQ (rG (eZ Z (oN (tN (sQ (sQ (rG (eZ Z ?_))))))))
 refine WO_nilEq (e := 3) Z Z (lt_of Z) Z (by kernel_rfl) Z Z (fun b hb => ?_)
 refine oN (tN ?_)
 refine W_cond Z (fun h1 => ?_) (fun h1 => ?_)
 ·
  refine sQ (rG (eZ Z (oN (tN (W_le (Le.nilOwn (u := 2) 1 Z) (rT (tR (eR ?_))))))))
  ·have e := List.map_eq_nil_iff.1 (hb h1)
   rw [e]
   rfl
 refine W_skip (tN (sQ (rG ?_)))
 refine WO_buildSlice tys [] Z Z (lt_of Z) Z Z Z Z Z (by decide) (by repeat (first | exact PartsOk.nil' | refine PartsOk.cons' rfl (by repeat (first | exact AbsL.nil' | refine AbsL.v' ?_ | refine AbsL.own' ?_ | refine AbsL.none' ?_)) Z ?_)) (by first | exact List.nodup_nil | exact nodup1 _ | decide | exact nodupB_sound Z) Z (by decide) ?_
 refine nZ Z (eZ Z (WO_append tys Z Z (lt_of Z) Z Z Z Z Z (.own Z (by first | omega | (simp only [List.length_append]; omega))) Z (.read (readIz _)) (by decide) (by simp; omega) (by decide) Z ?_))
 refine nZ Z (eZ Z (oN (tN (W_le (Le.gather (u := 2) (id := 5) Z Z (by simp)) ?_))))
 refine rT (eR ?_)
 ·show [D.own (.list 1 _)] = [D.own (.list 1 _)]
  simp only [List.take_length, List.nil_append, List.length_map]
  rw [List.take_of_length_le (by simp)]
def toldA (C : List (Act × List Value)) : List T := C.map fun c => .agg (c.2.map T.v)
theorem toldA_flat (C : List (Act × List Value)) : (toldA C).flatMap T.cells = (C.flatMap (·.2)).map T.v := by
 unfold toldA; rw [List.flatMap_map, List.map_flatMap]; rfl
theorem toldA_len (C : List (Act × List Value)) : (toldA C).length = C.length := List.length_map ..
theorem toldA_read {C : List (Act × List Value)} (h : ∀ c, c ∈ C → c.2.length = 4) : ∀ x, x ∈ toldA C → (T.cells x).length = 4 ∧ ∀ y, y ∈ T.cells x → ∃ v, y = .v v := by
 intro x hx
 obtain ⟨c, hc, rfl⟩ := List.mem_map.1 hx
 refine ⟨by show (c.2.map T.v).length = 4; rw [List.length_map, h c hc], fun y hy => ?_⟩
 obtain ⟨v, _, rfl⟩ := List.mem_map.1 hy
 exact ⟨v, rfl⟩
theorem mapAt' {α β : Type} {f : α → β} {l : List α} {k : Nat} {x : α} (h : l[k]? = some x) : (l.map f)[k]? = some (f x) := by rw [List.getElem?_map, h]; rfl
theorem cellsA (l : List Act) : ∀ x, x ∈ l.map Act.toT → (T.cells x).length = 4 := by
 intro x hx; obtain ⟨a, _, rfl⟩ := List.mem_map.1 hx; rw [Act.toT_eq]; rfl
theorem cloneAv_fun (ys : List T) (hl : ys.length ≤ 1073741824) (hr : ∀ x, x ∈ ys → (T.cells x).length = 4 ∧ ∀ y, y ∈ T.cells x → ∃ v, y = .v v) : Fun Try.prog 100 [.t (.list 4 ys)] (tupD [.own (.list 4 ys)]) := by
 refine Fun.begin tys Try.func100 Z Z (N := 8) [(0, .t (.list 4 ys))] Z Z (fun w0 G F0 => ?_)
 refine sQ (rG (eZ Z (oN (tN (sQ (sQ (rG (eZ Z ?_))))))))
 refine WO_nilEq (e := 98) Z Z (lt_of Z) Z (by kernel_rfl) Z Z (fun b hb => ?_)
 refine oN (tN ?_)
 refine W_cond Z (fun h1 => ?_) (fun h1 => ?_)
 ·
  refine sQ (rG (eZ Z (oN (tN (W_le (Le.nilOwn (u := 2) 4 Z) (rT (tR (eR ?_))))))))
  ·rw [hb h1]
   done
 refine W_skip (tN (sQ (rG ?_)))
 refine WO_buildSlice tys [] Z Z (lt_of Z) Z Z Z Z Z (by decide) (by repeat (first | exact PartsOk.nil' | refine PartsOk.cons' rfl (by repeat (first | exact AbsL.nil' | refine AbsL.v' ?_ | refine AbsL.own' ?_ | refine AbsL.none' ?_)) Z ?_)) (by first | exact List.nodup_nil | exact nodup1 _ | decide | exact nodupB_sound Z) Z (by decide) ?_
 refine nZ Z (eZ Z (WO_append tys Z Z (lt_of Z) Z Z Z Z Z (.own Z (by first | omega | (simp only [List.length_append]; omega))) Z (.read hr) (by decide) (by simp; omega) (by decide) Z ?_))
 refine nZ Z (eZ Z (oN (tN (W_le (Le.gather (u := 2) (id := 5) Z Z (by simp)) ?_))))
 refine rT (eR ?_)
 ·show [D.own (.list 4 _)] = [D.own (.list 4 _)]
  simp
  done
theorem snd_at {n : Nat} : ∀ {C : List (Act × List Value)} (h : ∀ c, c ∈ C → c.2.length = n) {k j : Nat} (hk : k < C.length), j < n → (C.flatMap (·.2))[k * n + j]? = (C[k]).2[j]?
 | [], _, k, _, hk, _ => by simp at hk
 | c :: C, h, 0, j, hk, hj => by
  have := h c (by simp)
  rw [List.flatMap_cons, Nat.zero_mul, Nat.zero_add, List.getElem?_append_left (by omega)]
  rfl
 | c :: C, h, k + 1, j, hk, hj => by
  have hc := h c (by simp)
  rw [List.flatMap_cons, List.getElem?_append_right (by rw [hc, Nat.succ_mul]; omega)]
  have := snd_at (C := C) (fun d hd => h d (by simp [hd])) (k := k) (j := j) (by simpa using hk) hj
  rw [hc, show (k + 1) * n + j - n = k * n + j from by rw [Nat.succ_mul]; omega, this]
  rfl
theorem mixA_at {α : Type} {f : α → T} {l : List α} {ys : List T} {k : Nat} (hk : k ≤ l.length) : ((l.take k).map f ++ ys.drop k)[0 + k]? = ys[k]? := by
 rw [List.getElem?_append_right (by simp; omega)]
 simp [Nat.min_eq_left hk]
theorem mixA_set {α : Type} {f : α → T} {l : List α} {ys : List T} {k : Nat} (hk : k < l.length) (hy : k < ys.length) {t : T} (ht : t = f l[k]) : ((l.take k).map f ++ ys.drop k).set (0 + k) t = (l.take (k + 1)).map f ++ ys.drop (k + 1) := by
 subst ht
 rw [List.set_append_right _ _ (by simp; omega), List.take_succ_eq_append_getElem hk, List.map_append]
 simp [Nat.min_eq_left (Nat.le_of_lt hk)]
 rw [List.drop_eq_getElem_cons hy]
 rfl
theorem cloneActs_rec (l : List Act) (hl : l.length ≤ 1048576) (ih : ∀ a, a ∈ l → Fun Try.prog 101 [.t (T.Acts a.cases)] (tupD [.own (T.Acts a.cases)])) : Fun Try.prog 101 [.t (T.Acts l)] (tupD [.own (T.Acts l)]) := by
  refine Fun.begin tys Try.func101 Z Z (N := 24) [(0, .t (T.Acts l))] Z Z (fun w0 G F0 => ?_)
  refine sQ ?_
  refine W_tellL (u := 0) 101 Z (fun vs hvs => ?_)
  obtain ⟨C, hC1, hC2, rfl⟩ := cutV (l := l) (vs := vs) (n := 4) (by rw [hvs, List.length_map])
  have hCl : C.length = l.length := by rw [← hC1, List.length_map]
  refine ⟨toldA C, toldA_flat C, by rw [toldA_len, List.length_map, hCl], fun y hy => (toldA_read hC2 y hy).1, ?_⟩
  refine nY Z (rG (eZ Z (oN (tN (sQ (rG (eZ Z (callB ?_))))))))
  refine ⟨_, cloneAv_fun _ (by rw [toldA_len]; omega) (toldA_read hC2), rfl, ?_⟩
  refine WO_le (Le.adoptE (u := 7) 7 Z (by first | exact lenN | exact Z)) ?_
  refine nZ Z (eZ Z (oN (tN (sQ (sQ (rG (eZ Z (evE ?_))))))))
  refine eZ Z (oN (tN (W_block ?_)))
  refine lK (α := Int × List T) [3, 8, 9] [101] (fun x => [(10, .t (.int (x.1)))]) (fun x => [(7, .L 4 (x.2))]) (fun x => 0 ≤ (x.1) ∧ (x.1) ≤ l.length ∧ (x.2) = (l.take (x.1).toNat).map Act.toT ++ (toldA C).drop (x.1).toNat) (fun x => Int.toNat (l.length - (x.1))) (0, toldA C) ?_ (fun x hx => ?_)
  · exact ⟨by omega, by omega, rfl⟩
  obtain ⟨k, zs⟩ := x
  obtain ⟨hk0, hk1, hzs⟩ := hx
  dsimp only at hk0 hk1 hzs ⊢
  refine nY Z (sQ (rG (eZ Z (oN (tN (sQ ?_))))))
  refine W_cond Z (fun h1 => ?_) (fun h1 => ?_)
  ·
    simp only [HS] at h1
    refine W_skip (tN (sQ (W_block (sQ (rG (eZ Z ?_))))))
    have hkl : k.toNat < C.length := by omega
    have hlk : k.toNat < l.length := by omega
    obtain ⟨v0, v1, v2, v3, hv⟩ : ∃ v0 v1 v2 v3, (C[k.toNat]'hkl).2 = [v0, v1, v2, v3] := by
     have h4 := hC2 _ (List.getElem_mem hkl)
     match (C[k.toNat]'hkl).2, h4 with
     | [v0, v1, v2, v3], _ => exact ⟨_, _, _, _, rfl⟩
    have hy : zs[0 + k.toNat]? = some (.agg [.v v0, .v v1, .v v2, .v v3]) := by rw [hzs, mixA_at (by omega), toldA, List.getElem?_map, List.getElem?_eq_getElem hkl]; simp [hv]
    have hcv : ∀ j (hj : j < 4), (C.flatMap (·.2))[k.toNat * 4 + j]? = [v0, v1, v2, v3][j]? := fun j hj => by rw [snd_at hC2 hkl hj, hv]
    have hct : ∀ j (hj : j < 4), ((l.map Act.toT).flatMap T.cells)[k.toNat * 4 + j]? = (T.cells (l[k.toNat]).tt)[j]? := fun j hj => by rw [flat_atc (cellsA l) (mapAt' (List.getElem?_eq_getElem hlk)) hj, Act.toT_eq]
    refine WO_roTold 101 (k.toNat * 4 + 0) Z (x := .int .i64 (l[k.toNat]).kind) (by rw [hct 0 (by decide)]; rfl) (hcv 0 (by decide)) (fun e0 => ?_)
    refine WO_roTold 101 (k.toNat * 4 + 1) Z (x := .int .i64 (l[k.toNat]).chan) (by rw [hct 1 (by decide)]; rfl) (hcv 1 (by decide)) (fun e1 => ?_)
    refine WO_roTold 101 (k.toNat * 4 + 2) Z (x := .int .i64 (l[k.toNat]).n) (by rw [hct 2 (by decide)]; rfl) (hcv 2 (by decide)) (fun e2 => ?_)
    subst e0 e1 e2
    refine WO_idxS tys Z Z (lt_of Z) Z Z Z Z Z Z Z Z (by omega) (by omega) (WO_loadL tys Z Z (lt_of Z) Z Z Z Z (hy) Z (nZ Z (WO_alloc tys Z Z (lt_of Z) Z Z Z (nZ Z (eZ Z (sT Z (nZ Z (oN (tN (kY [3,4,5,8,9,10,11,12,13,14] Z (rG (eK 4 Z (nZ Z (WO_le (Le.roUntell (u := 18) 101 (k.toNat * 4 + 3) Z Z (hcv 3 (by decide)) (by rw [hct 3 (by decide)]; rfl)) ?_))))))))))))))
    refine nZ Z (callB ?_)
    refine ⟨_, ih _ (List.getElem_mem (show k.toNat < l.length by omega)), rfl, ?_⟩
    refine nZ Z (WO_idxS tys Z Z (lt_of Z) Z Z Z Z Z Z Z Z (by omega) (by omega) (eZ Z (WO_storeL tys [T.Acts (l[k.toNat]).cases] Z Z Z Z Z Z hy Z (AbsL.own' AbsL.nil') Z (Nat.le_of_ble_eq_true Z) (Nat.le_of_ble_eq_true Z) (nZ Z (oN (bN (tN (kY [3,4,5,8,9,10,11,12,13,14,15,16,17,18,19,20,21] Z (rG (evI ?_))))))))))
    refine eZ Z (oN ?_)
    refine lQ (_, _) ?_ ?_
    · dsimp only
      rw [show (k + 1).toNat = k.toNat + 1 from by omega]
      refine ⟨by omega, by omega, ?_⟩
      rw [hzs]
      exact mixA_set hlk (by rw [toldA_len]; exact hkl) (Act.toT_eq _).symm
    · (show Int.toNat _ < Int.toNat _); omega
  simp only [HS] at h1
  refine W_exit (tE (loopQ_e (inBlk_y (tN (sQ (rG (eK 2 Z (oN (tN (W_le (Le.gather (u := 2) (id := 7) Z Z (by rw [hzs]; simp [toldA_len]; omega)) ?_))))))))))
  refine rT (eR ?_)
  · (rw [hzs, List.drop_eq_nil_of_le (by rw [toldA_len]; omega), List.append_nil, take_end (by omega), List.take_of_length_le (by simp; omega)])
    all_goals rfl
theorem cloneActs_of (a : Act) : a.ok 1048576 → Fun Try.prog 101 [.t (T.Acts a.cases)] (tupD [.own (T.Acts a.cases)]) :=
 Act.ind (p := fun a => a.ok 1048576 → Fun Try.prog 101 [.t (T.Acts a.cases)] (tupD [.own (T.Acts a.cases)])) (fun a ih h => cloneActs_rec a.cases h.cases'.1 fun b hb => ih b hb (h.cases'.2 b hb)) a
theorem cloneActs_fun (l : List Act) (h : okL 1048576 (Act.ok 1048576) l) : Fun Try.prog 101 [.t (T.Acts l)] (tupD [.own (T.Acts l)]) :=
 cloneActs_rec l h.1 fun a ha => cloneActs_of a (h.2 a ha)
open Go.Eng
abbrev TC := (Option Addr × Nat) × Task
def tcW (c : TC) : List Value := [.slice c.1.1 c.2.acts.length c.1.2, .int .i64 c.2.pos, .int .i64 c.2.state, .int .i64 c.2.last]
def tcT (c : TC) : List T := [T.Acts c.2.acts, T.int c.2.pos, T.int c.2.state, T.int c.2.last]
def tcsW (C : List TC) : List Value := C.flatMap tcW
def tcsT (C : List TC) : List T := C.flatMap tcT
section
variable {α : Type} {f : (Option Addr × Nat) × Task → List α} {C : List ((Option Addr × Nat) × Task)} {c c' : (Option Addr × Nat) × Task} {i j : Nat} {y : α}
theorem tcs_at (hf : ∀ c, (f c).length = 4) : ∀ {C : List TC} {i : Nat}, C[i]? = some c → j < 4 → (C.flatMap f)[i * 4 + j]? = (f c)[j]?
 | [], _, h, _ => by simp at h
 | d :: C, 0, h, hj => by
  simp at h; subst h
  rw [List.flatMap_cons, Nat.zero_mul, Nat.zero_add, List.getElem?_append_left (by rw [hf]; exact hj)]
 | d :: C, i + 1, h, hj => by
  rw [List.flatMap_cons, List.getElem?_append_right (by rw [hf]; omega), hf, show (i + 1) * 4 + j - 4 = i * 4 + j from by omega]
  exact tcs_at hf (by simpa using h) hj
theorem tcs_set (hf : ∀ c, (f c).length = 4) (hy : f c' = (f c).set j y) : ∀ {C : List TC} {i : Nat}, C[i]? = some c → j < 4 → (C.flatMap f).set (i * 4 + j) y = (C.set i c').flatMap f
 | [], _, h, _ => by simp at h
 | d :: C, 0, h, hj => by
  simp at h; subst h
  rw [List.flatMap_cons, Nat.zero_mul, Nat.zero_add, List.set_append_left _ _ (by rw [hf]; exact hj), List.set_cons_zero, List.flatMap_cons, hy]
 | d :: C, i + 1, h, hj => by
  rw [List.flatMap_cons, List.set_append_right _ _ (by rw [hf]; omega), hf, show (i + 1) * 4 + j - 4 = i * 4 + j from by omega, tcs_set hf hy (by simpa using h) hj, List.set_cons_succ, List.flatMap_cons]
theorem tcW_at (hc : C[i]? = some c) (hj : j < 4) : (tcsW C)[i * 4 + j]? = (tcW c)[j]? := tcs_at (fun _ => rfl) hc hj
theorem tcT_at (hc : C[i]? = some c) (hj : j < 4) : (tcsT C)[i * 4 + j]? = (tcT c)[j]? := tcs_at (fun _ => rfl) hc hj
theorem tcW_set {u : Value} (hc : C[i]? = some c) (hj : j < 4) (h : tcW c' = (tcW c).set j u) : (tcsW C).set (i * 4 + j) u = tcsW (C.set i c') := tcs_set (fun _ => rfl) h hc hj
theorem tcT_set {u : T} (hc : C[i]? = some c) (hj : j < 4) (h : tcT c' = (tcT c).set j u) : (tcsT C).set (i * 4 + j) u = tcsT (C.set i c') := tcs_set (fun _ => rfl) h hc hj
theorem tc_mid (hc : C[i]? = some c) : (C.set i c')[i]? = some c' := by
 rw [List.getElem?_set_self (List.getElem?_eq_some_iff.1 hc).1]
theorem tcs_to {b sz : Nat} {k : Nat} {u : Value} (hc : C[i]? = some c) (hj : k < 4) (h1 : tcW c' = (tcW c).set k u) (h2 : tcT c' = (tcT c).set k (T.v u)) :
  Blk.raw b sz ((tcsW C).set (i * 4 + k) u) ((tcsT C).set (i * 4 + k) (T.v u)) = .raw b sz (tcsW (C.set i c')) (tcsT (C.set i c')) := by
 rw [tcW_set hc hj h1, tcT_set hc hj h2]
end
theorem advI_fun (b sz i : Nat) (C : List TC) (h : Option Addr × Nat) (t : Task) (hc : C[i]? = some (h, t)) (hp : 0 ≤ t.pos ∧ t.pos ≤ 1048576) (hl : t.acts.length ≤ 1048576) : Proc Try.prog 106 [.t (.v (.pointer (some ⟨b, i * 4, none⟩)))] ([]) ([]) [.raw b sz (tcsW C) (tcsT C)] (.tup []) [.raw b sz (tcsW (C.set i (h, advT t))) (tcsT (C.set i (h, advT t)))] := by
 refine Proc.intro tys Try.func106 Z Z (N := 22) [100] 99 ([(0, .t (.v (.pointer (some ⟨b, i * 4, none⟩))))]) ([(100, .raw b sz (tcsW C) (tcsT C)), (99, .ro [] [])]) Z Z Z Z (by decide) (by decide) Z (fun w0 G F0 => ?_)
 refine nY Z (sQ (rG (eZ Z (WO_nil' rfl Z (lt_of Z) Z Z Z (WO_fieldV tys Z Z (lt_of Z) Z Z Z Z Z (WO_loadU (id := 100) (u := .int .i64 t.pos) tys Z Z (lt_of Z) Z Z Z Z Z (tcT_at hc (by decide)) (tcW_at hc (by decide)) (evI ?_)))))))
 refine WO_nil' rfl Z (lt_of Z) Z Z Z (WO_fieldV tys Z Z (lt_of Z) Z Z Z Z Z (WO_storeV (id := 100) (u0 := .int .i64 t.pos) (u := .int .i64 (t.pos + 1)) tys Z Z Z Z Z Z Z (tcT_at hc (by decide)) Z Z Z (nZ Z (WO_le (Le.eqK (id := 100) Z (tcs_to (c' := (h, { t with pos := t.pos + 1 })) hc (by decide) Z Z)) ?_))))
 have hc1 : (C.set i (h, { t with pos := t.pos + 1 }))[i]? = some (h, { t with pos := t.pos + 1 }) := tc_mid hc
 refine nZ Z (oN (tN (sQ (kY [0] Z (W_regionD mixed (by kernel_rfl) (evQ ?_))))))
 refine QL_nil' rfl Z (lt_of Z) Z Z Z (QL_fieldV tys Z Z (lt_of Z) Z Z Z Z Z (QL_loadU (id := 100) (u := .int .i64 (t.pos + 1)) tys Z Z (lt_of Z) Z Z Z Z Z (tcT_at hc1 (by decide)) (tcW_at hc1 (by decide)) (evQ ?_)))
 refine QL_nil' rfl Z (lt_of Z) Z Z Z (QL_norm Z (QL_fieldV tys Z Z (lt_of Z) Z Z Z Z Z (QL_loadU (id := 100) (u := .slice h.1 t.acts.length h.2) tys Z Z (lt_of Z) Z Z Z Z Z (tcT_at hc1 (by decide)) (tcW_at hc1 (by decide)) (QL_lenV Z Z (lt_of Z) Z ⟨98, by kernel_rfl⟩ rfl (evQ ?_)))))
 refine QL_nil (tN ?_)
 refine W_cond Z (fun h1 => ?_) (fun h1 => ?_)
 ·
  simp only [HS] at h1
  refine rG (eZ Z (WO_nil' rfl Z (lt_of Z) Z Z Z (WO_fieldV tys Z Z (lt_of Z) Z Z Z Z Z (WO_storeV (id := 100) (u0 := .int .i64 t.state) (u := .int .i64 1) tys Z Z Z Z Z Z Z (tcT_at hc1 (by decide)) Z Z Z (nZ Z (WO_le (Le.eqK (id := 100) Z (tcs_to (c' := (h, { t with pos := t.pos + 1, state := 1 })) hc1 (by decide) Z Z)) (nZ Z (oN ?_))))))))
  refine EndsP_of (ks := [_]) (.inl Z) (ret_okF Z) (by decide) Z (noR_spec Z) (by repeat (first | exact trivial | refine ⟨rfl, rfl, ?_⟩)) ?_ ?_
  ·rfl
  ·rw [List.set_set, advT, if_pos h1]
   done
 simp only [HS] at h1
 refine W_skip ?_
 refine EndsP_of (ks := [_]) (.inl Z) (ret_okF Z) (by decide) Z (noR_spec Z) (by repeat (first | exact trivial | refine ⟨rfl, rfl, ?_⟩)) ?_ ?_
 ·rfl
 ·rw [advT, if_neg h1]
  done
end Go.Proofs.Ytbkamkmmljbedaa
