/- Marks of worlds. -/
import Derived.Test.YtbkamkmmljbedaaFr
import Derived.Test.YtbkamkmmljbedaaFw
import Derived.Test.YtbkamkmmljbedaaMc
set_option linter.unusedVariables false
set_option linter.unusedSimpArgs false
set_option maxRecDepth 10000
set_option maxHeartbeats 1000000
namespace Go.Proofs.Ytbkamkmmljbedaa
open Go.Eng

/-- Marks that are truths. -/
def mkB {α : Type} : List α → Int → List Bool
  | [], _ => []
  | _ :: l, k => decide (k.tmod 3 = 0) :: mkB l (k + 1)
theorem mkB_len {α : Type} : ∀ (l : List α) (k : Int), (mkB l k).length = l.length
  | [], _ => rfl
  | _ :: l, k => by rw [mkB, List.length_cons, mkB_len l, List.length_cons]

theorem markBoolS_nil (k : Int) : Fun Try.prog 59 [.t (.list 1 []), .t (.int k)] (tupD [.t (.int k)]) := by
  refine Fun.begin tys Try.func59 rfl rfl (N := 21) [(0, .t (.list 1 [])), (1, .t (.int k))] rfl rfl (fun w0 G F0 => ?_)
  refine W_seq ?_
  refine W_region ?_
  refine ev ?_
  refine WO_nil ?_
  refine thenQ_n ?_
  iterate 2 (refine W_seq ?_)
  refine W_region ?_
  refine ev ?_
  refine WO_nil ?_
  refine thenQ_n ?_
  refine W_block ?_
  refine W_loopK (α := Int) [0, 1] [] (fun (x : Int) => [(5, .t (.int x))]) (fun (x : Int) => []) (fun (x : Int) => 0 ≤ x) (fun (x : Int) => Int.toNat (0)) 0 ?_ ?_ ?_ (fun z hx => ?_)
  · repeat (first | exact Sub.nil' | refine Sub.cons' rfl ?_ )
  · repeat (first | exact SubM.nil' | refine SubM.cons' rfl ?_ )
  · exact Int.le_refl 0
  have hz := hx
  refine W_norm rfl ?_
  iterate 2 (refine W_seq ?_)
  refine W_region ?_
  refine ev ?_
  refine ev ?_
  refine evE ?_
  refine ev ?_
  refine WO_nil ?_
  refine thenQ_n ?_
  refine W_cond rfl (fun h1 => ?_) (fun h1 => ?_)
  ·
    try simp only [HS] at h1
    exfalso; simp at h1; omega
  try simp only [HS] at h1
  refine W_exit ?_
  refine thenQ_e ?_
  refine loopQ_e ?_
  refine inBlk_y ?_
  refine thenQ_n ?_
  refine W_seq ?_
  refine W_region ?_
  refine ev ?_
  refine ev ?_
  refine WO_nil ?_
  refine thenQ_n ?_
  refine W_ret ?_
  refine Ends_of (.inr rfl) (ret_okF rfl) (by decide) rfl ?_
  · rfl

theorem markBoolS_m (l : List Bool) (k : Int) (hk : 0 ≤ k) (hb : k + l.length ≤ 1073741824) : MarkF Try.prog 59 (.list 1 (l.map T.bool)) (k) (k + l.length) (.list 1 ((mkB l k).map T.bool)) := by
  refine MarkF.slice Try.func59 rfl rfl (N := 21) rfl (fun y hy => (by obtain ⟨a, _, rfl⟩ := List.mem_map.1 hy; rfl) ) ( by simp [mkB_len]) (fun h => by cases l with | nil => (rw [show k + (([] : List Bool).length : Int) = k from by simp]; exact markBoolS_nil k) | cons _ _ => simp at h) (fun b cap vs w0 G F0 => ?_)
  refine W_seq ?_
  refine W_region ?_
  refine ev ?_
  refine WO_nil ?_
  refine thenQ_n ?_
  iterate 2 (refine W_seq ?_)
  refine W_region ?_
  refine ev ?_
  refine WO_nil ?_
  refine thenQ_n ?_
  refine W_block ?_
  refine W_loopK (α := Int × Int × List Value × List T) [0] [] (fun (x : Int × Int × List Value × List T) => [(5, .t (.int (x.1))), (1, .t (.int (x.2.1)))]) (fun (x : Int × Int × List Value × List T) => [(21, .raw b (cap * 1) (x.2.2.1) (x.2.2.2))]) (fun (x : Int × Int × List Value × List T) => 0 ≤ (x.1) ∧ (x.1) ≤ l.length ∧ (x.2.1) = k + (x.1) ∧ ∃ done : List Bool, done.length = (x.1).toNat ∧ (x.2.2.2) = (done ++ l.drop (x.1).toNat).map T.bool ∧ mkB l k = done ++ mkB (l.drop (x.1).toNat) (x.2.1)) (fun (x : Int × Int × List Value × List T) => Int.toNat (l.length - (x.1))) (0, k, vs, (l.map T.bool).flatMap T.cells) ?_ ?_ ?_ (fun x hx => ?_)
  · repeat (first | exact Sub.nil' | refine Sub.cons' rfl ?_ )
  · repeat (first | exact SubM.nil' | refine SubM.cons' rfl ?_ )
  · exact ⟨by omega, by omega, by show k = k + 0; omega, [], rfl, by rw [flat_one fun _ => rfl]; rfl, rfl⟩
  obtain ⟨i, k', vs', ts⟩ := x
  obtain ⟨hi0, hi1, hk', done, hd, hts, he⟩ := hx
  try dsimp only at hi0 hi1 hk' hd hts he ⊢
  refine W_norm rfl ?_
  iterate 2 (refine W_seq ?_)
  refine W_region ?_
  refine ev ?_
  refine ev ?_
  refine WO_lenV rfl rfl (lt_of rfl) rfl ⟨4, by kernel_rfl⟩ rfl ?_
  refine ev ?_
  refine WO_nil ?_
  refine thenQ_n ?_
  refine W_cond rfl (fun h1 => ?_) (fun h1 => ?_)
  ·
    try simp only [HS] at h1
    refine W_skip ?_
    refine thenQ_n ?_
    refine W_seq ?_
    refine W_block ?_
    refine W_seq ?_
    refine W_region ?_
    iterate 3 (refine ev ?_)
    refine WO_rem rfl rfl (lt_of rfl) rfl rfl rfl (by first | decide | omega) ?_
    refine ev ?_
    refine WO_keep [0, 1, 5, 6, 7, 8, 9, 12, 13, 14, 15, 16] rfl ?_
    refine WO_idxV tys rfl rfl (lt_of rfl) rfl rfl rfl rfl rfl rfl (by omega) (by first | omega | (simp only [List.length_map]; omega)) ?_
    refine WO_storeV tys (id := 21) rfl rfl rfl rfl rfl rfl rfl (by rw [hts]; exact cell1 hd hi0 (by omega)) rfl rfl rfl ?_
    refine WO_norm rfl ?_
    refine WO_nil ?_
    refine thenQ_n ?_
    refine W_region ?_
    refine ev ?_
    refine evI ?_
    refine ev ?_
    refine WO_nil ?_
    refine inBlk_n ?_
    refine thenQ_n ?_
    refine W_region ?_
    refine ev ?_
    refine evI ?_
    refine ev ?_
    refine WO_nil ?_
    refine loopQ_n (_, _, _, _) (by (try dsimp only); repeat (first | exact Sub.nil' | refine Sub.cons' rfl ?_ )) (by (try dsimp only); repeat (first | exact SubM.nil' | refine SubM.cons' rfl ?_ )) ?_ ?_
    · try dsimp only
      exact ⟨by omega, by omega, by omega, done ++ [decide (k'.tmod 3 = 0)], by simp [hd]; omega, by rw [hts]; exact set1 (g := T.bool) hd hi0 h1 (decide (k'.tmod 3 = 0)), by rw [he, drop_at hi0 h1, mkB]; simp⟩
    · (show Int.toNat _ < Int.toNat _); omega
  try simp only [HS] at h1
  refine W_exit ?_
  refine thenQ_e ?_
  refine loopQ_e ?_
  refine inBlk_y ?_
  refine thenQ_n ?_
  refine W_seq ?_
  refine W_region ?_
  refine ev ?_
  refine ev ?_
  refine WO_nil ?_
  refine thenQ_n ?_
  refine W_ret ?_
  refine EndsM_slice (.inr rfl) rfl rfl rfl ?_ ?_
  · omega
  · rw [hts, drop_end h1, he, drop_end h1, flat_one fun _ => rfl]; rfl

theorem mkB_at {α : Type} : ∀ (l : List α) (k : Int) (n : Nat) (h : n < (mkB l k).length), (mkB l k)[n] = decide ((k + n).tmod 3 = 0)
  | [], _, n, h => by simp [mkB] at h
  | _ :: l, k, 0, h => by simp [mkB]
  | _ :: l, k, n + 1, h => by
    simp only [mkB, List.getElem_cons_succ]
    rw [mkB_at l (k + 1) n]
    rw [show k + 1 + (n : Int) = k + ((n + 1 : Nat) : Int) from by omega]

theorem heldBoolS_mk (l : List Bool) (k : Int) (hk : 0 ≤ k) (hb : k + l.length ≤ 1073741824) : Fun Try.prog 62 [.t (T.bools (mkB l k)), .t (.int k)] (tupD [.t (.int (k + l.length))]) := by
  have hml := mkB_len l k
  refine Fun.begin tys Try.func62 rfl rfl (N := 23) [(0, .t (T.bools (mkB l k))), (1, .t (.int k))] rfl rfl (fun w0 G F0 => ?_)
  refine W_seq ?_
  refine W_region ?_
  refine ev ?_
  refine WO_nil ?_
  refine thenQ_n ?_
  iterate 2 (refine W_seq ?_)
  refine W_region ?_
  refine ev ?_
  refine WO_nil ?_
  refine thenQ_n ?_
  refine W_block ?_
  refine W_loopK (α := Int × Int) [0] [] (fun (x : Int × Int) => [(5, .t (.int (x.1))), (1, .t (.int (x.2)))]) (fun (x : Int × Int) => []) (fun (x : Int × Int) => 0 ≤ (x.1) ∧ (x.1) ≤ l.length ∧ (x.2) = k + (x.1)) (fun (x : Int × Int) => Int.toNat (l.length - (x.1))) (0, k) ?_ ?_ ?_ (fun x hx => ?_)
  · repeat (first | exact Sub.nil' | refine Sub.cons' rfl ?_ )
  · repeat (first | exact SubM.nil' | refine SubM.cons' rfl ?_ )
  · exact ⟨by omega, by omega, by show k = k + 0; omega⟩
  obtain ⟨i, k'⟩ := x
  obtain ⟨hi0, hi1, hk'⟩ := hx
  try dsimp only at hi0 hi1 hk' ⊢
  refine W_norm rfl ?_
  iterate 2 (refine W_seq ?_)
  refine W_region ?_
  refine ev ?_
  refine ev ?_
  refine evE ?_
  refine ev ?_
  refine WO_nil ?_
  refine thenQ_n ?_
  refine W_cond rfl (fun h1 => ?_) (fun h1 => ?_)
  ·
    try simp only [HS] at h1
    refine W_skip ?_
    refine thenQ_n ?_
    refine W_seq ?_
    refine W_block ?_
    iterate 2 (refine W_seq ?_)
    refine W_region ?_
    refine ev ?_
    refine ev ?_
    first | refine WO_idxT tys rfl rfl (lt_of rfl) rfl rfl rfl rfl rfl rfl rfl (by omega) _ (getT _ _ (by omega) (by omega)) ?_ | refine WO_idxS tys rfl rfl (lt_of rfl) rfl rfl rfl rfl rfl rfl rfl rfl (by omega) (by omega) ?_
    first | refine ev ?_ | refine WO_loadL tys rfl rfl (lt_of rfl) rfl rfl rfl rfl (getT _ _ (by omega) (by omega)) rfl ?_ | refine WO_loadL tys rfl rfl (lt_of rfl) rfl rfl rfl rfl (getT0 _ _ (by omega) (by omega)) rfl ?_
    refine ev ?_
    refine WO_keep [0, 1, 5, 6, 7, 8, 9, 12, 13, 14, 15, 16] rfl ?_
    refine WO_rem rfl rfl (lt_of rfl) rfl rfl rfl (by first | decide | omega) ?_
    refine ev ?_
    refine ev ?_
    refine WO_le (Le.known (t := 19) false rfl (by rw [mkB_at]; rw [show k + ((i.toNat : Nat) : Int) = k' from by omega]; simp)) ?_
    refine WO_nil ?_
    refine thenQ_n ?_
    refine W_condF rfl ?_
    refine W_skip ?_
    refine thenQ_n ?_
    refine W_region ?_
    refine ev ?_
    refine evI ?_
    refine ev ?_
    refine WO_nil ?_
    refine inBlk_n ?_
    refine thenQ_n ?_
    refine W_region ?_
    refine ev ?_
    refine evI ?_
    refine ev ?_
    refine WO_keep [0, 1, 5, 6, 7, 8, 9, 10, 11, 12, 13, 14, 15, 16, 17, 18, 19, 20, 21] rfl ?_
    refine WO_nil ?_
    refine loopQ_n (_, _) (by (try dsimp only); repeat (first | exact Sub.nil' | refine Sub.cons' rfl ?_ )) (by (try dsimp only); repeat (first | exact SubM.nil' | refine SubM.cons' rfl ?_ )) ?_ ?_
    · try dsimp only
      exact ⟨by omega, by omega, by omega⟩
    · (show Int.toNat _ < Int.toNat _); omega
  try simp only [HS] at h1
  refine W_exit ?_
  refine thenQ_e ?_
  refine loopQ_e ?_
  refine inBlk_y ?_
  refine thenQ_n ?_
  refine W_seq ?_
  refine W_region ?_
  refine ev ?_
  refine ev ?_
  refine WO_nil ?_
  refine thenQ_n ?_
  refine W_ret ?_
  refine Ends_of (.inr rfl) (ret_okF rfl) (by decide) rfl ?_
  · refine congrArg (fun n => [D.t (T.int n)]) ?_; omega

mutual
def ctAct : Act → Int
  | .mk _ _ _ l => 1 + 1 + 1 + ctActG l
def ctActG : List Act → Int
  | [] => 0
  | a :: l => ctAct a + ctActG l
end
theorem ctActG_eq : ∀ l, ctActG l = ctL ctAct l
  | [] => by simp [ctActG, ctL]
  | a :: l => by rw [ctActG, ctL_cons, ctActG_eq l]
theorem ctAct_eq (a : Act) : ctAct a = 1 + 1 + 1 + ctL ctAct a.cases := by
  cases a with
  | mk k c n l => rw [ctAct, ctActG_eq]; rfl
mutual
def mkAct : Act → Int → Act
  | .mk _ _ _ l, k => .mk k (k + 1) (k + 1 + 1) (mkActG l (k + 1 + 1 + 1))
def mkActG : List Act → Int → List Act
  | [], _ => []
  | a :: l, k => mkAct a k :: mkActG l (k + ctAct a)
end
theorem mkActG_eq : ∀ l k, mkActG l k = mkL mkAct ctAct l k
  | [], k => by simp [mkActG, mkL]
  | a :: l, k => by rw [mkActG, mkL, mkActG_eq l]
theorem mkAct_eq (a : Act) (k : Int) : mkAct a k = .mk k (k + 1) (k + 1 + 1) (mkL mkAct ctAct a.cases (k + 1 + 1 + 1)) := by
  cases a with
  | mk k c n l => rw [mkAct, mkActG_eq]; rfl
theorem ctAct_pos (a : Act) : 1 ≤ ctAct a := Act.ind (p := fun a => 1 ≤ ctAct a) (fun a ih => by
  rw [ctAct_eq]
  have : 0 ≤ ctL ctAct a.cases := by
    unfold ctL
    have key : ∀ l : List Act, (∀ x, x ∈ l → 1 ≤ ctAct x) → 0 ≤ (l.map ctAct).sum := by
      intro l
      induction l with
      | nil => intro _; simp
      | cons x l ih => intro h; have := h x (List.mem_cons_self ..); have := ih fun y hy => h y (List.mem_cons_of_mem _ hy); rw [List.map_cons, List.sum_cons]; omega
    exact key _ ih
  omega) a
def Act.cl (x : Act) : List T := (Act.tt x).cells
theorem Act.cl_len (x : Act) : x.cl.length = 4 := rfl
theorem mkAct_cl (x : Act) (k : Int) : (mkAct x k).cl = [T.int k, T.int (k + 1), T.int (k + 1 + 1), .list 4 ((mkL mkAct ctAct x.cases (k + 1 + 1 + 1)).map Act.toT)] := by rw [mkAct_eq]; rfl
theorem actFlat : ∀ l : List Act, (l.map Act.toT).flatMap T.cells = l.flatMap Act.cl
  | [] => rfl
  | a :: l => by rw [List.map_cons, List.flatMap_cons, List.flatMap_cons, actFlat l, Act.toT_eq]; rfl
def Act.mtt (x : Act) (k : Int) : T := .agg [T.int k, T.int (k + 1), T.int (k + 1 + 1), .list 4 ((mkL mkAct ctAct x.cases (k + 1 + 1 + 1)).map Act.toT)]
theorem getMkA {l : List Act} {k k' i : Int} (hk : k' = k + ctL ctAct (l.take i.toNat)) (h0 : 0 ≤ i) (h1 : i.toNat < l.length) : ((mkL mkAct ctAct l k).map Act.toT)[i.toNat]? = some ((l[i.toNat]).mtt k') := by
  rw [getMk Act.toT mkAct ctAct hk h0 h1, Act.toT_eq, mkAct_eq]; rfl

theorem markActS_nil (k : Int) : Fun Try.prog 58 [.t (.list 4 []), .t (.int k)] (tupD [.t (.int k)]) := by
  refine Fun.begin tys Try.func58 rfl rfl (N := 41) [(0, .t (.list 4 [])), (1, .t (.int k))] rfl rfl (fun w0 G F0 => ?_)
  refine W_seq ?_
  refine W_region ?_
  refine ev ?_
  refine WO_nil ?_
  refine thenQ_n ?_
  iterate 2 (refine W_seq ?_)
  refine W_region ?_
  refine ev ?_
  refine WO_nil ?_
  refine thenQ_n ?_
  refine W_block ?_
  refine W_loopK (α := Int) [0, 1] [] (fun (x : Int) => [(5, .t (.int x))]) (fun (x : Int) => []) (fun (x : Int) => 0 ≤ x) (fun (x : Int) => Int.toNat (0)) 0 ?_ ?_ ?_ (fun z hx => ?_)
  · repeat (first | exact Sub.nil' | refine Sub.cons' rfl ?_ )
  · repeat (first | exact SubM.nil' | refine SubM.cons' rfl ?_ )
  · exact Int.le_refl 0
  have hz := hx
  refine W_norm rfl ?_
  iterate 2 (refine W_seq ?_)
  refine W_region ?_
  refine ev ?_
  refine ev ?_
  refine evE ?_
  refine ev ?_
  refine WO_nil ?_
  refine thenQ_n ?_
  refine W_cond rfl (fun h1 => ?_) (fun h1 => ?_)
  ·
    try simp only [HS] at h1
    exfalso; simp at h1; omega
  try simp only [HS] at h1
  refine W_exit ?_
  refine thenQ_e ?_
  refine loopQ_e ?_
  refine inBlk_y ?_
  refine thenQ_n ?_
  refine W_seq ?_
  refine W_region ?_
  refine ev ?_
  refine ev ?_
  refine WO_nil ?_
  refine thenQ_n ?_
  refine W_ret ?_
  refine Ends_of (.inr rfl) (ret_okF rfl) (by decide) rfl ?_
  · rfl

theorem markActS_m0 (l : List Act) (k : Int) (hk : 0 ≤ k) (hb : k + ctL ctAct l ≤ 1073741824) (hf : ∀ y, y ∈ l → ∀ k : Int, 0 ≤ k → k + ctL ctAct y.cases ≤ 1073741824 → MarkF Try.prog 58 (T.Acts y.cases) k (k + ctL ctAct y.cases) (T.Acts (mkL mkAct ctAct y.cases k))) : MarkF Try.prog 58 (.list 4 (l.map Act.toT)) (k) (k + ctL ctAct l) (.list 4 ((mkL mkAct ctAct l k).map Act.toT)) := by
  have hlen := ctL_len ctAct_pos l
  refine MarkF.slice Try.func58 rfl rfl (N := 41) rfl (fun y hy => (by obtain ⟨a, _, rfl⟩ := List.mem_map.1 hy; rw [Act.toT_eq]; rfl) ) ( by simp [mkL_len]) (fun h => by cases l with | nil => (rw [show k + ctL ctAct [] = k from by simp [ctL]]; exact markActS_nil k) | cons _ _ => simp at h) (fun b cap vs w0 G F0 => ?_)
  refine W_seq ?_
  refine W_region ?_
  refine ev ?_
  refine WO_nil ?_
  refine thenQ_n ?_
  iterate 2 (refine W_seq ?_)
  refine W_region ?_
  refine ev ?_
  refine WO_nil ?_
  refine thenQ_n ?_
  refine W_block ?_
  refine W_loopK (α := Int × Int × List Value × List T) [0] [] (fun (x : Int × Int × List Value × List T) => [(5, .t (.int (x.1))), (1, .t (.int (x.2.1)))]) (fun (x : Int × Int × List Value × List T) => [(41, .raw b (cap * 4) (x.2.2.1) (x.2.2.2))]) (fun (x : Int × Int × List Value × List T) => 0 ≤ (x.1) ∧ (x.1) ≤ l.length ∧ k ≤ (x.2.1) ∧ (x.2.1) + ctL ctAct (l.drop (x.1).toNat) = k + ctL ctAct l ∧ ∃ done : List Act, done.length = (x.1).toNat ∧ (x.2.2.2) = done.flatMap Act.cl ++ (l.drop (x.1).toNat).flatMap Act.cl ∧ mkL mkAct ctAct l k = done ++ mkL mkAct ctAct (l.drop (x.1).toNat) (x.2.1)) (fun (x : Int × Int × List Value × List T) => Int.toNat (l.length - (x.1))) (0, k, vs, (l.map Act.toT).flatMap T.cells) ?_ ?_ ?_ (fun x hx => ?_)
  · repeat (first | exact Sub.nil' | refine Sub.cons' rfl ?_ )
  · repeat (first | exact SubM.nil' | refine SubM.cons' rfl ?_ )
  · exact ⟨by omega, by omega, Int.le_refl k, rfl, [], rfl, actFlat l, rfl⟩
  obtain ⟨i, k', vs', ts⟩ := x
  obtain ⟨hi0, hi1, hkk, hk', done, hd, hts, he⟩ := hx
  try dsimp only at hi0 hi1 hkk hk' hd hts he ⊢
  refine W_norm rfl ?_
  iterate 2 (refine W_seq ?_)
  refine W_region ?_
  refine ev ?_
  refine ev ?_
  refine WO_lenV rfl rfl (lt_of rfl) rfl ⟨98, by kernel_rfl⟩ rfl ?_
  refine ev ?_
  refine WO_nil ?_
  refine thenQ_n ?_
  refine W_cond rfl (fun h1 => ?_) (fun h1 => ?_)
  ·
    try simp only [HS] at h1
    refine W_skip ?_
    refine thenQ_n ?_
    refine W_seq ?_
    refine W_block ?_
    refine W_seq ?_
    refine W_region ?_
    have hD := flat_lens Act.cl_len done hd
    have hca := ctL_at ctAct hi0 h1
    have hcx := ctAct_eq (l[i.toNat]'(by omega))
    have hcr := ctL_pos ctAct_pos (l.drop (i + 1).toNat)
    have p0 := ctL_pos ctAct_pos (l[i.toNat]'(by omega)).cases
    rw [drop_at hi0 h1, List.flatMap_cons] at hts
    subst hts
    iterate 3 (refine ev ?_)
    refine WO_idxV tys rfl rfl (lt_of rfl) rfl rfl rfl rfl rfl rfl (by omega) (by first | omega | (simp only [List.length_map]; omega)) ?_
    refine WO_fieldV tys rfl rfl (lt_of rfl) rfl rfl rfl rfl rfl ?_
    refine WO_keep [0, 1, 5, 6, 7, 8, 9, 12, 13, 14, 15, 16] rfl ?_
    refine WO_storeV tys (id := 41) rfl rfl rfl rfl rfl rfl rfl (by exact fgetE hD rfl) rfl rfl rfl ?_
    refine WO_norm rfl ?_
    refine WO_nil ?_
    refine thenQ_n ?_
    refine W_seq ?_
    refine W_region ?_
    refine ev ?_
    refine evI ?_
    refine ev ?_
    refine WO_nil ?_
    refine thenQ_n ?_
    refine W_seq ?_
    refine W_region ?_
    iterate 3 (refine ev ?_)
    refine WO_idxV tys rfl rfl (lt_of rfl) rfl rfl rfl rfl rfl rfl (by omega) (by first | omega | (simp only [List.length_map]; omega)) ?_
    refine WO_fieldV tys rfl rfl (lt_of rfl) rfl rfl rfl rfl rfl ?_
    refine WO_keep [0, 1, 5, 6, 7, 8, 9, 12, 13, 14, 15, 16, 17, 18, 19, 20, 21, 22, 23] rfl ?_
    refine WO_storeV tys (id := 41) rfl rfl rfl rfl rfl rfl rfl (by rw [fset hD]; exact fgetE hD rfl) rfl rfl rfl ?_
    refine WO_norm rfl ?_
    refine WO_nil ?_
    refine thenQ_n ?_
    refine W_seq ?_
    refine W_region ?_
    refine ev ?_
    refine evI ?_
    refine ev ?_
    refine WO_nil ?_
    refine thenQ_n ?_
    refine W_seq ?_
    refine W_region ?_
    iterate 3 (refine ev ?_)
    refine WO_idxV tys rfl rfl (lt_of rfl) rfl rfl rfl rfl rfl rfl (by omega) (by first | omega | (simp only [List.length_map]; omega)) ?_
    refine WO_fieldV tys rfl rfl (lt_of rfl) rfl rfl rfl rfl rfl ?_
    refine WO_keep [0, 1, 5, 6, 7, 8, 9, 12, 13, 14, 15, 16, 17, 18, 19, 20, 21, 22, 23, 24, 25, 26, 27, 28, 29, 30] rfl ?_
    refine WO_storeV tys (id := 41) rfl rfl rfl rfl rfl rfl rfl (by rw [fset hD, fset hD]; exact fgetE hD rfl) rfl rfl rfl ?_
    refine WO_norm rfl ?_
    refine WO_nil ?_
    refine thenQ_n ?_
    refine W_seq ?_
    refine W_region ?_
    refine ev ?_
    refine evI ?_
    refine ev ?_
    refine WO_nil ?_
    refine thenQ_n ?_
    refine W_region ?_
    refine ev ?_
    refine ev ?_
    refine WO_idxV tys rfl rfl (lt_of rfl) rfl rfl rfl rfl rfl rfl (by omega) (by first | omega | (simp only [List.length_map]; omega)) ?_
    refine WO_fieldV tys rfl rfl (lt_of rfl) rfl rfl rfl rfl rfl ?_
    refine WO_loadV tys (id := 41) rfl rfl (lt_of rfl) rfl rfl rfl rfl rfl (by rw [fset hD, fset hD, fset hD]; exact fgetE hD rfl) (fun u37 hu37 => ?_)
    refine WO_keep [0, 1, 5, 6, 7, 8, 9, 12, 13, 14, 15, 16, 17, 18, 19, 20, 21, 22, 23, 24, 25, 26, 27, 28, 29, 30, 31, 32, 33, 34, 35, 36, 37] rfl ?_
    refine ev ?_
    refine WO_markN (id := 41) (j := i.toNat * 4 + 3) rfl rfl (lt_of rfl) rfl rfl rfl rfl rfl rfl (hu37) (by rw [fset hD, fset hD, fset hD]; exact fgetE hD rfl) (hf _ (List.getElem_mem (l := l) (n := i.toNat) (by omega)) (k' + 1 + 1 + 1) (by omega) (by omega)) ?_
    refine ev ?_
    refine WO_nil ?_
    refine inBlk_n ?_
    refine thenQ_n ?_
    refine W_region ?_
    refine ev ?_
    refine evI ?_
    refine ev ?_
    refine WO_nil ?_
    refine loopQ_n (_, _, _, _) (by (try dsimp only); repeat (first | exact Sub.nil' | refine Sub.cons' rfl ?_ )) (by (try dsimp only); repeat (first | exact SubM.nil' | refine SubM.cons' rfl ?_ )) ?_ ?_
    · try dsimp only
      refine ⟨by omega, by omega, by omega, by omega, done ++ [mkAct (l[i.toNat]'(by omega)) k'], by simp [hd]; omega, ?_, ?_⟩
      · simp only [fset hD]
        rw [List.flatMap_append, List.append_assoc, List.flatMap_cons, mkAct_cl]
        rfl
      · rw [he, drop_at hi0 h1, mkL, List.append_assoc, show k' + ctAct (l[i.toNat]'(by omega)) = k' + 1 + 1 + 1 + ctL ctAct (l[i.toNat]'(by omega)).cases from by omega]
        rfl
    · (show Int.toNat _ < Int.toNat _); omega
  try simp only [HS] at h1
  refine W_exit ?_
  refine thenQ_e ?_
  refine loopQ_e ?_
  refine inBlk_y ?_
  refine thenQ_n ?_
  refine W_seq ?_
  refine W_region ?_
  refine ev ?_
  refine ev ?_
  refine WO_nil ?_
  refine thenQ_n ?_
  refine W_ret ?_
  refine EndsM_slice (.inr rfl) rfl rfl rfl ?_ ?_
  · rw [drop_end h1] at hk'; simp only [ctL_nil] at hk'; omega
  · rw [hts, drop_end h1, he, drop_end h1, actFlat, mkL, List.append_nil]; exact List.append_nil _

theorem heldActS_mk0 (l : List Act) (k : Int) (hk : 0 ≤ k) (hb : k + ctL ctAct l ≤ 1073741824) (hf : ∀ y, y ∈ l → ∀ k : Int, 0 ≤ k → k + ctL ctAct y.cases ≤ 1073741824 → Fun Try.prog 103 [.t (T.Acts (mkL mkAct ctAct y.cases k)), .t (.int k)] (.t (.int (k + ctL ctAct y.cases)))) : Fun Try.prog 103 [.t (T.Acts (mkL mkAct ctAct l k)), .t (.int k)] (tupD [.t (.int (k + ctL ctAct l))]) := by
  have hlen := ctL_len ctAct_pos l
  have hml := mkL_len mkAct ctAct l k
  refine Fun.begin tys Try.func103 rfl rfl (N := 49) [(0, .t (T.Acts (mkL mkAct ctAct l k))), (1, .t (.int k))] rfl rfl (fun w0 G F0 => ?_)
  refine W_seq ?_
  refine W_region ?_
  refine ev ?_
  refine WO_nil ?_
  refine thenQ_n ?_
  iterate 2 (refine W_seq ?_)
  refine W_region ?_
  refine ev ?_
  refine WO_nil ?_
  refine thenQ_n ?_
  refine W_block ?_
  refine W_loopK (α := Int × Int) [0] [] (fun (x : Int × Int) => [(5, .t (.int (x.1))), (1, .t (.int (x.2)))]) (fun (x : Int × Int) => []) (fun (x : Int × Int) => 0 ≤ (x.1) ∧ (x.1) ≤ l.length ∧ k ≤ (x.2) ∧ (x.2) + ctL ctAct (l.drop (x.1).toNat) = k + ctL ctAct l ∧ (x.2) = k + ctL ctAct (l.take (x.1).toNat)) (fun (x : Int × Int) => Int.toNat (l.length - (x.1))) (0, k) ?_ ?_ ?_ (fun x hx => ?_)
  · repeat (first | exact Sub.nil' | refine Sub.cons' rfl ?_ )
  · repeat (first | exact SubM.nil' | refine SubM.cons' rfl ?_ )
  · exact ⟨by omega, by omega, Int.le_refl k, rfl, by rw [show l.take (0 : Int).toNat = [] from rfl]; rw [ctL_nil]; omega⟩
  obtain ⟨i, k'⟩ := x
  obtain ⟨hi0, hi1, hkk, hk', hkt⟩ := hx
  try dsimp only at hi0 hi1 hkk hk' hkt ⊢
  refine W_norm rfl ?_
  iterate 2 (refine W_seq ?_)
  refine W_region ?_
  refine ev ?_
  refine ev ?_
  refine evE ?_
  refine ev ?_
  refine WO_nil ?_
  refine thenQ_n ?_
  refine W_cond rfl (fun h1 => ?_) (fun h1 => ?_)
  ·
    try simp only [HS] at h1
    refine W_skip ?_
    refine thenQ_n ?_
    refine W_seq ?_
    refine W_block ?_
    iterate 2 (refine W_seq ?_)
    refine W_region ?_
    have hca := ctL_at ctAct (l := l) hi0 (by omega)
    have hcx := ctAct_eq (l[i.toNat]'(by omega))
    have hcr := ctL_pos ctAct_pos (l.drop (i + 1).toNat)
    have p0 := ctL_pos ctAct_pos (l[i.toNat]'(by omega)).cases
    refine ev ?_
    refine ev ?_
    first | refine WO_idxT tys rfl rfl (lt_of rfl) rfl rfl rfl rfl rfl rfl rfl (by omega) _ (getMkA hkt (by omega) (by omega)) ?_ | refine WO_idxS tys rfl rfl (lt_of rfl) rfl rfl rfl rfl rfl rfl rfl rfl (by omega) (by omega) ?_
    refine ev ?_
    first | refine ev ?_ | refine WO_loadL tys rfl rfl (lt_of rfl) rfl rfl rfl rfl (getT _ _ (by omega) (by omega)) rfl ?_ | refine WO_loadL tys rfl rfl (lt_of rfl) rfl rfl rfl rfl (getT0 _ _ (by omega) (by omega)) rfl ?_
    refine WO_keep [0, 1, 5, 6, 7, 8, 9, 12, 13, 14, 15, 16] rfl ?_
    refine ev ?_
    refine ev ?_
    refine WO_le (Le.known (t := 18) false rfl (by simp)) ?_
    refine WO_nil ?_
    refine thenQ_n ?_
    refine W_condF rfl ?_
    refine W_skip ?_
    refine thenQ_n ?_
    refine W_seq ?_
    refine W_region ?_
    refine ev ?_
    refine evI ?_
    refine ev ?_
    refine WO_nil ?_
    refine thenQ_n ?_
    iterate 2 (refine W_seq ?_)
    refine W_region ?_
    refine ev ?_
    refine ev ?_
    first | refine WO_idxT tys rfl rfl (lt_of rfl) rfl rfl rfl rfl rfl rfl rfl (by omega) _ (getMkA hkt (by omega) (by omega)) ?_ | refine WO_idxS tys rfl rfl (lt_of rfl) rfl rfl rfl rfl rfl rfl rfl rfl (by omega) (by omega) ?_
    refine ev ?_
    refine WO_keep [0, 1, 5, 6, 7, 8, 9, 12, 13, 14, 15, 16, 17, 18, 19, 20, 21, 22, 23, 24] rfl ?_
    first | refine ev ?_ | refine WO_loadL tys rfl rfl (lt_of rfl) rfl rfl rfl rfl (getT _ _ (by omega) (by omega)) rfl ?_ | refine WO_loadL tys rfl rfl (lt_of rfl) rfl rfl rfl rfl (getT0 _ _ (by omega) (by omega)) rfl ?_
    refine ev ?_
    refine ev ?_
    refine WO_le (Le.known (t := 27) false rfl (by simp)) ?_
    refine WO_nil ?_
    refine thenQ_n ?_
    refine W_condF rfl ?_
    refine W_skip ?_
    refine thenQ_n ?_
    refine W_seq ?_
    refine W_region ?_
    refine ev ?_
    refine evI ?_
    refine ev ?_
    refine WO_nil ?_
    refine thenQ_n ?_
    iterate 2 (refine W_seq ?_)
    refine W_region ?_
    refine ev ?_
    refine ev ?_
    first | refine WO_idxT tys rfl rfl (lt_of rfl) rfl rfl rfl rfl rfl rfl rfl (by omega) _ (getMkA hkt (by omega) (by omega)) ?_ | refine WO_idxS tys rfl rfl (lt_of rfl) rfl rfl rfl rfl rfl rfl rfl rfl (by omega) (by omega) ?_
    refine WO_keep [0, 1, 5, 6, 7, 8, 9, 12, 13, 14, 15, 16, 17, 18, 19, 20, 21, 22, 23, 24, 25, 26, 27, 28, 29, 30, 31, 32] rfl ?_
    refine ev ?_
    first | refine ev ?_ | refine WO_loadL tys rfl rfl (lt_of rfl) rfl rfl rfl rfl (getT _ _ (by omega) (by omega)) rfl ?_ | refine WO_loadL tys rfl rfl (lt_of rfl) rfl rfl rfl rfl (getT0 _ _ (by omega) (by omega)) rfl ?_
    refine ev ?_
    refine ev ?_
    refine WO_le (Le.known (t := 36) false rfl (by simp)) ?_
    refine WO_nil ?_
    refine thenQ_n ?_
    refine W_condF rfl ?_
    refine W_skip ?_
    refine thenQ_n ?_
    refine W_seq ?_
    refine W_region ?_
    refine ev ?_
    refine evI ?_
    refine ev ?_
    refine WO_nil ?_
    refine thenQ_n ?_
    refine W_seq ?_
    refine W_keep [0, 1, 5, 6, 7, 8, 9, 12, 13, 14, 15, 16, 17, 18, 19, 20, 21, 22, 23, 24, 25, 26, 27, 28, 29, 30, 31, 32, 33, 34, 35, 36, 37, 38] rfl ?_
    refine W_region ?_
    refine ev ?_
    refine ev ?_
    first | refine WO_idxT tys rfl rfl (lt_of rfl) rfl rfl rfl rfl rfl rfl rfl (by omega) _ (getMkA hkt (by omega) (by omega)) ?_ | refine WO_idxS tys rfl rfl (lt_of rfl) rfl rfl rfl rfl rfl rfl rfl rfl (by omega) (by omega) ?_
    refine ev ?_
    first | refine ev ?_ | refine WO_loadL tys rfl rfl (lt_of rfl) rfl rfl rfl rfl (getT _ _ (by omega) (by omega)) rfl ?_ | refine WO_loadL tys rfl rfl (lt_of rfl) rfl rfl rfl rfl (getT0 _ _ (by omega) (by omega)) rfl ?_
    refine ev ?_
    refine callB ?_
    refine ⟨_, hf _ (List.getElem_mem (l := l) (n := i.toNat) (by omega)) (k' + 1 + 1 + 1) (by omega) (by omega), rfl, ?_⟩
    refine ev ?_
    refine WO_nil ?_
    refine thenQ_n ?_
    refine W_seq ?_
    refine W_keep [0, 1, 5, 6, 7, 8, 9, 12, 13, 14, 15, 16, 17, 18, 19, 20, 21, 22, 23, 24, 25, 26, 27, 28, 29, 30, 31, 32, 33, 34, 35, 36, 37, 38, 39, 40, 41, 42, 43, 44, 45] rfl ?_
    refine W_region ?_
    refine ev ?_
    refine ev ?_
    refine WO_le (Le.known (t := 47) false rfl (by first | (simp; done) | (simp; omega))) ?_
    refine WO_nil ?_
    refine thenQ_n ?_
    refine W_condF rfl ?_
    refine W_skip ?_
    refine inBlk_n ?_
    refine thenQ_n ?_
    refine W_region ?_
    refine ev ?_
    refine evI ?_
    refine ev ?_
    refine WO_nil ?_
    refine loopQ_n (_, _) (by (try dsimp only); repeat (first | exact Sub.nil' | refine Sub.cons' rfl ?_ )) (by (try dsimp only); repeat (first | exact SubM.nil' | refine SubM.cons' rfl ?_ )) ?_ ?_
    · try dsimp only
      refine ⟨by omega, by omega, by omega, by omega, ?_⟩
      rw [ctL_take ctAct hi0 (by omega)]
      omega
    · (show Int.toNat _ < Int.toNat _); omega
  try simp only [HS] at h1
  refine W_exit ?_
  refine thenQ_e ?_
  refine loopQ_e ?_
  refine inBlk_y ?_
  refine thenQ_n ?_
  refine W_seq ?_
  refine W_region ?_
  refine ev ?_
  refine ev ?_
  refine WO_nil ?_
  refine thenQ_n ?_
  refine W_ret ?_
  refine Ends_of (.inr rfl) (ret_okF rfl) (by decide) rfl ?_
  · rw [drop_end (by omega)] at hk'; simp only [ctL_nil] at hk'; refine congrArg (fun n => [D.t (T.int n)]) ?_; omega

theorem markActS_c (x : Act) (k : Int) (hk : 0 ≤ k) (hb : k + ctL ctAct x.cases ≤ 1073741824) : MarkF Try.prog 58 (T.Acts x.cases) k (k + ctL ctAct x.cases) (T.Acts (mkL mkAct ctAct x.cases k)) :=
  Act.ind (p := fun x => ∀ k : Int, 0 ≤ k → k + ctL ctAct x.cases ≤ 1073741824 → MarkF Try.prog 58 (T.Acts x.cases) k (k + ctL ctAct x.cases) (T.Acts (mkL mkAct ctAct x.cases k)))
    (fun x ih k hk hb => markActS_m0 x.cases k hk hb ih) x k hk hb
theorem markActS_m (l : List Act) (k : Int) (hk : 0 ≤ k) (hb : k + ctL ctAct l ≤ 1073741824) : MarkF Try.prog 58 (T.Acts l) k (k + ctL ctAct l) (T.Acts (mkL mkAct ctAct l k)) := markActS_c (.mk 0 0 0 l) k hk hb
theorem heldActS_c (x : Act) (k : Int) (hk : 0 ≤ k) (hb : k + ctL ctAct x.cases ≤ 1073741824) : Fun Try.prog 103 [.t (T.Acts (mkL mkAct ctAct x.cases k)), .t (.int k)] (.t (.int (k + ctL ctAct x.cases))) :=
  Act.ind (p := fun x => ∀ k : Int, 0 ≤ k → k + ctL ctAct x.cases ≤ 1073741824 → Fun Try.prog 103 [.t (T.Acts (mkL mkAct ctAct x.cases k)), .t (.int k)] (.t (.int (k + ctL ctAct x.cases))))
    (fun x ih k hk hb => heldActS_mk0 x.cases k hk hb ih) x k hk hb
theorem heldActS_mk (l : List Act) (k : Int) (hk : 0 ≤ k) (hb : k + ctL ctAct l ≤ 1073741824) : Fun Try.prog 103 [.t (T.Acts (mkL mkAct ctAct l k)), .t (.int k)] (.t (.int (k + ctL ctAct l))) := heldActS_c (.mk 0 0 0 l) k hk hb

def mkTask (x : Task) (k : Int) : Task := ⟨mkL mkAct ctAct x.acts (k), k + ctL ctAct x.acts, k + ctL ctAct x.acts + 1, k + ctL ctAct x.acts + 1 + 1⟩
def ctTask (x : Task) : Int := ctL ctAct x.acts + 1 + 1 + 1
theorem ctTask_pos (x : Task) : 1 ≤ ctTask x := by
  have p0 := ctL_pos ctAct_pos x.acts
  unfold ctTask; omega
def Task.cl (x : Task) : List T := (Task.tt x).cells
theorem Task.cl_len (x : Task) : x.cl.length = 4 := rfl

theorem markTaskS_nil (k : Int) : Fun Try.prog 60 [.t (.list 4 []), .t (.int k)] (tupD [.t (.int k)]) := by
  refine Fun.begin tys Try.func60 rfl rfl (N := 41) [(0, .t (.list 4 [])), (1, .t (.int k))] rfl rfl (fun w0 G F0 => ?_)
  refine W_seq ?_
  refine W_region ?_
  refine ev ?_
  refine WO_nil ?_
  refine thenQ_n ?_
  iterate 2 (refine W_seq ?_)
  refine W_region ?_
  refine ev ?_
  refine WO_nil ?_
  refine thenQ_n ?_
  refine W_block ?_
  refine W_loopK (α := Int) [0, 1] [] (fun (x : Int) => [(5, .t (.int x))]) (fun (x : Int) => []) (fun (x : Int) => 0 ≤ x) (fun (x : Int) => Int.toNat (0)) 0 ?_ ?_ ?_ (fun z hx => ?_)
  · repeat (first | exact Sub.nil' | refine Sub.cons' rfl ?_ )
  · repeat (first | exact SubM.nil' | refine SubM.cons' rfl ?_ )
  · exact Int.le_refl 0
  have hz := hx
  refine W_norm rfl ?_
  iterate 2 (refine W_seq ?_)
  refine W_region ?_
  refine ev ?_
  refine ev ?_
  refine evE ?_
  refine ev ?_
  refine WO_nil ?_
  refine thenQ_n ?_
  refine W_cond rfl (fun h1 => ?_) (fun h1 => ?_)
  ·
    try simp only [HS] at h1
    exfalso; simp at h1; omega
  try simp only [HS] at h1
  refine W_exit ?_
  refine thenQ_e ?_
  refine loopQ_e ?_
  refine inBlk_y ?_
  refine thenQ_n ?_
  refine W_seq ?_
  refine W_region ?_
  refine ev ?_
  refine ev ?_
  refine WO_nil ?_
  refine thenQ_n ?_
  refine W_ret ?_
  refine Ends_of (.inr rfl) (ret_okF rfl) (by decide) rfl ?_
  · rfl

theorem markTaskS_m (l : List Task) (k : Int) (hk : 0 ≤ k) (hb : k + ctL ctTask l ≤ 1073741824) : MarkF Try.prog 60 (.list 4 (l.map Task.tt)) (k) (k + ctL ctTask l) (.list 4 ((mkL mkTask ctTask l k).map Task.tt)) := by
  have hlen := ctL_len ctTask_pos l
  refine MarkF.slice Try.func60 rfl rfl (N := 41) rfl (fun y hy => (by obtain ⟨a, _, rfl⟩ := List.mem_map.1 hy; rfl) ) ( by simp [mkL_len]) (fun h => by cases l with | nil => (rw [show k + ctL ctTask [] = k from by simp [ctL]]; exact markTaskS_nil k) | cons _ _ => simp at h) (fun b cap vs w0 G F0 => ?_)
  refine W_seq ?_
  refine W_region ?_
  refine ev ?_
  refine WO_nil ?_
  refine thenQ_n ?_
  iterate 2 (refine W_seq ?_)
  refine W_region ?_
  refine ev ?_
  refine WO_nil ?_
  refine thenQ_n ?_
  refine W_block ?_
  refine W_loopK (α := Int × Int × List Value × List T) [0] [] (fun (x : Int × Int × List Value × List T) => [(5, .t (.int (x.1))), (1, .t (.int (x.2.1)))]) (fun (x : Int × Int × List Value × List T) => [(41, .raw b (cap * 4) (x.2.2.1) (x.2.2.2))]) (fun (x : Int × Int × List Value × List T) => 0 ≤ (x.1) ∧ (x.1) ≤ l.length ∧ k ≤ (x.2.1) ∧ (x.2.1) + ctL ctTask (l.drop (x.1).toNat) = k + ctL ctTask l ∧ ∃ done : List Task, done.length = (x.1).toNat ∧ (x.2.2.2) = done.flatMap Task.cl ++ (l.drop (x.1).toNat).flatMap Task.cl ∧ mkL mkTask ctTask l k = done ++ mkL mkTask ctTask (l.drop (x.1).toNat) (x.2.1)) (fun (x : Int × Int × List Value × List T) => Int.toNat (l.length - (x.1))) (0, k, vs, (l.map Task.tt).flatMap T.cells) ?_ ?_ ?_ (fun x hx => ?_)
  · repeat (first | exact Sub.nil' | refine Sub.cons' rfl ?_ )
  · repeat (first | exact SubM.nil' | refine SubM.cons' rfl ?_ )
  · exact ⟨by omega, by omega, Int.le_refl k, rfl, [], rfl, by rw [List.flatMap_map]; rfl, rfl⟩
  obtain ⟨i, k', vs', ts⟩ := x
  obtain ⟨hi0, hi1, hkk, hk', done, hd, hts, he⟩ := hx
  try dsimp only at hi0 hi1 hkk hk' hd hts he ⊢
  refine W_norm rfl ?_
  iterate 2 (refine W_seq ?_)
  refine W_region ?_
  refine ev ?_
  refine ev ?_
  refine WO_lenV rfl rfl (lt_of rfl) rfl ⟨72, by kernel_rfl⟩ rfl ?_
  refine ev ?_
  refine WO_nil ?_
  refine thenQ_n ?_
  refine W_cond rfl (fun h1 => ?_) (fun h1 => ?_)
  ·
    try simp only [HS] at h1
    refine W_skip ?_
    refine thenQ_n ?_
    refine W_seq ?_
    refine W_block ?_
    refine W_seq ?_
    refine W_region ?_
    have hD := flat_lens Task.cl_len done hd
    have hca := ctL_at ctTask hi0 h1
    have hcx : ctTask (l[i.toNat]'(by omega)) = ctTask (l[i.toNat]'(by omega)) := rfl
    conv at hcx => rhs; unfold ctTask
    have hcr := ctL_pos ctTask_pos (l.drop (i + 1).toNat)
    have p0 := ctL_pos ctAct_pos (l[i.toNat]'(by omega)).acts
    rw [drop_at hi0 h1, List.flatMap_cons] at hts
    subst hts
    refine ev ?_
    refine ev ?_
    refine WO_idxV tys rfl rfl (lt_of rfl) rfl rfl rfl rfl rfl rfl (by omega) (by first | omega | (simp only [List.length_map]; omega)) ?_
    refine WO_fieldV tys rfl rfl (lt_of rfl) rfl rfl rfl rfl rfl ?_
    refine WO_loadV tys (id := 41) rfl rfl (lt_of rfl) rfl rfl rfl rfl rfl (by exact fgetE hD rfl) (fun u16 hu16 => ?_)
    refine WO_keep [0, 1, 5, 6, 7, 8, 9, 12, 13, 14, 15, 16] rfl ?_
    refine ev ?_
    refine WO_markN (id := 41) (j := i.toNat * 4 + 0) rfl rfl (lt_of rfl) rfl rfl rfl rfl rfl rfl (hu16) (by exact fgetE hD rfl) (markActS_m (l[i.toNat]'(by omega)).acts (k') (by omega) (by omega)) ?_
    refine ev ?_
    refine WO_nil ?_
    refine thenQ_n ?_
    refine W_seq ?_
    refine W_region ?_
    iterate 3 (refine ev ?_)
    refine WO_idxV tys rfl rfl (lt_of rfl) rfl rfl rfl rfl rfl rfl (by omega) (by first | omega | (simp only [List.length_map]; omega)) ?_
    refine WO_fieldV tys rfl rfl (lt_of rfl) rfl rfl rfl rfl rfl ?_
    refine WO_storeV tys (id := 41) rfl rfl rfl rfl rfl rfl rfl (by rw [fset hD]; exact fgetE hD rfl) rfl rfl rfl ?_
    refine WO_norm rfl ?_
    refine WO_keep [0, 1, 5, 6, 7, 8, 9, 12, 13, 14, 15, 16, 17, 18, 19, 20, 21, 22, 23] rfl ?_
    refine WO_nil ?_
    refine thenQ_n ?_
    refine W_seq ?_
    refine W_region ?_
    refine ev ?_
    refine evI ?_
    refine ev ?_
    refine WO_nil ?_
    refine thenQ_n ?_
    refine W_seq ?_
    refine W_region ?_
    iterate 3 (refine ev ?_)
    refine WO_idxV tys rfl rfl (lt_of rfl) rfl rfl rfl rfl rfl rfl (by omega) (by first | omega | (simp only [List.length_map]; omega)) ?_
    refine WO_fieldV tys rfl rfl (lt_of rfl) rfl rfl rfl rfl rfl ?_
    refine WO_storeV tys (id := 41) rfl rfl rfl rfl rfl rfl rfl (by rw [fset hD, fset hD]; exact fgetE hD rfl) rfl rfl rfl ?_
    refine WO_norm rfl ?_
    refine WO_keep [0, 1, 5, 6, 7, 8, 9, 12, 13, 14, 15, 16, 17, 18, 19, 20, 21, 22, 23, 24, 25, 26, 27, 28, 29, 30] rfl ?_
    refine WO_nil ?_
    refine thenQ_n ?_
    refine W_seq ?_
    refine W_region ?_
    refine ev ?_
    refine evI ?_
    refine ev ?_
    refine WO_nil ?_
    refine thenQ_n ?_
    refine W_seq ?_
    refine W_region ?_
    iterate 3 (refine ev ?_)
    refine WO_idxV tys rfl rfl (lt_of rfl) rfl rfl rfl rfl rfl rfl (by omega) (by first | omega | (simp only [List.length_map]; omega)) ?_
    refine WO_fieldV tys rfl rfl (lt_of rfl) rfl rfl rfl rfl rfl ?_
    refine WO_storeV tys (id := 41) rfl rfl rfl rfl rfl rfl rfl (by rw [fset hD, fset hD, fset hD]; exact fgetE hD rfl) rfl rfl rfl ?_
    refine WO_norm rfl ?_
    refine WO_keep [0, 1, 5, 6, 7, 8, 9, 12, 13, 14, 15, 16, 17, 18, 19, 20, 21, 22, 23, 24, 25, 26, 27, 28, 29, 30, 31, 32, 33, 34, 35, 36, 37] rfl ?_
    refine WO_nil ?_
    refine thenQ_n ?_
    refine W_region ?_
    refine ev ?_
    refine evI ?_
    refine ev ?_
    refine WO_nil ?_
    refine inBlk_n ?_
    refine thenQ_n ?_
    refine W_region ?_
    refine ev ?_
    refine evI ?_
    refine ev ?_
    refine WO_nil ?_
    refine loopQ_n (_, _, _, _) (by (try dsimp only); repeat (first | exact Sub.nil' | refine Sub.cons' rfl ?_ )) (by (try dsimp only); repeat (first | exact SubM.nil' | refine SubM.cons' rfl ?_ )) ?_ ?_
    · try dsimp only
      refine ⟨by omega, by omega, by omega, by omega, done ++ [mkTask (l[i.toNat]'(by omega)) k'], by simp [hd]; omega, ?_, ?_⟩
      · simp only [fset hD]
        rw [List.flatMap_append, List.append_assoc]
        rfl
      · rw [he, drop_at hi0 h1, mkL, List.append_assoc, show k' + ctTask (l[i.toNat]'(by omega)) = k' + ctL ctAct (l[i.toNat]'(by omega)).acts + 1 + 1 + 1 from by omega]
        rfl
    · (show Int.toNat _ < Int.toNat _); omega
  try simp only [HS] at h1
  refine W_exit ?_
  refine thenQ_e ?_
  refine loopQ_e ?_
  refine inBlk_y ?_
  refine thenQ_n ?_
  refine W_seq ?_
  refine W_region ?_
  refine ev ?_
  refine ev ?_
  refine WO_nil ?_
  refine thenQ_n ?_
  refine W_ret ?_
  refine EndsM_slice (.inr rfl) rfl rfl rfl ?_ ?_
  · rw [drop_end h1] at hk'; simp only [ctL_nil] at hk'; omega
  · rw [hts, drop_end h1, he, drop_end h1, List.flatMap_map, mkL, List.append_nil]; exact List.append_nil _

theorem heldTaskS_mk (l : List Task) (k : Int) (hk : 0 ≤ k) (hb : k + ctL ctTask l ≤ 1073741824) : Fun Try.prog 63 [.t (T.Tasks (mkL mkTask ctTask l k)), .t (.int k)] (tupD [.t (.int (k + ctL ctTask l))]) := by
  have hlen := ctL_len ctTask_pos l
  have hml := mkL_len mkTask ctTask l k
  refine Fun.begin tys Try.func63 rfl rfl (N := 49) [(0, .t (T.Tasks (mkL mkTask ctTask l k))), (1, .t (.int k))] rfl rfl (fun w0 G F0 => ?_)
  refine W_seq ?_
  refine W_region ?_
  refine ev ?_
  refine WO_nil ?_
  refine thenQ_n ?_
  iterate 2 (refine W_seq ?_)
  refine W_region ?_
  refine ev ?_
  refine WO_nil ?_
  refine thenQ_n ?_
  refine W_block ?_
  refine W_loopK (α := Int × Int) [0] [] (fun (x : Int × Int) => [(5, .t (.int (x.1))), (1, .t (.int (x.2)))]) (fun (x : Int × Int) => []) (fun (x : Int × Int) => 0 ≤ (x.1) ∧ (x.1) ≤ l.length ∧ k ≤ (x.2) ∧ (x.2) + ctL ctTask (l.drop (x.1).toNat) = k + ctL ctTask l ∧ (x.2) = k + ctL ctTask (l.take (x.1).toNat)) (fun (x : Int × Int) => Int.toNat (l.length - (x.1))) (0, k) ?_ ?_ ?_ (fun x hx => ?_)
  · repeat (first | exact Sub.nil' | refine Sub.cons' rfl ?_ )
  · repeat (first | exact SubM.nil' | refine SubM.cons' rfl ?_ )
  · exact ⟨by omega, by omega, Int.le_refl k, rfl, by rw [show l.take (0 : Int).toNat = [] from rfl]; rw [ctL_nil]; omega⟩
  obtain ⟨i, k'⟩ := x
  obtain ⟨hi0, hi1, hkk, hk', hkt⟩ := hx
  try dsimp only at hi0 hi1 hkk hk' hkt ⊢
  refine W_norm rfl ?_
  iterate 2 (refine W_seq ?_)
  refine W_region ?_
  refine ev ?_
  refine ev ?_
  refine evE ?_
  refine ev ?_
  refine WO_nil ?_
  refine thenQ_n ?_
  refine W_cond rfl (fun h1 => ?_) (fun h1 => ?_)
  ·
    try simp only [HS] at h1
    refine W_skip ?_
    refine thenQ_n ?_
    refine W_seq ?_
    refine W_block ?_
    refine W_seq ?_
    refine W_region ?_
    have hca := ctL_at ctTask (l := l) hi0 (by omega)
    have hcx : ctTask (l[i.toNat]'(by omega)) = ctTask (l[i.toNat]'(by omega)) := rfl
    conv at hcx => rhs; unfold ctTask
    have hcr := ctL_pos ctTask_pos (l.drop (i + 1).toNat)
    have p0 := ctL_pos ctAct_pos (l[i.toNat]'(by omega)).acts
    refine ev ?_
    refine ev ?_
    first | refine WO_idxT tys rfl rfl (lt_of rfl) rfl rfl rfl rfl rfl rfl rfl (by omega) _ (getMk Task.tt mkTask ctTask hkt (by omega) (by omega)) ?_ | refine WO_idxS tys rfl rfl (lt_of rfl) rfl rfl rfl rfl rfl rfl rfl rfl (by omega) (by omega) ?_
    refine ev ?_
    first | refine ev ?_ | refine WO_loadL tys rfl rfl (lt_of rfl) rfl rfl rfl rfl (getT _ _ (by omega) (by omega)) rfl ?_ | refine WO_loadL tys rfl rfl (lt_of rfl) rfl rfl rfl rfl (getT0 _ _ (by omega) (by omega)) rfl ?_
    refine WO_keep [0, 1, 5, 6, 7, 8, 9, 12, 13, 14, 15, 16] rfl ?_
    refine ev ?_
    refine callB ?_
    refine ⟨_, heldActS_mk (l[i.toNat]'(by omega)).acts (k') (by omega) (by omega), rfl, ?_⟩
    refine ev ?_
    refine WO_nil ?_
    refine thenQ_n ?_
    iterate 2 (refine W_seq ?_)
    refine W_region ?_
    refine ev ?_
    refine ev ?_
    refine WO_le (Le.known (t := 20) false rfl (by first | (simp; done) | (simp; omega))) ?_
    refine WO_nil ?_
    refine thenQ_n ?_
    refine W_condF rfl ?_
    refine W_skip ?_
    refine thenQ_n ?_
    iterate 2 (refine W_seq ?_)
    refine W_region ?_
    refine ev ?_
    refine ev ?_
    first | refine WO_idxT tys rfl rfl (lt_of rfl) rfl rfl rfl rfl rfl rfl rfl (by omega) _ (getMk Task.tt mkTask ctTask hkt (by omega) (by omega)) ?_ | refine WO_idxS tys rfl rfl (lt_of rfl) rfl rfl rfl rfl rfl rfl rfl rfl (by omega) (by omega) ?_
    refine ev ?_
    refine WO_keep [0, 1, 5, 6, 7, 8, 9, 12, 13, 14, 15, 16, 17, 18, 19, 20, 21, 22, 23, 24] rfl ?_
    first | refine ev ?_ | refine WO_loadL tys rfl rfl (lt_of rfl) rfl rfl rfl rfl (getT _ _ (by omega) (by omega)) rfl ?_ | refine WO_loadL tys rfl rfl (lt_of rfl) rfl rfl rfl rfl (getT0 _ _ (by omega) (by omega)) rfl ?_
    refine ev ?_
    refine ev ?_
    refine WO_le (Le.known (t := 27) false rfl (by simp [mkTask])) ?_
    refine WO_nil ?_
    refine thenQ_n ?_
    refine W_condF rfl ?_
    refine W_skip ?_
    refine thenQ_n ?_
    refine W_seq ?_
    refine W_region ?_
    refine ev ?_
    refine evI ?_
    refine ev ?_
    refine WO_nil ?_
    refine thenQ_n ?_
    iterate 2 (refine W_seq ?_)
    refine W_region ?_
    refine ev ?_
    refine ev ?_
    first | refine WO_idxT tys rfl rfl (lt_of rfl) rfl rfl rfl rfl rfl rfl rfl (by omega) _ (getMk Task.tt mkTask ctTask hkt (by omega) (by omega)) ?_ | refine WO_idxS tys rfl rfl (lt_of rfl) rfl rfl rfl rfl rfl rfl rfl rfl (by omega) (by omega) ?_
    refine WO_keep [0, 1, 5, 6, 7, 8, 9, 12, 13, 14, 15, 16, 17, 18, 19, 20, 21, 22, 23, 24, 25, 26, 27, 28, 29, 30, 31, 32] rfl ?_
    refine ev ?_
    first | refine ev ?_ | refine WO_loadL tys rfl rfl (lt_of rfl) rfl rfl rfl rfl (getT _ _ (by omega) (by omega)) rfl ?_ | refine WO_loadL tys rfl rfl (lt_of rfl) rfl rfl rfl rfl (getT0 _ _ (by omega) (by omega)) rfl ?_
    refine ev ?_
    refine ev ?_
    refine WO_le (Le.known (t := 36) false rfl (by simp [mkTask])) ?_
    refine WO_nil ?_
    refine thenQ_n ?_
    refine W_condF rfl ?_
    refine W_skip ?_
    refine thenQ_n ?_
    refine W_seq ?_
    refine W_region ?_
    refine ev ?_
    refine evI ?_
    refine ev ?_
    refine WO_nil ?_
    refine thenQ_n ?_
    iterate 2 (refine W_seq ?_)
    refine W_keep [0, 1, 5, 6, 7, 8, 9, 12, 13, 14, 15, 16, 17, 18, 19, 20, 21, 22, 23, 24, 25, 26, 27, 28, 29, 30, 31, 32, 33, 34, 35, 36, 37, 38] rfl ?_
    refine W_region ?_
    refine ev ?_
    refine ev ?_
    first | refine WO_idxT tys rfl rfl (lt_of rfl) rfl rfl rfl rfl rfl rfl rfl (by omega) _ (getMk Task.tt mkTask ctTask hkt (by omega) (by omega)) ?_ | refine WO_idxS tys rfl rfl (lt_of rfl) rfl rfl rfl rfl rfl rfl rfl rfl (by omega) (by omega) ?_
    refine ev ?_
    first | refine ev ?_ | refine WO_loadL tys rfl rfl (lt_of rfl) rfl rfl rfl rfl (getT _ _ (by omega) (by omega)) rfl ?_ | refine WO_loadL tys rfl rfl (lt_of rfl) rfl rfl rfl rfl (getT0 _ _ (by omega) (by omega)) rfl ?_
    refine ev ?_
    refine ev ?_
    refine WO_le (Le.known (t := 45) false rfl (by simp [mkTask])) ?_
    refine WO_nil ?_
    refine thenQ_n ?_
    refine W_condF rfl ?_
    refine W_skip ?_
    refine thenQ_n ?_
    refine W_keep [0, 1, 5, 6, 7, 8, 9, 12, 13, 14, 15, 16, 17, 18, 19, 20, 21, 22, 23, 24, 25, 26, 27, 28, 29, 30, 31, 32, 33, 34, 35, 36, 37, 38, 39, 40, 41, 42, 43, 44, 45] rfl ?_
    refine W_region ?_
    refine ev ?_
    refine evI ?_
    refine ev ?_
    refine WO_nil ?_
    refine inBlk_n ?_
    refine thenQ_n ?_
    refine W_region ?_
    refine ev ?_
    refine evI ?_
    refine ev ?_
    refine WO_nil ?_
    refine loopQ_n (_, _) (by (try dsimp only); repeat (first | exact Sub.nil' | refine Sub.cons' rfl ?_ )) (by (try dsimp only); repeat (first | exact SubM.nil' | refine SubM.cons' rfl ?_ )) ?_ ?_
    · try dsimp only
      refine ⟨by omega, by omega, by omega, by omega, ?_⟩
      rw [ctL_take ctTask hi0 (by omega)]
      omega
    · (show Int.toNat _ < Int.toNat _); omega
  try simp only [HS] at h1
  refine W_exit ?_
  refine thenQ_e ?_
  refine loopQ_e ?_
  refine inBlk_y ?_
  refine thenQ_n ?_
  refine W_seq ?_
  refine W_region ?_
  refine ev ?_
  refine ev ?_
  refine WO_nil ?_
  refine thenQ_n ?_
  refine W_ret ?_
  refine Ends_of (.inr rfl) (ret_okF rfl) (by decide) rfl ?_
  · rw [drop_end (by omega)] at hk'; simp only [ctL_nil] at hk'; refine congrArg (fun n => [D.t (T.int n)]) ?_; omega

def mkWorld (x : World) (k : Int) : World := ⟨mkI x.room (k), mkSS x.held (k + (x.room.length : Int)), mkB x.shut (k + (x.room.length : Int) + (x.held.flatten.length : Int)), mkL mkTask ctTask x.tasks (k + (x.room.length : Int) + (x.held.flatten.length : Int) + (x.shut.length : Int)), mkI x.trace (k + (x.room.length : Int) + (x.held.flatten.length : Int) + (x.shut.length : Int) + ctL ctTask x.tasks)⟩
def ctWorld (x : World) : Int := (x.room.length : Int) + (x.held.flatten.length : Int) + (x.shut.length : Int) + ctL ctTask x.tasks + (x.trace.length : Int)
theorem ctWorld_pos (x : World) : 0 ≤ ctWorld x := by
  have p3 := ctL_pos ctTask_pos x.tasks
  unfold ctWorld; omega
theorem markWorld_m (x : World) (k : Int) (hk : 0 ≤ k) (hb : k + ctWorld x ≤ 1073741824) (hl_held : x.held.length ≤ 1073741824) : MarkF Try.prog 25 (.agg ([T.ints x.room, intss x.held, T.bools x.shut, T.Tasks x.tasks, T.ints x.trace])) (k) (k + ctWorld x) (.agg ([T.ints (mkI x.room (k)), intss (mkSS x.held (k + (x.room.length : Int))), T.bools (mkB x.shut (k + (x.room.length : Int) + (x.held.flatten.length : Int))), T.Tasks (mkL mkTask ctTask x.tasks (k + (x.room.length : Int) + (x.held.flatten.length : Int) + (x.shut.length : Int))), T.ints (mkI x.trace (k + (x.room.length : Int) + (x.held.flatten.length : Int) + (x.shut.length : Int) + ctL ctTask x.tasks))])) := by
  have hb2 := hb
  unfold ctWorld at hb2
  have p0 := ctL_pos ctTask_pos x.tasks
  refine MarkF.struct Try.func25 rfl rfl (N := 26) rfl (fun vs hvs hone w0 G F0 => ?_)
  obtain ⟨a0, a1, a2, a3, a4, rfl⟩ : ∃ a0 a1 a2 a3 a4, vs = [a0, a1, a2, a3, a4] := by
    match vs, hvs with
    | [a0, a1, a2, a3, a4], _ => exact ⟨_, _, _, _, _, rfl⟩
  refine W_seq ?_
  refine W_region ?_
  refine WO_box rfl rfl (lt_of rfl) rfl rfl ?_
  refine WO_norm rfl ?_
  refine ev ?_
  refine WO_nil ?_
  refine thenQ_n ?_
  refine W_seq ?_
  refine W_region ?_
  iterate 3 (refine ev ?_)
  refine WO_markN (id := 26) (j := 0) rfl rfl (lt_of rfl) rfl rfl rfl rfl rfl rfl (rfl) (rfl) (markIntS_m x.room (k) (by omega) (by omega)) ?_
  refine ev ?_
  refine WO_nil ?_
  refine thenQ_n ?_
  refine W_seq ?_
  refine W_keep [1, 2, 4] rfl ?_
  refine W_region ?_
  iterate 3 (refine ev ?_)
  refine WO_markN (id := 26) (j := 1) rfl rfl (lt_of rfl) rfl rfl rfl rfl rfl rfl (rfl) (rfl) (markIntSS_m x.held (k + (x.room.length : Int)) (by omega) (by omega) (by omega)) ?_
  refine ev ?_
  refine WO_nil ?_
  refine thenQ_n ?_
  refine W_seq ?_
  refine W_region ?_
  iterate 3 (refine ev ?_)
  refine WO_markN (id := 26) (j := 2) rfl rfl (lt_of rfl) rfl rfl rfl rfl rfl rfl (rfl) (rfl) (markBoolS_m x.shut (k + (x.room.length : Int) + (x.held.flatten.length : Int)) (by omega) (by omega)) ?_
  refine WO_keep [1, 2, 4, 16] rfl ?_
  refine ev ?_
  refine WO_nil ?_
  refine thenQ_n ?_
  refine W_seq ?_
  refine W_region ?_
  iterate 3 (refine ev ?_)
  refine WO_markN (id := 26) (j := 3) rfl rfl (lt_of rfl) rfl rfl rfl rfl rfl rfl (rfl) (rfl) (markTaskS_m x.tasks (k + (x.room.length : Int) + (x.held.flatten.length : Int) + (x.shut.length : Int)) (by omega) (by omega)) ?_
  refine ev ?_
  refine WO_nil ?_
  refine thenQ_n ?_
  refine W_seq ?_
  refine W_region ?_
  iterate 3 (refine ev ?_)
  refine WO_keep [1, 4, 22, 23] rfl ?_
  refine WO_markN (id := 26) (j := 4) rfl rfl (lt_of rfl) rfl rfl rfl rfl rfl rfl (rfl) (rfl) (markIntS_m x.trace (k + (x.room.length : Int) + (x.held.flatten.length : Int) + (x.shut.length : Int) + ctL ctTask x.tasks) (by omega) (by omega)) ?_
  refine ev ?_
  refine WO_nil ?_
  refine thenQ_n ?_
  refine W_seq ?_
  refine W_region ?_
  refine ev ?_
  refine ev ?_
  refine WO_nil ?_
  refine thenQ_n ?_
  refine W_ret ?_
  refine EndsM_struct (.inr rfl) rfl rfl rfl ?_ ?_
  · unfold ctWorld; omega
  · rfl

theorem heldWorld_mk (x : World) (k : Int) (hk : 0 ≤ k) (hb : k + ctWorld x ≤ 1073741824) (hl_held : x.held.length ≤ 1073741824) : Fun Try.prog 26 [.t (mkWorld x k).tt, .t (.int k)] (tupD [.t (.int (k + ctWorld x))]) := by
  have hb2 := hb
  unfold ctWorld at hb2
  have p0 := ctL_pos ctTask_pos x.tasks
  refine Fun.begin tys Try.func26 rfl rfl (N := 36) [(0, .t (mkWorld x k).tt), (1, .t (.int k))] rfl rfl (fun w0 G F0 => ?_)
  refine W_seq ?_
  refine W_region ?_
  refine WO_box rfl rfl (lt_of rfl) rfl rfl ?_
  refine WO_norm rfl ?_
  refine ev ?_
  refine WO_nil ?_
  refine thenQ_n ?_
  refine W_seq ?_
  refine W_region ?_
  iterate 3 (refine ev ?_)
  refine callB ?_
  refine ⟨_, heldIntS_mk x.room (k) (by omega) (by omega), rfl, ?_⟩
  refine ev ?_
  refine WO_nil ?_
  refine thenQ_n ?_
  iterate 2 (refine W_seq ?_)
  refine W_keep [1, 2, 4] rfl ?_
  refine W_region ?_
  refine ev ?_
  refine ev ?_
  refine WO_le (Le.known (t := 10) false rfl (by first | (simp; done) | (simp; omega))) ?_
  refine WO_nil ?_
  refine thenQ_n ?_
  refine W_condF rfl ?_
  refine W_skip ?_
  refine thenQ_n ?_
  refine W_seq ?_
  refine W_region ?_
  iterate 3 (refine ev ?_)
  refine callB ?_
  refine ⟨_, heldIntSS_mk x.held (k + (x.room.length : Int)) (by omega) (by omega) (by omega), rfl, ?_⟩
  refine ev ?_
  refine WO_nil ?_
  refine thenQ_n ?_
  iterate 2 (refine W_seq ?_)
  refine W_keep [1, 2, 4] rfl ?_
  refine W_region ?_
  refine ev ?_
  refine ev ?_
  refine WO_le (Le.known (t := 16) false rfl (by first | (simp; done) | (simp; omega))) ?_
  refine WO_nil ?_
  refine thenQ_n ?_
  refine W_condF rfl ?_
  refine W_skip ?_
  refine thenQ_n ?_
  refine W_seq ?_
  refine W_region ?_
  iterate 3 (refine ev ?_)
  refine callB ?_
  refine ⟨_, heldBoolS_mk x.shut (k + (x.room.length : Int) + (x.held.flatten.length : Int)) (by omega) (by omega), rfl, ?_⟩
  refine ev ?_
  refine WO_nil ?_
  refine thenQ_n ?_
  iterate 2 (refine W_seq ?_)
  refine W_keep [1, 2, 4] rfl ?_
  refine W_region ?_
  refine ev ?_
  refine ev ?_
  refine WO_le (Le.known (t := 22) false rfl (by first | (simp; done) | (simp; omega))) ?_
  refine WO_nil ?_
  refine thenQ_n ?_
  refine W_condF rfl ?_
  refine W_skip ?_
  refine thenQ_n ?_
  refine W_seq ?_
  refine W_region ?_
  iterate 3 (refine ev ?_)
  refine callB ?_
  refine ⟨_, heldTaskS_mk x.tasks (k + (x.room.length : Int) + (x.held.flatten.length : Int) + (x.shut.length : Int)) (by omega) (by omega), rfl, ?_⟩
  refine ev ?_
  refine WO_nil ?_
  refine thenQ_n ?_
  iterate 2 (refine W_seq ?_)
  refine W_keep [1, 2, 4] rfl ?_
  refine W_region ?_
  refine ev ?_
  refine ev ?_
  refine WO_le (Le.known (t := 28) false rfl (by first | (simp; done) | (simp; omega))) ?_
  refine WO_nil ?_
  refine thenQ_n ?_
  refine W_condF rfl ?_
  refine W_skip ?_
  refine thenQ_n ?_
  refine W_seq ?_
  refine W_region ?_
  iterate 3 (refine ev ?_)
  refine callB ?_
  refine ⟨_, heldIntS_mk x.trace (k + (x.room.length : Int) + (x.held.flatten.length : Int) + (x.shut.length : Int) + ctL ctTask x.tasks) (by omega) (by omega), rfl, ?_⟩
  refine ev ?_
  refine WO_nil ?_
  refine thenQ_n ?_
  iterate 2 (refine W_seq ?_)
  refine W_keep [1, 4] rfl ?_
  refine W_region ?_
  refine ev ?_
  refine ev ?_
  refine WO_le (Le.known (t := 34) false rfl (by first | (simp; done) | (simp; omega))) ?_
  refine WO_nil ?_
  refine thenQ_n ?_
  refine W_condF rfl ?_
  refine W_skip ?_
  refine thenQ_n ?_
  refine W_seq ?_
  refine W_region ?_
  refine ev ?_
  refine ev ?_
  refine WO_nil ?_
  refine thenQ_n ?_
  refine W_ret ?_
  refine Ends_of (.inr rfl) (ret_okF rfl) (by decide) rfl ?_
  · refine congrArg (fun n => [D.t (T.int n)]) ?_; unfold ctWorld; omega


theorem szGo_cnt' : ∀ (l : List (List Int)) (left : Int), 0 ≤ left → 0 ≤ szGo (fun x => szN x.length) l left → l.flatten.length + szGo (fun x => szN x.length) l left ≤ left
  | [], left, _, _ => by simp [szGo]
  | x :: l, left, h0, h => by
    rw [szGo] at h ⊢
    split at h
    · omega
    · rename_i h1
      rw [if_neg h1]
      have h2 := szGo_cnt' l _ (by omega) h
      have h3 : szN x.length left = left - x.length := by unfold szN at h1 ⊢; split <;> first | rfl | (rename_i h4; rw [if_pos h4] at h1; omega)
      rw [h3] at h2 ⊢
      rw [List.flatten_cons, List.length_append]
      omega
theorem szIntSS_c (l : List (List Int)) : SzC (szIntSS l) l.flatten.length := by
  intro left h0 h
  unfold szIntSS szL at h ⊢
  split at h
  · omega
  · rename_i h1
    rw [if_neg h1]
    have := szGo_cnt' l _ (by omega) h
    omega
theorem szAct_c (x : Act) : SzC (szAct x) (ctAct x - 8) := Act.ind (p := fun x => SzC (szAct x) (ctAct x - 8)) (fun x ih => by
  have h := (szSeq_cs (szL_cm x.cases ih) szSeq_cn).mono (d := ctAct x - 8) (by rw [ctAct_eq]; omega)
  intro left h0 hg
  rw [szAct_eq] at hg ⊢
  exact h left h0 hg) x
theorem szTask_c (x : Task) : SzC (szTask x) (ctTask x - 8) :=
  (szSeq_cs (szL_c szAct_c x.acts) szSeq_cn).mono (by unfold ctTask; omega)
theorem szWorld_c (x : World) : SzC (szWorld x) (ctWorld x) :=
  (szSeq_cs (szIntS_c x.room) (szSeq_cs (szIntSS_c x.held) (szSeq_cs (szLen_c x.shut) (szSeq_cs (szL_c szTask_c x.tasks) (szSeq_cs (szIntS_c x.trace) szSeq_cn))))).mono (by unfold ctWorld; omega)
theorem ctWorld_small {w : World} (h : 0 ≤ szWorld w 1048576) : ctWorld w ≤ 8388608 := by
  have := szWorld_c w 1048576 (by omega) h
  omega

end Go.Proofs.Ytbkamkmmljbedaa
