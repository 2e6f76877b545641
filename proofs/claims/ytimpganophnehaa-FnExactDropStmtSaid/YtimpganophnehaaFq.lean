/- Walks of the functions that mark lists of numbers, and that look whether marks are held. -/
import Derived.Test.YtimpganophnehaaFs
import Derived.Test.YtimpganophnehaaMb
set_option linter.unusedVariables false
set_option linter.unusedSimpArgs false
set_option maxRecDepth 10000
namespace Go.Proofs.Ytimpganophnehaa
open Go.Eng

/-- Marks: numbers from k on. -/
def mkI {α : Type} : List α → Int → List Int
  | [], _ => []
  | _ :: l, k => k :: mkI l (k + 1)
theorem mkI_len {α : Type} : ∀ (l : List α) (k : Int), (mkI l k).length = l.length
  | [], _ => rfl
  | _ :: l, k => by rw [mkI, List.length_cons, mkI_len l, List.length_cons]
theorem flat_one {α : Type} {g : α → T} (h : ∀ a, (g a).cells = [g a]) : ∀ l : List α, (l.map g).flatMap T.cells = l.map g
  | [] => rfl
  | a :: l => by rw [List.map_cons, List.flatMap_cons, h, flat_one h l]; rfl

theorem cell1 {α : Type} {g : α → T} {done l : List α} {i : Int} (hd : done.length = i.toNat) (h0 : 0 ≤ i) (h1 : i < l.length) : ((done ++ l.drop i.toNat).map g)[i.toNat * 1]? = some (g (l[i.toNat]'(by omega))) := by
  rw [drop_at h0 h1, Nat.mul_one, List.getElem?_map, get_done hd]; rfl
theorem set1 {α : Type} {g : α → T} {done l : List α} {i : Int} (hd : done.length = i.toNat) (h0 : 0 ≤ i) (h1 : i < l.length) (y : α) : ((done ++ l.drop i.toNat).map g).set (i.toNat * 1) (g y) = ((done ++ [y]) ++ l.drop (i + 1).toNat).map g := by
  rw [drop_at h0 h1, Nat.mul_one, ← List.map_set, set_done hd]

theorem markIntS_nil (k : Int) : Fun Try.prog 60 [.t (.list 1 []), .t (.int k)] (tupD [.t (.int k)]) := by
  refine Fun.begin tys Try.func60 rfl rfl (N := 19) [(0, .t (.list 1 [])), (1, .t (.int k))] rfl rfl (fun w0 G F0 => ?_)
  refine W_seq ?_
  refine W_region ?_
  refine ev ?_
  refine WO_nil ?_
  refine thenQ_n ?_
  iterate 2 (refine W_seq ?_)
  refine W_region ?_
  refine ev ?_
  refine WO_nil ?_
  refine thenQ_n ?_
  refine W_block ?_
  refine W_loopK (α := Int) [0, 1] [] (fun (x : Int) => [(5, .t (.int x))]) (fun (x : Int) => []) (fun (x : Int) => 0 ≤ x) (fun (x : Int) => Int.toNat (0)) 0 ?_ ?_ ?_ (fun z hx => ?_)
  · repeat (first | exact Sub.nil' | refine Sub.cons' rfl ?_ )
  · repeat (first | exact SubM.nil' | refine SubM.cons' rfl ?_ )
  · exact Int.le_refl 0
  have hz := hx
  refine W_norm rfl ?_
  iterate 2 (refine W_seq ?_)
  refine W_region ?_
  refine ev ?_
  refine ev ?_
  refine evE ?_
  refine ev ?_
  refine WO_nil ?_
  refine thenQ_n ?_
  refine W_cond rfl (fun h1 => ?_) (fun h1 => ?_)
  ·
    try simp only [HS] at h1
    exfalso; simp at h1; omega
  try simp only [HS] at h1
  refine W_exit ?_
  refine thenQ_e ?_
  refine loopQ_e ?_
  refine inBlk_y ?_
  refine thenQ_n ?_
  refine W_seq ?_
  refine W_region ?_
  refine ev ?_
  refine ev ?_
  refine WO_nil ?_
  refine thenQ_n ?_
  refine W_ret ?_
  refine Ends_of (.inr rfl) (ret_okF rfl) (by decide) rfl ?_
  · rfl


theorem markIntS_m (l : List Int) (k : Int) (hk : 0 ≤ k) (hb : k + l.length ≤ 1073741824) : MarkF Try.prog 60 (.list 1 (l.map T.int)) (k) (k + l.length) (.list 1 ((mkI l k).map T.int)) := by
  refine MarkF.slice Try.func60 rfl rfl (N := 19) rfl (fun y hy => (by obtain ⟨a, _, rfl⟩ := List.mem_map.1 hy; rfl) ) ( by simp [mkI_len]) (fun h => by cases l with | nil => (rw [show k + (([] : List Int).length : Int) = k from by simp]; exact markIntS_nil k) | cons _ _ => simp at h) (fun b cap vs w0 G F0 => ?_)
  refine W_seq ?_
  refine W_region ?_
  refine ev ?_
  refine WO_nil ?_
  refine thenQ_n ?_
  iterate 2 (refine W_seq ?_)
  refine W_region ?_
  refine ev ?_
  refine WO_nil ?_
  refine thenQ_n ?_
  refine W_block ?_
  refine W_loopK (α := Int × Int × List Value × List T) [0] [] (fun (x : Int × Int × List Value × List T) => [(5, .t (.int (x.1))), (1, .t (.int (x.2.1)))]) (fun (x : Int × Int × List Value × List T) => [(19, .raw b (cap * 1) (x.2.2.1) (x.2.2.2))]) (fun (x : Int × Int × List Value × List T) => 0 ≤ (x.1) ∧ (x.1) ≤ l.length ∧ (x.2.1) = k + (x.1) ∧ ∃ done : List Int, done.length = (x.1).toNat ∧ (x.2.2.2) = (done ++ l.drop (x.1).toNat).map T.int ∧ mkI l k = done ++ mkI (l.drop (x.1).toNat) (x.2.1)) (fun (x : Int × Int × List Value × List T) => Int.toNat (l.length - (x.1))) (0, k, vs, (l.map T.int).flatMap T.cells) ?_ ?_ ?_ (fun x hx => ?_)
  · repeat (first | exact Sub.nil' | refine Sub.cons' rfl ?_ )
  · repeat (first | exact SubM.nil' | refine SubM.cons' rfl ?_ )
  · exact ⟨by omega, by omega, by show k = k + 0; omega, [], rfl, by rw [flat_one fun _ => rfl]; rfl, rfl⟩
  obtain ⟨i, k', vs', ts⟩ := x
  obtain ⟨hi0, hi1, hk', done, hd, hts, he⟩ := hx
  try dsimp only at hi0 hi1 hk' hd hts he ⊢
  refine W_norm rfl ?_
  iterate 2 (refine W_seq ?_)
  refine W_region ?_
  refine ev ?_
  refine ev ?_
  refine WO_lenV rfl rfl (lt_of rfl) rfl ⟨3, by kernel_rfl⟩ rfl ?_
  refine ev ?_
  refine WO_nil ?_
  refine thenQ_n ?_
  refine W_cond rfl (fun h1 => ?_) (fun h1 => ?_)
  ·
    try simp only [HS] at h1
    refine W_skip ?_
    refine thenQ_n ?_
    refine W_seq ?_
    refine W_block ?_
    refine W_seq ?_
    refine W_region ?_
    iterate 3 (refine ev ?_)
    refine WO_idxV tys rfl rfl (lt_of rfl) rfl rfl rfl rfl rfl rfl (by omega) (by first | omega | (simp only [List.length_map]; omega)) ?_
    refine WO_storeV tys (id := 19) rfl rfl rfl rfl rfl rfl rfl (by rw [hts]; exact cell1 hd hi0 (by omega)) rfl rfl rfl ?_
    refine WO_norm rfl ?_
    refine WO_keep [0, 1, 5, 6, 7, 8, 9, 12, 13, 14, 15] rfl ?_
    refine WO_nil ?_
    refine thenQ_n ?_
    refine W_region ?_
    refine ev ?_
    refine evI ?_
    refine ev ?_
    refine WO_nil ?_
    refine inBlk_n ?_
    refine thenQ_n ?_
    refine W_region ?_
    refine ev ?_
    refine evI ?_
    refine ev ?_
    refine WO_nil ?_
    refine loopQ_n (_, _, _, _) (by (try dsimp only); repeat (first | exact Sub.nil' | refine Sub.cons' rfl ?_ )) (by (try dsimp only); repeat (first | exact SubM.nil' | refine SubM.cons' rfl ?_ )) ?_ ?_
    · try dsimp only
      exact ⟨by omega, by omega, by omega, done ++ [k'], by simp [hd]; omega, by rw [hts]; exact set1 hd hi0 h1 k', by rw [he, drop_at hi0 h1, mkI]; simp⟩
    · (show Int.toNat _ < Int.toNat _); omega
  try simp only [HS] at h1
  refine W_exit ?_
  refine thenQ_e ?_
  refine loopQ_e ?_
  refine inBlk_y ?_
  refine thenQ_n ?_
  refine W_seq ?_
  refine W_region ?_
  refine ev ?_
  refine ev ?_
  refine WO_nil ?_
  refine thenQ_n ?_
  refine W_ret ?_
  refine EndsM_slice (.inr rfl) rfl rfl rfl ?_ ?_
  · omega
  · rw [hts, drop_end h1, he, drop_end h1, flat_one fun _ => rfl]; rfl


/-- Marks that are held from k on: the number behind them, or -1. -/
def heldI : List Int → Int → Int
  | [], k => k
  | x :: l, k => if x = k then heldI l (k + 1) else -1
theorem heldI_mk {α : Type} : ∀ (l : List α) (k : Int), heldI (mkI l k) k = k + l.length
  | [], k => by simp [mkI, heldI]
  | _ :: l, k => by rw [mkI, heldI, if_pos rfl, heldI_mk l, List.length_cons]; omega
theorem heldI_at {l : List Int} {i k : Int} (h0 : 0 ≤ i) (h1 : i < l.length) : heldI (l.drop i.toNat) k = if l[i.toNat]'(by omega) = k then heldI (l.drop (i + 1).toNat) (k + 1) else -1 := by
  rw [drop_at h0 h1, heldI]

theorem heldIntS_fun (l : List Int) (k : Int) (hk : 0 ≤ k) (hb : k + l.length ≤ 1073741824) : Fun Try.prog 62 [.t (T.ints l), .t (.int k)] (tupD [.t (.int (heldI l k))]) := by
  refine Fun.begin tys Try.func62 rfl rfl (N := 21) [(0, .t (T.ints l)), (1, .t (.int k))] rfl rfl (fun w0 G F0 => ?_)
  refine W_seq ?_
  refine W_region ?_
  refine ev ?_
  refine WO_nil ?_
  refine thenQ_n ?_
  iterate 2 (refine W_seq ?_)
  refine W_region ?_
  refine ev ?_
  refine WO_nil ?_
  refine thenQ_n ?_
  refine W_block ?_
  refine W_loopK (α := Int × Int) [0] [] (fun (x : Int × Int) => [(5, .t (.int (x.1))), (1, .t (.int (x.2)))]) (fun (x : Int × Int) => []) (fun (x : Int × Int) => 0 ≤ (x.1) ∧ (x.1) ≤ l.length ∧ (x.2) = k + (x.1) ∧ heldI l k = heldI (l.drop (x.1).toNat) (x.2)) (fun (x : Int × Int) => Int.toNat (l.length - (x.1))) (0, k) ?_ ?_ ?_ (fun x hx => ?_)
  · repeat (first | exact Sub.nil' | refine Sub.cons' rfl ?_ )
  · repeat (first | exact SubM.nil' | refine SubM.cons' rfl ?_ )
  · exact ⟨by omega, by omega, by show k = k + 0; omega, rfl⟩
  obtain ⟨i, k'⟩ := x
  obtain ⟨hi0, hi1, hk', he⟩ := hx
  try dsimp only at hi0 hi1 hk' he ⊢
  refine W_norm rfl ?_
  iterate 2 (refine W_seq ?_)
  refine W_region ?_
  refine ev ?_
  refine ev ?_
  refine evE ?_
  refine ev ?_
  refine WO_nil ?_
  refine thenQ_n ?_
  refine W_cond rfl (fun h1 => ?_) (fun h1 => ?_)
  ·
    try simp only [HS] at h1
    refine W_skip ?_
    refine thenQ_n ?_
    refine W_seq ?_
    refine W_block ?_
    iterate 2 (refine W_seq ?_)
    refine W_region ?_
    refine ev ?_
    refine ev ?_
    first | refine WO_idxT tys rfl rfl (lt_of rfl) rfl rfl rfl rfl rfl rfl rfl (by omega) _ (getT _ _ (by omega) (by omega)) ?_ | refine WO_idxS tys rfl rfl (lt_of rfl) rfl rfl rfl rfl rfl rfl rfl rfl (by omega) (by omega) ?_
    first | refine ev ?_ | refine WO_loadL tys rfl rfl (lt_of rfl) rfl rfl rfl rfl (getT _ _ (by omega) (by omega)) rfl ?_ | refine WO_loadL tys rfl rfl (lt_of rfl) rfl rfl rfl rfl (getT0 _ _ (by omega) (by omega)) rfl ?_
    refine ev ?_
    refine WO_keep [0, 1, 5, 6, 7, 8, 9, 12, 13, 14, 15, 16] rfl ?_
    refine ev ?_
    refine WO_nil ?_
    refine thenQ_n ?_
    refine W_cond rfl (fun h2 => ?_) (fun h2 => ?_)
    ·
      try simp only [HS] at h2
      refine W_seq ?_
      refine W_region ?_
      refine ev ?_
      refine WO_nil ?_
      refine thenQ_n ?_
      refine W_ret ?_
      refine thenQ_r ?_
      refine inBlk_r ?_
      refine thenQ_r ?_
      refine loopQ_r ?_
      refine inBlk_r ?_
      refine thenQ_r ?_
      refine Ends_of (.inr rfl) (ret_okF rfl) (by decide) rfl ?_
      · first | (rw [he, heldI_at hi0 h1, if_neg h2]; done) | (rw [he, drop_end h1]; rfl)
    try simp only [HS] at h2
    refine W_skip ?_
    refine thenQ_n ?_
    refine W_region ?_
    refine ev ?_
    refine evI ?_
    refine ev ?_
    refine WO_nil ?_
    refine inBlk_n ?_
    refine thenQ_n ?_
    refine W_region ?_
    refine ev ?_
    refine evI ?_
    refine ev ?_
    refine WO_nil ?_
    refine loopQ_n (_, _) (by (try dsimp only); repeat (first | exact Sub.nil' | refine Sub.cons' rfl ?_ )) (by (try dsimp only); repeat (first | exact SubM.nil' | refine SubM.cons' rfl ?_ )) ?_ ?_
    · try dsimp only
      exact ⟨by omega, by omega, by omega, by rw [he, heldI_at hi0 h1, if_pos (by assumption)]⟩
    · (show Int.toNat _ < Int.toNat _); omega
  try simp only [HS] at h1
  refine W_exit ?_
  refine thenQ_e ?_
  refine loopQ_e ?_
  refine inBlk_y ?_
  refine thenQ_n ?_
  refine W_seq ?_
  refine W_region ?_
  refine ev ?_
  refine ev ?_
  refine WO_nil ?_
  refine thenQ_n ?_
  refine W_ret ?_
  refine Ends_of (.inr rfl) (ret_okF rfl) (by decide) rfl ?_
  · first | (rw [he, heldI_at hi0 h1, if_neg h2]; done) | (rw [he, drop_end h1]; rfl)

end Go.Proofs.Ytimpganophnehaa
