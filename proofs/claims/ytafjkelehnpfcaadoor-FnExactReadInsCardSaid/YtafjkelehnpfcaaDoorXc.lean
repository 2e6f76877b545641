/- Walks: a token read from its text; a number; the place of a text in a list. -/
import Derived.Test.YtafjkelehnpfcaaDoorXb
set_option linter.unusedVariables false
set_option linter.unusedSimpArgs false
set_option maxRecDepth 10000
set_option maxHeartbeats 1000000
namespace Go.Proofs.YtafjkelehnpfcaaDoor
open Go.Eng

/-- The place of a text in a list, or -1. -/
def idxT (w : Tx) : List Tx → Int → Int
  | [], _ => -1
  | x :: l, k => if w = x then k else idxT w l (k + 1)
theorem idxT_at {w : Tx} {l : List Tx} {k : Int} (h0 : 0 ≤ k) (h1 : k < l.length) : idxT w (l.drop k.toNat) k = if w = (l[k.toNat]'(by omega)) then k else idxT w (l.drop (k + 1).toNat) (k + 1) := by
  rw [drop_at h0 h1, idxT]

theorem idxT_fun (l : List Tx) (w : Tx) (hl : l.length ≤ 1048577) : Fun Tryd.prog 58 [.t (T.strs l), .t (T.str w)] (tupD [.t (.int (idxT w l 0))]) := by
  refine Fun.begin tys Tryd.func58 rfl rfl (N := 19) [(0, .t (T.strs l)), (1, .t (T.str w))] rfl rfl (fun w0 G F0 => ?_)
  refine W_seq ?_
  refine W_region ?_
  refine ev ?_
  refine WO_nil ?_
  refine thenQ_n ?_
  iterate 2 (refine W_seq ?_)
  refine W_region ?_
  refine ev ?_
  refine evE ?_
  refine ev ?_
  refine WO_nil ?_
  refine thenQ_n ?_
  refine W_block ?_
  refine W_loopK (α := Int) [0, 1, 7] [] (fun (x : Int) => [(8, .t (.int x))]) (fun (x : Int) => []) (fun (x : Int) => 0 ≤ x ∧ x ≤ l.length ∧ idxT w l 0 = idxT w (l.drop x.toNat) x) (fun (x : Int) => Int.toNat (l.length - x)) 0 ?_ ?_ ?_ (fun k hx => ?_)
  · repeat (first | exact Sub.nil' | refine Sub.cons' rfl ?_ )
  · repeat (first | exact SubM.nil' | refine SubM.cons' rfl ?_ )
  · exact ⟨Int.le_refl 0, Int.natCast_nonneg _, rfl⟩
  obtain ⟨hk0, hk1, he⟩ := hx
  refine W_norm rfl ?_
  refine W_seq ?_
  refine W_region ?_
  refine ev ?_
  refine WO_nil ?_
  refine thenQ_n ?_
  refine W_seq ?_
  refine W_cond rfl (fun h1 => ?_) (fun h1 => ?_)
  ·
    try simp only [HS] at h1
    refine W_skip ?_
    refine thenQ_n ?_
    refine W_seq ?_
    refine W_block ?_
    refine W_seq ?_
    refine W_region ?_
    refine ev ?_
    refine ev ?_
    refine WO_nil ?_
    refine thenQ_n ?_
    refine W_seq ?_
    refine W_region ?_
    iterate 3 (refine ev ?_)
    first | refine WO_idxT tys rfl rfl (lt_of rfl) rfl rfl rfl rfl rfl rfl rfl (by omega) _ (getT _ _ (by omega) (by omega)) ?_ | refine WO_idxS tys rfl rfl (lt_of rfl) rfl rfl rfl rfl rfl rfl rfl rfl (by omega) (by omega) ?_
    first | refine ev ?_ | refine WO_loadL tys rfl rfl (lt_of rfl) rfl rfl rfl rfl (getT _ _ (by omega) (by omega)) rfl ?_ | refine WO_loadL tys rfl rfl (lt_of rfl) rfl rfl rfl rfl (getT0 _ _ (by omega) (by omega)) rfl ?_
    refine WO_binW rfl rfl (lt_of rfl) rfl rfl rfl binStrEq rfl ?_
    refine WO_keep [0, 1, 5, 7, 8, 9, 10, 11, 12, 13, 14, 15, 16] rfl ?_
    refine WO_nil ?_
    refine thenQ_n ?_
    refine W_cond rfl (fun h2 => ?_) (fun h2 => ?_)
    ·
      try simp only [HS] at h2
      refine W_seq ?_
      refine W_region ?_
      refine ev ?_
      refine ev ?_
      refine WO_nil ?_
      refine thenQ_n ?_
      refine W_ret ?_
      refine inBlk_r ?_
      refine thenQ_r ?_
      refine loopQ_r ?_
      refine inBlk_r ?_
      refine thenQ_r ?_
      refine Ends_of (.inr rfl) (ret_okF rfl) (by decide) rfl ?_
      · first | (rw [idxT_at hk0 h1, if_pos (by assumption)] at he; exact retI he.symm) | (rw [drop_end (by omega)] at he; exact retI he.symm)
    try simp only [HS] at h2
    refine W_skip ?_
    refine inBlk_n ?_
    refine thenQ_n ?_
    refine W_region ?_
    refine evI ?_
    refine ev ?_
    refine WO_nil ?_
    refine loopQ_n _ (by (try dsimp only); repeat (first | exact Sub.nil' | refine Sub.cons' rfl ?_ )) (by (try dsimp only); repeat (first | exact SubM.nil' | refine SubM.cons' rfl ?_ )) ?_ ?_
    · try dsimp only
      rw [idxT_at hk0 h1, if_neg (by assumption)] at he; exact ⟨by omega, by omega, he⟩
    · (show Int.toNat _ < Int.toNat _); omega
  try simp only [HS] at h1
  refine W_exit ?_
  refine thenQ_e ?_
  refine loopQ_e ?_
  refine inBlk_y ?_
  refine thenQ_n ?_
  refine W_seq ?_
  refine W_region ?_
  refine ev ?_
  refine WO_nil ?_
  refine thenQ_n ?_
  refine W_ret ?_
  refine Ends_of (.inr rfl) (ret_okF rfl) (by decide) rfl ?_
  · first | (rw [idxT_at hk0 h1, if_pos (by assumption)] at he; exact retI he.symm) | (rw [drop_end (by omega)] at he; exact retI he.symm)

theorem head_iff {s : Tx} {b : UInt8} (h : s ≠ []) : s.head? = some b ↔ (((s[(0 : Int).toNat]'(by show 0 < s.length; exact List.length_pos_iff.2 h)).toNat : Int) = (b.toNat : Int)) := by
  cases s with
  | nil => exact absurd rfl h
  | cons x l =>
    show some x = some b ↔ ((x.toNat : Int) = (b.toNat : Int))
    rw [byteI]
    simp
theorem head118 {s : Tx} (h : s ≠ []) : s.head? = some 118 ↔ (((s[(0 : Int).toNat]'(by show 0 < s.length; exact List.length_pos_iff.2 h)).toNat : Int) = 118) := head_iff h
theorem head102 {s : Tx} (h : s ≠ []) : s.head? = some 102 ↔ (((s[(0 : Int).toNat]'(by show 0 < s.length; exact List.length_pos_iff.2 h)).toNat : Int) = 102) := head_iff h
theorem head45 {s : Tx} (h : s ≠ []) : s.head? = some 45 ↔ (((s[(0 : Int).toNat]'(by show 0 < s.length; exact List.length_pos_iff.2 h)).toNat : Int) = 45) := head_iff h
theorem tail1 {s : Tx} : (s.drop (1 : Int).toNat).take ((s.length : Int).toNat - (1 : Int).toNat) = s.drop 1 := by
  rw [List.take_of_length_le (by rw [List.length_drop]; omega)]; rfl
noncomputable def readTok (s : Tx) : Tok × Bool :=
  if 0 ≤ idxT s (wordsT.drop 3) 3 then (⟨idxT s (wordsT.drop 3) 3, 0⟩, true)
  else if s = [] then (⟨0, 0⟩, false)
  else if s.head? = some 118 then (⟨2, digS (s.drop 1)⟩, decide (0 ≤ digS (s.drop 1)) && tokB ⟨2, digS (s.drop 1)⟩)
  else if s.head? = some 102 then (⟨11, digS (s.drop 1)⟩, decide (0 ≤ digS (s.drop 1)) && tokB ⟨11, digS (s.drop 1)⟩)
  else if s.head? = some 45 then (⟨1, 0 - digS (s.drop 1)⟩, decide (0 - digS (s.drop 1) < 0) && tokB ⟨1, 0 - digS (s.drop 1)⟩)
  else (⟨1, digS s⟩, decide (0 ≤ digS s) && tokB ⟨1, digS s⟩)

theorem l2ReadTok_fun (s : Tx) (hs : s.length ≤ 1048576) : Fun Tryd.prog 54 [.t (T.str s)] (tupD [.agg [.t (T.int (readTok s).1.op), .t (T.int (readTok s).1.n)], .t (.bool (readTok s).2)]) := by
  have hw : wordsT.length = 11 := rfl
  refine Fun.begin tys Tryd.func54 rfl rfl (N := 67) [(0, .t (T.str s))] rfl rfl (fun w0 G F0 => ?_)
  refine W_seq ?_
  refine W_region ?_
  refine WO_alloc tys rfl rfl (lt_of rfl) rfl rfl rfl ?_
  refine WO_norm rfl ?_
  refine ev ?_
  refine WO_nil ?_
  refine thenQ_n ?_
  iterate 2 (refine W_seq ?_)
  refine W_region ?_
  refine callB ?_
  refine ⟨_, l2Words_fun, rfl, ?_⟩
  refine WO_le (Le.freeze (u := 7) rfl) ?_
  refine WO_norm rfl ?_
  refine evE ?_
  refine ev ?_
  refine WO_nil ?_
  refine thenQ_n ?_
  refine W_block ?_
  refine W_loopK (α := Int) [0, 2, 3, 7, 8] [] (fun (x : Int) => [(9, .t (.int x))]) (fun (x : Int) => [(2, .box [.t (.int 0), .t (.int 0)])]) (fun (x : Int) => 0 ≤ x ∧ x ≤ 11 ∧ (3 ≤ x → idxT s (wordsT.drop 3) 3 = idxT s (wordsT.drop x.toNat) x)) (fun (x : Int) => Int.toNat (11 - x)) 0 ?_ ?_ ?_ (fun k hx => ?_)
  · repeat (first | exact Sub.nil' | refine Sub.cons' rfl ?_ )
  · repeat (first | exact SubM.nil' | refine SubM.cons' rfl ?_ )
  · exact ⟨Int.le_refl 0, by decide, fun h => absurd h (by decide)⟩
  obtain ⟨hk0, hk1, he⟩ := hx
  refine W_norm rfl ?_
  refine W_seq ?_
  refine W_region ?_
  refine ev ?_
  refine WO_nil ?_
  refine thenQ_n ?_
  refine W_seq ?_
  refine W_cond rfl (fun h1 => ?_) (fun h1 => ?_)
  ·
    try simp only [HS] at h1
    refine W_skip ?_
    refine thenQ_n ?_
    refine W_seq ?_
    refine W_block ?_
    refine W_seq ?_
    refine W_region ?_
    refine ev ?_
    first | refine WO_idxT tys rfl rfl (lt_of rfl) rfl rfl rfl rfl rfl rfl rfl (by omega) _ (getT _ _ (by omega) (by omega)) ?_ | refine WO_idxS tys rfl rfl (lt_of rfl) rfl rfl rfl rfl rfl rfl rfl rfl (by omega) (by omega) ?_
    first | refine ev ?_ | refine WO_loadL tys rfl rfl (lt_of rfl) rfl rfl rfl rfl (getT _ _ (by omega) (by omega)) rfl ?_ | refine WO_loadL tys rfl rfl (lt_of rfl) rfl rfl rfl rfl (getT0 _ _ (by omega) (by omega)) rfl ?_
    refine ev ?_
    refine ev ?_
    refine WO_nil ?_
    refine thenQ_n ?_
    refine W_seq ?_
    refine W_region ?_
    iterate 3 (refine ev ?_)
    refine WO_keep [0, 2, 3, 4, 5, 7, 8, 9, 10, 11, 12, 13, 14, 15, 16] rfl ?_
    refine WO_guard rfl rfl rfl rfl (lt_of rfl) (fun h2 => ?_) (fun h2 => ?_)
    rotate_left
    ·
      try simp only [HS] at h2
      iterate 2 (refine WO_guardN rfl rfl rfl rfl rfl (lt_of rfl) ?_)
      refine ev ?_
      refine WO_nil ?_
      refine thenQ_n ?_
      refine W_condF rfl ?_
      refine W_skip ?_
      refine inBlk_n ?_
      refine thenQ_n ?_
      refine W_region ?_
      refine evI ?_
      refine ev ?_
      refine WO_nil ?_
      refine loopQ_n _ (by (try dsimp only); repeat (first | exact Sub.nil' | refine Sub.cons' rfl ?_ )) (by (try dsimp only); repeat (first | exact SubM.nil' | refine SubM.cons' rfl ?_ )) ?_ ?_
      · try dsimp only
        refine ⟨by omega, by omega, fun h => ?_⟩
        by_cases hk : k = 2
        · subst hk; rfl
        · have hq := he (by omega)
          rw [idxT_at hk0 (by omega), if_neg (fun e => by first | omega | exact (by assumption : ¬ _ = _) e.symm)] at hq
          exact hq
      · (show Int.toNat _ < Int.toNat _); omega
    try simp only [HS] at h2
    refine ev ?_
    refine WO_guardY rfl rfl rfl rfl (lt_of rfl) ?_
    refine ev ?_
    refine WO_guardY rfl rfl rfl rfl (lt_of rfl) ?_
    refine WO_binW rfl rfl (lt_of rfl) rfl rfl rfl binStrEq rfl ?_
    refine ev ?_
    refine WO_nil ?_
    refine thenQ_n ?_
    refine W_cond rfl (fun h3 => ?_) (fun h3 => ?_)
    ·
      try simp only [HS] at h3
      refine W_seq ?_
      refine W_region ?_
      refine ev ?_
      refine WO_struct tys rfl rfl (lt_of rfl) rfl rfl rfl (by kernel_rfl) rfl rfl rfl rfl rfl rfl ?_
      refine WO_store tys rfl rfl rfl rfl rfl rfl rfl rfl (lt_of rfl) ?_
      refine WO_norm rfl ?_
      refine ev ?_
      refine WO_nil ?_
      refine thenQ_n ?_
      refine W_ret ?_
      refine inBlk_r ?_
      refine thenQ_r ?_
      refine loopQ_r ?_
      refine inBlk_r ?_
      refine thenQ_r ?_
      refine Ends_of (.inr rfl) (ret_okF rfl) (by decide) rfl ?_
      · first
        | (have hq := he (by omega); rw [idxT_at hk0 (by omega), if_pos (Eq.symm (by assumption))] at hq; simp only [readTok, hq, if_pos hk0]; done)
        | (have hno : idxT s (wordsT.drop 3) 3 = -1 := (he (by omega)).trans (by simp only [drop_end (show ((wordsT.length : Nat) : Int) ≤ k by omega), idxT]); have hn2 : ¬ (0 : Int) ≤ -1 := (by omega); simp only [readTok, hno, if_neg hn2, if_pos (show s = [] by assumption)])
        | (have hno : idxT s (wordsT.drop 3) 3 = -1 := (he (by omega)).trans (by simp only [drop_end (show ((wordsT.length : Nat) : Int) ≤ k by omega), idxT]); have hn2 : ¬ (0 : Int) ≤ -1 := (by omega); have hne : s ≠ [] := (by assumption); simp only [tail1] at *; have hv : 0 - digS (s.drop 1) < 0 := hE; simp_all [readTok, head118 hne, head102 hne, head45 hne]; done)
        | (have hno : idxT s (wordsT.drop 3) 3 = -1 := (he (by omega)).trans (by simp only [drop_end (show ((wordsT.length : Nat) : Int) ≤ k by omega), idxT]); have hn2 : ¬ (0 : Int) ≤ -1 := (by omega); have hne : s ≠ [] := (by assumption); simp only [tail1] at *; have hv : ¬ 0 - digS (s.drop 1) < 0 := hE; simp_all [readTok, head118 hne, head102 hne, head45 hne]; intro hz; exfalso; omega)
        | (rw [hrd]; simp [hE])
    try simp only [HS] at h3
    refine W_skip ?_
    refine inBlk_n ?_
    refine thenQ_n ?_
    refine W_region ?_
    refine evI ?_
    refine ev ?_
    refine WO_nil ?_
    refine loopQ_n _ (by (try dsimp only); repeat (first | exact Sub.nil' | refine Sub.cons' rfl ?_ )) (by (try dsimp only); repeat (first | exact SubM.nil' | refine SubM.cons' rfl ?_ )) ?_ ?_
    · try dsimp only
      refine ⟨by omega, by omega, fun h => ?_⟩
      by_cases hk : k = 2
      · subst hk; rfl
      · have hq := he (by omega)
        rw [idxT_at hk0 (by omega), if_neg (fun e => by first | omega | exact (by assumption : ¬ _ = _) e.symm)] at hq
        exact hq
    · (show Int.toNat _ < Int.toNat _); omega
  try simp only [HS] at h1
  refine W_exit ?_
  refine thenQ_e ?_
  refine loopQ_e ?_
  refine inBlk_y ?_
  refine thenQ_n ?_
  iterate 2 (refine W_seq ?_)
  refine W_region ?_
  refine ev ?_
  refine WO_binW rfl rfl (lt_of rfl) rfl rfl rfl binStrEq rfl ?_
  refine WO_nil ?_
  refine thenQ_n ?_
  refine W_cond rfl (fun h2 => ?_) (fun h2 => ?_)
  ·
    try simp only [HS] at h2
    refine W_seq ?_
    refine W_region ?_
    refine WO_struct tys rfl rfl (lt_of rfl) rfl rfl rfl (by kernel_rfl) rfl rfl rfl rfl rfl rfl ?_
    refine WO_store tys rfl rfl rfl rfl rfl rfl rfl rfl (lt_of rfl) ?_
    refine WO_norm rfl ?_
    refine ev ?_
    refine WO_nil ?_
    refine thenQ_n ?_
    refine W_ret ?_
    refine thenQ_r ?_
    refine Ends_of (.inr rfl) (ret_okF rfl) (by decide) rfl ?_
    · first
      | (have hq := he (by omega); rw [idxT_at hk0 (by omega), if_pos (Eq.symm (by assumption))] at hq; simp only [readTok, hq, if_pos hk0]; done)
      | (have hno : idxT s (wordsT.drop 3) 3 = -1 := (he (by omega)).trans (by simp only [drop_end (show ((wordsT.length : Nat) : Int) ≤ k by omega), idxT]); have hn2 : ¬ (0 : Int) ≤ -1 := (by omega); simp only [readTok, hno, if_neg hn2, if_pos (show s = [] by assumption)])
      | (have hno : idxT s (wordsT.drop 3) 3 = -1 := (he (by omega)).trans (by simp only [drop_end (show ((wordsT.length : Nat) : Int) ≤ k by omega), idxT]); have hn2 : ¬ (0 : Int) ≤ -1 := (by omega); have hne : s ≠ [] := (by assumption); simp only [tail1] at *; have hv : 0 - digS (s.drop 1) < 0 := hE; simp_all [readTok, head118 hne, head102 hne, head45 hne]; done)
      | (have hno : idxT s (wordsT.drop 3) 3 = -1 := (he (by omega)).trans (by simp only [drop_end (show ((wordsT.length : Nat) : Int) ≤ k by omega), idxT]); have hn2 : ¬ (0 : Int) ≤ -1 := (by omega); have hne : s ≠ [] := (by assumption); simp only [tail1] at *; have hv : ¬ 0 - digS (s.drop 1) < 0 := hE; simp_all [readTok, head118 hne, head102 hne, head45 hne]; intro hz; exfalso; omega)
      | (rw [hrd]; simp [hE])
  try simp only [HS] at h2
  refine W_skip ?_
  refine thenQ_n ?_
  refine W_seq ?_
  refine W_region ?_
  refine ev ?_
  refine callB ?_
  refine ⟨_, l2Digits_fun _ (by first | assumption | (simp; omega)), rfl, ?_⟩
  refine WO_struct tys rfl rfl (lt_of rfl) rfl rfl rfl (by kernel_rfl) rfl rfl rfl rfl rfl rfl ?_
  refine WO_alloc tys rfl rfl (lt_of rfl) rfl rfl rfl ?_
  refine WO_norm rfl ?_
  refine WO_store tys rfl rfl rfl rfl rfl rfl rfl rfl (lt_of rfl) ?_
  refine WO_norm rfl ?_
  refine WO_nil ?_
  refine thenQ_n ?_
  iterate 2 (refine W_seq ?_)
  refine W_keep [0, 2, 3, 6] rfl ?_
  refine W_region ?_
  refine ev ?_
  refine WO_strIdx rfl rfl (lt_of rfl) rfl (by kernel_rfl) rfl rfl (by omega) (by have := List.length_pos_iff.2 (show s ≠ [] by assumption); omega) ?_
  refine WO_nil ?_
  refine thenQ_n ?_
  refine W_block ?_
  refine W_seq ?_
  refine W_region ?_
  refine WO_binW rfl rfl (lt_of rfl) rfl rfl rfl binIEql rfl ?_
  refine ev ?_
  refine WO_nil ?_
  refine thenQ_n ?_
  refine W_joinN (α := Int × Int) [2, 3, 6] [2] (fun (x : Int × Int) => []) (fun (x : Int × Int) => [(6, .box [.t (.int (x.1)), .t (.int (x.2))])]) (fun (x : Int × Int) => readTok s = (⟨(x.1), (x.2)⟩, decide (0 ≤ (x.2)) && tokB ⟨(x.1), (x.2)⟩)) ?_ (fun x hx => ?_)
  ·
    refine W_cond rfl (fun h3 => ?_) (fun h3 => ?_)
    ·
      try simp only [HS] at h3
      refine W_region ?_
      refine ev ?_
      refine WO_strSlice rfl rfl (lt_of rfl) rfl (by kernel_rfl) rfl rfl rfl (by omega) (by have := List.length_pos_iff.2 (show s ≠ [] by assumption); omega) (by omega) ?_
      refine callB ?_
      refine ⟨_, l2Digits_fun _ (by first | assumption | (simp; omega)), rfl, ?_⟩
      refine WO_struct tys rfl rfl (lt_of rfl) rfl rfl rfl (by kernel_rfl) rfl rfl rfl rfl rfl rfl ?_
      refine WO_store tys rfl rfl rfl rfl rfl rfl rfl rfl (lt_of rfl) ?_
      refine WO_norm rfl ?_
      refine WO_keep [2, 3, 6] rfl ?_
      refine WO_nil ?_
      refine joinQ_n (_, _) (by (try dsimp only); repeat (first | exact Sub.nil' | refine Sub.cons' rfl ?_)) (by (try dsimp only); repeat (first | exact SubM.nil' | refine SubM.cons' rfl ?_)) ?_
      try dsimp only
      have hno : idxT s (wordsT.drop 3) 3 = -1 := (he (by omega)).trans (by simp only [drop_end (show ((wordsT.length : Nat) : Int) ≤ k by omega), idxT])
      have hn2 : ¬ (0 : Int) ≤ -1 := by omega
      have hne : s ≠ [] := by assumption
      (try simp only [tail1] at *)
      simp_all [readTok, head118 hne, head102 hne, head45 hne]
    try simp only [HS] at h3
    refine W_seq ?_
    refine W_region ?_
    refine WO_binW rfl rfl (lt_of rfl) rfl rfl rfl binIEql rfl ?_
    refine ev ?_
    refine WO_nil ?_
    refine thenQ_n ?_
    refine W_cond rfl (fun h4 => ?_) (fun h4 => ?_)
    ·
      try simp only [HS] at h4
      refine W_region ?_
      refine ev ?_
      refine WO_strSlice rfl rfl (lt_of rfl) rfl (by kernel_rfl) rfl rfl rfl (by omega) (by have := List.length_pos_iff.2 (show s ≠ [] by assumption); omega) (by omega) ?_
      refine callB ?_
      refine ⟨_, l2Digits_fun _ (by first | assumption | (simp; omega)), rfl, ?_⟩
      refine WO_keep [2, 3, 6, 42] rfl ?_
      refine WO_struct tys rfl rfl (lt_of rfl) rfl rfl rfl (by kernel_rfl) rfl rfl rfl rfl rfl rfl ?_
      refine WO_store tys rfl rfl rfl rfl rfl rfl rfl rfl (lt_of rfl) ?_
      refine WO_norm rfl ?_
      refine WO_nil ?_
      refine joinQ_n (_, _) (by (try dsimp only); repeat (first | exact Sub.nil' | refine Sub.cons' rfl ?_)) (by (try dsimp only); repeat (first | exact SubM.nil' | refine SubM.cons' rfl ?_)) ?_
      try dsimp only
      have hno : idxT s (wordsT.drop 3) 3 = -1 := (he (by omega)).trans (by simp only [drop_end (show ((wordsT.length : Nat) : Int) ≤ k by omega), idxT])
      have hn2 : ¬ (0 : Int) ≤ -1 := by omega
      have hne : s ≠ [] := by assumption
      (try simp only [tail1] at *)
      simp_all [readTok, head118 hne, head102 hne, head45 hne]
    try simp only [HS] at h4
    refine W_seq ?_
    refine W_region ?_
    refine WO_binW rfl rfl (lt_of rfl) rfl rfl rfl binIEql rfl ?_
    refine ev ?_
    refine WO_nil ?_
    refine thenQ_n ?_
    refine W_cond rfl (fun h5 => ?_) (fun h5 => ?_)
    ·
      try simp only [HS] at h5
      refine W_seq ?_
      refine W_keep [0, 2, 3, 6] rfl ?_
      refine W_region ?_
      refine ev ?_
      refine WO_strSlice rfl rfl (lt_of rfl) rfl (by kernel_rfl) rfl rfl rfl (by omega) (by have := List.length_pos_iff.2 (show s ≠ [] by assumption); omega) (by omega) ?_
      refine callB ?_
      refine ⟨_, l2Digits_fun _ (by first | assumption | (simp; omega)), rfl, ?_⟩
      have hb := digS_bd ((s.drop (1 : Int).toNat).take ((s.length : Int).toNat - (1 : Int).toNat))
      refine evI ?_
      refine ev ?_
      refine WO_store tys rfl rfl rfl rfl rfl rfl rfl rfl (lt_of rfl) ?_
      refine WO_norm rfl ?_
      refine WO_nil ?_
      refine thenQ_n ?_
      rcases Decidable.em ((0 : Int) - digS ((s.drop (1 : Int).toNat).take ((s.length : Int).toNat - (1 : Int).toNat)) < 0) with hE | hE
      ·
        refine W_seq ?_
        refine W_regionH [[], [], [], [], [], [], [], [2], [], []] mixed (by kernel_rfl) ?_
        refine QH_G0 ?_
        first | refine QG_evZ tys rfl rfl (lt_of rfl) rfl rfl ?_ | refine QG_ev tys rfl rfl (lt_of rfl) rfl ?_ | refine WO_loadMove tys rfl rfl (lt_of rfl) rfl rfl rfl rfl rfl rfl ?_
        refine QG_nil ?_
        refine QH_G0 ?_
        refine QG_ev tys rfl rfl (lt_of rfl) rfl ?_
        refine QG_nil ?_
        refine QH_G0 ?_
        refine QG_ev tys rfl rfl (lt_of rfl) rfl ?_
        refine QG_nil ?_
        refine QH_G0 ?_
        refine QG_ev tys rfl rfl (lt_of rfl) rfl ?_
        refine QG_known (v := true) (decide_eq_true hE) ?_
        refine QG_nil ?_
        refine QH_G0 ?_
        refine QG_ev tys rfl rfl (lt_of rfl) rfl ?_
        refine QG_nil ?_
        refine QH_G0 ?_
        refine QG_guardY rfl rfl rfl rfl (lt_of rfl) ?_
        first | refine QG_evZ tys rfl rfl (lt_of rfl) rfl rfl ?_ | refine QG_ev tys rfl rfl (lt_of rfl) rfl ?_ | refine WO_loadMove tys rfl rfl (lt_of rfl) rfl rfl rfl rfl rfl rfl ?_
        refine QG_nil ?_
        refine QH_G0 ?_
        refine QG_guardY rfl rfl rfl rfl (lt_of rfl) ?_
        refine callBG ?_
        refine ⟨_, l2Token_fun ⟨_, _⟩, rfl, ?_⟩
        refine QG_nil ?_
        refine QH_G ?_
        refine QG_ev tys rfl rfl (lt_of rfl) rfl ?_
        refine QG_nil ?_
        first | refine QH_store tys 10008 rfl rfl rfl rfl rfl rfl rfl rfl rfl (Nat.le_of_ble_eq_true rfl) ?_ | refine QH_storeM tys rfl rfl rfl rfl rfl rfl rfl rfl rfl (Nat.le_of_ble_eq_true rfl) ?_
        refine QH_G0 ?_
        refine QG_ev tys rfl rfl (lt_of rfl) rfl ?_
        refine QG_nil ?_
        refine QH_nil ?_
        refine ⟨by kernel_rfl, ?_⟩
        refine WO_norm rfl ?_
        refine WO_nil ?_
        refine thenQ_n ?_
        refine W_ret ?_
        refine joinQ_r ?_
        refine inBlk_r ?_
        refine thenQ_r ?_
        refine Ends_of (.inr rfl) (ret_okF rfl) (by decide) rfl ?_
        · first
          | (have hq := he (by omega); rw [idxT_at hk0 (by omega), if_pos (Eq.symm (by assumption))] at hq; simp only [readTok, hq, if_pos hk0]; done)
          | (have hno : idxT s (wordsT.drop 3) 3 = -1 := (he (by omega)).trans (by simp only [drop_end (show ((wordsT.length : Nat) : Int) ≤ k by omega), idxT]); have hn2 : ¬ (0 : Int) ≤ -1 := (by omega); simp only [readTok, hno, if_neg hn2, if_pos (show s = [] by assumption)])
          | (have hno : idxT s (wordsT.drop 3) 3 = -1 := (he (by omega)).trans (by simp only [drop_end (show ((wordsT.length : Nat) : Int) ≤ k by omega), idxT]); have hn2 : ¬ (0 : Int) ≤ -1 := (by omega); have hne : s ≠ [] := (by assumption); simp only [tail1] at *; have hv : 0 - digS (s.drop 1) < 0 := hE; simp_all [readTok, head118 hne, head102 hne, head45 hne]; done)
          | (have hno : idxT s (wordsT.drop 3) 3 = -1 := (he (by omega)).trans (by simp only [drop_end (show ((wordsT.length : Nat) : Int) ≤ k by omega), idxT]); have hn2 : ¬ (0 : Int) ≤ -1 := (by omega); have hne : s ≠ [] := (by assumption); simp only [tail1] at *; have hv : ¬ 0 - digS (s.drop 1) < 0 := hE; simp_all [readTok, head118 hne, head102 hne, head45 hne]; intro hz; exfalso; omega)
          | (rw [hrd]; simp [hE])
      ·
        refine W_seq ?_
        refine W_regionH [[], [], [], [], [], [], [], [2], [], []] mixed (by kernel_rfl) ?_
        refine QH_G0 ?_
        first | refine QG_evZ tys rfl rfl (lt_of rfl) rfl rfl ?_ | refine QG_ev tys rfl rfl (lt_of rfl) rfl ?_ | refine WO_loadMove tys rfl rfl (lt_of rfl) rfl rfl rfl rfl rfl rfl ?_
        refine QG_nil ?_
        refine QH_G0 ?_
        refine QG_ev tys rfl rfl (lt_of rfl) rfl ?_
        refine QG_nil ?_
        refine QH_G0 ?_
        refine QG_ev tys rfl rfl (lt_of rfl) rfl ?_
        refine QG_nil ?_
        refine QH_G0 ?_
        refine QG_ev tys rfl rfl (lt_of rfl) rfl ?_
        refine QG_known (v := false) (decide_eq_false hE) ?_
        refine QG_nil ?_
        refine QH_G0 ?_
        refine QG_ev tys rfl rfl (lt_of rfl) rfl ?_
        refine QG_nil ?_
        refine QH_G0 ?_
        refine QG_guardN rfl rfl rfl rfl rfl (lt_of rfl) ?_
        refine QG_nil ?_
        refine QH_G0 ?_
        refine QG_guardN rfl rfl rfl rfl rfl (lt_of rfl) ?_
        refine QG_nil ?_
        refine QH_G ?_
        refine QG_ev tys rfl rfl (lt_of rfl) rfl ?_
        refine QG_nil ?_
        first | refine QH_store tys 10008 rfl rfl rfl rfl rfl rfl rfl rfl rfl (Nat.le_of_ble_eq_true rfl) ?_ | refine QH_storeM tys rfl rfl rfl rfl rfl rfl rfl rfl rfl (Nat.le_of_ble_eq_true rfl) ?_
        refine QH_G0 ?_
        refine QG_ev tys rfl rfl (lt_of rfl) rfl ?_
        refine QG_nil ?_
        refine QH_nil ?_
        refine ⟨by kernel_rfl, ?_⟩
        refine WO_norm rfl ?_
        refine WO_nil ?_
        refine thenQ_n ?_
        refine W_ret ?_
        refine joinQ_r ?_
        refine inBlk_r ?_
        refine thenQ_r ?_
        refine Ends_of (.inr rfl) (ret_okF rfl) (by decide) rfl ?_
        · first
          | (have hq := he (by omega); rw [idxT_at hk0 (by omega), if_pos (Eq.symm (by assumption))] at hq; simp only [readTok, hq, if_pos hk0]; done)
          | (have hno : idxT s (wordsT.drop 3) 3 = -1 := (he (by omega)).trans (by simp only [drop_end (show ((wordsT.length : Nat) : Int) ≤ k by omega), idxT]); have hn2 : ¬ (0 : Int) ≤ -1 := (by omega); simp only [readTok, hno, if_neg hn2, if_pos (show s = [] by assumption)])
          | (have hno : idxT s (wordsT.drop 3) 3 = -1 := (he (by omega)).trans (by simp only [drop_end (show ((wordsT.length : Nat) : Int) ≤ k by omega), idxT]); have hn2 : ¬ (0 : Int) ≤ -1 := (by omega); have hne : s ≠ [] := (by assumption); simp only [tail1] at *; have hv : 0 - digS (s.drop 1) < 0 := hE; simp_all [readTok, head118 hne, head102 hne, head45 hne]; done)
          | (have hno : idxT s (wordsT.drop 3) 3 = -1 := (he (by omega)).trans (by simp only [drop_end (show ((wordsT.length : Nat) : Int) ≤ k by omega), idxT]); have hn2 : ¬ (0 : Int) ≤ -1 := (by omega); have hne : s ≠ [] := (by assumption); simp only [tail1] at *; have hv : ¬ 0 - digS (s.drop 1) < 0 := hE; simp_all [readTok, head118 hne, head102 hne, head45 hne]; intro hz; exfalso; omega)
          | (rw [hrd]; simp [hE])
    try simp only [HS] at h5
    refine W_skip ?_
    refine joinQ_n (_, _) (by (try dsimp only); repeat (first | exact Sub.nil' | refine Sub.cons' rfl ?_)) (by (try dsimp only); repeat (first | exact SubM.nil' | refine SubM.cons' rfl ?_)) ?_
    try dsimp only
    have hno : idxT s (wordsT.drop 3) 3 = -1 := (he (by omega)).trans (by simp only [drop_end (show ((wordsT.length : Nat) : Int) ≤ k by omega), idxT])
    have hn2 : ¬ (0 : Int) ≤ -1 := by omega
    have hne : s ≠ [] := by assumption
    (try simp only [tail1] at *)
    simp_all [readTok, head118 hne, head102 hne, head45 hne]
  obtain ⟨op, n⟩ := x
  have hrd := hx
  try dsimp only at hrd ⊢
  refine inBlk_n ?_
  refine thenQ_n ?_
  rcases Decidable.em (0 ≤ n) with hE | hE
  ·
    refine W_seq ?_
    refine W_keep [2, 3, 6] rfl ?_
    refine W_regionH [[], [], [], [], [], [], [], [2], [], []] mixed (by kernel_rfl) ?_
    refine QH_G0 ?_
    first | refine QG_evZ tys rfl rfl (lt_of rfl) rfl rfl ?_ | refine QG_ev tys rfl rfl (lt_of rfl) rfl ?_ | refine WO_loadMove tys rfl rfl (lt_of rfl) rfl rfl rfl rfl rfl rfl ?_
    refine QG_nil ?_
    refine QH_G0 ?_
    refine QG_ev tys rfl rfl (lt_of rfl) rfl ?_
    refine QG_nil ?_
    refine QH_G0 ?_
    refine QG_ev tys rfl rfl (lt_of rfl) rfl ?_
    refine QG_nil ?_
    refine QH_G0 ?_
    refine QG_ev tys rfl rfl (lt_of rfl) rfl ?_
    refine QG_known (v := true) (decide_eq_true hE) ?_
    refine QG_nil ?_
    refine QH_G0 ?_
    refine QG_ev tys rfl rfl (lt_of rfl) rfl ?_
    refine QG_nil ?_
    refine QH_G0 ?_
    refine QG_guardY rfl rfl rfl rfl (lt_of rfl) ?_
    first | refine QG_evZ tys rfl rfl (lt_of rfl) rfl rfl ?_ | refine QG_ev tys rfl rfl (lt_of rfl) rfl ?_ | refine WO_loadMove tys rfl rfl (lt_of rfl) rfl rfl rfl rfl rfl rfl ?_
    refine QG_nil ?_
    refine QH_G0 ?_
    refine QG_guardY rfl rfl rfl rfl (lt_of rfl) ?_
    refine callBG ?_
    refine ⟨_, l2Token_fun ⟨_, _⟩, rfl, ?_⟩
    refine QG_nil ?_
    refine QH_G ?_
    refine QG_ev tys rfl rfl (lt_of rfl) rfl ?_
    refine QG_nil ?_
    first | refine QH_store tys 10008 rfl rfl rfl rfl rfl rfl rfl rfl rfl (Nat.le_of_ble_eq_true rfl) ?_ | refine QH_storeM tys rfl rfl rfl rfl rfl rfl rfl rfl rfl (Nat.le_of_ble_eq_true rfl) ?_
    refine QH_G0 ?_
    refine QG_ev tys rfl rfl (lt_of rfl) rfl ?_
    refine QG_nil ?_
    refine QH_nil ?_
    refine ⟨by kernel_rfl, ?_⟩
    refine WO_norm rfl ?_
    refine WO_nil ?_
    refine thenQ_n ?_
    refine W_ret ?_
    refine Ends_of (.inr rfl) (ret_okF rfl) (by decide) rfl ?_
    · first
      | (have hq := he (by omega); rw [idxT_at hk0 (by omega), if_pos (Eq.symm (by assumption))] at hq; simp only [readTok, hq, if_pos hk0]; done)
      | (have hno : idxT s (wordsT.drop 3) 3 = -1 := (he (by omega)).trans (by simp only [drop_end (show ((wordsT.length : Nat) : Int) ≤ k by omega), idxT]); have hn2 : ¬ (0 : Int) ≤ -1 := (by omega); simp only [readTok, hno, if_neg hn2, if_pos (show s = [] by assumption)])
      | (have hno : idxT s (wordsT.drop 3) 3 = -1 := (he (by omega)).trans (by simp only [drop_end (show ((wordsT.length : Nat) : Int) ≤ k by omega), idxT]); have hn2 : ¬ (0 : Int) ≤ -1 := (by omega); have hne : s ≠ [] := (by assumption); simp only [tail1] at *; have hv : 0 - digS (s.drop 1) < 0 := hE; simp_all [readTok, head118 hne, head102 hne, head45 hne]; done)
      | (have hno : idxT s (wordsT.drop 3) 3 = -1 := (he (by omega)).trans (by simp only [drop_end (show ((wordsT.length : Nat) : Int) ≤ k by omega), idxT]); have hn2 : ¬ (0 : Int) ≤ -1 := (by omega); have hne : s ≠ [] := (by assumption); simp only [tail1] at *; have hv : ¬ 0 - digS (s.drop 1) < 0 := hE; simp_all [readTok, head118 hne, head102 hne, head45 hne]; intro hz; exfalso; omega)
      | (rw [hrd]; simp [hE])
  ·
    refine W_seq ?_
    refine W_keep [2, 3, 6] rfl ?_
    refine W_regionH [[], [], [], [], [], [], [], [2], [], []] mixed (by kernel_rfl) ?_
    refine QH_G0 ?_
    first | refine QG_evZ tys rfl rfl (lt_of rfl) rfl rfl ?_ | refine QG_ev tys rfl rfl (lt_of rfl) rfl ?_ | refine WO_loadMove tys rfl rfl (lt_of rfl) rfl rfl rfl rfl rfl rfl ?_
    refine QG_nil ?_
    refine QH_G0 ?_
    refine QG_ev tys rfl rfl (lt_of rfl) rfl ?_
    refine QG_nil ?_
    refine QH_G0 ?_
    refine QG_ev tys rfl rfl (lt_of rfl) rfl ?_
    refine QG_nil ?_
    refine QH_G0 ?_
    refine QG_ev tys rfl rfl (lt_of rfl) rfl ?_
    refine QG_known (v := false) (decide_eq_false hE) ?_
    refine QG_nil ?_
    refine QH_G0 ?_
    refine QG_ev tys rfl rfl (lt_of rfl) rfl ?_
    refine QG_nil ?_
    refine QH_G0 ?_
    refine QG_guardN rfl rfl rfl rfl rfl (lt_of rfl) ?_
    refine QG_nil ?_
    refine QH_G0 ?_
    refine QG_guardN rfl rfl rfl rfl rfl (lt_of rfl) ?_
    refine QG_nil ?_
    refine QH_G ?_
    refine QG_ev tys rfl rfl (lt_of rfl) rfl ?_
    refine QG_nil ?_
    first | refine QH_store tys 10008 rfl rfl rfl rfl rfl rfl rfl rfl rfl (Nat.le_of_ble_eq_true rfl) ?_ | refine QH_storeM tys rfl rfl rfl rfl rfl rfl rfl rfl rfl (Nat.le_of_ble_eq_true rfl) ?_
    refine QH_G0 ?_
    refine QG_ev tys rfl rfl (lt_of rfl) rfl ?_
    refine QG_nil ?_
    refine QH_nil ?_
    refine ⟨by kernel_rfl, ?_⟩
    refine WO_norm rfl ?_
    refine WO_nil ?_
    refine thenQ_n ?_
    refine W_ret ?_
    refine Ends_of (.inr rfl) (ret_okF rfl) (by decide) rfl ?_
    · first
      | (have hq := he (by omega); rw [idxT_at hk0 (by omega), if_pos (Eq.symm (by assumption))] at hq; simp only [readTok, hq, if_pos hk0]; done)
      | (have hno : idxT s (wordsT.drop 3) 3 = -1 := (he (by omega)).trans (by simp only [drop_end (show ((wordsT.length : Nat) : Int) ≤ k by omega), idxT]); have hn2 : ¬ (0 : Int) ≤ -1 := (by omega); simp only [readTok, hno, if_neg hn2, if_pos (show s = [] by assumption)])
      | (have hno : idxT s (wordsT.drop 3) 3 = -1 := (he (by omega)).trans (by simp only [drop_end (show ((wordsT.length : Nat) : Int) ≤ k by omega), idxT]); have hn2 : ¬ (0 : Int) ≤ -1 := (by omega); have hne : s ≠ [] := (by assumption); simp only [tail1] at *; have hv : 0 - digS (s.drop 1) < 0 := hE; simp_all [readTok, head118 hne, head102 hne, head45 hne]; done)
      | (have hno : idxT s (wordsT.drop 3) 3 = -1 := (he (by omega)).trans (by simp only [drop_end (show ((wordsT.length : Nat) : Int) ≤ k by omega), idxT]); have hn2 : ¬ (0 : Int) ≤ -1 := (by omega); have hne : s ≠ [] := (by assumption); simp only [tail1] at *; have hv : ¬ 0 - digS (s.drop 1) < 0 := hE; simp_all [readTok, head118 hne, head102 hne, head45 hne]; intro hz; exfalso; omega)
      | (rw [hrd]; simp [hE])

end Go.Proofs.YtafjkelehnpfcaaDoor
