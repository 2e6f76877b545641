/- Walks: an instruction read from its text, the reference's way. -/
import Derived.Test.YtafjkelehnpfcaaDoorXc
set_option linter.unusedVariables false
set_option linter.unusedSimpArgs false
set_option maxRecDepth 10000
set_option maxHeartbeats 1000000
namespace Go.Proofs.YtafjkelehnpfcaaDoor
open Go.Eng

noncomputable def int19 (s : Tx) : Int × Bool := ((readTok s).1.n, (readTok s).2 && decide ((readTok s).1.op = 1))

theorem l19Int_fun (s : Tx) (hs : s.length ≤ 1048576) : Fun Tryd.prog 29 [.t (T.str s)] (tupD [.t (.int (int19 s).1), .t (.bool (int19 s).2)]) := by
  refine Fun.begin tys Tryd.func29 rfl rfl (N := 19) [(0, .t (T.str s))] rfl rfl (fun w0 G F0 => ?_)
  refine W_seq ?_
  refine W_region ?_
  refine ev ?_
  refine ev ?_
  refine WO_nil ?_
  refine thenQ_n ?_
  refine W_seq ?_
  refine W_region ?_
  refine ev ?_
  refine callB ?_
  refine ⟨_, l2ReadTok_fun _ (by assumption), rfl, ?_⟩
  refine ev ?_
  first | refine WO_evF tys rfl rfl (lt_of rfl) (d := .t _) rfl ?_ | (refine WO_extract rfl rfl (lt_of rfl) rfl rfl rfl rfl ?_; first | refine WO_le (Le.adoptE (u := 9) 9 rfl (by first | exact lenN | exact rfl)) ?_ | skip)
  refine WO_norm rfl ?_
  first | refine WO_evF tys rfl rfl (lt_of rfl) (d := .t _) rfl ?_ | (refine WO_extract rfl rfl (lt_of rfl) rfl rfl rfl rfl ?_; first | refine WO_le (Le.adoptE (u := 10) 10 rfl (by first | exact lenN | exact rfl)) ?_ | skip)
  refine WO_norm rfl ?_
  refine WO_alloc tys rfl rfl (lt_of rfl) rfl rfl rfl ?_
  refine WO_norm rfl ?_
  refine WO_store tys rfl rfl rfl rfl rfl rfl rfl rfl (lt_of rfl) ?_
  refine WO_norm rfl ?_
  refine WO_keep [2, 3, 4, 10] rfl ?_
  refine ev ?_
  refine WO_nil ?_
  refine thenQ_n ?_
  refine W_seq ?_
  refine W_regionD mixed (by kernel_rfl) ?_
  iterate 4 (refine evQ ?_)
  refine QL_split (fun h1 => ?_) (fun h1 => ?_)
  ·
    try simp only [HS] at h1
    refine QL_guardY rfl rfl rfl rfl (lt_of rfl) ?_
    refine evQ ?_
    refine QL_norm rfl ?_
    refine QL_guardY rfl rfl rfl rfl (lt_of rfl) ?_
    refine evQ ?_
    refine QL_guardY rfl rfl rfl rfl (lt_of rfl) ?_
    iterate 4 (refine evQ ?_)
    refine QL_nil ?_
    refine thenQ_n ?_
    refine W_ret ?_
    refine Ends_of (.inr rfl) (ret_okF rfl) (by decide) rfl ?_
    · simp_all [int19]
  try simp only [HS] at h1
  iterate 3 (refine QL_guardN rfl rfl rfl rfl rfl (lt_of rfl) ?_)
  refine evQ ?_
  refine QL_norm rfl ?_
  refine evQ ?_
  refine evQ ?_
  refine QL_nil ?_
  refine thenQ_n ?_
  refine W_ret ?_
  refine Ends_of (.inr rfl) (ret_okF rfl) (by decide) rfl ?_
  · simp_all [int19]

theorem splitG_cons {c : UInt8} : ∀ {l pre : Tx}, ∃ w ws, splitG c pre l = w :: ws
  | [], pre => ⟨pre, [], rfl⟩
  | x :: l, pre => by
    rw [splitG]
    split
    · exact ⟨_, _, rfl⟩
    · exact splitG_cons
noncomputable def numI (k : Int) (W : List Tx) : Option Int :=
  if hasNB k then (if W.length = 2 then (if (int19 (W.getD 1 [])).2 then some (int19 (W.getD 1 [])).1 else none) else none) else if W.length = 1 then some 0 else none
noncomputable def insRd' (k : Int) (W : List Tx) : Ins × Bool :=
  if k < 0 then (⟨0, 0⟩, false) else match numI k W with
    | none => (⟨0, 0⟩, false)
    | some n => if insB ⟨k, n⟩ then (⟨k, n⟩, true) else (⟨0, 0⟩, false)
noncomputable def insRd (s : Tx) : Ins × Bool := insRd' (idxT ((splitG 32 [] s).getD 0 []) (wordsL.drop 1) 1) (splitG 32 [] s)
theorem splitG_len {c : UInt8} : ∀ {l pre : Tx}, (splitG c pre l).length ≤ l.length + 1
  | [], pre => by simp [splitG]
  | x :: l, pre => by
    rw [splitG]
    split
    · have := splitG_len (c := c) (l := l) (pre := []); simp; omega
    · have := splitG_len (c := c) (l := l) (pre := pre ++ [x]); simp; omega
theorem splitG_each {c : UInt8} : ∀ {l pre : Tx} {w : Tx}, w ∈ splitG c pre l → w.length ≤ pre.length + l.length
  | [], pre, w, h => by simp [splitG] at h; subst h; simp
  | x :: l, pre, w, h => by
    rw [splitG] at h
    split at h
    · rcases List.mem_cons.1 h with h | h
      · subst h; simp
      · have := splitG_each h; simp at this ⊢; omega
    · have := splitG_each h; simp at this ⊢; omega

theorem numI_no2 {k : Int} {u0 : Tx} {ws : List Tx} (hh : hasNB k = true) (h : ¬ ((ws.length : Int) + 1 = 2)) : numI k (u0 :: ws) = none := by
  unfold numI; rw [if_pos hh, if_neg (by simp; omega)]
theorem numI_bad {k : Int} {u0 : Tx} {ws : List Tx} (hh : hasNB k = true) (h : (ws.length : Int) + 1 = 2) (hb : ¬ (int19 ((u0 :: ws)[(1 : Int).toNat]'(by show 1 < (u0 :: ws).length; simp; omega))).2 = true) : numI k (u0 :: ws) = none := by
  unfold numI; rw [if_pos hh, if_pos (by simp; omega)]
  match ws, h, hb with
  | [x], _, hb => exact if_neg hb
theorem numI_ok {k : Int} {u0 : Tx} {ws : List Tx} (hh : hasNB k = true) (h : (ws.length : Int) + 1 = 2) (hb : (int19 ((u0 :: ws)[(1 : Int).toNat]'(by show 1 < (u0 :: ws).length; simp; omega))).2 = true) :
    numI k (u0 :: ws) = some (int19 ((u0 :: ws)[(1 : Int).toNat]'(by show 1 < (u0 :: ws).length; simp; omega))).1 := by
  unfold numI; rw [if_pos hh, if_pos (by simp; omega)]
  match ws, h, hb with
  | [x], _, hb => exact if_pos hb
theorem numI_no1 {k : Int} {u0 : Tx} {ws : List Tx} (hh : hasNB k = false) (h : ¬ ((ws.length : Int) + 1 = 1)) : numI k (u0 :: ws) = none := by
  unfold numI; rw [if_neg (by rw [hh]; decide), if_neg (by show ¬ ws.length + 1 = 1; omega)]
theorem numI_1 {k : Int} {u0 : Tx} {ws : List Tx} (hh : hasNB k = false) (h : (ws.length : Int) + 1 = 1) : numI k (u0 :: ws) = some 0 := by
  unfold numI; rw [if_neg (by rw [hh]; decide), if_pos (by show ws.length + 1 = 1; omega)]

theorem specReadIns_fun (s : Tx) (hs : s.length ≤ 1048576) : Fun Tryd.prog 10 [.t (T.str s)] (tupD [.agg [.t (T.int (insRd s).1.op), .t (T.int (insRd s).1.n)], .t (.bool (insRd s).2)]) := by
  have hw : wordsL.length = 19 := rfl
  obtain ⟨u0, ws, hW⟩ : ∃ u0 ws, splitG 32 [] s = u0 :: ws := splitG_cons
  have hsp := l1Split_fun s 32 hs
  rw [hW] at hsp
  have hln := splitG_len (c := 32) (l := s) (pre := [])
  rw [hW] at hln
  have hl2 : ((u0 :: ws).length : Int) = (ws.length : Int) + 1 := by simp
  have hR : insRd s = insRd' (idxT u0 (wordsL.drop 1) 1) (u0 :: ws) := by unfold insRd; rw [hW]; rfl
  have heach : ∀ w, w ∈ u0 :: ws → w.length ≤ 1048576 := fun w h => by have := splitG_each (hW ▸ h); simp at this; omega
  refine Fun.begin tys Tryd.func10 rfl rfl (N := 59) [(0, .t (T.str s))] rfl rfl (fun w0 G F0 => ?_)
  refine W_seq ?_
  refine W_region ?_
  refine WO_alloc tys rfl rfl (lt_of rfl) rfl rfl rfl ?_
  refine WO_norm rfl ?_
  refine ev ?_
  refine WO_nil ?_
  refine thenQ_n ?_
  refine W_seq ?_
  refine W_region ?_
  refine ev ?_
  refine callB ?_
  refine ⟨_, hsp, rfl, ?_⟩
  refine WO_le (Le.freeze (u := 11) rfl) ?_
  refine WO_norm rfl ?_
  refine ev ?_
  refine WO_nil ?_
  refine thenQ_n ?_
  iterate 2 (refine W_seq ?_)
  refine W_region ?_
  refine callB ?_
  refine ⟨_, l5Words_fun, rfl, ?_⟩
  refine WO_le (Le.freeze (u := 12) rfl) ?_
  refine WO_norm rfl ?_
  refine evE ?_
  refine ev ?_
  refine WO_nil ?_
  refine thenQ_n ?_
  refine W_block ?_
  refine W_loopK (α := Int) [0, 2, 3, 4, 12, 13] [] (fun (x : Int) => [(14, .t (.int x))]) (fun (x : Int) => [(2, .box [.t (.int 0), .t (.int 0)])]) (fun (x : Int) => 0 ≤ x ∧ x ≤ 19 ∧ (1 ≤ x → idxT u0 (wordsL.drop 1) 1 = idxT u0 (wordsL.drop x.toNat) x)) (fun (x : Int) => Int.toNat (19 - x)) 0 ?_ ?_ ?_ (fun k hx => ?_)
  · repeat (first | exact Sub.nil' | refine Sub.cons' rfl ?_ )
  · repeat (first | exact SubM.nil' | refine SubM.cons' rfl ?_ )
  · exact ⟨Int.le_refl 0, by decide, fun h => absurd h (by decide)⟩
  obtain ⟨hk0, hk1, he⟩ := hx
  refine W_norm rfl ?_
  refine W_seq ?_
  refine W_region ?_
  refine ev ?_
  refine WO_nil ?_
  refine thenQ_n ?_
  refine W_seq ?_
  refine W_cond rfl (fun h1 => ?_) (fun h1 => ?_)
  ·
    try simp only [HS] at h1
    refine W_skip ?_
    refine thenQ_n ?_
    refine W_seq ?_
    refine W_block ?_
    refine W_seq ?_
    refine W_region ?_
    refine ev ?_
    first | refine WO_idxT tys rfl rfl (lt_of rfl) rfl rfl rfl rfl rfl rfl rfl (by omega) _ (getT _ _ (by omega) (by omega)) ?_ | refine WO_idxS tys rfl rfl (lt_of rfl) rfl rfl rfl rfl rfl rfl rfl rfl (by omega) (by omega) ?_
    first | refine ev ?_ | refine WO_loadL tys rfl rfl (lt_of rfl) rfl rfl rfl rfl (getT _ _ (by omega) (by omega)) rfl ?_ | refine WO_loadL tys rfl rfl (lt_of rfl) rfl rfl rfl rfl (getT0 _ _ (by omega) (by omega)) rfl ?_
    refine ev ?_
    refine ev ?_
    refine WO_nil ?_
    refine thenQ_n ?_
    iterate 2 (refine W_seq ?_)
    refine W_region ?_
    iterate 3 (refine ev ?_)
    refine WO_keep [0, 2, 3, 4, 5, 6, 12, 13, 14, 15, 16, 17, 18, 19, 20, 21] rfl ?_
    refine WO_guard rfl rfl rfl rfl (lt_of rfl) (fun h2 => ?_) (fun h2 => ?_)
    rotate_left
    ·
      try simp only [HS] at h2
      iterate 4 (refine WO_guardN rfl rfl rfl rfl rfl (lt_of rfl) ?_)
      refine ev ?_
      refine WO_nil ?_
      refine thenQ_n ?_
      refine W_condT rfl ?_
      refine W_exit ?_
      refine thenQ_e ?_
      refine inBlk_y ?_
      refine thenQ_n ?_
      refine W_region ?_
      refine evI ?_
      refine ev ?_
      refine WO_nil ?_
      refine loopQ_n _ (by (try dsimp only); repeat (first | exact Sub.nil' | refine Sub.cons' rfl ?_ )) (by (try dsimp only); repeat (first | exact SubM.nil' | refine SubM.cons' rfl ?_ )) ?_ ?_
      · try dsimp only
        refine ⟨by omega, by omega, fun h => ?_⟩
        by_cases hk : k = 0
        · subst hk; rfl
        · have hq := he (by omega)
          rw [idxT_at hk0 (by omega), if_neg (fun e => by first | omega | exact (by assumption : ¬ _ = _) e.symm)] at hq
          exact hq
      · (show Int.toNat _ < Int.toNat _); omega
    try simp only [HS] at h2
    refine ev ?_
    refine WO_guardY rfl rfl rfl rfl (lt_of rfl) ?_
    refine ev ?_
    refine WO_guardY rfl rfl rfl rfl (lt_of rfl) ?_
    first | refine WO_idxT tys rfl rfl (lt_of rfl) rfl rfl rfl rfl rfl rfl rfl (by omega) _ (getT _ _ (by omega) (by omega)) ?_ | refine WO_idxS tys rfl rfl (lt_of rfl) rfl rfl rfl rfl rfl rfl rfl rfl (by omega) (by omega) ?_
    refine WO_guardY rfl rfl rfl rfl (lt_of rfl) ?_
    first | refine ev ?_ | refine WO_loadL tys rfl rfl (lt_of rfl) rfl rfl rfl rfl (getT _ _ (by omega) (by omega)) rfl ?_ | refine WO_loadL tys rfl rfl (lt_of rfl) rfl rfl rfl rfl (getT0 _ _ (by omega) (by omega)) rfl ?_
    refine WO_guardY rfl rfl rfl rfl (lt_of rfl) ?_
    refine WO_binW rfl rfl (lt_of rfl) rfl rfl rfl binStrNe rfl ?_
    refine ev ?_
    refine WO_nil ?_
    refine thenQ_n ?_
    refine W_cond rfl (fun h3 => ?_) (fun h3 => ?_)
    ·
      try simp only [HS] at h3
      refine W_exit ?_
      refine thenQ_e ?_
      refine inBlk_y ?_
      refine thenQ_n ?_
      refine W_region ?_
      refine evI ?_
      refine ev ?_
      refine WO_nil ?_
      refine loopQ_n _ (by (try dsimp only); repeat (first | exact Sub.nil' | refine Sub.cons' rfl ?_ )) (by (try dsimp only); repeat (first | exact SubM.nil' | refine SubM.cons' rfl ?_ )) ?_ ?_
      · try dsimp only
        refine ⟨by omega, by omega, fun h => ?_⟩
        by_cases hk : k = 0
        · subst hk; rfl
        · have hq := he (by omega)
          rw [idxT_at hk0 (by omega), if_neg (fun e => by first | omega | exact (by assumption : ¬ _ = _) e.symm)] at hq
          exact hq
      · (show Int.toNat _ < Int.toNat _); omega
    try simp only [HS] at h3
    refine W_skip ?_
    refine thenQ_n ?_
    refine W_seq ?_
    refine W_region ?_
    refine ev ?_
    refine WO_struct tys rfl rfl (lt_of rfl) rfl rfl rfl (by kernel_rfl) rfl rfl rfl rfl rfl rfl ?_
    refine WO_alloc tys rfl rfl (lt_of rfl) rfl rfl rfl ?_
    refine WO_norm rfl ?_
    refine WO_keep [0, 2, 3, 4, 5, 6, 7, 12, 13, 14, 15, 16, 17, 18, 19, 20, 21, 22, 23, 24, 25, 26, 27, 28, 29] rfl ?_
    refine WO_store tys rfl rfl rfl rfl rfl rfl rfl rfl (lt_of rfl) ?_
    refine WO_norm rfl ?_
    refine WO_nil ?_
    refine thenQ_n ?_
    iterate 2 (refine W_seq ?_)
    refine W_region ?_
    refine ev ?_
    refine callB ?_
    refine ⟨_, hasN_fun _, rfl, ?_⟩
    refine WO_nil ?_
    refine thenQ_n ?_
    refine W_joinN (α := Int) [0, 2, 3, 4, 5, 6, 7, 12, 13, 14, 15, 16, 17, 18, 19, 20, 21, 22, 23, 24, 25, 26, 27, 28, 29, 30, 31] [2] (fun (x : Int) => []) (fun (x : Int) => [(7, .box [.t (.int k), .t (.int x)])]) (fun (x : Int) => numI k (u0 :: ws) = some x) ?_ (fun n hx => ?_)
    ·
      refine W_cond rfl (fun h4 => ?_) (fun h4 => ?_)
      ·
        try simp only [HS] at h4
        iterate 2 (refine W_seq ?_)
        refine W_region ?_
        refine ev ?_
        refine evE ?_
        refine ev ?_
        refine WO_nil ?_
        refine thenQ_n ?_
        refine W_cond rfl (fun h5 => ?_) (fun h5 => ?_)
        ·
          try simp only [HS] at h5
          refine W_seq ?_
          refine W_region ?_
          refine WO_struct tys rfl rfl (lt_of rfl) rfl rfl rfl (by kernel_rfl) rfl rfl rfl rfl rfl rfl ?_
          refine WO_store tys rfl rfl rfl rfl rfl rfl rfl rfl (lt_of rfl) ?_
          refine WO_norm rfl ?_
          refine ev ?_
          refine WO_keep [0, 2, 3, 4, 5, 6, 7, 12, 13, 14, 15, 16, 17, 18, 19, 20, 21, 22, 23, 24, 25, 26, 27, 28, 29, 30, 31, 32, 33, 34, 35] rfl ?_
          refine WO_nil ?_
          refine thenQ_n ?_
          refine W_ret ?_
          refine thenQ_r ?_
          refine joinQ_r ?_
          refine thenQ_r ?_
          refine inBlk_r ?_
          refine thenQ_r ?_
          refine loopQ_r ?_
          refine inBlk_r ?_
          refine thenQ_r ?_
          refine Ends_of (.inr rfl) (ret_okF rfl) (by decide) rfl ?_
          · first
            | (have hq : idxT u0 (wordsL.drop 1) 1 = -1 := (he (by omega)).trans (by simp only [drop_end (show ((wordsL.length : Nat) : Int) ≤ k by omega), idxT]); rw [hR, hq]; rfl)
            | (have hq := he (by omega); rw [idxT_at hk0 (by omega), if_pos (Eq.symm (by assumption))] at hq; have hk3 : ¬ k < 0 := (by omega); rw [hR, hq]; simp only [insRd', if_neg hk3, hnum]; simp_all; done)
            | (have hq := he (by omega); rw [idxT_at hk0 (by omega), if_pos (Eq.symm (by assumption))] at hq; have hk3 : ¬ k < 0 := (by omega); suffices hnn : numI k (u0 :: ws) = none from (by rw [hR, hq]; simp only [insRd', if_neg hk3, hnn]); first | exact numI_no2 (by assumption) (by omega) | exact numI_bad (by assumption) (by omega) (Bool.eq_false_iff.1 (by assumption)) | (refine numI_no1 ?_ (by omega); first | assumption | (simp_all; done)))
        try simp only [HS] at h5
        refine W_skip ?_
        refine thenQ_n ?_
        refine W_seq ?_
        refine W_region ?_
        refine ev ?_
        first | refine WO_idxT tys rfl rfl (lt_of rfl) rfl rfl rfl rfl rfl rfl rfl (by omega) _ (getT _ _ (by omega) (by omega)) ?_ | refine WO_idxS tys rfl rfl (lt_of rfl) rfl rfl rfl rfl rfl rfl rfl rfl (by omega) (by omega) ?_
        first | refine ev ?_ | refine WO_loadL tys rfl rfl (lt_of rfl) rfl rfl rfl rfl (getT _ _ (by omega) (by omega)) rfl ?_ | refine WO_loadL tys rfl rfl (lt_of rfl) rfl rfl rfl rfl (getT0 _ _ (by omega) (by omega)) rfl ?_
        refine WO_keep [0, 2, 3, 4, 5, 6, 7, 12, 13, 14, 15, 16, 17, 18, 19, 20, 21, 22, 23, 24, 25, 26, 27, 28, 29, 30, 31, 32, 33, 34, 37, 38, 39] rfl ?_
        refine callB ?_
        refine ⟨_, l19Int_fun _ (heach _ (List.getElem_mem _)), rfl, ?_⟩
        refine ev ?_
        first | refine WO_evF tys rfl rfl (lt_of rfl) (d := .t _) rfl ?_ | (refine WO_extract rfl rfl (lt_of rfl) rfl rfl rfl rfl ?_; first | refine WO_le (Le.adoptE (u := 41) 41 rfl (by first | exact lenN | exact rfl)) ?_ | skip)
        refine WO_norm rfl ?_
        first | refine WO_evF tys rfl rfl (lt_of rfl) (d := .t _) rfl ?_ | (refine WO_extract rfl rfl (lt_of rfl) rfl rfl rfl rfl ?_; first | refine WO_le (Le.adoptE (u := 42) 42 rfl (by first | exact lenN | exact rfl)) ?_ | skip)
        refine WO_norm rfl ?_
        refine ev ?_
        refine ev ?_
        refine WO_nil ?_
        refine thenQ_n ?_
        iterate 2 (refine W_seq ?_)
        refine W_region ?_
        refine ev ?_
        refine ev ?_
        refine WO_nil ?_
        refine thenQ_n ?_
        refine W_cond rfl (fun h6 => ?_) (fun h6 => ?_)
        ·
          try simp only [HS] at h6
          refine W_seq ?_
          refine W_keep [0, 2, 3, 4, 5, 6, 7, 8, 9, 12, 13, 14, 15, 16, 17, 18, 19, 20, 21, 22, 23, 24, 25, 26, 27, 28, 29, 30, 31, 32, 33, 34, 36, 37, 38, 39, 40, 41, 42, 43, 44] rfl ?_
          refine W_region ?_
          refine WO_struct tys rfl rfl (lt_of rfl) rfl rfl rfl (by kernel_rfl) rfl rfl rfl rfl rfl rfl ?_
          refine WO_store tys rfl rfl rfl rfl rfl rfl rfl rfl (lt_of rfl) ?_
          refine WO_norm rfl ?_
          refine ev ?_
          refine WO_nil ?_
          refine thenQ_n ?_
          refine W_ret ?_
          refine thenQ_r ?_
          refine joinQ_r ?_
          refine thenQ_r ?_
          refine inBlk_r ?_
          refine thenQ_r ?_
          refine loopQ_r ?_
          refine inBlk_r ?_
          refine thenQ_r ?_
          refine Ends_of (.inr rfl) (ret_okF rfl) (by decide) rfl ?_
          · first
            | (have hq : idxT u0 (wordsL.drop 1) 1 = -1 := (he (by omega)).trans (by simp only [drop_end (show ((wordsL.length : Nat) : Int) ≤ k by omega), idxT]); rw [hR, hq]; rfl)
            | (have hq := he (by omega); rw [idxT_at hk0 (by omega), if_pos (Eq.symm (by assumption))] at hq; have hk3 : ¬ k < 0 := (by omega); rw [hR, hq]; simp only [insRd', if_neg hk3, hnum]; simp_all; done)
            | (have hq := he (by omega); rw [idxT_at hk0 (by omega), if_pos (Eq.symm (by assumption))] at hq; have hk3 : ¬ k < 0 := (by omega); suffices hnn : numI k (u0 :: ws) = none from (by rw [hR, hq]; simp only [insRd', if_neg hk3, hnn]); first | exact numI_no2 (by assumption) (by omega) | exact numI_bad (by assumption) (by omega) (Bool.eq_false_iff.1 (by assumption)) | (refine numI_no1 ?_ (by omega); first | assumption | (simp_all; done)))
        try simp only [HS] at h6
        refine W_skip ?_
        refine thenQ_n ?_
        refine W_keep [0, 2, 3, 4, 5, 6, 7, 8, 9, 12, 13, 14, 15, 16, 17, 18, 19, 20, 21, 22, 23, 24, 25, 26, 27, 28, 29, 30, 31, 32, 33, 34, 36, 37, 38, 39, 40, 41, 42, 43, 44] rfl ?_
        refine W_region ?_
        refine ev ?_
        refine ev ?_
        refine WO_store tys rfl rfl rfl rfl rfl rfl rfl rfl (lt_of rfl) ?_
        refine WO_norm rfl ?_
        refine WO_nil ?_
        refine joinQ_n _ (by (try dsimp only); repeat (first | exact Sub.nil' | refine Sub.cons' rfl ?_)) (by (try dsimp only); repeat (first | exact SubM.nil' | refine SubM.cons' rfl ?_)) ?_
        try dsimp only
        first
        | exact numI_ok (by assumption) (by omega) (by first | assumption | (simp_all; done))
        | exact numI_1 (by first | assumption | (simp_all; done)) (by omega)
      try simp only [HS] at h4
      refine W_seq ?_
      refine W_region ?_
      refine ev ?_
      refine evE ?_
      refine ev ?_
      refine WO_nil ?_
      refine thenQ_n ?_
      refine W_cond rfl (fun h5 => ?_) (fun h5 => ?_)
      ·
        try simp only [HS] at h5
        refine W_seq ?_
        refine W_region ?_
        refine WO_struct tys rfl rfl (lt_of rfl) rfl rfl rfl (by kernel_rfl) rfl rfl rfl rfl rfl rfl ?_
        refine WO_store tys rfl rfl rfl rfl rfl rfl rfl rfl (lt_of rfl) ?_
        refine WO_norm rfl ?_
        refine ev ?_
        refine WO_keep [0, 2, 3, 4, 5, 6, 7, 12, 13, 14, 15, 16, 17, 18, 19, 20, 21, 22, 23, 24, 25, 26, 27, 28, 29, 30, 31, 48, 49, 50, 51] rfl ?_
        refine WO_nil ?_
        refine thenQ_n ?_
        refine W_ret ?_
        refine joinQ_r ?_
        refine thenQ_r ?_
        refine inBlk_r ?_
        refine thenQ_r ?_
        refine loopQ_r ?_
        refine inBlk_r ?_
        refine thenQ_r ?_
        refine Ends_of (.inr rfl) (ret_okF rfl) (by decide) rfl ?_
        · first
          | (have hq : idxT u0 (wordsL.drop 1) 1 = -1 := (he (by omega)).trans (by simp only [drop_end (show ((wordsL.length : Nat) : Int) ≤ k by omega), idxT]); rw [hR, hq]; rfl)
          | (have hq := he (by omega); rw [idxT_at hk0 (by omega), if_pos (Eq.symm (by assumption))] at hq; have hk3 : ¬ k < 0 := (by omega); rw [hR, hq]; simp only [insRd', if_neg hk3, hnum]; simp_all; done)
          | (have hq := he (by omega); rw [idxT_at hk0 (by omega), if_pos (Eq.symm (by assumption))] at hq; have hk3 : ¬ k < 0 := (by omega); suffices hnn : numI k (u0 :: ws) = none from (by rw [hR, hq]; simp only [insRd', if_neg hk3, hnn]); first | exact numI_no2 (by assumption) (by omega) | exact numI_bad (by assumption) (by omega) (Bool.eq_false_iff.1 (by assumption)) | (refine numI_no1 ?_ (by omega); first | assumption | (simp_all; done)))
      try simp only [HS] at h5
      refine W_skip ?_
      refine joinQ_n _ (by (try dsimp only); repeat (first | exact Sub.nil' | refine Sub.cons' rfl ?_)) (by (try dsimp only); repeat (first | exact SubM.nil' | refine SubM.cons' rfl ?_)) ?_
      try dsimp only
      first
      | exact numI_ok (by assumption) (by omega) (by first | assumption | (simp_all; done))
      | exact numI_1 (by first | assumption | (simp_all; done)) (by omega)
    have hnum := hx
    refine thenQ_n ?_
    iterate 2 (refine W_seq ?_)
    refine W_keep [0, 2, 3, 4, 5, 6, 7, 12, 13, 14, 15, 16, 17, 18, 19, 20, 21, 22, 23, 24, 25, 26, 27, 28, 29, 30, 31] rfl ?_
    refine W_region ?_
    first | (refine ev ?_; try refine WO_le (Le.freeze (u := 52) rfl) ?_) | refine WO_loadMove tys rfl rfl (lt_of rfl) rfl rfl rfl rfl rfl rfl ?_
    refine WO_norm rfl ?_
    refine callB ?_
    refine ⟨_, l5Ins_fun ⟨_, _⟩, rfl, ?_⟩
    refine ev ?_
    refine WO_nil ?_
    refine thenQ_n ?_
    refine W_cond rfl (fun h4 => ?_) (fun h4 => ?_)
    ·
      try simp only [HS] at h4
      refine W_seq ?_
      refine W_region ?_
      refine WO_struct tys rfl rfl (lt_of rfl) rfl rfl rfl (by kernel_rfl) rfl rfl rfl rfl rfl rfl ?_
      refine WO_store tys rfl rfl rfl rfl rfl rfl rfl rfl (lt_of rfl) ?_
      refine WO_norm rfl ?_
      refine ev ?_
      refine WO_nil ?_
      refine thenQ_n ?_
      refine W_ret ?_
      refine thenQ_r ?_
      refine inBlk_r ?_
      refine thenQ_r ?_
      refine loopQ_r ?_
      refine inBlk_r ?_
      refine thenQ_r ?_
      refine Ends_of (.inr rfl) (ret_okF rfl) (by decide) rfl ?_
      · first
        | (have hq : idxT u0 (wordsL.drop 1) 1 = -1 := (he (by omega)).trans (by simp only [drop_end (show ((wordsL.length : Nat) : Int) ≤ k by omega), idxT]); rw [hR, hq]; rfl)
        | (have hq := he (by omega); rw [idxT_at hk0 (by omega), if_pos (Eq.symm (by assumption))] at hq; have hk3 : ¬ k < 0 := (by omega); rw [hR, hq]; simp only [insRd', if_neg hk3, hnum]; simp_all; done)
        | (have hq := he (by omega); rw [idxT_at hk0 (by omega), if_pos (Eq.symm (by assumption))] at hq; have hk3 : ¬ k < 0 := (by omega); suffices hnn : numI k (u0 :: ws) = none from (by rw [hR, hq]; simp only [insRd', if_neg hk3, hnn]); first | exact numI_no2 (by assumption) (by omega) | exact numI_bad (by assumption) (by omega) (Bool.eq_false_iff.1 (by assumption)) | (refine numI_no1 ?_ (by omega); first | assumption | (simp_all; done)))
    try simp only [HS] at h4
    refine W_skip ?_
    refine thenQ_n ?_
    refine W_seq ?_
    refine W_region ?_
    first | (refine ev ?_; try refine WO_le (Le.freeze (u := 56) rfl) ?_) | refine WO_loadMove tys rfl rfl (lt_of rfl) rfl rfl rfl rfl rfl rfl ?_
    refine WO_norm rfl ?_
    refine WO_store tys rfl rfl rfl rfl rfl rfl rfl rfl (lt_of rfl) ?_
    refine WO_norm rfl ?_
    refine ev ?_
    refine WO_nil ?_
    refine thenQ_n ?_
    refine W_ret ?_
    refine inBlk_r ?_
    refine thenQ_r ?_
    refine loopQ_r ?_
    refine inBlk_r ?_
    refine thenQ_r ?_
    refine Ends_of (.inr rfl) (ret_okF rfl) (by decide) rfl ?_
    · first
      | (have hq : idxT u0 (wordsL.drop 1) 1 = -1 := (he (by omega)).trans (by simp only [drop_end (show ((wordsL.length : Nat) : Int) ≤ k by omega), idxT]); rw [hR, hq]; rfl)
      | (have hq := he (by omega); rw [idxT_at hk0 (by omega), if_pos (Eq.symm (by assumption))] at hq; have hk3 : ¬ k < 0 := (by omega); rw [hR, hq]; simp only [insRd', if_neg hk3, hnum]; simp_all; done)
      | (have hq := he (by omega); rw [idxT_at hk0 (by omega), if_pos (Eq.symm (by assumption))] at hq; have hk3 : ¬ k < 0 := (by omega); suffices hnn : numI k (u0 :: ws) = none from (by rw [hR, hq]; simp only [insRd', if_neg hk3, hnn]); first | exact numI_no2 (by assumption) (by omega) | exact numI_bad (by assumption) (by omega) (Bool.eq_false_iff.1 (by assumption)) | (refine numI_no1 ?_ (by omega); first | assumption | (simp_all; done)))
  try simp only [HS] at h1
  refine W_exit ?_
  refine thenQ_e ?_
  refine loopQ_e ?_
  refine inBlk_y ?_
  refine thenQ_n ?_
  refine W_seq ?_
  refine W_region ?_
  refine WO_struct tys rfl rfl (lt_of rfl) rfl rfl rfl (by kernel_rfl) rfl rfl rfl rfl rfl rfl ?_
  refine WO_store tys rfl rfl rfl rfl rfl rfl rfl rfl (lt_of rfl) ?_
  refine WO_norm rfl ?_
  refine ev ?_
  refine WO_nil ?_
  refine thenQ_n ?_
  refine W_ret ?_
  refine Ends_of (.inr rfl) (ret_okF rfl) (by decide) rfl ?_
  · first
    | (have hq : idxT u0 (wordsL.drop 1) 1 = -1 := (he (by omega)).trans (by simp only [drop_end (show ((wordsL.length : Nat) : Int) ≤ k by omega), idxT]); rw [hR, hq]; rfl)
    | (have hq := he (by omega); rw [idxT_at hk0 (by omega), if_pos (Eq.symm (by assumption))] at hq; have hk3 : ¬ k < 0 := (by omega); rw [hR, hq]; simp only [insRd', if_neg hk3, hnum]; simp_all; done)
    | (have hq := he (by omega); rw [idxT_at hk0 (by omega), if_pos (Eq.symm (by assumption))] at hq; have hk3 : ¬ k < 0 := (by omega); suffices hnn : numI k (u0 :: ws) = none from (by rw [hR, hq]; simp only [insRd', if_neg hk3, hnn]); first | exact numI_no2 (by assumption) (by omega) | exact numI_bad (by assumption) (by omega) (Bool.eq_false_iff.1 (by assumption)) | (refine numI_no1 ?_ (by omega); first | assumption | (simp_all; done)))
end Go.Proofs.YtafjkelehnpfcaaDoor
