/- Walks: texts cut, words, digits. -/
import Derived.Test.YtafjkelehnpfcaaDoorXa
set_option linter.unusedVariables false
set_option linter.unusedSimpArgs false
set_option maxRecDepth 10000
set_option maxHeartbeats 1000000
namespace Go.Proofs.YtafjkelehnpfcaaDoor
open Go.Eng

theorem l1Split_fun (s : Tx) (c : UInt8) (hs : s.length ≤ 1048576) : Fun Tryd.prog 26 [.t (T.str s), .t (T.byte c)] (tupD [.own (T.strs (splitG c [] s))]) := by
  refine Fun.begin tys Tryd.func26 rfl rfl (N := 34) [(0, .t (T.str s)), (1, .t (T.byte c))] rfl rfl (fun w0 G F0 => ?_)
  refine W_seq ?_
  refine W_region ?_
  refine ev ?_
  refine WO_nil ?_
  refine thenQ_n ?_
  refine W_seq ?_
  refine W_region ?_
  refine ev ?_
  refine WO_le (Le.nilOwn (u := 5) 1 rfl) ?_
  refine WO_le (Le.adoptE (u := 5) 5 rfl rfl) ?_
  refine WO_norm rfl ?_
  refine WO_nil ?_
  refine thenQ_n ?_
  refine W_seq ?_
  refine W_region ?_
  refine ev ?_
  refine WO_nil ?_
  refine thenQ_n ?_
  iterate 2 (refine W_seq ?_)
  refine W_region ?_
  refine ev ?_
  refine WO_nil ?_
  refine thenQ_n ?_
  refine W_block ?_
  refine W_loopK (α := Int × Int × Nat × List T) [0, 1] [] (fun (x : Int × Int × Nat × List T) => [(6, .t (.int (x.2.1))), (7, .t (.int (x.1))), (5, .sl 5 0 (x.2.2.1))]) (fun (x : Int × Int × Nat × List T) => [(5, .L 1 (x.2.2.2))]) (fun (x : Int × Int × Nat × List T) => 0 ≤ (x.2.1) ∧ (x.2.1) ≤ (x.1) ∧ (x.1) ≤ s.length ∧ (x.2.2.1) = (x.2.2.2).length ∧ (x.2.2.2).length ≤ (x.1) ∧ ∃ done : List Tx, (x.2.2.2) = done.map T.str ∧ splitG c [] s = done ++ splitG c ((s.drop (x.2.1).toNat).take ((x.1).toNat - (x.2.1).toNat)) (s.drop (x.1).toNat)) (fun (x : Int × Int × Nat × List T) => Int.toNat (s.length - (x.1))) (0, 0, 0, []) ?_ ?_ ?_ (fun x hx => ?_)
  · repeat (first | exact Sub.nil' | refine Sub.cons' rfl ?_ )
  · repeat (first | exact SubM.nil' | refine SubM.cons' rfl ?_ )
  · exact ⟨Int.le_refl 0, Int.le_refl 0, Int.natCast_nonneg _, rfl, Int.le_refl 0, [], rfl, rfl⟩
  obtain ⟨i, f, m, xs⟩ := x
  obtain ⟨hf0, hfi, hi1, hm, hx, done, hd, he⟩ := hx
  try dsimp only at hf0 hfi hi1 hm hx hd he ⊢
  refine W_norm rfl ?_
  iterate 2 (refine W_seq ?_)
  refine W_region ?_
  refine ev ?_
  refine ev ?_
  refine WO_strLen rfl rfl (lt_of rfl) rfl (by kernel_rfl) rfl ?_
  refine ev ?_
  refine WO_nil ?_
  refine thenQ_n ?_
  refine W_cond rfl (fun h1 => ?_) (fun h1 => ?_)
  ·
    try simp only [HS] at h1
    refine W_skip ?_
    refine thenQ_n ?_
    refine W_seq ?_
    refine W_block ?_
    refine W_seq ?_
    refine W_region ?_
    refine ev ?_
    refine ev ?_
    refine WO_strIdx rfl rfl (lt_of rfl) rfl (by kernel_rfl) rfl rfl (by omega) (by omega) ?_
    refine ev ?_
    refine WO_binW rfl rfl (lt_of rfl) rfl rfl rfl binIEql rfl ?_
    refine WO_keep [0, 1, 5, 6, 7, 8, 9, 10, 11, 14, 15, 16, 17, 18] rfl ?_
    refine WO_nil ?_
    refine thenQ_n ?_
    refine W_cond rfl (fun h2 => ?_) (fun h2 => ?_)
    ·
      try simp only [HS] at h2
      refine W_seq ?_
      refine W_region ?_
      iterate 4 (refine ev ?_)
      refine WO_strSlice rfl rfl (lt_of rfl) rfl (by kernel_rfl) rfl rfl rfl (by omega) (by omega) (by omega) ?_
      refine WO_buildSlice tys [T.str ((s.drop f.toNat).take (i.toNat - f.toNat))] rfl rfl (lt_of rfl) rfl rfl rfl rfl rfl (lt_of rfl) (by repeat (first | exact PartsOk.nil' | refine PartsOk.cons' rfl (by repeat (first | exact AbsL.nil' | refine AbsL.v' ?_ | refine AbsL.own' ?_ | refine AbsL.none' ?_)) rfl ?_)) (by first | exact List.nodup_nil | exact nodup1 _ | decide | exact nodupB_sound rfl) rfl (by decide) ?_
      refine WO_norm rfl ?_
      first | refine WO_append tys rfl rfl (lt_of rfl) rfl rfl rfl rfl rfl (.own rfl (by first | omega | (simp only [List.length_append]; omega))) rfl (.own rfl (by first | decide | omega)) (by decide) (by simp only [List.length_take, List.length_cons, List.length_nil]; omega) (by decide) rfl ?_ | refine WO_append tys rfl rfl (lt_of rfl) rfl rfl rfl rfl rfl .nil rfl (.own rfl (by first | decide | omega)) (by decide) (by simp only [List.length_take, List.length_cons, List.length_nil]; omega) (by decide) rfl ?_
      refine WO_norm rfl ?_
      refine ev ?_
      refine WO_nil ?_
      refine thenQ_n ?_
      refine W_keep [0, 1, 5, 6, 7, 8, 9, 10, 11, 14, 15, 16, 17, 18, 19, 20, 21, 22, 23, 24, 25] rfl ?_
      refine W_region ?_
      refine ev ?_
      refine evI ?_
      refine ev ?_
      refine WO_nil ?_
      refine inBlk_n ?_
      refine thenQ_n ?_
      refine W_region ?_
      refine ev ?_
      refine evI ?_
      refine ev ?_
      refine WO_nil ?_
      refine loopQ_n (_, _, _, _) (by (try dsimp only); repeat (first | exact Sub.nil' | refine Sub.cons' rfl ?_ )) (by (try dsimp only); repeat (first | exact SubM.nil' | refine SubM.cons' rfl ?_ )) ?_ ?_
      · try dsimp only
        rw [splitG_at hf0 hfi h1] at he
        subst hm
        first
        | (refine ⟨by omega, by omega, by omega, by simp, by simp; omega, done ++ [(s.drop f.toNat).take (i.toNat - f.toNat)], by rw [List.take_length, hd]; simp, ?_⟩; rw [he, if_pos (byteI.1 (by assumption))]; simp; done)
        | (refine ⟨by omega, by omega, by omega, rfl, by omega, done, hd, ?_⟩; rw [he, if_neg (mt byteI.2 (by assumption))]; done)
      · (show Int.toNat _ < Int.toNat _); omega
    try simp only [HS] at h2
    refine W_skip ?_
    refine inBlk_n ?_
    refine thenQ_n ?_
    refine W_region ?_
    refine ev ?_
    refine evI ?_
    refine ev ?_
    refine WO_nil ?_
    refine loopQ_n (_, _, _, _) (by (try dsimp only); repeat (first | exact Sub.nil' | refine Sub.cons' rfl ?_ )) (by (try dsimp only); repeat (first | exact SubM.nil' | refine SubM.cons' rfl ?_ )) ?_ ?_
    · try dsimp only
      rw [splitG_at hf0 hfi h1] at he
      subst hm
      first
      | (refine ⟨by omega, by omega, by omega, by simp, by simp; omega, done ++ [(s.drop f.toNat).take (i.toNat - f.toNat)], by rw [List.take_length, hd]; simp, ?_⟩; rw [he, if_pos (byteI.1 (by assumption))]; simp; done)
      | (refine ⟨by omega, by omega, by omega, rfl, by omega, done, hd, ?_⟩; rw [he, if_neg (mt byteI.2 (by assumption))]; done)
    · (show Int.toNat _ < Int.toNat _); omega
  try simp only [HS] at h1
  refine W_exit ?_
  refine thenQ_e ?_
  refine loopQ_e ?_
  refine inBlk_y ?_
  refine thenQ_n ?_
  refine W_seq ?_
  refine W_region ?_
  iterate 3 (refine ev ?_)
  refine WO_strSlice rfl rfl (lt_of rfl) rfl (by kernel_rfl) rfl rfl rfl (by omega) (by omega) (by omega) ?_
  refine WO_buildSlice tys [T.str ((s.drop f.toNat).take ((s.length : Int).toNat - f.toNat))] rfl rfl (lt_of rfl) rfl rfl rfl rfl rfl (lt_of rfl) (by repeat (first | exact PartsOk.nil' | refine PartsOk.cons' rfl (by repeat (first | exact AbsL.nil' | refine AbsL.v' ?_ | refine AbsL.own' ?_ | refine AbsL.none' ?_)) rfl ?_)) (by first | exact List.nodup_nil | exact nodup1 _ | decide | exact nodupB_sound rfl) rfl (by decide) ?_
  refine WO_norm rfl ?_
  refine WO_keep [28, 32] rfl ?_
  first | refine WO_append tys rfl rfl (lt_of rfl) rfl rfl rfl rfl rfl (.own rfl (by first | omega | (simp only [List.length_append]; omega))) rfl (.own rfl (by first | decide | omega)) (by decide) (by simp only [List.length_take, List.length_cons, List.length_nil]; omega) (by decide) rfl ?_ | refine WO_append tys rfl rfl (lt_of rfl) rfl rfl rfl rfl rfl .nil rfl (.own rfl (by first | decide | omega)) (by decide) (by simp only [List.length_take, List.length_cons, List.length_nil]; omega) (by decide) rfl ?_
  refine WO_norm rfl ?_
  refine ev ?_
  refine WO_nil ?_
  refine thenQ_n ?_
  refine W_le (Le.gather (u := 4) (id := 5) rfl rfl (by first | (simp; done) | (simp; omega) | omega)) ?_
  refine W_ret ?_
  refine Ends_of (.inr rfl) (ret_okF rfl) (by decide) rfl ?_
  · (rw [he, splitG_end (by omega) hi1, hm, hd, List.take_of_length_le (show (s.drop f.toNat).length ≤ (s.length : Int).toNat - f.toNat by rw [List.length_drop]; omega)]; simp only [T.strs]; simp [List.take_of_length_le])

def wordsL : List Tx := [[], [110, 117, 109], [118, 97, 114], [115, 101, 116], [114, 101, 99, 107, 111, 110], [105, 110, 112, 117, 116], [114, 101, 99, 111, 118, 101, 114], [99, 97, 108, 108], [112, 114, 105, 110, 116], [100, 114, 111, 112], [106, 117, 109, 112], [117, 110, 108, 101, 115, 115], [112, 117, 116], [112, 97, 110, 105, 99], [101, 120, 105, 116], [114, 101, 115, 117, 108, 116], [108, 101, 97, 118, 101], [111, 102, 102], [101, 110, 100]]
def wordsT : List Tx := [[], [], [], [43], [45], [42], [47], [60], [61], [105, 110], [114, 101, 99]]

theorem l5Words_fun  : Fun Tryd.prog 27 [] (tupD [.own (T.strs wordsL)]) := by
  refine Fun.begin tys Tryd.func27 rfl rfl (N := 2) [] rfl rfl (fun w0 G F0 => ?_)
  refine W_seq ?_
  refine W_region ?_
  refine ev ?_
  refine WO_nil ?_
  refine thenQ_n ?_
  refine W_seq ?_
  refine W_region ?_
  refine WO_buildSlice tys [T.str [], T.str [110, 117, 109], T.str [118, 97, 114], T.str [115, 101, 116], T.str [114, 101, 99, 107, 111, 110], T.str [105, 110, 112, 117, 116], T.str [114, 101, 99, 111, 118, 101, 114], T.str [99, 97, 108, 108], T.str [112, 114, 105, 110, 116], T.str [100, 114, 111, 112], T.str [106, 117, 109, 112], T.str [117, 110, 108, 101, 115, 115], T.str [112, 117, 116], T.str [112, 97, 110, 105, 99], T.str [101, 120, 105, 116], T.str [114, 101, 115, 117, 108, 116], T.str [108, 101, 97, 118, 101], T.str [111, 102, 102], T.str [101, 110, 100]] rfl rfl (lt_of rfl) rfl rfl rfl rfl rfl (lt_of rfl) (by repeat (first | exact PartsOk.nil' | refine PartsOk.cons' rfl (by repeat (first | exact AbsL.nil' | refine AbsL.v' ?_ | refine AbsL.own' ?_ | refine AbsL.none' ?_)) rfl ?_)) (by first | exact List.nodup_nil | exact nodup1 _ | decide | exact nodupB_sound rfl) rfl (by decide) ?_
  refine WO_norm rfl ?_
  refine ev ?_
  refine WO_nil ?_
  refine thenQ_n ?_
  refine W_le (Le.gather (u := 0) (id := 1) rfl rfl (by decide)) ?_
  refine W_ret ?_
  refine Ends_of (.inr rfl) (ret_okF rfl) (by decide) rfl ?_
  · first | rfl | (simp_all; done)

theorem l2Words_fun  : Fun Tryd.prog 73 [] (tupD [.own (T.strs wordsT)]) := by
  refine Fun.begin tys Tryd.func73 rfl rfl (N := 2) [] rfl rfl (fun w0 G F0 => ?_)
  refine W_seq ?_
  refine W_region ?_
  refine ev ?_
  refine WO_nil ?_
  refine thenQ_n ?_
  refine W_seq ?_
  refine W_region ?_
  refine WO_buildSlice tys [T.str [], T.str [], T.str [], T.str [43], T.str [45], T.str [42], T.str [47], T.str [60], T.str [61], T.str [105, 110], T.str [114, 101, 99]] rfl rfl (lt_of rfl) rfl rfl rfl rfl rfl (lt_of rfl) (by repeat (first | exact PartsOk.nil' | refine PartsOk.cons' rfl (by repeat (first | exact AbsL.nil' | refine AbsL.v' ?_ | refine AbsL.own' ?_ | refine AbsL.none' ?_)) rfl ?_)) (by first | exact List.nodup_nil | exact nodup1 _ | decide | exact nodupB_sound rfl) rfl (by decide) ?_
  refine WO_norm rfl ?_
  refine ev ?_
  refine WO_nil ?_
  refine thenQ_n ?_
  refine W_le (Le.gather (u := 0) (id := 1) rfl rfl (by decide)) ?_
  refine W_ret ?_
  refine Ends_of (.inr rfl) (ret_okF rfl) (by decide) rfl ?_
  · first | rfl | (simp_all; done)

theorem l2Digits_fun (s : Tx) (hs : s.length ≤ 1048576) : Fun Tryd.prog 74 [.t (T.str s)] (tupD [.t (.int (digS s))]) := by
  refine Fun.begin tys Tryd.func74 rfl rfl (N := 48) [(0, .t (T.str s))] rfl rfl (fun w0 G F0 => ?_)
  refine W_seq ?_
  refine W_region ?_
  refine ev ?_
  refine WO_nil ?_
  refine thenQ_n ?_
  iterate 2 (refine W_seq ?_)
  refine W_region ?_
  refine ev ?_
  refine WO_strLen rfl rfl (lt_of rfl) rfl (by kernel_rfl) rfl ?_
  refine ev ?_
  refine ev ?_
  refine WO_guard rfl rfl rfl rfl (lt_of rfl) (fun h1 => ?_) (fun h1 => ?_)
  rotate_left
  ·
    try simp only [HS] at h1
    iterate 2 (refine WO_guardN rfl rfl rfl rfl rfl (lt_of rfl) ?_)
    refine ev ?_
    refine ev ?_
    refine WO_keep [0, 2, 13] rfl ?_
    iterate 4 (refine WO_guardN rfl rfl rfl rfl rfl (lt_of rfl) ?_)
    iterate 3 (refine WO_guardS rfl rfl rfl rfl (lt_of rfl) ?_)
    refine WO_guardN rfl rfl rfl rfl rfl (lt_of rfl) ?_
    refine ev ?_
    refine WO_keep [0, 2, 22] rfl ?_
    refine WO_nil ?_
    refine thenQ_n ?_
    refine W_condT rfl ?_
    refine W_seq ?_
    refine W_region ?_
    refine ev ?_
    refine WO_nil ?_
    refine thenQ_n ?_
    refine W_ret ?_
    refine thenQ_r ?_
    refine Ends_of (.inr rfl) (ret_okF rfl) (by decide) rfl ?_
    · first
      | exact retI (digS_nil (by omega)).symm
      | exact retI (digS_long (by omega)).symm
      | exact retI (digS_z (by omega) (by omega) (by omega)).symm
      | exact retI ((digS_go (by omega) (by omega) (by omega)).trans (he.trans (digG_no hi0 (by omega) (by omega)))).symm
      | exact retI ((digS_go (by omega) (by omega) (by omega)).trans (he.trans (digG_end (by omega)))).symm
  try simp only [HS] at h1
  refine ev ?_
  refine WO_guardY rfl rfl rfl rfl (lt_of rfl) ?_
  refine WO_strLen rfl rfl (lt_of rfl) rfl (by kernel_rfl) rfl ?_
  refine WO_guardY rfl rfl rfl rfl (lt_of rfl) ?_
  refine ev ?_
  refine ev ?_
  refine WO_keep [0, 2, 12] rfl ?_
  refine ev ?_
  refine WO_guard rfl rfl rfl rfl (lt_of rfl) (fun h2 => ?_) (fun h2 => ?_)
  rotate_left
  ·
    try simp only [HS] at h2
    iterate 3 (refine WO_guardN rfl rfl rfl rfl rfl (lt_of rfl) ?_)
    iterate 3 (refine WO_guardS rfl rfl rfl rfl (lt_of rfl) ?_)
    refine WO_guardN rfl rfl rfl rfl rfl (lt_of rfl) ?_
    refine ev ?_
    refine WO_keep [0, 2, 22] rfl ?_
    refine WO_nil ?_
    refine thenQ_n ?_
    refine W_condT rfl ?_
    refine W_seq ?_
    refine W_region ?_
    refine ev ?_
    refine WO_nil ?_
    refine thenQ_n ?_
    refine W_ret ?_
    refine thenQ_r ?_
    refine Ends_of (.inr rfl) (ret_okF rfl) (by decide) rfl ?_
    · first
      | exact retI (digS_nil (by omega)).symm
      | exact retI (digS_long (by omega)).symm
      | exact retI (digS_z (by omega) (by omega) (by omega)).symm
      | exact retI ((digS_go (by omega) (by omega) (by omega)).trans (he.trans (digG_no hi0 (by omega) (by omega)))).symm
      | exact retI ((digS_go (by omega) (by omega) (by omega)).trans (he.trans (digG_end (by omega)))).symm
  try simp only [HS] at h2
  refine ev ?_
  refine WO_guardY rfl rfl rfl rfl (lt_of rfl) ?_
  refine WO_strIdx rfl rfl (lt_of rfl) rfl (by kernel_rfl) rfl rfl (by omega) (by omega) ?_
  refine WO_guardY rfl rfl rfl rfl (lt_of rfl) ?_
  refine WO_binW rfl rfl (lt_of rfl) rfl rfl rfl binIEql rfl ?_
  refine WO_guardY rfl rfl rfl rfl (lt_of rfl) ?_
  refine ev ?_
  refine WO_guard rfl rfl rfl rfl (lt_of rfl) (fun h3 => ?_) (fun h3 => ?_)
  rotate_left
  ·
    try simp only [HS] at h3
    iterate 2 (refine WO_guardN rfl rfl rfl rfl rfl (lt_of rfl) ?_)
    refine WO_guardY rfl rfl rfl rfl (lt_of rfl) ?_
    refine ev ?_
    refine ev ?_
    refine WO_keep [0, 2, 22] rfl ?_
    refine WO_nil ?_
    refine thenQ_n ?_
    refine W_condF rfl ?_
    refine W_skip ?_
    refine thenQ_n ?_
    refine W_seq ?_
    refine W_region ?_
    refine ev ?_
    refine WO_nil ?_
    refine thenQ_n ?_
    iterate 2 (refine W_seq ?_)
    refine W_region ?_
    refine ev ?_
    refine WO_nil ?_
    refine thenQ_n ?_
    refine W_block ?_
    refine W_loopK (α := Int × Int) [0] [] (fun (x : Int × Int) => [(4, .t (.int (x.1))), (3, .t (.int (x.2)))]) (fun (x : Int × Int) => []) (fun (x : Int × Int) => 0 ≤ (x.1) ∧ (x.1) ≤ s.length ∧ 0 ≤ (x.2) ∧ (x.2) ≤ 10000000000 ∧ (x.2) < 10 ^ (x.1).toNat ∧ digG s 0 = digG (s.drop (x.1).toNat) (x.2)) (fun (x : Int × Int) => Int.toNat (s.length - (x.1))) (0, 0) ?_ ?_ ?_ (fun x hx => ?_)
    · repeat (first | exact Sub.nil' | refine Sub.cons' rfl ?_ )
    · repeat (first | exact SubM.nil' | refine SubM.cons' rfl ?_ )
    · exact ⟨Int.le_refl 0, Int.natCast_nonneg _, Int.le_refl 0, by decide, by decide, rfl⟩
    obtain ⟨i, n⟩ := x
    obtain ⟨hi0, hi1, hn0, hn2, hn1, he⟩ := hx
    try dsimp only at hi0 hi1 hn0 hn2 hn1 he ⊢
    refine W_norm rfl ?_
    iterate 2 (refine W_seq ?_)
    refine W_region ?_
    refine ev ?_
    refine ev ?_
    refine WO_strLen rfl rfl (lt_of rfl) rfl (by kernel_rfl) rfl ?_
    refine ev ?_
    refine WO_nil ?_
    refine thenQ_n ?_
    refine W_cond rfl (fun h4 => ?_) (fun h4 => ?_)
    ·
      try simp only [HS] at h4
      refine W_skip ?_
      refine thenQ_n ?_
      refine W_seq ?_
      refine W_block ?_
      iterate 2 (refine W_seq ?_)
      refine W_region ?_
      refine ev ?_
      refine ev ?_
      refine WO_strIdx rfl rfl (lt_of rfl) rfl (by kernel_rfl) rfl rfl (by omega) (by omega) ?_
      refine WO_binW rfl rfl (lt_of rfl) rfl rfl rfl binILss rfl ?_
      refine ev ?_
      refine WO_keep [0, 3, 4, 23, 24, 25, 26, 29, 30, 31, 32, 33] rfl ?_
      refine WO_guard rfl rfl rfl rfl (lt_of rfl) (fun h5 => ?_) (fun h5 => ?_)
      rotate_left
      ·
        try simp only [HS] at h5
        iterate 3 (refine WO_guardN rfl rfl rfl rfl rfl (lt_of rfl) ?_)
        refine ev ?_
        refine WO_nil ?_
        refine thenQ_n ?_
        refine W_condT rfl ?_
        refine W_seq ?_
        refine W_region ?_
        refine ev ?_
        refine WO_nil ?_
        refine thenQ_n ?_
        refine W_ret ?_
        refine thenQ_r ?_
        refine inBlk_r ?_
        refine thenQ_r ?_
        refine loopQ_r ?_
        refine inBlk_r ?_
        refine thenQ_r ?_
        refine Ends_of (.inr rfl) (ret_okF rfl) (by decide) rfl ?_
        · first
          | exact retI (digS_nil (by omega)).symm
          | exact retI (digS_long (by omega)).symm
          | exact retI (digS_z (by omega) (by omega) (by omega)).symm
          | exact retI ((digS_go (by omega) (by omega) (by omega)).trans (he.trans (digG_no hi0 (by omega) (by omega)))).symm
          | exact retI ((digS_go (by omega) (by omega) (by omega)).trans (he.trans (digG_end (by omega)))).symm
      try simp only [HS] at h5
      refine ev ?_
      refine WO_guardY rfl rfl rfl rfl (lt_of rfl) ?_
      refine ev ?_
      refine WO_guardY rfl rfl rfl rfl (lt_of rfl) ?_
      refine WO_strIdx rfl rfl (lt_of rfl) rfl (by kernel_rfl) rfl rfl (by omega) (by omega) ?_
      refine WO_guardY rfl rfl rfl rfl (lt_of rfl) ?_
      refine WO_binW rfl rfl (lt_of rfl) rfl rfl rfl binIGtr rfl ?_
      refine ev ?_
      refine WO_nil ?_
      refine thenQ_n ?_
      refine W_cond rfl (fun h6 => ?_) (fun h6 => ?_)
      ·
        try simp only [HS] at h6
        refine W_seq ?_
        refine W_region ?_
        refine ev ?_
        refine WO_nil ?_
        refine thenQ_n ?_
        refine W_ret ?_
        refine thenQ_r ?_
        refine inBlk_r ?_
        refine thenQ_r ?_
        refine loopQ_r ?_
        refine inBlk_r ?_
        refine thenQ_r ?_
        refine Ends_of (.inr rfl) (ret_okF rfl) (by decide) rfl ?_
        · first
          | exact retI (digS_nil (by omega)).symm
          | exact retI (digS_long (by omega)).symm
          | exact retI (digS_z (by omega) (by omega) (by omega)).symm
          | exact retI ((digS_go (by omega) (by omega) (by omega)).trans (he.trans (digG_no hi0 (by omega) (by omega)))).symm
          | exact retI ((digS_go (by omega) (by omega) (by omega)).trans (he.trans (digG_end (by omega)))).symm
      try simp only [HS] at h6
      refine W_skip ?_
      refine thenQ_n ?_
      refine W_region ?_
      refine ev ?_
      refine evI ?_
      refine ev ?_
      refine ev ?_
      refine WO_keep [0, 3, 4, 23, 24, 25, 26, 29, 30, 31, 32, 33, 34, 35, 36, 37, 38, 39, 40, 41, 42] rfl ?_
      refine WO_strIdx rfl rfl (lt_of rfl) rfl (by kernel_rfl) rfl rfl (by omega) (by omega) ?_
      refine WO_binW rfl rfl (lt_of rfl) rfl rfl rfl (binSub48 (by omega)) rfl ?_
      refine WO_convId (td := .int .u8) (k := .i64) rfl rfl (lt_of rfl) rfl (by kernel_rfl) (by kernel_rfl) rfl (wrap_id (by omega) (by omega)) ?_
      refine evI ?_
      refine ev ?_
      refine WO_nil ?_
      refine inBlk_n ?_
      refine thenQ_n ?_
      refine W_region ?_
      refine ev ?_
      refine evI ?_
      refine ev ?_
      refine WO_nil ?_
      refine loopQ_n (_, _) (by (try dsimp only); repeat (first | exact Sub.nil' | refine Sub.cons' rfl ?_ )) (by (try dsimp only); repeat (first | exact SubM.nil' | refine SubM.cons' rfl ?_ )) ?_ ?_
      · try dsimp only
        have q := digB hi0 hn1 (show ((s[i.toNat]'(by omega)).toNat : Int) - 48 ≤ 9 by omega)
        have q2 := pow10_le (i := i + 1) (by omega)
        exact ⟨by omega, by omega, by omega, Int.le_of_lt (Int.lt_of_lt_of_le q q2), q, he.trans (digG_yes hi0 (by omega) (by omega) (by omega))⟩
      · (show Int.toNat _ < Int.toNat _); omega
    try simp only [HS] at h4
    refine W_exit ?_
    refine thenQ_e ?_
    refine loopQ_e ?_
    refine inBlk_y ?_
    refine thenQ_n ?_
    refine W_seq ?_
    refine W_region ?_
    refine ev ?_
    refine ev ?_
    refine WO_nil ?_
    refine thenQ_n ?_
    refine W_ret ?_
    refine Ends_of (.inr rfl) (ret_okF rfl) (by decide) rfl ?_
    · first
      | exact retI (digS_nil (by omega)).symm
      | exact retI (digS_long (by omega)).symm
      | exact retI (digS_z (by omega) (by omega) (by omega)).symm
      | exact retI ((digS_go (by omega) (by omega) (by omega)).trans (he.trans (digG_no hi0 (by omega) (by omega)))).symm
      | exact retI ((digS_go (by omega) (by omega) (by omega)).trans (he.trans (digG_end (by omega)))).symm
  try simp only [HS] at h3
  refine ev ?_
  refine WO_guardY rfl rfl rfl rfl (lt_of rfl) ?_
  refine WO_strLen rfl rfl (lt_of rfl) rfl (by kernel_rfl) rfl ?_
  refine WO_guardY rfl rfl rfl rfl (lt_of rfl) ?_
  refine ev ?_
  refine WO_guardY rfl rfl rfl rfl (lt_of rfl) ?_
  refine ev ?_
  refine WO_keep [0, 2, 13, 21] rfl ?_
  refine ev ?_
  refine WO_nil ?_
  refine thenQ_n ?_
  refine W_cond rfl (fun h4 => ?_) (fun h4 => ?_)
  ·
    try simp only [HS] at h4
    refine W_seq ?_
    refine W_region ?_
    refine ev ?_
    refine WO_nil ?_
    refine thenQ_n ?_
    refine W_ret ?_
    refine thenQ_r ?_
    refine Ends_of (.inr rfl) (ret_okF rfl) (by decide) rfl ?_
    · first
      | exact retI (digS_nil (by omega)).symm
      | exact retI (digS_long (by omega)).symm
      | exact retI (digS_z (by omega) (by omega) (by omega)).symm
      | exact retI ((digS_go (by omega) (by omega) (by omega)).trans (he.trans (digG_no hi0 (by omega) (by omega)))).symm
      | exact retI ((digS_go (by omega) (by omega) (by omega)).trans (he.trans (digG_end (by omega)))).symm
  try simp only [HS] at h4
  refine W_skip ?_
  refine thenQ_n ?_
  refine W_seq ?_
  refine W_region ?_
  refine ev ?_
  refine WO_nil ?_
  refine thenQ_n ?_
  iterate 2 (refine W_seq ?_)
  refine W_region ?_
  refine ev ?_
  refine WO_nil ?_
  refine thenQ_n ?_
  refine W_block ?_
  refine W_loopK (α := Int × Int) [0] [] (fun (x : Int × Int) => [(4, .t (.int (x.1))), (3, .t (.int (x.2)))]) (fun (x : Int × Int) => []) (fun (x : Int × Int) => 0 ≤ (x.1) ∧ (x.1) ≤ s.length ∧ 0 ≤ (x.2) ∧ (x.2) ≤ 10000000000 ∧ (x.2) < 10 ^ (x.1).toNat ∧ digG s 0 = digG (s.drop (x.1).toNat) (x.2)) (fun (x : Int × Int) => Int.toNat (s.length - (x.1))) (0, 0) ?_ ?_ ?_ (fun x hx => ?_)
  · repeat (first | exact Sub.nil' | refine Sub.cons' rfl ?_ )
  · repeat (first | exact SubM.nil' | refine SubM.cons' rfl ?_ )
  · exact ⟨Int.le_refl 0, Int.natCast_nonneg _, Int.le_refl 0, by decide, by decide, rfl⟩
  obtain ⟨i, n⟩ := x
  obtain ⟨hi0, hi1, hn0, hn2, hn1, he⟩ := hx
  try dsimp only at hi0 hi1 hn0 hn2 hn1 he ⊢
  refine W_norm rfl ?_
  iterate 2 (refine W_seq ?_)
  refine W_region ?_
  refine ev ?_
  refine ev ?_
  refine WO_strLen rfl rfl (lt_of rfl) rfl (by kernel_rfl) rfl ?_
  refine ev ?_
  refine WO_nil ?_
  refine thenQ_n ?_
  refine W_cond rfl (fun h5 => ?_) (fun h5 => ?_)
  ·
    try simp only [HS] at h5
    refine W_skip ?_
    refine thenQ_n ?_
    refine W_seq ?_
    refine W_block ?_
    iterate 2 (refine W_seq ?_)
    refine W_region ?_
    refine ev ?_
    refine ev ?_
    refine WO_strIdx rfl rfl (lt_of rfl) rfl (by kernel_rfl) rfl rfl (by omega) (by omega) ?_
    refine WO_binW rfl rfl (lt_of rfl) rfl rfl rfl binILss rfl ?_
    refine ev ?_
    refine WO_keep [0, 3, 4, 23, 24, 25, 26, 29, 30, 31, 32, 33] rfl ?_
    refine WO_guard rfl rfl rfl rfl (lt_of rfl) (fun h6 => ?_) (fun h6 => ?_)
    rotate_left
    ·
      try simp only [HS] at h6
      iterate 3 (refine WO_guardN rfl rfl rfl rfl rfl (lt_of rfl) ?_)
      refine ev ?_
      refine WO_nil ?_
      refine thenQ_n ?_
      refine W_condT rfl ?_
      refine W_seq ?_
      refine W_region ?_
      refine ev ?_
      refine WO_nil ?_
      refine thenQ_n ?_
      refine W_ret ?_
      refine thenQ_r ?_
      refine inBlk_r ?_
      refine thenQ_r ?_
      refine loopQ_r ?_
      refine inBlk_r ?_
      refine thenQ_r ?_
      refine Ends_of (.inr rfl) (ret_okF rfl) (by decide) rfl ?_
      · first
        | exact retI (digS_nil (by omega)).symm
        | exact retI (digS_long (by omega)).symm
        | exact retI (digS_z (by omega) (by omega) (by omega)).symm
        | exact retI ((digS_go (by omega) (by omega) (by omega)).trans (he.trans (digG_no hi0 (by omega) (by omega)))).symm
        | exact retI ((digS_go (by omega) (by omega) (by omega)).trans (he.trans (digG_end (by omega)))).symm
    try simp only [HS] at h6
    refine ev ?_
    refine WO_guardY rfl rfl rfl rfl (lt_of rfl) ?_
    refine ev ?_
    refine WO_guardY rfl rfl rfl rfl (lt_of rfl) ?_
    refine WO_strIdx rfl rfl (lt_of rfl) rfl (by kernel_rfl) rfl rfl (by omega) (by omega) ?_
    refine WO_guardY rfl rfl rfl rfl (lt_of rfl) ?_
    refine WO_binW rfl rfl (lt_of rfl) rfl rfl rfl binIGtr rfl ?_
    refine ev ?_
    refine WO_nil ?_
    refine thenQ_n ?_
    refine W_cond rfl (fun h7 => ?_) (fun h7 => ?_)
    ·
      try simp only [HS] at h7
      refine W_seq ?_
      refine W_region ?_
      refine ev ?_
      refine WO_nil ?_
      refine thenQ_n ?_
      refine W_ret ?_
      refine thenQ_r ?_
      refine inBlk_r ?_
      refine thenQ_r ?_
      refine loopQ_r ?_
      refine inBlk_r ?_
      refine thenQ_r ?_
      refine Ends_of (.inr rfl) (ret_okF rfl) (by decide) rfl ?_
      · first
        | exact retI (digS_nil (by omega)).symm
        | exact retI (digS_long (by omega)).symm
        | exact retI (digS_z (by omega) (by omega) (by omega)).symm
        | exact retI ((digS_go (by omega) (by omega) (by omega)).trans (he.trans (digG_no hi0 (by omega) (by omega)))).symm
        | exact retI ((digS_go (by omega) (by omega) (by omega)).trans (he.trans (digG_end (by omega)))).symm
    try simp only [HS] at h7
    refine W_skip ?_
    refine thenQ_n ?_
    refine W_region ?_
    refine ev ?_
    refine evI ?_
    refine ev ?_
    refine ev ?_
    refine WO_keep [0, 3, 4, 23, 24, 25, 26, 29, 30, 31, 32, 33, 34, 35, 36, 37, 38, 39, 40, 41, 42] rfl ?_
    refine WO_strIdx rfl rfl (lt_of rfl) rfl (by kernel_rfl) rfl rfl (by omega) (by omega) ?_
    refine WO_binW rfl rfl (lt_of rfl) rfl rfl rfl (binSub48 (by omega)) rfl ?_
    refine WO_convId (td := .int .u8) (k := .i64) rfl rfl (lt_of rfl) rfl (by kernel_rfl) (by kernel_rfl) rfl (wrap_id (by omega) (by omega)) ?_
    refine evI ?_
    refine ev ?_
    refine WO_nil ?_
    refine inBlk_n ?_
    refine thenQ_n ?_
    refine W_region ?_
    refine ev ?_
    refine evI ?_
    refine ev ?_
    refine WO_nil ?_
    refine loopQ_n (_, _) (by (try dsimp only); repeat (first | exact Sub.nil' | refine Sub.cons' rfl ?_ )) (by (try dsimp only); repeat (first | exact SubM.nil' | refine SubM.cons' rfl ?_ )) ?_ ?_
    · try dsimp only
      have q := digB hi0 hn1 (show ((s[i.toNat]'(by omega)).toNat : Int) - 48 ≤ 9 by omega)
      have q2 := pow10_le (i := i + 1) (by omega)
      exact ⟨by omega, by omega, by omega, Int.le_of_lt (Int.lt_of_lt_of_le q q2), q, he.trans (digG_yes hi0 (by omega) (by omega) (by omega))⟩
    · (show Int.toNat _ < Int.toNat _); omega
  try simp only [HS] at h5
  refine W_exit ?_
  refine thenQ_e ?_
  refine loopQ_e ?_
  refine inBlk_y ?_
  refine thenQ_n ?_
  refine W_seq ?_
  refine W_region ?_
  refine ev ?_
  refine ev ?_
  refine WO_nil ?_
  refine thenQ_n ?_
  refine W_ret ?_
  refine Ends_of (.inr rfl) (ret_okF rfl) (by decide) rfl ?_
  · first
    | exact retI (digS_nil (by omega)).symm
    | exact retI (digS_long (by omega)).symm
    | exact retI (digS_z (by omega) (by omega) (by omega)).symm
    | exact retI ((digS_go (by omega) (by omega) (by omega)).trans (he.trans (digG_no hi0 (by omega) (by omega)))).symm
    | exact retI ((digS_go (by omega) (by omega) (by omega)).trans (he.trans (digG_end (by omega)))).symm
end Go.Proofs.YtafjkelehnpfcaaDoor
