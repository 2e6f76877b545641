/- Walks and laws of the claim. -/
import Derived.Test.YtafjkelehnpfcaaDoorFa
import Derived.Test.YtafjkelehnpfcaaDoorMe
set_option linter.unusedVariables false
set_option linter.unusedSimpArgs false
set_option maxRecDepth 10000
set_option maxHeartbeats 1000000
namespace Go.Proofs.YtafjkelehnpfcaaDoor
open Go.Eng
open Go.Eng

theorem hasN_fun (op : Int) : Fun Tryd.prog 28 [.t (.int op)] (tupD [.t (.bool (hasNB op))]) := by
  refine Fun.begin tys Tryd.func28 rfl rfl (N := 14) [(0, .t (.int op))] rfl rfl (fun w0 G F0 => ?_)
  refine W_seq ?_
  refine W_region ?_
  refine ev ?_
  refine WO_nil ?_
  refine thenQ_n ?_
  iterate 2 (refine W_seq ?_)
  refine W_region ?_
  refine ev ?_
  refine WO_nil ?_
  refine thenQ_n ?_
  refine W_block ?_
  iterate 2 (refine W_seq ?_)
  refine W_region ?_
  refine ev ?_
  refine ev ?_
  refine WO_nil ?_
  refine thenQ_n ?_
  refine W_joinN (α := Bool) [2] [] (fun (x : Bool) => [(4, .t (.bool x))]) (fun (x : Bool) => []) (fun (x : Bool) => x = hasNB op) ?_ (fun b hx => ?_)
  ·
    refine W_cond rfl (fun h1 => ?_) (fun h1 => ?_)
    ·
      try simp only [HS] at h1
      refine W_skip ?_
      refine joinQ_n _ (by (try dsimp only); repeat (first | exact Sub.nil' | refine Sub.cons' rfl ?_)) (by (try dsimp only); repeat (first | exact SubM.nil' | refine SubM.cons' rfl ?_)) ?_
      try dsimp only
      grind [hasNB]
    try simp only [HS] at h1
    refine W_seq ?_
    refine W_region ?_
    refine ev ?_
    refine ev ?_
    refine WO_nil ?_
    refine thenQ_n ?_
    refine W_cond rfl (fun h2 => ?_) (fun h2 => ?_)
    ·
      try simp only [HS] at h2
      refine W_skip ?_
      refine joinQ_n _ (by (try dsimp only); repeat (first | exact Sub.nil' | refine Sub.cons' rfl ?_)) (by (try dsimp only); repeat (first | exact SubM.nil' | refine SubM.cons' rfl ?_)) ?_
      try dsimp only
      grind [hasNB]
    try simp only [HS] at h2
    refine W_seq ?_
    refine W_region ?_
    refine ev ?_
    refine ev ?_
    refine WO_nil ?_
    refine thenQ_n ?_
    refine W_cond rfl (fun h3 => ?_) (fun h3 => ?_)
    ·
      try simp only [HS] at h3
      refine W_skip ?_
      refine joinQ_n _ (by (try dsimp only); repeat (first | exact Sub.nil' | refine Sub.cons' rfl ?_)) (by (try dsimp only); repeat (first | exact SubM.nil' | refine SubM.cons' rfl ?_)) ?_
      try dsimp only
      grind [hasNB]
    try simp only [HS] at h3
    refine W_seq ?_
    refine W_keep [2, 3, 4] rfl ?_
    refine W_region ?_
    refine ev ?_
    refine ev ?_
    refine WO_nil ?_
    refine thenQ_n ?_
    refine W_cond rfl (fun h4 => ?_) (fun h4 => ?_)
    ·
      try simp only [HS] at h4
      refine W_skip ?_
      refine joinQ_n _ (by (try dsimp only); repeat (first | exact Sub.nil' | refine Sub.cons' rfl ?_)) (by (try dsimp only); repeat (first | exact SubM.nil' | refine SubM.cons' rfl ?_)) ?_
      try dsimp only
      grind [hasNB]
    try simp only [HS] at h4
    refine W_seq ?_
    refine W_region ?_
    refine ev ?_
    refine ev ?_
    refine WO_nil ?_
    refine thenQ_n ?_
    refine W_cond rfl (fun h5 => ?_) (fun h5 => ?_)
    ·
      try simp only [HS] at h5
      refine W_skip ?_
      refine joinQ_n _ (by (try dsimp only); repeat (first | exact Sub.nil' | refine Sub.cons' rfl ?_)) (by (try dsimp only); repeat (first | exact SubM.nil' | refine SubM.cons' rfl ?_)) ?_
      try dsimp only
      grind [hasNB]
    try simp only [HS] at h5
    refine W_seq ?_
    refine W_region ?_
    refine ev ?_
    refine ev ?_
    refine WO_nil ?_
    refine thenQ_n ?_
    refine W_cond rfl (fun h6 => ?_) (fun h6 => ?_)
    ·
      try simp only [HS] at h6
      refine W_skip ?_
      refine joinQ_n _ (by (try dsimp only); repeat (first | exact Sub.nil' | refine Sub.cons' rfl ?_)) (by (try dsimp only); repeat (first | exact SubM.nil' | refine SubM.cons' rfl ?_)) ?_
      try dsimp only
      grind [hasNB]
    try simp only [HS] at h6
    refine W_seq ?_
    refine W_region ?_
    refine ev ?_
    refine ev ?_
    refine WO_nil ?_
    refine thenQ_n ?_
    refine W_cond rfl (fun h7 => ?_) (fun h7 => ?_)
    ·
      try simp only [HS] at h7
      refine W_skip ?_
      refine joinQ_n _ (by (try dsimp only); repeat (first | exact Sub.nil' | refine Sub.cons' rfl ?_)) (by (try dsimp only); repeat (first | exact SubM.nil' | refine SubM.cons' rfl ?_)) ?_
      try dsimp only
      grind [hasNB]
    try simp only [HS] at h7
    refine W_seq ?_
    refine W_keep [2, 3, 4] rfl ?_
    refine W_region ?_
    refine ev ?_
    refine ev ?_
    refine WO_nil ?_
    refine thenQ_n ?_
    refine W_cond rfl (fun h8 => ?_) (fun h8 => ?_)
    ·
      try simp only [HS] at h8
      refine W_skip ?_
      refine joinQ_n _ (by (try dsimp only); repeat (first | exact Sub.nil' | refine Sub.cons' rfl ?_)) (by (try dsimp only); repeat (first | exact SubM.nil' | refine SubM.cons' rfl ?_)) ?_
      try dsimp only
      grind [hasNB]
    try simp only [HS] at h8
    refine W_region ?_
    refine ev ?_
    refine ev ?_
    refine WO_nil ?_
    refine joinQ_n _ (by (try dsimp only); repeat (first | exact Sub.nil' | refine Sub.cons' rfl ?_)) (by (try dsimp only); repeat (first | exact SubM.nil' | refine SubM.cons' rfl ?_)) ?_
    try dsimp only
    grind [hasNB]
  have hb := hx
  refine thenQ_n ?_
  refine W_cond rfl (fun h1 => ?_) (fun h1 => ?_)
  ·
    try simp only [HS] at h1
    refine W_seq ?_
    refine W_keep [2] rfl ?_
    refine W_region ?_
    refine ev ?_
    refine WO_nil ?_
    refine thenQ_n ?_
    refine W_ret ?_
    refine inBlk_r ?_
    refine thenQ_r ?_
    refine Ends_of (.inr rfl) (ret_okF rfl) (by decide) rfl ?_
    · exact retB (by simp_all)
  try simp only [HS] at h1
  refine W_skip ?_
  refine inBlk_n ?_
  refine thenQ_n ?_
  refine W_seq ?_
  refine W_keep [2] rfl ?_
  refine W_region ?_
  refine ev ?_
  refine WO_nil ?_
  refine thenQ_n ?_
  refine W_ret ?_
  refine Ends_of (.inr rfl) (ret_okF rfl) (by decide) rfl ?_
  · exact retB (by simp_all)


theorem l5Ins_fun (i : Ins) : Fun Tryd.prog 30 [.t i.tt] (tupD [.t (.bool (insB i))]) := by
  refine Fun.begin tys Tryd.func30 rfl rfl (N := 32) [(0, .t i.tt)] rfl rfl (fun w0 G F0 => ?_)
  refine W_seq ?_
  refine W_region ?_
  refine WO_box rfl rfl (lt_of rfl) rfl rfl ?_
  refine WO_norm rfl ?_
  refine ev ?_
  refine WO_nil ?_
  refine thenQ_n ?_
  refine W_seq ?_
  refine W_block ?_
  refine W_seq ?_
  refine W_region ?_
  iterate 4 (refine ev ?_)
  refine WO_nil ?_
  refine thenQ_n ?_
  refine W_cond rfl (fun h1 => ?_) (fun h1 => ?_)
  ·
    try simp only [HS] at h1
    refine W_seq ?_
    refine W_region ?_
    refine ev ?_
    refine ev ?_
    refine callB ?_
    refine ⟨_, l2Bound_fun _, rfl, ?_⟩
    refine WO_keep [1, 2, 9] rfl ?_
    refine ev ?_
    refine WO_nil ?_
    refine thenQ_n ?_
    refine W_ret ?_
    refine inBlk_r ?_
    refine thenQ_r ?_
    refine Ends_of (.inr rfl) (ret_okF rfl) (by decide) rfl ?_
    · exact retB (by grind [insB])
  try simp only [HS] at h1
  refine W_seq ?_
  refine W_region ?_
  iterate 3 (refine ev ?_)
  refine WO_keep [1, 2, 13] rfl ?_
  refine ev ?_
  refine WO_nil ?_
  refine thenQ_n ?_
  refine W_cond rfl (fun h2 => ?_) (fun h2 => ?_)
  ·
    try simp only [HS] at h2
    refine W_seq ?_
    refine W_region ?_
    refine ev ?_
    refine ev ?_
    refine callB ?_
    refine ⟨_, l1In_fun _ _ _, rfl, ?_⟩
    refine ev ?_
    refine WO_nil ?_
    refine thenQ_n ?_
    refine W_ret ?_
    refine inBlk_r ?_
    refine thenQ_r ?_
    refine Ends_of (.inr rfl) (ret_okF rfl) (by decide) rfl ?_
    · exact retB (by grind [insB])
  try simp only [HS] at h2
  refine W_seq ?_
  refine W_region ?_
  refine ev ?_
  refine ev ?_
  refine callB ?_
  refine ⟨_, hasN_fun _, rfl, ?_⟩
  refine ev ?_
  refine WO_nil ?_
  refine thenQ_n ?_
  refine W_cond rfl (fun h3 => ?_) (fun h3 => ?_)
  ·
    try simp only [HS] at h3
    refine W_seq ?_
    refine W_region ?_
    refine ev ?_
    refine ev ?_
    refine callB ?_
    refine ⟨_, l1In_fun _ _ _, rfl, ?_⟩
    refine ev ?_
    refine WO_keep [1, 2] rfl ?_
    refine WO_nil ?_
    refine thenQ_n ?_
    refine W_ret ?_
    refine inBlk_r ?_
    refine thenQ_r ?_
    refine Ends_of (.inr rfl) (ret_okF rfl) (by decide) rfl ?_
    · exact retB (by grind [insB])
  try simp only [HS] at h3
  refine W_skip ?_
  refine inBlk_n ?_
  refine thenQ_n ?_
  refine W_seq ?_
  refine W_region ?_
  refine ev ?_
  refine ev ?_
  refine callB ?_
  refine ⟨_, l1In_fun _ _ _, rfl, ?_⟩
  refine ev ?_
  refine WO_keep [1, 2, 27] rfl ?_
  refine WO_guard rfl rfl rfl rfl (lt_of rfl) (fun h4 => ?_) (fun h4 => ?_)
  rotate_left
  ·
    try simp only [HS] at h4
    iterate 2 (refine WO_guardN rfl rfl rfl rfl rfl (lt_of rfl) ?_)
    refine ev ?_
    refine ev ?_
    refine WO_nil ?_
    refine thenQ_n ?_
    refine W_ret ?_
    refine Ends_of (.inr rfl) (ret_okF rfl) (by decide) rfl ?_
    · exact retB (by grind [insB])
  try simp only [HS] at h4
  refine ev ?_
  refine WO_guardY rfl rfl rfl rfl (lt_of rfl) ?_
  refine ev ?_
  refine WO_guardY rfl rfl rfl rfl (lt_of rfl) ?_
  iterate 3 (refine ev ?_)
  refine WO_nil ?_
  refine thenQ_n ?_
  refine W_ret ?_
  refine Ends_of (.inr rfl) (ret_okF rfl) (by decide) rfl ?_
  · exact retB (by grind [insB])

theorem l5Sized_fun (im : Image) (hx : im.ok 1048576) : Fun Tryd.prog 61 [.t im.tt] (tupD [.t (.bool (sizedX im))]) := by
  have hxl : im.codes.length ≤ 1048576 := hx.1.1
  refine Fun.begin tys Tryd.func61 rfl rfl (N := 61) [(0, .t im.tt)] rfl rfl (fun w0 G F0 => ?_)
  refine W_seq ?_
  refine W_region ?_
  refine WO_box rfl rfl (lt_of rfl) rfl rfl ?_
  refine WO_norm rfl ?_
  refine ev ?_
  refine WO_nil ?_
  refine thenQ_n ?_
  iterate 2 (refine W_seq ?_)
  refine W_region ?_
  refine ev ?_
  refine ev ?_
  refine evE ?_
  refine ev ?_
  refine WO_nil ?_
  refine thenQ_n ?_
  refine W_block ?_
  refine W_loopK (α := Int) [1, 8, 9] [1] (fun (x : Int) => [(10, .t (.int x))]) (fun (x : Int) => []) (fun (x : Int) => 0 ≤ x ∧ x ≤ im.codes.length ∧ (im.codes.take x.toNat).all sizedC = true) (fun (x : Int) => Int.toNat (im.codes.length - x)) 0 ?_ ?_ ?_ (fun k hx => ?_)
  · repeat (first | exact Sub.nil' | refine Sub.cons' rfl ?_ )
  · repeat (first | exact SubM.nil' | refine SubM.cons' rfl ?_ )
  · exact ⟨by omega, by omega, by simp⟩
  obtain ⟨hk0, hk1, hk2⟩ := hx
  refine W_norm rfl ?_
  refine W_seq ?_
  refine W_region ?_
  refine ev ?_
  refine WO_nil ?_
  refine thenQ_n ?_
  refine W_seq ?_
  refine W_cond rfl (fun h1 => ?_) (fun h1 => ?_)
  ·
    try simp only [HS] at h1
    refine W_skip ?_
    refine thenQ_n ?_
    refine W_seq ?_
    refine W_block ?_
    refine W_seq ?_
    refine W_region ?_
    have hc := hx.1.2 _ (List.getElem_mem (l := im.codes) (n := k.toNat) (by omega))
    have hc1 : (im.codes[k.toNat]'(by omega)).sites.length ≤ 1048576 := hc.1
    have hc2 : (im.codes[k.toNat]'(by omega)).ins.length ≤ 1048576 := hc.2.1
    have hc3 : (im.codes[k.toNat]'(by omega)).rows.length ≤ 1048576 := hc.2.2.1
    first | refine WO_idxT tys rfl rfl (lt_of rfl) rfl rfl rfl rfl rfl rfl rfl (by omega) _ (getT _ _ (by omega) (by omega)) ?_ | refine WO_idxS tys rfl rfl (lt_of rfl) rfl rfl rfl rfl rfl rfl rfl rfl (by omega) (by omega) ?_
    first | (refine ev ?_; try refine WO_le (Le.freeze (u := 13) rfl) ?_) | refine WO_loadL tys rfl rfl (lt_of rfl) rfl rfl rfl rfl (getT _ _ (by omega) (by omega)) rfl ?_ | refine WO_loadL tys rfl rfl (lt_of rfl) rfl rfl rfl rfl (getT0 _ _ (by omega) (by omega)) rfl ?_
    refine WO_norm rfl ?_
    refine WO_alloc tys rfl rfl (lt_of rfl) rfl rfl rfl ?_
    refine WO_norm rfl ?_
    refine WO_store tys rfl rfl rfl rfl rfl rfl rfl rfl (lt_of rfl) ?_
    refine WO_norm rfl ?_
    refine WO_nil ?_
    refine thenQ_n ?_
    iterate 2 (refine W_seq ?_)
    refine W_region ?_
    refine ev ?_
    refine ev ?_
    refine callB ?_
    refine ⟨_, l1In_fun _ _ _, rfl, ?_⟩
    refine ev ?_
    refine WO_keep [1, 4, 8, 9, 10, 11, 12, 13, 14, 15, 16, 17] rfl ?_
    refine ev ?_
    refine WO_guard rfl rfl rfl rfl (lt_of rfl) (fun h2 => ?_) (fun h2 => ?_)
    rotate_left
    ·
      try simp only [HS] at h2
      iterate 5 (refine WO_guardN rfl rfl rfl rfl rfl (lt_of rfl) ?_)
      refine ev ?_
      refine ev ?_
      refine WO_guardN rfl rfl rfl rfl rfl (lt_of rfl) ?_
      refine WO_keep [1, 4, 8, 9, 10, 11, 12, 13, 14, 15, 16, 17, 18, 19, 20, 21, 22, 23, 24, 25, 26, 27] rfl ?_
      iterate 3 (refine WO_guardN rfl rfl rfl rfl rfl (lt_of rfl) ?_)
      refine ev ?_
      refine ev ?_
      iterate 4 (refine WO_guardN rfl rfl rfl rfl rfl (lt_of rfl) ?_)
      refine WO_keep [1, 4, 8, 9, 10, 11, 12, 13, 14, 15, 16, 17, 18, 19, 20, 21, 22, 23, 24, 25, 26, 27, 28, 29, 30, 31, 32, 33, 34, 35, 36] rfl ?_
      refine WO_guardN rfl rfl rfl rfl rfl (lt_of rfl) ?_
      refine ev ?_
      refine ev ?_
      iterate 4 (refine WO_guardN rfl rfl rfl rfl rfl (lt_of rfl) ?_)
      refine ev ?_
      refine WO_nil ?_
      refine thenQ_n ?_
      refine W_condT rfl ?_
      refine W_seq ?_
      refine W_keep [1, 4, 8, 9, 10, 11, 12, 13, 14, 15, 16, 17, 18, 19, 20, 21, 22, 23, 24, 25, 26, 27, 28, 29, 30, 31, 32, 33, 34, 35, 36, 37, 38, 39, 40, 41, 42, 43, 44] rfl ?_
      refine W_region ?_
      refine ev ?_
      refine WO_nil ?_
      refine thenQ_n ?_
      refine W_ret ?_
      refine thenQ_r ?_
      refine inBlk_r ?_
      refine thenQ_r ?_
      refine loopQ_r ?_
      refine inBlk_r ?_
      refine thenQ_r ?_
      refine Ends_of (.inr rfl) (ret_okF rfl) (by decide) rfl ?_
      · first
        | (have hno : sizedC (im.codes[k.toNat]'(by omega)) = false := (by rw [← Bool.not_eq_true]; intro h; obtain ⟨a, b, d, e, f, g⟩ := sizedC_of h; first | omega | (have := g _ (List.getElem_mem (l := (im.codes[k.toNat]'(by omega)).ins) (n := j.toNat) (by omega)); simp_all; done))
           exact retB (by rw [sizedX, all_no hk0 (by omega) hno, Bool.and_false]))
        | exact retB (by rw [sizedX, all_fl (by omega) hk2, Bool.and_true]; exact decide_eq_decide.2 (by omega))
    try simp only [HS] at h2
    refine ev ?_
    refine WO_guardY rfl rfl rfl rfl (lt_of rfl) ?_
    refine ev ?_
    refine WO_guardY rfl rfl rfl rfl (lt_of rfl) ?_
    refine ev ?_
    refine WO_guardY rfl rfl rfl rfl (lt_of rfl) ?_
    refine ev ?_
    refine WO_guardY rfl rfl rfl rfl (lt_of rfl) ?_
    refine callB ?_
    refine ⟨_, l1In_fun _ _ _, rfl, ?_⟩
    refine WO_guardY rfl rfl rfl rfl (lt_of rfl) ?_
    iterate 3 (refine ev ?_)
    refine WO_keep [1, 4, 8, 9, 10, 11, 12, 13, 14, 15, 16, 17, 18, 19, 20, 21, 22, 23, 24, 25, 26] rfl ?_
    refine WO_guard rfl rfl rfl rfl (lt_of rfl) (fun h3 => ?_) (fun h3 => ?_)
    rotate_left
    ·
      try simp only [HS] at h3
      iterate 3 (refine WO_guardN rfl rfl rfl rfl rfl (lt_of rfl) ?_)
      refine ev ?_
      refine ev ?_
      iterate 4 (refine WO_guardN rfl rfl rfl rfl rfl (lt_of rfl) ?_)
      refine WO_keep [1, 4, 8, 9, 10, 11, 12, 13, 14, 15, 16, 17, 18, 19, 20, 21, 22, 23, 24, 25, 26, 27, 28, 29, 30, 31, 32, 33, 34, 35, 36] rfl ?_
      refine WO_guardN rfl rfl rfl rfl rfl (lt_of rfl) ?_
      refine ev ?_
      refine ev ?_
      iterate 4 (refine WO_guardN rfl rfl rfl rfl rfl (lt_of rfl) ?_)
      refine ev ?_
      refine WO_nil ?_
      refine thenQ_n ?_
      refine W_condT rfl ?_
      refine W_seq ?_
      refine W_keep [1, 4, 8, 9, 10, 11, 12, 13, 14, 15, 16, 17, 18, 19, 20, 21, 22, 23, 24, 25, 26, 27, 28, 29, 30, 31, 32, 33, 34, 35, 36, 37, 38, 39, 40, 41, 42, 43, 44] rfl ?_
      refine W_region ?_
      refine ev ?_
      refine WO_nil ?_
      refine thenQ_n ?_
      refine W_ret ?_
      refine thenQ_r ?_
      refine inBlk_r ?_
      refine thenQ_r ?_
      refine loopQ_r ?_
      refine inBlk_r ?_
      refine thenQ_r ?_
      refine Ends_of (.inr rfl) (ret_okF rfl) (by decide) rfl ?_
      · first
        | (have hno : sizedC (im.codes[k.toNat]'(by omega)) = false := (by rw [← Bool.not_eq_true]; intro h; obtain ⟨a, b, d, e, f, g⟩ := sizedC_of h; first | omega | (have := g _ (List.getElem_mem (l := (im.codes[k.toNat]'(by omega)).ins) (n := j.toNat) (by omega)); simp_all; done))
           exact retB (by rw [sizedX, all_no hk0 (by omega) hno, Bool.and_false]))
        | exact retB (by rw [sizedX, all_fl (by omega) hk2, Bool.and_true]; exact decide_eq_decide.2 (by omega))
    try simp only [HS] at h3
    refine ev ?_
    refine WO_guardY rfl rfl rfl rfl (lt_of rfl) ?_
    refine ev ?_
    refine WO_guardY rfl rfl rfl rfl (lt_of rfl) ?_
    refine evE ?_
    refine WO_guardY rfl rfl rfl rfl (lt_of rfl) ?_
    iterate 3 (refine ev ?_)
    refine WO_guard rfl rfl rfl rfl (lt_of rfl) (fun h4 => ?_) (fun h4 => ?_)
    rotate_left
    ·
      try simp only [HS] at h4
      iterate 3 (refine WO_guardN rfl rfl rfl rfl rfl (lt_of rfl) ?_)
      refine WO_keep [1, 4, 8, 9, 10, 11, 12, 13, 14, 15, 16, 17, 18, 19, 20, 21, 22, 23, 24, 25, 26, 27, 28, 29, 30, 31, 32, 33, 34, 35, 36] rfl ?_
      refine WO_guardN rfl rfl rfl rfl rfl (lt_of rfl) ?_
      refine ev ?_
      refine ev ?_
      iterate 4 (refine WO_guardN rfl rfl rfl rfl rfl (lt_of rfl) ?_)
      refine ev ?_
      refine WO_nil ?_
      refine thenQ_n ?_
      refine W_condT rfl ?_
      refine W_seq ?_
      refine W_keep [1, 4, 8, 9, 10, 11, 12, 13, 14, 15, 16, 17, 18, 19, 20, 21, 22, 23, 24, 25, 26, 27, 28, 29, 30, 31, 32, 33, 34, 35, 36, 37, 38, 39, 40, 41, 42, 43, 44] rfl ?_
      refine W_region ?_
      refine ev ?_
      refine WO_nil ?_
      refine thenQ_n ?_
      refine W_ret ?_
      refine thenQ_r ?_
      refine inBlk_r ?_
      refine thenQ_r ?_
      refine loopQ_r ?_
      refine inBlk_r ?_
      refine thenQ_r ?_
      refine Ends_of (.inr rfl) (ret_okF rfl) (by decide) rfl ?_
      · first
        | (have hno : sizedC (im.codes[k.toNat]'(by omega)) = false := (by rw [← Bool.not_eq_true]; intro h; obtain ⟨a, b, d, e, f, g⟩ := sizedC_of h; first | omega | (have := g _ (List.getElem_mem (l := (im.codes[k.toNat]'(by omega)).ins) (n := j.toNat) (by omega)); simp_all; done))
           exact retB (by rw [sizedX, all_no hk0 (by omega) hno, Bool.and_false]))
        | exact retB (by rw [sizedX, all_fl (by omega) hk2, Bool.and_true]; exact decide_eq_decide.2 (by omega))
    try simp only [HS] at h4
    refine ev ?_
    refine WO_guardY rfl rfl rfl rfl (lt_of rfl) ?_
    refine ev ?_
    refine WO_guardY rfl rfl rfl rfl (lt_of rfl) ?_
    refine evE ?_
    refine WO_keep [1, 4, 8, 9, 10, 11, 12, 13, 14, 15, 16, 17, 18, 19, 20, 21, 22, 23, 24, 25, 26, 27, 28, 29, 30, 31, 32, 33, 34, 35] rfl ?_
    refine WO_guardY rfl rfl rfl rfl (lt_of rfl) ?_
    refine callB ?_
    refine ⟨_, l1In_fun _ _ _, rfl, ?_⟩
    refine WO_guardY rfl rfl rfl rfl (lt_of rfl) ?_
    iterate 3 (refine ev ?_)
    refine WO_guard rfl rfl rfl rfl (lt_of rfl) (fun h5 => ?_) (fun h5 => ?_)
    rotate_left
    ·
      try simp only [HS] at h5
      iterate 3 (refine WO_guardN rfl rfl rfl rfl rfl (lt_of rfl) ?_)
      refine ev ?_
      refine WO_nil ?_
      refine thenQ_n ?_
      refine W_condT rfl ?_
      refine W_seq ?_
      refine W_keep [1, 4, 8, 9, 10, 11, 12, 13, 14, 15, 16, 17, 18, 19, 20, 21, 22, 23, 24, 25, 26, 27, 28, 29, 30, 31, 32, 33, 34, 35, 36, 37, 38, 39, 40, 41, 42, 43, 44] rfl ?_
      refine W_region ?_
      refine ev ?_
      refine WO_nil ?_
      refine thenQ_n ?_
      refine W_ret ?_
      refine thenQ_r ?_
      refine inBlk_r ?_
      refine thenQ_r ?_
      refine loopQ_r ?_
      refine inBlk_r ?_
      refine thenQ_r ?_
      refine Ends_of (.inr rfl) (ret_okF rfl) (by decide) rfl ?_
      · first
        | (have hno : sizedC (im.codes[k.toNat]'(by omega)) = false := (by rw [← Bool.not_eq_true]; intro h; obtain ⟨a, b, d, e, f, g⟩ := sizedC_of h; first | omega | (have := g _ (List.getElem_mem (l := (im.codes[k.toNat]'(by omega)).ins) (n := j.toNat) (by omega)); simp_all; done))
           exact retB (by rw [sizedX, all_no hk0 (by omega) hno, Bool.and_false]))
        | exact retB (by rw [sizedX, all_fl (by omega) hk2, Bool.and_true]; exact decide_eq_decide.2 (by omega))
    try simp only [HS] at h5
    refine ev ?_
    refine WO_guardY rfl rfl rfl rfl (lt_of rfl) ?_
    refine ev ?_
    refine WO_guardY rfl rfl rfl rfl (lt_of rfl) ?_
    refine evE ?_
    refine WO_guardY rfl rfl rfl rfl (lt_of rfl) ?_
    refine ev ?_
    refine ev ?_
    refine WO_keep [1, 4, 8, 9, 10, 11, 12, 13, 14, 15, 16, 17, 18, 19, 20, 21, 22, 23, 24, 25, 26, 27, 28, 29, 30, 31, 32, 33, 34, 35, 36, 37, 38, 39, 40, 41, 42, 43, 44] rfl ?_
    refine WO_nil ?_
    refine thenQ_n ?_
    refine W_cond rfl (fun h6 => ?_) (fun h6 => ?_)
    ·
      try simp only [HS] at h6
      refine W_seq ?_
      refine W_region ?_
      refine ev ?_
      refine WO_nil ?_
      refine thenQ_n ?_
      refine W_ret ?_
      refine thenQ_r ?_
      refine inBlk_r ?_
      refine thenQ_r ?_
      refine loopQ_r ?_
      refine inBlk_r ?_
      refine thenQ_r ?_
      refine Ends_of (.inr rfl) (ret_okF rfl) (by decide) rfl ?_
      · first
        | (have hno : sizedC (im.codes[k.toNat]'(by omega)) = false := (by rw [← Bool.not_eq_true]; intro h; obtain ⟨a, b, d, e, f, g⟩ := sizedC_of h; first | omega | (have := g _ (List.getElem_mem (l := (im.codes[k.toNat]'(by omega)).ins) (n := j.toNat) (by omega)); simp_all; done))
           exact retB (by rw [sizedX, all_no hk0 (by omega) hno, Bool.and_false]))
        | exact retB (by rw [sizedX, all_fl (by omega) hk2, Bool.and_true]; exact decide_eq_decide.2 (by omega))
    try simp only [HS] at h6
    refine W_skip ?_
    refine thenQ_n ?_
    refine W_seq ?_
    refine W_region ?_
    refine ev ?_
    refine ev ?_
    refine evE ?_
    refine ev ?_
    refine WO_nil ?_
    refine thenQ_n ?_
    refine W_block ?_
    refine W_loopK (α := Int) [1, 8, 9, 10, 46, 47] [1] (fun (x : Int) => [(48, .t (.int x))]) (fun (x : Int) => []) (fun (x : Int) => 0 ≤ x ∧ x ≤ (im.codes[k.toNat]'(by omega)).ins.length ∧ ((im.codes[k.toNat]'(by omega)).ins.take x.toNat).all insB = true) (fun (x : Int) => Int.toNat ((im.codes[k.toNat]'(by omega)).ins.length - x)) 0 ?_ ?_ ?_ (fun j hx => ?_)
    · repeat (first | exact Sub.nil' | refine Sub.cons' rfl ?_ )
    · repeat (first | exact SubM.nil' | refine SubM.cons' rfl ?_ )
    · exact ⟨by omega, by omega, by simp⟩
    obtain ⟨hj0, hj1, hj2⟩ := hx
    refine W_norm rfl ?_
    refine W_seq ?_
    refine W_region ?_
    refine ev ?_
    refine WO_nil ?_
    refine thenQ_n ?_
    refine W_seq ?_
    refine W_cond rfl (fun h7 => ?_) (fun h7 => ?_)
    ·
      try simp only [HS] at h7
      refine W_skip ?_
      refine thenQ_n ?_
      refine W_seq ?_
      refine W_block ?_
      refine W_seq ?_
      refine W_region ?_
      first | refine WO_idxT tys rfl rfl (lt_of rfl) rfl rfl rfl rfl rfl rfl rfl (by omega) _ (getT _ _ (by omega) (by omega)) ?_ | refine WO_idxS tys rfl rfl (lt_of rfl) rfl rfl rfl rfl rfl rfl rfl rfl (by omega) (by omega) ?_
      first | (refine ev ?_; try refine WO_le (Le.freeze (u := 51) rfl) ?_) | refine WO_loadL tys rfl rfl (lt_of rfl) rfl rfl rfl rfl (getT _ _ (by omega) (by omega)) rfl ?_ | refine WO_loadL tys rfl rfl (lt_of rfl) rfl rfl rfl rfl (getT0 _ _ (by omega) (by omega)) rfl ?_
      refine WO_norm rfl ?_
      refine WO_alloc tys rfl rfl (lt_of rfl) rfl rfl rfl ?_
      refine WO_norm rfl ?_
      refine WO_store tys rfl rfl rfl rfl rfl rfl rfl rfl (lt_of rfl) ?_
      refine WO_norm rfl ?_
      refine WO_nil ?_
      refine thenQ_n ?_
      refine W_seq ?_
      refine W_region ?_
      first | (refine ev ?_; try refine WO_le (Le.freeze (u := 52) rfl) ?_) | refine WO_loadMove tys rfl rfl (lt_of rfl) rfl rfl rfl rfl rfl rfl ?_
      refine WO_norm rfl ?_
      refine callB ?_
      refine ⟨_, l5Ins_fun _, rfl, ?_⟩
      refine ev ?_
      refine WO_nil ?_
      refine thenQ_n ?_
      refine W_cond rfl (fun h8 => ?_) (fun h8 => ?_)
      ·
        try simp only [HS] at h8
        refine W_seq ?_
        refine W_keep [1, 6, 8, 9, 10, 46, 47, 48, 49, 50, 51, 52, 53, 54] rfl ?_
        refine W_region ?_
        refine ev ?_
        refine WO_nil ?_
        refine thenQ_n ?_
        refine W_ret ?_
        refine inBlk_r ?_
        refine thenQ_r ?_
        refine loopQ_r ?_
        iterate 2 (refine inBlk_r ?_)
        refine thenQ_r ?_
        refine loopQ_r ?_
        refine inBlk_r ?_
        refine thenQ_r ?_
        refine Ends_of (.inr rfl) (ret_okF rfl) (by decide) rfl ?_
        · first
          | (have hno : sizedC (im.codes[k.toNat]'(by omega)) = false := (by rw [← Bool.not_eq_true]; intro h; obtain ⟨a, b, d, e, f, g⟩ := sizedC_of h; first | omega | (have := g _ (List.getElem_mem (l := (im.codes[k.toNat]'(by omega)).ins) (n := j.toNat) (by omega)); simp_all; done))
             exact retB (by rw [sizedX, all_no hk0 (by omega) hno, Bool.and_false]))
          | exact retB (by rw [sizedX, all_fl (by omega) hk2, Bool.and_true]; exact decide_eq_decide.2 (by omega))
      try simp only [HS] at h8
      refine W_skip ?_
      refine inBlk_n ?_
      refine thenQ_n ?_
      refine W_keep [1, 6, 8, 9, 10, 46, 47, 48, 49, 50, 51, 52, 53, 54] rfl ?_
      refine W_region ?_
      refine evI ?_
      refine ev ?_
      refine WO_nil ?_
      refine loopQ_n _ (by (try dsimp only); repeat (first | exact Sub.nil' | refine Sub.cons' rfl ?_ )) (by (try dsimp only); repeat (first | exact SubM.nil' | refine SubM.cons' rfl ?_ )) ?_ ?_
      · try dsimp only
        exact ⟨by omega, by omega, all_tk hj0 (by omega) hj2 (by assumption)⟩
      · (show Int.toNat _ < Int.toNat _); omega
    try simp only [HS] at h7
    refine W_exit ?_
    refine thenQ_e ?_
    refine loopQ_e ?_
    refine inBlk_y ?_
    refine inBlk_n ?_
    refine thenQ_n ?_
    refine W_region ?_
    refine evI ?_
    refine ev ?_
    refine WO_nil ?_
    refine loopQ_n _ (by (try dsimp only); repeat (first | exact Sub.nil' | refine Sub.cons' rfl ?_ )) (by (try dsimp only); repeat (first | exact SubM.nil' | refine SubM.cons' rfl ?_ )) ?_ ?_
    · try dsimp only
      refine ⟨by omega, by omega, all_tk hk0 (by omega) hk2 ?_⟩
      have hall := all_fl (by omega) hj2
      unfold sizedC
      rw [hall]
      simp_all <;> omega
    · (show Int.toNat _ < Int.toNat _); omega
  try simp only [HS] at h1
  refine W_exit ?_
  refine thenQ_e ?_
  refine loopQ_e ?_
  refine inBlk_y ?_
  refine thenQ_n ?_
  refine W_seq ?_
  refine W_region ?_
  refine ev ?_
  refine ev ?_
  refine evE ?_
  refine callB ?_
  refine ⟨_, l1In_fun _ _ _, rfl, ?_⟩
  refine ev ?_
  refine WO_nil ?_
  refine thenQ_n ?_
  refine W_ret ?_
  refine Ends_of (.inr rfl) (ret_okF rfl) (by decide) rfl ?_
  · first
    | (have hno : sizedC (im.codes[k.toNat]'(by omega)) = false := (by rw [← Bool.not_eq_true]; intro h; obtain ⟨a, b, d, e, f, g⟩ := sizedC_of h; first | omega | (have := g _ (List.getElem_mem (l := (im.codes[k.toNat]'(by omega)).ins) (n := j.toNat) (by omega)); simp_all; done))
       exact retB (by rw [sizedX, all_no hk0 (by omega) hno, Bool.and_false]))
    | exact retB (by rw [sizedX, all_fl (by omega) hk2, Bool.and_true]; exact decide_eq_decide.2 (by omega))

theorem l5Rows_fun (rows : List Row) (many : Int) (hl : rows.length ≤ 1048576) (hm : 0 ≤ many ∧ many ≤ 1048576) : Fun Tryd.prog 81 [.t (T.Rows rows), .t (.int many)] (tupD [.t (.bool (rowsB rows many))]) := by
  refine Fun.begin tys Tryd.func81 rfl rfl (N := 42) [(0, .t (T.Rows rows)), (1, .t (.int many))] rfl rfl (fun w0 G F0 => ?_)
  refine W_seq ?_
  refine W_region ?_
  refine ev ?_
  refine WO_nil ?_
  refine thenQ_n ?_
  refine W_seq ?_
  refine W_region ?_
  refine ev ?_
  refine WO_nil ?_
  refine thenQ_n ?_
  iterate 2 (refine W_seq ?_)
  refine W_region ?_
  refine ev ?_
  refine evE ?_
  refine ev ?_
  refine WO_nil ?_
  refine thenQ_n ?_
  refine W_block ?_
  refine W_loopK (α := Int × Int) [0, 1, 8, 9] [] (fun (x : Int × Int) => [(10, .t (.int (x.1))), (5, .t (.int (x.2)))]) (fun (x : Int × Int) => []) (fun (x : Int × Int) => 0 ≤ (x.1) ∧ (x.1) ≤ rows.length ∧ rowsB rows many = rowsGo many (rows.drop (x.1).toNat) (x.2)) (fun (x : Int × Int) => Int.toNat (rows.length - (x.1))) (0, 0) ?_ ?_ ?_ (fun x hx => ?_)
  · repeat (first | exact Sub.nil' | refine Sub.cons' rfl ?_ )
  · repeat (first | exact SubM.nil' | refine SubM.cons' rfl ?_ )
  · exact ⟨by omega, by omega, rfl⟩
  obtain ⟨k, e⟩ := x
  obtain ⟨hk0, hk1, hk2⟩ := hx
  try dsimp only at hk0 hk1 hk2 ⊢
  refine W_norm rfl ?_
  refine W_seq ?_
  refine W_region ?_
  refine ev ?_
  refine WO_nil ?_
  refine thenQ_n ?_
  refine W_seq ?_
  refine W_cond rfl (fun h1 => ?_) (fun h1 => ?_)
  ·
    try simp only [HS] at h1
    refine W_skip ?_
    refine thenQ_n ?_
    refine W_seq ?_
    refine W_block ?_
    refine W_seq ?_
    refine W_region ?_
    first | refine WO_idxT tys rfl rfl (lt_of rfl) rfl rfl rfl rfl rfl rfl rfl (by omega) _ (getT _ _ (by omega) (by omega)) ?_ | refine WO_idxS tys rfl rfl (lt_of rfl) rfl rfl rfl rfl rfl rfl rfl rfl (by omega) (by omega) ?_
    first | (refine ev ?_; try refine WO_le (Le.freeze (u := 13) rfl) ?_) | refine WO_loadL tys rfl rfl (lt_of rfl) rfl rfl rfl rfl (getT _ _ (by omega) (by omega)) rfl ?_ | refine WO_loadL tys rfl rfl (lt_of rfl) rfl rfl rfl rfl (getT0 _ _ (by omega) (by omega)) rfl ?_
    refine WO_norm rfl ?_
    refine WO_alloc tys rfl rfl (lt_of rfl) rfl rfl rfl ?_
    refine WO_norm rfl ?_
    refine WO_store tys rfl rfl rfl rfl rfl rfl rfl rfl (lt_of rfl) ?_
    refine WO_norm rfl ?_
    refine WO_nil ?_
    refine thenQ_n ?_
    iterate 2 (refine W_seq ?_)
    refine W_region ?_
    iterate 4 (refine ev ?_)
    refine WO_keep [0, 1, 5, 7, 8, 9, 10, 11, 12, 13, 14, 15, 16, 17] rfl ?_
    refine ev ?_
    refine WO_guard rfl rfl rfl rfl (lt_of rfl) (fun h2 => ?_) (fun h2 => ?_)
    rotate_left
    ·
      try simp only [HS] at h2
      iterate 4 (refine WO_guardN rfl rfl rfl rfl rfl (lt_of rfl) ?_)
      refine ev ?_
      refine ev ?_
      iterate 2 (refine WO_guardN rfl rfl rfl rfl rfl (lt_of rfl) ?_)
      refine WO_keep [0, 1, 5, 7, 8, 9, 10, 11, 12, 13, 14, 15, 16, 17, 18, 19, 20, 21, 22, 23, 24, 25, 26, 27] rfl ?_
      iterate 2 (refine WO_guardN rfl rfl rfl rfl rfl (lt_of rfl) ?_)
      refine ev ?_
      refine ev ?_
      iterate 5 (refine WO_guardN rfl rfl rfl rfl rfl (lt_of rfl) ?_)
      refine WO_keep [0, 1, 5, 7, 8, 9, 10, 11, 12, 13, 14, 15, 16, 17, 18, 19, 20, 21, 22, 23, 24, 25, 26, 27, 28, 29, 30, 31, 32, 33, 34, 35, 36] rfl ?_
      refine WO_guardN rfl rfl rfl rfl rfl (lt_of rfl) ?_
      refine ev ?_
      refine WO_nil ?_
      refine thenQ_n ?_
      refine W_condT rfl ?_
      refine W_seq ?_
      refine W_region ?_
      refine ev ?_
      refine WO_nil ?_
      refine thenQ_n ?_
      refine W_ret ?_
      refine thenQ_r ?_
      refine inBlk_r ?_
      refine thenQ_r ?_
      refine loopQ_r ?_
      refine inBlk_r ?_
      refine thenQ_r ?_
      refine Ends_of (.inr rfl) (ret_okF rfl) (by decide) rfl ?_
      · first
        | exact retB (by rw [hk2, drop_end (by omega)]; rfl)
        | exact retB (by rw [hk2, drop_at hk0 (by omega), rowsGo]; simp_all <;> omega)
    try simp only [HS] at h2
    refine ev ?_
    refine WO_guardY rfl rfl rfl rfl (lt_of rfl) ?_
    refine ev ?_
    refine WO_guardY rfl rfl rfl rfl (lt_of rfl) ?_
    refine ev ?_
    refine WO_guardY rfl rfl rfl rfl (lt_of rfl) ?_
    refine ev ?_
    refine WO_guardY rfl rfl rfl rfl (lt_of rfl) ?_
    iterate 3 (refine ev ?_)
    refine WO_guard rfl rfl rfl rfl (lt_of rfl) (fun h3 => ?_) (fun h3 => ?_)
    rotate_left
    ·
      try simp only [HS] at h3
      refine WO_guardN rfl rfl rfl rfl rfl (lt_of rfl) ?_
      refine WO_keep [0, 1, 5, 7, 8, 9, 10, 11, 12, 13, 14, 15, 16, 17, 18, 19, 20, 21, 22, 23, 24, 25, 26, 27] rfl ?_
      iterate 2 (refine WO_guardN rfl rfl rfl rfl rfl (lt_of rfl) ?_)
      refine ev ?_
      refine ev ?_
      iterate 5 (refine WO_guardN rfl rfl rfl rfl rfl (lt_of rfl) ?_)
      refine WO_keep [0, 1, 5, 7, 8, 9, 10, 11, 12, 13, 14, 15, 16, 17, 18, 19, 20, 21, 22, 23, 24, 25, 26, 27, 28, 29, 30, 31, 32, 33, 34, 35, 36] rfl ?_
      refine WO_guardN rfl rfl rfl rfl rfl (lt_of rfl) ?_
      refine ev ?_
      refine WO_nil ?_
      refine thenQ_n ?_
      refine W_condT rfl ?_
      refine W_seq ?_
      refine W_region ?_
      refine ev ?_
      refine WO_nil ?_
      refine thenQ_n ?_
      refine W_ret ?_
      refine thenQ_r ?_
      refine inBlk_r ?_
      refine thenQ_r ?_
      refine loopQ_r ?_
      refine inBlk_r ?_
      refine thenQ_r ?_
      refine Ends_of (.inr rfl) (ret_okF rfl) (by decide) rfl ?_
      · first
        | exact retB (by rw [hk2, drop_end (by omega)]; rfl)
        | exact retB (by rw [hk2, drop_at hk0 (by omega), rowsGo]; simp_all <;> omega)
    try simp only [HS] at h3
    refine ev ?_
    refine WO_guardY rfl rfl rfl rfl (lt_of rfl) ?_
    refine ev ?_
    refine WO_keep [0, 1, 5, 7, 8, 9, 10, 11, 12, 13, 14, 15, 16, 17, 18, 19, 20, 21, 22, 23, 24, 25, 26, 27] rfl ?_
    refine WO_guardY rfl rfl rfl rfl (lt_of rfl) ?_
    refine ev ?_
    refine WO_guardY rfl rfl rfl rfl (lt_of rfl) ?_
    iterate 3 (refine ev ?_)
    refine WO_guard rfl rfl rfl rfl (lt_of rfl) (fun h4 => ?_) (fun h4 => ?_)
    rotate_left
    ·
      try simp only [HS] at h4
      iterate 5 (refine WO_guardN rfl rfl rfl rfl rfl (lt_of rfl) ?_)
      refine WO_keep [0, 1, 5, 7, 8, 9, 10, 11, 12, 13, 14, 15, 16, 17, 18, 19, 20, 21, 22, 23, 24, 25, 26, 27, 28, 29, 30, 31, 32, 33, 34, 35, 36, 37] rfl ?_
      refine ev ?_
      refine WO_nil ?_
      refine thenQ_n ?_
      refine W_condT rfl ?_
      refine W_seq ?_
      refine W_region ?_
      refine ev ?_
      refine WO_nil ?_
      refine thenQ_n ?_
      refine W_ret ?_
      refine thenQ_r ?_
      refine inBlk_r ?_
      refine thenQ_r ?_
      refine loopQ_r ?_
      refine inBlk_r ?_
      refine thenQ_r ?_
      refine Ends_of (.inr rfl) (ret_okF rfl) (by decide) rfl ?_
      · first
        | exact retB (by rw [hk2, drop_end (by omega)]; rfl)
        | exact retB (by rw [hk2, drop_at hk0 (by omega), rowsGo]; simp_all <;> omega)
    try simp only [HS] at h4
    refine ev ?_
    refine WO_guardY rfl rfl rfl rfl (lt_of rfl) ?_
    refine ev ?_
    refine WO_guardY rfl rfl rfl rfl (lt_of rfl) ?_
    refine ev ?_
    refine WO_guardY rfl rfl rfl rfl (lt_of rfl) ?_
    refine evI ?_
    refine WO_guardY rfl rfl rfl rfl (lt_of rfl) ?_
    refine callB ?_
    refine ⟨_, l1In_fun _ _ _, rfl, ?_⟩
    refine WO_keep [0, 1, 5, 7, 8, 9, 10, 11, 12, 13, 14, 15, 16, 17, 18, 19, 20, 21, 22, 23, 24, 25, 26, 27, 28, 29, 30, 31, 32, 33, 34, 35, 36] rfl ?_
    refine WO_guardY rfl rfl rfl rfl (lt_of rfl) ?_
    refine ev ?_
    refine ev ?_
    refine WO_nil ?_
    refine thenQ_n ?_
    refine W_cond rfl (fun h5 => ?_) (fun h5 => ?_)
    ·
      try simp only [HS] at h5
      refine W_seq ?_
      refine W_region ?_
      refine ev ?_
      refine WO_nil ?_
      refine thenQ_n ?_
      refine W_ret ?_
      refine thenQ_r ?_
      refine inBlk_r ?_
      refine thenQ_r ?_
      refine loopQ_r ?_
      refine inBlk_r ?_
      refine thenQ_r ?_
      refine Ends_of (.inr rfl) (ret_okF rfl) (by decide) rfl ?_
      · first
        | exact retB (by rw [hk2, drop_end (by omega)]; rfl)
        | exact retB (by rw [hk2, drop_at hk0 (by omega), rowsGo]; simp_all <;> omega)
    try simp only [HS] at h5
    refine W_skip ?_
    refine thenQ_n ?_
    refine W_region ?_
    iterate 3 (refine ev ?_)
    refine WO_nil ?_
    refine inBlk_n ?_
    refine thenQ_n ?_
    refine W_region ?_
    refine evI ?_
    refine ev ?_
    refine WO_nil ?_
    refine loopQ_n (_, _) (by (try dsimp only); repeat (first | exact Sub.nil' | refine Sub.cons' rfl ?_ )) (by (try dsimp only); repeat (first | exact SubM.nil' | refine SubM.cons' rfl ?_ )) ?_ ?_
    · try dsimp only
      refine ⟨by omega, by omega, ?_⟩
      rw [hk2, drop_at hk0 (by omega), rowsGo]
      simp_all <;> omega
    · (show Int.toNat _ < Int.toNat _); omega
  try simp only [HS] at h1
  refine W_exit ?_
  refine thenQ_e ?_
  refine loopQ_e ?_
  refine inBlk_y ?_
  refine thenQ_n ?_
  refine W_seq ?_
  refine W_region ?_
  refine ev ?_
  refine WO_nil ?_
  refine thenQ_n ?_
  refine W_ret ?_
  refine Ends_of (.inr rfl) (ret_okF rfl) (by decide) rfl ?_
  · first
    | exact retB (by rw [hk2, drop_end (by omega)]; rfl)
    | exact retB (by rw [hk2, drop_at hk0 (by omega), rowsGo]; simp_all <;> omega)
open Go.Eng

theorem hasNI_fun (op : Int) : Fun Tryd.prog 45 [.t (.int op)] (tupD [.t (.bool (hasNB op))]) := by
  refine Fun.begin tys Tryd.func45 rfl rfl (N := 14) [(0, .t (.int op))] rfl rfl (fun w0 G F0 => ?_)
  refine W_seq ?_
  refine W_region ?_
  refine ev ?_
  refine WO_nil ?_
  refine thenQ_n ?_
  iterate 2 (refine W_seq ?_)
  refine W_region ?_
  refine ev ?_
  refine WO_nil ?_
  refine thenQ_n ?_
  refine W_block ?_
  iterate 2 (refine W_seq ?_)
  refine W_region ?_
  refine ev ?_
  refine ev ?_
  refine WO_nil ?_
  refine thenQ_n ?_
  refine W_joinN (α := Bool) [2] [] (fun (x : Bool) => [(4, .t (.bool x))]) (fun (x : Bool) => []) (fun (x : Bool) => x = hasNB op) ?_ (fun b hx => ?_)
  ·
    refine W_cond rfl (fun h1 => ?_) (fun h1 => ?_)
    ·
      try simp only [HS] at h1
      refine W_skip ?_
      refine joinQ_n _ (by (try dsimp only); repeat (first | exact Sub.nil' | refine Sub.cons' rfl ?_)) (by (try dsimp only); repeat (first | exact SubM.nil' | refine SubM.cons' rfl ?_)) ?_
      try dsimp only
      grind [hasNB]
    try simp only [HS] at h1
    refine W_seq ?_
    refine W_region ?_
    refine ev ?_
    refine ev ?_
    refine WO_nil ?_
    refine thenQ_n ?_
    refine W_cond rfl (fun h2 => ?_) (fun h2 => ?_)
    ·
      try simp only [HS] at h2
      refine W_skip ?_
      refine joinQ_n _ (by (try dsimp only); repeat (first | exact Sub.nil' | refine Sub.cons' rfl ?_)) (by (try dsimp only); repeat (first | exact SubM.nil' | refine SubM.cons' rfl ?_)) ?_
      try dsimp only
      grind [hasNB]
    try simp only [HS] at h2
    refine W_seq ?_
    refine W_region ?_
    refine ev ?_
    refine ev ?_
    refine WO_nil ?_
    refine thenQ_n ?_
    refine W_cond rfl (fun h3 => ?_) (fun h3 => ?_)
    ·
      try simp only [HS] at h3
      refine W_skip ?_
      refine joinQ_n _ (by (try dsimp only); repeat (first | exact Sub.nil' | refine Sub.cons' rfl ?_)) (by (try dsimp only); repeat (first | exact SubM.nil' | refine SubM.cons' rfl ?_)) ?_
      try dsimp only
      grind [hasNB]
    try simp only [HS] at h3
    refine W_seq ?_
    refine W_keep [2, 3, 4] rfl ?_
    refine W_region ?_
    refine ev ?_
    refine ev ?_
    refine WO_nil ?_
    refine thenQ_n ?_
    refine W_cond rfl (fun h4 => ?_) (fun h4 => ?_)
    ·
      try simp only [HS] at h4
      refine W_skip ?_
      refine joinQ_n _ (by (try dsimp only); repeat (first | exact Sub.nil' | refine Sub.cons' rfl ?_)) (by (try dsimp only); repeat (first | exact SubM.nil' | refine SubM.cons' rfl ?_)) ?_
      try dsimp only
      grind [hasNB]
    try simp only [HS] at h4
    refine W_seq ?_
    refine W_region ?_
    refine ev ?_
    refine ev ?_
    refine WO_nil ?_
    refine thenQ_n ?_
    refine W_cond rfl (fun h5 => ?_) (fun h5 => ?_)
    ·
      try simp only [HS] at h5
      refine W_skip ?_
      refine joinQ_n _ (by (try dsimp only); repeat (first | exact Sub.nil' | refine Sub.cons' rfl ?_)) (by (try dsimp only); repeat (first | exact SubM.nil' | refine SubM.cons' rfl ?_)) ?_
      try dsimp only
      grind [hasNB]
    try simp only [HS] at h5
    refine W_seq ?_
    refine W_region ?_
    refine ev ?_
    refine ev ?_
    refine WO_nil ?_
    refine thenQ_n ?_
    refine W_cond rfl (fun h6 => ?_) (fun h6 => ?_)
    ·
      try simp only [HS] at h6
      refine W_skip ?_
      refine joinQ_n _ (by (try dsimp only); repeat (first | exact Sub.nil' | refine Sub.cons' rfl ?_)) (by (try dsimp only); repeat (first | exact SubM.nil' | refine SubM.cons' rfl ?_)) ?_
      try dsimp only
      grind [hasNB]
    try simp only [HS] at h6
    refine W_seq ?_
    refine W_region ?_
    refine ev ?_
    refine ev ?_
    refine WO_nil ?_
    refine thenQ_n ?_
    refine W_cond rfl (fun h7 => ?_) (fun h7 => ?_)
    ·
      try simp only [HS] at h7
      refine W_skip ?_
      refine joinQ_n _ (by (try dsimp only); repeat (first | exact Sub.nil' | refine Sub.cons' rfl ?_)) (by (try dsimp only); repeat (first | exact SubM.nil' | refine SubM.cons' rfl ?_)) ?_
      try dsimp only
      grind [hasNB]
    try simp only [HS] at h7
    refine W_seq ?_
    refine W_keep [2, 3, 4] rfl ?_
    refine W_region ?_
    refine ev ?_
    refine ev ?_
    refine WO_nil ?_
    refine thenQ_n ?_
    refine W_cond rfl (fun h8 => ?_) (fun h8 => ?_)
    ·
      try simp only [HS] at h8
      refine W_skip ?_
      refine joinQ_n _ (by (try dsimp only); repeat (first | exact Sub.nil' | refine Sub.cons' rfl ?_)) (by (try dsimp only); repeat (first | exact SubM.nil' | refine SubM.cons' rfl ?_)) ?_
      try dsimp only
      grind [hasNB]
    try simp only [HS] at h8
    refine W_region ?_
    refine ev ?_
    refine ev ?_
    refine WO_nil ?_
    refine joinQ_n _ (by (try dsimp only); repeat (first | exact Sub.nil' | refine Sub.cons' rfl ?_)) (by (try dsimp only); repeat (first | exact SubM.nil' | refine SubM.cons' rfl ?_)) ?_
    try dsimp only
    grind [hasNB]
  have hb := hx
  refine thenQ_n ?_
  refine W_cond rfl (fun h1 => ?_) (fun h1 => ?_)
  ·
    try simp only [HS] at h1
    refine W_seq ?_
    refine W_keep [2] rfl ?_
    refine W_region ?_
    refine ev ?_
    refine WO_nil ?_
    refine thenQ_n ?_
    refine W_ret ?_
    refine inBlk_r ?_
    refine thenQ_r ?_
    refine Ends_of (.inr rfl) (ret_okF rfl) (by decide) rfl ?_
    · exact retB (by simp_all <;> omega)
  try simp only [HS] at h1
  refine W_skip ?_
  refine inBlk_n ?_
  refine thenQ_n ?_
  refine W_seq ?_
  refine W_keep [2] rfl ?_
  refine W_region ?_
  refine ev ?_
  refine WO_nil ?_
  refine thenQ_n ?_
  refine W_ret ?_
  refine Ends_of (.inr rfl) (ret_okF rfl) (by decide) rfl ?_
  · exact retB (by simp_all <;> omega)


theorem isIns_fun (i : Ins) : Fun Tryd.prog 60 [.t i.tt] (tupD [.t (.bool (insB i))]) := by
  refine Fun.begin tys Tryd.func60 rfl rfl (N := 32) [(0, .t i.tt)] rfl rfl (fun w0 G F0 => ?_)
  refine W_seq ?_
  refine W_region ?_
  refine WO_box rfl rfl (lt_of rfl) rfl rfl ?_
  refine WO_norm rfl ?_
  refine ev ?_
  refine WO_nil ?_
  refine thenQ_n ?_
  refine W_seq ?_
  refine W_block ?_
  refine W_seq ?_
  refine W_region ?_
  refine ev ?_
  refine ev ?_
  refine callB ?_
  refine ⟨_, within_fun _ _ _, rfl, ?_⟩
  refine ev ?_
  refine ev ?_
  refine WO_nil ?_
  refine thenQ_n ?_
  refine W_cond rfl (fun h1 => ?_) (fun h1 => ?_)
  ·
    try simp only [HS] at h1
    refine W_seq ?_
    refine W_keep [1, 2] rfl ?_
    refine W_region ?_
    refine ev ?_
    refine WO_nil ?_
    refine thenQ_n ?_
    refine W_ret ?_
    refine inBlk_r ?_
    refine thenQ_r ?_
    refine Ends_of (.inr rfl) (ret_okF rfl) (by decide) rfl ?_
    · exact retB (by grind [insB, hasNB])
  try simp only [HS] at h1
  refine W_seq ?_
  refine W_keep [1, 2] rfl ?_
  refine W_region ?_
  iterate 4 (refine ev ?_)
  refine WO_nil ?_
  refine thenQ_n ?_
  refine W_cond rfl (fun h2 => ?_) (fun h2 => ?_)
  ·
    try simp only [HS] at h2
    refine W_seq ?_
    refine W_region ?_
    refine ev ?_
    refine ev ?_
    refine callB ?_
    refine ⟨_, isSmall_fun _, rfl, ?_⟩
    refine ev ?_
    refine WO_nil ?_
    refine thenQ_n ?_
    refine W_ret ?_
    refine inBlk_r ?_
    refine thenQ_r ?_
    refine Ends_of (.inr rfl) (ret_okF rfl) (by decide) rfl ?_
    · exact retB (by grind [insB, hasNB])
  try simp only [HS] at h2
  refine W_seq ?_
  refine W_region ?_
  iterate 4 (refine ev ?_)
  refine WO_nil ?_
  refine thenQ_n ?_
  refine W_cond rfl (fun h3 => ?_) (fun h3 => ?_)
  ·
    try simp only [HS] at h3
    refine W_seq ?_
    refine W_keep [1, 2] rfl ?_
    refine W_region ?_
    refine ev ?_
    refine ev ?_
    refine callB ?_
    refine ⟨_, isReckoned_fun _, rfl, ?_⟩
    refine ev ?_
    refine WO_nil ?_
    refine thenQ_n ?_
    refine W_ret ?_
    refine inBlk_r ?_
    refine thenQ_r ?_
    refine Ends_of (.inr rfl) (ret_okF rfl) (by decide) rfl ?_
    · exact retB (by grind [insB, hasNB])
  try simp only [HS] at h3
  refine W_seq ?_
  refine W_keep [1, 2] rfl ?_
  refine W_region ?_
  refine ev ?_
  refine ev ?_
  refine callB ?_
  refine ⟨_, hasNI_fun _, rfl, ?_⟩
  refine ev ?_
  refine WO_nil ?_
  refine thenQ_n ?_
  refine W_cond rfl (fun h4 => ?_) (fun h4 => ?_)
  ·
    try simp only [HS] at h4
    refine W_seq ?_
    refine W_region ?_
    refine ev ?_
    refine ev ?_
    refine callB ?_
    refine ⟨_, within_fun _ _ _, rfl, ?_⟩
    refine ev ?_
    refine WO_nil ?_
    refine thenQ_n ?_
    refine W_ret ?_
    refine inBlk_r ?_
    refine thenQ_r ?_
    refine Ends_of (.inr rfl) (ret_okF rfl) (by decide) rfl ?_
    · exact retB (by grind [insB, hasNB])
  try simp only [HS] at h4
  refine W_skip ?_
  refine inBlk_n ?_
  refine thenQ_n ?_
  refine W_seq ?_
  refine W_region ?_
  iterate 4 (refine ev ?_)
  refine WO_nil ?_
  refine thenQ_n ?_
  refine W_ret ?_
  refine Ends_of (.inr rfl) (ret_okF rfl) (by decide) rfl ?_
  · exact retB (by grind [insB, hasNB])

theorem isSizedCode1_fun (i : Ins) : Fun Tryd.prog 69 [.t i.tt] (tupD [.t (.bool (!insB i))]) := by
  refine Fun.begin tys Tryd.func69 rfl rfl (N := 6) [(0, .t i.tt)] rfl rfl (fun w0 G F0 => ?_)
  refine W_seq ?_
  refine W_region ?_
  refine WO_box rfl rfl (lt_of rfl) rfl rfl ?_
  refine WO_norm rfl ?_
  refine ev ?_
  refine WO_nil ?_
  refine thenQ_n ?_
  refine W_seq ?_
  refine W_region ?_
  first | (refine ev ?_; try refine WO_le (Le.freeze (u := 3) rfl) ?_) | refine WO_loadMove tys rfl rfl (lt_of rfl) rfl rfl rfl rfl rfl rfl ?_
  refine WO_norm rfl ?_
  refine callB ?_
  refine ⟨_, isIns_fun _, rfl, ?_⟩
  refine ev ?_
  refine ev ?_
  refine WO_nil ?_
  refine thenQ_n ?_
  refine W_ret ?_
  refine Ends_of (.inr rfl) (ret_okF rfl) (by decide) rfl ?_
  · first | rfl | (simp_all; done)

theorem idxIns_fun (l : List Ins) (p : Ins → Bool) (f : Nat) (caps : List D) (hcaps : caps.all D.imm = true) (hl : l.length ≤ 9223372036854775807) (hf : ∀ x, x ∈ l → Fun Tryd.prog f (.t x.tt :: caps) (.t (.bool (p x)))) : Fun Tryd.prog 83 [.t (T.Inss l), .clo f caps] (tupD [.t (.int (idxGo p l 0))]) := by
  refine Fun.begin tys Tryd.func83 rfl rfl (N := 19) [(0, .t (T.Inss l)), (1, .clo f caps)] rfl rfl (fun w0 G F0 => ?_)
  refine W_seq ?_
  refine W_region ?_
  refine ev ?_
  refine WO_nil ?_
  refine thenQ_n ?_
  iterate 2 (refine W_seq ?_)
  refine W_region ?_
  refine ev ?_
  refine evE ?_
  refine ev ?_
  refine WO_nil ?_
  refine thenQ_n ?_
  refine W_block ?_
  refine W_loopK (α := Int) [0, 1, 7] [] (fun (x : Int) => [(8, .t (.int x))]) (fun (x : Int) => []) (fun (x : Int) => 0 ≤ x ∧ x ≤ l.length ∧ idxGo p l 0 = idxGo p (l.drop x.toNat) x) (fun (x : Int) => Int.toNat (l.length - x)) 0 ?_ ?_ ?_ (fun k hx => ?_)
  · repeat (first | exact Sub.nil' | refine Sub.cons' rfl ?_ )
  · repeat (first | exact SubM.nil' | refine SubM.cons' rfl ?_ )
  · exact ⟨by omega, by omega, rfl⟩
  obtain ⟨hk0, hk1, hk2⟩ := hx
  refine W_norm rfl ?_
  refine W_seq ?_
  refine W_region ?_
  refine ev ?_
  refine WO_nil ?_
  refine thenQ_n ?_
  refine W_seq ?_
  refine W_cond rfl (fun h1 => ?_) (fun h1 => ?_)
  ·
    try simp only [HS] at h1
    refine W_skip ?_
    refine thenQ_n ?_
    refine W_seq ?_
    refine W_block ?_
    refine W_seq ?_
    refine W_region ?_
    refine ev ?_
    refine ev ?_
    refine WO_nil ?_
    refine thenQ_n ?_
    refine W_seq ?_
    refine W_region ?_
    refine WO_moveClo tys rfl rfl (lt_of rfl) rfl rfl (by assumption) ?_
    refine ev ?_
    refine ev ?_
    first | refine WO_idxT tys rfl rfl (lt_of rfl) rfl rfl rfl rfl rfl rfl rfl (by omega) _ (getT _ _ (by omega) (by omega)) ?_ | refine WO_idxS tys rfl rfl (lt_of rfl) rfl rfl rfl rfl rfl rfl rfl rfl (by omega) (by omega) ?_
    first | (refine ev ?_; try refine WO_le (Le.freeze (u := 15) rfl) ?_) | refine WO_loadL tys rfl rfl (lt_of rfl) rfl rfl rfl rfl (getT _ _ (by omega) (by omega)) rfl ?_ | refine WO_loadL tys rfl rfl (lt_of rfl) rfl rfl rfl rfl (getT0 _ _ (by omega) (by omega)) rfl ?_
    refine WO_norm rfl ?_
    refine WO_call rfl rfl (lt_of rfl) rfl rfl (by repeat (first | exact ResL.done | exact ResL.imms (by first | rfl | assumption) | refine ResL.t ?_ | refine ResL.own ?_ | refine ResL.slA rfl (by first | rfl | (simp; done) | (simp; omega)) ?_ | refine ResL.sl rfl (by first | omega | (simp; done) | (simp; omega)) ?_ | refine ResL.rp ?_ | refine ResL.clo ?_ ?_ | refine ResL.aggT ?_ ?_ | refine ResL.ref rfl ?_ ?_ | refine ResL.nil' ?_ | refine ResL.nil 1 ?_)) (hf _ (List.getElem_mem _)) rfl ?_
    refine WO_keep [0, 1, 5, 7, 8, 9, 10, 11, 12, 13, 14, 15, 16] rfl ?_
    refine WO_nil ?_
    refine thenQ_n ?_
    refine W_cond rfl (fun h2 => ?_) (fun h2 => ?_)
    ·
      try simp only [HS] at h2
      refine W_seq ?_
      refine W_region ?_
      refine ev ?_
      refine ev ?_
      refine WO_nil ?_
      refine thenQ_n ?_
      refine W_ret ?_
      refine inBlk_r ?_
      refine thenQ_r ?_
      refine loopQ_r ?_
      refine inBlk_r ?_
      refine thenQ_r ?_
      refine Ends_of (.inr rfl) (ret_okF rfl) (by decide) rfl ?_
      · first | (rw [hk2, idx_at hk0 h1]; simp [h2]; done) | (rw [hk2, drop_end h1]; rfl)
    try simp only [HS] at h2
    refine W_skip ?_
    refine inBlk_n ?_
    refine thenQ_n ?_
    refine W_region ?_
    refine evI ?_
    refine ev ?_
    refine WO_nil ?_
    refine loopQ_n _ (by (try dsimp only); repeat (first | exact Sub.nil' | refine Sub.cons' rfl ?_ )) (by (try dsimp only); repeat (first | exact SubM.nil' | refine SubM.cons' rfl ?_ )) ?_ ?_
    · try dsimp only
      refine ⟨by omega, by omega, ?_⟩; rw [hk2, idx_at hk0 h1]; simp [h2]
    · (show Int.toNat _ < Int.toNat _); omega
  try simp only [HS] at h1
  refine W_exit ?_
  refine thenQ_e ?_
  refine loopQ_e ?_
  refine inBlk_y ?_
  refine thenQ_n ?_
  refine W_seq ?_
  refine W_region ?_
  refine ev ?_
  refine WO_nil ?_
  refine thenQ_n ?_
  refine W_ret ?_
  refine Ends_of (.inr rfl) (ret_okF rfl) (by decide) rfl ?_
  · first | (rw [hk2, idx_at hk0 h1]; simp [h2]; done) | (rw [hk2, drop_end h1]; rfl)

theorem hasIns_fun (l : List Ins) (p : Ins → Bool) (f : Nat) (caps : List D) (hcaps : caps.all D.imm = true) (hl : l.length ≤ 9223372036854775807) (hf : ∀ x, x ∈ l → Fun Tryd.prog f (.t x.tt :: caps) (.t (.bool (p x)))) : Fun Tryd.prog 68 [.t (T.Inss l), .clo f caps] (tupD [.t (.bool (l.any p))]) := by
  refine Fun.begin tys Tryd.func68 rfl rfl (N := 9) [(0, .t (T.Inss l)), (1, .clo f caps)] rfl rfl (fun w0 G F0 => ?_)
  refine W_seq ?_
  refine W_region ?_
  refine ev ?_
  refine WO_nil ?_
  refine thenQ_n ?_
  refine W_seq ?_
  refine W_region ?_
  refine ev ?_
  refine WO_moveClo tys rfl rfl (lt_of rfl) rfl rfl (by assumption) ?_
  refine WO_call rfl rfl (lt_of rfl) rfl rfl (by repeat (first | exact ResL.done | exact ResL.imms (by first | rfl | assumption) | refine ResL.t ?_ | refine ResL.own ?_ | refine ResL.slA rfl (by first | rfl | (simp; done) | (simp; omega)) ?_ | refine ResL.sl rfl (by first | omega | (simp; done) | (simp; omega)) ?_ | refine ResL.rp ?_ | refine ResL.clo ?_ ?_ | refine ResL.aggT ?_ ?_ | refine ResL.ref rfl ?_ ?_ | refine ResL.nil' ?_ | refine ResL.nil 1 ?_)) (idxIns_fun l p f caps hcaps hl hf) rfl ?_
  refine ev ?_
  refine ev ?_
  refine WO_nil ?_
  refine thenQ_n ?_
  refine W_ret ?_
  refine Ends_of (.inr rfl) (ret_okF rfl) (by decide) rfl ?_
  · rw [← idxGo_any (Int.le_refl 0)]




theorem any_notI {α : Type} {p : α → Bool} {l : List α} : (l.any fun n => !p n) = !l.all p := by rw [List.not_all_eq_any_not]

theorem sizedC_yes {c : Code} (h : (0 ≤ c.params ∧ c.params ≤ 2) ∧ (c.params ≤ c.vars ∧ c.vars ≤ 6) ∧ c.sites.length ≤ 4 ∧ (1 ≤ c.ins.length ∧ c.ins.length ≤ 300) ∧ c.rows.length ≤ 300) : sizedC c = c.ins.all insB := by
  unfold sizedC
  rw [decide_eq_true h.1, decide_eq_true h.2.1, decide_eq_true h.2.2.1, decide_eq_true h.2.2.2.1, decide_eq_true h.2.2.2.2]
  simp

theorem isSizedCode_fun (c : Code) (hc : c.ok 1048576) : Fun Tryd.prog 38 [.t c.tt] (tupD [.t (.bool (sizedC c))]) := by
  have hc1 : c.sites.length ≤ 1048576 := hc.1
  have hc2 : c.ins.length ≤ 1048576 := hc.2.1
  have hc3 : c.rows.length ≤ 1048576 := hc.2.2.1
  refine Fun.begin tys Tryd.func38 rfl rfl (N := 37) [(0, .t c.tt)] rfl rfl (fun w0 G F0 => ?_)
  refine W_seq ?_
  refine W_region ?_
  refine WO_box rfl rfl (lt_of rfl) rfl rfl ?_
  refine WO_norm rfl ?_
  refine ev ?_
  refine WO_nil ?_
  refine thenQ_n ?_
  refine W_seq ?_
  refine W_region ?_
  refine ev ?_
  refine ev ?_
  refine callB ?_
  refine ⟨_, within_fun _ _ _, rfl, ?_⟩
  refine ev ?_
  refine WO_guard rfl rfl rfl rfl (lt_of rfl) (fun h1 => ?_) (fun h1 => ?_)
  rotate_left
  ·
    try simp only [HS] at h1
    iterate 3 (refine WO_guardN rfl rfl rfl rfl rfl (lt_of rfl) ?_)
    refine WO_keep [1, 2, 6, 8, 10] rfl ?_
    refine WO_guardN rfl rfl rfl rfl rfl (lt_of rfl) ?_
    refine ev ?_
    refine ev ?_
    iterate 4 (refine WO_guardN rfl rfl rfl rfl rfl (lt_of rfl) ?_)
    refine ev ?_
    refine ev ?_
    refine WO_keep [1, 2, 19] rfl ?_
    iterate 4 (refine WO_guardN rfl rfl rfl rfl rfl (lt_of rfl) ?_)
    refine ev ?_
    refine ev ?_
    iterate 3 (refine WO_guardN rfl rfl rfl rfl rfl (lt_of rfl) ?_)
    refine WO_keep [1, 2, 25, 28] rfl ?_
    refine WO_guardN rfl rfl rfl rfl rfl (lt_of rfl) ?_
    refine ev ?_
    refine ev ?_
    iterate 4 (refine WO_guardN rfl rfl rfl rfl rfl (lt_of rfl) ?_)
    refine ev ?_
    refine ev ?_
    refine WO_keep [2] rfl ?_
    refine WO_nil ?_
    refine thenQ_n ?_
    refine W_ret ?_
    refine Ends_of (.inr rfl) (ret_okF rfl) (by decide) rfl ?_
    · first
      | exact retB (by rw [any_notI, Bool.not_not, sizedC_yes (by omega)])
      | exact retB (by symm; rw [← Bool.not_eq_true]; intro h; obtain ⟨a, b, d, e, f, g⟩ := sizedC_of h; omega)
  try simp only [HS] at h1
  refine ev ?_
  refine WO_guardY rfl rfl rfl rfl (lt_of rfl) ?_
  refine ev ?_
  refine WO_guardY rfl rfl rfl rfl (lt_of rfl) ?_
  refine ev ?_
  refine WO_keep [1, 2, 6, 8, 9] rfl ?_
  refine WO_guardY rfl rfl rfl rfl (lt_of rfl) ?_
  refine ev ?_
  refine WO_guardY rfl rfl rfl rfl (lt_of rfl) ?_
  refine callB ?_
  refine ⟨_, within_fun _ _ _, rfl, ?_⟩
  refine ev ?_
  refine ev ?_
  refine WO_guard rfl rfl rfl rfl (lt_of rfl) (fun h2 => ?_) (fun h2 => ?_)
  rotate_left
  ·
    try simp only [HS] at h2
    iterate 3 (refine WO_guardN rfl rfl rfl rfl rfl (lt_of rfl) ?_)
    refine ev ?_
    refine ev ?_
    refine WO_keep [1, 2, 19] rfl ?_
    iterate 4 (refine WO_guardN rfl rfl rfl rfl rfl (lt_of rfl) ?_)
    refine ev ?_
    refine ev ?_
    iterate 3 (refine WO_guardN rfl rfl rfl rfl rfl (lt_of rfl) ?_)
    refine WO_keep [1, 2, 25, 28] rfl ?_
    refine WO_guardN rfl rfl rfl rfl rfl (lt_of rfl) ?_
    refine ev ?_
    refine ev ?_
    iterate 4 (refine WO_guardN rfl rfl rfl rfl rfl (lt_of rfl) ?_)
    refine ev ?_
    refine ev ?_
    refine WO_keep [2] rfl ?_
    refine WO_nil ?_
    refine thenQ_n ?_
    refine W_ret ?_
    refine Ends_of (.inr rfl) (ret_okF rfl) (by decide) rfl ?_
    · first
      | exact retB (by rw [any_notI, Bool.not_not, sizedC_yes (by omega)])
      | exact retB (by symm; rw [← Bool.not_eq_true]; intro h; obtain ⟨a, b, d, e, f, g⟩ := sizedC_of h; omega)
  try simp only [HS] at h2
  refine ev ?_
  refine WO_guardY rfl rfl rfl rfl (lt_of rfl) ?_
  refine ev ?_
  refine WO_guardY rfl rfl rfl rfl (lt_of rfl) ?_
  refine evE ?_
  refine WO_guardY rfl rfl rfl rfl (lt_of rfl) ?_
  refine ev ?_
  refine ev ?_
  refine WO_keep [1, 2, 18] rfl ?_
  refine ev ?_
  refine WO_guard rfl rfl rfl rfl (lt_of rfl) (fun h3 => ?_) (fun h3 => ?_)
  rotate_left
  ·
    try simp only [HS] at h3
    iterate 3 (refine WO_guardN rfl rfl rfl rfl rfl (lt_of rfl) ?_)
    refine ev ?_
    refine ev ?_
    iterate 3 (refine WO_guardN rfl rfl rfl rfl rfl (lt_of rfl) ?_)
    refine WO_keep [1, 2, 25, 28] rfl ?_
    refine WO_guardN rfl rfl rfl rfl rfl (lt_of rfl) ?_
    refine ev ?_
    refine ev ?_
    iterate 4 (refine WO_guardN rfl rfl rfl rfl rfl (lt_of rfl) ?_)
    refine ev ?_
    refine ev ?_
    refine WO_keep [2] rfl ?_
    refine WO_nil ?_
    refine thenQ_n ?_
    refine W_ret ?_
    refine Ends_of (.inr rfl) (ret_okF rfl) (by decide) rfl ?_
    · first
      | exact retB (by rw [any_notI, Bool.not_not, sizedC_yes (by omega)])
      | exact retB (by symm; rw [← Bool.not_eq_true]; intro h; obtain ⟨a, b, d, e, f, g⟩ := sizedC_of h; omega)
  try simp only [HS] at h3
  refine ev ?_
  refine WO_guardY rfl rfl rfl rfl (lt_of rfl) ?_
  refine ev ?_
  refine WO_guardY rfl rfl rfl rfl (lt_of rfl) ?_
  refine evE ?_
  refine WO_guardY rfl rfl rfl rfl (lt_of rfl) ?_
  refine callB ?_
  refine ⟨_, within_fun _ _ _, rfl, ?_⟩
  refine ev ?_
  refine ev ?_
  refine WO_guard rfl rfl rfl rfl (lt_of rfl) (fun h4 => ?_) (fun h4 => ?_)
  rotate_left
  ·
    try simp only [HS] at h4
    iterate 2 (refine WO_guardN rfl rfl rfl rfl rfl (lt_of rfl) ?_)
    refine WO_keep [1, 2, 25, 28] rfl ?_
    refine WO_guardN rfl rfl rfl rfl rfl (lt_of rfl) ?_
    refine ev ?_
    refine ev ?_
    iterate 4 (refine WO_guardN rfl rfl rfl rfl rfl (lt_of rfl) ?_)
    refine ev ?_
    refine ev ?_
    refine WO_keep [2] rfl ?_
    refine WO_nil ?_
    refine thenQ_n ?_
    refine W_ret ?_
    refine Ends_of (.inr rfl) (ret_okF rfl) (by decide) rfl ?_
    · first
      | exact retB (by rw [any_notI, Bool.not_not, sizedC_yes (by omega)])
      | exact retB (by symm; rw [← Bool.not_eq_true]; intro h; obtain ⟨a, b, d, e, f, g⟩ := sizedC_of h; omega)
  try simp only [HS] at h4
  refine ev ?_
  refine WO_guardY rfl rfl rfl rfl (lt_of rfl) ?_
  refine ev ?_
  refine WO_keep [1, 2, 25, 27] rfl ?_
  refine WO_guardY rfl rfl rfl rfl (lt_of rfl) ?_
  refine evE ?_
  refine WO_guardY rfl rfl rfl rfl (lt_of rfl) ?_
  iterate 3 (refine ev ?_)
  refine WO_guard rfl rfl rfl rfl (lt_of rfl) (fun h5 => ?_) (fun h5 => ?_)
  rotate_left
  ·
    try simp only [HS] at h5
    iterate 3 (refine WO_guardN rfl rfl rfl rfl rfl (lt_of rfl) ?_)
    refine ev ?_
    refine ev ?_
    refine WO_keep [2] rfl ?_
    refine WO_nil ?_
    refine thenQ_n ?_
    refine W_ret ?_
    refine Ends_of (.inr rfl) (ret_okF rfl) (by decide) rfl ?_
    · first
      | exact retB (by rw [any_notI, Bool.not_not, sizedC_yes (by omega)])
      | exact retB (by symm; rw [← Bool.not_eq_true]; intro h; obtain ⟨a, b, d, e, f, g⟩ := sizedC_of h; omega)
  try simp only [HS] at h5
  refine ev ?_
  refine WO_guardY rfl rfl rfl rfl (lt_of rfl) ?_
  refine ev ?_
  refine WO_guardY rfl rfl rfl rfl (lt_of rfl) ?_
  refine callB ?_
  refine ⟨_, hasIns_fun c.ins (fun i => !insB i) _ [] rfl (by omega) (fun i _ => isSizedCode1_fun i), rfl, ?_⟩
  refine WO_guardY rfl rfl rfl rfl (lt_of rfl) ?_
  refine ev ?_
  refine ev ?_
  refine WO_keep [2, 36] rfl ?_
  refine ev ?_
  refine WO_nil ?_
  refine thenQ_n ?_
  refine W_ret ?_
  refine Ends_of (.inr rfl) (ret_okF rfl) (by decide) rfl ?_
  · first
    | exact retB (by rw [any_notI, Bool.not_not, sizedC_yes (by omega)])
    | exact retB (by symm; rw [← Bool.not_eq_true]; intro h; obtain ⟨a, b, d, e, f, g⟩ := sizedC_of h; omega)






theorem areRows_fun (rows : List Row) (many : Int) (hl : rows.length ≤ 1048576) (hm : 0 ≤ many ∧ many ≤ 1048576) : Fun Tryd.prog 39 [.t (T.Rows rows), .t (.int many)] (tupD [.t (.bool (rowsB rows many))]) := by
  refine Fun.begin tys Tryd.func39 rfl rfl (N := 42) [(0, .t (T.Rows rows)), (1, .t (.int many))] rfl rfl (fun w0 G F0 => ?_)
  refine W_seq ?_
  refine W_region ?_
  refine ev ?_
  refine WO_nil ?_
  refine thenQ_n ?_
  refine W_seq ?_
  refine W_region ?_
  refine ev ?_
  refine WO_nil ?_
  refine thenQ_n ?_
  iterate 2 (refine W_seq ?_)
  refine W_region ?_
  refine ev ?_
  refine evE ?_
  refine ev ?_
  refine WO_nil ?_
  refine thenQ_n ?_
  refine W_block ?_
  refine W_loopK (α := Int × Int) [0, 1, 8, 9] [] (fun (x : Int × Int) => [(10, .t (.int (x.1))), (5, .t (.int (x.2)))]) (fun (x : Int × Int) => []) (fun (x : Int × Int) => 0 ≤ (x.1) ∧ (x.1) ≤ rows.length ∧ rowsB rows many = rowsGo many (rows.drop (x.1).toNat) (x.2)) (fun (x : Int × Int) => Int.toNat (rows.length - (x.1))) (0, 0) ?_ ?_ ?_ (fun x hx => ?_)
  · repeat (first | exact Sub.nil' | refine Sub.cons' rfl ?_ )
  · repeat (first | exact SubM.nil' | refine SubM.cons' rfl ?_ )
  · exact ⟨by omega, by omega, rfl⟩
  obtain ⟨k, e⟩ := x
  obtain ⟨hk0, hk1, hk2⟩ := hx
  try dsimp only at hk0 hk1 hk2 ⊢
  refine W_norm rfl ?_
  refine W_seq ?_
  refine W_region ?_
  refine ev ?_
  refine WO_nil ?_
  refine thenQ_n ?_
  refine W_seq ?_
  refine W_cond rfl (fun h1 => ?_) (fun h1 => ?_)
  ·
    try simp only [HS] at h1
    refine W_skip ?_
    refine thenQ_n ?_
    refine W_seq ?_
    refine W_block ?_
    refine W_seq ?_
    refine W_region ?_
    first | refine WO_idxT tys rfl rfl (lt_of rfl) rfl rfl rfl rfl rfl rfl rfl (by omega) _ (getT _ _ (by omega) (by omega)) ?_ | refine WO_idxS tys rfl rfl (lt_of rfl) rfl rfl rfl rfl rfl rfl rfl rfl (by omega) (by omega) ?_
    first | (refine ev ?_; try refine WO_le (Le.freeze (u := 13) rfl) ?_) | refine WO_loadL tys rfl rfl (lt_of rfl) rfl rfl rfl rfl (getT _ _ (by omega) (by omega)) rfl ?_ | refine WO_loadL tys rfl rfl (lt_of rfl) rfl rfl rfl rfl (getT0 _ _ (by omega) (by omega)) rfl ?_
    refine WO_norm rfl ?_
    refine WO_alloc tys rfl rfl (lt_of rfl) rfl rfl rfl ?_
    refine WO_norm rfl ?_
    refine WO_store tys rfl rfl rfl rfl rfl rfl rfl rfl (lt_of rfl) ?_
    refine WO_norm rfl ?_
    refine WO_nil ?_
    refine thenQ_n ?_
    iterate 2 (refine W_seq ?_)
    refine W_region ?_
    iterate 4 (refine ev ?_)
    refine WO_keep [0, 1, 5, 7, 8, 9, 10, 11, 12, 13, 14, 15, 16, 17] rfl ?_
    refine ev ?_
    refine WO_guard rfl rfl rfl rfl (lt_of rfl) (fun h2 => ?_) (fun h2 => ?_)
    rotate_left
    ·
      try simp only [HS] at h2
      iterate 4 (refine WO_guardN rfl rfl rfl rfl rfl (lt_of rfl) ?_)
      refine ev ?_
      refine ev ?_
      iterate 2 (refine WO_guardN rfl rfl rfl rfl rfl (lt_of rfl) ?_)
      refine WO_keep [0, 1, 5, 7, 8, 9, 10, 11, 12, 13, 14, 15, 16, 17, 18, 19, 20, 21, 22, 23, 24, 25, 26, 27] rfl ?_
      iterate 2 (refine WO_guardN rfl rfl rfl rfl rfl (lt_of rfl) ?_)
      refine ev ?_
      refine ev ?_
      iterate 5 (refine WO_guardN rfl rfl rfl rfl rfl (lt_of rfl) ?_)
      refine WO_keep [0, 1, 5, 7, 8, 9, 10, 11, 12, 13, 14, 15, 16, 17, 18, 19, 20, 21, 22, 23, 24, 25, 26, 27, 28, 29, 30, 31, 32, 33, 34, 35, 36] rfl ?_
      refine WO_guardN rfl rfl rfl rfl rfl (lt_of rfl) ?_
      refine ev ?_
      refine WO_nil ?_
      refine thenQ_n ?_
      refine W_condT rfl ?_
      refine W_seq ?_
      refine W_region ?_
      refine ev ?_
      refine WO_nil ?_
      refine thenQ_n ?_
      refine W_ret ?_
      refine thenQ_r ?_
      refine inBlk_r ?_
      refine thenQ_r ?_
      refine loopQ_r ?_
      refine inBlk_r ?_
      refine thenQ_r ?_
      refine Ends_of (.inr rfl) (ret_okF rfl) (by decide) rfl ?_
      · first
        | exact retB (by rw [hk2, drop_end (by omega)]; rfl)
        | exact retB (by rw [hk2, drop_at hk0 (by omega), rowsGo]; simp_all <;> omega)
    try simp only [HS] at h2
    refine ev ?_
    refine WO_guardY rfl rfl rfl rfl (lt_of rfl) ?_
    refine ev ?_
    refine WO_guardY rfl rfl rfl rfl (lt_of rfl) ?_
    refine ev ?_
    refine WO_guardY rfl rfl rfl rfl (lt_of rfl) ?_
    refine ev ?_
    refine WO_guardY rfl rfl rfl rfl (lt_of rfl) ?_
    iterate 3 (refine ev ?_)
    refine WO_guard rfl rfl rfl rfl (lt_of rfl) (fun h3 => ?_) (fun h3 => ?_)
    rotate_left
    ·
      try simp only [HS] at h3
      refine WO_guardN rfl rfl rfl rfl rfl (lt_of rfl) ?_
      refine WO_keep [0, 1, 5, 7, 8, 9, 10, 11, 12, 13, 14, 15, 16, 17, 18, 19, 20, 21, 22, 23, 24, 25, 26, 27] rfl ?_
      iterate 2 (refine WO_guardN rfl rfl rfl rfl rfl (lt_of rfl) ?_)
      refine ev ?_
      refine ev ?_
      iterate 5 (refine WO_guardN rfl rfl rfl rfl rfl (lt_of rfl) ?_)
      refine WO_keep [0, 1, 5, 7, 8, 9, 10, 11, 12, 13, 14, 15, 16, 17, 18, 19, 20, 21, 22, 23, 24, 25, 26, 27, 28, 29, 30, 31, 32, 33, 34, 35, 36] rfl ?_
      refine WO_guardN rfl rfl rfl rfl rfl (lt_of rfl) ?_
      refine ev ?_
      refine WO_nil ?_
      refine thenQ_n ?_
      refine W_condT rfl ?_
      refine W_seq ?_
      refine W_region ?_
      refine ev ?_
      refine WO_nil ?_
      refine thenQ_n ?_
      refine W_ret ?_
      refine thenQ_r ?_
      refine inBlk_r ?_
      refine thenQ_r ?_
      refine loopQ_r ?_
      refine inBlk_r ?_
      refine thenQ_r ?_
      refine Ends_of (.inr rfl) (ret_okF rfl) (by decide) rfl ?_
      · first
        | exact retB (by rw [hk2, drop_end (by omega)]; rfl)
        | exact retB (by rw [hk2, drop_at hk0 (by omega), rowsGo]; simp_all <;> omega)
    try simp only [HS] at h3
    refine ev ?_
    refine WO_guardY rfl rfl rfl rfl (lt_of rfl) ?_
    refine ev ?_
    refine WO_keep [0, 1, 5, 7, 8, 9, 10, 11, 12, 13, 14, 15, 16, 17, 18, 19, 20, 21, 22, 23, 24, 25, 26, 27] rfl ?_
    refine WO_guardY rfl rfl rfl rfl (lt_of rfl) ?_
    refine ev ?_
    refine WO_guardY rfl rfl rfl rfl (lt_of rfl) ?_
    iterate 3 (refine ev ?_)
    refine WO_guard rfl rfl rfl rfl (lt_of rfl) (fun h4 => ?_) (fun h4 => ?_)
    rotate_left
    ·
      try simp only [HS] at h4
      iterate 5 (refine WO_guardN rfl rfl rfl rfl rfl (lt_of rfl) ?_)
      refine WO_keep [0, 1, 5, 7, 8, 9, 10, 11, 12, 13, 14, 15, 16, 17, 18, 19, 20, 21, 22, 23, 24, 25, 26, 27, 28, 29, 30, 31, 32, 33, 34, 35, 36, 37] rfl ?_
      refine ev ?_
      refine WO_nil ?_
      refine thenQ_n ?_
      refine W_condT rfl ?_
      refine W_seq ?_
      refine W_region ?_
      refine ev ?_
      refine WO_nil ?_
      refine thenQ_n ?_
      refine W_ret ?_
      refine thenQ_r ?_
      refine inBlk_r ?_
      refine thenQ_r ?_
      refine loopQ_r ?_
      refine inBlk_r ?_
      refine thenQ_r ?_
      refine Ends_of (.inr rfl) (ret_okF rfl) (by decide) rfl ?_
      · first
        | exact retB (by rw [hk2, drop_end (by omega)]; rfl)
        | exact retB (by rw [hk2, drop_at hk0 (by omega), rowsGo]; simp_all <;> omega)
    try simp only [HS] at h4
    refine ev ?_
    refine WO_guardY rfl rfl rfl rfl (lt_of rfl) ?_
    refine ev ?_
    refine WO_guardY rfl rfl rfl rfl (lt_of rfl) ?_
    refine ev ?_
    refine WO_guardY rfl rfl rfl rfl (lt_of rfl) ?_
    refine evI ?_
    refine WO_guardY rfl rfl rfl rfl (lt_of rfl) ?_
    refine callB ?_
    refine ⟨_, within_fun _ _ _, rfl, ?_⟩
    refine WO_keep [0, 1, 5, 7, 8, 9, 10, 11, 12, 13, 14, 15, 16, 17, 18, 19, 20, 21, 22, 23, 24, 25, 26, 27, 28, 29, 30, 31, 32, 33, 34, 35, 36] rfl ?_
    refine WO_guardY rfl rfl rfl rfl (lt_of rfl) ?_
    refine ev ?_
    refine ev ?_
    refine WO_nil ?_
    refine thenQ_n ?_
    refine W_cond rfl (fun h5 => ?_) (fun h5 => ?_)
    ·
      try simp only [HS] at h5
      refine W_seq ?_
      refine W_region ?_
      refine ev ?_
      refine WO_nil ?_
      refine thenQ_n ?_
      refine W_ret ?_
      refine thenQ_r ?_
      refine inBlk_r ?_
      refine thenQ_r ?_
      refine loopQ_r ?_
      refine inBlk_r ?_
      refine thenQ_r ?_
      refine Ends_of (.inr rfl) (ret_okF rfl) (by decide) rfl ?_
      · first
        | exact retB (by rw [hk2, drop_end (by omega)]; rfl)
        | exact retB (by rw [hk2, drop_at hk0 (by omega), rowsGo]; simp_all <;> omega)
    try simp only [HS] at h5
    refine W_skip ?_
    refine thenQ_n ?_
    refine W_region ?_
    iterate 3 (refine ev ?_)
    refine WO_nil ?_
    refine inBlk_n ?_
    refine thenQ_n ?_
    refine W_region ?_
    refine evI ?_
    refine ev ?_
    refine WO_nil ?_
    refine loopQ_n (_, _) (by (try dsimp only); repeat (first | exact Sub.nil' | refine Sub.cons' rfl ?_ )) (by (try dsimp only); repeat (first | exact SubM.nil' | refine SubM.cons' rfl ?_ )) ?_ ?_
    · try dsimp only
      refine ⟨by omega, by omega, ?_⟩
      rw [hk2, drop_at hk0 (by omega), rowsGo]
      simp_all <;> omega
    · (show Int.toNat _ < Int.toNat _); omega
  try simp only [HS] at h1
  refine W_exit ?_
  refine thenQ_e ?_
  refine loopQ_e ?_
  refine inBlk_y ?_
  refine thenQ_n ?_
  refine W_seq ?_
  refine W_region ?_
  refine ev ?_
  refine WO_nil ?_
  refine thenQ_n ?_
  refine W_ret ?_
  refine Ends_of (.inr rfl) (ret_okF rfl) (by decide) rfl ?_
  · first
    | exact retB (by rw [hk2, drop_end (by omega)]; rfl)
    | exact retB (by rw [hk2, drop_at hk0 (by omega), rowsGo]; simp_all <;> omega)
open Go.Eng

abbrev Tx := List UInt8
def T.strs (l : List Tx) : T := .list 1 (l.map T.str)
open Go.Eng

def wordsL : List Tx := [[], [110, 117, 109], [118, 97, 114], [115, 101, 116], [114, 101, 99, 107, 111, 110], [105, 110, 112, 117, 116], [114, 101, 99, 111, 118, 101, 114], [99, 97, 108, 108], [112, 114, 105, 110, 116], [100, 114, 111, 112], [106, 117, 109, 112], [117, 110, 108, 101, 115, 115], [112, 117, 116], [112, 97, 110, 105, 99], [101, 120, 105, 116], [114, 101, 115, 117, 108, 116], [108, 101, 97, 118, 101], [111, 102, 102], [101, 110, 100]]
theorem l5Words_fun  : Fun Tryd.prog 27 [] (tupD [.own (T.strs wordsL)]) := by
  refine Fun.begin tys Tryd.func27 rfl rfl (N := 2) [] rfl rfl (fun w0 G F0 => ?_)
  refine W_seq ?_
  refine W_region ?_
  refine ev ?_
  refine WO_nil ?_
  refine thenQ_n ?_
  refine W_seq ?_
  refine W_region ?_
  refine WO_buildSlice tys [T.str [], T.str [110, 117, 109], T.str [118, 97, 114], T.str [115, 101, 116], T.str [114, 101, 99, 107, 111, 110], T.str [105, 110, 112, 117, 116], T.str [114, 101, 99, 111, 118, 101, 114], T.str [99, 97, 108, 108], T.str [112, 114, 105, 110, 116], T.str [100, 114, 111, 112], T.str [106, 117, 109, 112], T.str [117, 110, 108, 101, 115, 115], T.str [112, 117, 116], T.str [112, 97, 110, 105, 99], T.str [101, 120, 105, 116], T.str [114, 101, 115, 117, 108, 116], T.str [108, 101, 97, 118, 101], T.str [111, 102, 102], T.str [101, 110, 100]] rfl rfl (lt_of rfl) rfl rfl rfl rfl rfl (lt_of rfl) (by repeat (first | exact PartsOk.nil' | refine PartsOk.cons' rfl (by repeat (first | exact AbsL.nil' | refine AbsL.v' ?_ | refine AbsL.own' ?_ | refine AbsL.none' ?_)) rfl ?_)) (by first | exact List.nodup_nil | exact nodup1 _ | decide | exact nodupB_sound rfl) rfl (by decide) ?_
  refine WO_norm rfl ?_
  refine ev ?_
  refine WO_nil ?_
  refine thenQ_n ?_
  refine W_le (Le.gather (u := 0) (id := 1) rfl rfl (by decide)) ?_
  refine W_ret ?_
  refine Ends_of (.inr rfl) (ret_okF rfl) (by decide) rfl ?_
  · first | rfl | (simp_all; done)
open Go.Eng
open Go.Eng
end Go.Proofs.YtafjkelehnpfcaaDoor
