/- Walks of what the program asks of images, part by part. -/
import Derived.Test.YtafjkelehnpfcaaDoorKc
set_option linter.unusedVariables false
set_option linter.unusedSimpArgs false
set_option maxRecDepth 10000
set_option maxHeartbeats 1000000
namespace Go.Proofs.YtafjkelehnpfcaaDoor
open Go.Eng

theorem hasNI_fun (op : Int) : Fun Tryd.prog 45 [.t (.int op)] (tupD [.t (.bool (hasNB op))]) := by
  refine Fun.begin tys Tryd.func45 rfl rfl (N := 14) [(0, .t (.int op))] rfl rfl (fun w0 G F0 => ?_)
  refine W_seq ?_
  refine W_region ?_
  refine ev ?_
  refine WO_nil ?_
  refine thenQ_n ?_
  iterate 2 (refine W_seq ?_)
  refine W_region ?_
  refine ev ?_
  refine WO_nil ?_
  refine thenQ_n ?_
  refine W_block ?_
  iterate 2 (refine W_seq ?_)
  refine W_region ?_
  refine ev ?_
  refine ev ?_
  refine WO_nil ?_
  refine thenQ_n ?_
  refine W_joinN (α := Bool) [2] [] (fun (x : Bool) => [(4, .t (.bool x))]) (fun (x : Bool) => []) (fun (x : Bool) => x = hasNB op) ?_ (fun b hx => ?_)
  ·
    refine W_cond rfl (fun h1 => ?_) (fun h1 => ?_)
    ·
      try simp only [HS] at h1
      refine W_skip ?_
      refine joinQ_n _ (by (try dsimp only); repeat (first | exact Sub.nil' | refine Sub.cons' rfl ?_)) (by (try dsimp only); repeat (first | exact SubM.nil' | refine SubM.cons' rfl ?_)) ?_
      try dsimp only
      grind [hasNB]
    try simp only [HS] at h1
    refine W_seq ?_
    refine W_region ?_
    refine ev ?_
    refine ev ?_
    refine WO_nil ?_
    refine thenQ_n ?_
    refine W_cond rfl (fun h2 => ?_) (fun h2 => ?_)
    ·
      try simp only [HS] at h2
      refine W_skip ?_
      refine joinQ_n _ (by (try dsimp only); repeat (first | exact Sub.nil' | refine Sub.cons' rfl ?_)) (by (try dsimp only); repeat (first | exact SubM.nil' | refine SubM.cons' rfl ?_)) ?_
      try dsimp only
      grind [hasNB]
    try simp only [HS] at h2
    refine W_seq ?_
    refine W_region ?_
    refine ev ?_
    refine ev ?_
    refine WO_nil ?_
    refine thenQ_n ?_
    refine W_cond rfl (fun h3 => ?_) (fun h3 => ?_)
    ·
      try simp only [HS] at h3
      refine W_skip ?_
      refine joinQ_n _ (by (try dsimp only); repeat (first | exact Sub.nil' | refine Sub.cons' rfl ?_)) (by (try dsimp only); repeat (first | exact SubM.nil' | refine SubM.cons' rfl ?_)) ?_
      try dsimp only
      grind [hasNB]
    try simp only [HS] at h3
    refine W_seq ?_
    refine W_keep [2, 3, 4] rfl ?_
    refine W_region ?_
    refine ev ?_
    refine ev ?_
    refine WO_nil ?_
    refine thenQ_n ?_
    refine W_cond rfl (fun h4 => ?_) (fun h4 => ?_)
    ·
      try simp only [HS] at h4
      refine W_skip ?_
      refine joinQ_n _ (by (try dsimp only); repeat (first | exact Sub.nil' | refine Sub.cons' rfl ?_)) (by (try dsimp only); repeat (first | exact SubM.nil' | refine SubM.cons' rfl ?_)) ?_
      try dsimp only
      grind [hasNB]
    try simp only [HS] at h4
    refine W_seq ?_
    refine W_region ?_
    refine ev ?_
    refine ev ?_
    refine WO_nil ?_
    refine thenQ_n ?_
    refine W_cond rfl (fun h5 => ?_) (fun h5 => ?_)
    ·
      try simp only [HS] at h5
      refine W_skip ?_
      refine joinQ_n _ (by (try dsimp only); repeat (first | exact Sub.nil' | refine Sub.cons' rfl ?_)) (by (try dsimp only); repeat (first | exact SubM.nil' | refine SubM.cons' rfl ?_)) ?_
      try dsimp only
      grind [hasNB]
    try simp only [HS] at h5
    refine W_seq ?_
    refine W_region ?_
    refine ev ?_
    refine ev ?_
    refine WO_nil ?_
    refine thenQ_n ?_
    refine W_cond rfl (fun h6 => ?_) (fun h6 => ?_)
    ·
      try simp only [HS] at h6
      refine W_skip ?_
      refine joinQ_n _ (by (try dsimp only); repeat (first | exact Sub.nil' | refine Sub.cons' rfl ?_)) (by (try dsimp only); repeat (first | exact SubM.nil' | refine SubM.cons' rfl ?_)) ?_
      try dsimp only
      grind [hasNB]
    try simp only [HS] at h6
    refine W_seq ?_
    refine W_region ?_
    refine ev ?_
    refine ev ?_
    refine WO_nil ?_
    refine thenQ_n ?_
    refine W_cond rfl (fun h7 => ?_) (fun h7 => ?_)
    ·
      try simp only [HS] at h7
      refine W_skip ?_
      refine joinQ_n _ (by (try dsimp only); repeat (first | exact Sub.nil' | refine Sub.cons' rfl ?_)) (by (try dsimp only); repeat (first | exact SubM.nil' | refine SubM.cons' rfl ?_)) ?_
      try dsimp only
      grind [hasNB]
    try simp only [HS] at h7
    refine W_seq ?_
    refine W_keep [2, 3, 4] rfl ?_
    refine W_region ?_
    refine ev ?_
    refine ev ?_
    refine WO_nil ?_
    refine thenQ_n ?_
    refine W_cond rfl (fun h8 => ?_) (fun h8 => ?_)
    ·
      try simp only [HS] at h8
      refine W_skip ?_
      refine joinQ_n _ (by (try dsimp only); repeat (first | exact Sub.nil' | refine Sub.cons' rfl ?_)) (by (try dsimp only); repeat (first | exact SubM.nil' | refine SubM.cons' rfl ?_)) ?_
      try dsimp only
      grind [hasNB]
    try simp only [HS] at h8
    refine W_region ?_
    refine ev ?_
    refine ev ?_
    refine WO_nil ?_
    refine joinQ_n _ (by (try dsimp only); repeat (first | exact Sub.nil' | refine Sub.cons' rfl ?_)) (by (try dsimp only); repeat (first | exact SubM.nil' | refine SubM.cons' rfl ?_)) ?_
    try dsimp only
    grind [hasNB]
  have hb := hx
  refine thenQ_n ?_
  refine W_cond rfl (fun h1 => ?_) (fun h1 => ?_)
  ·
    try simp only [HS] at h1
    refine W_seq ?_
    refine W_keep [2] rfl ?_
    refine W_region ?_
    refine ev ?_
    refine WO_nil ?_
    refine thenQ_n ?_
    refine W_ret ?_
    refine inBlk_r ?_
    refine thenQ_r ?_
    refine Ends_of (.inr rfl) (ret_okF rfl) (by decide) rfl ?_
    · exact retB (by simp_all <;> omega)
  try simp only [HS] at h1
  refine W_skip ?_
  refine inBlk_n ?_
  refine thenQ_n ?_
  refine W_seq ?_
  refine W_keep [2] rfl ?_
  refine W_region ?_
  refine ev ?_
  refine WO_nil ?_
  refine thenQ_n ?_
  refine W_ret ?_
  refine Ends_of (.inr rfl) (ret_okF rfl) (by decide) rfl ?_
  · exact retB (by simp_all <;> omega)


theorem isIns_fun (i : Ins) : Fun Tryd.prog 60 [.t i.tt] (tupD [.t (.bool (insB i))]) := by
  refine Fun.begin tys Tryd.func60 rfl rfl (N := 32) [(0, .t i.tt)] rfl rfl (fun w0 G F0 => ?_)
  refine W_seq ?_
  refine W_region ?_
  refine WO_box rfl rfl (lt_of rfl) rfl rfl ?_
  refine WO_norm rfl ?_
  refine ev ?_
  refine WO_nil ?_
  refine thenQ_n ?_
  refine W_seq ?_
  refine W_block ?_
  refine W_seq ?_
  refine W_region ?_
  refine ev ?_
  refine ev ?_
  refine callB ?_
  refine ⟨_, within_fun _ _ _, rfl, ?_⟩
  refine ev ?_
  refine ev ?_
  refine WO_nil ?_
  refine thenQ_n ?_
  refine W_cond rfl (fun h1 => ?_) (fun h1 => ?_)
  ·
    try simp only [HS] at h1
    refine W_seq ?_
    refine W_keep [1, 2] rfl ?_
    refine W_region ?_
    refine ev ?_
    refine WO_nil ?_
    refine thenQ_n ?_
    refine W_ret ?_
    refine inBlk_r ?_
    refine thenQ_r ?_
    refine Ends_of (.inr rfl) (ret_okF rfl) (by decide) rfl ?_
    · exact retB (by grind [insB, hasNB])
  try simp only [HS] at h1
  refine W_seq ?_
  refine W_keep [1, 2] rfl ?_
  refine W_region ?_
  iterate 4 (refine ev ?_)
  refine WO_nil ?_
  refine thenQ_n ?_
  refine W_cond rfl (fun h2 => ?_) (fun h2 => ?_)
  ·
    try simp only [HS] at h2
    refine W_seq ?_
    refine W_region ?_
    refine ev ?_
    refine ev ?_
    refine callB ?_
    refine ⟨_, isSmall_fun _, rfl, ?_⟩
    refine ev ?_
    refine WO_nil ?_
    refine thenQ_n ?_
    refine W_ret ?_
    refine inBlk_r ?_
    refine thenQ_r ?_
    refine Ends_of (.inr rfl) (ret_okF rfl) (by decide) rfl ?_
    · exact retB (by grind [insB, hasNB])
  try simp only [HS] at h2
  refine W_seq ?_
  refine W_region ?_
  iterate 4 (refine ev ?_)
  refine WO_nil ?_
  refine thenQ_n ?_
  refine W_cond rfl (fun h3 => ?_) (fun h3 => ?_)
  ·
    try simp only [HS] at h3
    refine W_seq ?_
    refine W_keep [1, 2] rfl ?_
    refine W_region ?_
    refine ev ?_
    refine ev ?_
    refine callB ?_
    refine ⟨_, isReckoned_fun _, rfl, ?_⟩
    refine ev ?_
    refine WO_nil ?_
    refine thenQ_n ?_
    refine W_ret ?_
    refine inBlk_r ?_
    refine thenQ_r ?_
    refine Ends_of (.inr rfl) (ret_okF rfl) (by decide) rfl ?_
    · exact retB (by grind [insB, hasNB])
  try simp only [HS] at h3
  refine W_seq ?_
  refine W_keep [1, 2] rfl ?_
  refine W_region ?_
  refine ev ?_
  refine ev ?_
  refine callB ?_
  refine ⟨_, hasNI_fun _, rfl, ?_⟩
  refine ev ?_
  refine WO_nil ?_
  refine thenQ_n ?_
  refine W_cond rfl (fun h4 => ?_) (fun h4 => ?_)
  ·
    try simp only [HS] at h4
    refine W_seq ?_
    refine W_region ?_
    refine ev ?_
    refine ev ?_
    refine callB ?_
    refine ⟨_, within_fun _ _ _, rfl, ?_⟩
    refine ev ?_
    refine WO_nil ?_
    refine thenQ_n ?_
    refine W_ret ?_
    refine inBlk_r ?_
    refine thenQ_r ?_
    refine Ends_of (.inr rfl) (ret_okF rfl) (by decide) rfl ?_
    · exact retB (by grind [insB, hasNB])
  try simp only [HS] at h4
  refine W_skip ?_
  refine inBlk_n ?_
  refine thenQ_n ?_
  refine W_seq ?_
  refine W_region ?_
  iterate 4 (refine ev ?_)
  refine WO_nil ?_
  refine thenQ_n ?_
  refine W_ret ?_
  refine Ends_of (.inr rfl) (ret_okF rfl) (by decide) rfl ?_
  · exact retB (by grind [insB, hasNB])

end Go.Proofs.YtafjkelehnpfcaaDoor
