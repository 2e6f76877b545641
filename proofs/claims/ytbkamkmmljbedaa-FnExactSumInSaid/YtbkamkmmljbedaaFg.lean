/- Walks of what a good world is. -/
import Derived.Test.YtbkamkmmljbedaaFw
set_option linter.unusedVariables false
set_option linter.unusedSimpArgs false
set_option maxRecDepth 10000
set_option maxHeartbeats 2000000
namespace Go.Proofs.Ytbkamkmmljbedaa
open Go.Eng

theorem retB {b b' : Bool} (h : b = b') : [D.t (T.v (Value.bool b))] = [D.t (T.bool b')] := by rw [h]
def inNum (n : Int) : Bool := decide (-1000 ≤ n ∧ n ≤ 1000)
def plainAct (a : Act) (c : Int) : Bool := decide ((a.cases.length : Int) ≤ 0) && decide (0 ≤ a.chan ∧ a.chan ≤ c - 1) &&
  (if a.kind = 1 then inNum a.n else if a.kind = 2 ∨ a.kind = 5 then decide (a.n = 0) else decide (a.kind = 3) && (decide (a.n = 0) && decide (a.chan = 0)))
def caseAct (c : Int) (a : Act) : Bool := decide (a.kind = 1 ∨ a.kind = 2) && plainAct a c
def goodAct (c : Int) (a : Act) : Bool := if a.kind = 4 then a.cases.all (caseAct c) && (decide ((1 : Int) ≤ a.cases.length ∧ (a.cases.length : Int) ≤ 3) && (decide (a.chan = 0) && decide (a.n = 0))) else plainAct a c

theorem l15Num_fun (n : Int) : Fun Try.prog 78 [.t (.int n)] (tupD [.t (.bool (inNum n))]) := by
  refine Fun.begin tys Try.func78 rfl rfl (N := 5) [(0, .t (.int n))] rfl rfl (fun w0 G F0 => ?_)
  refine W_seq ?_
  refine W_region ?_
  refine ev ?_
  refine WO_nil ?_
  refine thenQ_n ?_
  refine W_seq ?_
  refine W_region ?_
  refine ev ?_
  refine callB ?_
  refine ⟨_, l1In_fun _ _ _, rfl, ?_⟩
  refine ev ?_
  refine WO_nil ?_
  refine thenQ_n ?_
  refine W_ret ?_
  refine Ends_of (.inr rfl) (ret_okF rfl) (by decide) rfl ?_
  · rfl

theorem l15Plain_fun (a : Act) (c : Int) (ha : a.cases.length ≤ 9223372036854775807) (hc0 : 1 ≤ c) (hc1 : c ≤ 1000) : Fun Try.prog 114 [.t a.tt, .t (.int c)] (tupD [.t (.bool (plainAct a c))]) := by
  refine Fun.begin tys Try.func114 rfl rfl (N := 43) [(0, .t a.tt), (1, .t (.int c))] rfl rfl (fun w0 G F0 => ?_)
  refine W_seq ?_
  refine W_region ?_
  refine WO_box rfl rfl (lt_of rfl) rfl rfl ?_
  refine WO_norm rfl ?_
  refine ev ?_
  refine WO_nil ?_
  refine thenQ_n ?_
  iterate 2 (refine W_seq ?_)
  refine W_region ?_
  refine ev ?_
  refine ev ?_
  refine evE ?_
  refine ev ?_
  refine ev ?_
  refine WO_guard rfl rfl rfl rfl (lt_of rfl) (fun h1 => ?_) (fun h1 => ?_)
  rotate_left
  ·
    try simp only [HS] at h1
    iterate 2 (refine WO_guardN rfl rfl rfl rfl rfl (lt_of rfl) ?_)
    refine WO_keep [2, 4, 9, 11, 12] rfl ?_
    iterate 3 (refine WO_guardN rfl rfl rfl rfl rfl (lt_of rfl) ?_)
    refine ev ?_
    refine WO_nil ?_
    refine thenQ_n ?_
    refine W_condT rfl ?_
    refine W_seq ?_
    refine W_region ?_
    refine ev ?_
    refine WO_nil ?_
    refine thenQ_n ?_
    refine W_ret ?_
    refine thenQ_r ?_
    refine Ends_of (.inr rfl) (ret_okF rfl) (by decide) rfl ?_
    · exact retB (by grind [plainAct])
  try simp only [HS] at h1
  refine ev ?_
  refine WO_guardY rfl rfl rfl rfl (lt_of rfl) ?_
  refine ev ?_
  refine WO_keep [1, 2, 4, 9, 11] rfl ?_
  refine WO_guardY rfl rfl rfl rfl (lt_of rfl) ?_
  refine ev ?_
  refine WO_guardY rfl rfl rfl rfl (lt_of rfl) ?_
  refine evI ?_
  refine WO_guardY rfl rfl rfl rfl (lt_of rfl) ?_
  refine callB ?_
  refine ⟨_, l1In_fun _ _ _, rfl, ?_⟩
  refine WO_guardY rfl rfl rfl rfl (lt_of rfl) ?_
  refine ev ?_
  refine ev ?_
  refine WO_nil ?_
  refine thenQ_n ?_
  refine W_cond rfl (fun h2 => ?_) (fun h2 => ?_)
  ·
    try simp only [HS] at h2
    refine W_seq ?_
    refine W_region ?_
    refine ev ?_
    refine WO_nil ?_
    refine thenQ_n ?_
    refine W_ret ?_
    refine thenQ_r ?_
    refine Ends_of (.inr rfl) (ret_okF rfl) (by decide) rfl ?_
    · exact retB (by grind [plainAct])
  try simp only [HS] at h2
  refine W_skip ?_
  refine thenQ_n ?_
  iterate 2 (refine W_seq ?_)
  refine W_region ?_
  refine ev ?_
  refine ev ?_
  refine WO_nil ?_
  refine thenQ_n ?_
  refine W_block ?_
  refine W_seq ?_
  refine W_keep [2, 4, 18] rfl ?_
  refine W_region ?_
  refine ev ?_
  refine ev ?_
  refine WO_nil ?_
  refine thenQ_n ?_
  refine W_cond rfl (fun h3 => ?_) (fun h3 => ?_)
  ·
    try simp only [HS] at h3
    refine W_seq ?_
    refine W_region ?_
    refine ev ?_
    refine ev ?_
    refine callB ?_
    refine ⟨_, l15Num_fun _, rfl, ?_⟩
    refine ev ?_
    refine WO_nil ?_
    refine thenQ_n ?_
    refine W_ret ?_
    refine inBlk_r ?_
    refine thenQ_r ?_
    refine Ends_of (.inr rfl) (ret_okF rfl) (by decide) rfl ?_
    · exact retB (by grind [plainAct])
  try simp only [HS] at h3
  iterate 2 (refine W_seq ?_)
  refine W_region ?_
  refine ev ?_
  refine ev ?_
  refine WO_nil ?_
  refine thenQ_n ?_
  refine W_cond rfl (fun h4 => ?_) (fun h4 => ?_)
  ·
    try simp only [HS] at h4
    refine W_skip ?_
    refine thenQ_n ?_
    refine W_cond rfl (fun h5 => ?_) (fun h5 => ?_)
    ·
      try simp only [HS] at h5
      refine W_seq ?_
      refine W_region ?_
      iterate 4 (refine ev ?_)
      refine WO_nil ?_
      refine thenQ_n ?_
      refine W_ret ?_
      refine inBlk_r ?_
      refine thenQ_r ?_
      refine Ends_of (.inr rfl) (ret_okF rfl) (by decide) rfl ?_
      · exact retB (by grind [plainAct])
    try simp only [HS] at h5
    refine W_skip ?_
    refine inBlk_n ?_
    refine thenQ_n ?_
    refine W_seq ?_
    refine W_region ?_
    iterate 4 (refine ev ?_)
    refine WO_guard rfl rfl rfl rfl (lt_of rfl) (fun h6 => ?_) (fun h6 => ?_)
    rotate_left
    ·
      try simp only [HS] at h6
      refine WO_guardN rfl rfl rfl rfl rfl (lt_of rfl) ?_
      refine WO_keep [2, 4, 33, 35] rfl ?_
      refine WO_guardN rfl rfl rfl rfl rfl (lt_of rfl) ?_
      refine ev ?_
      refine ev ?_
      iterate 3 (refine WO_guardN rfl rfl rfl rfl rfl (lt_of rfl) ?_)
      refine ev ?_
      refine ev ?_
      refine WO_nil ?_
      refine thenQ_n ?_
      refine W_ret ?_
      refine Ends_of (.inr rfl) (ret_okF rfl) (by decide) rfl ?_
      · exact retB (by grind [plainAct])
    try simp only [HS] at h6
    refine ev ?_
    refine WO_guardY rfl rfl rfl rfl (lt_of rfl) ?_
    refine ev ?_
    refine WO_keep [2, 4, 33, 35] rfl ?_
    refine WO_guardY rfl rfl rfl rfl (lt_of rfl) ?_
    iterate 3 (refine ev ?_)
    refine WO_guard rfl rfl rfl rfl (lt_of rfl) (fun h7 => ?_) (fun h7 => ?_)
    rotate_left
    ·
      try simp only [HS] at h7
      iterate 2 (refine WO_guardN rfl rfl rfl rfl rfl (lt_of rfl) ?_)
      refine ev ?_
      refine ev ?_
      refine WO_nil ?_
      refine thenQ_n ?_
      refine W_ret ?_
      refine Ends_of (.inr rfl) (ret_okF rfl) (by decide) rfl ?_
      · exact retB (by grind [plainAct])
    try simp only [HS] at h7
    refine ev ?_
    refine WO_guardY rfl rfl rfl rfl (lt_of rfl) ?_
    refine ev ?_
    refine WO_guardY rfl rfl rfl rfl (lt_of rfl) ?_
    iterate 3 (refine ev ?_)
    refine WO_nil ?_
    refine thenQ_n ?_
    refine W_ret ?_
    refine Ends_of (.inr rfl) (ret_okF rfl) (by decide) rfl ?_
    · exact retB (by grind [plainAct])
  try simp only [HS] at h4
  refine W_region ?_
  refine ev ?_
  refine ev ?_
  refine WO_nil ?_
  refine thenQ_n ?_
  refine W_cond rfl (fun h5 => ?_) (fun h5 => ?_)
  ·
    try simp only [HS] at h5
    refine W_seq ?_
    refine W_region ?_
    iterate 3 (refine ev ?_)
    refine WO_keep [2, 4, 29] rfl ?_
    refine ev ?_
    refine WO_nil ?_
    refine thenQ_n ?_
    refine W_ret ?_
    refine inBlk_r ?_
    refine thenQ_r ?_
    refine Ends_of (.inr rfl) (ret_okF rfl) (by decide) rfl ?_
    · exact retB (by grind [plainAct])
  try simp only [HS] at h5
  refine W_skip ?_
  refine inBlk_n ?_
  refine thenQ_n ?_
  refine W_seq ?_
  refine W_region ?_
  iterate 3 (refine ev ?_)
  refine WO_keep [2, 4, 32] rfl ?_
  refine ev ?_
  refine WO_guard rfl rfl rfl rfl (lt_of rfl) (fun h6 => ?_) (fun h6 => ?_)
  rotate_left
  ·
    try simp only [HS] at h6
    iterate 2 (refine WO_guardN rfl rfl rfl rfl rfl (lt_of rfl) ?_)
    refine ev ?_
    refine ev ?_
    iterate 3 (refine WO_guardN rfl rfl rfl rfl rfl (lt_of rfl) ?_)
    refine ev ?_
    refine WO_keep [4, 42] rfl ?_
    refine ev ?_
    refine WO_nil ?_
    refine thenQ_n ?_
    refine W_ret ?_
    refine Ends_of (.inr rfl) (ret_okF rfl) (by decide) rfl ?_
    · exact retB (by grind [plainAct])
  try simp only [HS] at h6
  refine ev ?_
  refine WO_guardY rfl rfl rfl rfl (lt_of rfl) ?_
  refine ev ?_
  refine WO_guardY rfl rfl rfl rfl (lt_of rfl) ?_
  iterate 3 (refine ev ?_)
  refine WO_guard rfl rfl rfl rfl (lt_of rfl) (fun h7 => ?_) (fun h7 => ?_)
  rotate_left
  ·
    try simp only [HS] at h7
    iterate 2 (refine WO_guardN rfl rfl rfl rfl rfl (lt_of rfl) ?_)
    refine ev ?_
    refine WO_keep [4, 42] rfl ?_
    refine ev ?_
    refine WO_nil ?_
    refine thenQ_n ?_
    refine W_ret ?_
    refine Ends_of (.inr rfl) (ret_okF rfl) (by decide) rfl ?_
    · exact retB (by grind [plainAct])
  try simp only [HS] at h7
  refine ev ?_
  refine WO_guardY rfl rfl rfl rfl (lt_of rfl) ?_
  refine ev ?_
  refine WO_guardY rfl rfl rfl rfl (lt_of rfl) ?_
  refine ev ?_
  refine WO_keep [4, 38, 41] rfl ?_
  refine ev ?_
  refine ev ?_
  refine WO_nil ?_
  refine thenQ_n ?_
  refine W_ret ?_
  refine Ends_of (.inr rfl) (ret_okF rfl) (by decide) rfl ?_
  · exact retB (by grind [plainAct])

theorem go_at {α : Type} {p : α → Bool} {l : List α} {k : Int} (h0 : 0 ≤ k) (h1 : k < l.length) (h : p (l[k.toNat]'(by omega)) = false) : l.all p = false :=
  List.all_eq_false.2 ⟨_, List.getElem_mem _, by simpa using h⟩
theorem all_take {α : Type} {p : α → Bool} {l : List α} {k : Int} (h0 : 0 ≤ k) (h1 : k < l.length) (h : (l.take k.toNat).all p = true) (h2 : p (l[k.toNat]'(by omega)) = true) : (l.take (k + 1).toNat).all p = true := by
  rw [show (k + 1).toNat = k.toNat + 1 from by omega, List.take_add_one, List.getElem?_eq_getElem (by omega), List.all_append, h]
  simpa using h2
theorem all_full {α : Type} {p : α → Bool} {l : List α} {k : Int} (h1 : (l.length : Int) ≤ k) (h : (l.take k.toNat).all p = true) : l.all p = true := by
  rwa [List.take_of_length_le (by omega)] at h

theorem l15Act_fun (a : Act) (c : Int) (ha : a.ok 1048576) (hc0 : 1 ≤ c) (hc1 : c ≤ 1000) : Fun Try.prog 110 [.t a.tt, .t (.int c)] (tupD [.t (.bool (goodAct c a))]) := by
  have ha1 := ha.cases'.1
  refine Fun.begin tys Try.func110 rfl rfl (N := 49) [(0, .t a.tt), (1, .t (.int c))] rfl rfl (fun w0 G F0 => ?_)
  refine W_seq ?_
  refine W_region ?_
  refine WO_box rfl rfl (lt_of rfl) rfl rfl ?_
  refine WO_norm rfl ?_
  refine ev ?_
  refine WO_nil ?_
  refine thenQ_n ?_
  iterate 2 (refine W_seq ?_)
  refine W_region ?_
  iterate 3 (refine ev ?_)
  refine WO_nil ?_
  refine thenQ_n ?_
  refine W_cond rfl (fun h1 => ?_) (fun h1 => ?_)
  ·
    try simp only [HS] at h1
    refine W_seq ?_
    refine W_region ?_
    first | (refine ev ?_; try refine WO_le (Le.freeze (u := 10) rfl) ?_) | refine WO_loadMove tys rfl rfl (lt_of rfl) rfl rfl rfl rfl rfl rfl ?_
    refine WO_norm rfl ?_
    refine ev ?_
    refine callB ?_
    refine ⟨_, l15Plain_fun _ _ (by omega) hc0 hc1, rfl, ?_⟩
    refine ev ?_
    refine WO_keep [1, 2, 4] rfl ?_
    refine WO_nil ?_
    refine thenQ_n ?_
    refine W_ret ?_
    refine thenQ_r ?_
    refine Ends_of (.inr rfl) (ret_okF rfl) (by decide) rfl ?_
    · first | exact retB (by grind [goodAct]) | (have hh := go_at (l := a.cases) (p := caseAct c) hk0 h2 (by grind [caseAct]); exact retB (by grind [goodAct])) | (have hh := all_full (by assumption) hk2; exact retB (by grind [goodAct]))
  try simp only [HS] at h1
  refine W_skip ?_
  refine thenQ_n ?_
  iterate 2 (refine W_seq ?_)
  refine W_region ?_
  refine ev ?_
  refine ev ?_
  refine evE ?_
  refine ev ?_
  refine WO_keep [1, 2, 4, 14, 15, 16] rfl ?_
  refine WO_nil ?_
  refine thenQ_n ?_
  refine W_block ?_
  refine W_loopK (α := Int) [1, 2, 14, 15] [2] (fun (x : Int) => [(16, .t (.int x))]) (fun (x : Int) => []) (fun (x : Int) => 0 ≤ x ∧ x ≤ a.cases.length ∧ (a.cases.take x.toNat).all (caseAct c) = true) (fun (x : Int) => Int.toNat (a.cases.length - x)) 0 ?_ ?_ ?_ (fun k hx => ?_)
  · repeat (first | exact Sub.nil' | refine Sub.cons' rfl ?_ )
  · repeat (first | exact SubM.nil' | refine SubM.cons' rfl ?_ )
  · exact ⟨by omega, by omega, by simp⟩
  obtain ⟨hk0, hk1, hk2⟩ := hx
  refine W_norm rfl ?_
  refine W_seq ?_
  refine W_region ?_
  refine ev ?_
  refine WO_nil ?_
  refine thenQ_n ?_
  refine W_seq ?_
  refine W_cond rfl (fun h2 => ?_) (fun h2 => ?_)
  ·
    try simp only [HS] at h2
    refine W_skip ?_
    refine thenQ_n ?_
    refine W_seq ?_
    refine W_block ?_
    refine W_seq ?_
    refine W_region ?_
    first | refine WO_idxT tys rfl rfl (lt_of rfl) rfl rfl rfl rfl rfl rfl rfl (by omega) _ (getAct _ (by omega) (by omega)) ?_ | refine WO_idxS tys rfl rfl (lt_of rfl) rfl rfl rfl rfl rfl rfl rfl rfl (by omega) (by omega) ?_
    first | (refine ev ?_; try refine WO_le (Le.freeze (u := 19) rfl) ?_) | refine WO_loadL tys rfl rfl (lt_of rfl) rfl rfl rfl rfl (getT _ _ (by omega) (by omega)) rfl ?_ | refine WO_loadL tys rfl rfl (lt_of rfl) rfl rfl rfl rfl (getT0 _ _ (by omega) (by omega)) rfl ?_
    refine WO_norm rfl ?_
    refine WO_alloc tys rfl rfl (lt_of rfl) rfl rfl rfl ?_
    refine WO_norm rfl ?_
    refine WO_store tys rfl rfl rfl rfl rfl rfl rfl rfl (lt_of rfl) ?_
    refine WO_norm rfl ?_
    refine WO_nil ?_
    refine thenQ_n ?_
    refine W_seq ?_
    refine W_region ?_
    iterate 4 (refine ev ?_)
    refine WO_keep [1, 2, 6, 14, 15, 16, 17, 18, 19, 20, 21, 22, 23] rfl ?_
    refine WO_guard rfl rfl rfl rfl (lt_of rfl) (fun h3 => ?_) (fun h3 => ?_)
    rotate_left
    ·
      try simp only [HS] at h3
      iterate 2 (refine WO_guardN rfl rfl rfl rfl rfl (lt_of rfl) ?_)
      refine ev ?_
      refine ev ?_
      refine WO_guardY rfl rfl rfl rfl (lt_of rfl) ?_
      first | (refine ev ?_; try refine WO_le (Le.freeze (u := 29) rfl) ?_) | refine WO_loadMove tys rfl rfl (lt_of rfl) rfl rfl rfl rfl rfl rfl ?_
      refine WO_norm rfl ?_
      refine WO_guardY rfl rfl rfl rfl (lt_of rfl) ?_
      refine ev ?_
      refine WO_guardY rfl rfl rfl rfl (lt_of rfl) ?_
      refine callB ?_
      refine ⟨_, l15Plain_fun _ _ (by have := (ha.cases'.2 _ (List.getElem_mem (l := a.cases) (n := k.toNat) (by omega))).cases'.1; omega) hc0 hc1, rfl, ?_⟩
      refine WO_guardY rfl rfl rfl rfl (lt_of rfl) ?_
      refine ev ?_
      refine ev ?_
      refine WO_keep [1, 2, 6, 14, 15, 16, 17, 18, 19, 20, 21, 22, 23, 24, 25, 26, 27, 28, 29, 30, 31, 32, 33] rfl ?_
      refine WO_nil ?_
      refine thenQ_n ?_
      refine W_cond rfl (fun h4 => ?_) (fun h4 => ?_)
      ·
        try simp only [HS] at h4
        refine W_seq ?_
        refine W_region ?_
        refine ev ?_
        refine WO_nil ?_
        refine thenQ_n ?_
        refine W_ret ?_
        refine inBlk_r ?_
        refine thenQ_r ?_
        refine loopQ_r ?_
        refine inBlk_r ?_
        refine thenQ_r ?_
        refine Ends_of (.inr rfl) (ret_okF rfl) (by decide) rfl ?_
        · first | exact retB (by grind [goodAct]) | (have hh := go_at (l := a.cases) (p := caseAct c) hk0 h2 (by grind [caseAct]); exact retB (by grind [goodAct])) | (have hh := all_full (by assumption) hk2; exact retB (by grind [goodAct]))
      try simp only [HS] at h4
      refine W_skip ?_
      refine inBlk_n ?_
      refine thenQ_n ?_
      refine W_region ?_
      refine evI ?_
      refine ev ?_
      refine WO_nil ?_
      refine loopQ_n _ (by (try dsimp only); repeat (first | exact Sub.nil' | refine Sub.cons' rfl ?_ )) (by (try dsimp only); repeat (first | exact SubM.nil' | refine SubM.cons' rfl ?_ )) ?_ ?_
      · try dsimp only
        exact ⟨by omega, by omega, all_take hk0 (by omega) hk2 (by simp_all [caseAct])⟩
      · (show Int.toNat _ < Int.toNat _); omega
    try simp only [HS] at h3
    refine ev ?_
    refine WO_guardY rfl rfl rfl rfl (lt_of rfl) ?_
    refine ev ?_
    refine WO_guardY rfl rfl rfl rfl (lt_of rfl) ?_
    iterate 3 (refine ev ?_)
    refine WO_guard rfl rfl rfl rfl (lt_of rfl) (fun h4 => ?_) (fun h4 => ?_)
    rotate_left
    ·
      try simp only [HS] at h4
      iterate 3 (refine WO_guardN rfl rfl rfl rfl rfl (lt_of rfl) ?_)
      refine ev ?_
      refine WO_keep [1, 2, 6, 14, 15, 16, 17, 18, 19, 20, 21, 22, 23, 24, 25, 26, 27, 28, 29, 30, 31, 32, 33] rfl ?_
      refine WO_nil ?_
      refine thenQ_n ?_
      refine W_condT rfl ?_
      refine W_seq ?_
      refine W_region ?_
      refine ev ?_
      refine WO_nil ?_
      refine thenQ_n ?_
      refine W_ret ?_
      refine inBlk_r ?_
      refine thenQ_r ?_
      refine loopQ_r ?_
      refine inBlk_r ?_
      refine thenQ_r ?_
      refine Ends_of (.inr rfl) (ret_okF rfl) (by decide) rfl ?_
      · first | exact retB (by grind [goodAct]) | (have hh := go_at (l := a.cases) (p := caseAct c) hk0 h2 (by grind [caseAct]); exact retB (by grind [goodAct])) | (have hh := all_full (by assumption) hk2; exact retB (by grind [goodAct]))
    try simp only [HS] at h4
    first | (refine ev ?_; try refine WO_le (Le.freeze (u := 29) rfl) ?_) | refine WO_loadMove tys rfl rfl (lt_of rfl) rfl rfl rfl rfl rfl rfl ?_
    refine WO_norm rfl ?_
    refine WO_guardY rfl rfl rfl rfl (lt_of rfl) ?_
    refine ev ?_
    refine WO_guardY rfl rfl rfl rfl (lt_of rfl) ?_
    refine callB ?_
    refine ⟨_, l15Plain_fun _ _ (by have := (ha.cases'.2 _ (List.getElem_mem (l := a.cases) (n := k.toNat) (by omega))).cases'.1; omega) hc0 hc1, rfl, ?_⟩
    refine WO_guardY rfl rfl rfl rfl (lt_of rfl) ?_
    refine ev ?_
    refine WO_keep [1, 2, 6, 14, 15, 16, 17, 18, 19, 20, 21, 22, 23, 24, 25, 26, 27, 28, 29, 30, 31, 32] rfl ?_
    refine ev ?_
    refine WO_nil ?_
    refine thenQ_n ?_
    refine W_cond rfl (fun h5 => ?_) (fun h5 => ?_)
    ·
      try simp only [HS] at h5
      refine W_seq ?_
      refine W_region ?_
      refine ev ?_
      refine WO_nil ?_
      refine thenQ_n ?_
      refine W_ret ?_
      refine inBlk_r ?_
      refine thenQ_r ?_
      refine loopQ_r ?_
      refine inBlk_r ?_
      refine thenQ_r ?_
      refine Ends_of (.inr rfl) (ret_okF rfl) (by decide) rfl ?_
      · first | exact retB (by grind [goodAct]) | (have hh := go_at (l := a.cases) (p := caseAct c) hk0 h2 (by grind [caseAct]); exact retB (by grind [goodAct])) | (have hh := all_full (by assumption) hk2; exact retB (by grind [goodAct]))
    try simp only [HS] at h5
    refine W_skip ?_
    refine inBlk_n ?_
    refine thenQ_n ?_
    refine W_region ?_
    refine evI ?_
    refine ev ?_
    refine WO_nil ?_
    refine loopQ_n _ (by (try dsimp only); repeat (first | exact Sub.nil' | refine Sub.cons' rfl ?_ )) (by (try dsimp only); repeat (first | exact SubM.nil' | refine SubM.cons' rfl ?_ )) ?_ ?_
    · try dsimp only
      exact ⟨by omega, by omega, all_take hk0 (by omega) hk2 (by simp_all [caseAct])⟩
    · (show Int.toNat _ < Int.toNat _); omega
  try simp only [HS] at h2
  refine W_exit ?_
  refine thenQ_e ?_
  refine loopQ_e ?_
  refine inBlk_y ?_
  refine thenQ_n ?_
  refine W_seq ?_
  refine W_region ?_
  refine ev ?_
  refine ev ?_
  refine evE ?_
  refine callB ?_
  refine ⟨_, l1In_fun _ _ _, rfl, ?_⟩
  refine ev ?_
  refine WO_guard rfl rfl rfl rfl (lt_of rfl) (fun h3 => ?_) (fun h3 => ?_)
  rotate_left
  ·
    try simp only [HS] at h3
    iterate 2 (refine WO_guardN rfl rfl rfl rfl rfl (lt_of rfl) ?_)
    refine ev ?_
    refine WO_keep [2, 43] rfl ?_
    refine ev ?_
    iterate 3 (refine WO_guardN rfl rfl rfl rfl rfl (lt_of rfl) ?_)
    refine ev ?_
    refine ev ?_
    refine WO_nil ?_
    refine thenQ_n ?_
    refine W_ret ?_
    refine Ends_of (.inr rfl) (ret_okF rfl) (by decide) rfl ?_
    · first | exact retB (by grind [goodAct]) | (have hh := go_at (l := a.cases) (p := caseAct c) hk0 h2 (by grind [caseAct]); exact retB (by grind [goodAct])) | (have hh := all_full (by assumption) hk2; exact retB (by grind [goodAct]))
  try simp only [HS] at h3
  refine ev ?_
  refine WO_guardY rfl rfl rfl rfl (lt_of rfl) ?_
  refine ev ?_
  refine WO_guardY rfl rfl rfl rfl (lt_of rfl) ?_
  refine ev ?_
  refine WO_keep [2, 39, 42] rfl ?_
  refine ev ?_
  refine ev ?_
  refine WO_guard rfl rfl rfl rfl (lt_of rfl) (fun h4 => ?_) (fun h4 => ?_)
  rotate_left
  ·
    try simp only [HS] at h4
    iterate 2 (refine WO_guardN rfl rfl rfl rfl rfl (lt_of rfl) ?_)
    refine ev ?_
    refine ev ?_
    refine WO_nil ?_
    refine thenQ_n ?_
    refine W_ret ?_
    refine Ends_of (.inr rfl) (ret_okF rfl) (by decide) rfl ?_
    · first | exact retB (by grind [goodAct]) | (have hh := go_at (l := a.cases) (p := caseAct c) hk0 h2 (by grind [caseAct]); exact retB (by grind [goodAct])) | (have hh := all_full (by assumption) hk2; exact retB (by grind [goodAct]))
  try simp only [HS] at h4
  refine ev ?_
  refine WO_guardY rfl rfl rfl rfl (lt_of rfl) ?_
  refine ev ?_
  refine WO_guardY rfl rfl rfl rfl (lt_of rfl) ?_
  iterate 3 (refine ev ?_)
  refine WO_nil ?_
  refine thenQ_n ?_
  refine W_ret ?_
  refine Ends_of (.inr rfl) (ret_okF rfl) (by decide) rfl ?_
  · first | exact retB (by grind [goodAct]) | (have hh := go_at (l := a.cases) (p := caseAct c) hk0 h2 (by grind [caseAct]); exact retB (by grind [goodAct])) | (have hh := all_full (by assumption) hk2; exact retB (by grind [goodAct]))

def goodActs (c : Int) (l : List Act) : Bool := l.all (goodAct c) && decide ((l.length : Int) ≤ 6)

theorem l15Acts_fun (l : List Act) (c : Int) (ha : okL 1048576 (Act.ok 1048576) l) (hc0 : 1 ≤ c) (hc1 : c ≤ 1000) : Fun Try.prog 77 [.t (T.Acts l), .t (.int c)] (tupD [.t (.bool (goodActs c l))]) := by
  have ha1 := ha.1
  refine Fun.begin tys Try.func77 rfl rfl (N := 21) [(0, .t (T.Acts l)), (1, .t (.int c))] rfl rfl (fun w0 G F0 => ?_)
  refine W_seq ?_
  refine W_region ?_
  refine ev ?_
  refine WO_nil ?_
  refine thenQ_n ?_
  iterate 2 (refine W_seq ?_)
  refine W_region ?_
  refine ev ?_
  refine evE ?_
  refine ev ?_
  refine WO_nil ?_
  refine thenQ_n ?_
  refine W_block ?_
  refine W_loopK (α := Int) [0, 1, 7, 8] [] (fun (x : Int) => [(9, .t (.int x))]) (fun (x : Int) => []) (fun (x : Int) => 0 ≤ x ∧ x ≤ l.length ∧ (l.take x.toNat).all (goodAct c) = true) (fun (x : Int) => Int.toNat (l.length - x)) 0 ?_ ?_ ?_ (fun k hx => ?_)
  · repeat (first | exact Sub.nil' | refine Sub.cons' rfl ?_ )
  · repeat (first | exact SubM.nil' | refine SubM.cons' rfl ?_ )
  · exact ⟨by omega, by omega, by simp⟩
  obtain ⟨hk0, hk1, hk2⟩ := hx
  refine W_norm rfl ?_
  refine W_seq ?_
  refine W_region ?_
  refine ev ?_
  refine WO_nil ?_
  refine thenQ_n ?_
  refine W_seq ?_
  refine W_cond rfl (fun h1 => ?_) (fun h1 => ?_)
  ·
    try simp only [HS] at h1
    refine W_skip ?_
    refine thenQ_n ?_
    refine W_seq ?_
    refine W_block ?_
    refine W_seq ?_
    refine W_region ?_
    first | refine WO_idxT tys rfl rfl (lt_of rfl) rfl rfl rfl rfl rfl rfl rfl (by omega) _ (getAct _ (by omega) (by omega)) ?_ | refine WO_idxS tys rfl rfl (lt_of rfl) rfl rfl rfl rfl rfl rfl rfl rfl (by omega) (by omega) ?_
    first | (refine ev ?_; try refine WO_le (Le.freeze (u := 12) rfl) ?_) | refine WO_loadL tys rfl rfl (lt_of rfl) rfl rfl rfl rfl (getT _ _ (by omega) (by omega)) rfl ?_ | refine WO_loadL tys rfl rfl (lt_of rfl) rfl rfl rfl rfl (getT0 _ _ (by omega) (by omega)) rfl ?_
    refine WO_norm rfl ?_
    refine WO_alloc tys rfl rfl (lt_of rfl) rfl rfl rfl ?_
    refine WO_norm rfl ?_
    refine WO_store tys rfl rfl rfl rfl rfl rfl rfl rfl (lt_of rfl) ?_
    refine WO_norm rfl ?_
    refine WO_nil ?_
    refine thenQ_n ?_
    refine W_seq ?_
    refine W_region ?_
    first | (refine ev ?_; try refine WO_le (Le.freeze (u := 13) rfl) ?_) | refine WO_loadMove tys rfl rfl (lt_of rfl) rfl rfl rfl rfl rfl rfl ?_
    refine WO_norm rfl ?_
    refine ev ?_
    refine callB ?_
    refine ⟨_, l15Act_fun _ _ (ha.2 _ (List.getElem_mem _)) hc0 hc1, rfl, ?_⟩
    refine ev ?_
    refine WO_keep [0, 1, 6, 7, 8, 9, 10, 11, 12, 13, 14, 15, 16] rfl ?_
    refine WO_nil ?_
    refine thenQ_n ?_
    refine W_cond rfl (fun h2 => ?_) (fun h2 => ?_)
    ·
      try simp only [HS] at h2
      refine W_seq ?_
      refine W_region ?_
      refine ev ?_
      refine WO_nil ?_
      refine thenQ_n ?_
      refine W_ret ?_
      refine inBlk_r ?_
      refine thenQ_r ?_
      refine loopQ_r ?_
      refine inBlk_r ?_
      refine thenQ_r ?_
      refine Ends_of (.inr rfl) (ret_okF rfl) (by decide) rfl ?_
      · first | (have hh := go_at (l := l) (p := goodAct c) hk0 h1 (by assumption); rw [goodActs, hh]; rfl) | (have hh := all_full (by assumption) hk2; rw [goodActs, hh]; rfl)
    try simp only [HS] at h2
    refine W_skip ?_
    refine inBlk_n ?_
    refine thenQ_n ?_
    refine W_region ?_
    refine evI ?_
    refine ev ?_
    refine WO_nil ?_
    refine loopQ_n _ (by (try dsimp only); repeat (first | exact Sub.nil' | refine Sub.cons' rfl ?_ )) (by (try dsimp only); repeat (first | exact SubM.nil' | refine SubM.cons' rfl ?_ )) ?_ ?_
    · try dsimp only
      exact ⟨by omega, by omega, all_take hk0 (by omega) hk2 (by assumption)⟩
    · (show Int.toNat _ < Int.toNat _); omega
  try simp only [HS] at h1
  refine W_exit ?_
  refine thenQ_e ?_
  refine loopQ_e ?_
  refine inBlk_y ?_
  refine thenQ_n ?_
  refine W_seq ?_
  refine W_region ?_
  refine ev ?_
  refine evE ?_
  refine ev ?_
  refine ev ?_
  refine WO_nil ?_
  refine thenQ_n ?_
  refine W_ret ?_
  refine Ends_of (.inr rfl) (ret_okF rfl) (by decide) rfl ?_
  · first | (have hh := go_at (l := l) (p := goodAct c) hk0 h1 (by assumption); rw [goodActs, hh]; rfl) | (have hh := all_full (by assumption) hk2; rw [goodActs, hh]; rfl)

/-- A room and what is held in it. -/
def heldGo : List (List Int) → List Int → Bool
  | l :: hs, r :: rs => decide ((l.length : Int) ≤ r) && (allIn l (-1000) 1000 && heldGo hs rs)
  | _, _ => true
def goodTask (c : Int) (t : Task) : Bool := goodActs c t.acts && (decide (0 ≤ t.pos ∧ t.pos ≤ t.acts.length) && (decide (0 ≤ t.state ∧ t.state ≤ 2) && (inNum t.last && decide (t.state = 1 ↔ t.pos = t.acts.length))))
def goodWorld (w : World) : Bool :=
  decide ((1 : Int) ≤ w.room.length ∧ (w.room.length : Int) ≤ 3) && (decide ((w.held.length : Int) = w.room.length) && (decide ((w.shut.length : Int) = w.room.length) && (allIn w.room 0 3 &&
    (decide ((1 : Int) ≤ w.tasks.length ∧ (w.tasks.length : Int) ≤ 4) && (decide ((w.trace.length : Int) ≤ 120) && (allIn w.trace (-1000) 1000 && (heldGo w.held w.room && w.tasks.all (goodTask w.room.length))))))))

theorem heldGo_at {hs : List (List Int)} {rs : List Int} {k : Int} (h0 : 0 ≤ k) (h1 : k < hs.length) (h2 : k < rs.length) :
    heldGo (hs.drop k.toNat) (rs.drop k.toNat) = (decide (((hs[k.toNat]'(by omega)).length : Int) ≤ rs[k.toNat]'(by omega)) && (allIn (hs[k.toNat]'(by omega)) (-1000) 1000 && heldGo (hs.drop (k + 1).toNat) (rs.drop (k + 1).toNat))) := by
  rw [drop_at h0 h1, drop_at (l := rs) h0 h2, heldGo]

theorem specGoodWorld_fun (w : World) (hw : w.ok 1048576) : Fun Try.prog 40 [.t w.tt] (tupD [.t (.bool (goodWorld w))]) := by
  have hw1 : w.room.length ≤ 1048576 := hw.1
  have hw2 : w.held.length ≤ 1048576 := hw.2.1.1
  have hw3 : w.shut.length ≤ 1048576 := hw.2.2.1
  have hw4 : w.tasks.length ≤ 1048576 := hw.2.2.2.1.1
  have hw5 : w.trace.length ≤ 1048576 := hw.2.2.2.2.1
  refine Fun.begin tys Try.func40 rfl rfl (N := 137) [(0, .t w.tt)] rfl rfl (fun w0 G F0 => ?_)
  refine W_seq ?_
  refine W_region ?_
  refine WO_box rfl rfl (lt_of rfl) rfl rfl ?_
  refine WO_norm rfl ?_
  refine ev ?_
  refine WO_nil ?_
  refine thenQ_n ?_
  refine W_seq ?_
  refine W_region ?_
  refine ev ?_
  refine ev ?_
  refine evE ?_
  refine ev ?_
  refine WO_nil ?_
  refine thenQ_n ?_
  iterate 2 (refine W_seq ?_)
  refine W_region ?_
  refine ev ?_
  refine callB ?_
  refine ⟨_, l1In_fun _ _ _, rfl, ?_⟩
  refine ev ?_
  refine WO_keep [1, 2, 3, 13] rfl ?_
  refine ev ?_
  refine WO_guard rfl rfl rfl rfl (lt_of rfl) (fun h1 => ?_) (fun h1 => ?_)
  rotate_left
  ·
    try simp only [HS] at h1
    iterate 4 (refine WO_guardN rfl rfl rfl rfl rfl (lt_of rfl) ?_)
    refine ev ?_
    refine ev ?_
    iterate 2 (refine WO_guardN rfl rfl rfl rfl rfl (lt_of rfl) ?_)
    refine WO_keep [1, 2, 3, 21, 23] rfl ?_
    iterate 3 (refine WO_guardN rfl rfl rfl rfl rfl (lt_of rfl) ?_)
    refine ev ?_
    refine ev ?_
    iterate 4 (refine WO_guardN rfl rfl rfl rfl rfl (lt_of rfl) ?_)
    refine WO_keep [1, 2, 3, 28, 32] rfl ?_
    refine ev ?_
    refine ev ?_
    iterate 5 (refine WO_guardN rfl rfl rfl rfl rfl (lt_of rfl) ?_)
    refine ev ?_
    refine ev ?_
    refine WO_keep [1, 2, 3, 41] rfl ?_
    iterate 4 (refine WO_guardN rfl rfl rfl rfl rfl (lt_of rfl) ?_)
    refine ev ?_
    refine ev ?_
    iterate 3 (refine WO_guardN rfl rfl rfl rfl rfl (lt_of rfl) ?_)
    refine WO_keep [1, 2, 3, 47, 50] rfl ?_
    refine WO_guardN rfl rfl rfl rfl rfl (lt_of rfl) ?_
    refine ev ?_
    refine WO_nil ?_
    refine thenQ_n ?_
    refine W_condT rfl ?_
    refine W_seq ?_
    refine W_region ?_
    refine ev ?_
    refine WO_nil ?_
    refine thenQ_n ?_
    refine W_ret ?_
    refine thenQ_r ?_
    refine Ends_of (.inr rfl) (ret_okF rfl) (by decide) rfl ?_
    · first | exact retB (by grind [goodWorld]) | (have hh : heldGo w.held w.room = false := (by rw [hk2, heldGo_at hk0 (by omega) (by omega)]; grind); exact retB (by grind [goodWorld])) | (have hh := go_at (l := w.tasks) (p := goodTask w.room.length) hj0 (by omega) (by grind [goodTask]); exact retB (by grind [goodWorld])) | (have hh := all_full (l := w.tasks) (by omega) hj2; have h0 : heldGo w.held w.room = true := (by rw [hk2, drop_end h8]; simp [heldGo]); exact retB (by grind [goodWorld]))
  try simp only [HS] at h1
  refine ev ?_
  refine WO_guardY rfl rfl rfl rfl (lt_of rfl) ?_
  refine ev ?_
  refine WO_guardY rfl rfl rfl rfl (lt_of rfl) ?_
  refine evE ?_
  refine WO_guardY rfl rfl rfl rfl (lt_of rfl) ?_
  refine ev ?_
  refine WO_guardY rfl rfl rfl rfl (lt_of rfl) ?_
  iterate 3 (refine ev ?_)
  refine WO_guard rfl rfl rfl rfl (lt_of rfl) (fun h2 => ?_) (fun h2 => ?_)
  rotate_left
  ·
    try simp only [HS] at h2
    refine WO_guardN rfl rfl rfl rfl rfl (lt_of rfl) ?_
    refine WO_keep [1, 2, 3, 21, 23] rfl ?_
    iterate 3 (refine WO_guardN rfl rfl rfl rfl rfl (lt_of rfl) ?_)
    refine ev ?_
    refine ev ?_
    iterate 4 (refine WO_guardN rfl rfl rfl rfl rfl (lt_of rfl) ?_)
    refine WO_keep [1, 2, 3, 28, 32] rfl ?_
    refine ev ?_
    refine ev ?_
    iterate 5 (refine WO_guardN rfl rfl rfl rfl rfl (lt_of rfl) ?_)
    refine ev ?_
    refine ev ?_
    refine WO_keep [1, 2, 3, 41] rfl ?_
    iterate 4 (refine WO_guardN rfl rfl rfl rfl rfl (lt_of rfl) ?_)
    refine ev ?_
    refine ev ?_
    iterate 3 (refine WO_guardN rfl rfl rfl rfl rfl (lt_of rfl) ?_)
    refine WO_keep [1, 2, 3, 47, 50] rfl ?_
    refine WO_guardN rfl rfl rfl rfl rfl (lt_of rfl) ?_
    refine ev ?_
    refine WO_nil ?_
    refine thenQ_n ?_
    refine W_condT rfl ?_
    refine W_seq ?_
    refine W_region ?_
    refine ev ?_
    refine WO_nil ?_
    refine thenQ_n ?_
    refine W_ret ?_
    refine thenQ_r ?_
    refine Ends_of (.inr rfl) (ret_okF rfl) (by decide) rfl ?_
    · first | exact retB (by grind [goodWorld]) | (have hh : heldGo w.held w.room = false := (by rw [hk2, heldGo_at hk0 (by omega) (by omega)]; grind); exact retB (by grind [goodWorld])) | (have hh := go_at (l := w.tasks) (p := goodTask w.room.length) hj0 (by omega) (by grind [goodTask]); exact retB (by grind [goodWorld])) | (have hh := all_full (l := w.tasks) (by omega) hj2; have h0 : heldGo w.held w.room = true := (by rw [hk2, drop_end h8]; simp [heldGo]); exact retB (by grind [goodWorld]))
  try simp only [HS] at h2
  refine ev ?_
  refine WO_guardY rfl rfl rfl rfl (lt_of rfl) ?_
  refine ev ?_
  refine WO_keep [1, 2, 3, 21, 23] rfl ?_
  refine WO_guardY rfl rfl rfl rfl (lt_of rfl) ?_
  refine evE ?_
  refine WO_guardY rfl rfl rfl rfl (lt_of rfl) ?_
  refine ev ?_
  refine WO_guardY rfl rfl rfl rfl (lt_of rfl) ?_
  iterate 3 (refine ev ?_)
  refine WO_guard rfl rfl rfl rfl (lt_of rfl) (fun h3 => ?_) (fun h3 => ?_)
  rotate_left
  ·
    try simp only [HS] at h3
    iterate 3 (refine WO_guardN rfl rfl rfl rfl rfl (lt_of rfl) ?_)
    refine ev ?_
    refine WO_keep [1, 2, 3, 33] rfl ?_
    refine ev ?_
    iterate 5 (refine WO_guardN rfl rfl rfl rfl rfl (lt_of rfl) ?_)
    refine ev ?_
    refine ev ?_
    refine WO_guardN rfl rfl rfl rfl rfl (lt_of rfl) ?_
    refine WO_keep [1, 2, 3, 41, 42] rfl ?_
    iterate 3 (refine WO_guardN rfl rfl rfl rfl rfl (lt_of rfl) ?_)
    refine ev ?_
    refine ev ?_
    iterate 4 (refine WO_guardN rfl rfl rfl rfl rfl (lt_of rfl) ?_)
    refine WO_keep [1, 2, 3, 47, 51] rfl ?_
    refine ev ?_
    refine WO_nil ?_
    refine thenQ_n ?_
    refine W_condT rfl ?_
    refine W_seq ?_
    refine W_region ?_
    refine ev ?_
    refine WO_nil ?_
    refine thenQ_n ?_
    refine W_ret ?_
    refine thenQ_r ?_
    refine Ends_of (.inr rfl) (ret_okF rfl) (by decide) rfl ?_
    · first | exact retB (by grind [goodWorld]) | (have hh : heldGo w.held w.room = false := (by rw [hk2, heldGo_at hk0 (by omega) (by omega)]; grind); exact retB (by grind [goodWorld])) | (have hh := go_at (l := w.tasks) (p := goodTask w.room.length) hj0 (by omega) (by grind [goodTask]); exact retB (by grind [goodWorld])) | (have hh := all_full (l := w.tasks) (by omega) hj2; have h0 : heldGo w.held w.room = true := (by rw [hk2, drop_end h8]; simp [heldGo]); exact retB (by grind [goodWorld]))
  try simp only [HS] at h3
  refine ev ?_
  refine WO_guardY rfl rfl rfl rfl (lt_of rfl) ?_
  refine ev ?_
  refine WO_guardY rfl rfl rfl rfl (lt_of rfl) ?_
  refine callB ?_
  refine ⟨_, l1All_fun _ _ _ (by first | omega | (have : (w.held[k.toNat]'(by omega)).length ≤ 1048576 := hw.2.1.2 _ (List.getElem_mem _); omega)), rfl, ?_⟩
  refine WO_guardY rfl rfl rfl rfl (lt_of rfl) ?_
  refine ev ?_
  refine WO_keep [1, 2, 3, 28, 32] rfl ?_
  refine ev ?_
  refine ev ?_
  refine WO_guard rfl rfl rfl rfl (lt_of rfl) (fun h4 => ?_) (fun h4 => ?_)
  rotate_left
  ·
    try simp only [HS] at h4
    iterate 4 (refine WO_guardN rfl rfl rfl rfl rfl (lt_of rfl) ?_)
    refine ev ?_
    refine ev ?_
    refine WO_guardN rfl rfl rfl rfl rfl (lt_of rfl) ?_
    refine WO_keep [1, 2, 3, 41, 42] rfl ?_
    iterate 3 (refine WO_guardN rfl rfl rfl rfl rfl (lt_of rfl) ?_)
    refine ev ?_
    refine ev ?_
    iterate 4 (refine WO_guardN rfl rfl rfl rfl rfl (lt_of rfl) ?_)
    refine WO_keep [1, 2, 3, 47, 51] rfl ?_
    refine ev ?_
    refine WO_nil ?_
    refine thenQ_n ?_
    refine W_condT rfl ?_
    refine W_seq ?_
    refine W_region ?_
    refine ev ?_
    refine WO_nil ?_
    refine thenQ_n ?_
    refine W_ret ?_
    refine thenQ_r ?_
    refine Ends_of (.inr rfl) (ret_okF rfl) (by decide) rfl ?_
    · first | exact retB (by grind [goodWorld]) | (have hh : heldGo w.held w.room = false := (by rw [hk2, heldGo_at hk0 (by omega) (by omega)]; grind); exact retB (by grind [goodWorld])) | (have hh := go_at (l := w.tasks) (p := goodTask w.room.length) hj0 (by omega) (by grind [goodTask]); exact retB (by grind [goodWorld])) | (have hh := all_full (l := w.tasks) (by omega) hj2; have h0 : heldGo w.held w.room = true := (by rw [hk2, drop_end h8]; simp [heldGo]); exact retB (by grind [goodWorld]))
  try simp only [HS] at h4
  refine ev ?_
  refine WO_guardY rfl rfl rfl rfl (lt_of rfl) ?_
  refine ev ?_
  refine WO_guardY rfl rfl rfl rfl (lt_of rfl) ?_
  refine evE ?_
  refine WO_guardY rfl rfl rfl rfl (lt_of rfl) ?_
  refine callB ?_
  refine ⟨_, l1In_fun _ _ _, rfl, ?_⟩
  refine WO_guardY rfl rfl rfl rfl (lt_of rfl) ?_
  iterate 3 (refine ev ?_)
  refine WO_keep [1, 2, 3, 41] rfl ?_
  refine WO_guard rfl rfl rfl rfl (lt_of rfl) (fun h5 => ?_) (fun h5 => ?_)
  rotate_left
  ·
    try simp only [HS] at h5
    iterate 3 (refine WO_guardN rfl rfl rfl rfl rfl (lt_of rfl) ?_)
    refine ev ?_
    refine ev ?_
    iterate 4 (refine WO_guardN rfl rfl rfl rfl rfl (lt_of rfl) ?_)
    refine WO_keep [1, 2, 3, 47, 51] rfl ?_
    refine ev ?_
    refine WO_nil ?_
    refine thenQ_n ?_
    refine W_condT rfl ?_
    refine W_seq ?_
    refine W_region ?_
    refine ev ?_
    refine WO_nil ?_
    refine thenQ_n ?_
    refine W_ret ?_
    refine thenQ_r ?_
    refine Ends_of (.inr rfl) (ret_okF rfl) (by decide) rfl ?_
    · first | exact retB (by grind [goodWorld]) | (have hh : heldGo w.held w.room = false := (by rw [hk2, heldGo_at hk0 (by omega) (by omega)]; grind); exact retB (by grind [goodWorld])) | (have hh := go_at (l := w.tasks) (p := goodTask w.room.length) hj0 (by omega) (by grind [goodTask]); exact retB (by grind [goodWorld])) | (have hh := all_full (l := w.tasks) (by omega) hj2; have h0 : heldGo w.held w.room = true := (by rw [hk2, drop_end h8]; simp [heldGo]); exact retB (by grind [goodWorld]))
  try simp only [HS] at h5
  refine ev ?_
  refine WO_guardY rfl rfl rfl rfl (lt_of rfl) ?_
  refine ev ?_
  refine WO_guardY rfl rfl rfl rfl (lt_of rfl) ?_
  refine evE ?_
  refine WO_guardY rfl rfl rfl rfl (lt_of rfl) ?_
  iterate 3 (refine ev ?_)
  refine WO_guard rfl rfl rfl rfl (lt_of rfl) (fun h6 => ?_) (fun h6 => ?_)
  rotate_left
  ·
    try simp only [HS] at h6
    iterate 3 (refine WO_guardN rfl rfl rfl rfl rfl (lt_of rfl) ?_)
    refine WO_keep [1, 2, 3, 47, 51] rfl ?_
    refine ev ?_
    refine WO_nil ?_
    refine thenQ_n ?_
    refine W_condT rfl ?_
    refine W_seq ?_
    refine W_region ?_
    refine ev ?_
    refine WO_nil ?_
    refine thenQ_n ?_
    refine W_ret ?_
    refine thenQ_r ?_
    refine Ends_of (.inr rfl) (ret_okF rfl) (by decide) rfl ?_
    · first | exact retB (by grind [goodWorld]) | (have hh : heldGo w.held w.room = false := (by rw [hk2, heldGo_at hk0 (by omega) (by omega)]; grind); exact retB (by grind [goodWorld])) | (have hh := go_at (l := w.tasks) (p := goodTask w.room.length) hj0 (by omega) (by grind [goodTask]); exact retB (by grind [goodWorld])) | (have hh := all_full (l := w.tasks) (by omega) hj2; have h0 : heldGo w.held w.room = true := (by rw [hk2, drop_end h8]; simp [heldGo]); exact retB (by grind [goodWorld]))
  try simp only [HS] at h6
  refine ev ?_
  refine WO_guardY rfl rfl rfl rfl (lt_of rfl) ?_
  refine ev ?_
  refine WO_guardY rfl rfl rfl rfl (lt_of rfl) ?_
  refine callB ?_
  refine ⟨_, l1All_fun _ _ _ (by first | omega | (have : (w.held[k.toNat]'(by omega)).length ≤ 1048576 := hw.2.1.2 _ (List.getElem_mem _); omega)), rfl, ?_⟩
  refine WO_keep [1, 2, 3, 47, 50] rfl ?_
  refine WO_guardY rfl rfl rfl rfl (lt_of rfl) ?_
  refine ev ?_
  refine ev ?_
  refine WO_nil ?_
  refine thenQ_n ?_
  refine W_cond rfl (fun h7 => ?_) (fun h7 => ?_)
  ·
    try simp only [HS] at h7
    refine W_seq ?_
    refine W_region ?_
    refine ev ?_
    refine WO_nil ?_
    refine thenQ_n ?_
    refine W_ret ?_
    refine thenQ_r ?_
    refine Ends_of (.inr rfl) (ret_okF rfl) (by decide) rfl ?_
    · first | exact retB (by grind [goodWorld]) | (have hh : heldGo w.held w.room = false := (by rw [hk2, heldGo_at hk0 (by omega) (by omega)]; grind); exact retB (by grind [goodWorld])) | (have hh := go_at (l := w.tasks) (p := goodTask w.room.length) hj0 (by omega) (by grind [goodTask]); exact retB (by grind [goodWorld])) | (have hh := all_full (l := w.tasks) (by omega) hj2; have h0 : heldGo w.held w.room = true := (by rw [hk2, drop_end h8]; simp [heldGo]); exact retB (by grind [goodWorld]))
  try simp only [HS] at h7
  refine W_skip ?_
  refine thenQ_n ?_
  iterate 2 (refine W_seq ?_)
  refine W_region ?_
  refine ev ?_
  refine ev ?_
  refine evE ?_
  refine ev ?_
  refine WO_nil ?_
  refine thenQ_n ?_
  refine W_block ?_
  refine W_loopK (α := Int) [1, 3, 54, 55] [1] (fun (x : Int) => [(56, .t (.int x))]) (fun (x : Int) => []) (fun (x : Int) => 0 ≤ x ∧ x ≤ w.held.length ∧ (w.held.length : Int) = w.room.length ∧ heldGo w.held w.room = heldGo (w.held.drop x.toNat) (w.room.drop x.toNat)) (fun (x : Int) => Int.toNat (w.held.length - x)) 0 ?_ ?_ ?_ (fun k hx => ?_)
  · repeat (first | exact Sub.nil' | refine Sub.cons' rfl ?_ )
  · repeat (first | exact SubM.nil' | refine SubM.cons' rfl ?_ )
  · exact ⟨by omega, by omega, by assumption, rfl⟩
  obtain ⟨hk0, hk1, hk3, hk2⟩ := hx
  refine W_norm rfl ?_
  refine W_seq ?_
  refine W_region ?_
  refine ev ?_
  refine WO_nil ?_
  refine thenQ_n ?_
  refine W_seq ?_
  refine W_cond rfl (fun h8 => ?_) (fun h8 => ?_)
  ·
    try simp only [HS] at h8
    refine W_skip ?_
    refine thenQ_n ?_
    refine W_seq ?_
    refine W_block ?_
    refine W_seq ?_
    refine W_region ?_
    refine ev ?_
    first | refine WO_idxT tys rfl rfl (lt_of rfl) rfl rfl rfl rfl rfl rfl rfl (by omega) _ (getT _ _ (by omega) (by omega)) ?_ | refine WO_idxS tys rfl rfl (lt_of rfl) rfl rfl rfl rfl rfl rfl rfl rfl (by omega) (by omega) ?_
    first | refine ev ?_ | refine WO_loadL tys rfl rfl (lt_of rfl) rfl rfl rfl rfl (getT _ _ (by omega) (by omega)) rfl ?_ | refine WO_loadL tys rfl rfl (lt_of rfl) rfl rfl rfl rfl (getT0 _ _ (by omega) (by omega)) rfl ?_
    refine ev ?_
    refine ev ?_
    refine WO_nil ?_
    refine thenQ_n ?_
    refine W_seq ?_
    refine W_region ?_
    refine ev ?_
    refine evE ?_
    refine ev ?_
    refine WO_keep [1, 3, 4, 5, 54, 55, 56, 57, 58, 59, 60, 61, 62, 63] rfl ?_
    refine ev ?_
    refine ev ?_
    first | refine WO_idxT tys rfl rfl (lt_of rfl) rfl rfl rfl rfl rfl rfl rfl (by omega) _ (getT _ _ (by omega) (by omega)) ?_ | refine WO_idxS tys rfl rfl (lt_of rfl) rfl rfl rfl rfl rfl rfl rfl rfl (by omega) (by omega) ?_
    first | refine ev ?_ | refine WO_loadL tys rfl rfl (lt_of rfl) rfl rfl rfl rfl (getT _ _ (by omega) (by omega)) rfl ?_ | refine WO_loadL tys rfl rfl (lt_of rfl) rfl rfl rfl rfl (getT0 _ _ (by omega) (by omega)) rfl ?_
    refine ev ?_
    refine ev ?_
    refine WO_guard rfl rfl rfl rfl (lt_of rfl) (fun h9 => ?_) (fun h9 => ?_)
    rotate_left
    ·
      try simp only [HS] at h9
      iterate 2 (refine WO_guardN rfl rfl rfl rfl rfl (lt_of rfl) ?_)
      refine ev ?_
      refine WO_keep [1, 3, 4, 5, 54, 55, 56, 57, 58, 59, 60, 61, 62, 63, 64, 65, 66, 67, 68, 69, 70, 71, 72, 73] rfl ?_
      refine WO_nil ?_
      refine thenQ_n ?_
      refine W_condT rfl ?_
      refine W_seq ?_
      refine W_region ?_
      refine ev ?_
      refine WO_nil ?_
      refine thenQ_n ?_
      refine W_ret ?_
      refine inBlk_r ?_
      refine thenQ_r ?_
      refine loopQ_r ?_
      refine inBlk_r ?_
      refine thenQ_r ?_
      refine Ends_of (.inr rfl) (ret_okF rfl) (by decide) rfl ?_
      · first | exact retB (by grind [goodWorld]) | (have hh : heldGo w.held w.room = false := (by rw [hk2, heldGo_at hk0 (by omega) (by omega)]; grind); exact retB (by grind [goodWorld])) | (have hh := go_at (l := w.tasks) (p := goodTask w.room.length) hj0 (by omega) (by grind [goodTask]); exact retB (by grind [goodWorld])) | (have hh := all_full (l := w.tasks) (by omega) hj2; have h0 : heldGo w.held w.room = true := (by rw [hk2, drop_end h8]; simp [heldGo]); exact retB (by grind [goodWorld]))
    try simp only [HS] at h9
    refine ev ?_
    refine WO_guardY rfl rfl rfl rfl (lt_of rfl) ?_
    refine callB ?_
    refine ⟨_, l1All_fun _ _ _ (by first | omega | (have : (w.held[k.toNat]'(by omega)).length ≤ 1048576 := hw.2.1.2 _ (List.getElem_mem _); omega)), rfl, ?_⟩
    refine WO_guardY rfl rfl rfl rfl (lt_of rfl) ?_
    refine ev ?_
    refine WO_keep [1, 3, 4, 5, 54, 55, 56, 57, 58, 59, 60, 61, 62, 63, 64, 65, 66, 67, 68, 69, 70, 71, 72] rfl ?_
    refine ev ?_
    refine WO_nil ?_
    refine thenQ_n ?_
    refine W_cond rfl (fun h10 => ?_) (fun h10 => ?_)
    ·
      try simp only [HS] at h10
      refine W_seq ?_
      refine W_region ?_
      refine ev ?_
      refine WO_nil ?_
      refine thenQ_n ?_
      refine W_ret ?_
      refine inBlk_r ?_
      refine thenQ_r ?_
      refine loopQ_r ?_
      refine inBlk_r ?_
      refine thenQ_r ?_
      refine Ends_of (.inr rfl) (ret_okF rfl) (by decide) rfl ?_
      · first | exact retB (by grind [goodWorld]) | (have hh : heldGo w.held w.room = false := (by rw [hk2, heldGo_at hk0 (by omega) (by omega)]; grind); exact retB (by grind [goodWorld])) | (have hh := go_at (l := w.tasks) (p := goodTask w.room.length) hj0 (by omega) (by grind [goodTask]); exact retB (by grind [goodWorld])) | (have hh := all_full (l := w.tasks) (by omega) hj2; have h0 : heldGo w.held w.room = true := (by rw [hk2, drop_end h8]; simp [heldGo]); exact retB (by grind [goodWorld]))
    try simp only [HS] at h10
    refine W_skip ?_
    refine inBlk_n ?_
    refine thenQ_n ?_
    refine W_region ?_
    refine evI ?_
    refine ev ?_
    refine WO_nil ?_
    refine loopQ_n _ (by (try dsimp only); repeat (first | exact Sub.nil' | refine Sub.cons' rfl ?_ )) (by (try dsimp only); repeat (first | exact SubM.nil' | refine SubM.cons' rfl ?_ )) ?_ ?_
    · try dsimp only
      exact ⟨by omega, by omega, hk3, by rw [hk2, heldGo_at hk0 (by omega) (by omega)]; simp [*]⟩
    · (show Int.toNat _ < Int.toNat _); omega
  try simp only [HS] at h8
  refine W_exit ?_
  refine thenQ_e ?_
  refine loopQ_e ?_
  refine inBlk_y ?_
  refine thenQ_n ?_
  iterate 2 (refine W_seq ?_)
  refine W_region ?_
  refine ev ?_
  refine ev ?_
  refine evE ?_
  refine ev ?_
  refine WO_nil ?_
  refine thenQ_n ?_
  refine W_block ?_
  refine W_loopK (α := Int) [1, 3, 76, 77] [1] (fun (x : Int) => [(78, .t (.int x))]) (fun (x : Int) => []) (fun (x : Int) => 0 ≤ x ∧ x ≤ w.tasks.length ∧ (w.tasks.take x.toNat).all (goodTask w.room.length) = true) (fun (x : Int) => Int.toNat (w.tasks.length - x)) 0 ?_ ?_ ?_ (fun k' hx => ?_)
  · repeat (first | exact Sub.nil' | refine Sub.cons' rfl ?_ )
  · repeat (first | exact SubM.nil' | refine SubM.cons' rfl ?_ )
  · exact ⟨by omega, by omega, by simp⟩
  obtain ⟨hj0, hj1, hj2⟩ := hx
  refine W_norm rfl ?_
  refine W_seq ?_
  refine W_region ?_
  refine ev ?_
  refine WO_nil ?_
  refine thenQ_n ?_
  refine W_seq ?_
  refine W_cond rfl (fun h9 => ?_) (fun h9 => ?_)
  ·
    try simp only [HS] at h9
    refine W_skip ?_
    refine thenQ_n ?_
    refine W_seq ?_
    refine W_block ?_
    refine W_seq ?_
    refine W_region ?_
    first | refine WO_idxT tys rfl rfl (lt_of rfl) rfl rfl rfl rfl rfl rfl rfl (by omega) _ (getT _ _ (by omega) (by omega)) ?_ | refine WO_idxS tys rfl rfl (lt_of rfl) rfl rfl rfl rfl rfl rfl rfl rfl (by omega) (by omega) ?_
    first | (refine ev ?_; try refine WO_le (Le.freeze (u := 81) rfl) ?_) | refine WO_loadL tys rfl rfl (lt_of rfl) rfl rfl rfl rfl (getT _ _ (by omega) (by omega)) rfl ?_ | refine WO_loadL tys rfl rfl (lt_of rfl) rfl rfl rfl rfl (getT0 _ _ (by omega) (by omega)) rfl ?_
    refine WO_norm rfl ?_
    refine WO_alloc tys rfl rfl (lt_of rfl) rfl rfl rfl ?_
    refine WO_norm rfl ?_
    refine WO_store tys rfl rfl rfl rfl rfl rfl rfl rfl (lt_of rfl) ?_
    refine WO_norm rfl ?_
    refine WO_nil ?_
    refine thenQ_n ?_
    iterate 2 (refine W_seq ?_)
    refine W_region ?_
    iterate 3 (refine ev ?_)
    refine callB ?_
    refine ⟨_, l15Acts_fun _ _ (hw.2.2.2.1.2 _ (List.getElem_mem _)).1 (by omega) (by omega), rfl, ?_⟩
    refine WO_keep [1, 3, 7, 76, 77, 78, 79, 80, 81, 82, 83, 84, 85] rfl ?_
    refine ev ?_
    refine ev ?_
    refine WO_guard rfl rfl rfl rfl (lt_of rfl) (fun h10 => ?_) (fun h10 => ?_)
    rotate_left
    ·
      try simp only [HS] at h10
      iterate 6 (refine WO_guardN rfl rfl rfl rfl rfl (lt_of rfl) ?_)
      refine ev ?_
      refine WO_keep [1, 3, 7, 76, 77, 78, 79, 80, 81, 82, 83, 84, 85, 86, 87, 88, 89, 90, 91, 92, 93, 94, 95] rfl ?_
      refine ev ?_
      iterate 4 (refine WO_guardN rfl rfl rfl rfl rfl (lt_of rfl) ?_)
      refine ev ?_
      refine ev ?_
      iterate 2 (refine WO_guardN rfl rfl rfl rfl rfl (lt_of rfl) ?_)
      refine WO_keep [1, 3, 7, 76, 77, 78, 79, 80, 81, 82, 83, 84, 85, 86, 87, 88, 89, 90, 91, 92, 93, 94, 95, 96, 97, 98, 99, 100, 101, 102, 103, 104] rfl ?_
      iterate 2 (refine WO_guardN rfl rfl rfl rfl rfl (lt_of rfl) ?_)
      refine ev ?_
      refine WO_nil ?_
      refine thenQ_n ?_
      refine W_condT rfl ?_
      refine W_seq ?_
      refine W_region ?_
      refine ev ?_
      refine WO_nil ?_
      refine thenQ_n ?_
      refine W_ret ?_
      refine thenQ_r ?_
      refine inBlk_r ?_
      refine thenQ_r ?_
      refine loopQ_r ?_
      refine inBlk_r ?_
      refine thenQ_r ?_
      refine Ends_of (.inr rfl) (ret_okF rfl) (by decide) rfl ?_
      · first | exact retB (by grind [goodWorld]) | (have hh : heldGo w.held w.room = false := (by rw [hk2, heldGo_at hk0 (by omega) (by omega)]; grind); exact retB (by grind [goodWorld])) | (have hh := go_at (l := w.tasks) (p := goodTask w.room.length) hj0 (by omega) (by grind [goodTask]); exact retB (by grind [goodWorld])) | (have hh := all_full (l := w.tasks) (by omega) hj2; have h0 : heldGo w.held w.room = true := (by rw [hk2, drop_end h8]; simp [heldGo]); exact retB (by grind [goodWorld]))
    try simp only [HS] at h10
    refine ev ?_
    refine WO_guardY rfl rfl rfl rfl (lt_of rfl) ?_
    refine ev ?_
    refine WO_guardY rfl rfl rfl rfl (lt_of rfl) ?_
    refine ev ?_
    refine WO_guardY rfl rfl rfl rfl (lt_of rfl) ?_
    refine ev ?_
    refine WO_guardY rfl rfl rfl rfl (lt_of rfl) ?_
    refine evE ?_
    refine WO_guardY rfl rfl rfl rfl (lt_of rfl) ?_
    refine callB ?_
    refine ⟨_, l1In_fun _ _ _, rfl, ?_⟩
    refine WO_guardY rfl rfl rfl rfl (lt_of rfl) ?_
    refine ev ?_
    refine WO_keep [1, 3, 7, 76, 77, 78, 79, 80, 81, 82, 83, 84, 85, 86, 87, 88, 89, 90, 91, 92, 93, 94] rfl ?_
    refine ev ?_
    refine ev ?_
    refine WO_guard rfl rfl rfl rfl (lt_of rfl) (fun h11 => ?_) (fun h11 => ?_)
    rotate_left
    ·
      try simp only [HS] at h11
      iterate 3 (refine WO_guardN rfl rfl rfl rfl rfl (lt_of rfl) ?_)
      refine ev ?_
      refine ev ?_
      iterate 2 (refine WO_guardN rfl rfl rfl rfl rfl (lt_of rfl) ?_)
      refine WO_keep [1, 3, 7, 76, 77, 78, 79, 80, 81, 82, 83, 84, 85, 86, 87, 88, 89, 90, 91, 92, 93, 94, 95, 96, 97, 98, 99, 100, 101, 102, 103, 104] rfl ?_
      iterate 2 (refine WO_guardN rfl rfl rfl rfl rfl (lt_of rfl) ?_)
      refine ev ?_
      refine WO_nil ?_
      refine thenQ_n ?_
      refine W_condT rfl ?_
      refine W_seq ?_
      refine W_region ?_
      refine ev ?_
      refine WO_nil ?_
      refine thenQ_n ?_
      refine W_ret ?_
      refine thenQ_r ?_
      refine inBlk_r ?_
      refine thenQ_r ?_
      refine loopQ_r ?_
      refine inBlk_r ?_
      refine thenQ_r ?_
      refine Ends_of (.inr rfl) (ret_okF rfl) (by decide) rfl ?_
      · first | exact retB (by grind [goodWorld]) | (have hh : heldGo w.held w.room = false := (by rw [hk2, heldGo_at hk0 (by omega) (by omega)]; grind); exact retB (by grind [goodWorld])) | (have hh := go_at (l := w.tasks) (p := goodTask w.room.length) hj0 (by omega) (by grind [goodTask]); exact retB (by grind [goodWorld])) | (have hh := all_full (l := w.tasks) (by omega) hj2; have h0 : heldGo w.held w.room = true := (by rw [hk2, drop_end h8]; simp [heldGo]); exact retB (by grind [goodWorld]))
    try simp only [HS] at h11
    refine ev ?_
    refine WO_guardY rfl rfl rfl rfl (lt_of rfl) ?_
    refine ev ?_
    refine WO_guardY rfl rfl rfl rfl (lt_of rfl) ?_
    refine callB ?_
    refine ⟨_, l1In_fun _ _ _, rfl, ?_⟩
    refine WO_guardY rfl rfl rfl rfl (lt_of rfl) ?_
    iterate 3 (refine ev ?_)
    refine WO_guard rfl rfl rfl rfl (lt_of rfl) (fun h12 => ?_) (fun h12 => ?_)
    rotate_left
    ·
      try simp only [HS] at h12
      refine WO_guardN rfl rfl rfl rfl rfl (lt_of rfl) ?_
      refine WO_keep [1, 3, 7, 76, 77, 78, 79, 80, 81, 82, 83, 84, 85, 86, 87, 88, 89, 90, 91, 92, 93, 94, 95, 96, 97, 98, 99, 100, 101, 102, 103, 104] rfl ?_
      iterate 2 (refine WO_guardN rfl rfl rfl rfl rfl (lt_of rfl) ?_)
      refine ev ?_
      refine WO_nil ?_
      refine thenQ_n ?_
      refine W_condT rfl ?_
      refine W_seq ?_
      refine W_region ?_
      refine ev ?_
      refine WO_nil ?_
      refine thenQ_n ?_
      refine W_ret ?_
      refine thenQ_r ?_
      refine inBlk_r ?_
      refine thenQ_r ?_
      refine loopQ_r ?_
      refine inBlk_r ?_
      refine thenQ_r ?_
      refine Ends_of (.inr rfl) (ret_okF rfl) (by decide) rfl ?_
      · first | exact retB (by grind [goodWorld]) | (have hh : heldGo w.held w.room = false := (by rw [hk2, heldGo_at hk0 (by omega) (by omega)]; grind); exact retB (by grind [goodWorld])) | (have hh := go_at (l := w.tasks) (p := goodTask w.room.length) hj0 (by omega) (by grind [goodTask]); exact retB (by grind [goodWorld])) | (have hh := all_full (l := w.tasks) (by omega) hj2; have h0 : heldGo w.held w.room = true := (by rw [hk2, drop_end h8]; simp [heldGo]); exact retB (by grind [goodWorld]))
    try simp only [HS] at h12
    refine ev ?_
    refine WO_guardY rfl rfl rfl rfl (lt_of rfl) ?_
    refine ev ?_
    refine WO_keep [1, 3, 7, 76, 77, 78, 79, 80, 81, 82, 83, 84, 85, 86, 87, 88, 89, 90, 91, 92, 93, 94, 95, 96, 97, 98, 99, 100, 101, 102, 103, 104] rfl ?_
    refine WO_guardY rfl rfl rfl rfl (lt_of rfl) ?_
    refine callB ?_
    refine ⟨_, l15Num_fun _, rfl, ?_⟩
    refine WO_guardY rfl rfl rfl rfl (lt_of rfl) ?_
    refine ev ?_
    refine ev ?_
    refine WO_nil ?_
    refine thenQ_n ?_
    refine W_cond rfl (fun h13 => ?_) (fun h13 => ?_)
    ·
      try simp only [HS] at h13
      refine W_seq ?_
      refine W_region ?_
      refine ev ?_
      refine WO_nil ?_
      refine thenQ_n ?_
      refine W_ret ?_
      refine thenQ_r ?_
      refine inBlk_r ?_
      refine thenQ_r ?_
      refine loopQ_r ?_
      refine inBlk_r ?_
      refine thenQ_r ?_
      refine Ends_of (.inr rfl) (ret_okF rfl) (by decide) rfl ?_
      · first | exact retB (by grind [goodWorld]) | (have hh : heldGo w.held w.room = false := (by rw [hk2, heldGo_at hk0 (by omega) (by omega)]; grind); exact retB (by grind [goodWorld])) | (have hh := go_at (l := w.tasks) (p := goodTask w.room.length) hj0 (by omega) (by grind [goodTask]); exact retB (by grind [goodWorld])) | (have hh := all_full (l := w.tasks) (by omega) hj2; have h0 : heldGo w.held w.room = true := (by rw [hk2, drop_end h8]; simp [heldGo]); exact retB (by grind [goodWorld]))
    try simp only [HS] at h13
    refine W_skip ?_
    refine thenQ_n ?_
    refine W_seq ?_
    refine W_region ?_
    iterate 4 (refine ev ?_)
    refine WO_guard rfl rfl rfl rfl (lt_of rfl) (fun h14 => ?_) (fun h14 => ?_)
    rotate_left
    ·
      try simp only [HS] at h14
      iterate 2 (refine WO_guardN rfl rfl rfl rfl rfl (lt_of rfl) ?_)
      refine WO_keep [1, 3, 7, 76, 77, 78, 79, 80, 81, 82, 83, 84, 85, 86, 87, 88, 89, 90, 91, 92, 93, 94, 95, 96, 97, 98, 99, 100, 101, 102, 103, 104, 105, 106, 107, 108, 109, 110, 111, 112, 113, 114] rfl ?_
      iterate 7 (refine WO_guardN rfl rfl rfl rfl rfl (lt_of rfl) ?_)
      refine ev ?_
      refine ev ?_
      refine WO_keep [1, 3, 7, 76, 77, 78, 79, 80, 81, 82, 83, 84, 85, 86, 87, 88, 89, 90, 91, 92, 93, 94, 95, 96, 97, 98, 99, 100, 101, 102, 103, 104, 105, 106, 107, 108, 109, 110, 111, 112, 113, 114, 115, 116, 117, 118, 119, 120, 121, 122, 123] rfl ?_
      refine WO_guardY rfl rfl rfl rfl (lt_of rfl) ?_
      refine ev ?_
      refine WO_guardY rfl rfl rfl rfl (lt_of rfl) ?_
      refine ev ?_
      refine WO_guardY rfl rfl rfl rfl (lt_of rfl) ?_
      refine ev ?_
      refine WO_guardY rfl rfl rfl rfl (lt_of rfl) ?_
      refine ev ?_
      refine WO_guard rfl rfl rfl rfl (lt_of rfl) (fun h15 => ?_) (fun h15 => ?_)
      rotate_left
      ·
        try simp only [HS] at h15
        iterate 5 (refine WO_guardN rfl rfl rfl rfl rfl (lt_of rfl) ?_)
        refine WO_keep [1, 3, 7, 76, 77, 78, 79, 80, 81, 82, 83, 84, 85, 86, 87, 88, 89, 90, 91, 92, 93, 94, 95, 96, 97, 98, 99, 100, 101, 102, 103, 104, 105, 106, 107, 108, 109, 110, 111, 112, 113, 114, 115, 116, 117, 118, 119, 120, 121, 122, 123, 124, 125, 126, 127, 128, 129, 130, 131, 132, 133] rfl ?_
        refine WO_guardY rfl rfl rfl rfl (lt_of rfl) ?_
        refine ev ?_
        refine ev ?_
        refine WO_nil ?_
        refine thenQ_n ?_
        refine W_condF rfl ?_
        refine W_skip ?_
        refine inBlk_n ?_
        refine thenQ_n ?_
        refine W_region ?_
        refine evI ?_
        refine ev ?_
        refine WO_nil ?_
        refine loopQ_n _ (by (try dsimp only); repeat (first | exact Sub.nil' | refine Sub.cons' rfl ?_ )) (by (try dsimp only); repeat (first | exact SubM.nil' | refine SubM.cons' rfl ?_ )) ?_ ?_
        · try dsimp only
          exact ⟨by omega, by omega, all_take hj0 (by omega) hj2 (by grind [goodTask])⟩
        · (show Int.toNat _ < Int.toNat _); omega
      try simp only [HS] at h15
      refine ev ?_
      refine WO_guardY rfl rfl rfl rfl (lt_of rfl) ?_
      refine ev ?_
      refine WO_guardY rfl rfl rfl rfl (lt_of rfl) ?_
      refine ev ?_
      refine WO_guardY rfl rfl rfl rfl (lt_of rfl) ?_
      refine ev ?_
      refine WO_guardY rfl rfl rfl rfl (lt_of rfl) ?_
      refine evE ?_
      refine WO_keep [1, 3, 7, 76, 77, 78, 79, 80, 81, 82, 83, 84, 85, 86, 87, 88, 89, 90, 91, 92, 93, 94, 95, 96, 97, 98, 99, 100, 101, 102, 103, 104, 105, 106, 107, 108, 109, 110, 111, 112, 113, 114, 115, 116, 117, 118, 119, 120, 121, 122, 123, 124, 125, 126, 127, 128, 129, 130, 131, 132] rfl ?_
      refine WO_guardY rfl rfl rfl rfl (lt_of rfl) ?_
      refine ev ?_
      refine WO_guardY rfl rfl rfl rfl (lt_of rfl) ?_
      refine ev ?_
      refine ev ?_
      refine WO_nil ?_
      refine thenQ_n ?_
      refine W_cond rfl (fun h16 => ?_) (fun h16 => ?_)
      ·
        try simp only [HS] at h16
        refine W_seq ?_
        refine W_region ?_
        refine ev ?_
        refine WO_nil ?_
        refine thenQ_n ?_
        refine W_ret ?_
        refine inBlk_r ?_
        refine thenQ_r ?_
        refine loopQ_r ?_
        refine inBlk_r ?_
        refine thenQ_r ?_
        refine Ends_of (.inr rfl) (ret_okF rfl) (by decide) rfl ?_
        · first | exact retB (by grind [goodWorld]) | (have hh : heldGo w.held w.room = false := (by rw [hk2, heldGo_at hk0 (by omega) (by omega)]; grind); exact retB (by grind [goodWorld])) | (have hh := go_at (l := w.tasks) (p := goodTask w.room.length) hj0 (by omega) (by grind [goodTask]); exact retB (by grind [goodWorld])) | (have hh := all_full (l := w.tasks) (by omega) hj2; have h0 : heldGo w.held w.room = true := (by rw [hk2, drop_end h8]; simp [heldGo]); exact retB (by grind [goodWorld]))
      try simp only [HS] at h16
      refine W_skip ?_
      refine inBlk_n ?_
      refine thenQ_n ?_
      refine W_region ?_
      refine evI ?_
      refine ev ?_
      refine WO_nil ?_
      refine loopQ_n _ (by (try dsimp only); repeat (first | exact Sub.nil' | refine Sub.cons' rfl ?_ )) (by (try dsimp only); repeat (first | exact SubM.nil' | refine SubM.cons' rfl ?_ )) ?_ ?_
      · try dsimp only
        exact ⟨by omega, by omega, all_take hj0 (by omega) hj2 (by grind [goodTask])⟩
      · (show Int.toNat _ < Int.toNat _); omega
    try simp only [HS] at h14
    refine ev ?_
    refine WO_guardY rfl rfl rfl rfl (lt_of rfl) ?_
    refine ev ?_
    refine WO_keep [1, 3, 7, 76, 77, 78, 79, 80, 81, 82, 83, 84, 85, 86, 87, 88, 89, 90, 91, 92, 93, 94, 95, 96, 97, 98, 99, 100, 101, 102, 103, 104, 105, 106, 107, 108, 109, 110, 111, 112, 113] rfl ?_
    refine WO_guardY rfl rfl rfl rfl (lt_of rfl) ?_
    refine ev ?_
    refine WO_guardY rfl rfl rfl rfl (lt_of rfl) ?_
    refine ev ?_
    refine WO_guardY rfl rfl rfl rfl (lt_of rfl) ?_
    refine ev ?_
    refine WO_guardY rfl rfl rfl rfl (lt_of rfl) ?_
    refine ev ?_
    refine WO_guardY rfl rfl rfl rfl (lt_of rfl) ?_
    refine ev ?_
    refine WO_guardY rfl rfl rfl rfl (lt_of rfl) ?_
    refine evE ?_
    refine WO_guardY rfl rfl rfl rfl (lt_of rfl) ?_
    refine ev ?_
    refine WO_guardY rfl rfl rfl rfl (lt_of rfl) ?_
    refine ev ?_
    refine ev ?_
    refine WO_keep [1, 3, 7, 76, 77, 78, 79, 80, 81, 82, 83, 84, 85, 86, 87, 88, 89, 90, 91, 92, 93, 94, 95, 96, 97, 98, 99, 100, 101, 102, 103, 104, 105, 106, 107, 108, 109, 110, 111, 112, 113, 114, 115, 116, 117, 118, 119, 120, 121, 122] rfl ?_
    refine ev ?_
    refine WO_guard rfl rfl rfl rfl (lt_of rfl) (fun h15 => ?_) (fun h15 => ?_)
    rotate_left
    ·
      try simp only [HS] at h15
      iterate 3 (refine WO_guardN rfl rfl rfl rfl rfl (lt_of rfl) ?_)
      iterate 5 (refine WO_guardS rfl rfl rfl rfl (lt_of rfl) ?_)
      refine WO_keep [1, 3, 7, 76, 77, 78, 79, 80, 81, 82, 83, 84, 85, 86, 87, 88, 89, 90, 91, 92, 93, 94, 95, 96, 97, 98, 99, 100, 101, 102, 103, 104, 105, 106, 107, 108, 109, 110, 111, 112, 113, 114, 115, 116, 117, 118, 119, 120, 121, 122, 123, 124, 125, 126, 127, 128, 129, 130, 131, 132] rfl ?_
      refine WO_guardS rfl rfl rfl rfl (lt_of rfl) ?_
      refine WO_guardN rfl rfl rfl rfl rfl (lt_of rfl) ?_
      refine ev ?_
      refine WO_nil ?_
      refine thenQ_n ?_
      refine W_condT rfl ?_
      refine W_seq ?_
      refine W_region ?_
      refine ev ?_
      refine WO_nil ?_
      refine thenQ_n ?_
      refine W_ret ?_
      refine inBlk_r ?_
      refine thenQ_r ?_
      refine loopQ_r ?_
      refine inBlk_r ?_
      refine thenQ_r ?_
      refine Ends_of (.inr rfl) (ret_okF rfl) (by decide) rfl ?_
      · first | exact retB (by grind [goodWorld]) | (have hh : heldGo w.held w.room = false := (by rw [hk2, heldGo_at hk0 (by omega) (by omega)]; grind); exact retB (by grind [goodWorld])) | (have hh := go_at (l := w.tasks) (p := goodTask w.room.length) hj0 (by omega) (by grind [goodTask]); exact retB (by grind [goodWorld])) | (have hh := all_full (l := w.tasks) (by omega) hj2; have h0 : heldGo w.held w.room = true := (by rw [hk2, drop_end h8]; simp [heldGo]); exact retB (by grind [goodWorld]))
    try simp only [HS] at h15
    refine ev ?_
    refine WO_guardY rfl rfl rfl rfl (lt_of rfl) ?_
    refine ev ?_
    refine WO_guardY rfl rfl rfl rfl (lt_of rfl) ?_
    refine ev ?_
    refine WO_guardY rfl rfl rfl rfl (lt_of rfl) ?_
    refine ev ?_
    refine WO_guard rfl rfl rfl rfl (lt_of rfl) (fun h16 => ?_) (fun h16 => ?_)
    rotate_left
    ·
      try simp only [HS] at h16
      iterate 4 (refine WO_guardN rfl rfl rfl rfl rfl (lt_of rfl) ?_)
      refine WO_keep [1, 3, 7, 76, 77, 78, 79, 80, 81, 82, 83, 84, 85, 86, 87, 88, 89, 90, 91, 92, 93, 94, 95, 96, 97, 98, 99, 100, 101, 102, 103, 104, 105, 106, 107, 108, 109, 110, 111, 112, 113, 114, 115, 116, 117, 118, 119, 120, 121, 122, 123, 124, 125, 126, 127, 128, 129, 130, 131, 132] rfl ?_
      refine WO_guardN rfl rfl rfl rfl rfl (lt_of rfl) ?_
      refine WO_guardY rfl rfl rfl rfl (lt_of rfl) ?_
      refine ev ?_
      refine ev ?_
      refine WO_nil ?_
      refine thenQ_n ?_
      refine W_condF rfl ?_
      refine W_skip ?_
      refine inBlk_n ?_
      refine thenQ_n ?_
      refine W_region ?_
      refine evI ?_
      refine ev ?_
      refine WO_nil ?_
      refine loopQ_n _ (by (try dsimp only); repeat (first | exact Sub.nil' | refine Sub.cons' rfl ?_ )) (by (try dsimp only); repeat (first | exact SubM.nil' | refine SubM.cons' rfl ?_ )) ?_ ?_
      · try dsimp only
        exact ⟨by omega, by omega, all_take hj0 (by omega) hj2 (by grind [goodTask])⟩
      · (show Int.toNat _ < Int.toNat _); omega
    try simp only [HS] at h16
    refine ev ?_
    refine WO_guardY rfl rfl rfl rfl (lt_of rfl) ?_
    refine ev ?_
    refine WO_guardY rfl rfl rfl rfl (lt_of rfl) ?_
    refine ev ?_
    refine WO_guardY rfl rfl rfl rfl (lt_of rfl) ?_
    refine ev ?_
    refine WO_keep [1, 3, 7, 76, 77, 78, 79, 80, 81, 82, 83, 84, 85, 86, 87, 88, 89, 90, 91, 92, 93, 94, 95, 96, 97, 98, 99, 100, 101, 102, 103, 104, 105, 106, 107, 108, 109, 110, 111, 112, 113, 114, 115, 116, 117, 118, 119, 120, 121, 122, 123, 124, 125, 126, 127, 128, 129, 130, 131] rfl ?_
    refine WO_guardY rfl rfl rfl rfl (lt_of rfl) ?_
    refine evE ?_
    refine WO_guardY rfl rfl rfl rfl (lt_of rfl) ?_
    refine ev ?_
    refine WO_guardY rfl rfl rfl rfl (lt_of rfl) ?_
    refine ev ?_
    refine ev ?_
    refine WO_nil ?_
    refine thenQ_n ?_
    refine W_cond rfl (fun h17 => ?_) (fun h17 => ?_)
    ·
      try simp only [HS] at h17
      refine W_seq ?_
      refine W_region ?_
      refine ev ?_
      refine WO_nil ?_
      refine thenQ_n ?_
      refine W_ret ?_
      refine inBlk_r ?_
      refine thenQ_r ?_
      refine loopQ_r ?_
      refine inBlk_r ?_
      refine thenQ_r ?_
      refine Ends_of (.inr rfl) (ret_okF rfl) (by decide) rfl ?_
      · first | exact retB (by grind [goodWorld]) | (have hh : heldGo w.held w.room = false := (by rw [hk2, heldGo_at hk0 (by omega) (by omega)]; grind); exact retB (by grind [goodWorld])) | (have hh := go_at (l := w.tasks) (p := goodTask w.room.length) hj0 (by omega) (by grind [goodTask]); exact retB (by grind [goodWorld])) | (have hh := all_full (l := w.tasks) (by omega) hj2; have h0 : heldGo w.held w.room = true := (by rw [hk2, drop_end h8]; simp [heldGo]); exact retB (by grind [goodWorld]))
    try simp only [HS] at h17
    refine W_skip ?_
    refine inBlk_n ?_
    refine thenQ_n ?_
    refine W_region ?_
    refine evI ?_
    refine ev ?_
    refine WO_nil ?_
    refine loopQ_n _ (by (try dsimp only); repeat (first | exact Sub.nil' | refine Sub.cons' rfl ?_ )) (by (try dsimp only); repeat (first | exact SubM.nil' | refine SubM.cons' rfl ?_ )) ?_ ?_
    · try dsimp only
      exact ⟨by omega, by omega, all_take hj0 (by omega) hj2 (by grind [goodTask])⟩
    · (show Int.toNat _ < Int.toNat _); omega
  try simp only [HS] at h9
  refine W_exit ?_
  refine thenQ_e ?_
  refine loopQ_e ?_
  refine inBlk_y ?_
  refine thenQ_n ?_
  refine W_seq ?_
  refine W_region ?_
  refine ev ?_
  refine WO_nil ?_
  refine thenQ_n ?_
  refine W_ret ?_
  refine Ends_of (.inr rfl) (ret_okF rfl) (by decide) rfl ?_
  · first | exact retB (by grind [goodWorld]) | (have hh : heldGo w.held w.room = false := (by rw [hk2, heldGo_at hk0 (by omega) (by omega)]; grind); exact retB (by grind [goodWorld])) | (have hh := go_at (l := w.tasks) (p := goodTask w.room.length) hj0 (by omega) (by grind [goodTask]); exact retB (by grind [goodWorld])) | (have hh := all_full (l := w.tasks) (by omega) hj2; have h0 : heldGo w.held w.room = true := (by rw [hk2, drop_end h8]; simp [heldGo]); exact retB (by grind [goodWorld]))


theorem isTaskNumber_fun (n : Int) : Fun Try.prog 81 [.t (.int n)] (tupD [.t (.bool (inNum n))]) := by
  refine Fun.begin tys Try.func81 rfl rfl (N := 5) [(0, .t (.int n))] rfl rfl (fun w0 G F0 => ?_)
  refine W_seq ?_
  refine W_region ?_
  refine ev ?_
  refine WO_nil ?_
  refine thenQ_n ?_
  refine W_seq ?_
  refine W_region ?_
  refine ev ?_
  refine callB ?_
  refine ⟨_, within_fun _ _ _, rfl, ?_⟩
  refine ev ?_
  refine WO_nil ?_
  refine thenQ_n ?_
  refine W_ret ?_
  refine Ends_of (.inr rfl) (ret_okF rfl) (by decide) rfl ?_
  · rfl

theorem isWorld1_fun (n : Int) : Fun Try.prog 80 [.t (.int n)] (tupD [.t (.bool (!inNum n))]) := by
  refine Fun.begin tys Try.func80 rfl rfl (N := 6) [(0, .t (.int n))] rfl rfl (fun w0 G F0 => ?_)
  refine W_seq ?_
  refine W_region ?_
  refine ev ?_
  refine WO_nil ?_
  refine thenQ_n ?_
  refine W_seq ?_
  refine W_region ?_
  refine ev ?_
  refine callB ?_
  refine ⟨_, isTaskNumber_fun _, rfl, ?_⟩
  refine ev ?_
  refine ev ?_
  refine WO_nil ?_
  refine thenQ_n ?_
  refine W_ret ?_
  refine Ends_of (.inr rfl) (ret_okF rfl) (by decide) rfl ?_
  · rfl

theorem isWorld2_fun (n : Int) : Fun Try.prog 82 [.t (.int n)] (tupD [.t (.bool (!inNum n))]) := by
  refine Fun.begin tys Try.func82 rfl rfl (N := 6) [(0, .t (.int n))] rfl rfl (fun w0 G F0 => ?_)
  refine W_seq ?_
  refine W_region ?_
  refine ev ?_
  refine WO_nil ?_
  refine thenQ_n ?_
  refine W_seq ?_
  refine W_region ?_
  refine ev ?_
  refine callB ?_
  refine ⟨_, isTaskNumber_fun _, rfl, ?_⟩
  refine ev ?_
  refine ev ?_
  refine WO_nil ?_
  refine thenQ_n ?_
  refine W_ret ?_
  refine Ends_of (.inr rfl) (ret_okF rfl) (by decide) rfl ?_
  · rfl

theorem idxAct_fun (l : List Act) (p : Act → Bool) (f : Nat) (caps : List D) (hcaps : caps.all D.imm = true) (hl : l.length ≤ 9223372036854775807) (hf : ∀ x, x ∈ l → Fun Try.prog f (.t x.tt :: caps) (.t (.bool (p x)))) : Fun Try.prog 111 [.t (T.Acts l), .clo f caps] (tupD [.t (.int (idxGo p l 0))]) := by
  refine Fun.begin tys Try.func111 rfl rfl (N := 19) [(0, .t (T.Acts l)), (1, .clo f caps)] rfl rfl (fun w0 G F0 => ?_)
  refine W_seq ?_
  refine W_region ?_
  refine ev ?_
  refine WO_nil ?_
  refine thenQ_n ?_
  iterate 2 (refine W_seq ?_)
  refine W_region ?_
  refine ev ?_
  refine evE ?_
  refine ev ?_
  refine WO_nil ?_
  refine thenQ_n ?_
  refine W_block ?_
  refine W_loopK (α := Int) [0, 1, 7] [] (fun (x : Int) => [(8, .t (.int x))]) (fun (x : Int) => []) (fun (x : Int) => 0 ≤ x ∧ x ≤ l.length ∧ idxGo p l 0 = idxGo p (l.drop x.toNat) x) (fun (x : Int) => Int.toNat (l.length - x)) 0 ?_ ?_ ?_ (fun k hx => ?_)
  · repeat (first | exact Sub.nil' | refine Sub.cons' rfl ?_ )
  · repeat (first | exact SubM.nil' | refine SubM.cons' rfl ?_ )
  · exact ⟨by omega, by omega, rfl⟩
  obtain ⟨hk0, hk1, hk2⟩ := hx
  refine W_norm rfl ?_
  refine W_seq ?_
  refine W_region ?_
  refine ev ?_
  refine WO_nil ?_
  refine thenQ_n ?_
  refine W_seq ?_
  refine W_cond rfl (fun h1 => ?_) (fun h1 => ?_)
  ·
    try simp only [HS] at h1
    refine W_skip ?_
    refine thenQ_n ?_
    refine W_seq ?_
    refine W_block ?_
    refine W_seq ?_
    refine W_region ?_
    refine ev ?_
    refine ev ?_
    refine WO_nil ?_
    refine thenQ_n ?_
    refine W_seq ?_
    refine W_region ?_
    refine WO_moveClo tys rfl rfl (lt_of rfl) rfl rfl (by assumption) ?_
    refine ev ?_
    refine ev ?_
    first | refine WO_idxT tys rfl rfl (lt_of rfl) rfl rfl rfl rfl rfl rfl rfl (by omega) _ (getAct _ (by omega) (by omega)) ?_ | refine WO_idxS tys rfl rfl (lt_of rfl) rfl rfl rfl rfl rfl rfl rfl rfl (by omega) (by omega) ?_
    first | (refine ev ?_; try refine WO_le (Le.freeze (u := 15) rfl) ?_) | refine WO_loadL tys rfl rfl (lt_of rfl) rfl rfl rfl rfl (getT _ _ (by omega) (by omega)) rfl ?_ | refine WO_loadL tys rfl rfl (lt_of rfl) rfl rfl rfl rfl (getT0 _ _ (by omega) (by omega)) rfl ?_
    refine WO_norm rfl ?_
    refine WO_call rfl rfl (lt_of rfl) rfl rfl (by repeat (first | exact ResL.done | exact ResL.imms (by first | rfl | assumption) | refine ResL.t ?_ | refine ResL.own ?_ | refine ResL.slA rfl (by first | rfl | (simp; done) | (simp; omega)) ?_ | refine ResL.sl rfl (by first | omega | (simp; done) | (simp; omega)) ?_ | refine ResL.rp ?_ | refine ResL.clo ?_ ?_ | refine ResL.aggT ?_ ?_ | refine ResL.ref rfl ?_ ?_ | refine ResL.nil' ?_ | refine ResL.nil 1 ?_)) (hf _ (List.getElem_mem _)) rfl ?_
    refine WO_keep [0, 1, 5, 7, 8, 9, 10, 11, 12, 13, 14, 15, 16] rfl ?_
    refine WO_nil ?_
    refine thenQ_n ?_
    refine W_cond rfl (fun h2 => ?_) (fun h2 => ?_)
    ·
      try simp only [HS] at h2
      refine W_seq ?_
      refine W_region ?_
      refine ev ?_
      refine ev ?_
      refine WO_nil ?_
      refine thenQ_n ?_
      refine W_ret ?_
      refine inBlk_r ?_
      refine thenQ_r ?_
      refine loopQ_r ?_
      refine inBlk_r ?_
      refine thenQ_r ?_
      refine Ends_of (.inr rfl) (ret_okF rfl) (by decide) rfl ?_
      · first | (rw [hk2, idx_at hk0 h1]; simp [h2]; done) | (rw [hk2, drop_end h1]; rfl)
    try simp only [HS] at h2
    refine W_skip ?_
    refine inBlk_n ?_
    refine thenQ_n ?_
    refine W_region ?_
    refine evI ?_
    refine ev ?_
    refine WO_nil ?_
    refine loopQ_n _ (by (try dsimp only); repeat (first | exact Sub.nil' | refine Sub.cons' rfl ?_ )) (by (try dsimp only); repeat (first | exact SubM.nil' | refine SubM.cons' rfl ?_ )) ?_ ?_
    · try dsimp only
      refine ⟨by omega, by omega, ?_⟩; rw [hk2, idx_at hk0 h1]; simp [h2]
    · (show Int.toNat _ < Int.toNat _); omega
  try simp only [HS] at h1
  refine W_exit ?_
  refine thenQ_e ?_
  refine loopQ_e ?_
  refine inBlk_y ?_
  refine thenQ_n ?_
  refine W_seq ?_
  refine W_region ?_
  refine ev ?_
  refine WO_nil ?_
  refine thenQ_n ?_
  refine W_ret ?_
  refine Ends_of (.inr rfl) (ret_okF rfl) (by decide) rfl ?_
  · first | (rw [hk2, idx_at hk0 h1]; simp [h2]; done) | (rw [hk2, drop_end h1]; rfl)

theorem hasAct_fun (l : List Act) (p : Act → Bool) (f : Nat) (caps : List D) (hcaps : caps.all D.imm = true) (hl : l.length ≤ 9223372036854775807) (hf : ∀ x, x ∈ l → Fun Try.prog f (.t x.tt :: caps) (.t (.bool (p x)))) : Fun Try.prog 83 [.t (T.Acts l), .clo f caps] (tupD [.t (.bool (l.any p))]) := by
  refine Fun.begin tys Try.func83 rfl rfl (N := 9) [(0, .t (T.Acts l)), (1, .clo f caps)] rfl rfl (fun w0 G F0 => ?_)
  refine W_seq ?_
  refine W_region ?_
  refine ev ?_
  refine WO_nil ?_
  refine thenQ_n ?_
  refine W_seq ?_
  refine W_region ?_
  refine ev ?_
  refine WO_moveClo tys rfl rfl (lt_of rfl) rfl rfl (by assumption) ?_
  refine WO_call rfl rfl (lt_of rfl) rfl rfl (by repeat (first | exact ResL.done | exact ResL.imms (by first | rfl | assumption) | refine ResL.t ?_ | refine ResL.own ?_ | refine ResL.slA rfl (by first | rfl | (simp; done) | (simp; omega)) ?_ | refine ResL.sl rfl (by first | omega | (simp; done) | (simp; omega)) ?_ | refine ResL.rp ?_ | refine ResL.clo ?_ ?_ | refine ResL.aggT ?_ ?_ | refine ResL.ref rfl ?_ ?_ | refine ResL.nil' ?_ | refine ResL.nil 1 ?_)) (idxAct_fun l p f caps hcaps hl hf) rfl ?_
  refine ev ?_
  refine ev ?_
  refine WO_nil ?_
  refine thenQ_n ?_
  refine W_ret ?_
  refine Ends_of (.inr rfl) (ret_okF rfl) (by decide) rfl ?_
  · rw [← idxGo_any (Int.le_refl 0)]

theorem any_nots {α : Type} {p : α → Bool} {l : List α} : (l.any fun b => !p b) = !l.all p := by rw [List.not_all_eq_any_not]
theorem any_num {l : List Int} : (l.any fun n => !inNum n) = !allIn l (-1000) 1000 := any_nots

theorem isAct1_fun (b : Act) (c : Int) (hs : Fun Try.prog 85 [.t b.tt, .t (.int c)] (.t (.bool (goodAct c b)))) : Fun Try.prog 112 [.t b.tt, .rp (.agg [T.int c]) 0] (tupD [.t (.bool (!caseAct c b))]) := by
  refine Fun.begin tys Try.func112 rfl rfl (N := 18) [(0, .t b.tt), (1, .rp (.agg [T.int c]) 0)] rfl rfl (fun w0 G F0 => ?_)
  refine W_seq ?_
  refine W_region ?_
  refine WO_box rfl rfl (lt_of rfl) rfl rfl ?_
  refine WO_norm rfl ?_
  refine ev ?_
  refine WO_nil ?_
  refine thenQ_n ?_
  refine W_seq ?_
  refine W_region ?_
  iterate 4 (refine ev ?_)
  refine WO_guard rfl rfl rfl rfl (lt_of rfl) (fun h1 => ?_) (fun h1 => ?_)
  rotate_left
  ·
    try simp only [HS] at h1
    iterate 2 (refine WO_guardN rfl rfl rfl rfl rfl (lt_of rfl) ?_)
    refine ev ?_
    refine WO_keep [1, 2, 3, 11] rfl ?_
    refine ev ?_
    refine WO_guardY rfl rfl rfl rfl (lt_of rfl) ?_
    first | (refine ev ?_; try refine WO_le (Le.freeze (u := 13) rfl) ?_) | refine WO_loadMove tys rfl rfl (lt_of rfl) rfl rfl rfl rfl rfl rfl ?_
    refine WO_norm rfl ?_
    refine WO_guardY rfl rfl rfl rfl (lt_of rfl) ?_
    first | refine ev ?_ | refine WO_loadL tys rfl rfl (lt_of rfl) rfl rfl rfl rfl (getT _ _ (by omega) (by omega)) rfl ?_ | refine WO_loadL tys rfl rfl (lt_of rfl) rfl rfl rfl rfl (getT0 _ _ (by omega) (by omega)) rfl ?_
    refine WO_guardY rfl rfl rfl rfl (lt_of rfl) ?_
    refine callB ?_
    refine ⟨_, hs, rfl, ?_⟩
    refine WO_guardY rfl rfl rfl rfl (lt_of rfl) ?_
    iterate 3 (refine ev ?_)
    refine WO_nil ?_
    refine thenQ_n ?_
    refine W_ret ?_
    refine Ends_of (.inr rfl) (ret_okF rfl) (by decide) rfl ?_
    · exact retB (by grind [caseAct, goodAct])
  try simp only [HS] at h1
  refine ev ?_
  refine WO_guardY rfl rfl rfl rfl (lt_of rfl) ?_
  refine ev ?_
  refine WO_guardY rfl rfl rfl rfl (lt_of rfl) ?_
  refine ev ?_
  refine WO_keep [1, 2, 3, 7, 10] rfl ?_
  refine ev ?_
  refine ev ?_
  refine WO_guard rfl rfl rfl rfl (lt_of rfl) (fun h2 => ?_) (fun h2 => ?_)
  rotate_left
  ·
    try simp only [HS] at h2
    iterate 3 (refine WO_guardN rfl rfl rfl rfl rfl (lt_of rfl) ?_)
    refine ev ?_
    refine ev ?_
    refine WO_nil ?_
    refine thenQ_n ?_
    refine W_ret ?_
    refine Ends_of (.inr rfl) (ret_okF rfl) (by decide) rfl ?_
    · exact retB (by grind [caseAct, goodAct])
  try simp only [HS] at h2
  first | (refine ev ?_; try refine WO_le (Le.freeze (u := 13) rfl) ?_) | refine WO_loadMove tys rfl rfl (lt_of rfl) rfl rfl rfl rfl rfl rfl ?_
  refine WO_norm rfl ?_
  refine WO_guardY rfl rfl rfl rfl (lt_of rfl) ?_
  first | refine ev ?_ | refine WO_loadL tys rfl rfl (lt_of rfl) rfl rfl rfl rfl (getT _ _ (by omega) (by omega)) rfl ?_ | refine WO_loadL tys rfl rfl (lt_of rfl) rfl rfl rfl rfl (getT0 _ _ (by omega) (by omega)) rfl ?_
  refine WO_guardY rfl rfl rfl rfl (lt_of rfl) ?_
  refine callB ?_
  refine ⟨_, hs, rfl, ?_⟩
  refine WO_guardY rfl rfl rfl rfl (lt_of rfl) ?_
  iterate 3 (refine ev ?_)
  refine WO_nil ?_
  refine thenQ_n ?_
  refine W_ret ?_
  refine Ends_of (.inr rfl) (ret_okF rfl) (by decide) rfl ?_
  · exact retB (by grind [caseAct, goodAct])

theorem isAct_fun0 (a : Act) (c : Int) (ha : a.cases.length ≤ 9223372036854775807) (hc0 : 1 ≤ c) (hc1 : c ≤ 1000) (ih : ∀ b, b ∈ a.cases → Fun Try.prog 85 [.t b.tt, .t (.int c)] (.t (.bool (goodAct c b)))) : Fun Try.prog 85 [.t a.tt, .t (.int c)] (tupD [.t (.bool (goodAct c a))]) := by
  refine Fun.begin tys Try.func85 rfl rfl (N := 81) [(0, .t a.tt), (1, .t (.int c))] rfl rfl (fun w0 G F0 => ?_)
  refine W_seq ?_
  refine W_region ?_
  refine WO_box rfl rfl (lt_of rfl) rfl rfl ?_
  refine WO_norm rfl ?_
  refine WO_box rfl rfl (lt_of rfl) rfl rfl ?_
  refine WO_norm rfl ?_
  refine ev ?_
  refine WO_nil ?_
  refine thenQ_n ?_
  refine W_seq ?_
  refine W_region ?_
  iterate 3 (refine ev ?_)
  refine evI ?_
  refine callB ?_
  refine ⟨_, within_fun _ _ _, rfl, ?_⟩
  refine ev ?_
  refine WO_keep [2, 3, 4, 5] rfl ?_
  refine WO_nil ?_
  refine thenQ_n ?_
  iterate 2 (refine W_seq ?_)
  refine W_region ?_
  refine ev ?_
  refine ev ?_
  refine WO_nil ?_
  refine thenQ_n ?_
  refine W_block ?_
  refine W_seq ?_
  refine W_region ?_
  refine ev ?_
  refine ev ?_
  refine WO_nil ?_
  refine thenQ_n ?_
  refine W_cond rfl (fun h1 => ?_) (fun h1 => ?_)
  ·
    try simp only [HS] at h1
    refine W_seq ?_
    refine W_region ?_
    refine ev ?_
    refine ev ?_
    refine WO_guard rfl rfl rfl rfl (lt_of rfl) (fun h2 => ?_) (fun h2 => ?_)
    rotate_left
    ·
      try simp only [HS] at h2
      iterate 2 (refine WO_guardN rfl rfl rfl rfl rfl (lt_of rfl) ?_)
      refine ev ?_
      refine WO_keep [2, 4, 20] rfl ?_
      refine ev ?_
      iterate 4 (refine WO_guardN rfl rfl rfl rfl rfl (lt_of rfl) ?_)
      refine ev ?_
      refine ev ?_
      refine WO_nil ?_
      refine thenQ_n ?_
      refine W_ret ?_
      refine inBlk_r ?_
      refine thenQ_r ?_
      refine Ends_of (.inr rfl) (ret_okF rfl) (by decide) rfl ?_
      · clear ih; first | exact retB (by grind [goodAct, plainAct]) | (have e := any_nots (p := caseAct c) (l := a.cases); exact retB (by grind [goodAct, plainAct]))
    try simp only [HS] at h2
    refine ev ?_
    refine WO_guardY rfl rfl rfl rfl (lt_of rfl) ?_
    refine ev ?_
    refine WO_guardY rfl rfl rfl rfl (lt_of rfl) ?_
    refine callB ?_
    refine ⟨_, isTaskNumber_fun _, rfl, ?_⟩
    refine WO_keep [2, 4, 16, 19] rfl ?_
    refine ev ?_
    refine ev ?_
    refine WO_guard rfl rfl rfl rfl (lt_of rfl) (fun h3 => ?_) (fun h3 => ?_)
    rotate_left
    ·
      try simp only [HS] at h3
      iterate 3 (refine WO_guardN rfl rfl rfl rfl rfl (lt_of rfl) ?_)
      refine ev ?_
      refine ev ?_
      refine WO_nil ?_
      refine thenQ_n ?_
      refine W_ret ?_
      refine inBlk_r ?_
      refine thenQ_r ?_
      refine Ends_of (.inr rfl) (ret_okF rfl) (by decide) rfl ?_
      · clear ih; first | exact retB (by grind [goodAct, plainAct]) | (have e := any_nots (p := caseAct c) (l := a.cases); exact retB (by grind [goodAct, plainAct]))
    try simp only [HS] at h3
    refine ev ?_
    refine WO_guardY rfl rfl rfl rfl (lt_of rfl) ?_
    refine ev ?_
    refine WO_guardY rfl rfl rfl rfl (lt_of rfl) ?_
    refine evE ?_
    refine WO_guardY rfl rfl rfl rfl (lt_of rfl) ?_
    iterate 3 (refine ev ?_)
    refine WO_nil ?_
    refine thenQ_n ?_
    refine W_ret ?_
    refine inBlk_r ?_
    refine thenQ_r ?_
    refine Ends_of (.inr rfl) (ret_okF rfl) (by decide) rfl ?_
    · clear ih; first | exact retB (by grind [goodAct, plainAct]) | (have e := any_nots (p := caseAct c) (l := a.cases); exact retB (by grind [goodAct, plainAct]))
  try simp only [HS] at h1
  iterate 2 (refine W_seq ?_)
  refine W_region ?_
  refine ev ?_
  refine ev ?_
  refine WO_nil ?_
  refine thenQ_n ?_
  refine W_cond rfl (fun h2 => ?_) (fun h2 => ?_)
  ·
    try simp only [HS] at h2
    refine W_skip ?_
    refine thenQ_n ?_
    refine W_cond rfl (fun h3 => ?_) (fun h3 => ?_)
    ·
      try simp only [HS] at h3
      refine W_seq ?_
      refine W_region ?_
      refine ev ?_
      refine ev ?_
      refine WO_guard rfl rfl rfl rfl (lt_of rfl) (fun h4 => ?_) (fun h4 => ?_)
      rotate_left
      ·
        try simp only [HS] at h4
        refine WO_guardN rfl rfl rfl rfl rfl (lt_of rfl) ?_
        refine WO_keep [2, 4, 31, 33] rfl ?_
        refine WO_guardN rfl rfl rfl rfl rfl (lt_of rfl) ?_
        refine ev ?_
        refine ev ?_
        iterate 4 (refine WO_guardN rfl rfl rfl rfl rfl (lt_of rfl) ?_)
        refine ev ?_
        refine ev ?_
        refine WO_keep [4] rfl ?_
        refine WO_nil ?_
        refine thenQ_n ?_
        refine W_ret ?_
        refine inBlk_r ?_
        refine thenQ_r ?_
        refine Ends_of (.inr rfl) (ret_okF rfl) (by decide) rfl ?_
        · clear ih; first | exact retB (by grind [goodAct, plainAct]) | (have e := any_nots (p := caseAct c) (l := a.cases); exact retB (by grind [goodAct, plainAct]))
      try simp only [HS] at h4
      refine ev ?_
      refine WO_guardY rfl rfl rfl rfl (lt_of rfl) ?_
      refine ev ?_
      refine WO_keep [2, 4, 31, 33] rfl ?_
      refine WO_guardY rfl rfl rfl rfl (lt_of rfl) ?_
      iterate 3 (refine ev ?_)
      refine WO_guard rfl rfl rfl rfl (lt_of rfl) (fun h5 => ?_) (fun h5 => ?_)
      rotate_left
      ·
        try simp only [HS] at h5
        iterate 3 (refine WO_guardN rfl rfl rfl rfl rfl (lt_of rfl) ?_)
        refine ev ?_
        refine ev ?_
        refine WO_nil ?_
        refine thenQ_n ?_
        refine W_ret ?_
        refine inBlk_r ?_
        refine thenQ_r ?_
        refine Ends_of (.inr rfl) (ret_okF rfl) (by decide) rfl ?_
        · clear ih; first | exact retB (by grind [goodAct, plainAct]) | (have e := any_nots (p := caseAct c) (l := a.cases); exact retB (by grind [goodAct, plainAct]))
      try simp only [HS] at h5
      refine ev ?_
      refine WO_guardY rfl rfl rfl rfl (lt_of rfl) ?_
      refine ev ?_
      refine WO_guardY rfl rfl rfl rfl (lt_of rfl) ?_
      refine evE ?_
      refine WO_guardY rfl rfl rfl rfl (lt_of rfl) ?_
      iterate 3 (refine ev ?_)
      refine WO_keep [4] rfl ?_
      refine WO_nil ?_
      refine thenQ_n ?_
      refine W_ret ?_
      refine inBlk_r ?_
      refine thenQ_r ?_
      refine Ends_of (.inr rfl) (ret_okF rfl) (by decide) rfl ?_
      · clear ih; first | exact retB (by grind [goodAct, plainAct]) | (have e := any_nots (p := caseAct c) (l := a.cases); exact retB (by grind [goodAct, plainAct]))
    try simp only [HS] at h3
    refine W_seq ?_
    refine W_region ?_
    refine ev ?_
    refine ev ?_
    refine WO_nil ?_
    refine thenQ_n ?_
    refine W_cond rfl (fun h4 => ?_) (fun h4 => ?_)
    ·
      try simp only [HS] at h4
      refine W_seq ?_
      refine W_keep [2, 4] rfl ?_
      refine W_region ?_
      iterate 4 (refine ev ?_)
      refine WO_guard rfl rfl rfl rfl (lt_of rfl) (fun h5 => ?_) (fun h5 => ?_)
      rotate_left
      ·
        try simp only [HS] at h5
        iterate 2 (refine WO_guardN rfl rfl rfl rfl rfl (lt_of rfl) ?_)
        refine ev ?_
        refine ev ?_
        refine WO_guardN rfl rfl rfl rfl rfl (lt_of rfl) ?_
        refine WO_keep [4, 52, 53] rfl ?_
        iterate 3 (refine WO_guardN rfl rfl rfl rfl rfl (lt_of rfl) ?_)
        refine ev ?_
        refine ev ?_
        refine WO_nil ?_
        refine thenQ_n ?_
        refine W_ret ?_
        refine inBlk_r ?_
        refine thenQ_r ?_
        refine Ends_of (.inr rfl) (ret_okF rfl) (by decide) rfl ?_
        · clear ih; first | exact retB (by grind [goodAct, plainAct]) | (have e := any_nots (p := caseAct c) (l := a.cases); exact retB (by grind [goodAct, plainAct]))
      try simp only [HS] at h5
      refine ev ?_
      refine WO_guardY rfl rfl rfl rfl (lt_of rfl) ?_
      refine ev ?_
      refine WO_guardY rfl rfl rfl rfl (lt_of rfl) ?_
      iterate 3 (refine ev ?_)
      refine WO_keep [2, 4, 52] rfl ?_
      refine WO_guard rfl rfl rfl rfl (lt_of rfl) (fun h6 => ?_) (fun h6 => ?_)
      rotate_left
      ·
        try simp only [HS] at h6
        iterate 3 (refine WO_guardN rfl rfl rfl rfl rfl (lt_of rfl) ?_)
        refine ev ?_
        refine ev ?_
        refine WO_nil ?_
        refine thenQ_n ?_
        refine W_ret ?_
        refine inBlk_r ?_
        refine thenQ_r ?_
        refine Ends_of (.inr rfl) (ret_okF rfl) (by decide) rfl ?_
        · clear ih; first | exact retB (by grind [goodAct, plainAct]) | (have e := any_nots (p := caseAct c) (l := a.cases); exact retB (by grind [goodAct, plainAct]))
      try simp only [HS] at h6
      refine ev ?_
      refine WO_guardY rfl rfl rfl rfl (lt_of rfl) ?_
      refine ev ?_
      refine WO_guardY rfl rfl rfl rfl (lt_of rfl) ?_
      refine evE ?_
      refine WO_guardY rfl rfl rfl rfl (lt_of rfl) ?_
      iterate 3 (refine ev ?_)
      refine WO_nil ?_
      refine thenQ_n ?_
      refine W_ret ?_
      refine inBlk_r ?_
      refine thenQ_r ?_
      refine Ends_of (.inr rfl) (ret_okF rfl) (by decide) rfl ?_
      · clear ih; first | exact retB (by grind [goodAct, plainAct]) | (have e := any_nots (p := caseAct c) (l := a.cases); exact retB (by grind [goodAct, plainAct]))
    try simp only [HS] at h4
    refine W_seq ?_
    refine W_keep [2, 3, 4, 12] rfl ?_
    refine W_region ?_
    refine ev ?_
    refine ev ?_
    refine WO_nil ?_
    refine thenQ_n ?_
    refine W_cond rfl (fun h5 => ?_) (fun h5 => ?_)
    ·
      try simp only [HS] at h5
      refine W_seq ?_
      refine W_region ?_
      iterate 4 (refine ev ?_)
      refine WO_guard rfl rfl rfl rfl (lt_of rfl) (fun h6 => ?_) (fun h6 => ?_)
      rotate_left
      ·
        try simp only [HS] at h6
        iterate 2 (refine WO_guardN rfl rfl rfl rfl rfl (lt_of rfl) ?_)
        refine ev ?_
        refine WO_keep [2, 3, 4, 67] rfl ?_
        refine ev ?_
        iterate 4 (refine WO_guardN rfl rfl rfl rfl rfl (lt_of rfl) ?_)
        refine ev ?_
        refine ev ?_
        iterate 2 (refine WO_guardN rfl rfl rfl rfl rfl (lt_of rfl) ?_)
        refine WO_keep [3, 4, 74, 76] rfl ?_
        iterate 3 (refine WO_guardN rfl rfl rfl rfl rfl (lt_of rfl) ?_)
        refine ev ?_
        refine ev ?_
        refine WO_nil ?_
        refine thenQ_n ?_
        refine W_ret ?_
        refine inBlk_r ?_
        refine thenQ_r ?_
        refine Ends_of (.inr rfl) (ret_okF rfl) (by decide) rfl ?_
        · clear ih; first | exact retB (by grind [goodAct, plainAct]) | (have e := any_nots (p := caseAct c) (l := a.cases); exact retB (by grind [goodAct, plainAct]))
      try simp only [HS] at h6
      refine ev ?_
      refine WO_guardY rfl rfl rfl rfl (lt_of rfl) ?_
      refine ev ?_
      refine WO_guardY rfl rfl rfl rfl (lt_of rfl) ?_
      refine ev ?_
      refine WO_keep [2, 3, 4, 63, 66] rfl ?_
      refine ev ?_
      refine ev ?_
      refine WO_guard rfl rfl rfl rfl (lt_of rfl) (fun h7 => ?_) (fun h7 => ?_)
      rotate_left
      ·
        try simp only [HS] at h7
        iterate 3 (refine WO_guardN rfl rfl rfl rfl rfl (lt_of rfl) ?_)
        refine ev ?_
        refine ev ?_
        iterate 2 (refine WO_guardN rfl rfl rfl rfl rfl (lt_of rfl) ?_)
        refine WO_keep [3, 4, 74, 76] rfl ?_
        iterate 3 (refine WO_guardN rfl rfl rfl rfl rfl (lt_of rfl) ?_)
        refine ev ?_
        refine ev ?_
        refine WO_nil ?_
        refine thenQ_n ?_
        refine W_ret ?_
        refine inBlk_r ?_
        refine thenQ_r ?_
        refine Ends_of (.inr rfl) (ret_okF rfl) (by decide) rfl ?_
        · clear ih; first | exact retB (by grind [goodAct, plainAct]) | (have e := any_nots (p := caseAct c) (l := a.cases); exact retB (by grind [goodAct, plainAct]))
      try simp only [HS] at h7
      refine ev ?_
      refine WO_guardY rfl rfl rfl rfl (lt_of rfl) ?_
      refine ev ?_
      refine WO_guardY rfl rfl rfl rfl (lt_of rfl) ?_
      refine evE ?_
      refine WO_guardY rfl rfl rfl rfl (lt_of rfl) ?_
      refine callB ?_
      refine ⟨_, within_fun _ _ _, rfl, ?_⟩
      refine ev ?_
      refine ev ?_
      refine WO_guard rfl rfl rfl rfl (lt_of rfl) (fun h8 => ?_) (fun h8 => ?_)
      rotate_left
      ·
        try simp only [HS] at h8
        refine WO_guardN rfl rfl rfl rfl rfl (lt_of rfl) ?_
        refine WO_keep [3, 4, 74, 76] rfl ?_
        iterate 3 (refine WO_guardN rfl rfl rfl rfl rfl (lt_of rfl) ?_)
        refine ev ?_
        refine ev ?_
        refine WO_nil ?_
        refine thenQ_n ?_
        refine W_ret ?_
        refine inBlk_r ?_
        refine thenQ_r ?_
        refine Ends_of (.inr rfl) (ret_okF rfl) (by decide) rfl ?_
        · clear ih; first | exact retB (by grind [goodAct, plainAct]) | (have e := any_nots (p := caseAct c) (l := a.cases); exact retB (by grind [goodAct, plainAct]))
      try simp only [HS] at h8
      refine ev ?_
      refine WO_guardY rfl rfl rfl rfl (lt_of rfl) ?_
      refine ev ?_
      refine WO_keep [3, 4, 74, 76] rfl ?_
      refine WO_guardY rfl rfl rfl rfl (lt_of rfl) ?_
      refine ev ?_
      refine WO_guardY rfl rfl rfl rfl (lt_of rfl) ?_
      refine callB ?_
      refine ⟨_, hasAct_fun a.cases (fun b => !caseAct c b) _ [.rp (.agg [T.int c]) 0] rfl ha (fun b hb => isAct1_fun b c (ih b hb)), rfl, ?_⟩
      refine WO_guardY rfl rfl rfl rfl (lt_of rfl) ?_
      iterate 3 (refine ev ?_)
      refine WO_nil ?_
      refine thenQ_n ?_
      refine W_ret ?_
      refine inBlk_r ?_
      refine thenQ_r ?_
      refine Ends_of (.inr rfl) (ret_okF rfl) (by decide) rfl ?_
      · clear ih; first | exact retB (by grind [goodAct, plainAct]) | (have e := any_nots (p := caseAct c) (l := a.cases); exact retB (by grind [goodAct, plainAct]))
    try simp only [HS] at h5
    refine W_skip ?_
    refine inBlk_n ?_
    refine thenQ_n ?_
    refine W_seq ?_
    refine W_region ?_
    refine ev ?_
    refine WO_nil ?_
    refine thenQ_n ?_
    refine W_ret ?_
    refine Ends_of (.inr rfl) (ret_okF rfl) (by decide) rfl ?_
    · clear ih; first | exact retB (by grind [goodAct, plainAct]) | (have e := any_nots (p := caseAct c) (l := a.cases); exact retB (by grind [goodAct, plainAct]))
  try simp only [HS] at h2
  refine W_region ?_
  refine ev ?_
  refine ev ?_
  refine WO_nil ?_
  refine thenQ_n ?_
  refine W_cond rfl (fun h3 => ?_) (fun h3 => ?_)
  ·
    try simp only [HS] at h3
    refine W_seq ?_
    refine W_keep [2, 4, 5] rfl ?_
    refine W_region ?_
    refine ev ?_
    refine ev ?_
    refine WO_guard rfl rfl rfl rfl (lt_of rfl) (fun h4 => ?_) (fun h4 => ?_)
    rotate_left
    ·
      try simp only [HS] at h4
      iterate 2 (refine WO_guardN rfl rfl rfl rfl rfl (lt_of rfl) ?_)
      refine ev ?_
      refine ev ?_
      iterate 3 (refine WO_guardN rfl rfl rfl rfl rfl (lt_of rfl) ?_)
      refine WO_keep [4, 36, 39] rfl ?_
      refine WO_guardN rfl rfl rfl rfl rfl (lt_of rfl) ?_
      refine ev ?_
      refine ev ?_
      refine WO_nil ?_
      refine thenQ_n ?_
      refine W_ret ?_
      refine inBlk_r ?_
      refine thenQ_r ?_
      refine Ends_of (.inr rfl) (ret_okF rfl) (by decide) rfl ?_
      · clear ih; first | exact retB (by grind [goodAct, plainAct]) | (have e := any_nots (p := caseAct c) (l := a.cases); exact retB (by grind [goodAct, plainAct]))
    try simp only [HS] at h4
    refine ev ?_
    refine WO_guardY rfl rfl rfl rfl (lt_of rfl) ?_
    refine ev ?_
    refine WO_guardY rfl rfl rfl rfl (lt_of rfl) ?_
    iterate 3 (refine ev ?_)
    refine WO_guard rfl rfl rfl rfl (lt_of rfl) (fun h5 => ?_) (fun h5 => ?_)
    rotate_left
    ·
      try simp only [HS] at h5
      iterate 2 (refine WO_guardN rfl rfl rfl rfl rfl (lt_of rfl) ?_)
      refine WO_keep [4, 36, 39] rfl ?_
      refine WO_guardN rfl rfl rfl rfl rfl (lt_of rfl) ?_
      refine ev ?_
      refine ev ?_
      refine WO_nil ?_
      refine thenQ_n ?_
      refine W_ret ?_
      refine inBlk_r ?_
      refine thenQ_r ?_
      refine Ends_of (.inr rfl) (ret_okF rfl) (by decide) rfl ?_
      · clear ih; first | exact retB (by grind [goodAct, plainAct]) | (have e := any_nots (p := caseAct c) (l := a.cases); exact retB (by grind [goodAct, plainAct]))
    try simp only [HS] at h5
    refine ev ?_
    refine WO_guardY rfl rfl rfl rfl (lt_of rfl) ?_
    refine ev ?_
    refine WO_keep [4, 36, 38] rfl ?_
    refine WO_guardY rfl rfl rfl rfl (lt_of rfl) ?_
    refine evE ?_
    refine WO_guardY rfl rfl rfl rfl (lt_of rfl) ?_
    iterate 3 (refine ev ?_)
    refine WO_nil ?_
    refine thenQ_n ?_
    refine W_ret ?_
    refine inBlk_r ?_
    refine thenQ_r ?_
    refine Ends_of (.inr rfl) (ret_okF rfl) (by decide) rfl ?_
    · clear ih; first | exact retB (by grind [goodAct, plainAct]) | (have e := any_nots (p := caseAct c) (l := a.cases); exact retB (by grind [goodAct, plainAct]))
  try simp only [HS] at h3
  refine W_seq ?_
  refine W_keep [2, 3, 4, 12] rfl ?_
  refine W_region ?_
  refine ev ?_
  refine ev ?_
  refine WO_nil ?_
  refine thenQ_n ?_
  refine W_cond rfl (fun h4 => ?_) (fun h4 => ?_)
  ·
    try simp only [HS] at h4
    refine W_seq ?_
    refine W_region ?_
    iterate 4 (refine ev ?_)
    refine WO_guard rfl rfl rfl rfl (lt_of rfl) (fun h5 => ?_) (fun h5 => ?_)
    rotate_left
    ·
      try simp only [HS] at h5
      iterate 2 (refine WO_guardN rfl rfl rfl rfl rfl (lt_of rfl) ?_)
      refine ev ?_
      refine WO_keep [2, 4, 51] rfl ?_
      refine ev ?_
      iterate 4 (refine WO_guardN rfl rfl rfl rfl rfl (lt_of rfl) ?_)
      refine ev ?_
      refine ev ?_
      refine WO_nil ?_
      refine thenQ_n ?_
      refine W_ret ?_
      refine inBlk_r ?_
      refine thenQ_r ?_
      refine Ends_of (.inr rfl) (ret_okF rfl) (by decide) rfl ?_
      · clear ih; first | exact retB (by grind [goodAct, plainAct]) | (have e := any_nots (p := caseAct c) (l := a.cases); exact retB (by grind [goodAct, plainAct]))
    try simp only [HS] at h5
    refine ev ?_
    refine WO_guardY rfl rfl rfl rfl (lt_of rfl) ?_
    refine ev ?_
    refine WO_guardY rfl rfl rfl rfl (lt_of rfl) ?_
    refine ev ?_
    refine WO_keep [2, 4, 47, 50] rfl ?_
    refine ev ?_
    refine ev ?_
    refine WO_guard rfl rfl rfl rfl (lt_of rfl) (fun h6 => ?_) (fun h6 => ?_)
    rotate_left
    ·
      try simp only [HS] at h6
      iterate 3 (refine WO_guardN rfl rfl rfl rfl rfl (lt_of rfl) ?_)
      refine ev ?_
      refine ev ?_
      refine WO_nil ?_
      refine thenQ_n ?_
      refine W_ret ?_
      refine inBlk_r ?_
      refine thenQ_r ?_
      refine Ends_of (.inr rfl) (ret_okF rfl) (by decide) rfl ?_
      · clear ih; first | exact retB (by grind [goodAct, plainAct]) | (have e := any_nots (p := caseAct c) (l := a.cases); exact retB (by grind [goodAct, plainAct]))
    try simp only [HS] at h6
    refine ev ?_
    refine WO_guardY rfl rfl rfl rfl (lt_of rfl) ?_
    refine ev ?_
    refine WO_guardY rfl rfl rfl rfl (lt_of rfl) ?_
    refine evE ?_
    refine WO_guardY rfl rfl rfl rfl (lt_of rfl) ?_
    iterate 3 (refine ev ?_)
    refine WO_nil ?_
    refine thenQ_n ?_
    refine W_ret ?_
    refine inBlk_r ?_
    refine thenQ_r ?_
    refine Ends_of (.inr rfl) (ret_okF rfl) (by decide) rfl ?_
    · clear ih; first | exact retB (by grind [goodAct, plainAct]) | (have e := any_nots (p := caseAct c) (l := a.cases); exact retB (by grind [goodAct, plainAct]))
  try simp only [HS] at h4
  refine W_seq ?_
  refine W_region ?_
  refine ev ?_
  refine ev ?_
  refine WO_nil ?_
  refine thenQ_n ?_
  refine W_cond rfl (fun h5 => ?_) (fun h5 => ?_)
  ·
    try simp only [HS] at h5
    refine W_seq ?_
    refine W_region ?_
    iterate 4 (refine ev ?_)
    refine WO_guard rfl rfl rfl rfl (lt_of rfl) (fun h6 => ?_) (fun h6 => ?_)
    rotate_left
    ·
      try simp only [HS] at h6
      refine WO_guardN rfl rfl rfl rfl rfl (lt_of rfl) ?_
      refine WO_keep [2, 3, 4, 63, 65] rfl ?_
      refine WO_guardN rfl rfl rfl rfl rfl (lt_of rfl) ?_
      refine ev ?_
      refine ev ?_
      iterate 4 (refine WO_guardN rfl rfl rfl rfl rfl (lt_of rfl) ?_)
      refine ev ?_
      refine ev ?_
      refine WO_keep [2, 3, 4, 74] rfl ?_
      iterate 5 (refine WO_guardN rfl rfl rfl rfl rfl (lt_of rfl) ?_)
      refine ev ?_
      refine ev ?_
      refine WO_nil ?_
      refine thenQ_n ?_
      refine W_ret ?_
      refine inBlk_r ?_
      refine thenQ_r ?_
      refine Ends_of (.inr rfl) (ret_okF rfl) (by decide) rfl ?_
      · clear ih; first | exact retB (by grind [goodAct, plainAct]) | (have e := any_nots (p := caseAct c) (l := a.cases); exact retB (by grind [goodAct, plainAct]))
    try simp only [HS] at h6
    refine ev ?_
    refine WO_guardY rfl rfl rfl rfl (lt_of rfl) ?_
    refine ev ?_
    refine WO_keep [2, 3, 4, 63, 65] rfl ?_
    refine WO_guardY rfl rfl rfl rfl (lt_of rfl) ?_
    iterate 3 (refine ev ?_)
    refine WO_guard rfl rfl rfl rfl (lt_of rfl) (fun h7 => ?_) (fun h7 => ?_)
    rotate_left
    ·
      try simp only [HS] at h7
      iterate 3 (refine WO_guardN rfl rfl rfl rfl rfl (lt_of rfl) ?_)
      refine ev ?_
      refine ev ?_
      refine WO_guardN rfl rfl rfl rfl rfl (lt_of rfl) ?_
      refine WO_keep [3, 4, 74, 75] rfl ?_
      iterate 4 (refine WO_guardN rfl rfl rfl rfl rfl (lt_of rfl) ?_)
      refine ev ?_
      refine ev ?_
      refine WO_nil ?_
      refine thenQ_n ?_
      refine W_ret ?_
      refine inBlk_r ?_
      refine thenQ_r ?_
      refine Ends_of (.inr rfl) (ret_okF rfl) (by decide) rfl ?_
      · clear ih; first | exact retB (by grind [goodAct, plainAct]) | (have e := any_nots (p := caseAct c) (l := a.cases); exact retB (by grind [goodAct, plainAct]))
    try simp only [HS] at h7
    refine ev ?_
    refine WO_guardY rfl rfl rfl rfl (lt_of rfl) ?_
    refine ev ?_
    refine WO_guardY rfl rfl rfl rfl (lt_of rfl) ?_
    refine evE ?_
    refine WO_guardY rfl rfl rfl rfl (lt_of rfl) ?_
    refine callB ?_
    refine ⟨_, within_fun _ _ _, rfl, ?_⟩
    refine ev ?_
    refine ev ?_
    refine WO_keep [2, 3, 4, 74] rfl ?_
    refine WO_guard rfl rfl rfl rfl (lt_of rfl) (fun h8 => ?_) (fun h8 => ?_)
    rotate_left
    ·
      try simp only [HS] at h8
      iterate 4 (refine WO_guardN rfl rfl rfl rfl rfl (lt_of rfl) ?_)
      refine ev ?_
      refine ev ?_
      refine WO_nil ?_
      refine thenQ_n ?_
      refine W_ret ?_
      refine inBlk_r ?_
      refine thenQ_r ?_
      refine Ends_of (.inr rfl) (ret_okF rfl) (by decide) rfl ?_
      · clear ih; first | exact retB (by grind [goodAct, plainAct]) | (have e := any_nots (p := caseAct c) (l := a.cases); exact retB (by grind [goodAct, plainAct]))
    try simp only [HS] at h8
    refine ev ?_
    refine WO_guardY rfl rfl rfl rfl (lt_of rfl) ?_
    refine ev ?_
    refine WO_guardY rfl rfl rfl rfl (lt_of rfl) ?_
    refine ev ?_
    refine WO_guardY rfl rfl rfl rfl (lt_of rfl) ?_
    refine callB ?_
    refine ⟨_, hasAct_fun a.cases (fun b => !caseAct c b) _ [.rp (.agg [T.int c]) 0] rfl ha (fun b hb => isAct1_fun b c (ih b hb)), rfl, ?_⟩
    refine WO_guardY rfl rfl rfl rfl (lt_of rfl) ?_
    iterate 3 (refine ev ?_)
    refine WO_nil ?_
    refine thenQ_n ?_
    refine W_ret ?_
    refine inBlk_r ?_
    refine thenQ_r ?_
    refine Ends_of (.inr rfl) (ret_okF rfl) (by decide) rfl ?_
    · clear ih; first | exact retB (by grind [goodAct, plainAct]) | (have e := any_nots (p := caseAct c) (l := a.cases); exact retB (by grind [goodAct, plainAct]))
  try simp only [HS] at h5
  refine W_skip ?_
  refine inBlk_n ?_
  refine thenQ_n ?_
  refine W_seq ?_
  refine W_region ?_
  refine ev ?_
  refine WO_nil ?_
  refine thenQ_n ?_
  refine W_ret ?_
  refine Ends_of (.inr rfl) (ret_okF rfl) (by decide) rfl ?_
  · clear ih; first | exact retB (by grind [goodAct, plainAct]) | (have e := any_nots (p := caseAct c) (l := a.cases); exact retB (by grind [goodAct, plainAct]))
theorem isAct_fun (a : Act) (c : Int) (ha : a.ok 9223372036854775807) (hc0 : 1 ≤ c) (hc1 : c ≤ 1000) : Fun Try.prog 85 [.t a.tt, .t (.int c)] (.t (.bool (goodAct c a))) :=
  Act.ind (p := fun a => a.ok 9223372036854775807 → Fun Try.prog 85 [.t a.tt, .t (.int c)] (.t (.bool (goodAct c a)))) (fun a ih ha => isAct_fun0 a c ha.cases'.1 hc0 hc1 fun b hb => ih b hb (ha.cases'.2 b hb)) a ha


theorem isWorld3_fun (a : Act) (c : Int) (ha : a.ok 9223372036854775807) (hc0 : 1 ≤ c) (hc1 : c ≤ 1000) : Fun Try.prog 84 [.t a.tt, .rp (.agg [T.int c]) 0] (tupD [.t (.bool (!goodAct c a))]) := by
  refine Fun.begin tys Try.func84 rfl rfl (N := 8) [(0, .t a.tt), (1, .rp (.agg [T.int c]) 0)] rfl rfl (fun w0 G F0 => ?_)
  refine W_seq ?_
  refine W_region ?_
  refine WO_box rfl rfl (lt_of rfl) rfl rfl ?_
  refine WO_norm rfl ?_
  refine ev ?_
  refine WO_nil ?_
  refine thenQ_n ?_
  refine W_seq ?_
  refine W_region ?_
  first | (refine ev ?_; try refine WO_le (Le.freeze (u := 4) rfl) ?_) | refine WO_loadMove tys rfl rfl (lt_of rfl) rfl rfl rfl rfl rfl rfl ?_
  refine WO_norm rfl ?_
  first | refine ev ?_ | refine WO_loadL tys rfl rfl (lt_of rfl) rfl rfl rfl rfl (getT _ _ (by omega) (by omega)) rfl ?_ | refine WO_loadL tys rfl rfl (lt_of rfl) rfl rfl rfl rfl (getT0 _ _ (by omega) (by omega)) rfl ?_
  refine callB ?_
  refine ⟨_, isAct_fun _ _ ha hc0 hc1, rfl, ?_⟩
  refine ev ?_
  refine ev ?_
  refine WO_nil ?_
  refine thenQ_n ?_
  refine W_ret ?_
  refine Ends_of (.inr rfl) (ret_okF rfl) (by decide) rfl ?_
  · rfl

theorem isWorld_fun (w : World) (hw : w.ok 1048576) (hw' : w.ok 9223372036854775807) : Fun Try.prog 44 [.t w.tt] (tupD [.t (.bool (goodWorld w))]) := by
  have hw1 : w.room.length ≤ 1048576 := hw.1
  have hw2 : w.held.length ≤ 1048576 := hw.2.1.1
  have hw3 : w.shut.length ≤ 1048576 := hw.2.2.1
  have hw4 : w.tasks.length ≤ 1048576 := hw.2.2.2.1.1
  have hw5 : w.trace.length ≤ 1048576 := hw.2.2.2.2.1
  refine Fun.begin tys Try.func44 rfl rfl (N := 127) [(0, .t w.tt)] rfl rfl (fun w0 G F0 => ?_)
  refine W_seq ?_
  refine W_region ?_
  refine WO_box rfl rfl (lt_of rfl) rfl rfl ?_
  refine WO_norm rfl ?_
  refine ev ?_
  refine WO_nil ?_
  refine thenQ_n ?_
  refine W_seq ?_
  refine W_region ?_
  refine ev ?_
  refine ev ?_
  refine evE ?_
  refine WO_alloc tys rfl rfl (lt_of rfl) rfl rfl rfl ?_
  refine WO_norm rfl ?_
  refine WO_store tys rfl rfl rfl rfl rfl rfl rfl rfl (lt_of rfl) ?_
  refine WO_norm rfl ?_
  refine WO_nil ?_
  refine thenQ_n ?_
  iterate 2 (refine W_seq ?_)
  refine W_keep [1, 2, 3] rfl ?_
  refine W_region ?_
  refine ev ?_
  refine callB ?_
  refine ⟨_, within_fun _ _ _, rfl, ?_⟩
  refine ev ?_
  refine ev ?_
  refine WO_guard rfl rfl rfl rfl (lt_of rfl) (fun h1 => ?_) (fun h1 => ?_)
  rotate_left
  ·
    try simp only [HS] at h1
    iterate 4 (refine WO_guardN rfl rfl rfl rfl rfl (lt_of rfl) ?_)
    refine ev ?_
    refine WO_keep [1, 2, 3, 20] rfl ?_
    refine ev ?_
    iterate 5 (refine WO_guardN rfl rfl rfl rfl rfl (lt_of rfl) ?_)
    refine ev ?_
    refine ev ?_
    refine WO_guardN rfl rfl rfl rfl rfl (lt_of rfl) ?_
    refine WO_keep [1, 2, 3, 28, 29] rfl ?_
    iterate 4 (refine WO_guardN rfl rfl rfl rfl rfl (lt_of rfl) ?_)
    refine ev ?_
    refine ev ?_
    iterate 3 (refine WO_guardN rfl rfl rfl rfl rfl (lt_of rfl) ?_)
    refine WO_keep [1, 2, 3, 35, 38] rfl ?_
    refine WO_guardN rfl rfl rfl rfl rfl (lt_of rfl) ?_
    refine ev ?_
    refine ev ?_
    iterate 3 (refine WO_guardN rfl rfl rfl rfl rfl (lt_of rfl) ?_)
    refine ev ?_
    refine WO_nil ?_
    refine thenQ_n ?_
    refine W_condT rfl ?_
    refine W_seq ?_
    refine W_keep [1, 2, 3] rfl ?_
    refine W_region ?_
    refine ev ?_
    refine WO_nil ?_
    refine thenQ_n ?_
    refine W_ret ?_
    refine thenQ_r ?_
    refine Ends_of (.inr rfl) (ret_okF rfl) (by decide) rfl ?_
    · have e0 := any_num (l := w.trace)
      first
      | exact retB (by grind [goodWorld])
      | (have hh : heldGo w.held w.room = false := (by have e := any_num (l := w.held[k.toNat]'(by omega)); rw [hk2, heldGo_at hk0 (by omega) (by omega)]; grind); exact retB (by grind [goodWorld]))
      | (have hh := allIn_no (l := w.room) (lo := 0) (hi := 3) hk0 (by omega) (by assumption); exact retB (by grind [goodWorld]))
      | (have e := any_nots (p := goodAct w.room.length) (l := (w.tasks[k'.toNat]'(by omega)).acts); have hh := go_at (l := w.tasks) (p := goodTask w.room.length) hj0 (by omega) (by grind [goodTask, goodActs]); exact retB (by grind [goodWorld]))
      | (have hh := all_full (l := w.tasks) (by omega) hj2; have h4 := allIn_yes hk4 hk0 (by omega); have h0 : heldGo w.held w.room = true := (by rw [hk2, drop_end (by omega)]; simp [heldGo]); exact retB (by grind [goodWorld]))
  try simp only [HS] at h1
  refine ev ?_
  refine WO_guardY rfl rfl rfl rfl (lt_of rfl) ?_
  refine ev ?_
  refine WO_guardY rfl rfl rfl rfl (lt_of rfl) ?_
  refine evE ?_
  refine WO_guardY rfl rfl rfl rfl (lt_of rfl) ?_
  refine ev ?_
  refine WO_guardY rfl rfl rfl rfl (lt_of rfl) ?_
  refine ev ?_
  refine WO_keep [1, 2, 3, 14, 19] rfl ?_
  refine ev ?_
  refine ev ?_
  refine WO_guard rfl rfl rfl rfl (lt_of rfl) (fun h2 => ?_) (fun h2 => ?_)
  rotate_left
  ·
    try simp only [HS] at h2
    iterate 4 (refine WO_guardN rfl rfl rfl rfl rfl (lt_of rfl) ?_)
    refine ev ?_
    refine ev ?_
    refine WO_guardN rfl rfl rfl rfl rfl (lt_of rfl) ?_
    refine WO_keep [1, 2, 3, 28, 29] rfl ?_
    iterate 4 (refine WO_guardN rfl rfl rfl rfl rfl (lt_of rfl) ?_)
    refine ev ?_
    refine ev ?_
    iterate 3 (refine WO_guardN rfl rfl rfl rfl rfl (lt_of rfl) ?_)
    refine WO_keep [1, 2, 3, 35, 38] rfl ?_
    refine WO_guardN rfl rfl rfl rfl rfl (lt_of rfl) ?_
    refine ev ?_
    refine ev ?_
    iterate 3 (refine WO_guardN rfl rfl rfl rfl rfl (lt_of rfl) ?_)
    refine ev ?_
    refine WO_nil ?_
    refine thenQ_n ?_
    refine W_condT rfl ?_
    refine W_seq ?_
    refine W_keep [1, 2, 3] rfl ?_
    refine W_region ?_
    refine ev ?_
    refine WO_nil ?_
    refine thenQ_n ?_
    refine W_ret ?_
    refine thenQ_r ?_
    refine Ends_of (.inr rfl) (ret_okF rfl) (by decide) rfl ?_
    · have e0 := any_num (l := w.trace)
      first
      | exact retB (by grind [goodWorld])
      | (have hh : heldGo w.held w.room = false := (by have e := any_num (l := w.held[k.toNat]'(by omega)); rw [hk2, heldGo_at hk0 (by omega) (by omega)]; grind); exact retB (by grind [goodWorld]))
      | (have hh := allIn_no (l := w.room) (lo := 0) (hi := 3) hk0 (by omega) (by assumption); exact retB (by grind [goodWorld]))
      | (have e := any_nots (p := goodAct w.room.length) (l := (w.tasks[k'.toNat]'(by omega)).acts); have hh := go_at (l := w.tasks) (p := goodTask w.room.length) hj0 (by omega) (by grind [goodTask, goodActs]); exact retB (by grind [goodWorld]))
      | (have hh := all_full (l := w.tasks) (by omega) hj2; have h4 := allIn_yes hk4 hk0 (by omega); have h0 : heldGo w.held w.room = true := (by rw [hk2, drop_end (by omega)]; simp [heldGo]); exact retB (by grind [goodWorld]))
  try simp only [HS] at h2
  refine ev ?_
  refine WO_guardY rfl rfl rfl rfl (lt_of rfl) ?_
  refine ev ?_
  refine WO_guardY rfl rfl rfl rfl (lt_of rfl) ?_
  refine evE ?_
  refine WO_guardY rfl rfl rfl rfl (lt_of rfl) ?_
  refine ev ?_
  refine WO_guardY rfl rfl rfl rfl (lt_of rfl) ?_
  iterate 3 (refine ev ?_)
  refine WO_keep [1, 2, 3, 28] rfl ?_
  refine WO_guard rfl rfl rfl rfl (lt_of rfl) (fun h3 => ?_) (fun h3 => ?_)
  rotate_left
  ·
    try simp only [HS] at h3
    iterate 4 (refine WO_guardN rfl rfl rfl rfl rfl (lt_of rfl) ?_)
    refine ev ?_
    refine ev ?_
    iterate 3 (refine WO_guardN rfl rfl rfl rfl rfl (lt_of rfl) ?_)
    refine WO_keep [1, 2, 3, 35, 38] rfl ?_
    refine WO_guardN rfl rfl rfl rfl rfl (lt_of rfl) ?_
    refine ev ?_
    refine ev ?_
    iterate 3 (refine WO_guardN rfl rfl rfl rfl rfl (lt_of rfl) ?_)
    refine ev ?_
    refine WO_nil ?_
    refine thenQ_n ?_
    refine W_condT rfl ?_
    refine W_seq ?_
    refine W_keep [1, 2, 3] rfl ?_
    refine W_region ?_
    refine ev ?_
    refine WO_nil ?_
    refine thenQ_n ?_
    refine W_ret ?_
    refine thenQ_r ?_
    refine Ends_of (.inr rfl) (ret_okF rfl) (by decide) rfl ?_
    · have e0 := any_num (l := w.trace)
      first
      | exact retB (by grind [goodWorld])
      | (have hh : heldGo w.held w.room = false := (by have e := any_num (l := w.held[k.toNat]'(by omega)); rw [hk2, heldGo_at hk0 (by omega) (by omega)]; grind); exact retB (by grind [goodWorld]))
      | (have hh := allIn_no (l := w.room) (lo := 0) (hi := 3) hk0 (by omega) (by assumption); exact retB (by grind [goodWorld]))
      | (have e := any_nots (p := goodAct w.room.length) (l := (w.tasks[k'.toNat]'(by omega)).acts); have hh := go_at (l := w.tasks) (p := goodTask w.room.length) hj0 (by omega) (by grind [goodTask, goodActs]); exact retB (by grind [goodWorld]))
      | (have hh := all_full (l := w.tasks) (by omega) hj2; have h4 := allIn_yes hk4 hk0 (by omega); have h0 : heldGo w.held w.room = true := (by rw [hk2, drop_end (by omega)]; simp [heldGo]); exact retB (by grind [goodWorld]))
  try simp only [HS] at h3
  refine ev ?_
  refine WO_guardY rfl rfl rfl rfl (lt_of rfl) ?_
  refine ev ?_
  refine WO_guardY rfl rfl rfl rfl (lt_of rfl) ?_
  refine evE ?_
  refine WO_guardY rfl rfl rfl rfl (lt_of rfl) ?_
  refine callB ?_
  refine ⟨_, within_fun _ _ _, rfl, ?_⟩
  refine WO_guardY rfl rfl rfl rfl (lt_of rfl) ?_
  iterate 3 (refine ev ?_)
  refine WO_guard rfl rfl rfl rfl (lt_of rfl) (fun h4 => ?_) (fun h4 => ?_)
  rotate_left
  ·
    try simp only [HS] at h4
    iterate 2 (refine WO_guardN rfl rfl rfl rfl rfl (lt_of rfl) ?_)
    refine WO_keep [1, 2, 3, 35, 38] rfl ?_
    refine WO_guardN rfl rfl rfl rfl rfl (lt_of rfl) ?_
    refine ev ?_
    refine ev ?_
    iterate 3 (refine WO_guardN rfl rfl rfl rfl rfl (lt_of rfl) ?_)
    refine ev ?_
    refine WO_nil ?_
    refine thenQ_n ?_
    refine W_condT rfl ?_
    refine W_seq ?_
    refine W_keep [1, 2, 3] rfl ?_
    refine W_region ?_
    refine ev ?_
    refine WO_nil ?_
    refine thenQ_n ?_
    refine W_ret ?_
    refine thenQ_r ?_
    refine Ends_of (.inr rfl) (ret_okF rfl) (by decide) rfl ?_
    · have e0 := any_num (l := w.trace)
      first
      | exact retB (by grind [goodWorld])
      | (have hh : heldGo w.held w.room = false := (by have e := any_num (l := w.held[k.toNat]'(by omega)); rw [hk2, heldGo_at hk0 (by omega) (by omega)]; grind); exact retB (by grind [goodWorld]))
      | (have hh := allIn_no (l := w.room) (lo := 0) (hi := 3) hk0 (by omega) (by assumption); exact retB (by grind [goodWorld]))
      | (have e := any_nots (p := goodAct w.room.length) (l := (w.tasks[k'.toNat]'(by omega)).acts); have hh := go_at (l := w.tasks) (p := goodTask w.room.length) hj0 (by omega) (by grind [goodTask, goodActs]); exact retB (by grind [goodWorld]))
      | (have hh := all_full (l := w.tasks) (by omega) hj2; have h4 := allIn_yes hk4 hk0 (by omega); have h0 : heldGo w.held w.room = true := (by rw [hk2, drop_end (by omega)]; simp [heldGo]); exact retB (by grind [goodWorld]))
  try simp only [HS] at h4
  refine ev ?_
  refine WO_guardY rfl rfl rfl rfl (lt_of rfl) ?_
  refine ev ?_
  refine WO_keep [1, 2, 3, 35, 37] rfl ?_
  refine WO_guardY rfl rfl rfl rfl (lt_of rfl) ?_
  refine evE ?_
  refine WO_guardY rfl rfl rfl rfl (lt_of rfl) ?_
  iterate 3 (refine ev ?_)
  refine WO_guard rfl rfl rfl rfl (lt_of rfl) (fun h5 => ?_) (fun h5 => ?_)
  rotate_left
  ·
    try simp only [HS] at h5
    iterate 2 (refine WO_guardN rfl rfl rfl rfl rfl (lt_of rfl) ?_)
    refine ev ?_
    refine WO_nil ?_
    refine thenQ_n ?_
    refine W_condT rfl ?_
    refine W_seq ?_
    refine W_keep [1, 2, 3] rfl ?_
    refine W_region ?_
    refine ev ?_
    refine WO_nil ?_
    refine thenQ_n ?_
    refine W_ret ?_
    refine thenQ_r ?_
    refine Ends_of (.inr rfl) (ret_okF rfl) (by decide) rfl ?_
    · have e0 := any_num (l := w.trace)
      first
      | exact retB (by grind [goodWorld])
      | (have hh : heldGo w.held w.room = false := (by have e := any_num (l := w.held[k.toNat]'(by omega)); rw [hk2, heldGo_at hk0 (by omega) (by omega)]; grind); exact retB (by grind [goodWorld]))
      | (have hh := allIn_no (l := w.room) (lo := 0) (hi := 3) hk0 (by omega) (by assumption); exact retB (by grind [goodWorld]))
      | (have e := any_nots (p := goodAct w.room.length) (l := (w.tasks[k'.toNat]'(by omega)).acts); have hh := go_at (l := w.tasks) (p := goodTask w.room.length) hj0 (by omega) (by grind [goodTask, goodActs]); exact retB (by grind [goodWorld]))
      | (have hh := all_full (l := w.tasks) (by omega) hj2; have h4 := allIn_yes hk4 hk0 (by omega); have h0 : heldGo w.held w.room = true := (by rw [hk2, drop_end (by omega)]; simp [heldGo]); exact retB (by grind [goodWorld]))
  try simp only [HS] at h5
  refine ev ?_
  refine WO_guardY rfl rfl rfl rfl (lt_of rfl) ?_
  refine ev ?_
  refine WO_guardY rfl rfl rfl rfl (lt_of rfl) ?_
  refine callB ?_
  refine ⟨_, hasS_fun w.trace (fun n => !inNum n) _ [] rfl (by omega) (fun x _ => isWorld1_fun x), rfl, ?_⟩
  refine ev ?_
  refine WO_nil ?_
  refine thenQ_n ?_
  refine W_cond rfl (fun h6 => ?_) (fun h6 => ?_)
  ·
    try simp only [HS] at h6
    refine W_seq ?_
    refine W_keep [1, 2, 3] rfl ?_
    refine W_region ?_
    refine ev ?_
    refine WO_nil ?_
    refine thenQ_n ?_
    refine W_ret ?_
    refine thenQ_r ?_
    refine Ends_of (.inr rfl) (ret_okF rfl) (by decide) rfl ?_
    · have e0 := any_num (l := w.trace)
      first
      | exact retB (by grind [goodWorld])
      | (have hh : heldGo w.held w.room = false := (by have e := any_num (l := w.held[k.toNat]'(by omega)); rw [hk2, heldGo_at hk0 (by omega) (by omega)]; grind); exact retB (by grind [goodWorld]))
      | (have hh := allIn_no (l := w.room) (lo := 0) (hi := 3) hk0 (by omega) (by assumption); exact retB (by grind [goodWorld]))
      | (have e := any_nots (p := goodAct w.room.length) (l := (w.tasks[k'.toNat]'(by omega)).acts); have hh := go_at (l := w.tasks) (p := goodTask w.room.length) hj0 (by omega) (by grind [goodTask, goodActs]); exact retB (by grind [goodWorld]))
      | (have hh := all_full (l := w.tasks) (by omega) hj2; have h4 := allIn_yes hk4 hk0 (by omega); have h0 : heldGo w.held w.room = true := (by rw [hk2, drop_end (by omega)]; simp [heldGo]); exact retB (by grind [goodWorld]))
  try simp only [HS] at h6
  refine W_skip ?_
  refine thenQ_n ?_
  iterate 2 (refine W_seq ?_)
  refine W_keep [1, 2, 3] rfl ?_
  refine W_region ?_
  refine ev ?_
  refine ev ?_
  refine evE ?_
  refine ev ?_
  refine WO_nil ?_
  refine thenQ_n ?_
  refine W_block ?_
  refine W_loopK (α := Int) [1, 3, 47, 48] [1, 3] (fun (x : Int) => [(49, .t (.int x))]) (fun (x : Int) => []) (fun (x : Int) => 0 ≤ x ∧ x ≤ w.room.length ∧ (w.held.length : Int) = w.room.length ∧ allIn (w.room.take x.toNat) 0 3 = true ∧ heldGo w.held w.room = heldGo (w.held.drop x.toNat) (w.room.drop x.toNat)) (fun (x : Int) => Int.toNat (w.room.length - x)) 0 ?_ ?_ ?_ (fun k hx => ?_)
  · repeat (first | exact Sub.nil' | refine Sub.cons' rfl ?_ )
  · repeat (first | exact SubM.nil' | refine SubM.cons' rfl ?_ )
  · exact ⟨by omega, by omega, by assumption, by simp [allIn], rfl⟩
  obtain ⟨hk0, hk1, hk3, hk4, hk2⟩ := hx
  refine W_norm rfl ?_
  refine W_seq ?_
  refine W_region ?_
  refine ev ?_
  refine WO_nil ?_
  refine thenQ_n ?_
  refine W_seq ?_
  refine W_cond rfl (fun h7 => ?_) (fun h7 => ?_)
  ·
    try simp only [HS] at h7
    refine W_skip ?_
    refine thenQ_n ?_
    refine W_seq ?_
    refine W_block ?_
    refine W_seq ?_
    refine W_region ?_
    refine ev ?_
    first | refine WO_idxT tys rfl rfl (lt_of rfl) rfl rfl rfl rfl rfl rfl rfl (by omega) _ (getT _ _ (by omega) (by omega)) ?_ | refine WO_idxS tys rfl rfl (lt_of rfl) rfl rfl rfl rfl rfl rfl rfl rfl (by omega) (by omega) ?_
    first | refine ev ?_ | refine WO_loadL tys rfl rfl (lt_of rfl) rfl rfl rfl rfl (getT _ _ (by omega) (by omega)) rfl ?_ | refine WO_loadL tys rfl rfl (lt_of rfl) rfl rfl rfl rfl (getT0 _ _ (by omega) (by omega)) rfl ?_
    refine ev ?_
    refine ev ?_
    refine WO_nil ?_
    refine thenQ_n ?_
    refine W_seq ?_
    refine W_region ?_
    refine ev ?_
    refine callB ?_
    refine ⟨_, within_fun _ _ _, rfl, ?_⟩
    refine ev ?_
    refine WO_keep [1, 3, 4, 5, 47, 48, 49, 50, 51, 52, 53, 54, 55, 56] rfl ?_
    refine ev ?_
    refine WO_guard rfl rfl rfl rfl (lt_of rfl) (fun h8 => ?_) (fun h8 => ?_)
    rotate_left
    ·
      try simp only [HS] at h8
      iterate 7 (refine WO_guardN rfl rfl rfl rfl rfl (lt_of rfl) ?_)
      refine ev ?_
      refine WO_keep [1, 3, 4, 5, 47, 48, 49, 50, 51, 52, 53, 54, 55, 56, 57, 58, 59, 60, 61, 62, 63, 64, 65, 66] rfl ?_
      refine ev ?_
      iterate 6 (refine WO_guardN rfl rfl rfl rfl rfl (lt_of rfl) ?_)
      refine ev ?_
      refine WO_nil ?_
      refine thenQ_n ?_
      refine W_condT rfl ?_
      refine W_seq ?_
      refine W_keep [1, 3, 4, 5, 47, 48, 49, 50, 51, 52, 53, 54, 55, 56, 57, 58, 59, 60, 61, 62, 63, 64, 65, 66, 67, 68, 69, 70, 71, 72, 73, 74] rfl ?_
      refine W_region ?_
      refine ev ?_
      refine WO_nil ?_
      refine thenQ_n ?_
      refine W_ret ?_
      refine inBlk_r ?_
      refine thenQ_r ?_
      refine loopQ_r ?_
      refine inBlk_r ?_
      refine thenQ_r ?_
      refine Ends_of (.inr rfl) (ret_okF rfl) (by decide) rfl ?_
      · have e0 := any_num (l := w.trace)
        first
        | exact retB (by grind [goodWorld])
        | (have hh : heldGo w.held w.room = false := (by have e := any_num (l := w.held[k.toNat]'(by omega)); rw [hk2, heldGo_at hk0 (by omega) (by omega)]; grind); exact retB (by grind [goodWorld]))
        | (have hh := allIn_no (l := w.room) (lo := 0) (hi := 3) hk0 (by omega) (by assumption); exact retB (by grind [goodWorld]))
        | (have e := any_nots (p := goodAct w.room.length) (l := (w.tasks[k'.toNat]'(by omega)).acts); have hh := go_at (l := w.tasks) (p := goodTask w.room.length) hj0 (by omega) (by grind [goodTask, goodActs]); exact retB (by grind [goodWorld]))
        | (have hh := all_full (l := w.tasks) (by omega) hj2; have h4 := allIn_yes hk4 hk0 (by omega); have h0 : heldGo w.held w.room = true := (by rw [hk2, drop_end (by omega)]; simp [heldGo]); exact retB (by grind [goodWorld]))
    try simp only [HS] at h8
    refine ev ?_
    refine WO_guardY rfl rfl rfl rfl (lt_of rfl) ?_
    refine ev ?_
    refine WO_guardY rfl rfl rfl rfl (lt_of rfl) ?_
    refine ev ?_
    refine WO_guardY rfl rfl rfl rfl (lt_of rfl) ?_
    first | refine WO_idxT tys rfl rfl (lt_of rfl) rfl rfl rfl rfl rfl rfl rfl (by omega) _ (getT _ _ (by omega) (by omega)) ?_ | refine WO_idxS tys rfl rfl (lt_of rfl) rfl rfl rfl rfl rfl rfl rfl rfl (by omega) (by omega) ?_
    refine WO_guardY rfl rfl rfl rfl (lt_of rfl) ?_
    first | refine ev ?_ | refine WO_loadL tys rfl rfl (lt_of rfl) rfl rfl rfl rfl (getT _ _ (by omega) (by omega)) rfl ?_ | refine WO_loadL tys rfl rfl (lt_of rfl) rfl rfl rfl rfl (getT0 _ _ (by omega) (by omega)) rfl ?_
    refine WO_guardY rfl rfl rfl rfl (lt_of rfl) ?_
    refine evE ?_
    refine WO_guardY rfl rfl rfl rfl (lt_of rfl) ?_
    refine ev ?_
    refine WO_guardY rfl rfl rfl rfl (lt_of rfl) ?_
    refine ev ?_
    refine WO_keep [1, 3, 4, 5, 47, 48, 49, 50, 51, 52, 53, 54, 55, 56, 57, 58, 59, 60, 61, 62, 63, 64, 65] rfl ?_
    refine ev ?_
    refine ev ?_
    refine WO_guard rfl rfl rfl rfl (lt_of rfl) (fun h9 => ?_) (fun h9 => ?_)
    rotate_left
    ·
      try simp only [HS] at h9
      iterate 5 (refine WO_guardN rfl rfl rfl rfl rfl (lt_of rfl) ?_)
      refine ev ?_
      refine WO_nil ?_
      refine thenQ_n ?_
      refine W_condT rfl ?_
      refine W_seq ?_
      refine W_keep [1, 3, 4, 5, 47, 48, 49, 50, 51, 52, 53, 54, 55, 56, 57, 58, 59, 60, 61, 62, 63, 64, 65, 66, 67, 68, 69, 70, 71, 72, 73, 74] rfl ?_
      refine W_region ?_
      refine ev ?_
      refine WO_nil ?_
      refine thenQ_n ?_
      refine W_ret ?_
      refine inBlk_r ?_
      refine thenQ_r ?_
      refine loopQ_r ?_
      refine inBlk_r ?_
      refine thenQ_r ?_
      refine Ends_of (.inr rfl) (ret_okF rfl) (by decide) rfl ?_
      · have e0 := any_num (l := w.trace)
        first
        | exact retB (by grind [goodWorld])
        | (have hh : heldGo w.held w.room = false := (by have e := any_num (l := w.held[k.toNat]'(by omega)); rw [hk2, heldGo_at hk0 (by omega) (by omega)]; grind); exact retB (by grind [goodWorld]))
        | (have hh := allIn_no (l := w.room) (lo := 0) (hi := 3) hk0 (by omega) (by assumption); exact retB (by grind [goodWorld]))
        | (have e := any_nots (p := goodAct w.room.length) (l := (w.tasks[k'.toNat]'(by omega)).acts); have hh := go_at (l := w.tasks) (p := goodTask w.room.length) hj0 (by omega) (by grind [goodTask, goodActs]); exact retB (by grind [goodWorld]))
        | (have hh := all_full (l := w.tasks) (by omega) hj2; have h4 := allIn_yes hk4 hk0 (by omega); have h0 : heldGo w.held w.room = true := (by rw [hk2, drop_end (by omega)]; simp [heldGo]); exact retB (by grind [goodWorld]))
    try simp only [HS] at h9
    refine ev ?_
    refine WO_guardY rfl rfl rfl rfl (lt_of rfl) ?_
    refine ev ?_
    refine WO_guardY rfl rfl rfl rfl (lt_of rfl) ?_
    refine ev ?_
    refine WO_guardY rfl rfl rfl rfl (lt_of rfl) ?_
    first | refine WO_idxT tys rfl rfl (lt_of rfl) rfl rfl rfl rfl rfl rfl rfl (by omega) _ (getT _ _ (by omega) (by omega)) ?_ | refine WO_idxS tys rfl rfl (lt_of rfl) rfl rfl rfl rfl rfl rfl rfl rfl (by omega) (by omega) ?_
    refine WO_guardY rfl rfl rfl rfl (lt_of rfl) ?_
    first | refine ev ?_ | refine WO_loadL tys rfl rfl (lt_of rfl) rfl rfl rfl rfl (getT _ _ (by omega) (by omega)) rfl ?_ | refine WO_loadL tys rfl rfl (lt_of rfl) rfl rfl rfl rfl (getT0 _ _ (by omega) (by omega)) rfl ?_
    refine WO_guardY rfl rfl rfl rfl (lt_of rfl) ?_
    refine callB ?_
    refine ⟨_, hasS_fun _ (fun n => !inNum n) _ [] rfl (by have := hw'.2.1.2 _ (List.getElem_mem (l := w.held) (n := k.toNat) (by omega)); exact this) (fun x _ => isWorld2_fun x), rfl, ?_⟩
    refine ev ?_
    refine WO_keep [1, 3, 4, 5, 47, 48, 49, 50, 51, 52, 53, 54, 55, 56, 57, 58, 59, 60, 61, 62, 63, 64, 65, 66, 67, 68, 69, 70, 71, 72, 73, 74] rfl ?_
    refine WO_nil ?_
    refine thenQ_n ?_
    refine W_cond rfl (fun h10 => ?_) (fun h10 => ?_)
    ·
      try simp only [HS] at h10
      refine W_seq ?_
      refine W_region ?_
      refine ev ?_
      refine WO_nil ?_
      refine thenQ_n ?_
      refine W_ret ?_
      refine inBlk_r ?_
      refine thenQ_r ?_
      refine loopQ_r ?_
      refine inBlk_r ?_
      refine thenQ_r ?_
      refine Ends_of (.inr rfl) (ret_okF rfl) (by decide) rfl ?_
      · have e0 := any_num (l := w.trace)
        first
        | exact retB (by grind [goodWorld])
        | (have hh : heldGo w.held w.room = false := (by have e := any_num (l := w.held[k.toNat]'(by omega)); rw [hk2, heldGo_at hk0 (by omega) (by omega)]; grind); exact retB (by grind [goodWorld]))
        | (have hh := allIn_no (l := w.room) (lo := 0) (hi := 3) hk0 (by omega) (by assumption); exact retB (by grind [goodWorld]))
        | (have e := any_nots (p := goodAct w.room.length) (l := (w.tasks[k'.toNat]'(by omega)).acts); have hh := go_at (l := w.tasks) (p := goodTask w.room.length) hj0 (by omega) (by grind [goodTask, goodActs]); exact retB (by grind [goodWorld]))
        | (have hh := all_full (l := w.tasks) (by omega) hj2; have h4 := allIn_yes hk4 hk0 (by omega); have h0 : heldGo w.held w.room = true := (by rw [hk2, drop_end (by omega)]; simp [heldGo]); exact retB (by grind [goodWorld]))
    try simp only [HS] at h10
    refine W_skip ?_
    refine inBlk_n ?_
    refine thenQ_n ?_
    refine W_region ?_
    refine evI ?_
    refine ev ?_
    refine WO_nil ?_
    refine loopQ_n _ (by (try dsimp only); repeat (first | exact Sub.nil' | refine Sub.cons' rfl ?_ )) (by (try dsimp only); repeat (first | exact SubM.nil' | refine SubM.cons' rfl ?_ )) ?_ ?_
    · try dsimp only
      exact ⟨by omega, by omega, hk3, allIn_step hk0 (by omega) hk4 (by assumption), by rw [hk2, heldGo_at hk0 (by omega) (by omega)]; grind [any_num]⟩
    · (show Int.toNat _ < Int.toNat _); omega
  try simp only [HS] at h7
  refine W_exit ?_
  refine thenQ_e ?_
  refine loopQ_e ?_
  refine inBlk_y ?_
  refine thenQ_n ?_
  iterate 2 (refine W_seq ?_)
  refine W_region ?_
  refine ev ?_
  refine ev ?_
  refine evE ?_
  refine ev ?_
  refine WO_nil ?_
  refine thenQ_n ?_
  refine W_block ?_
  refine W_loopK (α := Int) [1, 3, 77, 78] [1, 3] (fun (x : Int) => [(79, .t (.int x))]) (fun (x : Int) => []) (fun (x : Int) => 0 ≤ x ∧ x ≤ w.tasks.length ∧ (w.tasks.take x.toNat).all (goodTask w.room.length) = true) (fun (x : Int) => Int.toNat (w.tasks.length - x)) 0 ?_ ?_ ?_ (fun k' hx => ?_)
  · repeat (first | exact Sub.nil' | refine Sub.cons' rfl ?_ )
  · repeat (first | exact SubM.nil' | refine SubM.cons' rfl ?_ )
  · exact ⟨by omega, by omega, by simp⟩
  obtain ⟨hj0, hj1, hj2⟩ := hx
  refine W_norm rfl ?_
  refine W_seq ?_
  refine W_region ?_
  refine ev ?_
  refine WO_nil ?_
  refine thenQ_n ?_
  refine W_seq ?_
  refine W_cond rfl (fun h8 => ?_) (fun h8 => ?_)
  ·
    try simp only [HS] at h8
    refine W_skip ?_
    refine thenQ_n ?_
    refine W_seq ?_
    refine W_block ?_
    refine W_seq ?_
    refine W_region ?_
    first | refine WO_idxT tys rfl rfl (lt_of rfl) rfl rfl rfl rfl rfl rfl rfl (by omega) _ (getT _ _ (by omega) (by omega)) ?_ | refine WO_idxS tys rfl rfl (lt_of rfl) rfl rfl rfl rfl rfl rfl rfl rfl (by omega) (by omega) ?_
    first | (refine ev ?_; try refine WO_le (Le.freeze (u := 82) rfl) ?_) | refine WO_loadL tys rfl rfl (lt_of rfl) rfl rfl rfl rfl (getT _ _ (by omega) (by omega)) rfl ?_ | refine WO_loadL tys rfl rfl (lt_of rfl) rfl rfl rfl rfl (getT0 _ _ (by omega) (by omega)) rfl ?_
    refine WO_norm rfl ?_
    refine WO_alloc tys rfl rfl (lt_of rfl) rfl rfl rfl ?_
    refine WO_norm rfl ?_
    refine WO_store tys rfl rfl rfl rfl rfl rfl rfl rfl (lt_of rfl) ?_
    refine WO_norm rfl ?_
    refine WO_nil ?_
    refine thenQ_n ?_
    refine W_seq ?_
    refine W_region ?_
    refine ev ?_
    refine ev ?_
    refine evE ?_
    refine ev ?_
    refine WO_keep [1, 3, 7, 77, 78, 79, 80, 81, 82, 83, 84, 85, 86] rfl ?_
    refine ev ?_
    refine WO_guard rfl rfl rfl rfl (lt_of rfl) (fun h9 => ?_) (fun h9 => ?_)
    rotate_left
    ·
      try simp only [HS] at h9
      iterate 6 (refine WO_guardN rfl rfl rfl rfl rfl (lt_of rfl) ?_)
      refine ev ?_
      refine ev ?_
      refine WO_keep [1, 3, 7, 77, 78, 79, 80, 81, 82, 83, 84, 85, 86, 87, 88, 89, 90, 91, 92, 93, 94, 95, 96] rfl ?_
      iterate 4 (refine WO_guardN rfl rfl rfl rfl rfl (lt_of rfl) ?_)
      refine ev ?_
      refine ev ?_
      iterate 3 (refine WO_guardN rfl rfl rfl rfl rfl (lt_of rfl) ?_)
      refine WO_keep [1, 3, 7, 77, 78, 79, 80, 81, 82, 83, 84, 85, 86, 87, 88, 89, 90, 91, 92, 93, 94, 95, 96, 97, 98, 99, 100, 101, 102, 103, 104, 105] rfl ?_
      iterate 7 (refine WO_guardN rfl rfl rfl rfl rfl (lt_of rfl) ?_)
      refine ev ?_
      refine ev ?_
      refine WO_keep [1, 3, 7, 77, 78, 79, 80, 81, 82, 83, 84, 85, 86, 87, 88, 89, 90, 91, 92, 93, 94, 95, 96, 97, 98, 99, 100, 101, 102, 103, 104, 105, 106, 107, 108, 109, 110, 111, 112, 113, 114] rfl ?_
      iterate 4 (refine WO_guardN rfl rfl rfl rfl rfl (lt_of rfl) ?_)
      refine ev ?_
      refine ev ?_
      iterate 3 (refine WO_guardN rfl rfl rfl rfl rfl (lt_of rfl) ?_)
      refine WO_keep [1, 3, 7, 77, 78, 79, 80, 81, 82, 83, 84, 85, 86, 87, 88, 89, 90, 91, 92, 93, 94, 95, 96, 97, 98, 99, 100, 101, 102, 103, 104, 105, 106, 107, 108, 109, 110, 111, 112, 113, 114, 115, 116, 117, 118, 119, 120, 121, 122, 123] rfl ?_
      refine WO_guardN rfl rfl rfl rfl rfl (lt_of rfl) ?_
      refine ev ?_
      refine WO_nil ?_
      refine thenQ_n ?_
      refine W_condT rfl ?_
      refine W_seq ?_
      refine W_region ?_
      refine ev ?_
      refine WO_nil ?_
      refine thenQ_n ?_
      refine W_ret ?_
      refine inBlk_r ?_
      refine thenQ_r ?_
      refine loopQ_r ?_
      refine inBlk_r ?_
      refine thenQ_r ?_
      refine Ends_of (.inr rfl) (ret_okF rfl) (by decide) rfl ?_
      · have e0 := any_num (l := w.trace)
        first
        | exact retB (by grind [goodWorld])
        | (have hh : heldGo w.held w.room = false := (by have e := any_num (l := w.held[k.toNat]'(by omega)); rw [hk2, heldGo_at hk0 (by omega) (by omega)]; grind); exact retB (by grind [goodWorld]))
        | (have hh := allIn_no (l := w.room) (lo := 0) (hi := 3) hk0 (by omega) (by assumption); exact retB (by grind [goodWorld]))
        | (have e := any_nots (p := goodAct w.room.length) (l := (w.tasks[k'.toNat]'(by omega)).acts); have hh := go_at (l := w.tasks) (p := goodTask w.room.length) hj0 (by omega) (by grind [goodTask, goodActs]); exact retB (by grind [goodWorld]))
        | (have hh := all_full (l := w.tasks) (by omega) hj2; have h4 := allIn_yes hk4 hk0 (by omega); have h0 : heldGo w.held w.room = true := (by rw [hk2, drop_end (by omega)]; simp [heldGo]); exact retB (by grind [goodWorld]))
    try simp only [HS] at h9
    refine ev ?_
    refine WO_guardY rfl rfl rfl rfl (lt_of rfl) ?_
    refine ev ?_
    refine WO_guardY rfl rfl rfl rfl (lt_of rfl) ?_
    refine ev ?_
    refine WO_guardY rfl rfl rfl rfl (lt_of rfl) ?_
    refine ev ?_
    refine WO_guardY rfl rfl rfl rfl (lt_of rfl) ?_
    refine evE ?_
    refine WO_guardY rfl rfl rfl rfl (lt_of rfl) ?_
    refine callB ?_
    refine ⟨_, within_fun _ _ _, rfl, ?_⟩
    refine WO_guardY rfl rfl rfl rfl (lt_of rfl) ?_
    refine ev ?_
    refine ev ?_
    refine WO_keep [1, 3, 7, 77, 78, 79, 80, 81, 82, 83, 84, 85, 86, 87, 88, 89, 90, 91, 92, 93, 94, 95] rfl ?_
    refine ev ?_
    refine WO_guard rfl rfl rfl rfl (lt_of rfl) (fun h10 => ?_) (fun h10 => ?_)
    rotate_left
    ·
      try simp only [HS] at h10
      iterate 3 (refine WO_guardN rfl rfl rfl rfl rfl (lt_of rfl) ?_)
      refine ev ?_
      refine ev ?_
      iterate 3 (refine WO_guardN rfl rfl rfl rfl rfl (lt_of rfl) ?_)
      refine WO_keep [1, 3, 7, 77, 78, 79, 80, 81, 82, 83, 84, 85, 86, 87, 88, 89, 90, 91, 92, 93, 94, 95, 96, 97, 98, 99, 100, 101, 102, 103, 104, 105] rfl ?_
      iterate 7 (refine WO_guardN rfl rfl rfl rfl rfl (lt_of rfl) ?_)
      refine ev ?_
      refine ev ?_
      refine WO_keep [1, 3, 7, 77, 78, 79, 80, 81, 82, 83, 84, 85, 86, 87, 88, 89, 90, 91, 92, 93, 94, 95, 96, 97, 98, 99, 100, 101, 102, 103, 104, 105, 106, 107, 108, 109, 110, 111, 112, 113, 114] rfl ?_
      iterate 4 (refine WO_guardN rfl rfl rfl rfl rfl (lt_of rfl) ?_)
      refine ev ?_
      refine ev ?_
      iterate 3 (refine WO_guardN rfl rfl rfl rfl rfl (lt_of rfl) ?_)
      refine WO_keep [1, 3, 7, 77, 78, 79, 80, 81, 82, 83, 84, 85, 86, 87, 88, 89, 90, 91, 92, 93, 94, 95, 96, 97, 98, 99, 100, 101, 102, 103, 104, 105, 106, 107, 108, 109, 110, 111, 112, 113, 114, 115, 116, 117, 118, 119, 120, 121, 122, 123] rfl ?_
      refine WO_guardN rfl rfl rfl rfl rfl (lt_of rfl) ?_
      refine ev ?_
      refine WO_nil ?_
      refine thenQ_n ?_
      refine W_condT rfl ?_
      refine W_seq ?_
      refine W_region ?_
      refine ev ?_
      refine WO_nil ?_
      refine thenQ_n ?_
      refine W_ret ?_
      refine inBlk_r ?_
      refine thenQ_r ?_
      refine loopQ_r ?_
      refine inBlk_r ?_
      refine thenQ_r ?_
      refine Ends_of (.inr rfl) (ret_okF rfl) (by decide) rfl ?_
      · have e0 := any_num (l := w.trace)
        first
        | exact retB (by grind [goodWorld])
        | (have hh : heldGo w.held w.room = false := (by have e := any_num (l := w.held[k.toNat]'(by omega)); rw [hk2, heldGo_at hk0 (by omega) (by omega)]; grind); exact retB (by grind [goodWorld]))
        | (have hh := allIn_no (l := w.room) (lo := 0) (hi := 3) hk0 (by omega) (by assumption); exact retB (by grind [goodWorld]))
        | (have e := any_nots (p := goodAct w.room.length) (l := (w.tasks[k'.toNat]'(by omega)).acts); have hh := go_at (l := w.tasks) (p := goodTask w.room.length) hj0 (by omega) (by grind [goodTask, goodActs]); exact retB (by grind [goodWorld]))
        | (have hh := all_full (l := w.tasks) (by omega) hj2; have h4 := allIn_yes hk4 hk0 (by omega); have h0 : heldGo w.held w.room = true := (by rw [hk2, drop_end (by omega)]; simp [heldGo]); exact retB (by grind [goodWorld]))
    try simp only [HS] at h10
    refine ev ?_
    refine WO_guardY rfl rfl rfl rfl (lt_of rfl) ?_
    refine ev ?_
    refine WO_guardY rfl rfl rfl rfl (lt_of rfl) ?_
    refine callB ?_
    refine ⟨_, within_fun _ _ _, rfl, ?_⟩
    refine WO_guardY rfl rfl rfl rfl (lt_of rfl) ?_
    iterate 3 (refine ev ?_)
    refine WO_guard rfl rfl rfl rfl (lt_of rfl) (fun h11 => ?_) (fun h11 => ?_)
    rotate_left
    ·
      try simp only [HS] at h11
      iterate 2 (refine WO_guardN rfl rfl rfl rfl rfl (lt_of rfl) ?_)
      refine WO_keep [1, 3, 7, 77, 78, 79, 80, 81, 82, 83, 84, 85, 86, 87, 88, 89, 90, 91, 92, 93, 94, 95, 96, 97, 98, 99, 100, 101, 102, 103, 104, 105] rfl ?_
      iterate 7 (refine WO_guardN rfl rfl rfl rfl rfl (lt_of rfl) ?_)
      refine ev ?_
      refine ev ?_
      refine WO_keep [1, 3, 7, 77, 78, 79, 80, 81, 82, 83, 84, 85, 86, 87, 88, 89, 90, 91, 92, 93, 94, 95, 96, 97, 98, 99, 100, 101, 102, 103, 104, 105, 106, 107, 108, 109, 110, 111, 112, 113, 114] rfl ?_
      iterate 4 (refine WO_guardN rfl rfl rfl rfl rfl (lt_of rfl) ?_)
      refine ev ?_
      refine ev ?_
      iterate 3 (refine WO_guardN rfl rfl rfl rfl rfl (lt_of rfl) ?_)
      refine WO_keep [1, 3, 7, 77, 78, 79, 80, 81, 82, 83, 84, 85, 86, 87, 88, 89, 90, 91, 92, 93, 94, 95, 96, 97, 98, 99, 100, 101, 102, 103, 104, 105, 106, 107, 108, 109, 110, 111, 112, 113, 114, 115, 116, 117, 118, 119, 120, 121, 122, 123] rfl ?_
      refine WO_guardN rfl rfl rfl rfl rfl (lt_of rfl) ?_
      refine ev ?_
      refine WO_nil ?_
      refine thenQ_n ?_
      refine W_condT rfl ?_
      refine W_seq ?_
      refine W_region ?_
      refine ev ?_
      refine WO_nil ?_
      refine thenQ_n ?_
      refine W_ret ?_
      refine inBlk_r ?_
      refine thenQ_r ?_
      refine loopQ_r ?_
      refine inBlk_r ?_
      refine thenQ_r ?_
      refine Ends_of (.inr rfl) (ret_okF rfl) (by decide) rfl ?_
      · have e0 := any_num (l := w.trace)
        first
        | exact retB (by grind [goodWorld])
        | (have hh : heldGo w.held w.room = false := (by have e := any_num (l := w.held[k.toNat]'(by omega)); rw [hk2, heldGo_at hk0 (by omega) (by omega)]; grind); exact retB (by grind [goodWorld]))
        | (have hh := allIn_no (l := w.room) (lo := 0) (hi := 3) hk0 (by omega) (by assumption); exact retB (by grind [goodWorld]))
        | (have e := any_nots (p := goodAct w.room.length) (l := (w.tasks[k'.toNat]'(by omega)).acts); have hh := go_at (l := w.tasks) (p := goodTask w.room.length) hj0 (by omega) (by grind [goodTask, goodActs]); exact retB (by grind [goodWorld]))
        | (have hh := all_full (l := w.tasks) (by omega) hj2; have h4 := allIn_yes hk4 hk0 (by omega); have h0 : heldGo w.held w.room = true := (by rw [hk2, drop_end (by omega)]; simp [heldGo]); exact retB (by grind [goodWorld]))
    try simp only [HS] at h11
    refine ev ?_
    refine WO_guardY rfl rfl rfl rfl (lt_of rfl) ?_
    refine ev ?_
    refine WO_keep [1, 3, 7, 77, 78, 79, 80, 81, 82, 83, 84, 85, 86, 87, 88, 89, 90, 91, 92, 93, 94, 95, 96, 97, 98, 99, 100, 101, 102, 103, 104] rfl ?_
    refine WO_guardY rfl rfl rfl rfl (lt_of rfl) ?_
    refine ev ?_
    refine WO_guardY rfl rfl rfl rfl (lt_of rfl) ?_
    refine ev ?_
    refine WO_guardY rfl rfl rfl rfl (lt_of rfl) ?_
    refine ev ?_
    refine WO_guardY rfl rfl rfl rfl (lt_of rfl) ?_
    refine ev ?_
    refine WO_guardY rfl rfl rfl rfl (lt_of rfl) ?_
    refine ev ?_
    refine WO_guardY rfl rfl rfl rfl (lt_of rfl) ?_
    refine evE ?_
    refine WO_guardY rfl rfl rfl rfl (lt_of rfl) ?_
    refine ev ?_
    refine WO_guardY rfl rfl rfl rfl (lt_of rfl) ?_
    refine ev ?_
    refine ev ?_
    refine WO_keep [1, 3, 7, 77, 78, 79, 80, 81, 82, 83, 84, 85, 86, 87, 88, 89, 90, 91, 92, 93, 94, 95, 96, 97, 98, 99, 100, 101, 102, 103, 104, 105, 106, 107, 108, 109, 110, 111, 112, 113] rfl ?_
    refine ev ?_
    refine WO_guard rfl rfl rfl rfl (lt_of rfl) (fun h12 => ?_) (fun h12 => ?_)
    rotate_left
    ·
      try simp only [HS] at h12
      iterate 3 (refine WO_guardN rfl rfl rfl rfl rfl (lt_of rfl) ?_)
      refine ev ?_
      refine ev ?_
      iterate 3 (refine WO_guardN rfl rfl rfl rfl rfl (lt_of rfl) ?_)
      refine WO_keep [1, 3, 7, 77, 78, 79, 80, 81, 82, 83, 84, 85, 86, 87, 88, 89, 90, 91, 92, 93, 94, 95, 96, 97, 98, 99, 100, 101, 102, 103, 104, 105, 106, 107, 108, 109, 110, 111, 112, 113, 114, 115, 116, 117, 118, 119, 120, 121, 122, 123] rfl ?_
      refine WO_guardN rfl rfl rfl rfl rfl (lt_of rfl) ?_
      refine ev ?_
      refine WO_nil ?_
      refine thenQ_n ?_
      refine W_condT rfl ?_
      refine W_seq ?_
      refine W_region ?_
      refine ev ?_
      refine WO_nil ?_
      refine thenQ_n ?_
      refine W_ret ?_
      refine inBlk_r ?_
      refine thenQ_r ?_
      refine loopQ_r ?_
      refine inBlk_r ?_
      refine thenQ_r ?_
      refine Ends_of (.inr rfl) (ret_okF rfl) (by decide) rfl ?_
      · have e0 := any_num (l := w.trace)
        first
        | exact retB (by grind [goodWorld])
        | (have hh : heldGo w.held w.room = false := (by have e := any_num (l := w.held[k.toNat]'(by omega)); rw [hk2, heldGo_at hk0 (by omega) (by omega)]; grind); exact retB (by grind [goodWorld]))
        | (have hh := allIn_no (l := w.room) (lo := 0) (hi := 3) hk0 (by omega) (by assumption); exact retB (by grind [goodWorld]))
        | (have e := any_nots (p := goodAct w.room.length) (l := (w.tasks[k'.toNat]'(by omega)).acts); have hh := go_at (l := w.tasks) (p := goodTask w.room.length) hj0 (by omega) (by grind [goodTask, goodActs]); exact retB (by grind [goodWorld]))
        | (have hh := all_full (l := w.tasks) (by omega) hj2; have h4 := allIn_yes hk4 hk0 (by omega); have h0 : heldGo w.held w.room = true := (by rw [hk2, drop_end (by omega)]; simp [heldGo]); exact retB (by grind [goodWorld]))
    try simp only [HS] at h12
    refine ev ?_
    refine WO_guardY rfl rfl rfl rfl (lt_of rfl) ?_
    refine ev ?_
    refine WO_guardY rfl rfl rfl rfl (lt_of rfl) ?_
    refine callB ?_
    refine ⟨_, isTaskNumber_fun _, rfl, ?_⟩
    refine WO_guardY rfl rfl rfl rfl (lt_of rfl) ?_
    iterate 3 (refine ev ?_)
    refine WO_guard rfl rfl rfl rfl (lt_of rfl) (fun h13 => ?_) (fun h13 => ?_)
    rotate_left
    ·
      try simp only [HS] at h13
      iterate 2 (refine WO_guardN rfl rfl rfl rfl rfl (lt_of rfl) ?_)
      refine WO_keep [1, 3, 7, 77, 78, 79, 80, 81, 82, 83, 84, 85, 86, 87, 88, 89, 90, 91, 92, 93, 94, 95, 96, 97, 98, 99, 100, 101, 102, 103, 104, 105, 106, 107, 108, 109, 110, 111, 112, 113, 114, 115, 116, 117, 118, 119, 120, 121, 122, 123] rfl ?_
      refine WO_guardN rfl rfl rfl rfl rfl (lt_of rfl) ?_
      refine ev ?_
      refine WO_nil ?_
      refine thenQ_n ?_
      refine W_condT rfl ?_
      refine W_seq ?_
      refine W_region ?_
      refine ev ?_
      refine WO_nil ?_
      refine thenQ_n ?_
      refine W_ret ?_
      refine inBlk_r ?_
      refine thenQ_r ?_
      refine loopQ_r ?_
      refine inBlk_r ?_
      refine thenQ_r ?_
      refine Ends_of (.inr rfl) (ret_okF rfl) (by decide) rfl ?_
      · have e0 := any_num (l := w.trace)
        first
        | exact retB (by grind [goodWorld])
        | (have hh : heldGo w.held w.room = false := (by have e := any_num (l := w.held[k.toNat]'(by omega)); rw [hk2, heldGo_at hk0 (by omega) (by omega)]; grind); exact retB (by grind [goodWorld]))
        | (have hh := allIn_no (l := w.room) (lo := 0) (hi := 3) hk0 (by omega) (by assumption); exact retB (by grind [goodWorld]))
        | (have e := any_nots (p := goodAct w.room.length) (l := (w.tasks[k'.toNat]'(by omega)).acts); have hh := go_at (l := w.tasks) (p := goodTask w.room.length) hj0 (by omega) (by grind [goodTask, goodActs]); exact retB (by grind [goodWorld]))
        | (have hh := all_full (l := w.tasks) (by omega) hj2; have h4 := allIn_yes hk4 hk0 (by omega); have h0 : heldGo w.held w.room = true := (by rw [hk2, drop_end (by omega)]; simp [heldGo]); exact retB (by grind [goodWorld]))
    try simp only [HS] at h13
    refine ev ?_
    refine WO_guardY rfl rfl rfl rfl (lt_of rfl) ?_
    refine ev ?_
    refine WO_keep [1, 3, 7, 77, 78, 79, 80, 81, 82, 83, 84, 85, 86, 87, 88, 89, 90, 91, 92, 93, 94, 95, 96, 97, 98, 99, 100, 101, 102, 103, 104, 105, 106, 107, 108, 109, 110, 111, 112, 113, 114, 115, 116, 117, 118, 119, 120, 121, 122] rfl ?_
    refine WO_guardY rfl rfl rfl rfl (lt_of rfl) ?_
    refine ev ?_
    refine WO_guardY rfl rfl rfl rfl (lt_of rfl) ?_
    refine callB ?_
    refine ⟨_, hasAct_fun _ (fun b => !goodAct w.room.length b) _ [.rp (.agg [T.int w.room.length]) 0] rfl (by have := (hw'.2.2.2.1.2 _ (List.getElem_mem (l := w.tasks) (n := k'.toNat) (by omega))).1.1; exact this) (fun b hb => isWorld3_fun b _ ((hw'.2.2.2.1.2 _ (List.getElem_mem (l := w.tasks) (n := k'.toNat) (by omega))).1.2 b hb) (by omega) (by omega)), rfl, ?_⟩
    refine ev ?_
    refine WO_nil ?_
    refine thenQ_n ?_
    refine W_cond rfl (fun h14 => ?_) (fun h14 => ?_)
    ·
      try simp only [HS] at h14
      refine W_seq ?_
      refine W_region ?_
      refine ev ?_
      refine WO_nil ?_
      refine thenQ_n ?_
      refine W_ret ?_
      refine inBlk_r ?_
      refine thenQ_r ?_
      refine loopQ_r ?_
      refine inBlk_r ?_
      refine thenQ_r ?_
      refine Ends_of (.inr rfl) (ret_okF rfl) (by decide) rfl ?_
      · have e0 := any_num (l := w.trace)
        first
        | exact retB (by grind [goodWorld])
        | (have hh : heldGo w.held w.room = false := (by have e := any_num (l := w.held[k.toNat]'(by omega)); rw [hk2, heldGo_at hk0 (by omega) (by omega)]; grind); exact retB (by grind [goodWorld]))
        | (have hh := allIn_no (l := w.room) (lo := 0) (hi := 3) hk0 (by omega) (by assumption); exact retB (by grind [goodWorld]))
        | (have e := any_nots (p := goodAct w.room.length) (l := (w.tasks[k'.toNat]'(by omega)).acts); have hh := go_at (l := w.tasks) (p := goodTask w.room.length) hj0 (by omega) (by grind [goodTask, goodActs]); exact retB (by grind [goodWorld]))
        | (have hh := all_full (l := w.tasks) (by omega) hj2; have h4 := allIn_yes hk4 hk0 (by omega); have h0 : heldGo w.held w.room = true := (by rw [hk2, drop_end (by omega)]; simp [heldGo]); exact retB (by grind [goodWorld]))
    try simp only [HS] at h14
    refine W_skip ?_
    refine inBlk_n ?_
    refine thenQ_n ?_
    refine W_region ?_
    refine evI ?_
    refine ev ?_
    refine WO_nil ?_
    refine loopQ_n _ (by (try dsimp only); repeat (first | exact Sub.nil' | refine Sub.cons' rfl ?_ )) (by (try dsimp only); repeat (first | exact SubM.nil' | refine SubM.cons' rfl ?_ )) ?_ ?_
    · try dsimp only
      exact ⟨by omega, by omega, all_take hj0 (by omega) hj2 (by have e := any_nots (p := goodAct w.room.length) (l := (w.tasks[k'.toNat]'(by omega)).acts); grind [goodTask, goodActs])⟩
    · (show Int.toNat _ < Int.toNat _); omega
  try simp only [HS] at h8
  refine W_exit ?_
  refine thenQ_e ?_
  refine loopQ_e ?_
  refine inBlk_y ?_
  refine thenQ_n ?_
  refine W_seq ?_
  refine W_region ?_
  refine ev ?_
  refine WO_nil ?_
  refine thenQ_n ?_
  refine W_ret ?_
  refine Ends_of (.inr rfl) (ret_okF rfl) (by decide) rfl ?_
  · have e0 := any_num (l := w.trace)
    first
    | exact retB (by grind [goodWorld])
    | (have hh : heldGo w.held w.room = false := (by have e := any_num (l := w.held[k.toNat]'(by omega)); rw [hk2, heldGo_at hk0 (by omega) (by omega)]; grind); exact retB (by grind [goodWorld]))
    | (have hh := allIn_no (l := w.room) (lo := 0) (hi := 3) hk0 (by omega) (by assumption); exact retB (by grind [goodWorld]))
    | (have e := any_nots (p := goodAct w.room.length) (l := (w.tasks[k'.toNat]'(by omega)).acts); have hh := go_at (l := w.tasks) (p := goodTask w.room.length) hj0 (by omega) (by grind [goodTask, goodActs]); exact retB (by grind [goodWorld]))
    | (have hh := all_full (l := w.tasks) (by omega) hj2; have h4 := allIn_yes hk4 hk0 (by omega); have h0 : heldGo w.held w.room = true := (by rw [hk2, drop_end (by omega)]; simp [heldGo]); exact retB (by grind [goodWorld]))


theorem okL_mono {α : Type} {B C : Nat} {p q : α → Prop} {l : List α} (hB : B ≤ C) (h : ∀ x, p x → q x) (hl : okL B p l) : okL C q l := ⟨Nat.le_trans hl.1 hB, fun x hx => h x (hl.2 x hx)⟩
theorem okN_mono {α : Type} {B C : Nat} {l : List α} (hB : B ≤ C) (hl : okN B l) : okN C l := Nat.le_trans hl hB
theorem Act.ok_mono {B C : Nat} (hB : B ≤ C) (a : Act) : a.ok B → a.ok C := Act.ind (p := fun a => a.ok B → a.ok C) (fun a ih h => .of ⟨Nat.le_trans h.cases'.1 hB, fun x hx => ih x hx (h.cases'.2 x hx)⟩) a
theorem Task.ok_mono {B C : Nat} (hB : B ≤ C) (t : Task) (h : t.ok B) : t.ok C := ⟨okL_mono hB (Act.ok_mono hB) h.1, trivial⟩
theorem World.ok_mono {B C : Nat} (hB : B ≤ C) (w : World) (h : w.ok B) : w.ok C :=
  ⟨okN_mono hB h.1, okL_mono hB (fun _ => okN_mono hB) h.2.1, okN_mono hB h.2.2.1, okL_mono hB (Task.ok_mono hB) h.2.2.2.1, okN_mono hB h.2.2.2.2.1, trivial⟩

theorem World.small {w : World} (h : 0 ≤ szWorld w 1048576) : w.ok 1048576 := (szWorld_g w 1048576 (by omega) (by omega)).2.2 h


end Go.Proofs.Ytbkamkmmljbedaa
