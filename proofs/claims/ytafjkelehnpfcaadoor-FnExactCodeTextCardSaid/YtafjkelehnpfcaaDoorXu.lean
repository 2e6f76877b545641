/- Walks and laws of the claim. -/
import Derived.Test.YtafjkelehnpfcaaDoorXn
import Derived.Test.YtafjkelehnpfcaaDoorRows
import Derived.Test.YtafjkelehnpfcaaDoorFa
import Derived.Test.YtafjkelehnpfcaaDoorMb
import Derived.Test.YtafjkelehnpfcaaDoorRows
set_option linter.unusedVariables false
set_option linter.unusedSimpArgs false
set_option maxRecDepth 10000
set_option maxHeartbeats 4000000
namespace Go.Proofs.YtafjkelehnpfcaaDoor
open Go.Eng
open Go.Eng

theorem lawCodeText_fun (c : Code) (hx : c.ok 9223372036854775807) : FunL Tryd.prog LadC 3 [.t c.tt] (tupD [.t (.bool true)]) := by
  refine FunL.begin LadCS tys Tryd.func3 rfl rfl (N := 40) [(0, .t c.tt)] rfl rfl (fun w0 G F0 hL => ?_)
  refine W_seq ?_
  refine W_region ?_
  refine WO_box rfl rfl (lt_of rfl) rfl rfl ?_
  refine WO_norm rfl ?_
  refine ev ?_
  refine WO_nil ?_
  refine thenQ_n ?_
  refine W_seq ?_
  refine W_region ?_
  refine ev ?_
  refine WO_nil ?_
  refine thenQ_n ?_
  refine W_seq ?_
  refine W_region ?_
  first | (refine ev ?_; try refine WO_le (Le.freeze (u := 9) rfl) ?_) | refine WO_loadMove tys rfl rfl (lt_of rfl) rfl rfl rfl rfl rfl rfl ?_
  refine WO_norm rfl ?_
  refine ev ?_
  refine callB ?_
  refine ⟨_, szCode_fun c 1048576 hx (by omega) (by omega), rfl, ?_⟩
  refine ev ?_
  refine WO_nil ?_
  refine thenQ_n ?_
  iterate 2 (refine W_seq ?_)
  refine W_keep [1, 2, 3] rfl ?_
  refine W_region ?_
  refine ev ?_
  refine ev ?_
  refine WO_nil ?_
  refine thenQ_n ?_
  refine W_cond rfl (fun h1 => ?_) (fun h1 => ?_)
  ·
    try simp only [HS] at h1
    refine W_seq ?_
    refine W_region ?_
    refine ev ?_
    refine WO_nil ?_
    refine thenQ_n ?_
    refine W_ret ?_
    refine thenQ_r ?_
    refine Ends_of (.inr rfl) (ret_okF rfl) (by decide) rfl ?_
    · first | rfl | (simp_all [eqCode_refl]; done)
  try simp only [HS] at h1
  refine W_skip ?_
  refine thenQ_n ?_
  refine W_seq ?_
  refine W_region ?_
  have hc : c.ok 1048576 := (szCode_g c 1048576 (by omega) (by omega)).2.2 h1
  first | (refine ev ?_; try refine WO_le (Le.freeze (u := 15) rfl) ?_) | refine WO_loadMove tys rfl rfl (lt_of rfl) rfl rfl rfl rfl rfl rfl ?_
  refine WO_norm rfl ?_
  refine callB ?_
  refine ⟨_, toCode_fun c hc, rfl, ?_⟩
  refine WO_le (Le.freeze (u := 16) rfl) ?_
  refine WO_norm rfl ?_
  refine callB ?_
  refine ⟨_, specCodeText_fun c hc, rfl, ?_⟩
  refine ev ?_
  first | refine WO_evF tys rfl rfl (lt_of rfl) (d := .t _) rfl ?_ | (refine WO_extract rfl rfl (lt_of rfl) rfl rfl rfl rfl ?_; first | refine WO_le (Le.adoptE (u := 18) 18 rfl (by first | exact lenN | exact rfl)) ?_ | skip)
  refine WO_norm rfl ?_
  first | refine WO_evF tys rfl rfl (lt_of rfl) (d := .t _) rfl ?_ | (refine WO_extract rfl rfl (lt_of rfl) rfl rfl rfl rfl ?_; first | refine WO_le (Le.adoptE (u := 19) 19 rfl (by first | exact lenN | exact rfl)) ?_ | skip)
  refine WO_norm rfl ?_
  refine ev ?_
  refine WO_keep [1, 2, 4, 19] rfl ?_
  refine ev ?_
  refine WO_nil ?_
  refine thenQ_n ?_
  refine W_seq ?_
  refine W_region ?_
  first | (refine ev ?_; try refine WO_le (Le.freeze (u := 20) rfl) ?_) | refine WO_loadMove tys rfl rfl (lt_of rfl) rfl rfl rfl rfl rfl rfl ?_
  refine WO_norm rfl ?_
  refine callB ?_
  refine ⟨_, toCode_fun c hc, rfl, ?_⟩
  refine WO_le (Le.freeze (u := 21) rfl) ?_
  refine WO_norm rfl ?_
  refine WO_alloc tys rfl rfl (lt_of rfl) rfl rfl rfl ?_
  refine WO_norm rfl ?_
  refine WO_store tys rfl rfl rfl rfl rfl rfl rfl rfl (lt_of rfl) ?_
  refine WO_norm rfl ?_
  refine WO_nil ?_
  refine thenQ_n ?_
  refine W_seq ?_
  refine W_region ?_
  first | (refine ev ?_; try refine WO_le (Le.freeze (u := 23) rfl) ?_) | refine WO_loadMove tys rfl rfl (lt_of rfl) rfl rfl rfl rfl rfl rfl ?_
  refine WO_norm rfl ?_
  refine callLB hL ?_
  refine ⟨_, implCodeText_fun c hc, rfl, ?_⟩
  refine WO_norm rfl ?_
  refine ev ?_
  first | refine WO_evF tys rfl rfl (lt_of rfl) (d := .t _) rfl ?_ | (refine WO_extract rfl rfl (lt_of rfl) rfl rfl rfl rfl ?_; first | refine WO_le (Le.adoptE (u := 25) 25 rfl (by first | exact lenN | exact rfl)) ?_ | skip)
  refine WO_norm rfl ?_
  refine WO_keep [1, 2, 4, 5, 6, 22, 25] rfl ?_
  first | refine WO_evF tys rfl rfl (lt_of rfl) (d := .t _) rfl ?_ | (refine WO_extract rfl rfl (lt_of rfl) rfl rfl rfl rfl ?_; first | refine WO_le (Le.adoptE (u := 26) 26 rfl (by first | exact lenN | exact rfl)) ?_ | skip)
  refine WO_norm rfl ?_
  refine ev ?_
  refine ev ?_
  refine WO_nil ?_
  refine thenQ_n ?_
  iterate 2 (refine W_seq ?_)
  refine W_region ?_
  refine ev ?_
  refine ev ?_
  refine WO_binW rfl rfl (lt_of rfl) rfl rfl rfl binStrNe rfl ?_
  refine ev ?_
  refine WO_guard rfl rfl rfl rfl (lt_of rfl) (fun h2 => ?_) (fun h2 => ?_)
  rotate_left
  ·
    try simp only [HS] at h2
    iterate 2 (refine WO_guardN rfl rfl rfl rfl rfl (lt_of rfl) ?_)
    refine WO_keep [1, 2, 6, 30, 33] rfl ?_
    refine ev ?_
    refine WO_nil ?_
    refine thenQ_n ?_
    refine W_condT rfl ?_
    refine W_seq ?_
    refine W_region ?_
    refine ev ?_
    refine WO_nil ?_
    refine thenQ_n ?_
    refine W_ret ?_
    refine thenQ_r ?_
    refine Ends_of (.inr rfl) (ret_okF rfl) (by decide) rfl ?_
    · first | rfl | (simp_all [eqCode_refl]; done)
  try simp only [HS] at h2
  refine ev ?_
  refine WO_guardY rfl rfl rfl rfl (lt_of rfl) ?_
  refine ev ?_
  refine WO_keep [1, 2, 6, 30, 31, 32] rfl ?_
  refine WO_guardY rfl rfl rfl rfl (lt_of rfl) ?_
  refine ev ?_
  refine ev ?_
  refine WO_nil ?_
  refine thenQ_n ?_
  refine W_cond rfl (fun h3 => ?_) (fun h3 => ?_)
  ·
    try simp only [HS] at h3
    refine W_seq ?_
    refine W_region ?_
    refine ev ?_
    refine WO_nil ?_
    refine thenQ_n ?_
    refine W_ret ?_
    refine thenQ_r ?_
    refine Ends_of (.inr rfl) (ret_okF rfl) (by decide) rfl ?_
    · first | rfl | (simp_all [eqCode_refl]; done)
  try simp only [HS] at h3
  refine W_skip ?_
  refine thenQ_n ?_
  iterate 2 (refine W_seq ?_)
  refine W_regionD mixed (by kernel_rfl) ?_
  first | refine QL_evZ tys rfl rfl (lt_of rfl) rfl rfl ?_ | refine evQ ?_ | refine WO_loadMove tys rfl rfl (lt_of rfl) rfl rfl rfl rfl rfl rfl ?_
  first | refine QL_evZ tys rfl rfl (lt_of rfl) rfl rfl ?_ | refine evQ ?_ | refine WO_loadMove tys rfl rfl (lt_of rfl) rfl rfl rfl rfl rfl rfl ?_
  refine callBQ ?_
  refine ⟨_, toCode_fun c hc, rfl, ?_⟩
  refine callBQ ?_
  refine ⟨_, eqCode_fun c c hx hx, rfl, ?_⟩
  refine QL_norm rfl ?_
  refine evQ ?_
  refine QL_nil ?_
  refine thenQ_n ?_
  refine W_cond rfl (fun h4 => ?_) (fun h4 => ?_)
  ·
    try simp only [HS] at h4
    refine W_seq ?_
    refine W_region ?_
    refine ev ?_
    refine WO_nil ?_
    refine thenQ_n ?_
    refine W_ret ?_
    refine thenQ_r ?_
    refine Ends_of (.inr rfl) (ret_okF rfl) (by decide) rfl ?_
    · first | rfl | (simp_all [eqCode_refl]; done)
  try simp only [HS] at h4
  refine W_skip ?_
  refine thenQ_n ?_
  refine W_seq ?_
  refine W_region ?_
  refine ev ?_
  refine WO_nil ?_
  refine thenQ_n ?_
  refine W_ret ?_
  refine Ends_of (.inr rfl) (ret_okF rfl) (by decide) rfl ?_
  · first | rfl | (simp_all [eqCode_refl]; done)
open Go.ChangeShapes Go.WideShapes Go.ChangeAt Go.RowKit Go.Eng

theorem Tryd.own : ownKnob Tryd.prog.godebug = none := by kernel_rfl
theorem rd_i {x : T} (h : Rd Tryd.prog 3 x) : ∃ n : Int, x = T.int n ∧ True := by
  obtain ⟨n, rfl, _⟩ := rd_int (k := .i64) (by kernel_rfl) h
  exact ⟨n, rfl, trivial⟩
theorem rd_ints {x : T} (h : Rd Tryd.prog 22 x) : ∃ l : List Int, x = T.ints l ∧ l.length ≤ 9223372036854775807 := by
  obtain ⟨l, rfl, h1, h2⟩ := rd_list (e := 3) (n := 1) (by kernel_rfl) (by kernel_rfl) (fun y hy => rd_i hy) h
  exact ⟨l, rfl, h1⟩
open Go.Eng

theorem rd_ins {x : T} (h : Rd Tryd.prog 66 x) : ∃ a : Ins, x = a.tt ∧ True := by
  obtain ⟨xs, rfl, h1⟩ := rd_struct (ts := [3, 3]) (by kernel_rfl) h
  match xs, h1 with
  | [x1, x2], ⟨h1, h2, _⟩ =>
    obtain ⟨k, rfl, _⟩ := rd_i h1
    obtain ⟨c, rfl, _⟩ := rd_i h2
    exact ⟨⟨k, c⟩, rfl, trivial⟩
theorem rd_inss {x : T} (h : Rd Tryd.prog 23 x) : ∃ l : List Ins, x = T.Inss l ∧ okN 9223372036854775807 l := by
  obtain ⟨l, rfl, h1, _⟩ := rd_list (e := 66) (n := 2) (by kernel_rfl) (by kernel_rfl) (fun y hy => rd_ins hy) h
  exact ⟨l, rfl, h1⟩
theorem rd_row {x : T} (h : Rd Tryd.prog 68 x) : ∃ a : Row, x = a.tt ∧ True := by
  obtain ⟨xs, rfl, h1⟩ := rd_struct (ts := [3, 3, 3]) (by kernel_rfl) h
  match xs, h1 with
  | [x1, x2, x3], ⟨h1, h2, h3, _⟩ =>
    obtain ⟨k, rfl, _⟩ := rd_i h1
    obtain ⟨c, rfl, _⟩ := rd_i h2
    obtain ⟨d, rfl, _⟩ := rd_i h3
    exact ⟨⟨k, c, d⟩, rfl, trivial⟩
theorem rd_rows {x : T} (h : Rd Tryd.prog 24 x) : ∃ l : List Row, x = T.Rows l ∧ okN 9223372036854775807 l := by
  obtain ⟨l, rfl, h1, _⟩ := rd_list (e := 68) (n := 3) (by kernel_rfl) (by kernel_rfl) (fun y hy => rd_row hy) h
  exact ⟨l, rfl, h1⟩
theorem rd_code {x : T} (h : Rd Tryd.prog 26 x) : ∃ a : Code, x = a.tt ∧ a.ok 9223372036854775807 := by
  obtain ⟨xs, rfl, h1⟩ := rd_struct (ts := [3, 3, 22, 23, 24]) (by kernel_rfl) h
  match xs, h1 with
  | [x1, x2, x3, x4, x5], ⟨h1, h2, h3, h4, h5, _⟩ =>
    obtain ⟨k, rfl, _⟩ := rd_i h1
    obtain ⟨c, rfl, _⟩ := rd_i h2
    obtain ⟨a, rfl, q1⟩ := rd_ints h3
    obtain ⟨b, rfl, q2⟩ := rd_inss h4
    obtain ⟨d, rfl, q3⟩ := rd_rows h5
    exact ⟨⟨k, c, a, b, d⟩, rfl, q1, q2, q3, trivial⟩
end Go.Proofs.YtafjkelehnpfcaaDoor
