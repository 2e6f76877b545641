/- Walks of DropStmt, and of its law. -/
import Derived.Test.YtimpganophnehaaHb
import Derived.Test.YtimpganophnehaaGw
set_option linter.unusedVariables false
set_option linter.unusedSimpArgs false
set_option maxRecDepth 10000
set_option maxHeartbeats 1000000
namespace Go.Proofs.Ytimpganophnehaa
open Go.Eng

def dropOk (p : Prog) (fn s : Int) : Bool := goodP p && (decide (0 ≤ fn ∧ fn < p.funcs.length) && decide (0 ≤ s ∧ s < (funcAt p fn).stmts.length))
def dropQ (p : Prog) (fn s : Int) : Prog := if dropOk p fn s then dropP p fn s else ⟨[]⟩
theorem dropQ_yes {p : Prog} {fn s : Int} (h1 : goodP p = true) (h2 : 0 ≤ fn ∧ fn < p.funcs.length) (h3 : 0 ≤ s ∧ s < (funcAt p fn).stmts.length) : [D.agg [D.own (T.Funcs (dropP p fn s).funcs)], D.t (T.v (.bool true))] = [D.agg [D.own (T.Funcs (dropQ p fn s).funcs)], D.t (T.bool (dropOk p fn s))] := by
  have h : dropOk p fn s = true := by simp [dropOk, h1, h2, h3]
  rw [dropQ, h]; rfl
theorem dropQ_no {p : Prog} {fn s : Int} (h : dropOk p fn s = false) : [D.agg [D.own (T.list 4 [])], D.t (T.v (.bool false))] = [D.agg [D.own (T.Funcs (dropQ p fn s).funcs)], D.t (T.bool (dropOk p fn s))] := by
  rw [dropQ, h]; rfl

theorem specDropS_fun (p : Prog) (fn s : Int) (hp : p.ok 1048576) : Fun Try.prog 7 [.t p.tt, .t (.int fn), .t (.int s)] (tupD [.agg [.own (T.Funcs (dropQ p fn s).funcs)], .t (.bool (dropOk p fn s))]) := by
  have hpl : p.funcs.length ≤ 1048576 := hp.1.1
  refine Fun.begin tys Try.func7 rfl rfl (N := 38) [(0, .t p.tt), (1, .t (.int fn)), (2, .t (.int s))] rfl rfl (fun w0 G F0 => ?_)
  refine W_seq ?_
  refine W_region ?_
  refine WO_box rfl rfl (lt_of rfl) rfl rfl ?_
  refine WO_norm rfl ?_
  refine WO_alloc tys rfl rfl (lt_of rfl) rfl rfl rfl ?_
  refine WO_norm rfl ?_
  refine ev ?_
  refine WO_nil ?_
  refine thenQ_n ?_
  iterate 2 (refine W_seq ?_)
  refine W_region ?_
  first | (refine ev ?_; try refine WO_le (Le.freeze (u := 8) rfl) ?_) | refine WO_loadMove tys rfl rfl (lt_of rfl) rfl rfl rfl rfl rfl rfl ?_
  refine WO_norm rfl ?_
  refine callB ?_
  refine ⟨_, goodProg_fun p hp, rfl, ?_⟩
  refine ev ?_
  refine ev ?_
  refine WO_guard rfl rfl rfl rfl (lt_of rfl) (fun h1 => ?_) (fun h1 => ?_)
  rotate_left
  ·
    try simp only [HS] at h1
    iterate 2 (refine WO_guardN rfl rfl rfl rfl rfl (lt_of rfl) ?_)
    refine WO_keep [1, 2, 3, 6, 7, 11, 12, 14] rfl ?_
    iterate 4 (refine WO_guardN rfl rfl rfl rfl rfl (lt_of rfl) ?_)
    refine ev ?_
    refine ev ?_
    iterate 3 (refine WO_guardN rfl rfl rfl rfl rfl (lt_of rfl) ?_)
    refine WO_keep [1, 2, 3, 6, 7, 20, 21, 23] rfl ?_
    iterate 8 (refine WO_guardN rfl rfl rfl rfl rfl (lt_of rfl) ?_)
    refine ev ?_
    refine WO_keep [1, 2, 3, 6, 7, 32] rfl ?_
    refine WO_nil ?_
    refine thenQ_n ?_
    refine W_condT rfl ?_
    refine W_seq ?_
    refine W_region ?_
    refine WO_struct tys rfl rfl (lt_of rfl) rfl rfl rfl (by kernel_rfl) rfl rfl rfl rfl rfl rfl ?_
    refine WO_store tys rfl rfl rfl rfl rfl rfl rfl rfl (lt_of rfl) ?_
    refine WO_norm rfl ?_
    refine ev ?_
    refine WO_nil ?_
    refine thenQ_n ?_
    try (refine W_le (Le.nilBox (u := 6) (j := 0) 4 rfl rfl) ?_; refine W_norm rfl ?_)
    refine W_ret ?_
    refine thenQ_r ?_
    refine Ends_of (.inr rfl) (ret_okF rfl) (by decide) rfl ?_
    · first
      | exact dropQ_yes (by assumption) (by omega) (by rw [← funcAt_at (n := fn) (by omega)]; omega)
      | (refine dropQ_no ?_; unfold dropOk; rw [← Bool.not_eq_true]; simp only [Bool.and_eq_true, decide_eq_true_eq]; rintro ⟨g1, g2, g3⟩; first | omega | (simp_all; done) | (rw [← funcAt_at (n := fn) (by omega)] at g3; omega))
  try simp only [HS] at h1
  refine ev ?_
  refine WO_guardY rfl rfl rfl rfl (lt_of rfl) ?_
  refine ev ?_
  refine WO_keep [1, 2, 3, 6, 7, 11, 12, 13] rfl ?_
  refine WO_guardY rfl rfl rfl rfl (lt_of rfl) ?_
  refine ev ?_
  refine WO_guardY rfl rfl rfl rfl (lt_of rfl) ?_
  refine evE ?_
  refine WO_guardY rfl rfl rfl rfl (lt_of rfl) ?_
  refine evI ?_
  refine WO_guardY rfl rfl rfl rfl (lt_of rfl) ?_
  refine callB ?_
  refine ⟨_, l1In_fun _ _ _, rfl, ?_⟩
  refine WO_guardY rfl rfl rfl rfl (lt_of rfl) ?_
  iterate 3 (refine ev ?_)
  refine WO_guard rfl rfl rfl rfl (lt_of rfl) (fun h2 => ?_) (fun h2 => ?_)
  rotate_left
  ·
    try simp only [HS] at h2
    iterate 2 (refine WO_guardN rfl rfl rfl rfl rfl (lt_of rfl) ?_)
    refine WO_keep [1, 2, 3, 6, 7, 20, 21, 23] rfl ?_
    iterate 8 (refine WO_guardN rfl rfl rfl rfl rfl (lt_of rfl) ?_)
    refine ev ?_
    refine WO_keep [1, 2, 3, 6, 7, 32] rfl ?_
    refine WO_nil ?_
    refine thenQ_n ?_
    refine W_condT rfl ?_
    refine W_seq ?_
    refine W_region ?_
    refine WO_struct tys rfl rfl (lt_of rfl) rfl rfl rfl (by kernel_rfl) rfl rfl rfl rfl rfl rfl ?_
    refine WO_store tys rfl rfl rfl rfl rfl rfl rfl rfl (lt_of rfl) ?_
    refine WO_norm rfl ?_
    refine ev ?_
    refine WO_nil ?_
    refine thenQ_n ?_
    try (refine W_le (Le.nilBox (u := 6) (j := 0) 4 rfl rfl) ?_; refine W_norm rfl ?_)
    refine W_ret ?_
    refine thenQ_r ?_
    refine Ends_of (.inr rfl) (ret_okF rfl) (by decide) rfl ?_
    · first
      | exact dropQ_yes (by assumption) (by omega) (by rw [← funcAt_at (n := fn) (by omega)]; omega)
      | (refine dropQ_no ?_; unfold dropOk; rw [← Bool.not_eq_true]; simp only [Bool.and_eq_true, decide_eq_true_eq]; rintro ⟨g1, g2, g3⟩; first | omega | (simp_all; done) | (rw [← funcAt_at (n := fn) (by omega)] at g3; omega))
  try simp only [HS] at h2
  refine ev ?_
  refine WO_guardY rfl rfl rfl rfl (lt_of rfl) ?_
  refine ev ?_
  refine WO_keep [1, 2, 3, 6, 7, 20, 21, 22] rfl ?_
  refine WO_guardY rfl rfl rfl rfl (lt_of rfl) ?_
  refine ev ?_
  refine WO_guardY rfl rfl rfl rfl (lt_of rfl) ?_
  refine ev ?_
  refine WO_guardY rfl rfl rfl rfl (lt_of rfl) ?_
  have hso := (func_ok hp (n := fn.toNat) (by omega)).2.1.1
  have hfa := funcAt_at (p := p) (n := fn) (by omega)
  first | refine WO_idxT tys rfl rfl (lt_of rfl) rfl rfl rfl rfl rfl rfl rfl (by omega) _ (getT _ _ (by omega) (by omega)) ?_ | refine WO_idxS tys rfl rfl (lt_of rfl) rfl rfl rfl rfl rfl rfl rfl rfl (by omega) (by omega) ?_
  refine WO_guardY rfl rfl rfl rfl (lt_of rfl) ?_
  refine ev ?_
  refine WO_guardY rfl rfl rfl rfl (lt_of rfl) ?_
  first | refine ev ?_ | refine WO_loadL tys rfl rfl (lt_of rfl) rfl rfl rfl rfl (getT _ _ (by omega) (by omega)) rfl ?_ | refine WO_loadL tys rfl rfl (lt_of rfl) rfl rfl rfl rfl (getT0 _ _ (by omega) (by omega)) rfl ?_
  refine WO_guardY rfl rfl rfl rfl (lt_of rfl) ?_
  refine evE ?_
  refine WO_guardY rfl rfl rfl rfl (lt_of rfl) ?_
  refine evI ?_
  refine WO_guardY rfl rfl rfl rfl (lt_of rfl) ?_
  refine callB ?_
  refine ⟨_, l1In_fun _ _ _, rfl, ?_⟩
  refine WO_guardY rfl rfl rfl rfl (lt_of rfl) ?_
  refine ev ?_
  refine WO_keep [1, 2, 3, 6, 7, 20, 31] rfl ?_
  refine ev ?_
  refine WO_nil ?_
  refine thenQ_n ?_
  refine W_cond rfl (fun h3 => ?_) (fun h3 => ?_)
  ·
    try simp only [HS] at h3
    refine W_seq ?_
    refine W_region ?_
    refine WO_struct tys rfl rfl (lt_of rfl) rfl rfl rfl (by kernel_rfl) rfl rfl rfl rfl rfl rfl ?_
    refine WO_store tys rfl rfl rfl rfl rfl rfl rfl rfl (lt_of rfl) ?_
    refine WO_norm rfl ?_
    refine ev ?_
    refine WO_nil ?_
    refine thenQ_n ?_
    try (refine W_le (Le.nilBox (u := 6) (j := 0) 4 rfl rfl) ?_; refine W_norm rfl ?_)
    refine W_ret ?_
    refine thenQ_r ?_
    refine Ends_of (.inr rfl) (ret_okF rfl) (by decide) rfl ?_
    · first
      | exact dropQ_yes (by assumption) (by omega) (by rw [← funcAt_at (n := fn) (by omega)]; omega)
      | (refine dropQ_no ?_; unfold dropOk; rw [← Bool.not_eq_true]; simp only [Bool.and_eq_true, decide_eq_true_eq]; rintro ⟨g1, g2, g3⟩; first | omega | (simp_all; done) | (rw [← funcAt_at (n := fn) (by omega)] at g3; omega))
  try simp only [HS] at h3
  refine W_skip ?_
  refine thenQ_n ?_
  refine W_seq ?_
  refine W_region ?_
  first | (refine ev ?_; try refine WO_le (Le.freeze (u := 34) rfl) ?_) | refine WO_loadMove tys rfl rfl (lt_of rfl) rfl rfl rfl rfl rfl rfl ?_
  refine WO_norm rfl ?_
  refine ev ?_
  refine ev ?_
  refine callB ?_
  refine ⟨_, l18Drop_fun p fn s hp (by assumption) (by omega) (by omega) (by omega) (by rw [← funcAt_at (n := fn) (by omega)]; omega), rfl, ?_⟩
  refine WO_store tys rfl rfl rfl rfl rfl rfl rfl rfl (lt_of rfl) ?_
  refine WO_norm rfl ?_
  refine ev ?_
  refine WO_nil ?_
  refine thenQ_n ?_
  try (refine W_le (Le.nilBox (u := 6) (j := 0) 4 rfl rfl) ?_; refine W_norm rfl ?_)
  refine W_ret ?_
  refine Ends_of (.inr rfl) (ret_okF rfl) (by decide) rfl ?_
  · first
    | exact dropQ_yes (by assumption) (by omega) (by rw [← funcAt_at (n := fn) (by omega)]; omega)
    | (refine dropQ_no ?_; unfold dropOk; rw [← Bool.not_eq_true]; simp only [Bool.and_eq_true, decide_eq_true_eq]; rintro ⟨g1, g2, g3⟩; first | omega | (simp_all; done) | (rw [← funcAt_at (n := fn) (by omega)] at g3; omega))

theorem implDropS_fun (p : Prog) (fn s : Int) (hp : p.ok 1048576) : Fun Try.prog 9 [.t p.tt, .t (.int fn), .t (.int s)] (tupD [.agg [.own (T.Funcs (dropQ p fn s).funcs)], .t (.bool (dropOk p fn s))]) := by
  have hpl : p.funcs.length ≤ 1048576 := hp.1.1
  refine Fun.begin tys Try.func9 rfl rfl (N := 38) [(0, .t p.tt), (1, .t (.int fn)), (2, .t (.int s))] rfl rfl (fun w0 G F0 => ?_)
  refine W_seq ?_
  refine W_region ?_
  refine WO_box rfl rfl (lt_of rfl) rfl rfl ?_
  refine WO_norm rfl ?_
  refine WO_alloc tys rfl rfl (lt_of rfl) rfl rfl rfl ?_
  refine WO_norm rfl ?_
  refine ev ?_
  refine WO_nil ?_
  refine thenQ_n ?_
  iterate 2 (refine W_seq ?_)
  refine W_region ?_
  first | (refine ev ?_; try refine WO_le (Le.freeze (u := 8) rfl) ?_) | refine WO_loadMove tys rfl rfl (lt_of rfl) rfl rfl rfl rfl rfl rfl ?_
  refine WO_norm rfl ?_
  refine callB ?_
  refine ⟨_, isProg_fun p hp, rfl, ?_⟩
  refine ev ?_
  refine ev ?_
  refine WO_guard rfl rfl rfl rfl (lt_of rfl) (fun h1 => ?_) (fun h1 => ?_)
  rotate_left
  ·
    try simp only [HS] at h1
    iterate 2 (refine WO_guardN rfl rfl rfl rfl rfl (lt_of rfl) ?_)
    refine WO_keep [1, 2, 3, 6, 7, 11, 12, 14] rfl ?_
    iterate 4 (refine WO_guardN rfl rfl rfl rfl rfl (lt_of rfl) ?_)
    refine ev ?_
    refine ev ?_
    iterate 3 (refine WO_guardN rfl rfl rfl rfl rfl (lt_of rfl) ?_)
    refine WO_keep [1, 2, 3, 6, 7, 20, 21, 23] rfl ?_
    iterate 8 (refine WO_guardN rfl rfl rfl rfl rfl (lt_of rfl) ?_)
    refine ev ?_
    refine WO_keep [1, 2, 3, 6, 7, 32] rfl ?_
    refine WO_nil ?_
    refine thenQ_n ?_
    refine W_condT rfl ?_
    refine W_seq ?_
    refine W_region ?_
    refine WO_struct tys rfl rfl (lt_of rfl) rfl rfl rfl (by kernel_rfl) rfl rfl rfl rfl rfl rfl ?_
    refine WO_store tys rfl rfl rfl rfl rfl rfl rfl rfl (lt_of rfl) ?_
    refine WO_norm rfl ?_
    refine ev ?_
    refine WO_nil ?_
    refine thenQ_n ?_
    try (refine W_le (Le.nilBox (u := 6) (j := 0) 4 rfl rfl) ?_; refine W_norm rfl ?_)
    refine W_ret ?_
    refine thenQ_r ?_
    refine Ends_of (.inr rfl) (ret_okF rfl) (by decide) rfl ?_
    · first
      | exact dropQ_yes (by assumption) (by omega) (by rw [← funcAt_at (n := fn) (by omega)]; omega)
      | (refine dropQ_no ?_; unfold dropOk; rw [← Bool.not_eq_true]; simp only [Bool.and_eq_true, decide_eq_true_eq]; rintro ⟨g1, g2, g3⟩; first | omega | (simp_all; done) | (rw [← funcAt_at (n := fn) (by omega)] at g3; omega))
  try simp only [HS] at h1
  refine ev ?_
  refine WO_guardY rfl rfl rfl rfl (lt_of rfl) ?_
  refine ev ?_
  refine WO_keep [1, 2, 3, 6, 7, 11, 12, 13] rfl ?_
  refine WO_guardY rfl rfl rfl rfl (lt_of rfl) ?_
  refine ev ?_
  refine WO_guardY rfl rfl rfl rfl (lt_of rfl) ?_
  refine evE ?_
  refine WO_guardY rfl rfl rfl rfl (lt_of rfl) ?_
  refine evI ?_
  refine WO_guardY rfl rfl rfl rfl (lt_of rfl) ?_
  refine callB ?_
  refine ⟨_, within_fun _ _ _, rfl, ?_⟩
  refine WO_guardY rfl rfl rfl rfl (lt_of rfl) ?_
  iterate 3 (refine ev ?_)
  refine WO_guard rfl rfl rfl rfl (lt_of rfl) (fun h2 => ?_) (fun h2 => ?_)
  rotate_left
  ·
    try simp only [HS] at h2
    iterate 2 (refine WO_guardN rfl rfl rfl rfl rfl (lt_of rfl) ?_)
    refine WO_keep [1, 2, 3, 6, 7, 20, 21, 23] rfl ?_
    iterate 8 (refine WO_guardN rfl rfl rfl rfl rfl (lt_of rfl) ?_)
    refine ev ?_
    refine WO_keep [1, 2, 3, 6, 7, 32] rfl ?_
    refine WO_nil ?_
    refine thenQ_n ?_
    refine W_condT rfl ?_
    refine W_seq ?_
    refine W_region ?_
    refine WO_struct tys rfl rfl (lt_of rfl) rfl rfl rfl (by kernel_rfl) rfl rfl rfl rfl rfl rfl ?_
    refine WO_store tys rfl rfl rfl rfl rfl rfl rfl rfl (lt_of rfl) ?_
    refine WO_norm rfl ?_
    refine ev ?_
    refine WO_nil ?_
    refine thenQ_n ?_
    try (refine W_le (Le.nilBox (u := 6) (j := 0) 4 rfl rfl) ?_; refine W_norm rfl ?_)
    refine W_ret ?_
    refine thenQ_r ?_
    refine Ends_of (.inr rfl) (ret_okF rfl) (by decide) rfl ?_
    · first
      | exact dropQ_yes (by assumption) (by omega) (by rw [← funcAt_at (n := fn) (by omega)]; omega)
      | (refine dropQ_no ?_; unfold dropOk; rw [← Bool.not_eq_true]; simp only [Bool.and_eq_true, decide_eq_true_eq]; rintro ⟨g1, g2, g3⟩; first | omega | (simp_all; done) | (rw [← funcAt_at (n := fn) (by omega)] at g3; omega))
  try simp only [HS] at h2
  refine ev ?_
  refine WO_guardY rfl rfl rfl rfl (lt_of rfl) ?_
  refine ev ?_
  refine WO_keep [1, 2, 3, 6, 7, 20, 21, 22] rfl ?_
  refine WO_guardY rfl rfl rfl rfl (lt_of rfl) ?_
  refine ev ?_
  refine WO_guardY rfl rfl rfl rfl (lt_of rfl) ?_
  refine ev ?_
  refine WO_guardY rfl rfl rfl rfl (lt_of rfl) ?_
  have hso := (func_ok hp (n := fn.toNat) (by omega)).2.1.1
  first | refine WO_idxT tys rfl rfl (lt_of rfl) rfl rfl rfl rfl rfl rfl rfl (by omega) _ (getT _ _ (by omega) (by omega)) ?_ | refine WO_idxS tys rfl rfl (lt_of rfl) rfl rfl rfl rfl rfl rfl rfl rfl (by omega) (by omega) ?_
  refine WO_guardY rfl rfl rfl rfl (lt_of rfl) ?_
  refine ev ?_
  refine WO_guardY rfl rfl rfl rfl (lt_of rfl) ?_
  first | refine ev ?_ | refine WO_loadL tys rfl rfl (lt_of rfl) rfl rfl rfl rfl (getT _ _ (by omega) (by omega)) rfl ?_ | refine WO_loadL tys rfl rfl (lt_of rfl) rfl rfl rfl rfl (getT0 _ _ (by omega) (by omega)) rfl ?_
  refine WO_guardY rfl rfl rfl rfl (lt_of rfl) ?_
  refine evE ?_
  refine WO_guardY rfl rfl rfl rfl (lt_of rfl) ?_
  refine evI ?_
  refine WO_guardY rfl rfl rfl rfl (lt_of rfl) ?_
  refine callB ?_
  refine ⟨_, within_fun _ _ _, rfl, ?_⟩
  refine WO_guardY rfl rfl rfl rfl (lt_of rfl) ?_
  refine ev ?_
  refine WO_keep [1, 2, 3, 6, 7, 20, 31] rfl ?_
  refine ev ?_
  refine WO_nil ?_
  refine thenQ_n ?_
  refine W_cond rfl (fun h3 => ?_) (fun h3 => ?_)
  ·
    try simp only [HS] at h3
    refine W_seq ?_
    refine W_region ?_
    refine WO_struct tys rfl rfl (lt_of rfl) rfl rfl rfl (by kernel_rfl) rfl rfl rfl rfl rfl rfl ?_
    refine WO_store tys rfl rfl rfl rfl rfl rfl rfl rfl (lt_of rfl) ?_
    refine WO_norm rfl ?_
    refine ev ?_
    refine WO_nil ?_
    refine thenQ_n ?_
    try (refine W_le (Le.nilBox (u := 6) (j := 0) 4 rfl rfl) ?_; refine W_norm rfl ?_)
    refine W_ret ?_
    refine thenQ_r ?_
    refine Ends_of (.inr rfl) (ret_okF rfl) (by decide) rfl ?_
    · first
      | exact dropQ_yes (by assumption) (by omega) (by rw [← funcAt_at (n := fn) (by omega)]; omega)
      | (refine dropQ_no ?_; unfold dropOk; rw [← Bool.not_eq_true]; simp only [Bool.and_eq_true, decide_eq_true_eq]; rintro ⟨g1, g2, g3⟩; first | omega | (simp_all; done) | (rw [← funcAt_at (n := fn) (by omega)] at g3; omega))
  try simp only [HS] at h3
  refine W_skip ?_
  refine thenQ_n ?_
  refine W_seq ?_
  refine W_region ?_
  first | (refine ev ?_; try refine WO_le (Le.freeze (u := 34) rfl) ?_) | refine WO_loadMove tys rfl rfl (lt_of rfl) rfl rfl rfl rfl rfl rfl ?_
  refine WO_norm rfl ?_
  refine ev ?_
  refine ev ?_
  refine callB ?_
  refine ⟨_, dropI_fun p fn s hp (by assumption) (by omega) (by omega) (by omega) (by rw [← funcAt_at (n := fn) (by omega)]; omega), rfl, ?_⟩
  refine WO_store tys rfl rfl rfl rfl rfl rfl rfl rfl (lt_of rfl) ?_
  refine WO_norm rfl ?_
  refine ev ?_
  refine WO_nil ?_
  refine thenQ_n ?_
  try (refine W_le (Le.nilBox (u := 6) (j := 0) 4 rfl rfl) ?_; refine W_norm rfl ?_)
  refine W_ret ?_
  refine Ends_of (.inr rfl) (ret_okF rfl) (by decide) rfl ?_
  · first
    | exact dropQ_yes (by assumption) (by omega) (by rw [← funcAt_at (n := fn) (by omega)]; omega)
    | (refine dropQ_no ?_; unfold dropOk; rw [← Bool.not_eq_true]; simp only [Bool.and_eq_true, decide_eq_true_eq]; rintro ⟨g1, g2, g3⟩; first | omega | (simp_all; done) | (rw [← funcAt_at (n := fn) (by omega)] at g3; omega))

end Go.Proofs.Ytimpganophnehaa
