/- The law of DropStmt. -/
import Derived.Test.YtimpganophnehaaHc
set_option linter.unusedVariables false
set_option linter.unusedSimpArgs false
set_option maxRecDepth 10000
set_option maxHeartbeats 1000000
namespace Go.Proofs.Ytimpganophnehaa
open Go.Eng

theorem ctS_left (gone : List Int) (s : Stmt) : ctStmt (leftS gone s) ≤ ctStmt s := by
  have h1 := leftG_len gone s.thn
  have h2 := leftG_len gone s.els
  show 1 + 1 + ctL ctTok s.ex + ((leftG gone s.thn).length : Int) + ((leftG gone s.els).length : Int) ≤ 1 + 1 + ctL ctTok s.ex + (s.thn.length : Int) + (s.els.length : Int)
  omega
theorem ctL_le2 {α β : Type} {ct : β → Int} {f g : α → β} : ∀ {l : List α}, (∀ x, x ∈ l → ct (f x) ≤ ct (g x)) → ctL ct (l.map f) ≤ ctL ct (l.map g)
  | [], _ => Int.le_refl _
  | x :: l, h => by
    have h1 := h x (by simp)
    have h2 := ctL_le2 (l := l) (f := f) (g := g) (ct := ct) fun y hy => h y (by simp [hy])
    unfold ctL at *
    simp only [List.map_cons, List.sum_cons]
    omega
theorem ctF_left (gone : List Int) (f : Func) : ctFunc (leftF gone f) ≤ ctFunc f := by
  have h1 := leftG_len gone f.body
  have h2 := ctL_le2 (ct := ctStmt) (f := leftS gone) (g := id) (l := pickC (wantG gone) 0 f.stmts) fun x _ => ctS_left gone x
  rw [List.map_id] at h2
  obtain ⟨R, hR⟩ := pickC_perm (wantG gone) 0 f.stmts
  have h3 := ctL_perm ctStmt hR
  rw [ctL_apps] at h3
  have h4 := ctL_pos ctStmt_pos R
  show 1 + 1 + ((leftG gone f.body).length : Int) + ctL ctStmt ((pickC (wantG gone) 0 f.stmts).map (leftS gone)) ≤ 1 + 1 + (f.body.length : Int) + ctL ctStmt f.stmts
  omega
theorem ct_dropQ (p : Prog) (fn s : Int) : ctProg (dropQ p fn s) ≤ ctProg p ∧ 0 ≤ ctProg (dropQ p fn s) := by
  refine ⟨?_, ctL_pos ctFunc_pos _⟩
  unfold dropQ
  split
  · show ctL ctFunc (dropP p fn s).funcs ≤ ctL ctFunc p.funcs
    conv => rhs; rw [funcs_at p]
    exact ctL_le2 (f := fun k : Nat => leftF (goneK p fn s k) (funcAt p k)) (g := fun k : Nat => funcAt p k) fun k _ => ctF_left _ _
  · exact ctL_pos ctFunc_pos p.funcs
theorem okF_left (gone : List Int) {B : Nat} {f : Func} (h : f.ok B) : (leftF gone f).ok B := by
  have hl := pickC_len (wantG gone) 0 f.stmts
  refine ⟨Nat.le_trans (leftG_len gone f.body) h.1, ⟨by show ((pickC (wantG gone) 0 f.stmts).map (leftS gone)).length ≤ B; rw [List.length_map]; exact Nat.le_trans hl h.2.1.1, fun s hs => ?_⟩, trivial⟩
  obtain ⟨s', hs', rfl⟩ := List.mem_map.1 hs
  obtain ⟨R, hR⟩ := pickC_perm (wantG gone) 0 f.stmts
  have := h.2.1.2 s' (hR.mem_iff.2 (List.mem_append_left _ hs'))
  exact ⟨this.1, Nat.le_trans (leftG_len gone s'.thn) this.2.1, Nat.le_trans (leftG_len gone s'.els) this.2.2.1, trivial⟩
theorem ok_dropP {p : Prog} {B : Nat} (hp : p.ok B) (fn s : Int) : (dropP p fn s).ok B := by
  refine ⟨⟨by rw [dropP_len]; exact hp.1.1, fun f hf => ?_⟩, trivial⟩
  obtain ⟨k, hk, rfl⟩ := List.mem_map.1 hf
  have hk := List.mem_range.1 hk
  rw [← funcAt_at (n := (k : Int)) (by omega)]
  exact okF_left _ (hp.1.2 _ (List.getElem_mem _))
theorem ok_dropQ {p : Prog} {B : Nat} (hp : p.ok B) (fn s : Int) : (dropQ p fn s).ok B := by
  unfold dropQ
  split
  · exact ok_dropP hp fn s
  · exact ⟨⟨Nat.zero_le _, by simp⟩, trivial⟩

theorem lawDropS_fun (p : Prog) (fn s : Int) (hp : p.ok 9223372036854775807) : Fun Try.prog 3 [.t p.tt, .t (.int fn), .t (.int s)] (tupD [.t (.bool true)]) := by
  refine Fun.begin tys Try.func3 rfl rfl (N := 106) [(0, .t p.tt), (1, .t (.int fn)), (2, .t (.int s))] rfl rfl (fun w0 G F0 => ?_)
  refine W_seq ?_
  refine W_region ?_
  refine WO_box rfl rfl (lt_of rfl) rfl rfl ?_
  refine WO_norm rfl ?_
  refine ev ?_
  refine WO_nil ?_
  refine thenQ_n ?_
  refine W_seq ?_
  refine W_region ?_
  refine ev ?_
  refine WO_nil ?_
  refine thenQ_n ?_
  refine W_seq ?_
  refine W_region ?_
  first | (refine ev ?_; try refine WO_le (Le.freeze (u := 18) rfl) ?_) | refine WO_loadMove tys rfl rfl (lt_of rfl) rfl rfl rfl rfl rfl rfl ?_
  refine WO_norm rfl ?_
  refine ev ?_
  refine callB ?_
  refine ⟨_, szProg_fun p 1048576 hp (by omega) (by omega), rfl, ?_⟩
  refine ev ?_
  refine WO_nil ?_
  refine thenQ_n ?_
  iterate 2 (refine W_seq ?_)
  refine W_keep [1, 2, 3, 6, 7] rfl ?_
  refine W_region ?_
  refine ev ?_
  refine ev ?_
  refine WO_nil ?_
  refine thenQ_n ?_
  refine W_cond rfl (fun h1 => ?_) (fun h1 => ?_)
  ·
    try simp only [HS] at h1
    refine W_seq ?_
    refine W_region ?_
    refine ev ?_
    refine WO_nil ?_
    refine thenQ_n ?_
    refine W_ret ?_
    refine thenQ_r ?_
    refine Ends_of (.inr rfl) (ret_okF rfl) (by decide) rfl ?_
    · rfl
  try simp only [HS] at h1
  refine W_skip ?_
  refine thenQ_n ?_
  refine W_seq ?_
  refine W_region ?_
  have okp := Prog.small h1
  have cp := ctProg_small h1
  have cr := ct_dropQ p fn s
  have c0 : 0 ≤ ctProg p := ctL_pos ctFunc_pos p.funcs
  have okr : (dropQ p fn s).ok 9223372036854775807 := ok_dropQ hp fn s
  first | (refine ev ?_; try refine WO_le (Le.freeze (u := 24) rfl) ?_) | refine WO_loadMove tys rfl rfl (lt_of rfl) rfl rfl rfl rfl rfl rfl ?_
  refine WO_norm rfl ?_
  refine callB ?_
  refine ⟨_, toProg_fun p okp, rfl, ?_⟩
  refine WO_le (Le.freeze (u := 25) rfl) ?_
  refine WO_norm rfl ?_
  refine ev ?_
  refine ev ?_
  refine callB ?_
  refine ⟨_, specDropS_fun p fn s okp, rfl, ?_⟩
  refine WO_moveAll rfl rfl (lt_of rfl) (.inr rfl) rfl rfl ?_
  refine WO_norm rfl ?_
  refine WO_extract rfl rfl (lt_of rfl) rfl rfl rfl rfl ?_
  refine WO_le (Le.freeze (u := 29) rfl) ?_
  refine WO_norm rfl ?_
  refine WO_keep [1, 2, 3, 6, 23, 29] rfl ?_
  first | refine WO_evF tys rfl rfl (lt_of rfl) (d := .t _) rfl ?_ | (refine WO_extract rfl rfl (lt_of rfl) rfl rfl rfl rfl ?_; first | refine WO_le (Le.adoptE (u := 30) 30 rfl (by first | exact lenN | exact rfl)) ?_ | skip)
  refine WO_norm rfl ?_
  refine WO_alloc tys rfl rfl (lt_of rfl) rfl rfl rfl ?_
  refine WO_norm rfl ?_
  refine WO_store tys rfl rfl rfl rfl rfl rfl rfl rfl (lt_of rfl) ?_
  refine WO_norm rfl ?_
  refine ev ?_
  refine WO_nil ?_
  refine thenQ_n ?_
  refine W_seq ?_
  refine W_region ?_
  first | (refine ev ?_; try refine WO_le (Le.freeze (u := 31) rfl) ?_) | refine WO_loadMove tys rfl rfl (lt_of rfl) rfl rfl rfl rfl rfl rfl ?_
  refine WO_norm rfl ?_
  refine callB ?_
  refine ⟨_, toProg_fun p okp, rfl, ?_⟩
  refine WO_exposeB (u := 32) 32 rfl rfl (fun v32 hv32 => ?_)
  obtain ⟨a32_0, rfl⟩ : ∃ a32_0, v32 = [a32_0] := by
    match v32, hv32 with
    | [a32_0], _ => exact ⟨_, rfl⟩
  refine WO_norm rfl ?_
  refine WO_alloc tys rfl rfl (lt_of rfl) rfl rfl rfl ?_
  refine WO_norm rfl ?_
  refine WO_store tys rfl rfl rfl rfl rfl rfl rfl rfl (lt_of rfl) ?_
  refine WO_norm rfl ?_
  refine WO_nil ?_
  refine thenQ_n ?_
  refine W_seq ?_
  refine W_keep [1, 2, 3, 6, 8, 9, 10] rfl ?_
  refine W_region ?_
  refine ev ?_
  refine WO_norm rfl ?_
  refine ev ?_
  refine ev ?_
  refine WO_call rfl rfl (lt_of rfl) rfl rfl (by refine ResL.rawA (id := 32) rfl rfl ?_; (first | refine ResL.t ?_ | refine ResL.own ?_ | refine ResL.aggT (by repeat (first | exact ResL.done | refine ResL.own ?_ | refine ResL.t ?_)) ?_ | refine ResL.slA rfl (by first | rfl | (simp; done) | (simp; omega)) ?_ | refine ResL.nil' ?_); (first | refine ResL.t ?_ | refine ResL.own ?_ | refine ResL.aggT (by repeat (first | exact ResL.done | refine ResL.own ?_ | refine ResL.t ?_)) ?_ | refine ResL.slA rfl (by first | rfl | (simp; done) | (simp; omega)) ?_ | refine ResL.nil' ?_); exact ResL.done) (implDropS_fun p fn s okp) rfl ?_
  refine WO_moveAll rfl rfl (lt_of rfl) (.inr rfl) rfl rfl ?_
  refine WO_norm rfl ?_
  refine WO_extract rfl rfl (lt_of rfl) rfl rfl rfl rfl ?_
  refine WO_exposeB (u := 38) 38 rfl rfl (fun v38 hv38 => ?_)
  obtain ⟨a38_0, rfl⟩ : ∃ a38_0, v38 = [a38_0] := by
    match v38, hv38 with
    | [a38_0], _ => exact ⟨_, rfl⟩
  refine WO_norm rfl ?_
  first | refine WO_evF tys rfl rfl (lt_of rfl) (d := .t _) rfl ?_ | (refine WO_extract rfl rfl (lt_of rfl) rfl rfl rfl rfl ?_; first | refine WO_le (Le.adoptE (u := 39) 39 rfl (by first | exact lenN | exact rfl)) ?_ | skip)
  refine WO_norm rfl ?_
  refine WO_alloc tys rfl rfl (lt_of rfl) rfl rfl rfl ?_
  refine WO_norm rfl ?_
  refine WO_store tys rfl rfl rfl rfl rfl rfl rfl rfl (lt_of rfl) ?_
  refine WO_norm rfl ?_
  refine WO_keep [1, 2, 3, 6, 8, 9, 10, 11, 39] rfl ?_
  refine ev ?_
  refine WO_nil ?_
  refine thenQ_n ?_
  iterate 2 (refine W_seq ?_)
  refine W_region ?_
  refine ev ?_
  refine WO_norm rfl ?_
  first | (refine ev ?_; try refine WO_le (Le.freeze (u := 41) rfl) ?_) | refine WO_loadMove tys rfl rfl (lt_of rfl) rfl rfl rfl rfl rfl rfl ?_
  refine WO_norm rfl ?_
  refine WO_call rfl rfl (lt_of rfl) rfl rfl (by refine ResL.rawA (id := 38) rfl rfl ?_; (first | refine ResL.t ?_ | refine ResL.own ?_ | refine ResL.aggT (by repeat (first | exact ResL.done | refine ResL.own ?_ | refine ResL.t ?_)) ?_ | refine ResL.slA rfl (by first | rfl | (simp; done) | (simp; omega)) ?_ | refine ResL.nil' ?_); exact ResL.done) (eqProg_fun (dropQ p fn s) (dropQ p fn s) okr okr) rfl ?_
  refine WO_le (Le.known (t := 42) true rfl (eqProg_refl _)) ?_
  refine ev ?_
  refine ev ?_
  refine WO_guardY rfl rfl rfl rfl (lt_of rfl) ?_
  refine ev ?_
  refine WO_guardY rfl rfl rfl rfl (lt_of rfl) ?_
  refine ev ?_
  refine WO_guardY rfl rfl rfl rfl (lt_of rfl) ?_
  refine ev ?_
  refine WO_le (Le.known (t := 47) false rfl (by simp)) ?_
  refine WO_keep [1, 2, 3, 6, 8, 9, 10, 11, 12, 44, 47] rfl ?_
  refine ev ?_
  refine WO_nil ?_
  refine thenQ_n ?_
  refine W_condF rfl ?_
  refine W_skip ?_
  refine thenQ_n ?_
  iterate 2 (refine W_seq ?_)
  refine W_regionD mixed (by kernel_rfl) ?_
  refine evQ ?_
  first | refine QL_evZ tys rfl rfl (lt_of rfl) rfl rfl ?_ | refine evQ ?_ | refine WO_loadMove tys rfl rfl (lt_of rfl) rfl rfl rfl rfl rfl rfl ?_
  refine callBQ ?_
  refine ⟨_, toProg_fun p okp, rfl, ?_⟩
  refine QL_call rfl rfl (lt_of rfl) rfl rfl (by refine ResL.rawA (id := 32) rfl rfl ?_; (first | refine ResL.t ?_ | refine ResL.own ?_ | refine ResL.aggT (by repeat (first | exact ResL.done | refine ResL.own ?_ | refine ResL.t ?_)) ?_ | refine ResL.slA rfl (by first | rfl | (simp; done) | (simp; omega)) ?_ | refine ResL.nil' ?_); exact ResL.done) (eqProg_fun p p hp hp) rfl ?_
  refine QL_known (v := true) (eqProg_refl _) ?_
  refine evQ ?_
  refine QL_norm rfl ?_
  refine QL_nil ?_
  refine thenQ_n ?_
  refine W_condF rfl ?_
  refine W_skip ?_
  refine thenQ_n ?_
  refine W_seq ?_
  refine W_region ?_
  refine ev ?_
  refine WO_nil ?_
  refine thenQ_n ?_
  refine W_seq ?_
  refine W_region ?_
  refine ev ?_
  refine WO_norm rfl ?_
  refine ev ?_
  refine WO_markS (id := 32) rfl rfl (lt_of rfl) rfl rfl rfl rfl rfl (markProg_m p 1 (by omega) (by omega)) ?_
  refine WO_norm rfl ?_
  refine ev ?_
  refine WO_nil ?_
  refine thenQ_n ?_
  iterate 2 (refine W_seq ?_)
  refine W_region ?_
  refine ev ?_
  refine ev ?_
  refine WO_le (Le.known (t := 58) false rfl (by simp; omega)) ?_
  refine ev ?_
  refine WO_guardY rfl rfl rfl rfl (lt_of rfl) ?_
  refine ev ?_
  refine WO_norm rfl ?_
  refine WO_keep [1, 2, 3, 6, 8, 9, 11, 12, 59, 60] rfl ?_
  refine WO_guardY rfl rfl rfl rfl (lt_of rfl) ?_
  first | (refine ev ?_; try refine WO_le (Le.freeze (u := 61) rfl) ?_) | refine WO_loadMove tys rfl rfl (lt_of rfl) rfl rfl rfl rfl rfl rfl ?_
  refine WO_norm rfl ?_
  refine WO_guardY rfl rfl rfl rfl (lt_of rfl) ?_
  refine WO_call rfl rfl (lt_of rfl) rfl rfl (by refine ResL.rawA (id := 38) rfl rfl ?_; (first | refine ResL.t ?_ | refine ResL.own ?_ | refine ResL.aggT (by repeat (first | exact ResL.done | refine ResL.own ?_ | refine ResL.t ?_)) ?_ | refine ResL.slA rfl (by first | rfl | (simp; done) | (simp; omega)) ?_ | refine ResL.nil' ?_); exact ResL.done) (eqProg_fun (dropQ p fn s) (dropQ p fn s) okr okr) rfl ?_
  refine WO_le (Le.known (t := 62) true rfl (eqProg_refl _)) ?_
  refine WO_guardY rfl rfl rfl rfl (lt_of rfl) ?_
  iterate 3 (refine ev ?_)
  refine WO_guardY rfl rfl rfl rfl (lt_of rfl) ?_
  refine ev ?_
  refine WO_guardY rfl rfl rfl rfl (lt_of rfl) ?_
  refine ev ?_
  refine WO_guardY rfl rfl rfl rfl (lt_of rfl) ?_
  refine ev ?_
  refine WO_le (Le.known (t := 68) false rfl (by simp)) ?_
  refine ev ?_
  refine WO_keep [1, 2, 3, 6, 8, 9, 11, 69] rfl ?_
  refine WO_nil ?_
  refine thenQ_n ?_
  refine W_condF rfl ?_
  refine W_skip ?_
  refine thenQ_n ?_
  refine W_seq ?_
  refine W_region ?_
  refine ev ?_
  refine WO_nil ?_
  refine thenQ_n ?_
  refine W_seq ?_
  refine W_region ?_
  refine ev ?_
  refine WO_norm rfl ?_
  refine ev ?_
  refine WO_markS (id := 38) rfl rfl (lt_of rfl) rfl rfl rfl rfl rfl (markProg_m (dropQ p fn s) 1 (by omega) (by omega)) ?_
  refine WO_norm rfl ?_
  refine ev ?_
  refine WO_nil ?_
  refine thenQ_n ?_
  refine W_seq ?_
  refine W_region ?_
  refine ev ?_
  refine WO_nil ?_
  refine thenQ_n ?_
  refine W_seq ?_
  refine W_region ?_
  refine ev ?_
  refine WO_norm rfl ?_
  refine ev ?_
  refine WO_call rfl rfl (lt_of rfl) rfl rfl (by refine ResL.rawA (id := 38) rfl rfl ?_; (first | refine ResL.t ?_ | refine ResL.own ?_ | refine ResL.aggT (by repeat (first | exact ResL.done | refine ResL.own ?_ | refine ResL.t ?_)) ?_ | refine ResL.slA rfl (by first | rfl | (simp; done) | (simp; omega)) ?_ | refine ResL.nil' ?_); exact ResL.done) (heldProg_mk (dropQ p fn s) 1 (by omega) (by omega)) rfl ?_
  refine WO_keep [1, 2, 3, 6, 8, 9, 11, 14, 15, 75] rfl ?_
  refine ev ?_
  refine WO_nil ?_
  refine thenQ_n ?_
  iterate 2 (refine W_seq ?_)
  refine W_region ?_
  refine ev ?_
  refine ev ?_
  refine WO_le (Le.known (t := 77) false rfl (by simp; omega)) ?_
  refine WO_nil ?_
  refine thenQ_n ?_
  refine W_condF rfl ?_
  refine W_skip ?_
  refine thenQ_n ?_
  iterate 2 (refine W_seq ?_)
  refine W_region ?_
  iterate 3 (refine ev ?_)
  refine WO_le (Le.known (t := 80) false rfl (by simp)) ?_
  refine WO_nil ?_
  refine thenQ_n ?_
  refine W_condF rfl ?_
  refine W_skip ?_
  refine thenQ_n ?_
  refine W_seq ?_
  refine W_region ?_
  first | (refine ev ?_; try refine WO_le (Le.freeze (u := 82) rfl) ?_) | refine WO_loadMove tys rfl rfl (lt_of rfl) rfl rfl rfl rfl rfl rfl ?_
  refine WO_norm rfl ?_
  refine callB ?_
  refine ⟨_, toProg_fun p okp, rfl, ?_⟩
  refine WO_le (Le.freeze (u := 83) rfl) ?_
  refine WO_norm rfl ?_
  refine ev ?_
  refine WO_keep [2, 6, 8, 9, 11, 14, 15, 83, 84] rfl ?_
  refine ev ?_
  refine callB ?_
  refine ⟨_, implDropS_fun p fn s okp, rfl, ?_⟩
  refine WO_moveAll rfl rfl (lt_of rfl) (.inr rfl) rfl rfl ?_
  refine WO_norm rfl ?_
  refine WO_extract rfl rfl (lt_of rfl) rfl rfl rfl rfl ?_
  refine WO_le (Le.freeze (u := 87) rfl) ?_
  refine WO_norm rfl ?_
  first | refine WO_evF tys rfl rfl (lt_of rfl) (d := .t _) rfl ?_ | (refine WO_extract rfl rfl (lt_of rfl) rfl rfl rfl rfl ?_; first | refine WO_le (Le.adoptE (u := 88) 88 rfl (by first | exact lenN | exact rfl)) ?_ | skip)
  refine WO_norm rfl ?_
  refine WO_alloc tys rfl rfl (lt_of rfl) rfl rfl rfl ?_
  refine WO_norm rfl ?_
  refine WO_store tys rfl rfl rfl rfl rfl rfl rfl rfl (lt_of rfl) ?_
  refine WO_norm rfl ?_
  refine ev ?_
  refine WO_nil ?_
  refine thenQ_n ?_
  iterate 2 (refine W_seq ?_)
  refine W_keep [6, 8, 9, 11, 14, 15, 16, 17] rfl ?_
  refine W_region ?_
  first | (refine ev ?_; try refine WO_le (Le.freeze (u := 89) rfl) ?_) | refine WO_loadMove tys rfl rfl (lt_of rfl) rfl rfl rfl rfl rfl rfl ?_
  refine WO_norm rfl ?_
  first | (refine ev ?_; try refine WO_le (Le.freeze (u := 90) rfl) ?_) | refine WO_loadMove tys rfl rfl (lt_of rfl) rfl rfl rfl rfl rfl rfl ?_
  refine WO_norm rfl ?_
  refine callB ?_
  refine ⟨_, eqProg_fun (dropQ p fn s) (dropQ p fn s) okr okr, rfl, ?_⟩
  refine WO_le (Le.known (t := 91) true rfl (eqProg_refl _)) ?_
  refine ev ?_
  refine ev ?_
  refine WO_guardY rfl rfl rfl rfl (lt_of rfl) ?_
  refine ev ?_
  refine WO_guardY rfl rfl rfl rfl (lt_of rfl) ?_
  refine ev ?_
  refine WO_guardY rfl rfl rfl rfl (lt_of rfl) ?_
  refine ev ?_
  refine WO_le (Le.known (t := 96) false rfl (by simp)) ?_
  refine ev ?_
  refine WO_keep [6, 11, 14, 15, 97] rfl ?_
  refine WO_nil ?_
  refine thenQ_n ?_
  refine W_condF rfl ?_
  refine W_skip ?_
  refine thenQ_n ?_
  refine W_seq ?_
  refine W_region ?_
  refine ev ?_
  refine WO_nil ?_
  refine thenQ_n ?_
  refine W_seq ?_
  refine W_region ?_
  refine ev ?_
  refine WO_norm rfl ?_
  refine ev ?_
  refine WO_call rfl rfl (lt_of rfl) rfl rfl (by refine ResL.rawA (id := 38) rfl rfl ?_; (first | refine ResL.t ?_ | refine ResL.own ?_ | refine ResL.aggT (by repeat (first | exact ResL.done | refine ResL.own ?_ | refine ResL.t ?_)) ?_ | refine ResL.slA rfl (by first | rfl | (simp; done) | (simp; omega)) ?_ | refine ResL.nil' ?_); exact ResL.done) (heldProg_mk (dropQ p fn s) 1 (by omega) (by omega)) rfl ?_
  refine ev ?_
  refine WO_nil ?_
  refine thenQ_n ?_
  iterate 2 (refine W_seq ?_)
  refine W_region ?_
  refine ev ?_
  refine ev ?_
  refine WO_le (Le.known (t := 102) false rfl (by simp; omega)) ?_
  refine WO_nil ?_
  refine thenQ_n ?_
  refine W_condF rfl ?_
  refine W_skip ?_
  refine thenQ_n ?_
  iterate 2 (refine W_seq ?_)
  refine W_keep [6, 14, 15] rfl ?_
  refine W_region ?_
  iterate 3 (refine ev ?_)
  refine WO_le (Le.known (t := 105) false rfl (by simp)) ?_
  refine WO_nil ?_
  refine thenQ_n ?_
  refine W_condF rfl ?_
  refine W_skip ?_
  refine thenQ_n ?_
  refine W_seq ?_
  refine W_region ?_
  refine ev ?_
  refine WO_nil ?_
  refine thenQ_n ?_
  refine W_ret ?_
  refine Ends_of (.inr rfl) (ret_okF rfl) (by decide) rfl ?_
  · rfl

end Go.Proofs.Ytimpganophnehaa
