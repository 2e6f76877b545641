/- The law of MoveFuncs. -/
import Derived.Test.YtjnkcoaiccbmpaaGq
set_option linter.unusedVariables false
set_option linter.unusedSimpArgs false
set_option maxRecDepth 10000
set_option maxHeartbeats 1000000
namespace Go.Proofs.Ytjnkcoaiccbmpaa
open Go.Eng

theorem ctL_map {α β : Type} {ct : α → Int} {ct' : β → Int} {g : β → α} (h : ∀ x, ct (g x) = ct' x) (l : List β) : ctL ct (l.map g) = ctL ct' l := by
  induction l with
  | nil => rfl
  | cons x l ih => rw [List.map_cons, ctL_cons, ctL_cons, h, ih]
theorem ctL_perm {α : Type} (ct : α → Int) {l l' : List α} (h : l.Perm l') : ctL ct l = ctL ct l' := by
  induction h with
  | nil => rfl
  | cons x _ ih => rw [ctL_cons, ctL_cons, ih]
  | swap x y l => rw [ctL_cons, ctL_cons, ctL_cons, ctL_cons]; omega
  | trans _ _ h1 h2 => rw [h1, h2]
theorem ctS_mov (to : List Int) (s : Stmt) : ctStmt (movS to s) = ctStmt s := by
  have h : ctL ctTok (s.ex.map (movT to)) = ctL ctTok s.ex := ctL_map (fun _ => rfl) s.ex
  show 1 + 1 + ctL ctTok (s.ex.map (movT to)) + (s.thn.length : Int) + (s.els.length : Int) = ctStmt s
  rw [h]; rfl
theorem ctF_mov (to : List Int) (f : Func) : ctFunc (movF to f) = ctFunc f := by
  have h : ctL ctStmt (f.stmts.map (movS to)) = ctL ctStmt f.stmts := ctL_map (ctS_mov to) f.stmts
  show 1 + 1 + (f.body.length : Int) + ctL ctStmt (f.stmts.map (movS to)) = ctFunc f
  rw [h]; rfl
theorem okF_mov (to : List Int) {B : Nat} {f : Func} (h : f.ok B) : (movF to f).ok B := by
  refine ⟨h.1, ⟨by show (f.stmts.map (movS to)).length ≤ B; rw [List.length_map]; exact h.2.1.1, fun s hs => ?_⟩, trivial⟩
  obtain ⟨s', hs', rfl⟩ := List.mem_map.1 hs
  have := h.2.1.2 s' hs'
  exact ⟨by show (s'.ex.map (movT to)).length ≤ B; rw [List.length_map]; exact this.1, this.2.1, this.2.2.1, trivial⟩
theorem moveR_perm {p : Prog} {to : List Int} (h : moveB p to = true) : (moveR p to).funcs.Perm (p.funcs.map (movF to)) := by
  have e : (moveR p to).funcs = placed zF to (p.funcs.map (movF to)) to.length := by rw [moveR, if_pos h]
  rw [e]
  unfold moveB at h
  simp only [Bool.and_eq_true, decide_eq_true_eq] at h
  obtain ⟨⟨⟨⟨h1, h2⟩, h3⟩, h4⟩, h5⟩ := h
  exact placed_perm (fun x hx => by have := allIn_mem h3 x hx; omega) h5 (by rw [List.length_map, h2])
theorem moveR_nil {p : Prog} {to : List Int} (h : ¬ moveB p to = true) : moveR p to = ⟨[]⟩ := by rw [moveR, if_neg h]
theorem ct_moveR (p : Prog) (to : List Int) : ctProg (moveR p to) ≤ ctProg p ∧ 0 ≤ ctProg (moveR p to) := by
  refine ⟨?_, ctL_pos ctFunc_pos _⟩
  by_cases h : moveB p to = true
  · show ctL ctFunc (moveR p to).funcs ≤ ctL ctFunc p.funcs
    rw [ctL_perm ctFunc (moveR_perm h), ctL_map (ctF_mov to)]
    exact Int.le_refl _
  · rw [moveR_nil h]
    exact ctL_pos ctFunc_pos p.funcs
theorem ok_moveR {p : Prog} {to : List Int} {B : Nat} (hp : p.ok B) : (moveR p to).ok B := by
  by_cases h : moveB p to = true
  · have hq := moveR_perm h
    refine ⟨⟨by rw [hq.length_eq, List.length_map]; exact hp.1.1, fun f hf => ?_⟩, trivial⟩
    obtain ⟨g, hg, rfl⟩ := List.mem_map.1 (hq.mem_iff.1 hf)
    exact okF_mov to (hp.1.2 g hg)
  · rw [moveR_nil h]
    exact ⟨⟨Nat.zero_le _, by simp⟩, trivial⟩

theorem eqIm_refl (l : List Int) : eqL eqI l l = true := eqL_refl eqI_refl l

theorem lawMove_fun (p : Prog) (to : List Int) (hp : p.ok 9223372036854775807) (hl : to.length ≤ 9223372036854775807) : Fun Try.prog 13 [.t p.tt, .t (T.ints to)] (tupD [.t (.bool true)]) := by
  refine Fun.begin tys Try.func13 rfl rfl (N := 117) [(0, .t p.tt), (1, .t (T.ints to))] rfl rfl (fun w0 G F0 => ?_)
  refine W_seq ?_
  refine W_region ?_
  refine WO_box rfl rfl (lt_of rfl) rfl rfl ?_
  refine WO_norm rfl ?_
  refine ev ?_
  refine WO_nil ?_
  refine thenQ_n ?_
  iterate 2 (refine W_seq ?_)
  refine W_region ?_
  refine ev ?_
  refine evE ?_
  refine ev ?_
  refine WO_nil ?_
  refine thenQ_n ?_
  refine W_cond rfl (fun h1 => ?_) (fun h1 => ?_)
  ·
    try simp only [HS] at h1
    refine W_seq ?_
    refine W_region ?_
    refine ev ?_
    refine WO_nil ?_
    refine thenQ_n ?_
    refine W_ret ?_
    refine thenQ_r ?_
    refine Ends_of (.inr rfl) (ret_okF rfl) (by decide) rfl ?_
    · rfl
  try simp only [HS] at h1
  refine W_skip ?_
  refine thenQ_n ?_
  refine W_seq ?_
  refine W_region ?_
  refine ev ?_
  refine WO_nil ?_
  refine thenQ_n ?_
  refine W_seq ?_
  refine W_region ?_
  first | (refine ev ?_; try refine WO_le (Le.freeze (u := 20) rfl) ?_) | refine WO_loadMove tys rfl rfl (lt_of rfl) rfl rfl rfl rfl rfl rfl ?_
  refine WO_norm rfl ?_
  refine ev ?_
  refine callB ?_
  refine ⟨_, szProg_fun p 1048576 hp (by omega) (by omega), rfl, ?_⟩
  refine WO_keep [1, 2, 4, 5, 22] rfl ?_
  refine ev ?_
  refine WO_nil ?_
  refine thenQ_n ?_
  iterate 2 (refine W_seq ?_)
  refine W_region ?_
  refine ev ?_
  refine ev ?_
  refine WO_nil ?_
  refine thenQ_n ?_
  refine W_cond rfl (fun h2 => ?_) (fun h2 => ?_)
  ·
    try simp only [HS] at h2
    refine W_seq ?_
    refine W_region ?_
    refine ev ?_
    refine WO_nil ?_
    refine thenQ_n ?_
    refine W_ret ?_
    refine thenQ_r ?_
    refine Ends_of (.inr rfl) (ret_okF rfl) (by decide) rfl ?_
    · rfl
  try simp only [HS] at h2
  refine W_skip ?_
  refine thenQ_n ?_
  refine W_seq ?_
  refine W_region ?_
  have okp := Prog.small h2
  have cp := ctProg_small h2
  have cr := ct_moveR p to
  have c0 : 0 ≤ ctProg p := ctL_pos ctFunc_pos p.funcs
  have okr : (moveR p to).ok 9223372036854775807 := ok_moveR hp
  first | (refine ev ?_; try refine WO_le (Le.freeze (u := 26) rfl) ?_) | refine WO_loadMove tys rfl rfl (lt_of rfl) rfl rfl rfl rfl rfl rfl ?_
  refine WO_norm rfl ?_
  refine callB ?_
  refine ⟨_, toProg_fun p okp, rfl, ?_⟩
  refine WO_le (Le.freeze (u := 27) rfl) ?_
  refine WO_norm rfl ?_
  refine ev ?_
  refine callB ?_
  refine ⟨_, toIntS_fun to (by omega), rfl, ?_⟩
  refine WO_le (Le.freeze (u := 29) rfl) ?_
  refine WO_norm rfl ?_
  refine callB ?_
  refine ⟨_, specMove_fun p to okp (by omega), rfl, ?_⟩
  refine WO_moveAll rfl rfl (lt_of rfl) (.inr rfl) rfl rfl ?_
  refine WO_keep [1, 2, 4, 25] rfl ?_
  refine WO_norm rfl ?_
  refine WO_extract rfl rfl (lt_of rfl) rfl rfl rfl rfl ?_
  refine WO_le (Le.freeze (u := 31) rfl) ?_
  refine WO_norm rfl ?_
  first | refine WO_evF tys rfl rfl (lt_of rfl) (d := .t _) rfl ?_ | (refine WO_extract rfl rfl (lt_of rfl) rfl rfl rfl rfl ?_; first | refine WO_le (Le.adoptE (u := 32) 32 rfl (by first | exact lenN | exact rfl)) ?_ | skip)
  refine WO_norm rfl ?_
  refine WO_alloc tys rfl rfl (lt_of rfl) rfl rfl rfl ?_
  refine WO_norm rfl ?_
  refine WO_store tys rfl rfl rfl rfl rfl rfl rfl rfl (lt_of rfl) ?_
  refine WO_norm rfl ?_
  refine ev ?_
  refine WO_nil ?_
  refine thenQ_n ?_
  refine W_seq ?_
  refine W_region ?_
  first | (refine ev ?_; try refine WO_le (Le.freeze (u := 33) rfl) ?_) | refine WO_loadMove tys rfl rfl (lt_of rfl) rfl rfl rfl rfl rfl rfl ?_
  refine WO_norm rfl ?_
  refine callB ?_
  refine ⟨_, toProg_fun p okp, rfl, ?_⟩
  refine WO_exposeB (u := 34) 34 rfl rfl (fun v34 hv34 => ?_)
  obtain ⟨a34_0, rfl⟩ : ∃ a34_0, v34 = [a34_0] := by
    match v34, hv34 with
    | [a34_0], _ => exact ⟨_, rfl⟩
  refine WO_norm rfl ?_
  refine WO_alloc tys rfl rfl (lt_of rfl) rfl rfl rfl ?_
  refine WO_norm rfl ?_
  refine WO_store tys rfl rfl rfl rfl rfl rfl rfl rfl (lt_of rfl) ?_
  refine WO_norm rfl ?_
  refine WO_keep [1, 2, 4, 6, 7, 8] rfl ?_
  refine WO_nil ?_
  refine thenQ_n ?_
  refine W_seq ?_
  refine W_region ?_
  refine ev ?_
  refine callB ?_
  refine ⟨_, toIntS_fun to (by omega), rfl, ?_⟩
  refine WO_exposeS (u := 36) 36 rfl (fun v36 => ?_)
  refine ev ?_
  refine WO_nil ?_
  refine thenQ_n ?_
  refine W_seq ?_
  refine W_region ?_
  refine ev ?_
  refine WO_norm rfl ?_
  refine ev ?_
  refine WO_call rfl rfl (lt_of rfl) rfl rfl (by refine ResL.rawA (id := 34) rfl rfl ?_; refine ResL.raw (id := 36) (j := 0) rfl rfl rfl ?_; exact ResL.done) (implMove_fun p to okp (by omega)) rfl ?_
  refine WO_moveAll rfl rfl (lt_of rfl) (.inr rfl) rfl rfl ?_
  refine WO_norm rfl ?_
  refine WO_extract rfl rfl (lt_of rfl) rfl rfl rfl rfl ?_
  refine WO_exposeB (u := 41) 41 rfl rfl (fun v41 hv41 => ?_)
  obtain ⟨a41_0, rfl⟩ : ∃ a41_0, v41 = [a41_0] := by
    match v41, hv41 with
    | [a41_0], _ => exact ⟨_, rfl⟩
  refine WO_norm rfl ?_
  first | refine WO_evF tys rfl rfl (lt_of rfl) (d := .t _) rfl ?_ | (refine WO_extract rfl rfl (lt_of rfl) rfl rfl rfl rfl ?_; first | refine WO_le (Le.adoptE (u := 42) 42 rfl (by first | exact lenN | exact rfl)) ?_ | skip)
  refine WO_norm rfl ?_
  refine WO_keep [1, 2, 4, 6, 7, 8, 9, 41, 42] rfl ?_
  refine WO_alloc tys rfl rfl (lt_of rfl) rfl rfl rfl ?_
  refine WO_norm rfl ?_
  refine WO_store tys rfl rfl rfl rfl rfl rfl rfl rfl (lt_of rfl) ?_
  refine WO_norm rfl ?_
  refine ev ?_
  refine WO_nil ?_
  refine thenQ_n ?_
  iterate 2 (refine W_seq ?_)
  refine W_region ?_
  refine ev ?_
  refine WO_norm rfl ?_
  first | (refine ev ?_; try refine WO_le (Le.freeze (u := 44) rfl) ?_) | refine WO_loadMove tys rfl rfl (lt_of rfl) rfl rfl rfl rfl rfl rfl ?_
  refine WO_norm rfl ?_
  refine WO_call rfl rfl (lt_of rfl) rfl rfl (by refine ResL.rawA (id := 41) rfl rfl ?_; (first | refine ResL.t ?_ | refine ResL.own ?_ | refine ResL.aggT (by repeat (first | exact ResL.done | refine ResL.own ?_ | refine ResL.t ?_)) ?_ | refine ResL.slA rfl (by first | rfl | (simp; done) | (simp; omega)) ?_ | refine ResL.nil' ?_); exact ResL.done) (eqProg_fun (moveR p to) (moveR p to) okr okr) rfl ?_
  refine WO_le (Le.known (t := 45) true rfl (eqProg_refl _)) ?_
  refine ev ?_
  refine ev ?_
  refine WO_guardY rfl rfl rfl rfl (lt_of rfl) ?_
  refine ev ?_
  refine WO_keep [1, 2, 4, 6, 7, 8, 9, 10, 11, 47, 48] rfl ?_
  refine WO_guardY rfl rfl rfl rfl (lt_of rfl) ?_
  refine ev ?_
  refine WO_guardY rfl rfl rfl rfl (lt_of rfl) ?_
  refine ev ?_
  refine WO_le (Le.known (t := 50) false rfl (by simp)) ?_
  refine ev ?_
  refine WO_nil ?_
  refine thenQ_n ?_
  refine W_condF rfl ?_
  refine W_skip ?_
  refine thenQ_n ?_
  iterate 2 (refine W_seq ?_)
  refine W_regionD mixed (by kernel_rfl) ?_
  refine evQ ?_
  first | refine QL_evZ tys rfl rfl (lt_of rfl) rfl rfl ?_ | refine evQ ?_ | refine WO_loadMove tys rfl rfl (lt_of rfl) rfl rfl rfl rfl rfl rfl ?_
  refine callBQ ?_
  refine ⟨_, toProg_fun p okp, rfl, ?_⟩
  refine QL_norm rfl ?_
  refine QL_call rfl rfl (lt_of rfl) rfl rfl (by refine ResL.rawA (id := 34) rfl rfl ?_; (first | refine ResL.t ?_ | refine ResL.own ?_ | refine ResL.aggT (by repeat (first | exact ResL.done | refine ResL.own ?_ | refine ResL.t ?_)) ?_ | refine ResL.slA rfl (by first | rfl | (simp; done) | (simp; omega)) ?_ | refine ResL.nil' ?_); exact ResL.done) (eqProg_fun p p hp hp) rfl ?_
  refine QL_known (v := true) (eqProg_refl _) ?_
  refine evQ ?_
  refine QL_nil ?_
  refine thenQ_n ?_
  refine W_condF rfl ?_
  refine W_skip ?_
  refine thenQ_n ?_
  iterate 2 (refine W_seq ?_)
  refine W_region ?_
  refine ev ?_
  refine ev ?_
  refine callB ?_
  refine ⟨_, toIntS_fun to (by omega), rfl, ?_⟩
  refine WO_le (Le.freeze (u := 59) rfl) ?_
  refine WO_norm rfl ?_
  refine WO_call rfl rfl (lt_of rfl) rfl rfl (by refine ResL.raw (id := 36) (j := 0) rfl rfl rfl ?_; (first | refine ResL.t ?_ | refine ResL.own ?_ | refine ResL.aggT (by repeat (first | exact ResL.done | refine ResL.own ?_ | refine ResL.t ?_)) ?_ | refine ResL.slA rfl (by first | rfl | (simp; done) | (simp; omega)) ?_ | refine ResL.nil' ?_); exact ResL.done) (eqIntS_fun to to (by omega) (by omega)) rfl ?_
  refine WO_le (Le.known (t := 60) true rfl (eqIm_refl _)) ?_
  refine ev ?_
  refine WO_nil ?_
  refine thenQ_n ?_
  refine W_condF rfl ?_
  refine W_skip ?_
  refine thenQ_n ?_
  refine W_seq ?_
  refine W_keep [1, 2, 4, 6, 7, 8, 9, 10, 11] rfl ?_
  refine W_region ?_
  refine ev ?_
  refine WO_nil ?_
  refine thenQ_n ?_
  refine W_seq ?_
  refine W_region ?_
  refine ev ?_
  refine WO_norm rfl ?_
  refine ev ?_
  refine WO_markS (id := 34) rfl rfl (lt_of rfl) rfl rfl rfl rfl rfl (markProg_m p 1 (by omega) (by omega)) ?_
  refine WO_norm rfl ?_
  refine ev ?_
  refine WO_nil ?_
  refine thenQ_n ?_
  refine W_seq ?_
  refine W_region ?_
  refine ev ?_
  refine ev ?_
  refine WO_markN (id := 36) (j := 0) rfl rfl (lt_of rfl) rfl rfl rfl rfl rfl rfl rfl rfl (markIntS_m to (1 + ctProg p) (by omega) (by omega)) ?_
  refine WO_norm rfl ?_
  refine ev ?_
  refine WO_keep [1, 2, 4, 6, 7, 10, 11, 12] rfl ?_
  refine WO_nil ?_
  refine thenQ_n ?_
  iterate 2 (refine W_seq ?_)
  refine W_region ?_
  refine ev ?_
  refine ev ?_
  refine WO_le (Le.known (t := 69) false rfl (by simp; omega)) ?_
  refine ev ?_
  refine WO_guardY rfl rfl rfl rfl (lt_of rfl) ?_
  refine ev ?_
  refine WO_norm rfl ?_
  refine WO_guardY rfl rfl rfl rfl (lt_of rfl) ?_
  first | (refine ev ?_; try refine WO_le (Le.freeze (u := 72) rfl) ?_) | refine WO_loadMove tys rfl rfl (lt_of rfl) rfl rfl rfl rfl rfl rfl ?_
  refine WO_norm rfl ?_
  refine WO_guardY rfl rfl rfl rfl (lt_of rfl) ?_
  refine WO_call rfl rfl (lt_of rfl) rfl rfl (by refine ResL.rawA (id := 41) rfl rfl ?_; (first | refine ResL.t ?_ | refine ResL.own ?_ | refine ResL.aggT (by repeat (first | exact ResL.done | refine ResL.own ?_ | refine ResL.t ?_)) ?_ | refine ResL.slA rfl (by first | rfl | (simp; done) | (simp; omega)) ?_ | refine ResL.nil' ?_); exact ResL.done) (eqProg_fun (moveR p to) (moveR p to) okr okr) rfl ?_
  refine WO_le (Le.known (t := 73) true rfl (eqProg_refl _)) ?_
  refine WO_guardY rfl rfl rfl rfl (lt_of rfl) ?_
  iterate 3 (refine ev ?_)
  refine WO_keep [1, 2, 4, 6, 7, 10, 11, 76] rfl ?_
  refine WO_guardY rfl rfl rfl rfl (lt_of rfl) ?_
  refine ev ?_
  refine WO_guardY rfl rfl rfl rfl (lt_of rfl) ?_
  refine ev ?_
  refine WO_guardY rfl rfl rfl rfl (lt_of rfl) ?_
  refine ev ?_
  refine WO_le (Le.known (t := 79) false rfl (by simp)) ?_
  refine ev ?_
  refine WO_nil ?_
  refine thenQ_n ?_
  refine W_condF rfl ?_
  refine W_skip ?_
  refine thenQ_n ?_
  refine W_seq ?_
  refine W_region ?_
  refine ev ?_
  refine WO_nil ?_
  refine thenQ_n ?_
  refine W_seq ?_
  refine W_region ?_
  refine ev ?_
  refine WO_norm rfl ?_
  refine ev ?_
  refine WO_markS (id := 41) rfl rfl (lt_of rfl) rfl rfl rfl rfl rfl (markProg_m (moveR p to) 1 (by omega) (by omega)) ?_
  refine WO_norm rfl ?_
  refine ev ?_
  refine WO_keep [1, 2, 4, 6, 7, 10, 13] rfl ?_
  refine WO_nil ?_
  refine thenQ_n ?_
  refine W_seq ?_
  refine W_region ?_
  refine ev ?_
  refine WO_nil ?_
  refine thenQ_n ?_
  refine W_seq ?_
  refine W_region ?_
  refine ev ?_
  refine WO_norm rfl ?_
  refine ev ?_
  refine WO_call rfl rfl (lt_of rfl) rfl rfl (by refine ResL.rawA (id := 41) rfl rfl ?_; (first | refine ResL.t ?_ | refine ResL.own ?_ | refine ResL.aggT (by repeat (first | exact ResL.done | refine ResL.own ?_ | refine ResL.t ?_)) ?_ | refine ResL.slA rfl (by first | rfl | (simp; done) | (simp; omega)) ?_ | refine ResL.nil' ?_); exact ResL.done) (heldProg_mk (moveR p to) 1 (by omega) (by omega)) rfl ?_
  refine ev ?_
  refine WO_nil ?_
  refine thenQ_n ?_
  iterate 2 (refine W_seq ?_)
  refine W_region ?_
  refine ev ?_
  refine ev ?_
  refine WO_le (Le.known (t := 88) false rfl (by simp; omega)) ?_
  refine WO_nil ?_
  refine thenQ_n ?_
  refine W_condF rfl ?_
  refine W_skip ?_
  refine thenQ_n ?_
  iterate 2 (refine W_seq ?_)
  refine W_keep [1, 2, 4, 6, 7, 10, 13, 14] rfl ?_
  refine W_region ?_
  iterate 3 (refine ev ?_)
  refine WO_le (Le.known (t := 91) false rfl (by simp)) ?_
  refine WO_nil ?_
  refine thenQ_n ?_
  refine W_condF rfl ?_
  refine W_skip ?_
  refine thenQ_n ?_
  refine W_seq ?_
  refine W_region ?_
  first | (refine ev ?_; try refine WO_le (Le.freeze (u := 93) rfl) ?_) | refine WO_loadMove tys rfl rfl (lt_of rfl) rfl rfl rfl rfl rfl rfl ?_
  refine WO_norm rfl ?_
  refine callB ?_
  refine ⟨_, toProg_fun p okp, rfl, ?_⟩
  refine WO_le (Le.freeze (u := 94) rfl) ?_
  refine WO_norm rfl ?_
  refine ev ?_
  refine callB ?_
  refine ⟨_, toIntS_fun to (by omega), rfl, ?_⟩
  refine WO_le (Le.freeze (u := 96) rfl) ?_
  refine WO_norm rfl ?_
  refine callB ?_
  refine ⟨_, implMove_fun p to okp (by omega), rfl, ?_⟩
  refine WO_moveAll rfl rfl (lt_of rfl) (.inr rfl) rfl rfl ?_
  refine WO_keep [4, 6, 7, 10, 13, 14, 92] rfl ?_
  refine WO_norm rfl ?_
  refine WO_extract rfl rfl (lt_of rfl) rfl rfl rfl rfl ?_
  refine WO_le (Le.freeze (u := 98) rfl) ?_
  refine WO_norm rfl ?_
  first | refine WO_evF tys rfl rfl (lt_of rfl) (d := .t _) rfl ?_ | (refine WO_extract rfl rfl (lt_of rfl) rfl rfl rfl rfl ?_; first | refine WO_le (Le.adoptE (u := 99) 99 rfl (by first | exact lenN | exact rfl)) ?_ | skip)
  refine WO_norm rfl ?_
  refine WO_alloc tys rfl rfl (lt_of rfl) rfl rfl rfl ?_
  refine WO_norm rfl ?_
  refine WO_store tys rfl rfl rfl rfl rfl rfl rfl rfl (lt_of rfl) ?_
  refine WO_norm rfl ?_
  refine ev ?_
  refine WO_nil ?_
  refine thenQ_n ?_
  iterate 2 (refine W_seq ?_)
  refine W_region ?_
  first | (refine ev ?_; try refine WO_le (Le.freeze (u := 100) rfl) ?_) | refine WO_loadMove tys rfl rfl (lt_of rfl) rfl rfl rfl rfl rfl rfl ?_
  refine WO_norm rfl ?_
  first | (refine ev ?_; try refine WO_le (Le.freeze (u := 101) rfl) ?_) | refine WO_loadMove tys rfl rfl (lt_of rfl) rfl rfl rfl rfl rfl rfl ?_
  refine WO_norm rfl ?_
  refine callB ?_
  refine ⟨_, eqProg_fun (moveR p to) (moveR p to) okr okr, rfl, ?_⟩
  refine WO_le (Le.known (t := 102) true rfl (eqProg_refl _)) ?_
  refine ev ?_
  refine WO_keep [4, 7, 10, 13, 14, 16, 103] rfl ?_
  refine ev ?_
  refine WO_guardY rfl rfl rfl rfl (lt_of rfl) ?_
  refine ev ?_
  refine WO_guardY rfl rfl rfl rfl (lt_of rfl) ?_
  refine ev ?_
  refine WO_guardY rfl rfl rfl rfl (lt_of rfl) ?_
  refine ev ?_
  refine WO_le (Le.known (t := 107) false rfl (by simp)) ?_
  refine ev ?_
  refine WO_nil ?_
  refine thenQ_n ?_
  refine W_condF rfl ?_
  refine W_skip ?_
  refine thenQ_n ?_
  refine W_seq ?_
  refine W_region ?_
  refine ev ?_
  refine WO_nil ?_
  refine thenQ_n ?_
  refine W_seq ?_
  refine W_region ?_
  refine ev ?_
  refine WO_norm rfl ?_
  refine ev ?_
  refine WO_call rfl rfl (lt_of rfl) rfl rfl (by refine ResL.rawA (id := 41) rfl rfl ?_; (first | refine ResL.t ?_ | refine ResL.own ?_ | refine ResL.aggT (by repeat (first | exact ResL.done | refine ResL.own ?_ | refine ResL.t ?_)) ?_ | refine ResL.slA rfl (by first | rfl | (simp; done) | (simp; omega)) ?_ | refine ResL.nil' ?_); exact ResL.done) (heldProg_mk (moveR p to) 1 (by omega) (by omega)) rfl ?_
  refine WO_keep [4, 13, 14, 111] rfl ?_
  refine ev ?_
  refine WO_nil ?_
  refine thenQ_n ?_
  iterate 2 (refine W_seq ?_)
  refine W_region ?_
  refine ev ?_
  refine ev ?_
  refine WO_le (Le.known (t := 113) false rfl (by simp; omega)) ?_
  refine WO_nil ?_
  refine thenQ_n ?_
  refine W_condF rfl ?_
  refine W_skip ?_
  refine thenQ_n ?_
  iterate 2 (refine W_seq ?_)
  refine W_region ?_
  iterate 3 (refine ev ?_)
  refine WO_le (Le.known (t := 116) false rfl (by simp)) ?_
  refine WO_nil ?_
  refine thenQ_n ?_
  refine W_condF rfl ?_
  refine W_skip ?_
  refine thenQ_n ?_
  refine W_seq ?_
  refine W_region ?_
  refine ev ?_
  refine WO_nil ?_
  refine thenQ_n ?_
  refine W_ret ?_
  refine Ends_of (.inr rfl) (ret_okF rfl) (by decide) rfl ?_
  · rfl

end Go.Proofs.Ytjnkcoaiccbmpaa
