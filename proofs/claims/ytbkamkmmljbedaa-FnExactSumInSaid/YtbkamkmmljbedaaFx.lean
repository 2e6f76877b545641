/- How many moves there are; walks of MovesIn, and its law. -/
import Derived.Test.YtbkamkmmljbedaaFn
import Derived.Test.YtbkamkmmljbedaaFv
set_option linter.unusedVariables false
set_option linter.unusedSimpArgs false
set_option maxRecDepth 10000
set_option maxHeartbeats 1000000
namespace Go.Proofs.Ytbkamkmmljbedaa
open Go.Eng

/-- So many lists at most, of four numbers each. -/
def four (n : Nat) (l : List (List Int)) : Prop := l.length ≤ n ∧ ∀ x, x ∈ l → x.length = 4
theorem four_add {n : Nat} {l : List (List Int)} {x : List Int} (h : four n l) (hx : x.length = 4) : four (n + 1) (l ++ [x]) :=
  ⟨by have := h.1; simp; omega, fun y hy => by
    rcases List.mem_append.1 hy with hy | hy
    · exact h.2 y hy
    · rw [List.mem_singleton] at hy; subst hy; exact hx⟩
theorem four_le {n m : Nat} {l : List (List Int)} (h : four n l) (hm : n ≤ m) : four m l := ⟨Nat.le_trans h.1 hm, h.2⟩
theorem four_flat {n : Nat} {l : List (List Int)} (h : four n l) : l.flatten.length ≤ 4 * n := by
  have key : ∀ l : List (List Int), (∀ x, x ∈ l → x.length = 4) → l.flatten.length = 4 * l.length := by
    intro l
    induction l with
    | nil => intro _; rfl
    | cons x l ih => intro h; rw [List.flatten_cons, List.length_append, h x (List.mem_cons_self ..), ih fun y hy => h y (List.mem_cons_of_mem _ hy), List.length_cons]; omega
  have := key l h.2
  have := h.1
  omega
theorem mvB_four {i k j : Int} {a : Act} : ∀ (l : List Act) (m : Int) {n : Nat} {acc : List (List Int)}, four n acc → four (n + l.length) (mvB i k a j l m acc)
  | [], m, n, acc, h => h
  | b :: l, m, n, acc, h => by
    rw [mvB, List.length_cons, show n + (l.length + 1) = (n + 1) + l.length from by omega]
    refine mvB_four l (m + 1) ?_
    split
    · exact four_add h rfl
    · exact four_le h (by omega)
theorem mvU_four {i k : Int} {a : Act} : ∀ (l : List Task) (j : Int) {n : Nat} {acc : List (List Int)}, (∀ t, t ∈ l → (ways t).length ≤ 3) → four n acc → four (n + 3 * l.length) (mvU i k a l j acc)
  | [], j, n, acc, _, h => h
  | u :: l, j, n, acc, hw, h => by
    rw [mvU, List.length_cons, show n + 3 * (l.length + 1) = (n + 3) + 3 * l.length from by omega]
    have h1 := hw u (List.mem_cons_self ..)
    exact mvU_four l (j + 1) (fun t ht => hw t (List.mem_cons_of_mem _ ht)) (four_le (mvB_four _ _ h) (by omega))
theorem mvA_four {w : World} {i : Int} (hw : ∀ t, t ∈ w.tasks → (ways t).length ≤ 3) (ht : w.tasks.length ≤ 4) : ∀ (l : List Act) (k : Int) {n : Nat} {acc : List (List Int)}, four n acc → four (n + 13 * l.length) (mvA w i l k acc)
  | [], k, n, acc, h => h
  | a :: l, k, n, acc, h => by
    rw [mvA, List.length_cons, show n + 13 * (l.length + 1) = (n + 13) + 13 * l.length from by omega]
    refine mvA_four hw ht l (k + 1) ?_
    have h1 : four (n + 1) (if alone w a then acc ++ [[i, k, -1, 0]] else acc) := by
      split
      · exact four_add h rfl
      · exact four_le h (by omega)
    split
    · exact four_le (mvU_four _ _ hw h1) (by omega)
    · exact four_le h1 (by omega)
theorem mvT_four {w : World} (hw : ∀ t, t ∈ w.tasks → (ways t).length ≤ 3) (ht : w.tasks.length ≤ 4) : ∀ (l : List Task) (i : Int) {n : Nat} {acc : List (List Int)}, (∀ t, t ∈ l → (ways t).length ≤ 3) → four n acc → four (n + 39 * l.length) (mvT w l i acc)
  | [], i, n, acc, _, h => h
  | t :: l, i, n, acc, hl, h => by
    rw [mvT, List.length_cons, show n + 39 * (l.length + 1) = (n + 39) + 39 * l.length from by omega]
    have h1 := hl t (List.mem_cons_self ..)
    exact mvT_four hw ht l (i + 1) (fun t ht => hl t (List.mem_cons_of_mem _ ht)) (four_le (mvA_four hw ht _ _ h) (by omega))
theorem movesOf_four {w : World} (hg : Good w) : four 156 (movesOf w) := by
  have hw : ∀ t, t ∈ w.tasks → (ways t).length ≤ 3 := fun t h => (hg.ways t h).1
  exact four_le (mvT_four hw hg.tasks w.tasks 0 (n := 0) hw ⟨Nat.zero_le _, fun x hx => by cases hx⟩) (by have := hg.tasks; omega)

def movesR (w : World) : List (List Int) := if goodWorld w then movesOf w else []
theorem movesR_four (w : World) : four 156 (movesR w) := by
  unfold movesR
  split
  · rename_i h; exact movesOf_four (good_of h)
  · exact ⟨Nat.zero_le _, fun x hx => by cases hx⟩
theorem movesR_ok {B : Nat} (hB : 156 ≤ B) (w : World) : okL B (okN B) (movesR w) := by
  have h := movesR_four w
  exact ⟨Nat.le_trans h.1 hB, fun x hx => by unfold okN; rw [h.2 x hx]; omega⟩
theorem moves_no {w : World} (h : goodWorld w = false) : [D.own (T.list 1 []), D.t (T.v (.bool false))] = [D.own (intss (movesR w)), D.t (T.bool (goodWorld w))] := by
  rw [movesR, h]; rfl
theorem moves_yes {w : World} (h : goodWorld w = true) : [D.own (intss (movesOf w)), D.t (T.v (.bool true))] = [D.own (intss (movesR w)), D.t (T.bool (goodWorld w))] := by
  rw [movesR, h]; rfl

theorem specMoves_fun (w : World) (hw : w.ok 1048576) (hw' : w.ok 9223372036854775807) : Fun Try.prog 27 [.t w.tt] (tupD [.own (intss (movesR w)), .t (.bool (goodWorld w))]) := by
  refine Fun.begin tys Try.func27 rfl rfl (N := 9) [(0, .t w.tt)] rfl rfl (fun w0 G F0 => ?_)
  refine W_seq ?_
  refine W_region ?_
  refine WO_box rfl rfl (lt_of rfl) rfl rfl ?_
  refine WO_norm rfl ?_
  refine ev ?_
  refine WO_le (Le.nilOwn (u := 2) 1 rfl) ?_
  refine WO_norm rfl ?_
  refine ev ?_
  refine WO_nil ?_
  refine thenQ_n ?_
  iterate 2 (refine W_seq ?_)
  refine W_region ?_
  first | (refine ev ?_; try refine WO_le (Le.freeze (u := 4) rfl) ?_) | refine WO_loadMove tys rfl rfl (lt_of rfl) rfl rfl rfl rfl rfl rfl ?_
  refine WO_norm rfl ?_
  refine callB ?_
  refine ⟨_, specGoodWorld_fun w hw, rfl, ?_⟩
  refine ev ?_
  refine WO_nil ?_
  refine thenQ_n ?_
  refine W_cond rfl (fun h1 => ?_) (fun h1 => ?_)
  ·
    try simp only [HS] at h1
    refine W_seq ?_
    refine W_region ?_
    refine ev ?_
    refine WO_le (Le.nilOwn (u := 2) 1 rfl) ?_
    refine WO_norm rfl ?_
    refine ev ?_
    refine WO_nil ?_
    refine thenQ_n ?_
    refine W_ret ?_
    refine thenQ_r ?_
    refine Ends_of (.inr rfl) (ret_okF rfl) (by decide) rfl ?_
    · first | exact moves_no h1 | exact moves_yes h1
  try simp only [HS] at h1
  refine W_skip ?_
  refine thenQ_n ?_
  refine W_seq ?_
  refine W_region ?_
  first | (refine ev ?_; try refine WO_le (Le.freeze (u := 7) rfl) ?_) | refine WO_loadMove tys rfl rfl (lt_of rfl) rfl rfl rfl rfl rfl rfl ?_
  refine WO_norm rfl ?_
  refine callB ?_
  refine ⟨_, l15Moves_fun w (good_of h1), rfl, ?_⟩
  refine WO_moveAll rfl rfl (lt_of rfl) (.inl rfl) rfl rfl ?_
  refine WO_keep [2, 3] rfl ?_
  refine ev ?_
  refine WO_nil ?_
  refine thenQ_n ?_
  refine W_ret ?_
  refine Ends_of (.inr rfl) (ret_okF rfl) (by decide) rfl ?_
  · first | exact moves_no h1 | exact moves_yes h1

theorem implMoves_fun (w : World) (hw : w.ok 1048576) (hw' : w.ok 9223372036854775807) : Fun Try.prog 28 [.t w.tt] (tupD [.own (intss (movesR w)), .t (.bool (goodWorld w))]) := by
  refine Fun.begin tys Try.func28 rfl rfl (N := 9) [(0, .t w.tt)] rfl rfl (fun w0 G F0 => ?_)
  refine W_seq ?_
  refine W_region ?_
  refine WO_box rfl rfl (lt_of rfl) rfl rfl ?_
  refine WO_norm rfl ?_
  refine ev ?_
  refine WO_le (Le.nilOwn (u := 2) 1 rfl) ?_
  refine WO_norm rfl ?_
  refine ev ?_
  refine WO_nil ?_
  refine thenQ_n ?_
  iterate 2 (refine W_seq ?_)
  refine W_region ?_
  first | (refine ev ?_; try refine WO_le (Le.freeze (u := 4) rfl) ?_) | refine WO_loadMove tys rfl rfl (lt_of rfl) rfl rfl rfl rfl rfl rfl ?_
  refine WO_norm rfl ?_
  refine callB ?_
  refine ⟨_, isWorld_fun w hw hw', rfl, ?_⟩
  refine ev ?_
  refine WO_nil ?_
  refine thenQ_n ?_
  refine W_cond rfl (fun h1 => ?_) (fun h1 => ?_)
  ·
    try simp only [HS] at h1
    refine W_seq ?_
    refine W_region ?_
    refine ev ?_
    refine WO_le (Le.nilOwn (u := 2) 1 rfl) ?_
    refine WO_norm rfl ?_
    refine ev ?_
    refine WO_nil ?_
    refine thenQ_n ?_
    refine W_ret ?_
    refine thenQ_r ?_
    refine Ends_of (.inr rfl) (ret_okF rfl) (by decide) rfl ?_
    · first | exact moves_no h1 | exact moves_yes h1
  try simp only [HS] at h1
  refine W_skip ?_
  refine thenQ_n ?_
  refine W_seq ?_
  refine W_region ?_
  first | (refine ev ?_; try refine WO_le (Le.freeze (u := 7) rfl) ?_) | refine WO_loadMove tys rfl rfl (lt_of rfl) rfl rfl rfl rfl rfl rfl ?_
  refine WO_norm rfl ?_
  refine callB ?_
  refine ⟨_, movesIn_fun w (good_of h1), rfl, ?_⟩
  refine WO_moveAll rfl rfl (lt_of rfl) (.inl rfl) rfl rfl ?_
  refine WO_keep [2, 3] rfl ?_
  refine ev ?_
  refine WO_nil ?_
  refine thenQ_n ?_
  refine W_ret ?_
  refine Ends_of (.inr rfl) (ret_okF rfl) (by decide) rfl ?_
  · first | exact moves_no h1 | exact moves_yes h1

theorem eqSSw_refl (a : List (List Int)) : eqL (eqL eqI) a a = true := eqL_refl (eqL_refl eqI_refl) a
theorem ctWorld_pos' (w : World) : 0 ≤ ctWorld w := ctWorld_pos w

theorem lawMoves_fun (w : World) (hp : w.ok 9223372036854775807) : Fun Try.prog 6 [.t w.tt] (tupD [.t (.bool true)]) := by
  refine Fun.begin tys Try.func6 rfl rfl (N := 96) [(0, .t w.tt)] rfl rfl (fun w0 G F0 => ?_)
  refine W_seq ?_
  refine W_region ?_
  refine WO_box rfl rfl (lt_of rfl) rfl rfl ?_
  refine WO_norm rfl ?_
  refine ev ?_
  refine WO_nil ?_
  refine thenQ_n ?_
  refine W_seq ?_
  refine W_region ?_
  refine ev ?_
  refine WO_nil ?_
  refine thenQ_n ?_
  refine W_seq ?_
  refine W_region ?_
  first | (refine ev ?_; try refine WO_le (Le.freeze (u := 14) rfl) ?_) | refine WO_loadMove tys rfl rfl (lt_of rfl) rfl rfl rfl rfl rfl rfl ?_
  refine WO_norm rfl ?_
  refine ev ?_
  refine callB ?_
  refine ⟨_, szWorld_fun w 1048576 hp (by omega) (by omega), rfl, ?_⟩
  refine ev ?_
  refine WO_nil ?_
  refine thenQ_n ?_
  iterate 2 (refine W_seq ?_)
  refine W_keep [1, 2, 3] rfl ?_
  refine W_region ?_
  refine ev ?_
  refine ev ?_
  refine WO_nil ?_
  refine thenQ_n ?_
  refine W_cond rfl (fun h1 => ?_) (fun h1 => ?_)
  ·
    try simp only [HS] at h1
    refine W_seq ?_
    refine W_region ?_
    refine ev ?_
    refine WO_nil ?_
    refine thenQ_n ?_
    refine W_ret ?_
    refine thenQ_r ?_
    refine Ends_of (.inr rfl) (ret_okF rfl) (by decide) rfl ?_
    · rfl
  try simp only [HS] at h1
  refine W_skip ?_
  refine thenQ_n ?_
  refine W_seq ?_
  refine W_region ?_
  have okw := World.small h1
  have cw := ctWorld_small h1
  have cp := ctWorld_pos w
  have hhl : w.held.length ≤ 1048576 := okw.2.1.1
  have lf := movesR_four w
  have lr := four_flat lf
  have ll := lf.1
  first | (refine ev ?_; try refine WO_le (Le.freeze (u := 20) rfl) ?_) | refine WO_loadMove tys rfl rfl (lt_of rfl) rfl rfl rfl rfl rfl rfl ?_
  refine WO_norm rfl ?_
  refine callB ?_
  refine ⟨_, toWorld_fun w okw, rfl, ?_⟩
  refine WO_le (Le.freeze (u := 21) rfl) ?_
  refine WO_norm rfl ?_
  refine callB ?_
  refine ⟨_, specMoves_fun w okw hp, rfl, ?_⟩
  refine WO_moveAll rfl rfl (lt_of rfl) (.inr rfl) rfl rfl ?_
  refine WO_norm rfl ?_
  refine WO_extract rfl rfl (lt_of rfl) rfl rfl rfl rfl ?_
  refine WO_le (Le.freeze (u := 23) rfl) ?_
  refine WO_norm rfl ?_
  first | refine WO_evF tys rfl rfl (lt_of rfl) (d := .t _) rfl ?_ | (refine WO_extract rfl rfl (lt_of rfl) rfl rfl rfl rfl ?_; first | refine WO_le (Le.adoptE (u := 24) 24 rfl (by first | exact lenN | exact rfl)) ?_ | skip)
  refine WO_norm rfl ?_
  refine ev ?_
  refine WO_keep [1, 2, 4, 24] rfl ?_
  refine ev ?_
  refine WO_nil ?_
  refine thenQ_n ?_
  refine W_seq ?_
  refine W_region ?_
  first | (refine ev ?_; try refine WO_le (Le.freeze (u := 25) rfl) ?_) | refine WO_loadMove tys rfl rfl (lt_of rfl) rfl rfl rfl rfl rfl rfl ?_
  refine WO_norm rfl ?_
  refine callB ?_
  refine ⟨_, toWorld_fun w okw, rfl, ?_⟩
  refine WO_exposeB (u := 26) 26 rfl rfl (fun v26 hv26 => ?_)
  obtain ⟨a26_0, a26_1, a26_2, a26_3, a26_4, rfl⟩ : ∃ a26_0 a26_1 a26_2 a26_3 a26_4, v26 = [a26_0, a26_1, a26_2, a26_3, a26_4] := by
    match v26, hv26 with
    | [a26_0, a26_1, a26_2, a26_3, a26_4], _ => exact ⟨_, _, _, _, _, rfl⟩
  refine WO_norm rfl ?_
  refine WO_alloc tys rfl rfl (lt_of rfl) rfl rfl rfl ?_
  refine WO_norm rfl ?_
  refine WO_store tys rfl rfl rfl rfl rfl rfl rfl rfl (lt_of rfl) ?_
  refine WO_norm rfl ?_
  refine WO_nil ?_
  refine thenQ_n ?_
  refine W_seq ?_
  refine W_region ?_
  refine ev ?_
  refine WO_norm rfl ?_
  refine WO_call rfl rfl (lt_of rfl) rfl rfl (by refine ResL.rawA (id := 26) rfl rfl ?_; exact ResL.done) (implMoves_fun w okw hp) rfl ?_
  refine WO_moveAll rfl rfl (lt_of rfl) (.inr rfl) rfl rfl ?_
  refine WO_norm rfl ?_
  refine WO_extract rfl rfl (lt_of rfl) rfl rfl rfl rfl ?_
  refine WO_exposeS (u := 30) 30 rfl (fun v30 => ?_)
  refine WO_keep [1, 2, 4, 5, 6, 27, 30] rfl ?_
  first | refine WO_evF tys rfl rfl (lt_of rfl) (d := .t _) rfl ?_ | (refine WO_extract rfl rfl (lt_of rfl) rfl rfl rfl rfl ?_; first | refine WO_le (Le.adoptE (u := 31) 31 rfl (by first | exact lenN | exact rfl)) ?_ | skip)
  refine WO_norm rfl ?_
  refine ev ?_
  refine ev ?_
  refine WO_nil ?_
  refine thenQ_n ?_
  iterate 2 (refine W_seq ?_)
  refine W_region ?_
  refine ev ?_
  refine ev ?_
  refine WO_call rfl rfl (lt_of rfl) rfl rfl (by refine ResL.raw (id := 30) (j := 0) rfl rfl rfl ?_; (first | refine ResL.t ?_ | refine ResL.own ?_ | refine ResL.aggT (by repeat (first | exact ResL.done | refine ResL.own ?_ | refine ResL.t ?_)) ?_ | refine ResL.slA rfl (by first | rfl | (simp; done) | (simp; omega)) ?_ | refine ResL.nil' ?_); exact ResL.done) (eqIntSSo_fun (movesR w) (movesR w) (movesR_ok (by decide) w) (movesR_ok (by decide) w)) rfl ?_
  refine WO_le (Le.known (t := 34) true rfl (eqSSw_refl _)) ?_
  refine ev ?_
  refine ev ?_
  refine WO_guardY rfl rfl rfl rfl (lt_of rfl) ?_
  refine ev ?_
  refine WO_keep [1, 2, 4, 5, 6, 7, 8, 36, 37] rfl ?_
  refine WO_guardY rfl rfl rfl rfl (lt_of rfl) ?_
  refine ev ?_
  refine WO_guardY rfl rfl rfl rfl (lt_of rfl) ?_
  refine ev ?_
  refine WO_le (Le.known (t := 39) false rfl (by simp)) ?_
  refine ev ?_
  refine WO_nil ?_
  refine thenQ_n ?_
  refine W_condF rfl ?_
  refine W_skip ?_
  refine thenQ_n ?_
  iterate 2 (refine W_seq ?_)
  refine W_regionD mixed (by kernel_rfl) ?_
  refine evQ ?_
  first | refine QL_evZ tys rfl rfl (lt_of rfl) rfl rfl ?_ | refine evQ ?_ | refine WO_loadMove tys rfl rfl (lt_of rfl) rfl rfl rfl rfl rfl rfl ?_
  refine callBQ ?_
  refine ⟨_, toWorld_fun w okw, rfl, ?_⟩
  refine QL_norm rfl ?_
  refine QL_call rfl rfl (lt_of rfl) rfl rfl (by refine ResL.rawA (id := 26) rfl rfl ?_; (first | refine ResL.t ?_ | refine ResL.own ?_ | refine ResL.aggT (by repeat (first | exact ResL.done | refine ResL.own ?_ | refine ResL.t ?_)) ?_ | refine ResL.slA rfl (by first | rfl | (simp; done) | (simp; omega)) ?_ | refine ResL.nil' ?_); exact ResL.done) (eqWorld_fun w w hp hp) rfl ?_
  refine QL_known (v := true) (eqWorld_refl w) ?_
  refine evQ ?_
  refine QL_nil ?_
  refine thenQ_n ?_
  refine W_condF rfl ?_
  refine W_skip ?_
  refine thenQ_n ?_
  refine W_seq ?_
  refine W_region ?_
  refine ev ?_
  refine WO_nil ?_
  refine thenQ_n ?_
  refine W_seq ?_
  refine W_region ?_
  refine ev ?_
  refine WO_norm rfl ?_
  refine ev ?_
  refine WO_markS (id := 26) rfl rfl (lt_of rfl) rfl rfl rfl rfl rfl (markWorld_m w 1 (by omega) (by omega) (by omega)) ?_
  refine WO_norm rfl ?_
  refine ev ?_
  refine WO_nil ?_
  refine thenQ_n ?_
  iterate 2 (refine W_seq ?_)
  refine W_keep [1, 2, 4, 5, 7, 8, 9] rfl ?_
  refine W_region ?_
  refine ev ?_
  refine ev ?_
  refine WO_le (Le.known (t := 50) false rfl (by simp; omega)) ?_
  refine ev ?_
  refine WO_guardY rfl rfl rfl rfl (lt_of rfl) ?_
  refine ev ?_
  refine WO_guardY rfl rfl rfl rfl (lt_of rfl) ?_
  refine ev ?_
  refine WO_guardY rfl rfl rfl rfl (lt_of rfl) ?_
  refine WO_call rfl rfl (lt_of rfl) rfl rfl (by refine ResL.raw (id := 30) (j := 0) rfl rfl rfl ?_; (first | refine ResL.t ?_ | refine ResL.own ?_ | refine ResL.aggT (by repeat (first | exact ResL.done | refine ResL.own ?_ | refine ResL.t ?_)) ?_ | refine ResL.slA rfl (by first | rfl | (simp; done) | (simp; omega)) ?_ | refine ResL.nil' ?_); exact ResL.done) (eqIntSSo_fun (movesR w) (movesR w) (movesR_ok (by decide) w) (movesR_ok (by decide) w)) rfl ?_
  refine WO_le (Le.known (t := 54) true rfl (eqSSw_refl _)) ?_
  refine WO_guardY rfl rfl rfl rfl (lt_of rfl) ?_
  iterate 3 (refine ev ?_)
  refine WO_keep [1, 2, 4, 5, 7, 8, 57] rfl ?_
  refine WO_guardY rfl rfl rfl rfl (lt_of rfl) ?_
  refine ev ?_
  refine WO_guardY rfl rfl rfl rfl (lt_of rfl) ?_
  refine ev ?_
  refine WO_guardY rfl rfl rfl rfl (lt_of rfl) ?_
  refine ev ?_
  refine WO_le (Le.known (t := 60) false rfl (by simp)) ?_
  refine ev ?_
  refine WO_nil ?_
  refine thenQ_n ?_
  refine W_condF rfl ?_
  refine W_skip ?_
  refine thenQ_n ?_
  refine W_seq ?_
  refine W_region ?_
  refine ev ?_
  refine WO_nil ?_
  refine thenQ_n ?_
  refine W_seq ?_
  refine W_region ?_
  refine ev ?_
  refine ev ?_
  refine WO_markN (id := 30) (j := 0) rfl rfl (lt_of rfl) rfl rfl rfl rfl rfl rfl rfl rfl (markIntSS_m (movesR w) 1 (by omega) (by omega) (by omega)) ?_
  refine WO_norm rfl ?_
  refine ev ?_
  refine WO_keep [1, 2, 4, 5, 7, 10] rfl ?_
  refine WO_nil ?_
  refine thenQ_n ?_
  refine W_seq ?_
  refine W_region ?_
  refine ev ?_
  refine WO_nil ?_
  refine thenQ_n ?_
  refine W_seq ?_
  refine W_region ?_
  refine ev ?_
  refine ev ?_
  refine WO_call rfl rfl (lt_of rfl) rfl rfl (by refine ResL.raw (id := 30) (j := 0) rfl rfl rfl ?_; (first | refine ResL.t ?_ | refine ResL.own ?_ | refine ResL.aggT (by repeat (first | exact ResL.done | refine ResL.own ?_ | refine ResL.t ?_)) ?_ | refine ResL.slA rfl (by first | rfl | (simp; done) | (simp; omega)) ?_ | refine ResL.nil' ?_); exact ResL.done) (heldIntSS_mk (movesR w) 1 (by omega) (by omega) (by omega)) rfl ?_
  refine ev ?_
  refine WO_nil ?_
  refine thenQ_n ?_
  iterate 2 (refine W_seq ?_)
  refine W_region ?_
  refine ev ?_
  refine ev ?_
  refine WO_le (Le.known (t := 69) false rfl (by simp; omega)) ?_
  refine WO_nil ?_
  refine thenQ_n ?_
  refine W_condF rfl ?_
  refine W_skip ?_
  refine thenQ_n ?_
  iterate 2 (refine W_seq ?_)
  refine W_keep [1, 2, 4, 5, 7, 10, 11] rfl ?_
  refine W_region ?_
  iterate 3 (refine ev ?_)
  refine WO_le (Le.known (t := 72) false rfl (by simp)) ?_
  refine WO_nil ?_
  refine thenQ_n ?_
  refine W_condF rfl ?_
  refine W_skip ?_
  refine thenQ_n ?_
  refine W_seq ?_
  refine W_region ?_
  first | (refine ev ?_; try refine WO_le (Le.freeze (u := 74) rfl) ?_) | refine WO_loadMove tys rfl rfl (lt_of rfl) rfl rfl rfl rfl rfl rfl ?_
  refine WO_norm rfl ?_
  refine callB ?_
  refine ⟨_, toWorld_fun w okw, rfl, ?_⟩
  refine WO_le (Le.freeze (u := 75) rfl) ?_
  refine WO_norm rfl ?_
  refine callB ?_
  refine ⟨_, implMoves_fun w okw hp, rfl, ?_⟩
  refine WO_moveAll rfl rfl (lt_of rfl) (.inr rfl) rfl rfl ?_
  refine WO_norm rfl ?_
  refine WO_extract rfl rfl (lt_of rfl) rfl rfl rfl rfl ?_
  refine WO_le (Le.freeze (u := 77) rfl) ?_
  refine WO_norm rfl ?_
  first | refine WO_evF tys rfl rfl (lt_of rfl) (d := .t _) rfl ?_ | (refine WO_extract rfl rfl (lt_of rfl) rfl rfl rfl rfl ?_; first | refine WO_le (Le.adoptE (u := 78) 78 rfl (by first | exact lenN | exact rfl)) ?_ | skip)
  refine WO_norm rfl ?_
  refine WO_keep [2, 4, 5, 7, 10, 11, 77, 78] rfl ?_
  refine ev ?_
  refine ev ?_
  refine WO_nil ?_
  refine thenQ_n ?_
  iterate 2 (refine W_seq ?_)
  refine W_region ?_
  refine ev ?_
  refine ev ?_
  refine callB ?_
  refine ⟨_, eqIntSSo_fun (movesR w) (movesR w) (movesR_ok (by decide) w) (movesR_ok (by decide) w), rfl, ?_⟩
  refine WO_le (Le.known (t := 81) true rfl (eqSSw_refl _)) ?_
  refine ev ?_
  refine ev ?_
  refine WO_guardY rfl rfl rfl rfl (lt_of rfl) ?_
  refine ev ?_
  refine WO_guardY rfl rfl rfl rfl (lt_of rfl) ?_
  refine ev ?_
  refine WO_keep [2, 7, 10, 11, 83, 84, 85] rfl ?_
  refine WO_guardY rfl rfl rfl rfl (lt_of rfl) ?_
  refine ev ?_
  refine WO_le (Le.known (t := 86) false rfl (by simp)) ?_
  refine ev ?_
  refine WO_nil ?_
  refine thenQ_n ?_
  refine W_condF rfl ?_
  refine W_skip ?_
  refine thenQ_n ?_
  refine W_seq ?_
  refine W_region ?_
  refine ev ?_
  refine WO_nil ?_
  refine thenQ_n ?_
  refine W_seq ?_
  refine W_region ?_
  refine ev ?_
  refine ev ?_
  refine WO_call rfl rfl (lt_of rfl) rfl rfl (by refine ResL.raw (id := 30) (j := 0) rfl rfl rfl ?_; (first | refine ResL.t ?_ | refine ResL.own ?_ | refine ResL.aggT (by repeat (first | exact ResL.done | refine ResL.own ?_ | refine ResL.t ?_)) ?_ | refine ResL.slA rfl (by first | rfl | (simp; done) | (simp; omega)) ?_ | refine ResL.nil' ?_); exact ResL.done) (heldIntSS_mk (movesR w) 1 (by omega) (by omega) (by omega)) rfl ?_
  refine ev ?_
  refine WO_nil ?_
  refine thenQ_n ?_
  iterate 2 (refine W_seq ?_)
  refine W_keep [2, 10, 11] rfl ?_
  refine W_region ?_
  refine ev ?_
  refine ev ?_
  refine WO_le (Le.known (t := 92) false rfl (by simp; omega)) ?_
  refine WO_nil ?_
  refine thenQ_n ?_
  refine W_condF rfl ?_
  refine W_skip ?_
  refine thenQ_n ?_
  iterate 2 (refine W_seq ?_)
  refine W_region ?_
  iterate 3 (refine ev ?_)
  refine WO_le (Le.known (t := 95) false rfl (by simp)) ?_
  refine WO_nil ?_
  refine thenQ_n ?_
  refine W_condF rfl ?_
  refine W_skip ?_
  refine thenQ_n ?_
  refine W_seq ?_
  refine W_region ?_
  refine ev ?_
  refine WO_nil ?_
  refine thenQ_n ?_
  refine W_ret ?_
  refine Ends_of (.inr rfl) (ret_okF rfl) (by decide) rfl ?_
  · rfl

end Go.Proofs.Ytbkamkmmljbedaa
