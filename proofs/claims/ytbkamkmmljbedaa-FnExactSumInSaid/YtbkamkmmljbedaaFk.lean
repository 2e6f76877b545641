/- Walks of the moves that there are in a world. -/
import Derived.Test.YtbkamkmmljbedaaFg
set_option linter.unusedVariables false
set_option linter.unusedSimpArgs false
set_option maxRecDepth 10000
set_option maxHeartbeats 2000000
namespace Go.Proofs.Ytbkamkmmljbedaa
open Go.Eng

/-- The acts that a task can choose from. -/
def ways (t : Task) : List Act := if t.state = 0 then (match t.acts[t.pos.toNat]? with | some a => if a.kind = 4 then a.cases else [a] | none => []) else []
theorem ways_at {t : Task} (h : t.state = 0) (h0 : 0 ≤ t.pos) (h1 : t.pos < t.acts.length) : ways t = if (t.acts[t.pos.toNat]'(by omega)).kind = 4 then (t.acts[t.pos.toNat]'(by omega)).cases else [t.acts[t.pos.toNat]'(by omega)] := by
  unfold ways
  rw [if_pos h, List.getElem?_eq_getElem (by omega)]

theorem part_one {α : Type} {l : List α} {i : Int} (h0 : 0 ≤ i) (h1 : i < l.length) : (l.drop i.toNat).take ((i + 1).toNat - i.toNat) = [l[i.toNat]'(by omega)] := by
  rw [drop_at h0 h1, show (i + 1).toNat - i.toNat = 1 from by omega]
  rfl

theorem l15Ways_fun (t : Task) (h0 : 0 ≤ t.pos) (h1' : t.state = 0 → t.pos < t.acts.length) : Fun Try.prog 88 [.t t.tt] (tupD [.t (T.Acts (ways t))]) := by
  refine Fun.begin tys Try.func88 rfl rfl (N := 28) [(0, .t t.tt)] rfl rfl (fun w0 G F0 => ?_)
  refine W_seq ?_
  refine W_region ?_
  refine WO_box rfl rfl (lt_of rfl) rfl rfl ?_
  refine WO_norm rfl ?_
  refine ev ?_
  refine WO_nil ?_
  refine thenQ_n ?_
  iterate 2 (refine W_seq ?_)
  refine W_region ?_
  iterate 3 (refine ev ?_)
  refine WO_nil ?_
  refine thenQ_n ?_
  refine W_cond rfl (fun h1 => ?_) (fun h1 => ?_)
  ·
    try simp only [HS] at h1
    refine W_seq ?_
    refine W_region ?_
    refine ev ?_
    refine WO_nil ?_
    refine thenQ_n ?_
    first | refine W_le (Le.nilT (u := 2) 4 rfl) ?_ | skip
    refine W_ret ?_
    refine thenQ_r ?_
    refine Ends_of (.inr rfl) (ret_okF rfl) (by decide) rfl ?_
    · first
      | (rw [ways, if_neg h1]; rfl)
      | (rw [ways_at h1 h0 (h1' h1), if_pos h2]; done)
      | (rw [ways_at h1 h0 (h1' h1), if_neg h2]; show [D.t (T.list 4 [Act.tt _])] = [D.t (T.list 4 [Act.toT _])]; rw [Act.toT_eq])
  try simp only [HS] at h1
  refine W_skip ?_
  refine thenQ_n ?_
  iterate 2 (refine W_seq ?_)
  refine W_region ?_
  iterate 4 (refine ev ?_)
  refine WO_keep [1, 2, 7, 9] rfl ?_
  first | refine WO_idxT tys rfl rfl (lt_of rfl) rfl rfl rfl rfl rfl rfl rfl (by omega) _ (getAct _ (by omega) (by omega)) ?_ | refine WO_idxS tys rfl rfl (lt_of rfl) rfl rfl rfl rfl rfl rfl rfl rfl (by omega) (by omega) ?_
  refine ev ?_
  first | refine ev ?_ | refine WO_loadL tys rfl rfl (lt_of rfl) rfl rfl rfl rfl (getT _ _ (by omega) (by omega)) rfl ?_ | refine WO_loadL tys rfl rfl (lt_of rfl) rfl rfl rfl rfl (getT0 _ _ (by omega) (by omega)) rfl ?_
  refine ev ?_
  refine WO_nil ?_
  refine thenQ_n ?_
  refine W_cond rfl (fun h2 => ?_) (fun h2 => ?_)
  ·
    try simp only [HS] at h2
    refine W_seq ?_
    refine W_region ?_
    iterate 4 (refine ev ?_)
    first | refine WO_idxT tys rfl rfl (lt_of rfl) rfl rfl rfl rfl rfl rfl rfl (by omega) _ (getAct _ (by omega) (by omega)) ?_ | refine WO_idxS tys rfl rfl (lt_of rfl) rfl rfl rfl rfl rfl rfl rfl rfl (by omega) (by omega) ?_
    refine WO_keep [1, 2, 18] rfl ?_
    refine ev ?_
    first | refine ev ?_ | refine WO_loadL tys rfl rfl (lt_of rfl) rfl rfl rfl rfl (getT _ _ (by omega) (by omega)) rfl ?_ | refine WO_loadL tys rfl rfl (lt_of rfl) rfl rfl rfl rfl (getT0 _ _ (by omega) (by omega)) rfl ?_
    refine ev ?_
    refine WO_nil ?_
    refine thenQ_n ?_
    first | refine W_le (Le.nilT (u := 2) 4 rfl) ?_ | skip
    refine W_ret ?_
    refine thenQ_r ?_
    refine Ends_of (.inr rfl) (ret_okF rfl) (by decide) rfl ?_
    · first
      | (rw [ways, if_neg h1]; rfl)
      | (rw [ways_at h1 h0 (h1' h1), if_pos h2]; done)
      | (rw [ways_at h1 h0 (h1' h1), if_neg h2]; show [D.t (T.list 4 [Act.tt _])] = [D.t (T.list 4 [Act.toT _])]; rw [Act.toT_eq])
  try simp only [HS] at h2
  refine W_skip ?_
  refine thenQ_n ?_
  refine W_seq ?_
  refine W_region ?_
  iterate 4 (refine ev ?_)
  first | refine WO_idxT tys rfl rfl (lt_of rfl) rfl rfl rfl rfl rfl rfl rfl (by omega) _ (getAct _ (by omega) (by omega)) ?_ | refine WO_idxS tys rfl rfl (lt_of rfl) rfl rfl rfl rfl rfl rfl rfl rfl (by omega) (by omega) ?_
  refine WO_keep [2, 25] rfl ?_
  first | (refine ev ?_; try refine WO_le (Le.freeze (u := 26) rfl) ?_) | refine WO_loadL tys rfl rfl (lt_of rfl) rfl rfl rfl rfl (getT _ _ (by omega) (by omega)) rfl ?_ | refine WO_loadL tys rfl rfl (lt_of rfl) rfl rfl rfl rfl (getT0 _ _ (by omega) (by omega)) rfl ?_
  refine WO_norm rfl ?_
  refine WO_buildF tys [_] rfl rfl (lt_of rfl) rfl rfl rfl rfl rfl (by decide) (by repeat (first | exact PartsF.nil' | refine PartsF.cons' rfl rfl ?_)) rfl ?_
  refine WO_norm rfl ?_
  refine ev ?_
  refine WO_nil ?_
  refine thenQ_n ?_
  first | refine W_le (Le.nilT (u := 2) 4 rfl) ?_ | skip
  refine W_ret ?_
  refine Ends_of (.inr rfl) (ret_okF rfl) (by decide) rfl ?_
  · first
    | (rw [ways, if_neg h1]; rfl)
    | (rw [ways_at h1 h0 (h1' h1), if_pos h2]; done)
    | (rw [ways_at h1 h0 (h1' h1), if_neg h2]; show [D.t (T.list 4 [Act.tt _])] = [D.t (T.list 4 [Act.toT _])]; rw [Act.toT_eq])

theorem casesOf_fun (w : World) (i : Int) (hi0 : 0 ≤ i) (hi1 : i < w.tasks.length) (hl : (w.tasks[i.toNat]'(by omega)).acts.length ≤ 1048576) (h0 : 0 ≤ (w.tasks[i.toNat]'(by omega)).pos) (h1' : (w.tasks[i.toNat]'(by omega)).state = 0 → (w.tasks[i.toNat]'(by omega)).pos < (w.tasks[i.toNat]'(by omega)).acts.length) : Fun Try.prog 91 [.t w.tt, .t (.int i)] (tupD [.t (T.Acts (ways (w.tasks[i.toNat]'(by omega))))]) := by
  refine Fun.begin tys Try.func91 rfl rfl (N := 34) [(0, .t w.tt), (1, .t (.int i))] rfl rfl (fun w0 G F0 => ?_)
  refine W_seq ?_
  refine W_region ?_
  refine WO_box rfl rfl (lt_of rfl) rfl rfl ?_
  refine WO_norm rfl ?_
  refine ev ?_
  refine WO_nil ?_
  refine thenQ_n ?_
  refine W_seq ?_
  refine W_region ?_
  iterate 3 (refine ev ?_)
  first | refine WO_idxT tys rfl rfl (lt_of rfl) rfl rfl rfl rfl rfl rfl rfl (by omega) _ (getT _ _ (by omega) (by omega)) ?_ | refine WO_idxS tys rfl rfl (lt_of rfl) rfl rfl rfl rfl rfl rfl rfl rfl (by omega) (by omega) ?_
  first | (refine ev ?_; try refine WO_le (Le.freeze (u := 11) rfl) ?_) | refine WO_loadL tys rfl rfl (lt_of rfl) rfl rfl rfl rfl (getT _ _ (by omega) (by omega)) rfl ?_ | refine WO_loadL tys rfl rfl (lt_of rfl) rfl rfl rfl rfl (getT0 _ _ (by omega) (by omega)) rfl ?_
  refine WO_norm rfl ?_
  refine WO_alloc tys rfl rfl (lt_of rfl) rfl rfl rfl ?_
  refine WO_norm rfl ?_
  refine WO_store tys rfl rfl rfl rfl rfl rfl rfl rfl (lt_of rfl) ?_
  refine WO_norm rfl ?_
  refine WO_keep [4, 5] rfl ?_
  refine WO_nil ?_
  refine thenQ_n ?_
  iterate 2 (refine W_seq ?_)
  refine W_region ?_
  iterate 3 (refine ev ?_)
  refine WO_nil ?_
  refine thenQ_n ?_
  refine W_cond rfl (fun h1 => ?_) (fun h1 => ?_)
  ·
    try simp only [HS] at h1
    refine W_seq ?_
    refine W_region ?_
    refine ev ?_
    refine WO_nil ?_
    refine thenQ_n ?_
    first | refine W_le (Le.nilT (u := 4) 4 rfl) ?_ | skip
    refine W_ret ?_
    refine thenQ_r ?_
    refine Ends_of (.inr rfl) (ret_okF rfl) (by decide) rfl ?_
    · first
      | (rw [ways, if_neg h1]; rfl)
      | (rw [ways_at h1 h0 (h1' h1), if_pos h2]; done)
      | (rw [ways_at h1 h0 (h1' h1), if_neg h2]; rw [← List.map_drop, ← List.map_take, part_one h0 (h1' h1)]; done)
  try simp only [HS] at h1
  refine W_skip ?_
  refine thenQ_n ?_
  iterate 2 (refine W_seq ?_)
  refine W_region ?_
  iterate 4 (refine ev ?_)
  first | refine WO_idxT tys rfl rfl (lt_of rfl) rfl rfl rfl rfl rfl rfl rfl (by omega) _ (getAct _ (by omega) (by omega)) ?_ | refine WO_idxS tys rfl rfl (lt_of rfl) rfl rfl rfl rfl rfl rfl rfl rfl (by omega) (by omega) ?_
  first | (refine ev ?_; try refine WO_le (Le.freeze (u := 20) rfl) ?_) | refine WO_loadL tys rfl rfl (lt_of rfl) rfl rfl rfl rfl (getT _ _ (by omega) (by omega)) rfl ?_ | refine WO_loadL tys rfl rfl (lt_of rfl) rfl rfl rfl rfl (getT0 _ _ (by omega) (by omega)) rfl ?_
  refine WO_norm rfl ?_
  refine WO_keep [4, 5, 20] rfl ?_
  refine WO_alloc tys rfl rfl (lt_of rfl) rfl rfl rfl ?_
  refine WO_norm rfl ?_
  refine WO_store tys rfl rfl rfl rfl rfl rfl rfl rfl (lt_of rfl) ?_
  refine WO_norm rfl ?_
  refine WO_nil ?_
  refine thenQ_n ?_
  refine W_seq ?_
  refine W_region ?_
  iterate 3 (refine ev ?_)
  refine WO_nil ?_
  refine thenQ_n ?_
  refine W_cond rfl (fun h2 => ?_) (fun h2 => ?_)
  ·
    try simp only [HS] at h2
    refine W_seq ?_
    refine W_region ?_
    iterate 3 (refine ev ?_)
    refine WO_nil ?_
    refine thenQ_n ?_
    first | refine W_le (Le.nilT (u := 4) 4 rfl) ?_ | skip
    refine W_ret ?_
    refine thenQ_r ?_
    refine Ends_of (.inr rfl) (ret_okF rfl) (by decide) rfl ?_
    · first
      | (rw [ways, if_neg h1]; rfl)
      | (rw [ways_at h1 h0 (h1' h1), if_pos h2]; done)
      | (rw [ways_at h1 h0 (h1' h1), if_neg h2]; rw [← List.map_drop, ← List.map_take, part_one h0 (h1' h1)]; done)
  try simp only [HS] at h2
  refine W_skip ?_
  refine thenQ_n ?_
  refine W_seq ?_
  refine W_region ?_
  iterate 4 (refine ev ?_)
  refine WO_keep [4, 5, 27, 29] rfl ?_
  refine ev ?_
  refine ev ?_
  refine evI ?_
  first | refine WO_sliceNil tys rfl rfl (lt_of rfl) rfl rfl rfl rfl rfl rfl rfl ?_ | refine WO_sliceT tys rfl rfl (lt_of rfl) rfl rfl rfl rfl rfl rfl rfl rfl (by first | omega | (simp only [List.length_map]; omega)) (by first | omega | (simp only [List.length_map]; omega)) (by first | omega | (simp only [List.length_map]; omega)) ?_ | refine WO_sliceS tys rfl rfl (lt_of rfl) rfl rfl rfl rfl rfl rfl rfl rfl rfl (by omega) (by omega) (by omega) ?_
  refine ev ?_
  refine WO_nil ?_
  refine thenQ_n ?_
  first | refine W_le (Le.nilT (u := 4) 4 rfl) ?_ | skip
  refine W_ret ?_
  refine Ends_of (.inr rfl) (ret_okF rfl) (by decide) rfl ?_
  · first
    | (rw [ways, if_neg h1]; rfl)
    | (rw [ways_at h1 h0 (h1' h1), if_pos h2]; done)
    | (rw [ways_at h1 h0 (h1' h1), if_neg h2]; rw [← List.map_drop, ← List.map_take, part_one h0 (h1' h1)]; done)


def at0 {α : Type} (d : α) (l : List α) (i : Int) : α := (l[i.toNat]?).getD d
theorem at0_of {α : Type} {d : α} {l : List α} {i : Int} (h0 : 0 ≤ i) (h1 : i < l.length) : at0 d l i = l[i.toNat]'(by omega) := by
  unfold at0; rw [List.getElem?_eq_getElem (by omega)]; rfl
/-- Whether an act can be done alone. -/
def alone (w : World) (a : Act) : Bool := if a.kind = 1 then at0 false w.shut a.chan || decide (((at0 [] w.held a.chan).length : Int) < at0 0 w.room a.chan) else if a.kind = 2 then at0 false w.shut a.chan || decide ((0 : Int) < (at0 [] w.held a.chan).length) else true

theorem l15Alone_fun (w : World) (a : Act) (hc0 : 0 ≤ a.chan) (hc1 : a.chan < w.room.length) (hh : (w.held.length : Int) = w.room.length) (hs : (w.shut.length : Int) = w.room.length) (hr : w.room.length ≤ 3) : Fun Try.prog 89 [.t w.tt, .t a.tt] (tupD [.t (.bool (alone w a))]) := by
  refine Fun.begin tys Try.func89 rfl rfl (N := 49) [(0, .t w.tt), (1, .t a.tt)] rfl rfl (fun w0 G F0 => ?_)
  refine W_seq ?_
  refine W_region ?_
  refine WO_box rfl rfl (lt_of rfl) rfl rfl ?_
  refine WO_norm rfl ?_
  refine WO_box rfl rfl (lt_of rfl) rfl rfl ?_
  refine WO_norm rfl ?_
  refine ev ?_
  refine WO_nil ?_
  refine thenQ_n ?_
  iterate 2 (refine W_seq ?_)
  refine W_region ?_
  refine ev ?_
  refine ev ?_
  refine WO_nil ?_
  refine thenQ_n ?_
  refine W_block ?_
  refine W_seq ?_
  refine W_region ?_
  refine ev ?_
  refine ev ?_
  refine WO_nil ?_
  refine thenQ_n ?_
  refine W_cond rfl (fun h1 => ?_) (fun h1 => ?_)
  ·
    try simp only [HS] at h1
    refine W_seq ?_
    refine W_keep [2, 3, 4] rfl ?_
    refine W_regionD mixed (by kernel_rfl) ?_
    iterate 4 (refine evQ ?_)
    first | refine QL_idxT tys rfl rfl (lt_of rfl) rfl rfl rfl rfl rfl rfl rfl (by omega) _ (getT _ _ (by omega) (by omega)) ?_ | refine QL_idxS tys rfl rfl (lt_of rfl) rfl rfl rfl rfl rfl rfl rfl rfl (by omega) (by omega) ?_
    first | refine evQ ?_ | refine QL_loadL tys rfl rfl (lt_of rfl) rfl rfl rfl rfl (getT _ _ (by omega) (by omega)) rfl ?_ | refine QL_loadL tys rfl rfl (lt_of rfl) rfl rfl rfl rfl (getT0 _ _ (by omega) (by omega)) rfl ?_
    refine QL_norm rfl ?_
    refine evQ ?_
    refine QL_split (fun h2 => ?_) (fun h2 => ?_)
    ·
      try simp only [HS] at h2
      iterate 14 (refine QL_guardN rfl rfl rfl rfl rfl (lt_of rfl) ?_)
      refine evQ ?_
      refine evQ ?_
      refine QL_nil ?_
      refine thenQ_n ?_
      refine W_ret ?_
      refine inBlk_r ?_
      refine thenQ_r ?_
      refine Ends_of (.inr rfl) (ret_okF rfl) (by decide) rfl ?_
      · have e1 := at0_of (d := false) (l := w.shut) hc0 (by omega)
        have e2 := at0_of (d := []) (l := w.held) hc0 (by omega)
        have e3 := at0_of (d := 0) (l := w.room) hc0 (by omega)
        exact retB (by grind [alone])
    try simp only [HS] at h2
    refine QL_guardY rfl rfl rfl rfl (lt_of rfl) ?_
    refine evQ ?_
    refine QL_guardY rfl rfl rfl rfl (lt_of rfl) ?_
    refine evQ ?_
    refine QL_guardY rfl rfl rfl rfl (lt_of rfl) ?_
    refine evQ ?_
    refine QL_guardY rfl rfl rfl rfl (lt_of rfl) ?_
    refine evQ ?_
    refine QL_guardY rfl rfl rfl rfl (lt_of rfl) ?_
    first | refine QL_idxT tys rfl rfl (lt_of rfl) rfl rfl rfl rfl rfl rfl rfl (by omega) _ (getT _ _ (by omega) (by omega)) ?_ | refine QL_idxS tys rfl rfl (lt_of rfl) rfl rfl rfl rfl rfl rfl rfl rfl (by omega) (by omega) ?_
    refine QL_norm rfl ?_
    refine QL_guardY rfl rfl rfl rfl (lt_of rfl) ?_
    first | refine evQ ?_ | refine QL_loadL tys rfl rfl (lt_of rfl) rfl rfl rfl rfl (getT _ _ (by omega) (by omega)) rfl ?_ | refine QL_loadL tys rfl rfl (lt_of rfl) rfl rfl rfl rfl (getT0 _ _ (by omega) (by omega)) rfl ?_
    refine QL_guardY rfl rfl rfl rfl (lt_of rfl) ?_
    refine evEQ ?_
    refine QL_guardY rfl rfl rfl rfl (lt_of rfl) ?_
    refine evQ ?_
    refine QL_guardY rfl rfl rfl rfl (lt_of rfl) ?_
    refine evQ ?_
    refine QL_guardY rfl rfl rfl rfl (lt_of rfl) ?_
    refine evQ ?_
    refine QL_guardY rfl rfl rfl rfl (lt_of rfl) ?_
    refine evQ ?_
    refine QL_norm rfl ?_
    refine QL_guardY rfl rfl rfl rfl (lt_of rfl) ?_
    first | refine QL_idxT tys rfl rfl (lt_of rfl) rfl rfl rfl rfl rfl rfl rfl (by omega) _ (getT _ _ (by omega) (by omega)) ?_ | refine QL_idxS tys rfl rfl (lt_of rfl) rfl rfl rfl rfl rfl rfl rfl rfl (by omega) (by omega) ?_
    refine QL_guardY rfl rfl rfl rfl (lt_of rfl) ?_
    first | refine evQ ?_ | refine QL_loadL tys rfl rfl (lt_of rfl) rfl rfl rfl rfl (getT _ _ (by omega) (by omega)) rfl ?_ | refine QL_loadL tys rfl rfl (lt_of rfl) rfl rfl rfl rfl (getT0 _ _ (by omega) (by omega)) rfl ?_
    refine QL_guardY rfl rfl rfl rfl (lt_of rfl) ?_
    iterate 3 (refine evQ ?_)
    refine QL_nil ?_
    refine thenQ_n ?_
    refine W_ret ?_
    refine inBlk_r ?_
    refine thenQ_r ?_
    refine Ends_of (.inr rfl) (ret_okF rfl) (by decide) rfl ?_
    · have e1 := at0_of (d := false) (l := w.shut) hc0 (by omega)
      have e2 := at0_of (d := []) (l := w.held) hc0 (by omega)
      have e3 := at0_of (d := 0) (l := w.room) hc0 (by omega)
      exact retB (by grind [alone])
  try simp only [HS] at h1
  refine W_seq ?_
  refine W_keep [2, 3, 4, 6] rfl ?_
  refine W_region ?_
  refine ev ?_
  refine ev ?_
  refine WO_nil ?_
  refine thenQ_n ?_
  refine W_cond rfl (fun h2 => ?_) (fun h2 => ?_)
  ·
    try simp only [HS] at h2
    refine W_seq ?_
    refine W_region ?_
    iterate 4 (refine ev ?_)
    first | refine WO_idxT tys rfl rfl (lt_of rfl) rfl rfl rfl rfl rfl rfl rfl (by omega) _ (getT _ _ (by omega) (by omega)) ?_ | refine WO_idxS tys rfl rfl (lt_of rfl) rfl rfl rfl rfl rfl rfl rfl rfl (by omega) (by omega) ?_
    first | refine ev ?_ | refine WO_loadL tys rfl rfl (lt_of rfl) rfl rfl rfl rfl (getT _ _ (by omega) (by omega)) rfl ?_ | refine WO_loadL tys rfl rfl (lt_of rfl) rfl rfl rfl rfl (getT0 _ _ (by omega) (by omega)) rfl ?_
    refine ev ?_
    refine WO_keep [2, 3, 4, 39] rfl ?_
    refine WO_guard rfl rfl rfl rfl (lt_of rfl) (fun h3 => ?_) (fun h3 => ?_)
    rotate_left
    ·
      try simp only [HS] at h3
      iterate 7 (refine WO_guardN rfl rfl rfl rfl rfl (lt_of rfl) ?_)
      refine ev ?_
      refine ev ?_
      refine WO_keep [4] rfl ?_
      refine WO_nil ?_
      refine thenQ_n ?_
      refine W_ret ?_
      refine inBlk_r ?_
      refine thenQ_r ?_
      refine Ends_of (.inr rfl) (ret_okF rfl) (by decide) rfl ?_
      · have e1 := at0_of (d := false) (l := w.shut) hc0 (by omega)
        have e2 := at0_of (d := []) (l := w.held) hc0 (by omega)
        have e3 := at0_of (d := 0) (l := w.room) hc0 (by omega)
        exact retB (by grind [alone])
    try simp only [HS] at h3
    refine ev ?_
    refine WO_guardY rfl rfl rfl rfl (lt_of rfl) ?_
    refine ev ?_
    refine WO_guardY rfl rfl rfl rfl (lt_of rfl) ?_
    refine ev ?_
    refine WO_guardY rfl rfl rfl rfl (lt_of rfl) ?_
    refine ev ?_
    refine WO_guardY rfl rfl rfl rfl (lt_of rfl) ?_
    first | refine WO_idxT tys rfl rfl (lt_of rfl) rfl rfl rfl rfl rfl rfl rfl (by omega) _ (getT _ _ (by omega) (by omega)) ?_ | refine WO_idxS tys rfl rfl (lt_of rfl) rfl rfl rfl rfl rfl rfl rfl rfl (by omega) (by omega) ?_
    refine WO_guardY rfl rfl rfl rfl (lt_of rfl) ?_
    first | refine ev ?_ | refine WO_loadL tys rfl rfl (lt_of rfl) rfl rfl rfl rfl (getT _ _ (by omega) (by omega)) rfl ?_ | refine WO_loadL tys rfl rfl (lt_of rfl) rfl rfl rfl rfl (getT0 _ _ (by omega) (by omega)) rfl ?_
    refine WO_guardY rfl rfl rfl rfl (lt_of rfl) ?_
    refine evE ?_
    refine WO_guardY rfl rfl rfl rfl (lt_of rfl) ?_
    refine ev ?_
    refine ev ?_
    refine WO_keep [4, 48] rfl ?_
    refine ev ?_
    refine WO_nil ?_
    refine thenQ_n ?_
    refine W_ret ?_
    refine inBlk_r ?_
    refine thenQ_r ?_
    refine Ends_of (.inr rfl) (ret_okF rfl) (by decide) rfl ?_
    · have e1 := at0_of (d := false) (l := w.shut) hc0 (by omega)
      have e2 := at0_of (d := []) (l := w.held) hc0 (by omega)
      have e3 := at0_of (d := 0) (l := w.room) hc0 (by omega)
      exact retB (by grind [alone])
  try simp only [HS] at h2
  refine W_skip ?_
  refine inBlk_n ?_
  refine thenQ_n ?_
  refine W_seq ?_
  refine W_region ?_
  refine ev ?_
  refine WO_nil ?_
  refine thenQ_n ?_
  refine W_ret ?_
  refine Ends_of (.inr rfl) (ret_okF rfl) (by decide) rfl ?_
  · have e1 := at0_of (d := false) (l := w.shut) hc0 (by omega)
    have e2 := at0_of (d := []) (l := w.held) hc0 (by omega)
    have e3 := at0_of (d := 0) (l := w.room) hc0 (by omega)
    exact retB (by grind [alone])

theorem isAlone_fun (w : World) (a : Act) (hc0 : 0 ≤ a.chan) (hc1 : a.chan < w.room.length) (hh : (w.held.length : Int) = w.room.length) (hs : (w.shut.length : Int) = w.room.length) (hr : w.room.length ≤ 3) : Fun Try.prog 92 [.t w.tt, .t a.tt] (tupD [.t (.bool (alone w a))]) := by
  refine Fun.begin tys Try.func92 rfl rfl (N := 49) [(0, .t w.tt), (1, .t a.tt)] rfl rfl (fun w0 G F0 => ?_)
  refine W_seq ?_
  refine W_region ?_
  refine WO_box rfl rfl (lt_of rfl) rfl rfl ?_
  refine WO_norm rfl ?_
  refine WO_box rfl rfl (lt_of rfl) rfl rfl ?_
  refine WO_norm rfl ?_
  refine ev ?_
  refine WO_nil ?_
  refine thenQ_n ?_
  iterate 2 (refine W_seq ?_)
  refine W_region ?_
  refine ev ?_
  refine ev ?_
  refine WO_nil ?_
  refine thenQ_n ?_
  refine W_block ?_
  refine W_seq ?_
  refine W_region ?_
  refine ev ?_
  refine ev ?_
  refine WO_nil ?_
  refine thenQ_n ?_
  refine W_cond rfl (fun h1 => ?_) (fun h1 => ?_)
  ·
    try simp only [HS] at h1
    refine W_seq ?_
    refine W_keep [2, 3, 4] rfl ?_
    refine W_regionD mixed (by kernel_rfl) ?_
    iterate 4 (refine evQ ?_)
    first | refine QL_idxT tys rfl rfl (lt_of rfl) rfl rfl rfl rfl rfl rfl rfl (by omega) _ (getT _ _ (by omega) (by omega)) ?_ | refine QL_idxS tys rfl rfl (lt_of rfl) rfl rfl rfl rfl rfl rfl rfl rfl (by omega) (by omega) ?_
    first | refine evQ ?_ | refine QL_loadL tys rfl rfl (lt_of rfl) rfl rfl rfl rfl (getT _ _ (by omega) (by omega)) rfl ?_ | refine QL_loadL tys rfl rfl (lt_of rfl) rfl rfl rfl rfl (getT0 _ _ (by omega) (by omega)) rfl ?_
    refine QL_norm rfl ?_
    refine evQ ?_
    refine QL_split (fun h2 => ?_) (fun h2 => ?_)
    ·
      try simp only [HS] at h2
      iterate 14 (refine QL_guardN rfl rfl rfl rfl rfl (lt_of rfl) ?_)
      refine evQ ?_
      refine evQ ?_
      refine QL_nil ?_
      refine thenQ_n ?_
      refine W_ret ?_
      refine inBlk_r ?_
      refine thenQ_r ?_
      refine Ends_of (.inr rfl) (ret_okF rfl) (by decide) rfl ?_
      · have e1 := at0_of (d := false) (l := w.shut) hc0 (by omega)
        have e2 := at0_of (d := []) (l := w.held) hc0 (by omega)
        have e3 := at0_of (d := 0) (l := w.room) hc0 (by omega)
        exact retB (by grind [alone])
    try simp only [HS] at h2
    refine QL_guardY rfl rfl rfl rfl (lt_of rfl) ?_
    refine evQ ?_
    refine QL_guardY rfl rfl rfl rfl (lt_of rfl) ?_
    refine evQ ?_
    refine QL_guardY rfl rfl rfl rfl (lt_of rfl) ?_
    refine evQ ?_
    refine QL_guardY rfl rfl rfl rfl (lt_of rfl) ?_
    refine evQ ?_
    refine QL_guardY rfl rfl rfl rfl (lt_of rfl) ?_
    first | refine QL_idxT tys rfl rfl (lt_of rfl) rfl rfl rfl rfl rfl rfl rfl (by omega) _ (getT _ _ (by omega) (by omega)) ?_ | refine QL_idxS tys rfl rfl (lt_of rfl) rfl rfl rfl rfl rfl rfl rfl rfl (by omega) (by omega) ?_
    refine QL_norm rfl ?_
    refine QL_guardY rfl rfl rfl rfl (lt_of rfl) ?_
    first | refine evQ ?_ | refine QL_loadL tys rfl rfl (lt_of rfl) rfl rfl rfl rfl (getT _ _ (by omega) (by omega)) rfl ?_ | refine QL_loadL tys rfl rfl (lt_of rfl) rfl rfl rfl rfl (getT0 _ _ (by omega) (by omega)) rfl ?_
    refine QL_guardY rfl rfl rfl rfl (lt_of rfl) ?_
    refine evEQ ?_
    refine QL_guardY rfl rfl rfl rfl (lt_of rfl) ?_
    refine evQ ?_
    refine QL_guardY rfl rfl rfl rfl (lt_of rfl) ?_
    refine evQ ?_
    refine QL_guardY rfl rfl rfl rfl (lt_of rfl) ?_
    refine evQ ?_
    refine QL_guardY rfl rfl rfl rfl (lt_of rfl) ?_
    refine evQ ?_
    refine QL_norm rfl ?_
    refine QL_guardY rfl rfl rfl rfl (lt_of rfl) ?_
    first | refine QL_idxT tys rfl rfl (lt_of rfl) rfl rfl rfl rfl rfl rfl rfl (by omega) _ (getT _ _ (by omega) (by omega)) ?_ | refine QL_idxS tys rfl rfl (lt_of rfl) rfl rfl rfl rfl rfl rfl rfl rfl (by omega) (by omega) ?_
    refine QL_guardY rfl rfl rfl rfl (lt_of rfl) ?_
    first | refine evQ ?_ | refine QL_loadL tys rfl rfl (lt_of rfl) rfl rfl rfl rfl (getT _ _ (by omega) (by omega)) rfl ?_ | refine QL_loadL tys rfl rfl (lt_of rfl) rfl rfl rfl rfl (getT0 _ _ (by omega) (by omega)) rfl ?_
    refine QL_guardY rfl rfl rfl rfl (lt_of rfl) ?_
    iterate 3 (refine evQ ?_)
    refine QL_nil ?_
    refine thenQ_n ?_
    refine W_ret ?_
    refine inBlk_r ?_
    refine thenQ_r ?_
    refine Ends_of (.inr rfl) (ret_okF rfl) (by decide) rfl ?_
    · have e1 := at0_of (d := false) (l := w.shut) hc0 (by omega)
      have e2 := at0_of (d := []) (l := w.held) hc0 (by omega)
      have e3 := at0_of (d := 0) (l := w.room) hc0 (by omega)
      exact retB (by grind [alone])
  try simp only [HS] at h1
  refine W_seq ?_
  refine W_keep [2, 3, 4, 6] rfl ?_
  refine W_region ?_
  refine ev ?_
  refine ev ?_
  refine WO_nil ?_
  refine thenQ_n ?_
  refine W_cond rfl (fun h2 => ?_) (fun h2 => ?_)
  ·
    try simp only [HS] at h2
    refine W_seq ?_
    refine W_region ?_
    iterate 4 (refine ev ?_)
    first | refine WO_idxT tys rfl rfl (lt_of rfl) rfl rfl rfl rfl rfl rfl rfl (by omega) _ (getT _ _ (by omega) (by omega)) ?_ | refine WO_idxS tys rfl rfl (lt_of rfl) rfl rfl rfl rfl rfl rfl rfl rfl (by omega) (by omega) ?_
    first | refine ev ?_ | refine WO_loadL tys rfl rfl (lt_of rfl) rfl rfl rfl rfl (getT _ _ (by omega) (by omega)) rfl ?_ | refine WO_loadL tys rfl rfl (lt_of rfl) rfl rfl rfl rfl (getT0 _ _ (by omega) (by omega)) rfl ?_
    refine ev ?_
    refine WO_keep [2, 3, 4, 39] rfl ?_
    refine WO_guard rfl rfl rfl rfl (lt_of rfl) (fun h3 => ?_) (fun h3 => ?_)
    rotate_left
    ·
      try simp only [HS] at h3
      iterate 7 (refine WO_guardN rfl rfl rfl rfl rfl (lt_of rfl) ?_)
      refine ev ?_
      refine ev ?_
      refine WO_keep [4] rfl ?_
      refine WO_nil ?_
      refine thenQ_n ?_
      refine W_ret ?_
      refine inBlk_r ?_
      refine thenQ_r ?_
      refine Ends_of (.inr rfl) (ret_okF rfl) (by decide) rfl ?_
      · have e1 := at0_of (d := false) (l := w.shut) hc0 (by omega)
        have e2 := at0_of (d := []) (l := w.held) hc0 (by omega)
        have e3 := at0_of (d := 0) (l := w.room) hc0 (by omega)
        exact retB (by grind [alone])
    try simp only [HS] at h3
    refine ev ?_
    refine WO_guardY rfl rfl rfl rfl (lt_of rfl) ?_
    refine ev ?_
    refine WO_guardY rfl rfl rfl rfl (lt_of rfl) ?_
    refine ev ?_
    refine WO_guardY rfl rfl rfl rfl (lt_of rfl) ?_
    refine ev ?_
    refine WO_guardY rfl rfl rfl rfl (lt_of rfl) ?_
    first | refine WO_idxT tys rfl rfl (lt_of rfl) rfl rfl rfl rfl rfl rfl rfl (by omega) _ (getT _ _ (by omega) (by omega)) ?_ | refine WO_idxS tys rfl rfl (lt_of rfl) rfl rfl rfl rfl rfl rfl rfl rfl (by omega) (by omega) ?_
    refine WO_guardY rfl rfl rfl rfl (lt_of rfl) ?_
    first | refine ev ?_ | refine WO_loadL tys rfl rfl (lt_of rfl) rfl rfl rfl rfl (getT _ _ (by omega) (by omega)) rfl ?_ | refine WO_loadL tys rfl rfl (lt_of rfl) rfl rfl rfl rfl (getT0 _ _ (by omega) (by omega)) rfl ?_
    refine WO_guardY rfl rfl rfl rfl (lt_of rfl) ?_
    refine evE ?_
    refine WO_guardY rfl rfl rfl rfl (lt_of rfl) ?_
    refine ev ?_
    refine ev ?_
    refine WO_keep [4, 48] rfl ?_
    refine ev ?_
    refine WO_nil ?_
    refine thenQ_n ?_
    refine W_ret ?_
    refine inBlk_r ?_
    refine thenQ_r ?_
    refine Ends_of (.inr rfl) (ret_okF rfl) (by decide) rfl ?_
    · have e1 := at0_of (d := false) (l := w.shut) hc0 (by omega)
      have e2 := at0_of (d := []) (l := w.held) hc0 (by omega)
      have e3 := at0_of (d := 0) (l := w.room) hc0 (by omega)
      exact retB (by grind [alone])
  try simp only [HS] at h2
  refine W_skip ?_
  refine inBlk_n ?_
  refine thenQ_n ?_
  refine W_seq ?_
  refine W_region ?_
  refine ev ?_
  refine WO_nil ?_
  refine thenQ_n ?_
  refine W_ret ?_
  refine Ends_of (.inr rfl) (ret_okF rfl) (by decide) rfl ?_
  · have e1 := at0_of (d := false) (l := w.shut) hc0 (by omega)
    have e2 := at0_of (d := []) (l := w.held) hc0 (by omega)
    have e3 := at0_of (d := 0) (l := w.room) hc0 (by omega)
    exact retB (by grind [alone])

/-- What of a good world is needed for its moves. -/
structure Good (w : World) : Prop where
  room : w.room.length ≤ 3
  held : (w.held.length : Int) = w.room.length
  shut : (w.shut.length : Int) = w.room.length
  tasks : w.tasks.length ≤ 4
  pos : ∀ t, t ∈ w.tasks → 0 ≤ t.pos ∧ (t.state = 0 → t.pos < t.acts.length) ∧ t.acts.length ≤ 6
  ways : ∀ t, t ∈ w.tasks → (ways t).length ≤ 3 ∧ ∀ a, a ∈ ways t → 0 ≤ a.chan ∧ a.chan < w.room.length

theorem good_of {w : World} (h : goodWorld w = true) : Good w := by
  unfold goodWorld at h
  simp only [Bool.and_eq_true, decide_eq_true_eq, List.all_eq_true] at h
  obtain ⟨h1, h2, h3, h4, h5, h6, h7, h8, h9⟩ := h
  have ht : ∀ t, t ∈ w.tasks → (0 ≤ t.pos ∧ (t.state = 0 → t.pos < t.acts.length) ∧ t.acts.length ≤ 6) ∧ ∀ a, a ∈ t.acts → goodAct w.room.length a = true := fun t ht => by
    have := h9 t ht
    unfold goodTask goodActs at this
    simp only [Bool.and_eq_true, decide_eq_true_eq, List.all_eq_true] at this
    obtain ⟨⟨q1, q2⟩, q3, q4, q5, q6⟩ := this
    refine ⟨⟨q3.1, fun hs => ?_, by omega⟩, q1⟩
    have : ¬ t.pos = t.acts.length := fun e => by have := q6.2 e; omega
    omega
  refine ⟨by omega, h2, h3, by omega, fun t h => (ht t h).1, fun t hm => ?_⟩
  obtain ⟨⟨p0, p1, p2⟩, p3⟩ := ht t hm
  by_cases hs : t.state = 0
  · have hp := p1 hs
    rw [ways_at hs p0 hp]
    have hg := p3 _ (List.getElem_mem (l := t.acts) (n := t.pos.toNat) (by omega))
    unfold goodAct at hg
    split
    · rename_i hk
      rw [if_pos hk] at hg
      simp only [Bool.and_eq_true, decide_eq_true_eq, List.all_eq_true] at hg
      refine ⟨by omega, fun a ha => ?_⟩
      have := hg.1 a ha
      unfold caseAct plainAct at this
      simp only [Bool.and_eq_true, decide_eq_true_eq] at this
      exact ⟨this.2.1.2.1, by omega⟩
    · rename_i hk
      rw [if_neg hk] at hg
      unfold plainAct at hg
      simp only [Bool.and_eq_true, decide_eq_true_eq] at hg
      refine ⟨by simp, fun a ha => ?_⟩
      rw [List.mem_singleton] at ha
      subst ha
      exact ⟨hg.1.2.1, by omega⟩
  · unfold Go.Proofs.Ytbkamkmmljbedaa.ways
    rw [if_neg hs]
    exact ⟨by simp, fun a ha => by cases ha⟩

/-- The moves of a world, in order. -/
def mvB (i k : Int) (a : Act) (j : Int) : List Act → Int → List (List Int) → List (List Int)
  | [], _, acc => acc
  | b :: l, m, acc => mvB i k a j l (m + 1) (if ¬ i = j ∧ b.kind = 2 ∧ b.chan = a.chan then acc ++ [[i, k, j, m]] else acc)
def mvU (i k : Int) (a : Act) : List Task → Int → List (List Int) → List (List Int)
  | [], _, acc => acc
  | u :: l, j, acc => mvU i k a l (j + 1) (mvB i k a j (ways u) 0 acc)
def mvS (w : World) (a : Act) : Bool := decide (a.kind = 1) && (!at0 false w.shut a.chan && decide (((at0 [] w.held a.chan).length : Int) ≤ 0))
def mvA (w : World) (i : Int) : List Act → Int → List (List Int) → List (List Int)
  | [], _, acc => acc
  | a :: l, k, acc => mvA w i l (k + 1) (if mvS w a then mvU i k a w.tasks 0 (if alone w a then acc ++ [[i, k, -1, 0]] else acc) else (if alone w a then acc ++ [[i, k, -1, 0]] else acc))
def mvT (w : World) : List Task → Int → List (List Int) → List (List Int)
  | [], _, acc => acc
  | t :: l, i, acc => mvT w l (i + 1) (mvA w i (ways t) 0 acc)
def movesOf (w : World) : List (List Int) := mvT w w.tasks 0 []

theorem mvB_at {i k j m : Int} {a : Act} {l : List Act} {acc : List (List Int)} (h0 : 0 ≤ m) (h1 : m < l.length) : mvB i k a j (l.drop m.toNat) m acc = mvB i k a j (l.drop (m + 1).toNat) (m + 1) (if ¬ i = j ∧ (l[m.toNat]'(by omega)).kind = 2 ∧ (l[m.toNat]'(by omega)).chan = a.chan then acc ++ [[i, k, j, m]] else acc) := by
  rw [drop_at h0 h1, mvB]
theorem mvU_at {i k j : Int} {a : Act} {l : List Task} {acc : List (List Int)} (h0 : 0 ≤ j) (h1 : j < l.length) : mvU i k a (l.drop j.toNat) j acc = mvU i k a (l.drop (j + 1).toNat) (j + 1) (mvB i k a j (ways (l[j.toNat]'(by omega))) 0 acc) := by
  rw [drop_at h0 h1, mvU]
theorem mvA_at {w : World} {i k : Int} {l : List Act} {acc : List (List Int)} (h0 : 0 ≤ k) (h1 : k < l.length) : mvA w i (l.drop k.toNat) k acc = mvA w i (l.drop (k + 1).toNat) (k + 1)
    (if mvS w (l[k.toNat]'(by omega)) then mvU i k (l[k.toNat]'(by omega)) w.tasks 0 (if alone w (l[k.toNat]'(by omega)) then acc ++ [[i, k, -1, 0]] else acc) else (if alone w (l[k.toNat]'(by omega)) then acc ++ [[i, k, -1, 0]] else acc)) := by
  rw [drop_at h0 h1, mvA]
theorem mvT_at {w : World} {i : Int} {l : List Task} {acc : List (List Int)} (h0 : 0 ≤ i) (h1 : i < l.length) : mvT w (l.drop i.toNat) i acc = mvT w (l.drop (i + 1).toNat) (i + 1) (mvA w i (ways (l[i.toNat]'(by omega))) 0 acc) := by
  rw [drop_at h0 h1, mvT]

end Go.Proofs.Ytbkamkmmljbedaa
