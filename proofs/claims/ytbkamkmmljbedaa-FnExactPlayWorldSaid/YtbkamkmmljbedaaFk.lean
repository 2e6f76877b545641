/- Walks and laws of the claim. -/
import Derived.Test.YtbkamkmmljbedaaFa
import Derived.Test.YtbkamkmmljbedaaMb
set_option linter.unusedVariables false
set_option linter.unusedSimpArgs false
set_option maxRecDepth 10000
set_option maxHeartbeats 2000000
namespace Go.Proofs.Ytbkamkmmljbedaa
open Go.Eng
open Go.Eng
def ways (t : Task) : List Act := if t.state = 0 then (match t.acts[t.pos.toNat]? with | some a => if a.kind = 4 then a.cases else [a] | none => []) else []
theorem ways_at {t : Task} (h : t.state = 0) (h0 : 0 ≤ t.pos) (h1 : t.pos < t.acts.length) : ways t = if (t.acts[t.pos.toNat]'(by omega)).kind = 4 then (t.acts[t.pos.toNat]'(by omega)).cases else [t.acts[t.pos.toNat]'(by omega)] := by
 unfold ways
 rw [if_pos h, List.getElem?_eq_getElem (by omega)]
theorem part_one {α : Type} {l : List α} {i : Int} (h0 : 0 ≤ i) (h1 : i < l.length) : (l.drop i.toNat).take ((i + 1).toNat - i.toNat) = [l[i.toNat]'(by omega)] := by
 rw [drop_at h0 h1, show (i + 1).toNat - i.toNat = 1 from by omega]
 rfl
theorem l15Ways_fun (t : Task) (h0 : 0 ≤ t.pos) (h1' : t.state = 0 → t.pos < t.acts.length) : Fun Try.prog 88 [.t t.tt] (tupD [.t (T.Acts (ways t))]) := by
 refine Fun.begin tys Try.func88 Z Z (N := 28) [(0, .t t.tt)] Z Z (fun w0 G F0 => ?_)
 refine sQ (rG (WO_box Z Z (lt_of Z) Z Z (nZ Z (eZ Z (oN (tN (sQ (sQ (rG (eK 3 Z (oN (tN ?_))))))))))))
 refine W_cond Z (fun h1 => ?_) (fun h1 => ?_)
 ·
  try simp only [HS] at h1
  refine sQ (rG (eZ Z (oN (tN ?_))))
  first | refine W_le (Le.nilT (u := 2) 4 rfl) ?_ | skip
  refine rT (tR (eR ?_))
  ·first
   | (rw [ways, if_neg h1]; rfl)
   | (rw [ways_at h1 h0 (h1' h1), if_pos h2]; done)
   | (rw [ways_at h1 h0 (h1' h1), if_neg h2]; show [D.t (T.list 4 [Act.tt _])] = [D.t (T.list 4 [Act.toT _])]; rw [Act.toT_eq])
 try simp only [HS] at h1
 refine W_skip (tN (sQ (sQ (rG (eK 4 Z (kZ [1,2,7,9] Z ?_))))))
 first | refine WO_idxT tys rfl rfl (lt_of rfl) rfl rfl rfl rfl rfl rfl rfl (by omega) _ (getAct _ (by omega) (by omega)) ?_ | refine WO_idxS tys rfl rfl (lt_of rfl) rfl rfl rfl rfl rfl rfl rfl rfl (by omega) (by omega) ?_
 refine eZ Z ?_
 first | refine ev ?_ | refine WO_loadL tys rfl rfl (lt_of rfl) rfl rfl rfl rfl (getT _ _ (by omega) (by omega)) rfl ?_ | refine WO_loadL tys rfl rfl (lt_of rfl) rfl rfl rfl rfl (getT0 _ _ (by omega) (by omega)) rfl ?_
 refine eZ Z (oN (tN ?_))
 refine W_cond Z (fun h2 => ?_) (fun h2 => ?_)
 ·
  try simp only [HS] at h2
  refine sQ (rG (eK 4 Z ?_))
  first | refine WO_idxT tys rfl rfl (lt_of rfl) rfl rfl rfl rfl rfl rfl rfl (by omega) _ (getAct _ (by omega) (by omega)) ?_ | refine WO_idxS tys rfl rfl (lt_of rfl) rfl rfl rfl rfl rfl rfl rfl rfl (by omega) (by omega) ?_
  refine kZ [1,2,18] Z (eZ Z ?_)
  first | refine ev ?_ | refine WO_loadL tys rfl rfl (lt_of rfl) rfl rfl rfl rfl (getT _ _ (by omega) (by omega)) rfl ?_ | refine WO_loadL tys rfl rfl (lt_of rfl) rfl rfl rfl rfl (getT0 _ _ (by omega) (by omega)) rfl ?_
  refine eZ Z (oN (tN ?_))
  first | refine W_le (Le.nilT (u := 2) 4 rfl) ?_ | skip
  refine rT (tR (eR ?_))
  ·first
   | (rw [ways, if_neg h1]; rfl)
   | (rw [ways_at h1 h0 (h1' h1), if_pos h2]; done)
   | (rw [ways_at h1 h0 (h1' h1), if_neg h2]; show [D.t (T.list 4 [Act.tt _])] = [D.t (T.list 4 [Act.toT _])]; rw [Act.toT_eq])
 try simp only [HS] at h2
 refine W_skip (tN (sQ (rG (eK 4 Z ?_))))
 first | refine WO_idxT tys rfl rfl (lt_of rfl) rfl rfl rfl rfl rfl rfl rfl (by omega) _ (getAct _ (by omega) (by omega)) ?_ | refine WO_idxS tys rfl rfl (lt_of rfl) rfl rfl rfl rfl rfl rfl rfl rfl (by omega) (by omega) ?_
 refine kZ [2,25] Z ?_
 first | (refine ev ?_; try refine WO_le (Le.freeze (u := 26) rfl) ?_) | refine WO_loadL tys rfl rfl (lt_of rfl) rfl rfl rfl rfl (getT _ _ (by omega) (by omega)) rfl ?_ | refine WO_loadL tys rfl rfl (lt_of rfl) rfl rfl rfl rfl (getT0 _ _ (by omega) (by omega)) rfl ?_
 refine nZ Z ?_
 refine WO_buildF tys [_] Z Z (lt_of Z) Z Z Z Z Z (by decide) (by repeat (first | exact PartsF.nil' | refine PartsF.cons' rfl Z ?_)) Z ?_
 refine nZ Z (eZ Z (oN (tN ?_)))
 first | refine W_le (Le.nilT (u := 2) 4 rfl) ?_ | skip
 refine rT (eR ?_)
 ·first
  | (rw [ways, if_neg h1]; rfl)
  | (rw [ways_at h1 h0 (h1' h1), if_pos h2]; done)
  | (rw [ways_at h1 h0 (h1' h1), if_neg h2]; show [D.t (T.list 4 [Act.tt _])] = [D.t (T.list 4 [Act.toT _])]; rw [Act.toT_eq])
theorem casesOf_fun (w : World) (i : Int) (hi0 : 0 ≤ i) (hi1 : i < w.tasks.length) (hl : (w.tasks[i.toNat]'(by omega)).acts.length ≤ 1048576) (h0 : 0 ≤ (w.tasks[i.toNat]'(by omega)).pos) (h1' : (w.tasks[i.toNat]'(by omega)).state = 0 → (w.tasks[i.toNat]'(by omega)).pos < (w.tasks[i.toNat]'(by omega)).acts.length) : Fun Try.prog 91 [.t w.tt, .t (.int i)] (tupD [.t (T.Acts (ways (w.tasks[i.toNat]'(by omega))))]) := by
 refine Fun.begin tys Try.func91 Z Z (N := 34) [(0, .t w.tt), (1, .t (.int i))] Z Z (fun w0 G F0 => ?_)
 refine sQ (rG (WO_box Z Z (lt_of Z) Z Z (nZ Z (eZ Z (oN (tN (sQ (rG (eK 3 Z ?_)))))))))
 first | refine WO_idxT tys rfl rfl (lt_of rfl) rfl rfl rfl rfl rfl rfl rfl (by omega) _ (getT _ _ (by omega) (by omega)) ?_ | refine WO_idxS tys rfl rfl (lt_of rfl) rfl rfl rfl rfl rfl rfl rfl rfl (by omega) (by omega) ?_
 first | (refine ev ?_; try refine WO_le (Le.freeze (u := 11) rfl) ?_) | refine WO_loadL tys rfl rfl (lt_of rfl) rfl rfl rfl rfl (getT _ _ (by omega) (by omega)) rfl ?_ | refine WO_loadL tys rfl rfl (lt_of rfl) rfl rfl rfl rfl (getT0 _ _ (by omega) (by omega)) rfl ?_
 refine nZ Z (WO_alloc tys Z Z (lt_of Z) Z Z Z (nZ Z (sT Z (nZ Z (kZ [4,5] Z (oN (tN (sQ (sQ (rG (eK 3 Z (oN (tN ?_)))))))))))))
 refine W_cond Z (fun h1 => ?_) (fun h1 => ?_)
 ·
  try simp only [HS] at h1
  refine sQ (rG (eZ Z (oN (tN ?_))))
  first | refine W_le (Le.nilT (u := 4) 4 rfl) ?_ | skip
  refine rT (tR (eR ?_))
  ·first
   | (rw [ways, if_neg h1]; rfl)
   | (rw [ways_at h1 h0 (h1' h1), if_pos h2]; done)
   | (rw [ways_at h1 h0 (h1' h1), if_neg h2]; rw [← List.map_drop, ← List.map_take, part_one h0 (h1' h1)]; done)
 try simp only [HS] at h1
 refine W_skip (tN (sQ (sQ (rG (eK 4 Z ?_)))))
 first | refine WO_idxT tys rfl rfl (lt_of rfl) rfl rfl rfl rfl rfl rfl rfl (by omega) _ (getAct _ (by omega) (by omega)) ?_ | refine WO_idxS tys rfl rfl (lt_of rfl) rfl rfl rfl rfl rfl rfl rfl rfl (by omega) (by omega) ?_
 first | (refine ev ?_; try refine WO_le (Le.freeze (u := 20) rfl) ?_) | refine WO_loadL tys rfl rfl (lt_of rfl) rfl rfl rfl rfl (getT _ _ (by omega) (by omega)) rfl ?_ | refine WO_loadL tys rfl rfl (lt_of rfl) rfl rfl rfl rfl (getT0 _ _ (by omega) (by omega)) rfl ?_
 refine nZ Z (kZ [4,5,20] Z (WO_alloc tys Z Z (lt_of Z) Z Z Z (nZ Z (sT Z (nZ Z (oN (tN (sQ (rG (eK 3 Z (oN (tN ?_))))))))))))
 refine W_cond Z (fun h2 => ?_) (fun h2 => ?_)
 ·
  try simp only [HS] at h2
  refine sQ (rG (eK 3 Z (oN (tN ?_))))
  first | refine W_le (Le.nilT (u := 4) 4 rfl) ?_ | skip
  refine rT (tR (eR ?_))
  ·first
   | (rw [ways, if_neg h1]; rfl)
   | (rw [ways_at h1 h0 (h1' h1), if_pos h2]; done)
   | (rw [ways_at h1 h0 (h1' h1), if_neg h2]; rw [← List.map_drop, ← List.map_take, part_one h0 (h1' h1)]; done)
 try simp only [HS] at h2
 refine W_skip (tN (sQ (rG (eK 4 Z (kZ [4,5,27,29] Z (eK 2 Z (evI ?_)))))))
 first | refine WO_sliceNil tys rfl rfl (lt_of rfl) rfl rfl rfl rfl rfl rfl rfl ?_ | refine WO_sliceT tys rfl rfl (lt_of rfl) rfl rfl rfl rfl rfl rfl rfl rfl (by first | omega | (simp only [List.length_map]; omega)) (by first | omega | (simp only [List.length_map]; omega)) (by first | omega | (simp only [List.length_map]; omega)) ?_ | refine WO_sliceS tys rfl rfl (lt_of rfl) rfl rfl rfl rfl rfl rfl rfl rfl rfl (by omega) (by omega) (by omega) ?_
 refine eZ Z (oN (tN ?_))
 first | refine W_le (Le.nilT (u := 4) 4 rfl) ?_ | skip
 refine rT (eR ?_)
 ·first
  | (rw [ways, if_neg h1]; rfl)
  | (rw [ways_at h1 h0 (h1' h1), if_pos h2]; done)
  | (rw [ways_at h1 h0 (h1' h1), if_neg h2]; rw [← List.map_drop, ← List.map_take, part_one h0 (h1' h1)]; done)
def at0 {α : Type} (d : α) (l : List α) (i : Int) : α := (l[i.toNat]?).getD d
theorem at0_of {α : Type} {d : α} {l : List α} {i : Int} (h0 : 0 ≤ i) (h1 : i < l.length) : at0 d l i = l[i.toNat]'(by omega) := by
 unfold at0; rw [List.getElem?_eq_getElem (by omega)]; rfl
def alone (w : World) (a : Act) : Bool := if a.kind = 1 then at0 false w.shut a.chan || decide (((at0 [] w.held a.chan).length : Int) < at0 0 w.room a.chan) else if a.kind = 2 then at0 false w.shut a.chan || decide ((0 : Int) < (at0 [] w.held a.chan).length) else true
theorem l15Alone_fun (w : World) (a : Act) (hc0 : 0 ≤ a.chan) (hc1 : a.chan < w.room.length) (hh : (w.held.length : Int) = w.room.length) (hs : (w.shut.length : Int) = w.room.length) (hr : w.room.length ≤ 3) : Fun Try.prog 89 [.t w.tt, .t a.tt] (tupD [.t (.bool (alone w a))]) := by
 refine Fun.begin tys Try.func89 Z Z (N := 49) [(0, .t w.tt), (1, .t a.tt)] Z Z (fun w0 G F0 => ?_)
 refine sQ (rG (WO_box Z Z (lt_of Z) Z Z (nZ Z (WO_box Z Z (lt_of Z) Z Z (nZ Z (eZ Z (oN (tN (sQ (sQ (rG (eK 2 Z (oN (tN (W_block ?_)))))))))))))))
 refine sQ (rG (eK 2 Z (oN (tN ?_))))
 refine W_cond Z (fun h1 => ?_) (fun h1 => ?_)
 ·
  try simp only [HS] at h1
  refine sQ (kY [2,3,4] Z (W_regionD mixed (by kernel_rfl) (evQ ?_)))
  refine evQ ?_
  refine evQ ?_
  refine evQ ?_
  first | refine QL_idxT tys rfl rfl (lt_of rfl) rfl rfl rfl rfl rfl rfl rfl (by omega) _ (getT _ _ (by omega) (by omega)) ?_ | refine QL_idxS tys rfl rfl (lt_of rfl) rfl rfl rfl rfl rfl rfl rfl rfl (by omega) (by omega) ?_
  first | refine evQ ?_ | refine QL_loadL tys rfl rfl (lt_of rfl) rfl rfl rfl rfl (getT _ _ (by omega) (by omega)) rfl ?_ | refine QL_loadL tys rfl rfl (lt_of rfl) rfl rfl rfl rfl (getT0 _ _ (by omega) (by omega)) rfl ?_
  refine QL_norm Z (evQ ?_)
  refine QL_split (fun h2 => ?_) (fun h2 => ?_)
  ·
   try simp only [HS] at h2
   iterate 14 (refine QL_guardN rfl rfl rfl rfl rfl (lt_of rfl) ?_)
   refine evQ ?_
   refine evQ ?_
   refine QL_nil (tN (rT (bR (tR (eR ?_)))))
   ·have e1 := at0_of (d := false) (l := w.shut) hc0 (by omega)
    have e2 := at0_of (d := []) (l := w.held) hc0 (by omega)
    have e3 := at0_of (d := 0) (l := w.room) hc0 (by omega)
    exact retB (by grind [alone])
  try simp only [HS] at h2
  refine QL_guardY Z Z Z Z (lt_of Z) (evQ ?_)
  refine QL_guardY Z Z Z Z (lt_of Z) (evQ ?_)
  refine QL_guardY Z Z Z Z (lt_of Z) (evQ ?_)
  refine QL_guardY Z Z Z Z (lt_of Z) (evQ ?_)
  refine QL_guardY Z Z Z Z (lt_of Z) ?_
  first | refine QL_idxT tys rfl rfl (lt_of rfl) rfl rfl rfl rfl rfl rfl rfl (by omega) _ (getT _ _ (by omega) (by omega)) ?_ | refine QL_idxS tys rfl rfl (lt_of rfl) rfl rfl rfl rfl rfl rfl rfl rfl (by omega) (by omega) ?_
  refine QL_norm Z (QL_guardY Z Z Z Z (lt_of Z) ?_)
  first | refine evQ ?_ | refine QL_loadL tys rfl rfl (lt_of rfl) rfl rfl rfl rfl (getT _ _ (by omega) (by omega)) rfl ?_ | refine QL_loadL tys rfl rfl (lt_of rfl) rfl rfl rfl rfl (getT0 _ _ (by omega) (by omega)) rfl ?_
  refine QL_guardY Z Z Z Z (lt_of Z) (evEQ ?_)
  refine QL_guardY Z Z Z Z (lt_of Z) (evQ ?_)
  refine QL_guardY Z Z Z Z (lt_of Z) (evQ ?_)
  refine QL_guardY Z Z Z Z (lt_of Z) (evQ ?_)
  refine QL_guardY Z Z Z Z (lt_of Z) (evQ ?_)
  refine QL_norm Z (QL_guardY Z Z Z Z (lt_of Z) ?_)
  first | refine QL_idxT tys rfl rfl (lt_of rfl) rfl rfl rfl rfl rfl rfl rfl (by omega) _ (getT _ _ (by omega) (by omega)) ?_ | refine QL_idxS tys rfl rfl (lt_of rfl) rfl rfl rfl rfl rfl rfl rfl rfl (by omega) (by omega) ?_
  refine QL_guardY Z Z Z Z (lt_of Z) ?_
  first | refine evQ ?_ | refine QL_loadL tys rfl rfl (lt_of rfl) rfl rfl rfl rfl (getT _ _ (by omega) (by omega)) rfl ?_ | refine QL_loadL tys rfl rfl (lt_of rfl) rfl rfl rfl rfl (getT0 _ _ (by omega) (by omega)) rfl ?_
  refine QL_guardY Z Z Z Z (lt_of Z) (evQ ?_)
  refine evQ ?_
  refine evQ ?_
  refine QL_nil (tN (rT (bR (tR (eR ?_)))))
  ·have e1 := at0_of (d := false) (l := w.shut) hc0 (by omega)
   have e2 := at0_of (d := []) (l := w.held) hc0 (by omega)
   have e3 := at0_of (d := 0) (l := w.room) hc0 (by omega)
   exact retB (by grind [alone])
 try simp only [HS] at h1
 refine sQ (kY [2,3,4,6] Z (rG (eK 2 Z (oN (tN ?_)))))
 refine W_cond Z (fun h2 => ?_) (fun h2 => ?_)
 ·
  try simp only [HS] at h2
  refine sQ (rG (eK 4 Z ?_))
  first | refine WO_idxT tys rfl rfl (lt_of rfl) rfl rfl rfl rfl rfl rfl rfl (by omega) _ (getT _ _ (by omega) (by omega)) ?_ | refine WO_idxS tys rfl rfl (lt_of rfl) rfl rfl rfl rfl rfl rfl rfl rfl (by omega) (by omega) ?_
  first | refine ev ?_ | refine WO_loadL tys rfl rfl (lt_of rfl) rfl rfl rfl rfl (getT _ _ (by omega) (by omega)) rfl ?_ | refine WO_loadL tys rfl rfl (lt_of rfl) rfl rfl rfl rfl (getT0 _ _ (by omega) (by omega)) rfl ?_
  refine eZ Z (kZ [2,3,4,39] Z ?_)
  refine WO_guard Z Z Z Z (lt_of Z) (fun h3 => ?_) (fun h3 => ?_)
  rotate_left
  ·
   try simp only [HS] at h3
   refine gM Z (gM Z (gM Z (gM Z (gM Z (gM Z (gM Z (eK 2 Z (kZ [4] Z (oN (tN (rT (bR (tR (eR ?_))))))))))))))
   ·have e1 := at0_of (d := false) (l := w.shut) hc0 (by omega)
    have e2 := at0_of (d := []) (l := w.held) hc0 (by omega)
    have e3 := at0_of (d := 0) (l := w.room) hc0 (by omega)
    exact retB (by grind [alone])
  try simp only [HS] at h3
  refine eZ Z (gY Z (eZ Z (gY Z (eZ Z (gY Z (eZ Z (gY Z ?_)))))))
  first | refine WO_idxT tys rfl rfl (lt_of rfl) rfl rfl rfl rfl rfl rfl rfl (by omega) _ (getT _ _ (by omega) (by omega)) ?_ | refine WO_idxS tys rfl rfl (lt_of rfl) rfl rfl rfl rfl rfl rfl rfl rfl (by omega) (by omega) ?_
  refine gY Z ?_
  first | refine ev ?_ | refine WO_loadL tys rfl rfl (lt_of rfl) rfl rfl rfl rfl (getT _ _ (by omega) (by omega)) rfl ?_ | refine WO_loadL tys rfl rfl (lt_of rfl) rfl rfl rfl rfl (getT0 _ _ (by omega) (by omega)) rfl ?_
  refine gY Z (evE ?_)
  refine gY Z (eK 2 Z (kZ [4,48] Z (eZ Z (oN (tN (rT (bR (tR (eR ?_)))))))))
  ·have e1 := at0_of (d := false) (l := w.shut) hc0 (by omega)
   have e2 := at0_of (d := []) (l := w.held) hc0 (by omega)
   have e3 := at0_of (d := 0) (l := w.room) hc0 (by omega)
   exact retB (by grind [alone])
 try simp only [HS] at h2
 refine W_skip (bN (tN (sQ (rG (eZ Z (oN (tN (rT (eR ?_)))))))))
 ·have e1 := at0_of (d := false) (l := w.shut) hc0 (by omega)
  have e2 := at0_of (d := []) (l := w.held) hc0 (by omega)
  have e3 := at0_of (d := 0) (l := w.room) hc0 (by omega)
  exact retB (by grind [alone])
theorem isAlone_fun (w : World) (a : Act) (hc0 : 0 ≤ a.chan) (hc1 : a.chan < w.room.length) (hh : (w.held.length : Int) = w.room.length) (hs : (w.shut.length : Int) = w.room.length) (hr : w.room.length ≤ 3) : Fun Try.prog 92 [.t w.tt, .t a.tt] (tupD [.t (.bool (alone w a))]) := by
 refine Fun.begin tys Try.func92 Z Z (N := 49) [(0, .t w.tt), (1, .t a.tt)] Z Z (fun w0 G F0 => ?_)
 refine sQ (rG (WO_box Z Z (lt_of Z) Z Z (nZ Z (WO_box Z Z (lt_of Z) Z Z (nZ Z (eZ Z (oN (tN (sQ (sQ (rG (eK 2 Z (oN (tN (W_block ?_)))))))))))))))
 refine sQ (rG (eK 2 Z (oN (tN ?_))))
 refine W_cond Z (fun h1 => ?_) (fun h1 => ?_)
 ·
  try simp only [HS] at h1
  refine sQ (kY [2,3,4] Z (W_regionD mixed (by kernel_rfl) (evQ ?_)))
  refine evQ ?_
  refine evQ ?_
  refine evQ ?_
  first | refine QL_idxT tys rfl rfl (lt_of rfl) rfl rfl rfl rfl rfl rfl rfl (by omega) _ (getT _ _ (by omega) (by omega)) ?_ | refine QL_idxS tys rfl rfl (lt_of rfl) rfl rfl rfl rfl rfl rfl rfl rfl (by omega) (by omega) ?_
  first | refine evQ ?_ | refine QL_loadL tys rfl rfl (lt_of rfl) rfl rfl rfl rfl (getT _ _ (by omega) (by omega)) rfl ?_ | refine QL_loadL tys rfl rfl (lt_of rfl) rfl rfl rfl rfl (getT0 _ _ (by omega) (by omega)) rfl ?_
  refine QL_norm Z (evQ ?_)
  refine QL_split (fun h2 => ?_) (fun h2 => ?_)
  ·
   try simp only [HS] at h2
   iterate 14 (refine QL_guardN rfl rfl rfl rfl rfl (lt_of rfl) ?_)
   refine evQ ?_
   refine evQ ?_
   refine QL_nil (tN (rT (bR (tR (eR ?_)))))
   ·have e1 := at0_of (d := false) (l := w.shut) hc0 (by omega)
    have e2 := at0_of (d := []) (l := w.held) hc0 (by omega)
    have e3 := at0_of (d := 0) (l := w.room) hc0 (by omega)
    exact retB (by grind [alone])
  try simp only [HS] at h2
  refine QL_guardY Z Z Z Z (lt_of Z) (evQ ?_)
  refine QL_guardY Z Z Z Z (lt_of Z) (evQ ?_)
  refine QL_guardY Z Z Z Z (lt_of Z) (evQ ?_)
  refine QL_guardY Z Z Z Z (lt_of Z) (evQ ?_)
  refine QL_guardY Z Z Z Z (lt_of Z) ?_
  first | refine QL_idxT tys rfl rfl (lt_of rfl) rfl rfl rfl rfl rfl rfl rfl (by omega) _ (getT _ _ (by omega) (by omega)) ?_ | refine QL_idxS tys rfl rfl (lt_of rfl) rfl rfl rfl rfl rfl rfl rfl rfl (by omega) (by omega) ?_
  refine QL_norm Z (QL_guardY Z Z Z Z (lt_of Z) ?_)
  first | refine evQ ?_ | refine QL_loadL tys rfl rfl (lt_of rfl) rfl rfl rfl rfl (getT _ _ (by omega) (by omega)) rfl ?_ | refine QL_loadL tys rfl rfl (lt_of rfl) rfl rfl rfl rfl (getT0 _ _ (by omega) (by omega)) rfl ?_
  refine QL_guardY Z Z Z Z (lt_of Z) (evEQ ?_)
  refine QL_guardY Z Z Z Z (lt_of Z) (evQ ?_)
  refine QL_guardY Z Z Z Z (lt_of Z) (evQ ?_)
  refine QL_guardY Z Z Z Z (lt_of Z) (evQ ?_)
  refine QL_guardY Z Z Z Z (lt_of Z) (evQ ?_)
  refine QL_norm Z (QL_guardY Z Z Z Z (lt_of Z) ?_)
  first | refine QL_idxT tys rfl rfl (lt_of rfl) rfl rfl rfl rfl rfl rfl rfl (by omega) _ (getT _ _ (by omega) (by omega)) ?_ | refine QL_idxS tys rfl rfl (lt_of rfl) rfl rfl rfl rfl rfl rfl rfl rfl (by omega) (by omega) ?_
  refine QL_guardY Z Z Z Z (lt_of Z) ?_
  first | refine evQ ?_ | refine QL_loadL tys rfl rfl (lt_of rfl) rfl rfl rfl rfl (getT _ _ (by omega) (by omega)) rfl ?_ | refine QL_loadL tys rfl rfl (lt_of rfl) rfl rfl rfl rfl (getT0 _ _ (by omega) (by omega)) rfl ?_
  refine QL_guardY Z Z Z Z (lt_of Z) (evQ ?_)
  refine evQ ?_
  refine evQ ?_
  refine QL_nil (tN (rT (bR (tR (eR ?_)))))
  ·have e1 := at0_of (d := false) (l := w.shut) hc0 (by omega)
   have e2 := at0_of (d := []) (l := w.held) hc0 (by omega)
   have e3 := at0_of (d := 0) (l := w.room) hc0 (by omega)
   exact retB (by grind [alone])
 try simp only [HS] at h1
 refine sQ (kY [2,3,4,6] Z (rG (eK 2 Z (oN (tN ?_)))))
 refine W_cond Z (fun h2 => ?_) (fun h2 => ?_)
 ·
  try simp only [HS] at h2
  refine sQ (rG (eK 4 Z ?_))
  first | refine WO_idxT tys rfl rfl (lt_of rfl) rfl rfl rfl rfl rfl rfl rfl (by omega) _ (getT _ _ (by omega) (by omega)) ?_ | refine WO_idxS tys rfl rfl (lt_of rfl) rfl rfl rfl rfl rfl rfl rfl rfl (by omega) (by omega) ?_
  first | refine ev ?_ | refine WO_loadL tys rfl rfl (lt_of rfl) rfl rfl rfl rfl (getT _ _ (by omega) (by omega)) rfl ?_ | refine WO_loadL tys rfl rfl (lt_of rfl) rfl rfl rfl rfl (getT0 _ _ (by omega) (by omega)) rfl ?_
  refine eZ Z (kZ [2,3,4,39] Z ?_)
  refine WO_guard Z Z Z Z (lt_of Z) (fun h3 => ?_) (fun h3 => ?_)
  rotate_left
  ·
   try simp only [HS] at h3
   refine gM Z (gM Z (gM Z (gM Z (gM Z (gM Z (gM Z (eK 2 Z (kZ [4] Z (oN (tN (rT (bR (tR (eR ?_))))))))))))))
   ·have e1 := at0_of (d := false) (l := w.shut) hc0 (by omega)
    have e2 := at0_of (d := []) (l := w.held) hc0 (by omega)
    have e3 := at0_of (d := 0) (l := w.room) hc0 (by omega)
    exact retB (by grind [alone])
  try simp only [HS] at h3
  refine eZ Z (gY Z (eZ Z (gY Z (eZ Z (gY Z (eZ Z (gY Z ?_)))))))
  first | refine WO_idxT tys rfl rfl (lt_of rfl) rfl rfl rfl rfl rfl rfl rfl (by omega) _ (getT _ _ (by omega) (by omega)) ?_ | refine WO_idxS tys rfl rfl (lt_of rfl) rfl rfl rfl rfl rfl rfl rfl rfl (by omega) (by omega) ?_
  refine gY Z ?_
  first | refine ev ?_ | refine WO_loadL tys rfl rfl (lt_of rfl) rfl rfl rfl rfl (getT _ _ (by omega) (by omega)) rfl ?_ | refine WO_loadL tys rfl rfl (lt_of rfl) rfl rfl rfl rfl (getT0 _ _ (by omega) (by omega)) rfl ?_
  refine gY Z (evE ?_)
  refine gY Z (eK 2 Z (kZ [4,48] Z (eZ Z (oN (tN (rT (bR (tR (eR ?_)))))))))
  ·have e1 := at0_of (d := false) (l := w.shut) hc0 (by omega)
   have e2 := at0_of (d := []) (l := w.held) hc0 (by omega)
   have e3 := at0_of (d := 0) (l := w.room) hc0 (by omega)
   exact retB (by grind [alone])
 try simp only [HS] at h2
 refine W_skip (bN (tN (sQ (rG (eZ Z (oN (tN (rT (eR ?_)))))))))
 ·have e1 := at0_of (d := false) (l := w.shut) hc0 (by omega)
  have e2 := at0_of (d := []) (l := w.held) hc0 (by omega)
  have e3 := at0_of (d := 0) (l := w.room) hc0 (by omega)
  exact retB (by grind [alone])
structure Good (w : World) : Prop where
 room : w.room.length ≤ 3
 held : (w.held.length : Int) = w.room.length
 shut : (w.shut.length : Int) = w.room.length
 tasks : w.tasks.length ≤ 4
 pos : ∀ t, t ∈ w.tasks → 0 ≤ t.pos ∧ (t.state = 0 → t.pos < t.acts.length) ∧ t.acts.length ≤ 6
 ways : ∀ t, t ∈ w.tasks → (ways t).length ≤ 3 ∧ ∀ a, a ∈ ways t → 0 ≤ a.chan ∧ a.chan < w.room.length
theorem good_of {w : World} (h : goodWorld w = true) : Good w := by
 unfold goodWorld at h
 simp only [Bool.and_eq_true, decide_eq_true_eq, List.all_eq_true] at h
 obtain ⟨h1, h2, h3, h4, h5, h6, h7, h8, h9⟩ := h
 have ht : ∀ t, t ∈ w.tasks → (0 ≤ t.pos ∧ (t.state = 0 → t.pos < t.acts.length) ∧ t.acts.length ≤ 6) ∧ ∀ a, a ∈ t.acts → goodAct w.room.length a = true := fun t ht => by
  have := h9 t ht
  unfold goodTask goodActs at this
  simp only [Bool.and_eq_true, decide_eq_true_eq, List.all_eq_true] at this
  obtain ⟨⟨q1, q2⟩, q3, q4, q5, q6⟩ := this
  refine ⟨⟨q3.1, fun hs => ?_, by omega⟩, q1⟩
  have : ¬ t.pos = t.acts.length := fun e => by have := q6.2 e; omega
  omega
 refine ⟨by omega, h2, h3, by omega, fun t h => (ht t h).1, fun t hm => ?_⟩
 obtain ⟨⟨p0, p1, p2⟩, p3⟩ := ht t hm
 by_cases hs : t.state = 0
 ·have hp := p1 hs
  rw [ways_at hs p0 hp]
  have hg := p3 _ (List.getElem_mem (l := t.acts) (n := t.pos.toNat) (by omega))
  unfold goodAct at hg
  split
  ·rename_i hk
   rw [if_pos hk] at hg
   simp only [Bool.and_eq_true, decide_eq_true_eq, List.all_eq_true] at hg
   refine ⟨by omega, fun a ha => ?_⟩
   have := hg.1 a ha
   unfold caseAct plainAct at this
   simp only [Bool.and_eq_true, decide_eq_true_eq] at this
   exact ⟨this.2.1.2.1, by omega⟩
  ·rename_i hk
   rw [if_neg hk] at hg
   unfold plainAct at hg
   simp only [Bool.and_eq_true, decide_eq_true_eq] at hg
   refine ⟨by simp, fun a ha => ?_⟩
   rw [List.mem_singleton] at ha
   subst ha
   exact ⟨hg.1.2.1, by omega⟩
 ·unfold Go.Proofs.Ytbkamkmmljbedaa.ways
  rw [if_neg hs]
  exact ⟨by simp, fun a ha => by cases ha⟩
def mvB (i k : Int) (a : Act) (j : Int) : List Act → Int → List (List Int) → List (List Int)
 | [], _, acc => acc
 | b :: l, m, acc => mvB i k a j l (m + 1) (if ¬ i = j ∧ b.kind = 2 ∧ b.chan = a.chan then acc ++ [[i, k, j, m]] else acc)
def mvU (i k : Int) (a : Act) : List Task → Int → List (List Int) → List (List Int)
 | [], _, acc => acc
 | u :: l, j, acc => mvU i k a l (j + 1) (mvB i k a j (ways u) 0 acc)
def mvS (w : World) (a : Act) : Bool := decide (a.kind = 1) && (!at0 false w.shut a.chan && decide (((at0 [] w.held a.chan).length : Int) ≤ 0))
def mvA (w : World) (i : Int) : List Act → Int → List (List Int) → List (List Int)
 | [], _, acc => acc
 | a :: l, k, acc => mvA w i l (k + 1) (if mvS w a then mvU i k a w.tasks 0 (if alone w a then acc ++ [[i, k, -1, 0]] else acc) else (if alone w a then acc ++ [[i, k, -1, 0]] else acc))
def mvT (w : World) : List Task → Int → List (List Int) → List (List Int)
 | [], _, acc => acc
 | t :: l, i, acc => mvT w l (i + 1) (mvA w i (ways t) 0 acc)
def movesOf (w : World) : List (List Int) := mvT w w.tasks 0 []
theorem mvB_at {i k j m : Int} {a : Act} {l : List Act} {acc : List (List Int)} (h0 : 0 ≤ m) (h1 : m < l.length) : mvB i k a j (l.drop m.toNat) m acc = mvB i k a j (l.drop (m + 1).toNat) (m + 1) (if ¬ i = j ∧ (l[m.toNat]'(by omega)).kind = 2 ∧ (l[m.toNat]'(by omega)).chan = a.chan then acc ++ [[i, k, j, m]] else acc) := by
 rw [drop_at h0 h1, mvB]
theorem mvU_at {i k j : Int} {a : Act} {l : List Task} {acc : List (List Int)} (h0 : 0 ≤ j) (h1 : j < l.length) : mvU i k a (l.drop j.toNat) j acc = mvU i k a (l.drop (j + 1).toNat) (j + 1) (mvB i k a j (ways (l[j.toNat]'(by omega))) 0 acc) := by
 rw [drop_at h0 h1, mvU]
theorem mvA_at {w : World} {i k : Int} {l : List Act} {acc : List (List Int)} (h0 : 0 ≤ k) (h1 : k < l.length) : mvA w i (l.drop k.toNat) k acc = mvA w i (l.drop (k + 1).toNat) (k + 1)
  (if mvS w (l[k.toNat]'(by omega)) then mvU i k (l[k.toNat]'(by omega)) w.tasks 0 (if alone w (l[k.toNat]'(by omega)) then acc ++ [[i, k, -1, 0]] else acc) else (if alone w (l[k.toNat]'(by omega)) then acc ++ [[i, k, -1, 0]] else acc)) := by
 rw [drop_at h0 h1, mvA]
theorem mvT_at {w : World} {i : Int} {l : List Task} {acc : List (List Int)} (h0 : 0 ≤ i) (h1 : i < l.length) : mvT w (l.drop i.toNat) i acc = mvT w (l.drop (i + 1).toNat) (i + 1) (mvA w i (ways (l[i.toNat]'(by omega))) 0 acc) := by
 rw [drop_at h0 h1, mvT]
open Go.Eng
theorem l15Moves_fun (w : World) (hg : Good w) : Fun Try.prog 48 [.t w.tt] (tupD [.own (intss (movesOf w))]) := by
 have g1 := hg.room
 have g2 := hg.held
 have g3 := hg.shut
 have g4 := hg.tasks
 refine Fun.begin tys Try.func48 Z Z (N := 102) [(0, .t w.tt)] Z Z (fun w0 G F0 => ?_)
 refine sQ (rG (WO_box Z Z (lt_of Z) Z Z (nZ Z (eZ Z (oN (tN (sQ (rG (eZ Z (WO_le (Le.nilOwn (u := 3) 1 Z) (WO_le (Le.adoptE (u := 3) 3 Z Z) (nZ Z (oN (tN (sQ ?_)))))))))))))))
 refine sQ (rG (eK 2 Z (evE ?_)))
 refine eZ Z (oN (tN (W_block ?_)))
 refine lK (α := Int × Nat × List T) [1, 13, 14] [1] (fun x => [(15, .t (.int (x.1))), (3, .sl 3 0 (x.2.1))]) (fun x => [(3, .L 1 (x.2.2))]) (fun x => 0 ≤ (x.1) ∧ (x.1) ≤ w.tasks.length ∧ (x.2.1) = (x.2.2).length ∧ ∃ acc : List (List Int), (x.2.2) = acc.map T.ints ∧ (acc.length : Int) ≤ 39 * (x.1) ∧ movesOf w = mvT w (w.tasks.drop (x.1).toNat) (x.1) acc) (fun x => Int.toNat (w.tasks.length - (x.1))) (0, 0, []) ?_ (fun x hx => ?_)
 ·exact ⟨by omega, by omega, by simp, [], rfl, by simp, rfl⟩
 obtain ⟨i, m, xs⟩ := x
 obtain ⟨hi0, hi1, hm, acc, hx, hl, he⟩ := hx
 dsimp only at hi0 hi1 hm hx hl he ⊢
 refine nY Z (sQ (rG (eZ Z (oN (tN (sQ ?_))))))
 refine W_cond Z (fun h1 => ?_) (fun h1 => ?_)
 ·
  simp only [HS] at h1
  refine W_skip (tN (sQ (W_block (sQ (rG (eZ Z (WO_idxT tys Z Z (lt_of Z) Z Z Z Z Z Z Z (by omega) _ (getT _ _ (by omega) (by omega)) (eZ Z ?_))))))))
  try refine WO_le (Le.freeze (u := 19) rfl) ?_
  refine nZ Z (WO_alloc tys Z Z (lt_of Z) Z Z Z (nZ Z (eZ Z (sT Z (nZ Z (oN (tN (sQ (kY [1,3,4,5,13,14,15,16,17,18,19] Z (rG (eZ Z ?_)))))))))))
  try refine WO_le (Le.freeze (u := 20) rfl) ?_
  refine nZ Z (WO_callF Z Z (lt_of Z) Z Z Z Z Z (l15Ways_fun _ (hg.pos _ (List.getElem_mem _)).1 (hg.pos _ (List.getElem_mem _)).2.1) Z (evE ?_))
  refine eZ Z (oN (tN (W_block ?_)))
  refine lK (α := Int × Nat × List T) [1, 4, 13, 14, 15, 21, 22] [1] (fun x => [(23, .t (.int (x.1))), (3, .sl 3 0 (x.2.1))]) (fun x => [(3, .L 1 (x.2.2))]) (fun x => 0 ≤ (x.1) ∧ (x.1) ≤ (ways (w.tasks[i.toNat]'(by omega))).length ∧ (x.2.1) = (x.2.2).length ∧ ((ways (w.tasks[i.toNat]'(by omega))).length ≤ 3 ∧ ∀ b, b ∈ ways (w.tasks[i.toNat]'(by omega)) → 0 ≤ b.chan ∧ b.chan < w.room.length) ∧ ∃ acc' : List (List Int), (x.2.2) = acc'.map T.ints ∧ (acc'.length : Int) ≤ 39 * i + 13 * (x.1) ∧ mvA w i (ways (w.tasks[i.toNat]'(by omega))) 0 acc = mvA w i ((ways (w.tasks[i.toNat]'(by omega))).drop (x.1).toNat) (x.1) acc') (fun x => Int.toNat ((ways (w.tasks[i.toNat]'(by omega))).length - (x.1))) (0, m, xs) ?_ (fun x hx => ?_)
  ·exact ⟨by omega, by omega, hm, hg.ways _ (List.getElem_mem _), acc, hx, by omega, rfl⟩
  obtain ⟨k, m', xs'⟩ := x
  obtain ⟨hk0, hk1, hm', hw, acc', hx', hl', he'⟩ := hx
  dsimp only at hk0 hk1 hm' hw hx' hl' he' ⊢
  refine nY Z (sQ (rG (eZ Z (oN (tN (sQ ?_))))))
  refine W_cond Z (fun h2 => ?_) (fun h2 => ?_)
  ·
   simp only [HS] at h2
   refine W_skip (tN (sQ (W_block (sQ (rG (eZ Z (WO_idxT tys Z Z (lt_of Z) Z Z Z Z Z Z Z (by omega) _ (getAct _ (by omega) (by omega)) (eZ Z ?_))))))))
   try refine WO_le (Le.freeze (u := 27) rfl) ?_
   refine nZ Z (WO_alloc tys Z Z (lt_of Z) Z Z Z (nZ Z ?_))
   have hc := hw.2 _ (List.getElem_mem (l := ways (w.tasks[i.toNat]'(by omega))) (n := k.toNat) (by omega))
   refine eZ Z (sT Z (nZ Z (oN (tN (sQ (sQ (kY [1,3,4,6,7,13,14,15,21,22,23,24,25,26,27] Z (rG (eZ Z ?_)))))))))
   try refine WO_le (Le.freeze (u := 28) rfl) ?_
   refine nZ Z (eZ Z ?_)
   try refine WO_le (Le.freeze (u := 29) rfl) ?_
   refine nZ Z (callB ?_)
   refine ⟨_, l15Alone_fun _ _ (hw.2 _ (List.getElem_mem _)).1 (hw.2 _ (List.getElem_mem _)).2 g2 g3 g1, rfl, ?_⟩
   refine oN (tN ?_)
   refine W_joinN (α := Nat × List T) [1, 4, 6, 7, 13, 14, 15, 21, 22, 23, 24, 25, 26, 27, 28, 29, 30] [1, 7] (fun x => [(3, .sl 3 0 (x.1))]) (fun x => [(3, .L 1 (x.2))]) (fun x => (x.1) = (x.2).length ∧ ∃ acc2 : List (List Int), (x.2) = acc2.map T.ints ∧ (acc2.length : Int) ≤ 39 * i + 13 * k + 1 ∧ acc2 = (if alone w ((ways (w.tasks[i.toNat]'(by omega)))[k.toNat]'(by omega)) then acc' ++ [[i, k, -1, 0]] else acc')) ?_ (fun x hx => ?_)
   ·
    refine W_cond Z (fun h3 => ?_) (fun h3 => ?_)
    ·
     refine rG (eK 3 Z ?_)
     refine WO_buildSlice tys [T.int i, T.int k, T.int (-1), T.int 0] Z Z (lt_of Z) Z Z Z Z Z (lt_of Z) (by repeat (first | exact PartsOk.nil' | refine PartsOk.cons' rfl (by repeat (first | exact AbsL.nil' | refine AbsL.v' ?_ | refine AbsL.own' ?_ | refine AbsL.none' ?_)) Z ?_)) (by first | exact List.nodup_nil | exact nodup1 _ | decide | exact nodupB_sound Z) Z (by decide) ?_
     refine nZ Z (WO_le (Le.gather (u := 34) (id := 34) Z Z (by first | (simp; done) | (simp; omega) | omega)) ?_)
     refine nZ Z ?_
     refine WO_buildSlice tys [T.ints [i, k, -1, 0]] Z Z (lt_of Z) Z Z Z Z Z (lt_of Z) (by repeat (first | exact PartsOk.nil' | refine PartsOk.cons' rfl (by repeat (first | exact AbsL.nil' | refine AbsL.v' ?_ | refine AbsL.own' ?_ | refine AbsL.none' ?_)) Z ?_)) (by first | exact List.nodup_nil | exact nodup1 _ | decide | exact nodupB_sound Z) Z (by decide) ?_
     refine nZ Z (WO_append tys Z Z (lt_of Z) Z Z Z Z Z (.own Z (by first | omega | (simp only [List.length_append]; omega))) Z (.own Z (by first | decide | omega)) (by decide) (by have q1 := congrArg List.length hx'; have q2 := hw.1; simp only [List.length_map] at q1; simp only [List.length_take, List.length_cons, List.length_nil]; omega) (by decide) Z ?_)
     refine nZ Z (kZ [1,3,4,6,7,13,14,15,21,22,23,24,25,26,27,28,29,30,31,32,33,34,35,36] Z (eZ Z (oN ?_)))
     refine joinQ_n (_, _) (by (try dsimp only); repeat (first | exact Sub.nil' | refine Sub.cons' rfl ?_)) (by (try dsimp only); repeat (first | exact SubM.nil' | refine SubM.cons' rfl ?_)) ?_
     dsimp only
     first
     | (refine ⟨by simp, acc' ++ [[i, k, -1, 0]], ?_, by simp only [List.length_append, List.length_cons, List.length_nil]; omega, by rw [if_pos h3]⟩; rw [hm', List.take_of_length_le (Nat.le_refl _), hx', List.map_append]; rfl)
    refine W_skip ?_
    refine joinQ_n (_, _) (by (try dsimp only); repeat (first | exact Sub.nil' | refine Sub.cons' rfl ?_)) (by (try dsimp only); repeat (first | exact SubM.nil' | refine SubM.cons' rfl ?_)) ?_
    dsimp only
    first
    | exact ⟨hm', acc', hx', by omega, by rw [if_neg (by simp [h3])]⟩
   obtain ⟨m2, xs2⟩ := x
   obtain ⟨hm2, acc2, hx2, hl2, he2⟩ := hx
   dsimp only at hm2 hx2 hl2 he2 ⊢
   refine tN (sQ (sQ (kY [1,3,4,6,7,13,14,15,21,22,23,24,25,26,27,28,29,30] Z (rG (eK 4 Z ?_)))))
   refine WO_guard Z Z Z Z (lt_of Z) (fun h3 => ?_) (fun h3 => ?_)
   rotate_left
   ·
    simp only [HS] at h3
    refine gM Z (gM Z (gM Z (gM Z (gM Z (kZ [1,3,4,6,7,13,14,15,21,22,23,24,25,26,27,28,29,30,37,38,39,40,41,42,43,44,45,46] Z (eK 2 Z (gM Z (gM Z (gM Z (gM Z (gM Z (gM Z (gM Z (kZ [1,3,4,6,7,13,14,15,21,22,23,24,25,26,27,28,29,30,37,38,39,40,41,42,43,44,45,46,47,48,49,50,51,52,53,54,55] Z (gM Z ?_)))))))))))))))
    refine eZ Z (oN (tN (W_condT Z (W_exit (tE (inBlk_y (tN (rG (evI ?_)))))))))
    refine eZ Z (oN ?_)
    refine lQ (_, _, _) ?_ ?_
    ·dsimp only
     have e1 := at0_of (d := false) (l := w.shut) hc.1 (by omega); have e2 := at0_of (d := []) (l := w.held) hc.1 (by omega)
     first
     | (have hS : mvS w ((ways (w.tasks[i.toNat]'(by omega)))[k.toNat]'(by omega)) = false := (by grind [mvS]); refine ⟨by omega, by omega, hm2, hw, acc2, hx2, by omega, ?_⟩; rw [he', mvA_at hk0 h2, ← he2, hS]; rfl)
    ·(show Int.toNat _ < Int.toNat _); omega
   simp only [HS] at h3
   refine eZ Z (gY Z (eZ Z (gY Z (eZ Z (gY Z (eZ Z (gY Z (WO_idxT tys Z Z (lt_of Z) Z Z Z Z Z Z Z (by omega) _ (getT _ _ (by omega) (by omega)) (kZ [1,3,4,6,7,13,14,15,21,22,23,24,25,26,27,28,29,30,37,38,39,40,41,42,43,44,45] Z (gY Z (eK 3 Z ?_)))))))))))
   refine WO_guard Z Z Z Z (lt_of Z) (fun h4 => ?_) (fun h4 => ?_)
   rotate_left
   ·
    simp only [HS] at h4
    refine gM Z (gM Z (gM Z (gM Z (gM Z (gM Z (kZ [1,3,4,6,7,13,14,15,21,22,23,24,25,26,27,28,29,30,37,38,39,40,41,42,43,44,45,46,47,48,49,50,51,52,53,54,55] Z (gM Z (eZ Z (oN (tN (W_condT Z (W_exit (tE (inBlk_y (tN ?_)))))))))))))))
    refine rG (evI ?_)
    refine eZ Z (oN ?_)
    refine lQ (_, _, _) ?_ ?_
    ·dsimp only
     have e1 := at0_of (d := false) (l := w.shut) hc.1 (by omega); have e2 := at0_of (d := []) (l := w.held) hc.1 (by omega)
     first
     | (have hS : mvS w ((ways (w.tasks[i.toNat]'(by omega)))[k.toNat]'(by omega)) = false := (by grind [mvS]); refine ⟨by omega, by omega, hm2, hw, acc2, hx2, by omega, ?_⟩; rw [he', mvA_at hk0 h2, ← he2, hS]; rfl)
    ·(show Int.toNat _ < Int.toNat _); omega
   refine eZ Z (gY Z (eZ Z (gY Z (eZ Z (gY Z (eZ Z (gY Z (WO_idxT tys Z Z (lt_of Z) Z Z Z Z Z Z Z (by omega) _ (getT _ _ (by omega) (by omega)) (gY Z (eZ Z (kZ [1,3,4,6,7,13,14,15,21,22,23,24,25,26,27,28,29,30,37,38,39,40,41,42,43,44,45,46,47,48,49,50,51,52,53,54] Z (gY Z (evE ?_)))))))))))))
   refine gY Z (eK 2 Z (oN (tN ?_)))
   refine W_cond Z (fun h5 => ?_) (fun h5 => ?_)
   ·
    simp only [HS] at h5
    refine W_exit (tE (inBlk_y (tN (rG (evI ?_)))))
    refine eZ Z (oN ?_)
    refine lQ (_, _, _) ?_ ?_
    ·dsimp only
     have e1 := at0_of (d := false) (l := w.shut) hc.1 (by omega); have e2 := at0_of (d := []) (l := w.held) hc.1 (by omega)
     first
     | (have hS : mvS w ((ways (w.tasks[i.toNat]'(by omega)))[k.toNat]'(by omega)) = false := (by grind [mvS]); refine ⟨by omega, by omega, hm2, hw, acc2, hx2, by omega, ?_⟩; rw [he', mvA_at hk0 h2, ← he2, hS]; rfl)
    ·(show Int.toNat _ < Int.toNat _); omega
   simp only [HS] at h5
   refine W_skip (tN (sQ (rG (eK 2 Z (evE ?_)))))
   refine eZ Z (oN (tN (W_block ?_)))
   refine lK (α := Int × Nat × List T) [1, 4, 6, 7, 13, 14, 15, 21, 22, 23, 59, 60] [1, 7] (fun x => [(61, .t (.int (x.1))), (3, .sl 3 0 (x.2.1))]) (fun x => [(3, .L 1 (x.2.2))]) (fun x => 0 ≤ (x.1) ∧ (x.1) ≤ w.tasks.length ∧ (x.2.1) = (x.2.2).length ∧ ∃ acc3 : List (List Int), (x.2.2) = acc3.map T.ints ∧ (acc3.length : Int) ≤ 39 * i + 13 * k + 1 + 3 * (x.1) ∧ mvU i k ((ways (w.tasks[i.toNat]'(by omega)))[k.toNat]'(by omega)) w.tasks 0 acc2 = mvU i k ((ways (w.tasks[i.toNat]'(by omega)))[k.toNat]'(by omega)) (w.tasks.drop (x.1).toNat) (x.1) acc3) (fun x => Int.toNat (w.tasks.length - (x.1))) (0, m2, xs2) ?_ (fun x hx => ?_)
   ·exact ⟨by omega, by omega, hm2, acc2, hx2, by omega, rfl⟩
   obtain ⟨j, m3, xs3⟩ := x
   obtain ⟨hj0, hj1, hm3, acc3, hx3, hl3, he3⟩ := hx
   dsimp only at hj0 hj1 hm3 hx3 hl3 he3 ⊢
   refine nY Z (sQ (rG (eZ Z (oN (tN (sQ ?_))))))
   refine W_cond Z (fun h6 => ?_) (fun h6 => ?_)
   ·
    simp only [HS] at h6
    refine W_skip (tN (sQ (W_block (sQ (rG (eZ Z (WO_idxT tys Z Z (lt_of Z) Z Z Z Z Z Z Z (by omega) _ (getT _ _ (by omega) (by omega)) (eZ Z ?_))))))))
    try refine WO_le (Le.freeze (u := 65) rfl) ?_
    refine nZ Z (WO_alloc tys Z Z (lt_of Z) Z Z Z (nZ Z (eZ Z (sT Z (nZ Z (oN (tN (sQ (kY [1,3,4,6,7,8,9,13,14,15,21,22,23,59,60,61,62,63,64,65] Z (rG (eZ Z ?_)))))))))))
    try refine WO_le (Le.freeze (u := 66) rfl) ?_
    refine nZ Z (WO_callF Z Z (lt_of Z) Z Z Z Z Z (l15Ways_fun _ (hg.pos _ (List.getElem_mem _)).1 (hg.pos _ (List.getElem_mem _)).2.1) Z (evE ?_))
    refine eZ Z (oN (tN (W_block ?_)))
    refine lK (α := Int × Nat × List T) [1, 4, 6, 7, 8, 13, 14, 15, 21, 22, 23, 59, 60, 61, 67, 68] [1, 7] (fun x => [(69, .t (.int (x.1))), (3, .sl 3 0 (x.2.1))]) (fun x => [(3, .L 1 (x.2.2))]) (fun x => 0 ≤ (x.1) ∧ (x.1) ≤ (ways (w.tasks[j.toNat]'(by omega))).length ∧ (x.2.1) = (x.2.2).length ∧ (ways (w.tasks[j.toNat]'(by omega))).length ≤ 3 ∧ ∃ acc4 : List (List Int), (x.2.2) = acc4.map T.ints ∧ (acc4.length : Int) ≤ 39 * i + 13 * k + 1 + 3 * j + (x.1) ∧ mvB i k ((ways (w.tasks[i.toNat]'(by omega)))[k.toNat]'(by omega)) j (ways (w.tasks[j.toNat]'(by omega))) 0 acc3 = mvB i k ((ways (w.tasks[i.toNat]'(by omega)))[k.toNat]'(by omega)) j ((ways (w.tasks[j.toNat]'(by omega))).drop (x.1).toNat) (x.1) acc4) (fun x => Int.toNat ((ways (w.tasks[j.toNat]'(by omega))).length - (x.1))) (0, m3, xs3) ?_ (fun x hx => ?_)
    ·exact ⟨by omega, by omega, hm3, (hg.ways _ (List.getElem_mem _)).1, acc3, hx3, by omega, rfl⟩
    obtain ⟨q, m4, xs4⟩ := x
    obtain ⟨hq0, hq1, hm4, hw4, acc4, hx4, hl4, he4⟩ := hx
    dsimp only at hq0 hq1 hm4 hw4 hx4 hl4 he4 ⊢
    refine nY Z (sQ (rG (eZ Z (oN (tN (sQ ?_))))))
    refine W_cond Z (fun h7 => ?_) (fun h7 => ?_)
    ·
     simp only [HS] at h7
     refine W_skip (tN (sQ (W_block (sQ (rG (eZ Z (WO_idxT tys Z Z (lt_of Z) Z Z Z Z Z Z Z (by omega) _ (getAct _ (by omega) (by omega)) (eZ Z ?_))))))))
     try refine WO_le (Le.freeze (u := 73) rfl) ?_
     refine nZ Z (WO_alloc tys Z Z (lt_of Z) Z Z Z (nZ Z (eZ Z (sT Z (nZ Z (oN (tN (sQ (kY [1,3,4,6,7,8,10,11,13,14,15,21,22,23,59,60,61,67,68,69,70,71,72,73] Z (rG (eK 4 Z ?_)))))))))))
     refine WO_guard Z Z Z Z (lt_of Z) (fun h8 => ?_) (fun h8 => ?_)
     rotate_left
     ·
      simp only [HS] at h8
      refine gM Z (gM Z (eK 2 Z (gM Z (kZ [1,3,4,6,7,8,10,11,13,14,15,21,22,23,59,60,61,67,68,69,70,71,72,73,74,75,76,77,78,79,80,81,82,83] Z (gM Z (gM Z (gM Z (gM Z (eZ Z (oN (tN ?_)))))))))))
      refine W_joinN (α := Nat × List T) [1, 4, 6, 7, 8, 10, 11, 13, 14, 15, 21, 22, 23, 59, 60, 61, 67, 68, 69, 70, 71, 72, 73, 74, 75, 76, 77, 78, 79, 80, 81, 82, 83, 84, 85, 86, 87, 88] [1, 7] (fun x => [(3, .sl 3 0 (x.1))]) (fun x => [(3, .L 1 (x.2))]) (fun x => (x.1) = (x.2).length ∧ ∃ acc5 : List (List Int), (x.2) = acc5.map T.ints ∧ (acc5.length : Int) ≤ 39 * i + 13 * k + 1 + 3 * j + q + 1 ∧ acc5 = (if ¬ i = j ∧ ((ways (w.tasks[j.toNat]'(by omega)))[q.toNat]'(by omega)).kind = 2 ∧ ((ways (w.tasks[j.toNat]'(by omega)))[q.toNat]'(by omega)).chan = ((ways (w.tasks[i.toNat]'(by omega)))[k.toNat]'(by omega)).chan then acc4 ++ [[i, k, j, q]] else acc4)) ?_ (fun x hx => ?_)
      ·
       refine W_condF Z (W_skip ?_)
       refine joinQ_n (_, _) (by (try dsimp only); repeat (first | exact Sub.nil' | refine Sub.cons' rfl ?_)) (by (try dsimp only); repeat (first | exact SubM.nil' | refine SubM.cons' rfl ?_)) ?_
       dsimp only
       first
       | exact ⟨hm4, acc4, hx4, by omega, by rw [if_neg (by grind)]⟩
      obtain ⟨m5, xs5⟩ := x
      obtain ⟨hm5, acc5, hx5, hl5, he5⟩ := hx
      dsimp only at hm5 hx5 hl5 he5 ⊢
      refine bN (tN (kY [1,3,4,6,7,8,10,11,13,14,15,21,22,23,59,60,61,67,68,69,70,71,72,73,74,75,76,77,78,79,80,81,82,83,84,85,86,87,88] Z (rG (evI ?_))))
      refine eZ Z (oN ?_)
      refine lQ (_, _, _) ?_ ?_
      ·dsimp only
       exact ⟨by omega, by omega, hm5, hw4, acc5, hx5, by omega, by rw [he4, mvB_at hq0 h7, ← he5]⟩
      ·(show Int.toNat _ < Int.toNat _); omega
     simp only [HS] at h8
     refine eZ Z (gY Z (eZ Z (gY Z (eK 3 Z (kZ [1,3,4,6,7,8,10,11,13,14,15,21,22,23,59,60,61,67,68,69,70,71,72,73,74,75,76,77,78,79,80,81,82] Z ?_)))))
     refine WO_guard Z Z Z Z (lt_of Z) (fun h9 => ?_) (fun h9 => ?_)
     rotate_left
     ·
      simp only [HS] at h9
      refine gM Z (gM Z (gM Z (gM Z (eZ Z (oN (tN ?_))))))
      refine W_joinN (α := Nat × List T) [1, 4, 6, 7, 8, 10, 11, 13, 14, 15, 21, 22, 23, 59, 60, 61, 67, 68, 69, 70, 71, 72, 73, 74, 75, 76, 77, 78, 79, 80, 81, 82, 83, 84, 85, 86, 87, 88] [1, 7] (fun x => [(3, .sl 3 0 (x.1))]) (fun x => [(3, .L 1 (x.2))]) (fun x => (x.1) = (x.2).length ∧ ∃ acc5 : List (List Int), (x.2) = acc5.map T.ints ∧ (acc5.length : Int) ≤ 39 * i + 13 * k + 1 + 3 * j + q + 1 ∧ acc5 = (if ¬ i = j ∧ ((ways (w.tasks[j.toNat]'(by omega)))[q.toNat]'(by omega)).kind = 2 ∧ ((ways (w.tasks[j.toNat]'(by omega)))[q.toNat]'(by omega)).chan = ((ways (w.tasks[i.toNat]'(by omega)))[k.toNat]'(by omega)).chan then acc4 ++ [[i, k, j, q]] else acc4)) ?_ (fun x hx => ?_)
      ·
       refine W_condF Z (W_skip ?_)
       refine joinQ_n (_, _) (by (try dsimp only); repeat (first | exact Sub.nil' | refine Sub.cons' rfl ?_)) (by (try dsimp only); repeat (first | exact SubM.nil' | refine SubM.cons' rfl ?_)) ?_
       dsimp only
       first
       | exact ⟨hm4, acc4, hx4, by omega, by rw [if_neg (by grind)]⟩
      obtain ⟨m5, xs5⟩ := x
      obtain ⟨hm5, acc5, hx5, hl5, he5⟩ := hx
      dsimp only at hm5 hx5 hl5 he5 ⊢
      refine bN (tN (kY [1,3,4,6,7,8,10,11,13,14,15,21,22,23,59,60,61,67,68,69,70,71,72,73,74,75,76,77,78,79,80,81,82,83,84,85,86,87,88] Z (rG (evI ?_))))
      refine eZ Z (oN ?_)
      refine lQ (_, _, _) ?_ ?_
      ·dsimp only
       exact ⟨by omega, by omega, hm5, hw4, acc5, hx5, by omega, by rw [he4, mvB_at hq0 h7, ← he5]⟩
      ·(show Int.toNat _ < Int.toNat _); omega
     simp only [HS] at h9
     refine eZ Z (gY Z (eZ Z (gY Z (eZ Z (gY Z (eZ Z (gY Z (eK 2 Z (oN (tN ?_))))))))))
     refine W_joinN (α := Nat × List T) [1, 4, 6, 7, 8, 10, 11, 13, 14, 15, 21, 22, 23, 59, 60, 61, 67, 68, 69, 70, 71, 72, 73, 74, 75, 76, 77, 78, 79, 80, 81, 82, 83, 84, 85, 86, 87, 88] [1, 7] (fun x => [(3, .sl 3 0 (x.1))]) (fun x => [(3, .L 1 (x.2))]) (fun x => (x.1) = (x.2).length ∧ ∃ acc5 : List (List Int), (x.2) = acc5.map T.ints ∧ (acc5.length : Int) ≤ 39 * i + 13 * k + 1 + 3 * j + q + 1 ∧ acc5 = (if ¬ i = j ∧ ((ways (w.tasks[j.toNat]'(by omega)))[q.toNat]'(by omega)).kind = 2 ∧ ((ways (w.tasks[j.toNat]'(by omega)))[q.toNat]'(by omega)).chan = ((ways (w.tasks[i.toNat]'(by omega)))[k.toNat]'(by omega)).chan then acc4 ++ [[i, k, j, q]] else acc4)) ?_ (fun x hx => ?_)
     ·
      refine W_cond Z (fun h10 => ?_) (fun h10 => ?_)
      ·
       simp only [HS] at h10
       refine rG (eK 3 Z (kZ [1,3,4,6,7,8,10,11,13,14,15,21,22,23,59,60,61,67,68,69,70,71,72,73,74,75,76,77,78,79,80,81,82,83,84,85,86,87,88,89,90,91] Z (eK 2 Z ?_)))
       refine WO_buildSlice tys [T.int i, T.int k, T.int j, T.int q] Z Z (lt_of Z) Z Z Z Z Z (lt_of Z) (by repeat (first | exact PartsOk.nil' | refine PartsOk.cons' rfl (by repeat (first | exact AbsL.nil' | refine AbsL.v' ?_ | refine AbsL.own' ?_ | refine AbsL.none' ?_)) Z ?_)) (by first | exact List.nodup_nil | exact nodup1 _ | decide | exact nodupB_sound Z) Z (by decide) ?_
       refine nZ Z (WO_le (Le.gather (u := 94) (id := 94) Z Z (by first | (simp; done) | (simp; omega) | omega)) ?_)
       refine nZ Z ?_
       refine WO_buildSlice tys [T.ints [i, k, j, q]] Z Z (lt_of Z) Z Z Z Z Z (lt_of Z) (by repeat (first | exact PartsOk.nil' | refine PartsOk.cons' rfl (by repeat (first | exact AbsL.nil' | refine AbsL.v' ?_ | refine AbsL.own' ?_ | refine AbsL.none' ?_)) Z ?_)) (by first | exact List.nodup_nil | exact nodup1 _ | decide | exact nodupB_sound Z) Z (by decide) ?_
       refine nZ Z (WO_append tys Z Z (lt_of Z) Z Z Z Z Z (.own Z (by first | omega | (simp only [List.length_append]; omega))) Z (.own Z (by first | decide | omega)) (by decide) (by have q1 := congrArg List.length hx4; have q2 := hw.1; simp only [List.length_map] at q1; simp only [List.length_take, List.length_cons, List.length_nil]; omega) (by decide) Z ?_)
       refine nZ Z (eZ Z (oN ?_))
       refine joinQ_n (_, _) (by (try dsimp only); repeat (first | exact Sub.nil' | refine Sub.cons' rfl ?_)) (by (try dsimp only); repeat (first | exact SubM.nil' | refine SubM.cons' rfl ?_)) ?_
       dsimp only
       first
       | (refine ⟨by simp, acc4 ++ [[i, k, j, q]], ?_, by simp only [List.length_append, List.length_cons, List.length_nil]; omega, by rw [if_pos ⟨h8, h9, h10⟩]⟩; rw [hm4, List.take_of_length_le (Nat.le_refl _), hx4, List.map_append]; rfl)
      simp only [HS] at h10
      refine W_skip ?_
      refine joinQ_n (_, _) (by (try dsimp only); repeat (first | exact Sub.nil' | refine Sub.cons' rfl ?_)) (by (try dsimp only); repeat (first | exact SubM.nil' | refine SubM.cons' rfl ?_)) ?_
      dsimp only
      first
      | exact ⟨hm4, acc4, hx4, by omega, by rw [if_neg (by grind)]⟩
     obtain ⟨m5, xs5⟩ := x
     obtain ⟨hm5, acc5, hx5, hl5, he5⟩ := hx
     dsimp only at hm5 hx5 hl5 he5 ⊢
     refine bN (tN (kY [1,3,4,6,7,8,10,11,13,14,15,21,22,23,59,60,61,67,68,69,70,71,72,73,74,75,76,77,78,79,80,81,82,83,84,85,86,87,88] Z (rG (evI ?_))))
     refine eZ Z (oN ?_)
     refine lQ (_, _, _) ?_ ?_
     ·dsimp only
      exact ⟨by omega, by omega, hm5, hw4, acc5, hx5, by omega, by rw [he4, mvB_at hq0 h7, ← he5]⟩
     ·(show Int.toNat _ < Int.toNat _); omega
    simp only [HS] at h7
    refine W_exit (tE (loopQ_e (inBlk_y (bN (tN (rG (evI ?_)))))))
    refine eZ Z (oN ?_)
    refine lQ (_, _, _) ?_ ?_
    ·dsimp only
     exact ⟨by omega, by omega, hm4, acc4, hx4, by omega, by rw [he3, mvU_at hj0 h6, he4, drop_end h7]; rfl⟩
    ·(show Int.toNat _ < Int.toNat _); omega
   simp only [HS] at h6
   refine W_exit (tE (loopQ_e (inBlk_y (bN (tN (rG (evI ?_)))))))
   refine eZ Z (oN ?_)
   refine lQ (_, _, _) ?_ ?_
   ·dsimp only
    have e1 := at0_of (d := false) (l := w.shut) hc.1 (by omega); have e2 := at0_of (d := []) (l := w.held) hc.1 (by omega)
    first
    | (have hS : mvS w ((ways (w.tasks[i.toNat]'(by omega)))[k.toNat]'(by omega)) = true := (by grind [mvS]); refine ⟨by omega, by omega, hm3, hw, acc3, hx3, by omega, ?_⟩; rw [he', mvA_at hk0 h2, ← he2, hS, if_pos rfl, he3, drop_end (l := w.tasks) (by omega)]; rfl)
   ·(show Int.toNat _ < Int.toNat _); omega
  simp only [HS] at h2
  refine W_exit (tE (loopQ_e (inBlk_y (bN (tN (rG (evI ?_)))))))
  refine eZ Z (oN ?_)
  refine lQ (_, _, _) ?_ ?_
  ·dsimp only
   exact ⟨by omega, by omega, hm', acc', hx', by (have := hw.1; omega), by rw [he, mvT_at hi0 h1, he', drop_end h2]; rfl⟩
  ·(show Int.toNat _ < Int.toNat _); omega
 simp only [HS] at h1
 refine W_exit (tE (loopQ_e (inBlk_y (tN (sQ (rG (eK 2 Z (oN (tN (W_le (Le.gather (u := 2) (id := 3) Z Z (by omega)) (rT (eR ?_))))))))))))
 ·rw [hm, List.take_of_length_le (Nat.le_refl _), hx, he, drop_end h1]; rfl
theorem movesIn_fun (w : World) (hg : Good w) : Fun Try.prog 51 [.t w.tt] (tupD [.own (intss (movesOf w))]) := by
 have g1 := hg.room
 have g2 := hg.held
 have g3 := hg.shut
 have g4 := hg.tasks
 refine Fun.begin tys Try.func51 Z Z (N := 98) [(0, .t w.tt)] Z Z (fun w0 G F0 => ?_)
 refine sQ (rG (WO_box Z Z (lt_of Z) Z Z (nZ Z (eZ Z (oN (tN (sQ (rG (eZ Z (WO_le (Le.nilOwn (u := 3) 1 Z) (WO_le (Le.adoptE (u := 3) 3 Z Z) (nZ Z (oN (tN (sQ ?_)))))))))))))))
 refine sQ (rG (eK 2 Z (evE ?_)))
 refine eZ Z (oN (tN (W_block ?_)))
 refine lK (α := Int × Nat × List T) [1, 11, 12] [1] (fun x => [(13, .t (.int (x.1))), (3, .sl 3 0 (x.2.1))]) (fun x => [(3, .L 1 (x.2.2))]) (fun x => 0 ≤ (x.1) ∧ (x.1) ≤ w.tasks.length ∧ (x.2.1) = (x.2.2).length ∧ ∃ acc : List (List Int), (x.2.2) = acc.map T.ints ∧ (acc.length : Int) ≤ 39 * (x.1) ∧ movesOf w = mvT w (w.tasks.drop (x.1).toNat) (x.1) acc) (fun x => Int.toNat (w.tasks.length - (x.1))) (0, 0, []) ?_ (fun x hx => ?_)
 ·exact ⟨by omega, by omega, by simp, [], rfl, by simp, rfl⟩
 obtain ⟨i, m, xs⟩ := x
 obtain ⟨hi0, hi1, hm, acc, hx, hl, he⟩ := hx
 dsimp only at hi0 hi1 hm hx hl he ⊢
 refine nY Z (sQ (rG (eZ Z (oN (tN (sQ ?_))))))
 refine W_cond Z (fun h1 => ?_) (fun h1 => ?_)
 ·
  simp only [HS] at h1
  refine W_skip (tN (sQ (W_block (sQ (rG (eK 2 Z (oN (tN (sQ (rG (eZ Z ?_)))))))))))
  try refine WO_le (Le.freeze (u := 16) rfl) ?_
  refine nZ Z (eZ Z (WO_callF Z Z (lt_of Z) Z Z Z Z Z (casesOf_fun _ _ (by omega) (by omega) (by have := (hg.pos _ (List.getElem_mem (l := w.tasks) (n := i.toNat) (by omega))).2.2; omega) (hg.pos _ (List.getElem_mem _)).1 (hg.pos _ (List.getElem_mem _)).2.1) Z ?_))
  refine evE ?_
  refine eZ Z (oN (tN (W_block ?_)))
  refine lK (α := Int × Nat × List T) [1, 4, 11, 12, 13, 18, 19] [1] (fun x => [(20, .t (.int (x.1))), (3, .sl 3 0 (x.2.1))]) (fun x => [(3, .L 1 (x.2.2))]) (fun x => 0 ≤ (x.1) ∧ (x.1) ≤ (ways (w.tasks[i.toNat]'(by omega))).length ∧ (x.2.1) = (x.2.2).length ∧ ((ways (w.tasks[i.toNat]'(by omega))).length ≤ 3 ∧ ∀ b, b ∈ ways (w.tasks[i.toNat]'(by omega)) → 0 ≤ b.chan ∧ b.chan < w.room.length) ∧ ∃ acc' : List (List Int), (x.2.2) = acc'.map T.ints ∧ (acc'.length : Int) ≤ 39 * i + 13 * (x.1) ∧ mvA w i (ways (w.tasks[i.toNat]'(by omega))) 0 acc = mvA w i ((ways (w.tasks[i.toNat]'(by omega))).drop (x.1).toNat) (x.1) acc') (fun x => Int.toNat ((ways (w.tasks[i.toNat]'(by omega))).length - (x.1))) (0, m, xs) ?_ (fun x hx => ?_)
  ·exact ⟨by omega, by omega, hm, hg.ways _ (List.getElem_mem _), acc, hx, by omega, rfl⟩
  obtain ⟨k, m', xs'⟩ := x
  obtain ⟨hk0, hk1, hm', hw, acc', hx', hl', he'⟩ := hx
  dsimp only at hk0 hk1 hm' hw hx' hl' he' ⊢
  refine nY Z (sQ (rG (eZ Z (oN (tN (sQ ?_))))))
  refine W_cond Z (fun h2 => ?_) (fun h2 => ?_)
  ·
   simp only [HS] at h2
   refine W_skip (tN (sQ (W_block (sQ (rG (eZ Z (WO_idxT tys Z Z (lt_of Z) Z Z Z Z Z Z Z (by omega) _ (getAct _ (by omega) (by omega)) (eZ Z ?_))))))))
   try refine WO_le (Le.freeze (u := 24) rfl) ?_
   refine nZ Z (WO_alloc tys Z Z (lt_of Z) Z Z Z (nZ Z ?_))
   have hc := hw.2 _ (List.getElem_mem (l := ways (w.tasks[i.toNat]'(by omega))) (n := k.toNat) (by omega))
   refine eZ Z (sT Z (nZ Z (oN (tN (sQ (sQ (kY [1,3,4,5,6,11,12,13,18,19,20,21,22,23,24] Z (rG (eZ Z ?_)))))))))
   try refine WO_le (Le.freeze (u := 25) rfl) ?_
   refine nZ Z (eZ Z ?_)
   try refine WO_le (Le.freeze (u := 26) rfl) ?_
   refine nZ Z (callB ?_)
   refine ⟨_, isAlone_fun _ _ (hw.2 _ (List.getElem_mem _)).1 (hw.2 _ (List.getElem_mem _)).2 g2 g3 g1, rfl, ?_⟩
   refine oN (tN ?_)
   refine W_joinN (α := Nat × List T) [1, 4, 5, 6, 11, 12, 13, 18, 19, 20, 21, 22, 23, 24, 25, 26, 27] [1, 6] (fun x => [(3, .sl 3 0 (x.1))]) (fun x => [(3, .L 1 (x.2))]) (fun x => (x.1) = (x.2).length ∧ ∃ acc2 : List (List Int), (x.2) = acc2.map T.ints ∧ (acc2.length : Int) ≤ 39 * i + 13 * k + 1 ∧ acc2 = (if alone w ((ways (w.tasks[i.toNat]'(by omega)))[k.toNat]'(by omega)) then acc' ++ [[i, k, -1, 0]] else acc')) ?_ (fun x hx => ?_)
   ·
    refine W_cond Z (fun h3 => ?_) (fun h3 => ?_)
    ·
     refine rG (eK 3 Z ?_)
     refine WO_buildSlice tys [T.int i, T.int k, T.int (-1), T.int 0] Z Z (lt_of Z) Z Z Z Z Z (lt_of Z) (by repeat (first | exact PartsOk.nil' | refine PartsOk.cons' rfl (by repeat (first | exact AbsL.nil' | refine AbsL.v' ?_ | refine AbsL.own' ?_ | refine AbsL.none' ?_)) Z ?_)) (by first | exact List.nodup_nil | exact nodup1 _ | decide | exact nodupB_sound Z) Z (by decide) ?_
     refine nZ Z (WO_le (Le.gather (u := 31) (id := 31) Z Z (by first | (simp; done) | (simp; omega) | omega)) ?_)
     refine nZ Z ?_
     refine WO_buildSlice tys [T.ints [i, k, -1, 0]] Z Z (lt_of Z) Z Z Z Z Z (lt_of Z) (by repeat (first | exact PartsOk.nil' | refine PartsOk.cons' rfl (by repeat (first | exact AbsL.nil' | refine AbsL.v' ?_ | refine AbsL.own' ?_ | refine AbsL.none' ?_)) Z ?_)) (by first | exact List.nodup_nil | exact nodup1 _ | decide | exact nodupB_sound Z) Z (by decide) ?_
     refine nZ Z (WO_append tys Z Z (lt_of Z) Z Z Z Z Z (.own Z (by first | omega | (simp only [List.length_append]; omega))) Z (.own Z (by first | decide | omega)) (by decide) (by have q1 := congrArg List.length hx'; have q2 := hw.1; simp only [List.length_map] at q1; simp only [List.length_take, List.length_cons, List.length_nil]; omega) (by decide) Z ?_)
     refine nZ Z (kZ [1,3,4,5,6,11,12,13,18,19,20,21,22,23,24,25,26,27,28,29,30,31,32,33] Z (eZ Z (oN ?_)))
     refine joinQ_n (_, _) (by (try dsimp only); repeat (first | exact Sub.nil' | refine Sub.cons' rfl ?_)) (by (try dsimp only); repeat (first | exact SubM.nil' | refine SubM.cons' rfl ?_)) ?_
     dsimp only
     first
     | (refine ⟨by simp, acc' ++ [[i, k, -1, 0]], ?_, by simp only [List.length_append, List.length_cons, List.length_nil]; omega, by rw [if_pos h3]⟩; rw [hm', List.take_of_length_le (Nat.le_refl _), hx', List.map_append]; rfl)
    refine W_skip ?_
    refine joinQ_n (_, _) (by (try dsimp only); repeat (first | exact Sub.nil' | refine Sub.cons' rfl ?_)) (by (try dsimp only); repeat (first | exact SubM.nil' | refine SubM.cons' rfl ?_)) ?_
    dsimp only
    first
    | exact ⟨hm', acc', hx', by omega, by rw [if_neg (by simp [h3])]⟩
   obtain ⟨m2, xs2⟩ := x
   obtain ⟨hm2, acc2, hx2, hl2, he2⟩ := hx
   dsimp only at hm2 hx2 hl2 he2 ⊢
   refine tN (sQ (sQ (kY [1,3,4,5,6,11,12,13,18,19,20,21,22,23,24,25,26,27] Z (rG (eK 4 Z ?_)))))
   refine WO_guard Z Z Z Z (lt_of Z) (fun h3 => ?_) (fun h3 => ?_)
   rotate_left
   ·
    simp only [HS] at h3
    refine gM Z (gM Z (gM Z (gM Z (gM Z (kZ [1,3,4,5,6,11,12,13,18,19,20,21,22,23,24,25,26,27,34,35,36,37,38,39,40,41,42,43] Z (gM Z (gM Z (eK 2 Z (gM Z (gM Z (gM Z (gM Z (gM Z (kZ [1,3,4,5,6,11,12,13,18,19,20,21,22,23,24,25,26,27,34,35,36,37,38,39,40,41,42,43,44,45,46,47,48,49,50,51,52] Z (gM Z ?_)))))))))))))))
    refine eZ Z (oN (tN (W_condT Z (W_exit (tE (inBlk_y (tN (rG (evI ?_)))))))))
    refine eZ Z (oN ?_)
    refine lQ (_, _, _) ?_ ?_
    ·dsimp only
     have e1 := at0_of (d := false) (l := w.shut) hc.1 (by omega); have e2 := at0_of (d := []) (l := w.held) hc.1 (by omega)
     first
     | (have hS : mvS w ((ways (w.tasks[i.toNat]'(by omega)))[k.toNat]'(by omega)) = false := (by grind [mvS]); refine ⟨by omega, by omega, hm2, hw, acc2, hx2, by omega, ?_⟩; rw [he', mvA_at hk0 h2, ← he2, hS]; rfl)
    ·(show Int.toNat _ < Int.toNat _); omega
   simp only [HS] at h3
   refine eZ Z (gY Z (eZ Z (gY Z (eZ Z (gY Z (eZ Z (gY Z (WO_idxT tys Z Z (lt_of Z) Z Z Z Z Z Z Z (by omega) _ (getT _ _ (by omega) (by omega)) (kZ [1,3,4,5,6,11,12,13,18,19,20,21,22,23,24,25,26,27,34,35,36,37,38,39,40,41,42] Z (gY Z (eZ Z (gY Z (evE ?_)))))))))))))
   refine gY Z (eK 3 Z ?_)
   refine WO_guard Z Z Z Z (lt_of Z) (fun h4 => ?_) (fun h4 => ?_)
   rotate_left
   ·
    simp only [HS] at h4
    refine gM Z (gM Z (gM Z (gM Z (kZ [1,3,4,5,6,11,12,13,18,19,20,21,22,23,24,25,26,27,34,35,36,37,38,39,40,41,42,43,44,45,46,47,48,49,50,51,52] Z (gM Z (eZ Z (oN (tN (W_condT Z (W_exit (tE (inBlk_y (tN (rG (evI ?_)))))))))))))))
    refine eZ Z (oN ?_)
    refine lQ (_, _, _) ?_ ?_
    ·dsimp only
     have e1 := at0_of (d := false) (l := w.shut) hc.1 (by omega); have e2 := at0_of (d := []) (l := w.held) hc.1 (by omega)
     first
     | (have hS : mvS w ((ways (w.tasks[i.toNat]'(by omega)))[k.toNat]'(by omega)) = false := (by grind [mvS]); refine ⟨by omega, by omega, hm2, hw, acc2, hx2, by omega, ?_⟩; rw [he', mvA_at hk0 h2, ← he2, hS]; rfl)
    ·(show Int.toNat _ < Int.toNat _); omega
   simp only [HS] at h4
   refine eZ Z (gY Z (eZ Z (gY Z (eZ Z (gY Z (eZ Z (kZ [1,3,4,5,6,11,12,13,18,19,20,21,22,23,24,25,26,27,34,35,36,37,38,39,40,41,42,43,44,45,46,47,48,49,50,51] Z (gY Z (WO_idxT tys Z Z (lt_of Z) Z Z Z Z Z Z Z (by omega) _ (getT _ _ (by omega) (by omega)) (gY Z (eK 2 Z (oN (tN ?_)))))))))))))
   refine W_cond Z (fun h5 => ?_) (fun h5 => ?_)
   ·
    refine W_exit (tE (inBlk_y (tN (rG (evI ?_)))))
    refine eZ Z (oN ?_)
    refine lQ (_, _, _) ?_ ?_
    ·dsimp only
     have e1 := at0_of (d := false) (l := w.shut) hc.1 (by omega); have e2 := at0_of (d := []) (l := w.held) hc.1 (by omega)
     first
     | (have hS : mvS w ((ways (w.tasks[i.toNat]'(by omega)))[k.toNat]'(by omega)) = false := (by grind [mvS]); refine ⟨by omega, by omega, hm2, hw, acc2, hx2, by omega, ?_⟩; rw [he', mvA_at hk0 h2, ← he2, hS]; rfl)
    ·(show Int.toNat _ < Int.toNat _); omega
   refine W_skip (tN (sQ (rG (eK 2 Z (evE ?_)))))
   refine eZ Z (oN (tN (W_block ?_)))
   refine lK (α := Int × Nat × List T) [1, 4, 5, 6, 11, 12, 13, 18, 19, 20, 56, 57] [1, 6] (fun x => [(58, .t (.int (x.1))), (3, .sl 3 0 (x.2.1))]) (fun x => [(3, .L 1 (x.2.2))]) (fun x => 0 ≤ (x.1) ∧ (x.1) ≤ w.tasks.length ∧ (x.2.1) = (x.2.2).length ∧ ∃ acc3 : List (List Int), (x.2.2) = acc3.map T.ints ∧ (acc3.length : Int) ≤ 39 * i + 13 * k + 1 + 3 * (x.1) ∧ mvU i k ((ways (w.tasks[i.toNat]'(by omega)))[k.toNat]'(by omega)) w.tasks 0 acc2 = mvU i k ((ways (w.tasks[i.toNat]'(by omega)))[k.toNat]'(by omega)) (w.tasks.drop (x.1).toNat) (x.1) acc3) (fun x => Int.toNat (w.tasks.length - (x.1))) (0, m2, xs2) ?_ (fun x hx => ?_)
   ·exact ⟨by omega, by omega, hm2, acc2, hx2, by omega, rfl⟩
   obtain ⟨j, m3, xs3⟩ := x
   obtain ⟨hj0, hj1, hm3, acc3, hx3, hl3, he3⟩ := hx
   dsimp only at hj0 hj1 hm3 hx3 hl3 he3 ⊢
   refine nY Z (sQ (rG (eZ Z (oN (tN (sQ ?_))))))
   refine W_cond Z (fun h6 => ?_) (fun h6 => ?_)
   ·
    simp only [HS] at h6
    refine W_skip (tN (sQ (W_block (sQ (rG (eK 2 Z (oN (tN (sQ (rG (eZ Z ?_)))))))))))
    try refine WO_le (Le.freeze (u := 61) rfl) ?_
    refine nZ Z (eZ Z (WO_callF Z Z (lt_of Z) Z Z Z Z Z (casesOf_fun _ _ (by omega) (by omega) (by have := (hg.pos _ (List.getElem_mem (l := w.tasks) (n := j.toNat) (by omega))).2.2; omega) (hg.pos _ (List.getElem_mem _)).1 (hg.pos _ (List.getElem_mem _)).2.1) Z ?_))
    refine evE ?_
    refine eZ Z (oN (tN (W_block ?_)))
    refine lK (α := Int × Nat × List T) [1, 4, 5, 6, 7, 11, 12, 13, 18, 19, 20, 56, 57, 58, 63, 64] [1, 6] (fun x => [(65, .t (.int (x.1))), (3, .sl 3 0 (x.2.1))]) (fun x => [(3, .L 1 (x.2.2))]) (fun x => 0 ≤ (x.1) ∧ (x.1) ≤ (ways (w.tasks[j.toNat]'(by omega))).length ∧ (x.2.1) = (x.2.2).length ∧ (ways (w.tasks[j.toNat]'(by omega))).length ≤ 3 ∧ ∃ acc4 : List (List Int), (x.2.2) = acc4.map T.ints ∧ (acc4.length : Int) ≤ 39 * i + 13 * k + 1 + 3 * j + (x.1) ∧ mvB i k ((ways (w.tasks[i.toNat]'(by omega)))[k.toNat]'(by omega)) j (ways (w.tasks[j.toNat]'(by omega))) 0 acc3 = mvB i k ((ways (w.tasks[i.toNat]'(by omega)))[k.toNat]'(by omega)) j ((ways (w.tasks[j.toNat]'(by omega))).drop (x.1).toNat) (x.1) acc4) (fun x => Int.toNat ((ways (w.tasks[j.toNat]'(by omega))).length - (x.1))) (0, m3, xs3) ?_ (fun x hx => ?_)
    ·exact ⟨by omega, by omega, hm3, (hg.ways _ (List.getElem_mem _)).1, acc3, hx3, by omega, rfl⟩
    obtain ⟨q, m4, xs4⟩ := x
    obtain ⟨hq0, hq1, hm4, hw4, acc4, hx4, hl4, he4⟩ := hx
    dsimp only at hq0 hq1 hm4 hw4 hx4 hl4 he4 ⊢
    refine nY Z (sQ (rG (eZ Z (oN (tN (sQ ?_))))))
    refine W_cond Z (fun h7 => ?_) (fun h7 => ?_)
    ·
     simp only [HS] at h7
     refine W_skip (tN (sQ (W_block (sQ (rG (eZ Z (WO_idxT tys Z Z (lt_of Z) Z Z Z Z Z Z Z (by omega) _ (getAct _ (by omega) (by omega)) (eZ Z ?_))))))))
     try refine WO_le (Le.freeze (u := 69) rfl) ?_
     refine nZ Z (WO_alloc tys Z Z (lt_of Z) Z Z Z (nZ Z (eZ Z (sT Z (nZ Z (oN (tN (sQ (kY [1,3,4,5,6,7,8,9,11,12,13,18,19,20,56,57,58,63,64,65,66,67,68,69] Z (rG (eK 4 Z ?_)))))))))))
     refine WO_guard Z Z Z Z (lt_of Z) (fun h8 => ?_) (fun h8 => ?_)
     rotate_left
     ·
      simp only [HS] at h8
      refine gM Z (gM Z (eK 2 Z (gM Z (kZ [1,3,4,5,6,7,8,9,11,12,13,18,19,20,56,57,58,63,64,65,66,67,68,69,70,71,72,73,74,75,76,77,78,79] Z (gM Z (gM Z (gM Z (gM Z (eZ Z (oN (tN ?_)))))))))))
      refine W_joinN (α := Nat × List T) [1, 4, 5, 6, 7, 8, 9, 11, 12, 13, 18, 19, 20, 56, 57, 58, 63, 64, 65, 66, 67, 68, 69, 70, 71, 72, 73, 74, 75, 76, 77, 78, 79, 80, 81, 82, 83, 84] [1, 6] (fun x => [(3, .sl 3 0 (x.1))]) (fun x => [(3, .L 1 (x.2))]) (fun x => (x.1) = (x.2).length ∧ ∃ acc5 : List (List Int), (x.2) = acc5.map T.ints ∧ (acc5.length : Int) ≤ 39 * i + 13 * k + 1 + 3 * j + q + 1 ∧ acc5 = (if ¬ i = j ∧ ((ways (w.tasks[j.toNat]'(by omega)))[q.toNat]'(by omega)).kind = 2 ∧ ((ways (w.tasks[j.toNat]'(by omega)))[q.toNat]'(by omega)).chan = ((ways (w.tasks[i.toNat]'(by omega)))[k.toNat]'(by omega)).chan then acc4 ++ [[i, k, j, q]] else acc4)) ?_ (fun x hx => ?_)
      ·
       refine W_condF Z (W_skip ?_)
       refine joinQ_n (_, _) (by (try dsimp only); repeat (first | exact Sub.nil' | refine Sub.cons' rfl ?_)) (by (try dsimp only); repeat (first | exact SubM.nil' | refine SubM.cons' rfl ?_)) ?_
       dsimp only
       first
       | exact ⟨hm4, acc4, hx4, by omega, by rw [if_neg (by grind)]⟩
      obtain ⟨m5, xs5⟩ := x
      obtain ⟨hm5, acc5, hx5, hl5, he5⟩ := hx
      dsimp only at hm5 hx5 hl5 he5 ⊢
      refine bN (tN (kY [1,3,4,5,6,7,8,9,11,12,13,18,19,20,56,57,58,63,64,65,66,67,68,69,70,71,72,73,74,75,76,77,78,79,80,81,82,83,84] Z (rG (evI ?_))))
      refine eZ Z (oN ?_)
      refine lQ (_, _, _) ?_ ?_
      ·dsimp only
       exact ⟨by omega, by omega, hm5, hw4, acc5, hx5, by omega, by rw [he4, mvB_at hq0 h7, ← he5]⟩
      ·(show Int.toNat _ < Int.toNat _); omega
     simp only [HS] at h8
     refine eZ Z (gY Z (eZ Z (gY Z (eK 3 Z (kZ [1,3,4,5,6,7,8,9,11,12,13,18,19,20,56,57,58,63,64,65,66,67,68,69,70,71,72,73,74,75,76,77,78] Z ?_)))))
     refine WO_guard Z Z Z Z (lt_of Z) (fun h9 => ?_) (fun h9 => ?_)
     rotate_left
     ·
      simp only [HS] at h9
      refine gM Z (gM Z (gM Z (gM Z (eZ Z (oN (tN ?_))))))
      refine W_joinN (α := Nat × List T) [1, 4, 5, 6, 7, 8, 9, 11, 12, 13, 18, 19, 20, 56, 57, 58, 63, 64, 65, 66, 67, 68, 69, 70, 71, 72, 73, 74, 75, 76, 77, 78, 79, 80, 81, 82, 83, 84] [1, 6] (fun x => [(3, .sl 3 0 (x.1))]) (fun x => [(3, .L 1 (x.2))]) (fun x => (x.1) = (x.2).length ∧ ∃ acc5 : List (List Int), (x.2) = acc5.map T.ints ∧ (acc5.length : Int) ≤ 39 * i + 13 * k + 1 + 3 * j + q + 1 ∧ acc5 = (if ¬ i = j ∧ ((ways (w.tasks[j.toNat]'(by omega)))[q.toNat]'(by omega)).kind = 2 ∧ ((ways (w.tasks[j.toNat]'(by omega)))[q.toNat]'(by omega)).chan = ((ways (w.tasks[i.toNat]'(by omega)))[k.toNat]'(by omega)).chan then acc4 ++ [[i, k, j, q]] else acc4)) ?_ (fun x hx => ?_)
      ·
       refine W_condF Z (W_skip ?_)
       refine joinQ_n (_, _) (by (try dsimp only); repeat (first | exact Sub.nil' | refine Sub.cons' rfl ?_)) (by (try dsimp only); repeat (first | exact SubM.nil' | refine SubM.cons' rfl ?_)) ?_
       dsimp only
       first
       | exact ⟨hm4, acc4, hx4, by omega, by rw [if_neg (by grind)]⟩
      obtain ⟨m5, xs5⟩ := x
      obtain ⟨hm5, acc5, hx5, hl5, he5⟩ := hx
      dsimp only at hm5 hx5 hl5 he5 ⊢
      refine bN (tN (kY [1,3,4,5,6,7,8,9,11,12,13,18,19,20,56,57,58,63,64,65,66,67,68,69,70,71,72,73,74,75,76,77,78,79,80,81,82,83,84] Z (rG (evI ?_))))
      refine eZ Z (oN ?_)
      refine lQ (_, _, _) ?_ ?_
      ·dsimp only
       exact ⟨by omega, by omega, hm5, hw4, acc5, hx5, by omega, by rw [he4, mvB_at hq0 h7, ← he5]⟩
      ·(show Int.toNat _ < Int.toNat _); omega
     simp only [HS] at h9
     refine eZ Z (gY Z (eZ Z (gY Z (eZ Z (gY Z (eZ Z (gY Z (eK 2 Z (oN (tN ?_))))))))))
     refine W_joinN (α := Nat × List T) [1, 4, 5, 6, 7, 8, 9, 11, 12, 13, 18, 19, 20, 56, 57, 58, 63, 64, 65, 66, 67, 68, 69, 70, 71, 72, 73, 74, 75, 76, 77, 78, 79, 80, 81, 82, 83, 84] [1, 6] (fun x => [(3, .sl 3 0 (x.1))]) (fun x => [(3, .L 1 (x.2))]) (fun x => (x.1) = (x.2).length ∧ ∃ acc5 : List (List Int), (x.2) = acc5.map T.ints ∧ (acc5.length : Int) ≤ 39 * i + 13 * k + 1 + 3 * j + q + 1 ∧ acc5 = (if ¬ i = j ∧ ((ways (w.tasks[j.toNat]'(by omega)))[q.toNat]'(by omega)).kind = 2 ∧ ((ways (w.tasks[j.toNat]'(by omega)))[q.toNat]'(by omega)).chan = ((ways (w.tasks[i.toNat]'(by omega)))[k.toNat]'(by omega)).chan then acc4 ++ [[i, k, j, q]] else acc4)) ?_ (fun x hx => ?_)
     ·
      refine W_cond Z (fun h10 => ?_) (fun h10 => ?_)
      ·
       simp only [HS] at h10
       refine rG (eK 3 Z (kZ [1,3,4,5,6,7,8,9,11,12,13,18,19,20,56,57,58,63,64,65,66,67,68,69,70,71,72,73,74,75,76,77,78,79,80,81,82,83,84,85,86,87] Z (eK 2 Z ?_)))
       refine WO_buildSlice tys [T.int i, T.int k, T.int j, T.int q] Z Z (lt_of Z) Z Z Z Z Z (lt_of Z) (by repeat (first | exact PartsOk.nil' | refine PartsOk.cons' rfl (by repeat (first | exact AbsL.nil' | refine AbsL.v' ?_ | refine AbsL.own' ?_ | refine AbsL.none' ?_)) Z ?_)) (by first | exact List.nodup_nil | exact nodup1 _ | decide | exact nodupB_sound Z) Z (by decide) ?_
       refine nZ Z (WO_le (Le.gather (u := 90) (id := 90) Z Z (by first | (simp; done) | (simp; omega) | omega)) ?_)
       refine nZ Z ?_
       refine WO_buildSlice tys [T.ints [i, k, j, q]] Z Z (lt_of Z) Z Z Z Z Z (lt_of Z) (by repeat (first | exact PartsOk.nil' | refine PartsOk.cons' rfl (by repeat (first | exact AbsL.nil' | refine AbsL.v' ?_ | refine AbsL.own' ?_ | refine AbsL.none' ?_)) Z ?_)) (by first | exact List.nodup_nil | exact nodup1 _ | decide | exact nodupB_sound Z) Z (by decide) ?_
       refine nZ Z (WO_append tys Z Z (lt_of Z) Z Z Z Z Z (.own Z (by first | omega | (simp only [List.length_append]; omega))) Z (.own Z (by first | decide | omega)) (by decide) (by have q1 := congrArg List.length hx4; have q2 := hw.1; simp only [List.length_map] at q1; simp only [List.length_take, List.length_cons, List.length_nil]; omega) (by decide) Z ?_)
       refine nZ Z (eZ Z (oN ?_))
       refine joinQ_n (_, _) (by (try dsimp only); repeat (first | exact Sub.nil' | refine Sub.cons' rfl ?_)) (by (try dsimp only); repeat (first | exact SubM.nil' | refine SubM.cons' rfl ?_)) ?_
       dsimp only
       first
       | (refine ⟨by simp, acc4 ++ [[i, k, j, q]], ?_, by simp only [List.length_append, List.length_cons, List.length_nil]; omega, by rw [if_pos ⟨fun e => h8 e.symm, h9, h10⟩]⟩; rw [hm4, List.take_of_length_le (Nat.le_refl _), hx4, List.map_append]; rfl)
      simp only [HS] at h10
      refine W_skip ?_
      refine joinQ_n (_, _) (by (try dsimp only); repeat (first | exact Sub.nil' | refine Sub.cons' rfl ?_)) (by (try dsimp only); repeat (first | exact SubM.nil' | refine SubM.cons' rfl ?_)) ?_
      dsimp only
      first
      | exact ⟨hm4, acc4, hx4, by omega, by rw [if_neg (by grind)]⟩
     obtain ⟨m5, xs5⟩ := x
     obtain ⟨hm5, acc5, hx5, hl5, he5⟩ := hx
     dsimp only at hm5 hx5 hl5 he5 ⊢
     refine bN (tN (kY [1,3,4,5,6,7,8,9,11,12,13,18,19,20,56,57,58,63,64,65,66,67,68,69,70,71,72,73,74,75,76,77,78,79,80,81,82,83,84] Z (rG (evI ?_))))
     refine eZ Z (oN ?_)
     refine lQ (_, _, _) ?_ ?_
     ·dsimp only
      exact ⟨by omega, by omega, hm5, hw4, acc5, hx5, by omega, by rw [he4, mvB_at hq0 h7, ← he5]⟩
     ·(show Int.toNat _ < Int.toNat _); omega
    simp only [HS] at h7
    refine W_exit (tE (loopQ_e (inBlk_y (bN (tN (rG (evI ?_)))))))
    refine eZ Z (oN ?_)
    refine lQ (_, _, _) ?_ ?_
    ·dsimp only
     exact ⟨by omega, by omega, hm4, acc4, hx4, by omega, by rw [he3, mvU_at hj0 h6, he4, drop_end h7]; rfl⟩
    ·(show Int.toNat _ < Int.toNat _); omega
   simp only [HS] at h6
   refine W_exit (tE (loopQ_e (inBlk_y (bN (tN (rG (evI ?_)))))))
   refine eZ Z (oN ?_)
   refine lQ (_, _, _) ?_ ?_
   ·dsimp only
    have e1 := at0_of (d := false) (l := w.shut) hc.1 (by omega); have e2 := at0_of (d := []) (l := w.held) hc.1 (by omega)
    first
    | (have hS : mvS w ((ways (w.tasks[i.toNat]'(by omega)))[k.toNat]'(by omega)) = true := (by grind [mvS]); refine ⟨by omega, by omega, hm3, hw, acc3, hx3, by omega, ?_⟩; rw [he', mvA_at hk0 h2, ← he2, hS, if_pos rfl, he3, drop_end (l := w.tasks) (by omega)]; rfl)
   ·(show Int.toNat _ < Int.toNat _); omega
  simp only [HS] at h2
  refine W_exit (tE (loopQ_e (inBlk_y (bN (tN (rG (evI ?_)))))))
  refine eZ Z (oN ?_)
  refine lQ (_, _, _) ?_ ?_
  ·dsimp only
   exact ⟨by omega, by omega, hm', acc', hx', by (have := hw.1; omega), by rw [he, mvT_at hi0 h1, he', drop_end h2]; rfl⟩
  ·(show Int.toNat _ < Int.toNat _); omega
 simp only [HS] at h1
 refine W_exit (tE (loopQ_e (inBlk_y (tN (sQ (rG (eK 2 Z (oN (tN (W_le (Le.gather (u := 2) (id := 3) Z Z (by omega)) (rT (eR ?_))))))))))))
 ·rw [hm, List.take_of_length_le (Nat.le_refl _), hx, he, drop_end h1]; rfl
open Go.Eng
def mkI {α : Type} : List α → Int → List Int
 | [], _ => []
 | _ :: l, k => k :: mkI l (k + 1)
theorem mkI_len {α : Type} : ∀ (l : List α) (k : Int), (mkI l k).length = l.length
 | [], _ => rfl
 | _ :: l, k => by rw [mkI, List.length_cons, mkI_len l, List.length_cons]
theorem flat_one {α : Type} {g : α → T} (h : ∀ a, (g a).cells = [g a]) : ∀ l : List α, (l.map g).flatMap T.cells = l.map g
 | [] => rfl
 | a :: l => by rw [List.map_cons, List.flatMap_cons, h, flat_one h l]; rfl
theorem cell1 {α : Type} {g : α → T} {done l : List α} {i : Int} (hd : done.length = i.toNat) (h0 : 0 ≤ i) (h1 : i < l.length) : ((done ++ l.drop i.toNat).map g)[i.toNat * 1]? = some (g (l[i.toNat]'(by omega))) := by
 rw [drop_at h0 h1, Nat.mul_one, List.getElem?_map, get_done hd]; rfl
theorem set1 {α : Type} {g : α → T} {done l : List α} {i : Int} (hd : done.length = i.toNat) (h0 : 0 ≤ i) (h1 : i < l.length) (y : α) : ((done ++ l.drop i.toNat).map g).set (i.toNat * 1) (g y) = ((done ++ [y]) ++ l.drop (i + 1).toNat).map g := by
 rw [drop_at h0 h1, Nat.mul_one, ← List.map_set, set_done hd]
theorem markIntS_nil (k : Int) : Fun Try.prog 23 [.t (.list 1 []), .t (.int k)] (tupD [.t (.int k)]) := by
 refine Fun.begin tys Try.func23 Z Z (N := 19) [(0, .t (.list 1 [])), (1, .t (.int k))] Z Z (fun w0 G F0 => ?_)
 refine sQ (rG (eZ Z (oN (tN (sQ (sQ (rG (eZ Z (oN (tN (W_block ?_)))))))))))
 refine lK (α := Int) [0, 1] [] (fun x => [(5, .t (.int x))]) (fun x => []) (fun x => 0 ≤ x) (fun x => Int.toNat (0)) 0 ?_ (fun z hx => ?_)
 ·exact Int.le_refl 0
 have hz := hx
 refine nY Z (sQ (sQ (rG (eK 2 Z (evE ?_)))))
 refine eZ Z (oN (tN ?_))
 refine W_cond Z (fun h1 => ?_) (fun h1 => ?_)
 ·
  simp only [HS] at h1
  exfalso; simp at h1; omega
 simp only [HS] at h1
 refine W_exit (tE (loopQ_e (inBlk_y (tN (sQ (rG (eK 2 Z (oN (tN (rT (eR ?_)))))))))))
 ·rfl
theorem markIntS_m (l : List Int) (k : Int) (hk : 0 ≤ k) (hb : k + l.length ≤ 1073741824) : MarkF Try.prog 23 (.list 1 (l.map T.int)) (k) (k + l.length) (.list 1 ((mkI l k).map T.int)) := by
 refine MarkF.slice Try.func23 rfl rfl (N := 19) rfl (fun y hy => (by obtain ⟨a, _, rfl⟩ := List.mem_map.1 hy; rfl) ) ( by simp [mkI_len]) (fun h => by cases l with | nil => (rw [show k + (([] : List Int).length : Int) = k from by simp]; exact markIntS_nil k) | cons _ _ => simp at h) (fun b cap vs w0 G F0 => ?_)
 refine sQ (rG (eZ Z (oN (tN (sQ (sQ (rG (eZ Z (oN (tN (W_block ?_)))))))))))
 refine lK (α := Int × Int × List Value × List T) [0] [] (fun x => [(5, .t (.int (x.1))), (1, .t (.int (x.2.1)))]) (fun x => [(19, .raw b (cap * 1) (x.2.2.1) (x.2.2.2))]) (fun x => 0 ≤ (x.1) ∧ (x.1) ≤ l.length ∧ (x.2.1) = k + (x.1) ∧ ∃ done : List Int, done.length = (x.1).toNat ∧ (x.2.2.2) = (done ++ l.drop (x.1).toNat).map T.int ∧ mkI l k = done ++ mkI (l.drop (x.1).toNat) (x.2.1)) (fun x => Int.toNat (l.length - (x.1))) (0, k, vs, (l.map T.int).flatMap T.cells) ?_ (fun x hx => ?_)
 ·exact ⟨by omega, by omega, by show k = k + 0; omega, [], rfl, by rw [flat_one fun _ => rfl]; rfl, rfl⟩
 obtain ⟨i, k', vs', ts⟩ := x
 obtain ⟨hi0, hi1, hk', done, hd, hts, he⟩ := hx
 dsimp only at hi0 hi1 hk' hd hts he ⊢
 refine nY Z (sQ (sQ (rG (eK 2 Z (WO_lenV Z Z (lt_of Z) Z ⟨3, by kernel_rfl⟩ rfl (eZ Z (oN (tN ?_))))))))
 refine W_cond Z (fun h1 => ?_) (fun h1 => ?_)
 ·
  simp only [HS] at h1
  refine W_skip (tN (sQ (W_block (sQ (rG (eK 3 Z (WO_idxV tys Z Z (lt_of Z) Z Z Z Z Z Z (by omega) (by first | omega | (simp only [List.length_map]; omega)) ?_)))))))
  refine WO_storeV tys (id := 19) Z Z Z Z Z Z Z (by rw [hts]; exact cell1 hd hi0 (by omega)) Z Z Z ?_
  refine nZ Z (kZ [0,1,5,6,7,8,9,12,13,14,15] Z (oN (tN (rG (eZ Z (evI ?_))))))
  refine eZ Z (oN (bN (tN (rG (eZ Z (evI ?_))))))
  refine eZ Z (oN ?_)
  refine lQ (_, _, _, _) ?_ ?_
  ·dsimp only
   exact ⟨by omega, by omega, by omega, done ++ [k'], by simp [hd]; omega, by rw [hts]; exact set1 hd hi0 h1 k', by rw [he, drop_at hi0 h1, mkI]; simp⟩
  ·(show Int.toNat _ < Int.toNat _); omega
 simp only [HS] at h1
 refine W_exit (tE (loopQ_e (inBlk_y (tN (sQ (rG (eK 2 Z (oN (tN (rT ?_))))))))))
 refine EndsM_slice (.inr Z) Z Z Z ?_ ?_
 ·omega
 ·rw [hts, drop_end h1, he, drop_end h1, flat_one fun _ => rfl]; rfl
def mkSS {α : Type} : List (List α) → Int → List (List Int)
 | [], _ => []
 | l :: ll, k => mkI l k :: mkSS ll (k + l.length)
theorem mkSS_flat {α : Type} : ∀ (l : List (List α)) (k : Int), (mkSS l k).flatten.length = l.flatten.length
 | [], _ => rfl
 | _ :: l, k => by rw [mkSS, List.flatten_cons, List.flatten_cons, List.length_append, List.length_append, mkI_len, mkSS_flat l]
theorem mkSS_len {α : Type} : ∀ (l : List (List α)) (k : Int), (mkSS l k).length = l.length
 | [], _ => rfl
 | _ :: l, k => by rw [mkSS, List.length_cons, mkSS_len l, List.length_cons]
theorem markIntSS_nil (k : Int) : Fun Try.prog 30 [.t (.list 1 []), .t (.int k)] (tupD [.t (.int k)]) := by
 refine Fun.begin tys Try.func30 Z Z (N := 19) [(0, .t (.list 1 [])), (1, .t (.int k))] Z Z (fun w0 G F0 => ?_)
 refine sQ (rG (eZ Z (oN (tN (sQ (sQ (rG (eZ Z (oN (tN (W_block ?_)))))))))))
 refine lK (α := Int) [0, 1] [] (fun x => [(5, .t (.int x))]) (fun x => []) (fun x => 0 ≤ x) (fun x => Int.toNat (0)) 0 ?_ (fun z hx => ?_)
 ·exact Int.le_refl 0
 have hz := hx
 refine nY Z (sQ (sQ (rG (eK 2 Z (evE ?_)))))
 refine eZ Z (oN (tN ?_))
 refine W_cond Z (fun h1 => ?_) (fun h1 => ?_)
 ·
  simp only [HS] at h1
  exfalso; simp at h1; omega
 simp only [HS] at h1
 refine W_exit (tE (loopQ_e (inBlk_y (tN (sQ (rG (eK 2 Z (oN (tN (rT (eR ?_)))))))))))
 ·rfl
theorem markIntSS_m (l : List (List Int)) (k : Int) (hk : 0 ≤ k) (hb : k + l.flatten.length ≤ 1073741824) (hl : l.length ≤ 1073741824) : MarkF Try.prog 30 (.list 1 (l.map T.ints)) (k) (k + l.flatten.length) (.list 1 ((mkSS l k).map T.ints)) := by
 refine MarkF.slice Try.func30 rfl rfl (N := 19) rfl (fun y hy => (by obtain ⟨a, _, rfl⟩ := List.mem_map.1 hy; rfl) ) ( by simp [mkSS_len]) (fun h => by cases l with | nil => (rw [show k + (([] : List (List Int)).flatten.length : Int) = k from by simp]; exact markIntSS_nil k) | cons _ _ => simp at h) (fun b cap vs w0 G F0 => ?_)
 refine sQ (rG (eZ Z (oN (tN (sQ (sQ (rG (eZ Z (oN (tN (W_block ?_)))))))))))
 refine lK (α := Int × Int × List Value × List T) [0] [] (fun x => [(5, .t (.int (x.1))), (1, .t (.int (x.2.1)))]) (fun x => [(19, .raw b (cap * 1) (x.2.2.1) (x.2.2.2))]) (fun x => 0 ≤ (x.1) ∧ (x.1) ≤ l.length ∧ k ≤ (x.2.1) ∧ (x.2.1) + (l.drop (x.1).toNat).flatten.length = k + l.flatten.length ∧ ∃ done : List (List Int), done.length = (x.1).toNat ∧ (x.2.2.2) = (done ++ l.drop (x.1).toNat).map T.ints ∧ mkSS l k = done ++ mkSS (l.drop (x.1).toNat) (x.2.1)) (fun x => Int.toNat (l.length - (x.1))) (0, k, vs, (l.map T.ints).flatMap T.cells) ?_ (fun x hx => ?_)
 ·exact ⟨by omega, by omega, Int.le_refl k, by simp, [], rfl, by rw [flat_one fun _ => rfl]; rfl, rfl⟩
 obtain ⟨i, k', vs', ts⟩ := x
 obtain ⟨hi0, hi1, hkk, hk', done, hd, hts, he⟩ := hx
 dsimp only at hi0 hi1 hkk hk' hd hts he ⊢
 refine nY Z (sQ (sQ (rG (eK 2 Z (WO_lenV Z Z (lt_of Z) Z ⟨22, by kernel_rfl⟩ rfl (eZ Z (oN (tN ?_))))))))
 refine W_cond Z (fun h1 => ?_) (fun h1 => ?_)
 ·
  simp only [HS] at h1
  refine W_skip (tN (sQ (W_block (rG (eK 2 Z (WO_idxV tys Z Z (lt_of Z) Z Z Z Z Z Z (by omega) (by first | omega | (simp only [List.length_map]; omega)) ?_))))))
  refine WO_loadV tys (id := 19) Z Z (lt_of Z) Z Z Z Z Z (by rw [hts]; exact cell1 hd hi0 (by omega)) (fun u15 hu15 => ?_)
  refine eZ Z (kZ [0,1,5,6,7,8,9,12,13,14,15,16] Z (WO_markN (id := 19) (j := i.toNat * 1) Z Z (lt_of Z) Z Z Z Z Z Z (hu15) (by rw [hts]; exact cell1 hd hi0 (by omega)) (markIntS_m _ k' (by omega) (by rw [flat_at hi0 h1, List.length_append] at hk'; omega)) ?_))
  refine eZ Z (oN (bN (tN (rG (eZ Z (evI ?_))))))
  refine eZ Z (oN ?_)
  refine lQ (_, _, _, _) ?_ ?_
  ·dsimp only
   exact ⟨by omega, by omega, by omega, by rw [flat_at hi0 h1, List.length_append] at hk'; omega, done ++ [mkI (l[i.toNat]'(by omega)) k'], by simp [hd]; omega, by rw [hts]; exact set1 hd hi0 h1 _, by rw [he, drop_at hi0 h1, mkSS]; simp⟩
  ·(show Int.toNat _ < Int.toNat _); omega
 simp only [HS] at h1
 refine W_exit (tE (loopQ_e (inBlk_y (tN (sQ (rG (eK 2 Z (oN (tN (rT ?_))))))))))
 refine EndsM_slice (.inr Z) Z Z Z ?_ ?_
 ·rw [drop_end h1] at hk'; simp only [List.flatten_nil, List.length_nil] at hk'; omega
 ·rw [hts, drop_end h1, he, drop_end h1, flat_one fun _ => rfl]; simp [mkSS]
def heldI : List Int → Int → Int
 | [], k => k
 | x :: l, k => if x = k then heldI l (k + 1) else -1
theorem heldI_mk {α : Type} : ∀ (l : List α) (k : Int), heldI (mkI l k) k = k + l.length
 | [], k => by simp [mkI, heldI]
 | _ :: l, k => by rw [mkI, heldI, if_pos rfl, heldI_mk l, List.length_cons]; omega
theorem heldI_at {l : List Int} {i k : Int} (h0 : 0 ≤ i) (h1 : i < l.length) : heldI (l.drop i.toNat) k = if l[i.toNat]'(by omega) = k then heldI (l.drop (i + 1).toNat) (k + 1) else -1 := by
 rw [drop_at h0 h1, heldI]
theorem heldIntS_fun (l : List Int) (k : Int) (hk : 0 ≤ k) (hb : k + l.length ≤ 1073741824) : Fun Try.prog 61 [.t (T.ints l), .t (.int k)] (tupD [.t (.int (heldI l k))]) := by
 refine Fun.begin tys Try.func61 Z Z (N := 21) [(0, .t (T.ints l)), (1, .t (.int k))] Z Z (fun w0 G F0 => ?_)
 refine sQ (rG (eZ Z (oN (tN (sQ (sQ (rG (eZ Z (oN (tN (W_block ?_)))))))))))
 refine lK (α := Int × Int) [0] [] (fun x => [(5, .t (.int (x.1))), (1, .t (.int (x.2)))]) (fun x => []) (fun x => 0 ≤ (x.1) ∧ (x.1) ≤ l.length ∧ (x.2) = k + (x.1) ∧ heldI l k = heldI (l.drop (x.1).toNat) (x.2)) (fun x => Int.toNat (l.length - (x.1))) (0, k) ?_ (fun x hx => ?_)
 ·exact ⟨by omega, by omega, by show k = k + 0; omega, rfl⟩
 obtain ⟨i, k'⟩ := x
 obtain ⟨hi0, hi1, hk', he⟩ := hx
 dsimp only at hi0 hi1 hk' he ⊢
 refine nY Z (sQ (sQ (rG (eK 2 Z (evE ?_)))))
 refine eZ Z (oN (tN ?_))
 refine W_cond Z (fun h1 => ?_) (fun h1 => ?_)
 ·
  simp only [HS] at h1
  refine W_skip (tN (sQ (W_block (sQ (sQ (rG (eK 2 Z (WO_idxT tys Z Z (lt_of Z) Z Z Z Z Z Z Z (by omega) _ (getT _ _ (by omega) (by omega)) (eK 2 Z (kZ [0,1,5,6,7,8,9,12,13,14,15,16] Z (eZ Z (oN (tN ?_)))))))))))))
  refine W_cond Z (fun h2 => ?_) (fun h2 => ?_)
  ·
   simp only [HS] at h2
   refine sQ (rG (eZ Z (oN (tN (rT (tR (bR (tR (loopQ_r (bR (tR (eR ?_))))))))))))
   ·rw [he, heldI_at hi0 h1, if_neg h2]
    done
  simp only [HS] at h2
  refine W_skip (tN (rG (eZ Z (evI ?_))))
  refine eZ Z (oN (bN (tN (rG (eZ Z (evI ?_))))))
  refine eZ Z (oN ?_)
  refine lQ (_, _) ?_ ?_
  ·dsimp only
   exact ⟨by omega, by omega, by omega, by rw [he, heldI_at hi0 h1, if_pos (by assumption)]⟩
  ·(show Int.toNat _ < Int.toNat _); omega
 simp only [HS] at h1
 refine W_exit (tE (loopQ_e (inBlk_y (tN (sQ (rG (eK 2 Z (oN (tN (rT (eR ?_)))))))))))
 ·rw [he, drop_end h1]
  rfl
def heldSS : List (List Int) → Int → Int
 | [], k => k
 | l :: ll, k => if heldI l k < 0 then -1 else heldSS ll (heldI l k)
theorem heldSS_mk {α : Type} : ∀ (l : List (List α)) (k : Int), 0 ≤ k → heldSS (mkSS l k) k = k + l.flatten.length
 | [], k, _ => by simp [mkSS, heldSS]
 | l :: ll, k, h => by
  rw [mkSS, heldSS, heldI_mk, if_neg (by omega), heldSS_mk ll _ (by omega), List.flatten_cons, List.length_append]
  omega
theorem heldSS_at {l : List (List Int)} {i k : Int} (h0 : 0 ≤ i) (h1 : i < l.length) : heldSS (l.drop i.toNat) k = if heldI (l[i.toNat]'(by omega)) k < 0 then -1 else heldSS (l.drop (i + 1).toNat) (heldI (l[i.toNat]'(by omega)) k) := by
 rw [drop_at h0 h1, heldSS]
theorem heldI_le : ∀ (l : List Int) (k : Int), 0 ≤ k → heldI l k ≤ k + l.length
 | [], k, _ => by simp [heldI]
 | x :: l, k, h => by
  rw [heldI]
  split
  ·have := heldI_le l (k + 1) (by omega); rw [List.length_cons]; omega
  ·omega
theorem heldIntSS_fun (l : List (List Int)) (k : Int) (hk : 0 ≤ k) (hb : k + l.flatten.length ≤ 1073741824) (hl : l.length ≤ 1073741824) : Fun Try.prog 31 [.t (intss l), .t (.int k)] (tupD [.t (.int (heldSS l k))]) := by
 refine Fun.begin tys Try.func31 Z Z (N := 21) [(0, .t (intss l)), (1, .t (.int k))] Z Z (fun w0 G F0 => ?_)
 refine sQ (rG (eZ Z (oN (tN (sQ (sQ (rG (eZ Z (oN (tN (W_block ?_)))))))))))
 refine lK (α := Int × Int) [0] [] (fun x => [(5, .t (.int (x.1))), (1, .t (.int (x.2)))]) (fun x => []) (fun x => 0 ≤ (x.1) ∧ (x.1) ≤ l.length ∧ 0 ≤ (x.2) ∧ (x.2) + (l.drop (x.1).toNat).flatten.length ≤ 1073741824 ∧ heldSS l k = heldSS (l.drop (x.1).toNat) (x.2)) (fun x => Int.toNat (l.length - (x.1))) (0, k) ?_ (fun x hx => ?_)
 ·exact ⟨by omega, by omega, hk, by simpa using hb, rfl⟩
 obtain ⟨i, k'⟩ := x
 obtain ⟨hi0, hi1, hkk, hk', he⟩ := hx
 dsimp only at hi0 hi1 hkk hk' he ⊢
 refine nY Z (sQ (sQ (rG (eK 2 Z (evE ?_)))))
 refine eZ Z (oN (tN ?_))
 refine W_cond Z (fun h1 => ?_) (fun h1 => ?_)
 ·
  simp only [HS] at h1
  refine W_skip (tN (sQ (W_block (sQ (rG (eK 2 Z (WO_idxT tys Z Z (lt_of Z) Z Z Z Z Z Z Z (by omega) _ (getT _ _ (by omega) (by omega)) (eK 2 Z (kZ [0,1,5,6,7,8,9,12,13,14,15,16] Z (callB ?_))))))))))
  refine ⟨_, heldIntS_fun _ _ hkk (by rw [flat_at hi0 h1, List.length_append] at hk'; omega), rfl, ?_⟩
  refine eZ Z (oN (tN (sQ (rG (eK 2 Z (oN (tN ?_)))))))
  refine W_cond Z (fun h2 => ?_) (fun h2 => ?_)
  ·
   simp only [HS] at h2
   refine sQ (rG (eZ Z (oN (tN (rT (bR (tR (loopQ_r (bR (tR (eR ?_)))))))))))
   ·rw [he, heldSS_at hi0 h1, if_pos h2]
    done
  simp only [HS] at h2
  refine W_skip (bN (tN (rG (eZ Z (evI ?_)))))
  refine eZ Z (oN ?_)
  refine lQ (_, _) ?_ ?_
  ·dsimp only
   have q := heldI_le (l[i.toNat]'(by omega)) k' hkk; exact ⟨by omega, by omega, by omega, by rw [flat_at hi0 h1, List.length_append] at hk'; omega, by rw [he, heldSS_at hi0 h1, if_neg (by omega)]⟩
  ·(show Int.toNat _ < Int.toNat _); omega
 simp only [HS] at h1
 refine W_exit (tE (loopQ_e (inBlk_y (tN (sQ (rG (eK 2 Z (oN (tN (rT (eR ?_)))))))))))
 ·rw [he, drop_end h1]
  rfl
open Go.Eng
def mkL {α : Type} (mk : α → Int → α) (ct : α → Int) : List α → Int → List α
 | [], _ => []
 | x :: l, k => mk x k :: mkL mk ct l (k + ct x)
def ctL {α : Type} (ct : α → Int) (l : List α) : Int := (l.map ct).sum
section
variable {α : Type}
theorem mkL_len (mk : α → Int → α) (ct : α → Int) : ∀ (l : List α) (k : Int), (mkL mk ct l k).length = l.length
 | [], _ => rfl
 | _ :: l, k => by rw [mkL, List.length_cons, mkL_len mk ct l, List.length_cons]
theorem ctL_nil (ct : α → Int) : ctL ct [] = 0 := rfl
theorem ctL_cons (ct : α → Int) (x : α) (l : List α) : ctL ct (x :: l) = ct x + ctL ct l := by simp [ctL]
theorem ctL_at (ct : α → Int) {l : List α} {i : Int} (h0 : 0 ≤ i) (h1 : i < l.length) : ctL ct (l.drop i.toNat) = ct (l[i.toNat]'(by omega)) + ctL ct (l.drop (i + 1).toNat) := by
 rw [drop_at h0 h1, ctL_cons]
theorem ctL_take (ct : α → Int) {l : List α} {i : Int} (h0 : 0 ≤ i) (h1 : i < l.length) : ctL ct (l.take (i + 1).toNat) = ctL ct (l.take i.toNat) + ct (l[i.toNat]'(by omega)) := by
 unfold ctL; rw [take_at h0 h1, List.map_append, List.sum_append]; simp
theorem ctL_pos {ct : α → Int} {m : Int} (h : ∀ x, m ≤ ct x) (l : List α) (hm : 0 ≤ m := by decide) : 0 ≤ ctL ct l := by
 induction l with
 | nil => exact Int.le_refl 0
 | cons x l ih => have := h x; rw [ctL_cons]; omega
theorem ctL_len {ct : α → Int} (h : ∀ x, 1 ≤ ct x) (l : List α) : (l.length : Int) ≤ ctL ct l := by
 induction l with
 | nil => exact Int.le_refl 0
 | cons x l ih => have := h x; rw [ctL_cons, List.length_cons]; omega
theorem getMk (f : α → T) (mk : α → Int → α) (ct : α → Int) {l : List α} {k k' i : Int} (hk : k' = k + ctL ct (l.take i.toNat)) (h0 : 0 ≤ i) (h1 : i.toNat < l.length) : ((mkL mk ct l k).map f)[i.toNat]? = some (f (mk (l[i.toNat]) k')) := by
 rw [List.getElem?_map]
 have key : ∀ (l : List α) (k : Int) (n : Nat) (h : n < l.length), (mkL mk ct l k)[n]? = some (mk l[n] (k + ctL ct (l.take n))) := by
  intro l
  induction l with
  | nil => intro k n h; simp at h
  | cons x l ih =>
   intro k n h
   cases n with
   | zero => rw [mkL]; simp [ctL_nil]
   | succ n =>
    rw [mkL, List.getElem?_cons_succ, ih _ n (by simpa using h), List.getElem_cons_succ, List.take_succ_cons, ctL_cons]
    rw [Int.add_assoc]
 rw [key l k _ h1, ← hk]; rfl
theorem fget {D L : List α} {m f : Nat} (h : D.length = m) : (D ++ L)[m + f]? = L[f]? := by
 subst h; rw [List.getElem?_append_right (by omega)]; congr 1; omega
theorem fgetE {D L : List α} {m f : Nat} {y : α} (h : D.length = m) (e : L[f]? = some y) : (D ++ L)[m + f]? = some y := (fget h).trans e
theorem fset {D L : List α} {m f : Nat} {y : α} (h : D.length = m) : (D ++ L).set (m + f) y = D ++ L.set f y := by
 subst h; rw [List.set_append_right _ _ (by omega)]; congr 2; omega
theorem flat_lens {cl : α → List T} {n : Nat} (h : ∀ x, (cl x).length = n) (done : List α) {i : Int} (hd : done.length = i.toNat) : (done.flatMap cl).length = i.toNat * n := by
 rw [← hd]; clear hd
 induction done with
 | nil => simp
 | cons x l ih => rw [List.flatMap_cons, List.length_append, h, ih, List.length_cons, Nat.succ_mul]; omega
end
theorem heldIntS_mk {α : Type} (l : List α) (k : Int) (hk : 0 ≤ k) (hb : k + l.length ≤ 1073741824) : Fun Try.prog 61 [.t (T.ints (mkI l k)), .t (.int k)] (.t (.int (k + l.length))) := by
 rw [← heldI_mk l k]; exact heldIntS_fun _ k hk (by rw [mkI_len]; exact hb)
theorem heldIntSS_mk {α : Type} (l : List (List α)) (k : Int) (hk : 0 ≤ k) (hb : k + l.flatten.length ≤ 1073741824) (hl : l.length ≤ 1073741824) : Fun Try.prog 31 [.t (intss (mkSS l k)), .t (.int k)] (.t (.int (k + l.flatten.length))) := by
 rw [← heldSS_mk l k hk]; exact heldIntSS_fun _ k hk (by rw [mkSS_flat]; exact hb) (by rw [mkSS_len]; exact hl)
def SzC (f : Int → Int) (c : Int) : Prop := ∀ left : Int, 0 ≤ left → 0 ≤ f left → c + 8 * f left ≤ 8 * left
theorem szSeq_cn : SzC (szSeq []) 0 := fun left h0 h => by simp [szSeq]
theorem szSeq_cs {f : Int → Int} {fs : List (Int → Int)} {c d : Int} (h1 : SzC f c) (h2 : SzC (szSeq fs) d) : SzC (szSeq (f :: fs)) (c + d) := by
 intro left h0 h
 rw [szSeq] at h ⊢
 split at h
 ·omega
 ·rename_i hf
  rw [if_neg hf]
  have := h1 left h0 (by omega)
  have := h2 (f left) (by omega) h
  omega
theorem SzC.mono {f : Int → Int} {c d : Int} (h : SzC f c) (hd : d ≤ c) : SzC f d := fun left h0 hf => by have := h left h0 hf; omega
theorem szGo_cm {α : Type} {f : α → Int → Int} {ct : α → Int} : ∀ (l : List α), (∀ x, x ∈ l → SzC (f x) (ct x - 8)) → ∀ (left : Int), 0 ≤ left → 0 ≤ szGo f l left → ctL ct l - 8 * l.length + 8 * szGo f l left ≤ 8 * left
 | [], _, left, h0, _ => by simp [szGo, ctL]
 | x :: l, h, left, h0, hg => by
  rw [szGo] at hg ⊢
  split at hg
  ·omega
  ·rename_i hf
   rw [if_neg hf]
   have h1 := h x (List.mem_cons_self ..) left h0 (by omega)
   have h2 := szGo_cm l (fun y hy => h y (List.mem_cons_of_mem _ hy)) (f x left) (by omega) hg
   rw [ctL_cons, List.length_cons]
   omega
theorem szL_cm {α : Type} {f : α → Int → Int} {ct : α → Int} (l : List α) (h : ∀ x, x ∈ l → SzC (f x) (ct x - 8)) : SzC (szL f l) (ctL ct l) := by
 intro left h0 hg
 unfold szL at hg ⊢
 split at hg
 ·omega
 ·rename_i hf
  rw [if_neg hf]
  have := szGo_cm l h (left - l.length) (by omega) hg
  omega
theorem szL_c {α : Type} {f : α → Int → Int} {ct : α → Int} (h : ∀ x, SzC (f x) (ct x - 8)) (l : List α) : SzC (szL f l) (ctL ct l) := szL_cm l fun x _ => h x
end Go.Proofs.Ytbkamkmmljbedaa
