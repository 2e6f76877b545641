/- Sizes of good worlds; the law of DoMove. -/
import Derived.Test.YtbkamkmmljbedaaNd
set_option linter.unusedVariables false
set_option linter.unusedSimpArgs false
set_option maxRecDepth 10000
set_option maxHeartbeats 1000000
namespace Go.Proofs.Ytbkamkmmljbedaa
open Go.Eng
theorem ctL_bd {α : Type} {ct : α → Int} {b : Int} : ∀ {l : List α}, (∀ x, x ∈ l → ct x ≤ b) → ctL ct l ≤ b * l.length
 | [], _ => by simp [ctL]
 | x :: l, h => by
  have h1 := h x (by simp)
  have h2 := ctL_bd (ct := ct) (b := b) (l := l) fun y hy => h y (by simp [hy])
  rw [ctL_cons, List.length_cons, Int.natCast_add, Int.mul_add]
  simp only [Int.natCast_one, Int.mul_one]
  omega
theorem ct_case {b : Act} (h : b.cases = []) : ctAct b = 3 := by rw [ctAct_eq, h]; rfl
theorem good_act {w : World} (hg : goodWorld w = true) {t : Task} (ht : t ∈ w.tasks) {a : Act} (ha : a ∈ t.acts) : a.cases.length ≤ 3 := by
 have h9 := (gw_iff.1 hg).ts t ht
 unfold goodTask goodActs at h9
 simp only [Bool.and_eq_true, decide_eq_true_eq, List.all_eq_true] at h9
 have hga := h9.1.1 a ha
 unfold goodAct at hga
 split at hga
 ·simp only [Bool.and_eq_true, decide_eq_true_eq] at hga
  grind
 ·unfold plainAct at hga
  simp only [Bool.and_eq_true, decide_eq_true_eq] at hga
  grind
theorem ct_good_task {w : World} (hg : goodWorld w = true) {t : Task} (ht : t ∈ w.tasks) : ctTask t ≤ 75 := by
 have h6 := ((good_of hg).pos t ht).2.2
 have h := ctL_bd (ct := ctAct) (b := 12) (l := t.acts) fun a ha => by
  have h3 := good_act hg ht ha
  have hf := flat_good hg t ht a ha
  have := ctL_bd (ct := ctAct) (b := 3) (l := a.cases) fun b hb => by rw [ct_case (hf b hb)]; exact Int.le_refl 3
  rw [ctAct_eq]
  omega
 unfold ctTask
 omega
theorem flat_len {b : Nat} : ∀ {l : List (List Int)}, (∀ x, x ∈ l → x.length ≤ b) → l.flatten.length ≤ b * l.length
 | [], _ => by simp
 | x :: l, h => by
  have h1 := h x (by simp)
  have h2 := flat_len (l := l) fun y hy => h y (by simp [hy])
  rw [List.flatten_cons, List.length_append, List.length_cons, Nat.mul_add]
  omega
theorem good_held {w : World} (hg : goodWorld w = true) {x : List Int} (hx : x ∈ w.held) : x.length ≤ 3 := by
 have h := gw_iff.1 hg
 obtain ⟨k, hk, rfl⟩ := List.getElem_of_mem hx
 have hl := h.held
 have h1 := (h.hs k hk (by omega)).1
 have e2 := h.rooms
 rw [allIn, List.all_eq_true] at e2
 have e3 := e2 _ (List.getElem_mem (l := w.room) (n := k) (by omega))
 simp only [decide_eq_true_eq] at e3
 omega
theorem ct_good {w : World} (hg : goodWorld w = true) : ctWorld w ≤ 1000 := by
 have h := gw_iff.1 hg
 have h1 := ctL_bd (ct := ctTask) (b := 75) (l := w.tasks) fun t ht => ct_good_task hg ht
 have h2 := flat_len (b := 3) (l := w.held) fun x hx => good_held hg hx
 have h3 := h.room
 have h4 := h.held
 have h5 := h.shut
 have h6 := h.tasks
 have h7 := h.trace
 unfold ctWorld
 omega
theorem ok_good {w : World} (hg : goodWorld w = true) {B : Nat} (hB : 1000 ≤ B) : w.ok B := by
 have h := gw_iff.1 hg
 have h3 := h.room
 have h4 := h.held
 have h5 := h.shut
 have h6 := h.tasks
 have h7 := h.trace
 refine ⟨?_, ⟨?_, fun x hx => ?_⟩, ?_, ⟨?_, fun t ht => ⟨⟨?_, fun a ha => .of ⟨?_, fun b hb => .of ?_⟩⟩, trivial⟩⟩, ?_, trivial⟩
 ·show w.room.length ≤ B; omega
 ·show w.held.length ≤ B; omega
 ·show x.length ≤ B; have := good_held hg hx; omega
 ·show w.shut.length ≤ B; omega
 ·show w.tasks.length ≤ B; omega
 ·have := ((good_of hg).pos t ht).2.2; omega
 ·have := good_act hg ht ha; omega
 ·rw [flat_good hg t ht a ha b hb]; exact ⟨Nat.zero_le _, fun c hc => by cases hc⟩
 ·show w.trace.length ≤ B; omega
theorem dmR_good (w : World) (mv : List Int) : goodWorld (dmR w mv) = true ∨ dmR w mv = world0 := by
 unfold dmR
 split
 ·rename_i h
  unfold dmOk at h
  simp only [Bool.and_eq_true] at h
  exact .inl (good_doW h.1 (hasMv_ok h.2.1) h.2.2)
 ·exact .inr rfl
theorem ok_world0 {B : Nat} : world0.ok B := ⟨Nat.zero_le _, ⟨Nat.zero_le _, fun x hx => by cases hx⟩, Nat.zero_le _, ⟨Nat.zero_le _, fun x hx => by cases hx⟩, Nat.zero_le _, trivial⟩
theorem goz_ok {w : World} (h : goodWorld w = true ∨ w = world0) {B : Nat} (hB : 1000 ≤ B) : w.ok B := by
 rcases h with h | rfl
 ·exact ok_good h hB
 ·exact ok_world0
theorem goz_ct {w : World} (h : goodWorld w = true ∨ w = world0) : ctWorld w ≤ 1000 := by
 rcases h with h | rfl
 ·exact ct_good h
 ·decide
theorem eqIw_refl (l : List Int) : eqL eqI l l = true := eqL_refl eqI_refl l
theorem lawDo_fun (w : World) (mv : List Int) (hp : w.ok 9223372036854775807) (hl : mv.length ≤ 9223372036854775807) : Fun Try.prog 8 [.t w.tt, .t (T.ints mv)] (tupD [.t (.bool true)]) := by
 refine Fun.begin tys Try.func8 Z Z (N := 117) [(0, .t w.tt), (1, .t (T.ints mv))] Z Z (fun w0 G F0 => ?_)
 refine sQ (rG (WO_box Z Z (lt_of Z) Z Z (nZ Z (eZ Z (oN (tN (sQ (sQ (rG (eZ Z (evE ?_)))))))))))
 refine eZ Z (oN (tN ?_))
 refine W_cond Z (fun h1 => ?_) (fun h1 => ?_)
 ·
  simp only [HS] at h1
  refine sQ (rG (eZ Z (oN (tN (rT (tR (eR ?_)))))))
  ·rfl
 simp only [HS] at h1
 refine W_skip (tN (sQ (rG (eZ Z (oN (tN (sQ (rG (eZ Z ?_)))))))))
 try refine WO_le (Le.freeze (u := 20) rfl) ?_
 refine nZ Z (eZ Z (callB ?_))
 refine ⟨_, szWorld_fun w 1048576 hp (by omega) (by omega), rfl, ?_⟩
 refine kZ [1,2,4,5,22] Z (eZ Z (oN (tN (sQ (sQ (rG (eK 2 Z (oN (tN ?_)))))))))
 refine W_cond Z (fun h2 => ?_) (fun h2 => ?_)
 ·
  simp only [HS] at h2
  refine sQ (rG (eZ Z (oN (tN (rT (tR (eR ?_)))))))
  ·rfl
 simp only [HS] at h2
 refine W_skip (tN (sQ (rG ?_)))
 have okw := World.small h2
 have cw := ctWorld_small h2
 have cp := ctWorld_pos w
 have hhl : w.held.length ≤ 1048576 := okw.2.1.1
 have hz := dmR_good w mv
 have okr : (dmR w mv).ok 9223372036854775807 := goz_ok hz (by decide)
 have cr := goz_ct hz
 have crp := ctWorld_pos (dmR w mv)
 have hrl : (dmR w mv).held.length ≤ 1048576 := (goz_ok hz (B := 1048576) (by decide)).2.1.1
 refine eZ Z ?_
 try refine WO_le (Le.freeze (u := 26) rfl) ?_
 refine nZ Z (callB ?_)
 refine ⟨_, toWorld_fun w okw, rfl, ?_⟩
 refine WO_le (Le.freeze (u := 27) Z) (nZ Z (eZ Z (callB ?_)))
 refine ⟨_, toIntS_fun mv (by omega), rfl, ?_⟩
 refine WO_le (Le.freeze (u := 29) Z) (nZ Z (WO_callF Z Z (lt_of Z) Z Z Z Z Z (specDo_fun w mv okw (by omega)) Z (WO_moveAll Z Z (lt_of Z) (.inr Z) Z Z (kZ [1,2,4,25] Z (WO_extract Z Z (lt_of Z) Z Z Z Z ?_)))))
 first | refine WO_le (Le.adoptE (u := 31) 31 rfl (by first | exact lenN | exact rfl)) ?_ | skip
 refine nZ Z (WO_evF tys Z Z (lt_of Z) (d := .t _) Z (nZ Z (WO_alloc tys Z Z (lt_of Z) Z Z Z (nZ Z (sT Z (nZ Z (eZ Z (oN (tN (sQ (rG (eZ Z ?_))))))))))))
 try refine WO_le (Le.freeze (u := 33) rfl) ?_
 refine nZ Z (callB ?_)
 refine ⟨_, toWorld_fun w okw, rfl, ?_⟩
 refine WO_exposeB (u := 34) 34 Z Z (fun v34 hv34 => ?_)
 obtain ⟨a34_0, a34_1, a34_2, a34_3, a34_4, rfl⟩ : ∃ a34_0 a34_1 a34_2 a34_3 a34_4, v34 = [a34_0, a34_1, a34_2, a34_3, a34_4] := by
  match v34, hv34 with
  | [a34_0, a34_1, a34_2, a34_3, a34_4], _ => exact ⟨_, _, _, _, _, rfl⟩
 refine nZ Z (WO_alloc tys Z Z (lt_of Z) Z Z Z (nZ Z (sT Z (nZ Z (kZ [1,2,4,6,7,8] Z (oN (tN (sQ (rG (eZ Z (callB ?_)))))))))))
 refine ⟨_, toIntS_fun mv (by omega), rfl, ?_⟩
 refine WO_exposeS (u := 36) 36 Z (fun v36 => ?_)
 refine eZ Z (oN (tN (sQ (rG (eZ Z (nZ Z (eZ Z ?_)))))))
 refine WO_call Z Z (lt_of Z) Z Z (by refine ResL.rawA (id := 34) Z Z ?_; refine ResL.raw (id := 36) (j := 0) Z Z Z ?_; exact ResL.done) (implDo_fun w mv okw hp (by omega)) Z ?_
 refine WO_moveAll Z Z (lt_of Z) (.inr Z) Z Z (nZ Z (WO_extract Z Z (lt_of Z) Z Z Z Z ?_))
 refine WO_exposeB (u := 41) 41 Z Z (fun v41 hv41 => ?_)
 obtain ⟨a41_0, a41_1, a41_2, a41_3, a41_4, rfl⟩ : ∃ a41_0 a41_1 a41_2 a41_3 a41_4, v41 = [a41_0, a41_1, a41_2, a41_3, a41_4] := by
  match v41, hv41 with
  | [a41_0, a41_1, a41_2, a41_3, a41_4], _ => exact ⟨_, _, _, _, _, rfl⟩
 refine nZ Z (WO_evF tys Z Z (lt_of Z) (d := .t _) Z (nZ Z (kZ [1,2,4,6,7,8,9,41,42] Z (WO_alloc tys Z Z (lt_of Z) Z Z Z (nZ Z (sT Z (nZ Z (eZ Z (oN (tN (sQ (sQ (rG (eZ Z (nZ Z ?_)))))))))))))))
 refine eZ Z ?_
 try refine WO_le (Le.freeze (u := 44) rfl) ?_
 refine nZ Z ?_
 refine WO_call Z Z (lt_of Z) Z Z (by refine ResL.rawA (id := 41) Z Z ?_; (first | refine ResL.t ?_ | refine ResL.own ?_ | refine ResL.aggT (by repeat (first | exact ResL.done | refine ResL.own ?_ | refine ResL.t ?_)) ?_ | refine ResL.slA Z (by first | rfl | (simp; done) | (simp; omega)) ?_ | refine ResL.nil' ?_); exact ResL.done) (eqWorld_fun (dmR w mv) (dmR w mv) okr okr) Z ?_
 refine WO_le (Le.known (t := 45) true Z (eqWorld_refl _)) (eK 2 Z (gY Z (eZ Z (kZ [1,2,4,6,7,8,9,10,11,47,48] Z (gY Z (eZ Z (gY Z (eZ Z (WO_le (Le.known (t := 50) false Z (by simp)) ?_)))))))))
 refine eZ Z (oN (tN (W_condF Z (W_skip (tN (sQ (sQ (W_regionD mixed (by kernel_rfl) (evQ ?_)))))))))
 refine QL_evZ tys Z Z (lt_of Z) Z Z (callBQ ?_)
 refine ⟨_, toWorld_fun w okw, rfl, ?_⟩
 refine QL_norm Z ?_
 refine QL_call Z Z (lt_of Z) Z Z (by refine ResL.rawA (id := 34) Z Z ?_; (first | refine ResL.t ?_ | refine ResL.own ?_ | refine ResL.aggT (by repeat (first | exact ResL.done | refine ResL.own ?_ | refine ResL.t ?_)) ?_ | refine ResL.slA Z (by first | rfl | (simp; done) | (simp; omega)) ?_ | refine ResL.nil' ?_); exact ResL.done) (eqWorld_fun w w hp hp) Z ?_
 refine QL_known (v := true) (eqWorld_refl _) (evQ ?_)
 refine QL_nil (tN (W_condF Z (W_skip (tN (sQ (sQ (rG (eK 2 Z (callB ?_)))))))))
 refine ⟨_, toIntS_fun mv (by omega), rfl, ?_⟩
 refine WO_le (Le.freeze (u := 59) Z) (nZ Z ?_)
 refine WO_call Z Z (lt_of Z) Z Z (by refine ResL.raw (id := 36) (j := 0) Z Z Z ?_; (first | refine ResL.t ?_ | refine ResL.own ?_ | refine ResL.aggT (by repeat (first | exact ResL.done | refine ResL.own ?_ | refine ResL.t ?_)) ?_ | refine ResL.slA Z (by first | rfl | (simp; done) | (simp; omega)) ?_ | refine ResL.nil' ?_); exact ResL.done) (eqIntS_fun mv mv (by omega) (by omega)) Z ?_
 refine WO_le (Le.known (t := 60) true Z (eqIw_refl _)) (eZ Z (oN (tN (W_condF Z (W_skip (tN (sQ (kY [1,2,4,6,7,8,9,10,11] Z (rG (eZ Z (oN (tN (sQ (rG (eZ Z ?_)))))))))))))))
 refine nZ Z (eZ Z (WO_markS (id := 34) Z Z (lt_of Z) Z Z Z Z Z (markWorld_m w 1 (by omega) (by omega) (by omega)) (nZ Z (eZ Z (oN (tN (sQ (rG (eK 2 Z (WO_markN (id := 36) (j := 0) Z Z (lt_of Z) Z Z Z Z Z Z Z Z (markIntS_m mv (1 + ctWorld w) (by omega) (by omega)) (nZ Z (eZ Z (kZ [1,2,4,6,7,10,11,12] Z (oN (tN ?_)))))))))))))))
 refine sQ (sQ (rG (eK 2 Z (WO_le (Le.known (t := 69) false Z (by simp; omega)) ?_))))
 refine eZ Z (gY Z (eZ Z (nZ Z (gY Z (eZ Z ?_)))))
 try refine WO_le (Le.freeze (u := 72) rfl) ?_
 refine nZ Z (gY Z ?_)
 refine WO_call Z Z (lt_of Z) Z Z (by refine ResL.rawA (id := 41) Z Z ?_; (first | refine ResL.t ?_ | refine ResL.own ?_ | refine ResL.aggT (by repeat (first | exact ResL.done | refine ResL.own ?_ | refine ResL.t ?_)) ?_ | refine ResL.slA Z (by first | rfl | (simp; done) | (simp; omega)) ?_ | refine ResL.nil' ?_); exact ResL.done) (eqWorld_fun (dmR w mv) (dmR w mv) okr okr) Z ?_
 refine WO_le (Le.known (t := 73) true Z (eqWorld_refl _)) (gY Z (eK 3 Z (kZ [1,2,4,6,7,10,11,76] Z (gY Z (eZ Z (gY Z (eZ Z (gY Z (eZ Z (WO_le (Le.known (t := 79) false Z (by simp)) ?_))))))))))
 refine eZ Z (oN (tN (W_condF Z (W_skip (tN (sQ (rG (eZ Z (oN (tN (sQ (rG (eZ Z (nZ Z (eZ Z ?_)))))))))))))))
 refine WO_markS (id := 41) Z Z (lt_of Z) Z Z Z Z Z (markWorld_m (dmR w mv) 1 (by omega) (by omega) (by omega)) (nZ Z (eZ Z (kZ [1,2,4,6,7,10,13] Z (oN (tN (sQ (rG (eZ Z (oN (tN (sQ (rG (eZ Z (nZ Z (eZ Z ?_)))))))))))))))
 refine WO_call Z Z (lt_of Z) Z Z (by refine ResL.rawA (id := 41) Z Z ?_; (first | refine ResL.t ?_ | refine ResL.own ?_ | refine ResL.aggT (by repeat (first | exact ResL.done | refine ResL.own ?_ | refine ResL.t ?_)) ?_ | refine ResL.slA Z (by first | rfl | (simp; done) | (simp; omega)) ?_ | refine ResL.nil' ?_); exact ResL.done) (heldWorld_mk (dmR w mv) 1 (by omega) (by omega) (by omega)) Z ?_
 refine eZ Z (oN (tN (sQ (sQ (rG (eK 2 Z (WO_le (Le.known (t := 88) false Z (by simp; omega)) ?_)))))))
 refine oN (tN (W_condF Z (W_skip (tN (sQ (sQ (kY [1,2,4,6,7,10,13,14] Z (rG (eK 3 Z (WO_le (Le.known (t := 91) false Z (by simp)) ?_))))))))))
 refine oN (tN (W_condF Z (W_skip (tN (sQ (rG (eZ Z ?_)))))))
 try refine WO_le (Le.freeze (u := 93) rfl) ?_
 refine nZ Z (callB ?_)
 refine ⟨_, toWorld_fun w okw, rfl, ?_⟩
 refine WO_le (Le.freeze (u := 94) Z) (nZ Z (eZ Z (callB ?_)))
 refine ⟨_, toIntS_fun mv (by omega), rfl, ?_⟩
 refine WO_le (Le.freeze (u := 96) Z) (nZ Z (callB ?_))
 refine ⟨_, implDo_fun w mv okw hp (by omega), rfl, ?_⟩
 refine WO_moveAll Z Z (lt_of Z) (.inr Z) Z Z (kZ [4,6,7,10,13,14,92] Z (WO_extract Z Z (lt_of Z) Z Z Z Z ?_))
 first | refine WO_le (Le.adoptE (u := 98) 98 rfl (by first | exact lenN | exact rfl)) ?_ | skip
 refine nZ Z (WO_evF tys Z Z (lt_of Z) (d := .t _) Z (nZ Z (WO_alloc tys Z Z (lt_of Z) Z Z Z (nZ Z (sT Z (nZ Z (eZ Z (oN (tN (sQ (sQ (rG (WO_loadMove tys Z Z (lt_of Z) Z Z Z Z Z Z (nZ Z (eZ Z ?_)))))))))))))))
 try refine WO_le (Le.freeze (u := 101) rfl) ?_
 refine nZ Z (callB ?_)
 refine ⟨_, eqWorld_fun (dmR w mv) (dmR w mv) okr okr, rfl, ?_⟩
 refine WO_le (Le.known (t := 102) true Z (eqWorld_refl _)) (eZ Z (kZ [4,7,10,13,14,16,103] Z (eZ Z (gY Z (eZ Z (gY Z (eZ Z (gY Z (eZ Z (WO_le (Le.known (t := 107) false Z (by simp)) ?_))))))))))
 refine eZ Z (oN (tN (W_condF Z (W_skip (tN (sQ (rG (eZ Z (oN (tN (sQ (rG (eZ Z (nZ Z (eZ Z ?_)))))))))))))))
 refine WO_call Z Z (lt_of Z) Z Z (by refine ResL.rawA (id := 41) Z Z ?_; (first | refine ResL.t ?_ | refine ResL.own ?_ | refine ResL.aggT (by repeat (first | exact ResL.done | refine ResL.own ?_ | refine ResL.t ?_)) ?_ | refine ResL.slA Z (by first | rfl | (simp; done) | (simp; omega)) ?_ | refine ResL.nil' ?_); exact ResL.done) (heldWorld_mk (dmR w mv) 1 (by omega) (by omega) (by omega)) Z ?_
 refine kZ [4,13,14,111] Z (eZ Z (oN (tN (sQ (sQ (rG (eK 2 Z (WO_le (Le.known (t := 113) false Z (by simp; omega)) ?_))))))))
 refine oN (tN (W_condF Z (W_skip (tN (sQ (sQ (rG (eK 3 Z (WO_le (Le.known (t := 116) false Z (by simp)) ?_)))))))))
 refine oN (tN (W_condF Z (W_skip (tN (sQ (rG (eZ Z (oN (tN (rT (eR ?_)))))))))))
 ·rfl
end Go.Proofs.Ytbkamkmmljbedaa
