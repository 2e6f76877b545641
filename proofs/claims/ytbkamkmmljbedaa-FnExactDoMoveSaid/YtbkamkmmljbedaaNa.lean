/- Walks and laws of the claim. -/
import Derived.Test.YtbkamkmmljbedaaFm
import Derived.Test.YtbkamkmmljbedaaFa
import Derived.Test.YtbkamkmmljbedaaMd
import Derived.Test.YtbkamkmmljbedaaMe
set_option linter.unusedVariables false
set_option linter.unusedSimpArgs false
set_option maxRecDepth 10000
set_option maxHeartbeats 4000000
namespace Go.Proofs.Ytbkamkmmljbedaa
open Go.Eng
open Go.Eng
def task0 : Task := ⟨[], 0, 0, 0⟩
def act0 : Act := .mk 0 0 0 []
def tk (w : World) (i : Int) : Task := at0 task0 w.tasks i
def advT (t : Task) : Task := { t with pos := t.pos + 1, state := if t.pos + 1 = t.acts.length then 1 else t.state }
def setT (w : World) (i : Int) (t : Task) : World := { w with tasks := w.tasks.set i.toNat t }
def advW (w : World) (i : Int) : World := setT w i (advT (tk w i))
def actOf (w : World) (mv : List Int) : Act := at0 act0 (ways (tk w (at0 0 mv 0))) (at0 0 mv 1)
def doW (w : World) (mv : List Int) : World :=
 if (actOf w mv).kind = 3 then advW { w with trace := w.trace ++ [(tk w (at0 0 mv 0)).last] } (at0 0 mv 0)
 else if ((actOf w mv).kind = 5 ∨ (actOf w mv).kind = 1) ∧ at0 false w.shut (actOf w mv).chan = true then setT w (at0 0 mv 0) { tk w (at0 0 mv 0) with state := 2 }
 else if (actOf w mv).kind = 5 then advW { w with shut := w.shut.set (actOf w mv).chan.toNat true } (at0 0 mv 0)
 else if (actOf w mv).kind = 1 ∧ 0 ≤ at0 0 mv 2 then advW (advW (setT w (at0 0 mv 2) { tk w (at0 0 mv 2) with last := (actOf w mv).n }) (at0 0 mv 2)) (at0 0 mv 0)
 else if (actOf w mv).kind = 1 then advW { w with held := w.held.set (actOf w mv).chan.toNat (at0 [] w.held (actOf w mv).chan ++ [(actOf w mv).n]) } (at0 0 mv 0)
 else if 0 < (at0 [] w.held (actOf w mv).chan).length then
  advW { setT w (at0 0 mv 0) { tk w (at0 0 mv 0) with last := at0 0 (at0 [] w.held (actOf w mv).chan) 0 } with held := w.held.set (actOf w mv).chan.toNat ((at0 [] w.held (actOf w mv).chan).drop 1) } (at0 0 mv 0)
 else advW (setT w (at0 0 mv 0) { tk w (at0 0 mv 0) with last := 0 }) (at0 0 mv 0)
def doOk (w : World) (mv : List Int) : Bool := decide ((doW w mv).trace.length ≤ 120)
structure MvOk (w : World) (mv : List Int) : Prop where
 len : mv.length = 4
 i0 : 0 ≤ at0 0 mv 0
 i1 : at0 0 mv 0 < w.tasks.length
 k0 : 0 ≤ at0 0 mv 1
 k1 : at0 0 mv 1 < (ways (tk w (at0 0 mv 0))).length
 j : (at0 0 mv 2 = -1 ∧ alone w (actOf w mv) = true) ∨ ((0 ≤ at0 0 mv 2 ∧ at0 0 mv 2 < w.tasks.length) ∧ (¬ at0 0 mv 0 = at0 0 mv 2) ∧ 0 < (ways (tk w (at0 0 mv 2))).length)
section
variable {w : World} {i k : Int} {a : Act}
def AllOk (w : World) (acc : List (List Int)) : Prop := ∀ x, x ∈ acc → MvOk w x
theorem AllOk.add {acc : List (List Int)} (h : AllOk w acc) {x : List Int} (hx : MvOk w x) : AllOk w (acc ++ [x]) := fun y hy => by
 rcases List.mem_append.1 hy with hy | hy
 ·exact h y hy
 ·rw [List.mem_singleton] at hy; subst hy; exact hx
theorem mvOk_of (h0 : 0 ≤ i) (h1 : i < w.tasks.length) (h2 : 0 ≤ k) (h3 : k < (ways (tk w i)).length) {j m : Int} (hj : (j = -1 ∧ alone w (at0 act0 (ways (tk w i)) k) = true) ∨ ((0 ≤ j ∧ j < w.tasks.length) ∧ (¬ i = j) ∧ 0 < (ways (tk w j)).length)) : MvOk w [i, k, j, m] :=
 ⟨rfl, h0, h1, h2, h3, hj⟩
theorem mvB_ok (h0 : 0 ≤ i) (h1 : i < w.tasks.length) (h2 : 0 ≤ k) (h3 : k < (ways (tk w i)).length) {j : Int} (hj0 : 0 ≤ j) (hj1 : j < w.tasks.length) : ∀ (l : List Act) (m : Int) {acc : List (List Int)}, l.length ≤ (ways (tk w j)).length → AllOk w acc → AllOk w (mvB i k a j l m acc)
 | [], _, _, _, h => h
 | b :: l, m, acc, hl, h => by
  rw [List.length_cons] at hl
  rw [mvB]
  refine mvB_ok h0 h1 h2 h3 hj0 hj1 l (m + 1) (by omega) ?_
  split
  ·rename_i hc
   exact h.add (mvOk_of h0 h1 h2 h3 (.inr ⟨⟨hj0, hj1⟩, hc.1, by omega⟩))
  ·exact h
theorem mvU_ok (h0 : 0 ≤ i) (h1 : i < w.tasks.length) (h2 : 0 ≤ k) (h3 : k < (ways (tk w i)).length) : ∀ (l : List Task) (j : Int) {acc : List (List Int)}, 0 ≤ j → l = w.tasks.drop j.toNat → AllOk w acc → AllOk w (mvU i k a l j acc)
 | [], _, _, _, _, h => h
 | u :: l, j, acc, hj, he, h => by
  have hl := congrArg List.length he
  rw [List.length_cons, List.length_drop] at hl
  have h6 := drop_at (l := w.tasks) hj (by omega)
  rw [← he] at h6
  have hb : tk w j = u := by
   rw [tk, at0_of hj (by omega)]
   exact (List.cons.inj h6).1.symm
  rw [mvU]
  exact mvU_ok h0 h1 h2 h3 l (j + 1) (by omega) (List.cons.inj h6).2 (mvB_ok h0 h1 h2 h3 hj (by omega) _ _ (by rw [hb]; exact Nat.le_refl _) h)
theorem mvA_ok (h0 : 0 ≤ i) (h1 : i < w.tasks.length) : ∀ (l : List Act) (k : Int) {acc : List (List Int)}, 0 ≤ k → l = (ways (tk w i)).drop k.toNat → AllOk w acc → AllOk w (mvA w i l k acc)
 | [], _, _, _, _, h => h
 | b :: l, k, acc, hk, he, h => by
  have hl := congrArg List.length he
  rw [List.length_cons, List.length_drop] at hl
  have h6 := drop_at (l := ways (tk w i)) hk (by omega)
  rw [← he] at h6
  have hb : at0 act0 (ways (tk w i)) k = b := by
   rw [at0_of hk (by omega)]
   exact (List.cons.inj h6).1.symm
  rw [mvA]
  refine mvA_ok h0 h1 l (k + 1) (by omega) (List.cons.inj h6).2 ?_
  have h5 : AllOk w (if alone w b then acc ++ [[i, k, -1, 0]] else acc) := by
   split
   ·rename_i ha
    exact h.add (mvOk_of h0 h1 hk (by omega) (.inl ⟨rfl, by rw [hb]; exact ha⟩))
   ·exact h
  split
  ·exact mvU_ok h0 h1 hk (by omega) w.tasks 0 (by omega) rfl h5
  ·exact h5
theorem mvT_ok : ∀ (l : List Task) (i : Int) {acc : List (List Int)}, 0 ≤ i → l = w.tasks.drop i.toNat → AllOk w acc → AllOk w (mvT w l i acc)
 | [], _, _, _, _, h => h
 | t :: l, i, acc, hi, hl, h => by
  have hlen := congrArg List.length hl
  rw [List.length_cons, List.length_drop] at hlen
  have ht : tk w i = t := by
   have h5 := drop_at (l := w.tasks) hi (by omega)
   rw [← hl] at h5
   rw [tk, at0_of hi (by omega)]
   exact (List.cons.inj h5).1.symm
  rw [mvT]
  refine mvT_ok l (i + 1) (by omega) ?_ (mvA_ok hi (by omega) (ways t) 0 (by omega) (by rw [ht]; rfl) h)
  have h5 := drop_at (l := w.tasks) hi (by omega)
  rw [← hl] at h5
  exact (List.cons.inj h5).2
theorem moves_ok {mv : List Int} (h : mv ∈ movesOf w) : MvOk w mv := mvT_ok w.tasks 0 (by omega) rfl (fun x hx => by cases hx) mv h
end
theorem goodAct_ways {w : World} (hg : goodWorld w = true) {t : Task} (ht : t ∈ w.tasks) {a : Act} (ha : a ∈ ways t) : (a.kind = 1 ∨ a.kind = 2 ∨ a.kind = 3 ∨ a.kind = 5) ∧ (0 ≤ a.chan ∧ a.chan < w.room.length) ∧ inNum a.n = true ∧ t.state = 0 ∧ (0 ≤ t.pos ∧ t.pos < t.acts.length) := by
 have hgo := good_of hg
 have h9 : goodTask w.room.length t = true := by
  unfold goodWorld at hg
  simp only [Bool.and_eq_true, List.all_eq_true] at hg
  exact hg.2.2.2.2.2.2.2.2 t ht
 unfold goodTask goodActs at h9
 simp only [Bool.and_eq_true, decide_eq_true_eq, List.all_eq_true] at h9
 have hs : t.state = 0 := Classical.byContradiction fun h => by unfold ways at ha; rw [if_neg h] at ha; cases ha
 have hp := hgo.pos t ht
 have hp1 := hp.2.1 hs
 have hch := (hgo.ways t ht).2 a ha
 refine ⟨?_, hch, ?_, hs, hp.1, hp1⟩
 all_goals
  rw [ways_at hs hp.1 hp1] at ha
  have hga := h9.1.1 _ (List.getElem_mem (l := t.acts) (n := t.pos.toNat) (by omega))
  unfold goodAct at hga
  split at ha
  ·rename_i hk
   rw [if_pos hk] at hga
   simp only [Bool.and_eq_true, List.all_eq_true] at hga
   have := hga.1 a ha
   unfold caseAct plainAct at this
   simp only [Bool.and_eq_true, decide_eq_true_eq] at this
   grind [inNum]
  ·rename_i hk
   rw [if_neg hk] at hga
   rw [List.mem_singleton] at ha
   subst ha
   unfold plainAct at hga
   simp only [Bool.and_eq_true, decide_eq_true_eq] at hga
   grind [inNum]
theorem heldGo_iff : ∀ {hs : List (List Int)} {rs : List Int}, heldGo hs rs = true ↔ ∀ (k : Nat) (h1 : k < hs.length) (h2 : k < rs.length), ((hs[k].length : Int) ≤ rs[k]) ∧ allIn hs[k] (-1000) 1000 = true
 | [], _ => by simp [heldGo]
 | _ :: _, [] => by simp [heldGo]
 | l :: hs, r :: rs => by
  rw [heldGo, Bool.and_eq_true, Bool.and_eq_true, decide_eq_true_eq, heldGo_iff]
  constructor
  ·rintro ⟨a, b, h⟩ k h1 h2
   cases k with
   | zero => exact ⟨a, b⟩
   | succ k => exact h k (by simpa using h1) (by simpa using h2)
  ·intro h
   refine ⟨(h 0 (by simp) (by simp)).1, (h 0 (by simp) (by simp)).2, fun k h1 h2 => ?_⟩
   exact h (k + 1) (by simpa using h1) (by simpa using h2)
structure GW (w : World) : Prop where
 room : (1 : Int) ≤ w.room.length ∧ (w.room.length : Int) ≤ 3
 held : (w.held.length : Int) = w.room.length
 shut : (w.shut.length : Int) = w.room.length
 rooms : allIn w.room 0 3 = true
 tasks : (1 : Int) ≤ w.tasks.length ∧ (w.tasks.length : Int) ≤ 4
 trace : (w.trace.length : Int) ≤ 120
 tr : allIn w.trace (-1000) 1000 = true
 hs : ∀ (k : Nat) (h1 : k < w.held.length) (h2 : k < w.room.length), ((w.held[k].length : Int) ≤ w.room[k]) ∧ allIn w.held[k] (-1000) 1000 = true
 ts : ∀ t, t ∈ w.tasks → goodTask w.room.length t = true
theorem gw_iff {w : World} : goodWorld w = true ↔ GW w := by
 unfold goodWorld
 simp only [Bool.and_eq_true, decide_eq_true_eq, List.all_eq_true, heldGo_iff]
 exact ⟨fun ⟨a, b, d, e, f, g, h, i, j⟩ => ⟨a, b, d, e, f, g, h, i, j⟩, fun h => ⟨h.1, h.2, h.3, h.4, h.5, h.6, h.7, h.8, h.9⟩⟩
theorem gw_set {w : World} (h : GW w) {i : Int} {t : Task} (ht : goodTask w.room.length t = true) : GW (setT w i t) :=
 { h with
  tasks := by have e : (setT w i t).tasks.length = w.tasks.length := List.length_set; rw [e]; exact h.tasks
  ts := fun u hu => by
   rcases List.mem_or_eq_of_mem_set hu with hu | rfl
   ·exact h.ts u hu
   ·exact ht }
theorem tk_set {w : World} {i j : Int} {t : Task} (h0 : 0 ≤ i) (h1 : i < w.tasks.length) (hj : 0 ≤ j) : tk (setT w i t) j = if j = i then t else tk w j := by
 unfold tk setT at0
 by_cases e : j = i
 ·subst e; rw [if_pos rfl]; simp only; rw [List.getElem?_set_self (by omega)]; rfl
 ·rw [if_neg e]; simp only; rw [List.getElem?_set_ne (by omega)]
theorem tk_mem {w : World} {i : Int} (h0 : 0 ≤ i) (h1 : i < w.tasks.length) : tk w i ∈ w.tasks := by
 rw [tk, at0_of h0 h1]; exact List.getElem_mem _
theorem good_advT {c : Int} {t : Task} (h : goodTask c t = true) (hs : t.state = 0) (hp : t.pos < t.acts.length) : goodTask c (advT t) = true := by
 unfold goodTask at h ⊢
 simp only [Bool.and_eq_true, decide_eq_true_eq] at h ⊢
 obtain ⟨a, b, d, e, f⟩ := h
 unfold advT
 refine ⟨a, by simp only; omega, ?_, e, ?_⟩ <;> simp only <;> split <;> omega
theorem good_stT {c : Int} {t : Task} (h : goodTask c t = true) (hp : t.pos < t.acts.length) : goodTask c { t with state := 2 } = true := by
 unfold goodTask at h ⊢
 simp only [Bool.and_eq_true, decide_eq_true_eq] at h ⊢
 obtain ⟨a, b, d, e, f⟩ := h
 exact ⟨a, b, by omega, e, by omega⟩
theorem good_laT {c : Int} {t : Task} (h : goodTask c t = true) {n : Int} (hn : inNum n = true) : goodTask c { t with last := n } = true := by
 unfold goodTask at h ⊢
 simp only [Bool.and_eq_true, decide_eq_true_eq] at h ⊢
 obtain ⟨a, b, d, e, f⟩ := h
 exact ⟨a, b, d, hn, f⟩
theorem gw_adv {w : World} (h : GW w) {i : Int} (h0 : 0 ≤ i) (h1 : i < w.tasks.length) (hs : (tk w i).state = 0) (hp : (tk w i).pos < (tk w i).acts.length) : GW (advW w i) :=
 gw_set h (good_advT (h.ts _ (tk_mem h0 h1)) hs hp)
theorem gw_held {w : World} (h : GW w) {c : Int} (hc0 : 0 ≤ c) (hc1 : c < w.room.length) {v : List Int} (hv : (v.length : Int) ≤ at0 0 w.room c) (hva : allIn v (-1000) 1000 = true) : GW { w with held := w.held.set c.toNat v } :=
 { h with
  held := by show ((w.held.set c.toNat v).length : Int) = _; rw [List.length_set]; exact h.held
  hs := fun k h1 h2 => by
   have h3 : k < w.held.length := by have : k < (w.held.set c.toNat v).length := h1; rwa [List.length_set] at this
   show (((w.held.set c.toNat v)[k]'h1).length : Int) ≤ w.room[k]'h2 ∧ allIn ((w.held.set c.toNat v)[k]'h1) (-1000) 1000 = true
   rw [List.getElem_set]
   split
   ·rename_i e
    subst e
    rw [at0_of hc0 hc1] at hv
    exact ⟨hv, hva⟩
   ·exact h.hs k h3 h2 }
theorem gw_shut {w : World} (h : GW w) {l : List Bool} (hl : l.length = w.shut.length) : GW { w with shut := l } :=
 { h with shut := by show (l.length : Int) = _; rw [hl]; exact h.shut }
theorem gw_trace {w : World} (h : GW w) {l : List Int} (hl : (l.length : Int) ≤ 120) (ha : allIn l (-1000) 1000 = true) : GW { w with trace := l } :=
 { h with trace := hl, tr := ha }
theorem allIn_add {l : List Int} {n lo hi : Int} (h : allIn l lo hi = true) (hn : lo ≤ n ∧ n ≤ hi) : allIn (l ++ [n]) lo hi = true := by
 unfold allIn at h ⊢
 rw [List.all_append, h]
 simp [hn]
theorem allIn_drop {l : List Int} {k : Nat} {lo hi : Int} (h : allIn l lo hi = true) : allIn (l.drop k) lo hi = true := by
 unfold allIn at h ⊢
 rw [List.all_eq_true] at h ⊢
 exact fun x hx => h x (List.mem_of_mem_drop hx)
theorem inNum_iff {n : Int} : inNum n = true ↔ -1000 ≤ n ∧ n ≤ 1000 := by unfold inNum; rw [decide_eq_true_eq]
theorem gw_hold {w : World} (h : GW w) {c : Int} (hc0 : 0 ≤ c) (hc1 : c < w.room.length) : ((at0 [] w.held c).length : Int) ≤ at0 0 w.room c ∧ allIn (at0 [] w.held c) (-1000) 1000 = true := by
 have e := h.held
 rw [at0_of hc0 (by omega), at0_of hc0 hc1]
 exact h.hs c.toNat (by omega) (by omega)
theorem good_doW {w : World} {mv : List Int} (hg : goodWorld w = true) (hm : MvOk w mv) (hd : doOk w mv = true) : goodWorld (doW w mv) = true := by
 rw [gw_iff]
 have h := gw_iff.1 hg
 have hat : actOf w mv ∈ ways (tk w (at0 0 mv 0)) := by rw [actOf, at0_of hm.k0 hm.k1]; exact List.getElem_mem _
 have htm := tk_mem hm.i0 hm.i1
 obtain ⟨hk, hch, hn, hst, hp⟩ := goodAct_ways hg htm hat
 have hla : inNum (tk w (at0 0 mv 0)).last = true := by
  have := h.ts _ htm
  unfold goodTask at this
  simp only [Bool.and_eq_true] at this
  exact this.2.2.2.1
 rw [inNum_iff] at hn hla
 have hho := gw_hold h hch.1 hch.2
 have hdd : (doW w mv).trace.length ≤ 120 := of_decide_eq_true hd
 have hj := hm.j
 have hi0 := hm.i0
 have hi1 := hm.i1
 unfold doW at hdd ⊢
 generalize hA : actOf w mv = A at *
 generalize hI : at0 0 mv 0 = I at *
 generalize hJ : at0 0 mv 2 = J at *
 split
 ·rename_i h3
  rw [if_pos h3] at hdd
  have hlen : (w.trace ++ [(tk w I).last]).length ≤ 120 := hdd
  exact gw_adv (gw_trace h (by omega) (allIn_add h.tr hla)) hi0 hi1 hst hp.2
 ·split
  ·exact gw_set h (good_stT (h.ts _ htm) hp.2)
  ·split
   ·exact gw_adv (gw_shut h List.length_set) hi0 hi1 hst hp.2
   ·split
    ·rename_i hs5
     obtain ⟨hj1, hj2, hj3⟩ := hj.resolve_left (by omega)
     have hjm := tk_mem hj1.1 hj1.2
     have hjs : (tk w J).state = 0 := Classical.byContradiction fun hx => by unfold ways at hj3; rw [if_neg hx] at hj3; simp at hj3
     have hjp := (good_of hg).pos _ hjm
     have g1 : GW (setT w J { tk w J with last := A.n }) := gw_set h (good_laT (h.ts _ hjm) (inNum_iff.2 hn))
     have e1 : tk (setT w J { tk w J with last := A.n }) J = { tk w J with last := A.n } := by rw [tk_set hj1.1 hj1.2 hj1.1, if_pos rfl]
     have l1 : ∀ (w : World) (i : Int) (t : Task), (setT w i t).tasks.length = w.tasks.length := fun w i t => List.length_set
     have g2 : GW (advW (setT w J { tk w J with last := A.n }) J) := gw_adv g1 hj1.1 (by rw [l1]; exact hj1.2) (by rw [e1]; exact hjs) (by rw [e1]; exact hjp.2.1 hjs)
     have e2 : tk (advW (setT w J { tk w J with last := A.n }) J) I = tk w I := by
      rw [advW, tk_set hj1.1 (by rw [l1]; exact hj1.2) hi0, if_neg hj2, tk_set hj1.1 hj1.2 hi0, if_neg hj2]
     exact gw_adv g2 hi0 (by rw [advW, l1, l1]; exact hi1) (by rw [e2]; exact hst) (by rw [e2]; exact hp.2)
    ·split
     ·rename_i hns hk1
      have hal : alone w A = true := (hj.resolve_right (by omega)).2
      have hsh : ¬ at0 false w.shut A.chan = true := by grind
      have hroom : ((at0 [] w.held A.chan).length : Int) < at0 0 w.room A.chan := by
       unfold alone at hal
       rw [if_pos hk1] at hal
       simp only [Bool.or_eq_true, decide_eq_true_eq] at hal
       exact hal.resolve_left hsh
      exact gw_adv (gw_held h hch.1 hch.2 (by simp; omega) (allIn_add hho.2 hn)) hi0 hi1 hst hp.2
     ·split
      ·rename_i hh
       have hn0 : inNum (at0 0 (at0 [] w.held A.chan) 0) = true := by
        have h5 := hho.2
        unfold allIn at h5
        rw [List.all_eq_true] at h5
        have h6 := h5 _ (List.getElem_mem (l := at0 [] w.held A.chan) (n := 0) hh)
        rw [at0_of (by omega) (by omega)]
        exact inNum_iff.2 (of_decide_eq_true h6)
       have g1 : GW (setT w I { tk w I with last := at0 0 (at0 [] w.held A.chan) 0 }) := gw_set h (good_laT (h.ts _ htm) hn0)
       have e1 : tk (setT w I { tk w I with last := at0 0 (at0 [] w.held A.chan) 0 }) I = { tk w I with last := at0 0 (at0 [] w.held A.chan) 0 } := by rw [tk_set hi0 hi1 hi0, if_pos rfl]
       have l1 : (setT w I { tk w I with last := at0 0 (at0 [] w.held A.chan) 0 }).tasks.length = w.tasks.length := List.length_set
       refine gw_adv (w := { setT w I { tk w I with last := at0 0 (at0 [] w.held A.chan) 0 } with held := w.held.set A.chan.toNat ((at0 [] w.held A.chan).drop 1) }) (gw_held g1 hch.1 hch.2 ?_ (allIn_drop hho.2)) hi0 (by show I < ((setT w I _).tasks.length : Int); rw [l1]; exact hi1) ?_ ?_
       ·rw [List.length_drop]; show _ ≤ at0 0 w.room A.chan; omega
       ·show (tk (setT w I _) I).state = 0
        rw [e1]; exact hst
       ·show (tk (setT w I _) I).pos < (tk (setT w I _) I).acts.length
        rw [e1]; exact hp.2
      ·have g1 : GW (setT w I { tk w I with last := 0 }) := gw_set h (good_laT (h.ts _ htm) rfl)
       have e1 : tk (setT w I { tk w I with last := 0 }) I = { tk w I with last := 0 } := by rw [tk_set hi0 hi1 hi0, if_pos rfl]
       have l1 : (setT w I { tk w I with last := 0 }).tasks.length = w.tasks.length := List.length_set
       exact gw_adv g1 hi0 (by rw [l1]; exact hi1) (by rw [e1]; exact hst) (by rw [e1]; exact hp.2)
open Go.Eng
theorem readIz (l : List Int) : ∀ x, x ∈ l.map T.int → (T.cells x).length = 1 ∧ ∀ y, y ∈ T.cells x → ∃ v, y = .v v := by
 intro x hx
 obtain ⟨n, _, rfl⟩ := List.mem_map.1 hx
 exact ⟨rfl, fun y hy => by simp [T.cells] at hy; exact ⟨_, hy⟩⟩
theorem readBz (l : List Bool) : ∀ x, x ∈ l.map T.bool → (T.cells x).length = 1 ∧ ∀ y, y ∈ T.cells x → ∃ v, y = .v v := by
 intro x hx
 obtain ⟨n, _, rfl⟩ := List.mem_map.1 hx
 exact ⟨rfl, fun y hy => by simp [T.cells] at hy; exact ⟨_, hy⟩⟩
theorem cloneI_fun (l : List Int) (hl : l.length ≤ 1073741824) : Fun Try.prog 99 [.t (T.ints l)] (tupD [.own (T.ints l)]) := by
 refine Fun.begin tys Try.func99 Z Z (N := 8) [(0, .t (T.ints l))] Z Z (fun w0 G F0 => ?_)
 refine sQ (rG (eZ Z (oN (tN (sQ (sQ (rG (eZ Z ?_))))))))
 refine WO_nilEq (e := 3) Z Z (lt_of Z) Z (by kernel_rfl) Z Z (fun b hb => ?_)
 refine oN (tN ?_)
 refine W_cond Z (fun h1 => ?_) (fun h1 => ?_)
 ·
  refine sQ (rG (eZ Z (oN (tN (W_le (Le.nilOwn (u := 2) 1 Z) (rT (tR (eR ?_))))))))
  ·have e := List.map_eq_nil_iff.1 (hb h1)
   rw [e]
   rfl
 refine W_skip (tN (sQ (rG ?_)))
 refine WO_buildSlice tys [] Z Z (lt_of Z) Z Z Z Z Z (by decide) (by repeat (first | exact PartsOk.nil' | refine PartsOk.cons' rfl (by repeat (first | exact AbsL.nil' | refine AbsL.v' ?_ | refine AbsL.own' ?_ | refine AbsL.none' ?_)) Z ?_)) (by first | exact List.nodup_nil | exact nodup1 _ | decide | exact nodupB_sound Z) Z (by decide) ?_
 refine nZ Z (eZ Z (WO_append tys Z Z (lt_of Z) Z Z Z Z Z (.own Z (by first | omega | (simp only [List.length_append]; omega))) Z (.read (readIz _)) (by decide) (by simp; omega) (by decide) Z ?_))
 refine nZ Z (eZ Z (oN (tN (W_le (Le.gather (u := 2) (id := 5) Z Z (by simp)) ?_))))
 refine rT (eR ?_)
 ·show [D.own (.list 1 _)] = [D.own (.list 1 _)]
  simp only [List.take_length, List.nil_append, List.length_map]
  rw [List.take_of_length_le (by simp)]
theorem cloneB_fun (l : List Bool) (hl : l.length ≤ 1073741824) : Fun Try.prog 109 [.t (T.bools l)] (tupD [.own (T.bools l)]) := by
 refine Fun.begin tys Try.func109 Z Z (N := 8) [(0, .t (T.bools l))] Z Z (fun w0 G F0 => ?_)
 refine sQ (rG (eZ Z (oN (tN (sQ (sQ (rG (eZ Z ?_))))))))
 refine WO_nilEq (e := 4) Z Z (lt_of Z) Z (by kernel_rfl) Z Z (fun b hb => ?_)
 refine oN (tN ?_)
 refine W_cond Z (fun h1 => ?_) (fun h1 => ?_)
 ·
  refine sQ (rG (eZ Z (oN (tN (W_le (Le.nilOwn (u := 2) 1 Z) (rT (tR (eR ?_))))))))
  ·have e := List.map_eq_nil_iff.1 (hb h1)
   rw [e]
   rfl
 refine W_skip (tN (sQ (rG ?_)))
 refine WO_buildSlice tys [] Z Z (lt_of Z) Z Z Z Z Z (by decide) (by repeat (first | exact PartsOk.nil' | refine PartsOk.cons' rfl (by repeat (first | exact AbsL.nil' | refine AbsL.v' ?_ | refine AbsL.own' ?_ | refine AbsL.none' ?_)) Z ?_)) (by first | exact List.nodup_nil | exact nodup1 _ | decide | exact nodupB_sound Z) Z (by decide) ?_
 refine nZ Z (eZ Z (WO_append tys Z Z (lt_of Z) Z Z Z Z Z (.own Z (by first | omega | (simp only [List.length_append]; omega))) Z (.read (readBz _)) (by decide) (by simp; omega) (by decide) Z ?_))
 refine nZ Z (eZ Z (oN (tN (W_le (Le.gather (u := 2) (id := 5) Z Z (by simp)) ?_))))
 refine rT (eR ?_)
 ·show [D.own (.list 1 _)] = [D.own (.list 1 _)]
  simp only [List.take_length, List.nil_append, List.length_map]
  rw [List.take_of_length_le (by simp)]
def toldA (C : List (Act × List Value)) : List T := C.map fun c => .agg (c.2.map T.v)
theorem toldA_flat (C : List (Act × List Value)) : (toldA C).flatMap T.cells = (C.flatMap (·.2)).map T.v := by
 unfold toldA; rw [List.flatMap_map, List.map_flatMap]; rfl
theorem toldA_len (C : List (Act × List Value)) : (toldA C).length = C.length := List.length_map ..
theorem toldA_read {C : List (Act × List Value)} (h : ∀ c, c ∈ C → c.2.length = 4) : ∀ x, x ∈ toldA C → (T.cells x).length = 4 ∧ ∀ y, y ∈ T.cells x → ∃ v, y = .v v := by
 intro x hx
 obtain ⟨c, hc, rfl⟩ := List.mem_map.1 hx
 refine ⟨by show (c.2.map T.v).length = 4; rw [List.length_map, h c hc], fun y hy => ?_⟩
 obtain ⟨v, _, rfl⟩ := List.mem_map.1 hy
 exact ⟨v, rfl⟩
theorem mapAt' {α β : Type} {f : α → β} {l : List α} {k : Nat} {x : α} (h : l[k]? = some x) : (l.map f)[k]? = some (f x) := by rw [List.getElem?_map, h]; rfl
theorem cellsA (l : List Act) : ∀ x, x ∈ l.map Act.toT → (T.cells x).length = 4 := by
 intro x hx; obtain ⟨a, _, rfl⟩ := List.mem_map.1 hx; rw [Act.toT_eq]; rfl
theorem cloneAv_fun (ys : List T) (hl : ys.length ≤ 1073741824) (hr : ∀ x, x ∈ ys → (T.cells x).length = 4 ∧ ∀ y, y ∈ T.cells x → ∃ v, y = .v v) : Fun Try.prog 100 [.t (.list 4 ys)] (tupD [.own (.list 4 ys)]) := by
 refine Fun.begin tys Try.func100 Z Z (N := 8) [(0, .t (.list 4 ys))] Z Z (fun w0 G F0 => ?_)
 refine sQ (rG (eZ Z (oN (tN (sQ (sQ (rG (eZ Z ?_))))))))
 refine WO_nilEq (e := 98) Z Z (lt_of Z) Z (by kernel_rfl) Z Z (fun b hb => ?_)
 refine oN (tN ?_)
 refine W_cond Z (fun h1 => ?_) (fun h1 => ?_)
 ·
  refine sQ (rG (eZ Z (oN (tN (W_le (Le.nilOwn (u := 2) 4 Z) (rT (tR (eR ?_))))))))
  ·rw [hb h1]
   done
 refine W_skip (tN (sQ (rG ?_)))
 refine WO_buildSlice tys [] Z Z (lt_of Z) Z Z Z Z Z (by decide) (by repeat (first | exact PartsOk.nil' | refine PartsOk.cons' rfl (by repeat (first | exact AbsL.nil' | refine AbsL.v' ?_ | refine AbsL.own' ?_ | refine AbsL.none' ?_)) Z ?_)) (by first | exact List.nodup_nil | exact nodup1 _ | decide | exact nodupB_sound Z) Z (by decide) ?_
 refine nZ Z (eZ Z (WO_append tys Z Z (lt_of Z) Z Z Z Z Z (.own Z (by first | omega | (simp only [List.length_append]; omega))) Z (.read hr) (by decide) (by simp; omega) (by decide) Z ?_))
 refine nZ Z (eZ Z (oN (tN (W_le (Le.gather (u := 2) (id := 5) Z Z (by simp)) ?_))))
 refine rT (eR ?_)
 ·show [D.own (.list 4 _)] = [D.own (.list 4 _)]
  simp
  done
theorem snd_at {n : Nat} : ∀ {C : List (Act × List Value)} (h : ∀ c, c ∈ C → c.2.length = n) {k j : Nat} (hk : k < C.length), j < n → (C.flatMap (·.2))[k * n + j]? = (C[k]).2[j]?
 | [], _, k, _, hk, _ => by simp at hk
 | c :: C, h, 0, j, hk, hj => by
  have := h c (by simp)
  rw [List.flatMap_cons, Nat.zero_mul, Nat.zero_add, List.getElem?_append_left (by omega)]
  rfl
 | c :: C, h, k + 1, j, hk, hj => by
  have hc := h c (by simp)
  rw [List.flatMap_cons, List.getElem?_append_right (by rw [hc, Nat.succ_mul]; omega)]
  have := snd_at (C := C) (fun d hd => h d (by simp [hd])) (k := k) (j := j) (by simpa using hk) hj
  rw [hc, show (k + 1) * n + j - n = k * n + j from by rw [Nat.succ_mul]; omega, this]
  rfl
theorem mixA_at {α : Type} {f : α → T} {l : List α} {ys : List T} {k : Nat} (hk : k ≤ l.length) : ((l.take k).map f ++ ys.drop k)[0 + k]? = ys[k]? := by
 rw [List.getElem?_append_right (by simp; omega)]
 simp [Nat.min_eq_left hk]
theorem mixA_set {α : Type} {f : α → T} {l : List α} {ys : List T} {k : Nat} (hk : k < l.length) (hy : k < ys.length) {t : T} (ht : t = f l[k]) : ((l.take k).map f ++ ys.drop k).set (0 + k) t = (l.take (k + 1)).map f ++ ys.drop (k + 1) := by
 subst ht
 rw [List.set_append_right _ _ (by simp; omega), List.take_succ_eq_append_getElem hk, List.map_append]
 simp [Nat.min_eq_left (Nat.le_of_lt hk)]
 rw [List.drop_eq_getElem_cons hy]
 rfl
theorem cloneActs_rec (l : List Act) (hl : l.length ≤ 1048576) (ih : ∀ a, a ∈ l → Fun Try.prog 101 [.t (T.Acts a.cases)] (tupD [.own (T.Acts a.cases)])) : Fun Try.prog 101 [.t (T.Acts l)] (tupD [.own (T.Acts l)]) := by
  refine Fun.begin tys Try.func101 Z Z (N := 24) [(0, .t (T.Acts l))] Z Z (fun w0 G F0 => ?_)
  refine sQ ?_
  refine W_tellL (u := 0) 101 Z (fun vs hvs => ?_)
  obtain ⟨C, hC1, hC2, rfl⟩ := cutV (l := l) (vs := vs) (n := 4) (by rw [hvs, List.length_map])
  have hCl : C.length = l.length := by rw [← hC1, List.length_map]
  refine ⟨toldA C, toldA_flat C, by rw [toldA_len, List.length_map, hCl], fun y hy => (toldA_read hC2 y hy).1, ?_⟩
  refine nY Z (rG (eZ Z (oN (tN (sQ (rG (eZ Z (callB ?_))))))))
  refine ⟨_, cloneAv_fun _ (by rw [toldA_len]; omega) (toldA_read hC2), rfl, ?_⟩
  refine WO_le (Le.adoptE (u := 7) 7 Z (by first | exact lenN | exact Z)) ?_
  refine nZ Z (eZ Z (oN (tN (sQ (sQ (rG (eZ Z (evE ?_))))))))
  refine eZ Z (oN (tN (W_block ?_)))
  refine lK (α := Int × List T) [3, 8, 9] [101] (fun x => [(10, .t (.int (x.1)))]) (fun x => [(7, .L 4 (x.2))]) (fun x => 0 ≤ (x.1) ∧ (x.1) ≤ l.length ∧ (x.2) = (l.take (x.1).toNat).map Act.toT ++ (toldA C).drop (x.1).toNat) (fun x => Int.toNat (l.length - (x.1))) (0, toldA C) ?_ (fun x hx => ?_)
  · exact ⟨by omega, by omega, rfl⟩
  obtain ⟨k, zs⟩ := x
  obtain ⟨hk0, hk1, hzs⟩ := hx
  dsimp only at hk0 hk1 hzs ⊢
  refine nY Z (sQ (rG (eZ Z (oN (tN (sQ ?_))))))
  refine W_cond Z (fun h1 => ?_) (fun h1 => ?_)
  ·
    simp only [HS] at h1
    refine W_skip (tN (sQ (W_block (sQ (rG (eZ Z ?_))))))
    have hkl : k.toNat < C.length := by omega
    have hlk : k.toNat < l.length := by omega
    obtain ⟨v0, v1, v2, v3, hv⟩ : ∃ v0 v1 v2 v3, (C[k.toNat]'hkl).2 = [v0, v1, v2, v3] := by
     have h4 := hC2 _ (List.getElem_mem hkl)
     match (C[k.toNat]'hkl).2, h4 with
     | [v0, v1, v2, v3], _ => exact ⟨_, _, _, _, rfl⟩
    have hy : zs[0 + k.toNat]? = some (.agg [.v v0, .v v1, .v v2, .v v3]) := by rw [hzs, mixA_at (by omega), toldA, List.getElem?_map, List.getElem?_eq_getElem hkl]; simp [hv]
    have hcv : ∀ j (hj : j < 4), (C.flatMap (·.2))[k.toNat * 4 + j]? = [v0, v1, v2, v3][j]? := fun j hj => by rw [snd_at hC2 hkl hj, hv]
    have hct : ∀ j (hj : j < 4), ((l.map Act.toT).flatMap T.cells)[k.toNat * 4 + j]? = (T.cells (l[k.toNat]).tt)[j]? := fun j hj => by rw [flat_atc (cellsA l) (mapAt' (List.getElem?_eq_getElem hlk)) hj, Act.toT_eq]
    refine WO_roTold 101 (k.toNat * 4 + 0) Z (x := .int .i64 (l[k.toNat]).kind) (by rw [hct 0 (by decide)]; rfl) (hcv 0 (by decide)) (fun e0 => ?_)
    refine WO_roTold 101 (k.toNat * 4 + 1) Z (x := .int .i64 (l[k.toNat]).chan) (by rw [hct 1 (by decide)]; rfl) (hcv 1 (by decide)) (fun e1 => ?_)
    refine WO_roTold 101 (k.toNat * 4 + 2) Z (x := .int .i64 (l[k.toNat]).n) (by rw [hct 2 (by decide)]; rfl) (hcv 2 (by decide)) (fun e2 => ?_)
    subst e0 e1 e2
    refine WO_idxS tys Z Z (lt_of Z) Z Z Z Z Z Z Z Z (by omega) (by omega) (WO_loadL tys Z Z (lt_of Z) Z Z Z Z (hy) Z (nZ Z (WO_alloc tys Z Z (lt_of Z) Z Z Z (nZ Z (eZ Z (sT Z (nZ Z (oN (tN (kY [3,4,5,8,9,10,11,12,13,14] Z (rG (eK 4 Z (nZ Z (WO_le (Le.roUntell (u := 18) 101 (k.toNat * 4 + 3) Z Z (hcv 3 (by decide)) (by rw [hct 3 (by decide)]; rfl)) ?_))))))))))))))
    refine nZ Z (callB ?_)
    refine ⟨_, ih _ (List.getElem_mem (show k.toNat < l.length by omega)), rfl, ?_⟩
    refine nZ Z (WO_idxS tys Z Z (lt_of Z) Z Z Z Z Z Z Z Z (by omega) (by omega) (eZ Z (WO_storeL tys [T.Acts (l[k.toNat]).cases] Z Z Z Z Z Z hy Z (AbsL.own' AbsL.nil') Z (Nat.le_of_ble_eq_true Z) (Nat.le_of_ble_eq_true Z) (nZ Z (oN (bN (tN (kY [3,4,5,8,9,10,11,12,13,14,15,16,17,18,19,20,21] Z (rG (evI ?_))))))))))
    refine eZ Z (oN ?_)
    refine lQ (_, _) ?_ ?_
    · dsimp only
      rw [show (k + 1).toNat = k.toNat + 1 from by omega]
      refine ⟨by omega, by omega, ?_⟩
      rw [hzs]
      exact mixA_set hlk (by rw [toldA_len]; exact hkl) (Act.toT_eq _).symm
    · (show Int.toNat _ < Int.toNat _); omega
  simp only [HS] at h1
  refine W_exit (tE (loopQ_e (inBlk_y (tN (sQ (rG (eK 2 Z (oN (tN (W_le (Le.gather (u := 2) (id := 7) Z Z (by rw [hzs]; simp [toldA_len]; omega)) ?_))))))))))
  refine rT (eR ?_)
  · (rw [hzs, List.drop_eq_nil_of_le (by rw [toldA_len]; omega), List.append_nil, take_end (by omega), List.take_of_length_le (by simp; omega)])
    all_goals rfl
theorem cloneActs_of (a : Act) : a.ok 1048576 → Fun Try.prog 101 [.t (T.Acts a.cases)] (tupD [.own (T.Acts a.cases)]) :=
 Act.ind (p := fun a => a.ok 1048576 → Fun Try.prog 101 [.t (T.Acts a.cases)] (tupD [.own (T.Acts a.cases)])) (fun a ih h => cloneActs_rec a.cases h.cases'.1 fun b hb => ih b hb (h.cases'.2 b hb)) a
theorem cloneActs_fun (l : List Act) (h : okL 1048576 (Act.ok 1048576) l) : Fun Try.prog 101 [.t (T.Acts l)] (tupD [.own (T.Acts l)]) :=
 cloneActs_rec l h.1 fun a ha => cloneActs_of a (h.2 a ha)
theorem cloneWorld_fun (w : World) (hw : w.ok 1048576) : Fun Try.prog 74 [.t w.tt] (tupD [.agg [.own (T.ints w.room), .own (intss w.held), .own (T.bools w.shut), .own (T.Tasks w.tasks), .own (T.ints w.trace)]]) := by
 have hw1 : w.room.length ≤ 1048576 := hw.1
 have hw2 : w.held.length ≤ 1048576 := hw.2.1.1
 have hw3 : w.shut.length ≤ 1048576 := hw.2.2.1
 have hw4 : w.tasks.length ≤ 1048576 := hw.2.2.2.1.1
 have hw5 : w.trace.length ≤ 1048576 := hw.2.2.2.2.1
 refine Fun.begin tys Try.func74 Z Z (N := 52) [(0, .t w.tt)] Z Z (fun w0 G F0 => ?_)
 refine sQ (rG (WO_box Z Z (lt_of Z) Z Z (nZ Z (WO_alloc tys Z Z (lt_of Z) Z Z Z (nZ Z (oN (tN (sQ (W_regionGm 11 mixed Z (by kernel_rfl) (by kernel_rfl) (QG_ev tys Z Z (lt_of Z) Z (QG_ev tys Z Z (lt_of Z) Z (callBG ?_))))))))))))
 refine ⟨_, cloneI_fun w.room (by omega), rfl, ?_⟩
 refine QG_ev tys Z Z (lt_of Z) Z (QG_norm Z (QG_ev tys Z Z (lt_of Z) Z (callBG ?_)))
 refine ⟨_, cloneB_fun w.shut (by omega), rfl, ?_⟩
 refine QG_ev tys Z Z (lt_of Z) Z (QG_ev tys Z Z (lt_of Z) Z (callBG ?_))
 refine ⟨_, cloneI_fun w.trace (by omega), rfl, ?_⟩
 refine QG_struct tys Z Z (lt_of Z) Z Z Z (by kernel_rfl) Z Z Z Z Z Z (QG_norm Z (QG_alloc tys Z Z (lt_of Z) Z Z Z Z (QG_nil ?_)))
 refine ⟨by kernel_rfl, ?_⟩
 refine nZ Z (sT Z (nZ Z (oN (tN (sQ (sQ (rG (nZ Z (WO_le (Le.nilBox (u := 3) (j := 1) 1 Z Z) (nZ Z (WO_le (Le.adoptBox (u := 3) (j := 1) (id := 191) Z Z Z) (nZ Z (eK 2 Z (evE ?_))))))))))))))
 refine eZ Z (oN (tN (W_block ?_)))
 refine lK (α := Int × Nat × List T) [1, 2, 3, 19, 20] [1, 2] (fun x => [(21, .t (.int (x.1)))]) (fun x => [(3, .box [.own (T.ints w.room), .sl 191 0 (x.2.1), .own (T.bools w.shut), .nil, .own (T.ints w.trace)]), (191, .L 1 (x.2.2))]) (fun x => 0 ≤ (x.1) ∧ (x.1) ≤ w.held.length ∧ (x.2.1) = (x.2.2).length ∧ (x.2.2) = (w.held.take (x.1).toNat).map T.ints) (fun x => Int.toNat (w.held.length - (x.1))) (0, 0, []) ?_ (fun x hx => ?_)
 ·exact ⟨by omega, by omega, rfl, rfl⟩
 obtain ⟨k, m, xs⟩ := x
 obtain ⟨hk0, hk1, hm, hxs⟩ := hx
 dsimp only at hk0 hk1 hm hxs ⊢
 refine nY Z (sQ (rG (eZ Z (oN (tN (sQ ?_))))))
 refine W_cond Z (fun h1 => ?_) (fun h1 => ?_)
 ·
  simp only [HS] at h1
  refine W_skip (tN (sQ (W_block (sQ (rG (WO_idxT tys Z Z (lt_of Z) Z Z Z Z Z Z Z (by omega) _ (getT _ _ (by omega) (by omega)) (eK 2 Z (oN (tN (W_regionGm 5 mixed Z (by kernel_rfl) (by kernel_rfl) (QG_ev tys Z Z (lt_of Z) Z (QG_ev tys Z Z (lt_of Z) Z (QG_norm Z (QG_ev tys Z Z (lt_of Z) Z (callBG ?_)))))))))))))))
  refine ⟨_, cloneI_fun (w.held[k.toNat]'(by omega)) (by have : (w.held[k.toNat]'(by omega)).length ≤ 1048576 := hw.2.1.2 _ (List.getElem_mem _); omega), rfl, ?_⟩
  refine QG_buildS tys [T.ints (w.held[k.toNat]'(by omega))] Z Z (lt_of Z) Z Z Z Z Z (lt_of Z) (by repeat (first | exact PartsOk.nil' | refine PartsOk.cons' rfl (by repeat (first | exact AbsL.nil' | refine AbsL.v' ?_ | refine AbsL.own' ?_ | refine AbsL.none' ?_)) Z ?_)) Z Z Z (by decide) ?_
  refine QG_nil ?_
  refine ⟨by kernel_rfl, ?_⟩
  refine nZ Z (WO_le (Le.adoptE (u := 29) 29 Z Z) (nZ Z (WO_append tys Z Z (lt_of Z) Z Z Z Z Z (.own Z (by first | omega | (simp only [List.length_append]; omega))) Z (.own Z (by first | decide | omega)) (by decide) (by simp only [List.length_take, List.length_cons, List.length_nil]; rw [hxs, List.length_map, List.length_take]; omega) (by decide) Z ?_)))
  refine nZ Z (eZ Z (sT Z (nZ Z (oN (bN (tN (rG (evI ?_))))))))
  refine eZ Z (oN ?_)
  refine lQ (_, _, _) ?_ ?_
  ·dsimp only
   subst hm
   refine ⟨by omega, by omega, by simp, ?_⟩
   rw [List.take_length, hxs, take_at hk0 (by omega), List.map_append]
   rfl
  ·(show Int.toNat _ < Int.toNat _); omega
 simp only [HS] at h1
 refine W_exit (tE (loopQ_e (inBlk_y (tN (sQ (sQ (rG (nZ Z (WO_le (Le.gatherBox (u := 3) (j := 1) (id := 191) Z Z Z (by omega) Z) (nZ Z (WO_le (Le.nilBox (u := 3) (j := 3) 4 Z Z) (nZ Z (WO_le (Le.adoptBox (u := 3) (j := 3) (id := 192) Z Z Z) (nZ Z (eK 2 Z ?_)))))))))))))))
 refine evE ?_
 refine eZ Z (oN (tN (W_block ?_)))
 refine lK (α := Int × Nat × List T) [2, 3, 34, 35] [2] (fun x => [(36, .t (.int (x.1)))]) (fun x => [(3, .box [.own (T.ints w.room), .own (.list 1 (xs.take m)), .own (T.bools w.shut), .sl 192 0 (x.2.1), .own (T.ints w.trace)]), (192, .L 4 (x.2.2))]) (fun x => 0 ≤ (x.1) ∧ (x.1) ≤ w.tasks.length ∧ (x.2.1) = (x.2.2).length ∧ (x.2.2) = (w.tasks.take (x.1).toNat).map Task.tt) (fun x => Int.toNat (w.tasks.length - (x.1))) (0, 0, []) ?_ (fun x hx => ?_)
 ·exact ⟨by omega, by omega, rfl, rfl⟩
 obtain ⟨i, m2, ys⟩ := x
 obtain ⟨hi0, hi1, hm2, hys⟩ := hx
 dsimp only at hi0 hi1 hm2 hys ⊢
 refine nY Z (sQ (rG (eZ Z (oN (tN (sQ ?_))))))
 refine W_cond Z (fun h2 => ?_) (fun h2 => ?_)
 ·
  simp only [HS] at h2
  refine W_skip (tN (sQ (W_block (sQ (rG (WO_idxT tys Z Z (lt_of Z) Z Z Z Z Z Z Z (by omega) _ (getT _ _ (by omega) (by omega)) (eZ Z ?_)))))))
  try refine WO_le (Le.freeze (u := 39) rfl) ?_
  refine nZ Z (WO_alloc tys Z Z (lt_of Z) Z Z Z (nZ Z (sT Z (nZ Z (oN (tN (sQ (rG (eK 2 Z (callB ?_))))))))))
  refine ⟨_, cloneActs_fun (w.tasks[i.toNat]'(by omega)).acts (hw.2.2.2.1.2 _ (List.getElem_mem (show i.toNat < w.tasks.length by omega))).1, rfl, ?_⟩
  refine eZ Z (kZ [2,3,7,34,35,36,37,38,39,40,41,42,43] Z (sT Z (nZ Z (oN (tN (rG (eK 2 Z (WO_loadMove tys Z Z (lt_of Z) Z Z Z Z Z Z (nZ Z ?_)))))))))
  refine WO_buildSlice tys [(w.tasks[i.toNat]'(by omega)).tt] Z Z (lt_of Z) Z Z Z Z Z (lt_of Z) (by repeat (first | exact PartsOk.nil' | refine PartsOk.cons' rfl (by repeat (first | exact AbsL.nil' | refine AbsL.v' ?_ | refine AbsL.own' ?_ | refine AbsL.none' ?_)) Z ?_)) (by first | exact List.nodup_nil | exact nodup1 _ | decide | exact nodupB_sound Z) Z (by decide) ?_
  refine nZ Z (WO_append tys Z Z (lt_of Z) Z Z Z Z Z (.own Z (by first | omega | (simp only [List.length_append]; omega))) Z (.own Z (by first | decide | omega)) (by decide) (by simp only [List.length_take, List.length_cons, List.length_nil]; rw [hys, List.length_map, List.length_take]; omega) (by decide) Z ?_)
  refine nZ Z (eZ Z (sT Z (nZ Z (oN (bN (tN (kY [2,3,7,34,35,36,37,38,39,40,41,42,43,44,45,46,47,48,49] Z (rG (evI ?_)))))))))
  refine eZ Z (oN ?_)
  refine lQ (_, _, _) ?_ ?_
  ·dsimp only
   subst hm2
   refine ⟨by omega, by omega, by simp, ?_⟩
   rw [List.take_length, hys, take_at hi0 (by omega), List.map_append]
   rfl
  ·(show Int.toNat _ < Int.toNat _); omega
 simp only [HS] at h2
 refine W_exit (tE (loopQ_e (inBlk_y (tN (sQ (rG (nZ Z (WO_le (Le.gatherBox (u := 3) (j := 3) (id := 192) Z Z Z (by omega) Z) (nZ Z (WO_loadMove tys Z Z (lt_of Z) Z Z Z Z Z Z (nZ Z (sT Z (nZ Z (oN (tN ?_)))))))))))))))
 refine rT (eR ?_)
 ·rw [hm2, List.take_length, hys, take_end (by omega), hm, List.take_length, hxs, take_end (by omega)]
  all_goals rfl
open Go.Eng
abbrev TC := (Option Addr × Nat) × Task
def tcW (c : TC) : List Value := [.slice c.1.1 c.2.acts.length c.1.2, .int .i64 c.2.pos, .int .i64 c.2.state, .int .i64 c.2.last]
def tcT (c : TC) : List T := [T.Acts c.2.acts, T.int c.2.pos, T.int c.2.state, T.int c.2.last]
def tcsW (C : List TC) : List Value := C.flatMap tcW
def tcsT (C : List TC) : List T := C.flatMap tcT
section
variable {α : Type} {f : TC → List α} {C : List TC} {c c' : TC} {i j : Nat} {y : α}
theorem tcs_at (hf : ∀ c, (f c).length = 4) : ∀ {C : List TC} {i : Nat}, C[i]? = some c → j < 4 → (C.flatMap f)[i * 4 + j]? = (f c)[j]?
 | [], _, h, _ => by simp at h
 | d :: C, 0, h, hj => by
  simp at h; subst h
  rw [List.flatMap_cons, Nat.zero_mul, Nat.zero_add, List.getElem?_append_left (by rw [hf]; exact hj)]
 | d :: C, i + 1, h, hj => by
  rw [List.flatMap_cons, List.getElem?_append_right (by rw [hf]; omega), hf, show (i + 1) * 4 + j - 4 = i * 4 + j from by omega]
  exact tcs_at hf (by simpa using h) hj
theorem tcs_set (hf : ∀ c, (f c).length = 4) (hy : f c' = (f c).set j y) : ∀ {C : List TC} {i : Nat}, C[i]? = some c → j < 4 → (C.flatMap f).set (i * 4 + j) y = (C.set i c').flatMap f
 | [], _, h, _ => by simp at h
 | d :: C, 0, h, hj => by
  simp at h; subst h
  rw [List.flatMap_cons, Nat.zero_mul, Nat.zero_add, List.set_append_left _ _ (by rw [hf]; exact hj), List.set_cons_zero, List.flatMap_cons, hy]
 | d :: C, i + 1, h, hj => by
  rw [List.flatMap_cons, List.set_append_right _ _ (by rw [hf]; omega), hf, show (i + 1) * 4 + j - 4 = i * 4 + j from by omega, tcs_set hf hy (by simpa using h) hj, List.set_cons_succ, List.flatMap_cons]
theorem tcW_at (hc : C[i]? = some c) (hj : j < 4) : (tcsW C)[i * 4 + j]? = (tcW c)[j]? := tcs_at (fun _ => rfl) hc hj
theorem tcT_at (hc : C[i]? = some c) (hj : j < 4) : (tcsT C)[i * 4 + j]? = (tcT c)[j]? := tcs_at (fun _ => rfl) hc hj
theorem tcW_set {u : Value} (hc : C[i]? = some c) (hj : j < 4) (h : tcW c' = (tcW c).set j u) : (tcsW C).set (i * 4 + j) u = tcsW (C.set i c') := tcs_set (fun _ => rfl) h hc hj
theorem tcT_set {u : T} (hc : C[i]? = some c) (hj : j < 4) (h : tcT c' = (tcT c).set j u) : (tcsT C).set (i * 4 + j) u = tcsT (C.set i c') := tcs_set (fun _ => rfl) h hc hj
theorem tc_mid (hc : C[i]? = some c) : (C.set i c')[i]? = some c' := by
 rw [List.getElem?_set_self (List.getElem?_eq_some_iff.1 hc).1]
theorem tcs_to {b sz : Nat} {k : Nat} {u : Value} (hc : C[i]? = some c) (hj : k < 4) (h1 : tcW c' = (tcW c).set k u) (h2 : tcT c' = (tcT c).set k (T.v u)) :
  Blk.raw b sz ((tcsW C).set (i * 4 + k) u) ((tcsT C).set (i * 4 + k) (T.v u)) = .raw b sz (tcsW (C.set i c')) (tcsT (C.set i c')) := by
 rw [tcW_set hc hj h1, tcT_set hc hj h2]
end
theorem advI_fun (b sz i : Nat) (C : List TC) (h : Option Addr × Nat) (t : Task) (hc : C[i]? = some (h, t)) (hp : 0 ≤ t.pos ∧ t.pos ≤ 1048576) (hl : t.acts.length ≤ 1048576) : Proc Try.prog 106 [.t (.v (.pointer (some ⟨b, i * 4, none⟩)))] ([]) ([]) [.raw b sz (tcsW C) (tcsT C)] (.tup []) [.raw b sz (tcsW (C.set i (h, advT t))) (tcsT (C.set i (h, advT t)))] := by
 refine Proc.intro tys Try.func106 Z Z (N := 22) [100] 99 ([(0, .t (.v (.pointer (some ⟨b, i * 4, none⟩))))]) ([(100, .raw b sz (tcsW C) (tcsT C)), (99, .ro [] [])]) Z Z Z Z (by decide) (by decide) Z (fun w0 G F0 => ?_)
 refine nY Z (sQ (rG (eZ Z (WO_nil' rfl Z (lt_of Z) Z Z Z (WO_fieldV tys Z Z (lt_of Z) Z Z Z Z Z (WO_loadU (id := 100) (u := .int .i64 t.pos) tys Z Z (lt_of Z) Z Z Z Z Z (tcT_at hc (by decide)) (tcW_at hc (by decide)) (evI ?_)))))))
 refine WO_nil' rfl Z (lt_of Z) Z Z Z (WO_fieldV tys Z Z (lt_of Z) Z Z Z Z Z (WO_storeV (id := 100) (u0 := .int .i64 t.pos) (u := .int .i64 (t.pos + 1)) tys Z Z Z Z Z Z Z (tcT_at hc (by decide)) Z Z Z (nZ Z (WO_le (Le.eqK (id := 100) Z (tcs_to (c' := (h, { t with pos := t.pos + 1 })) hc (by decide) Z Z)) ?_))))
 have hc1 : (C.set i (h, { t with pos := t.pos + 1 }))[i]? = some (h, { t with pos := t.pos + 1 }) := tc_mid hc
 refine nZ Z (oN (tN (sQ (kY [0] Z (W_regionD mixed (by kernel_rfl) (evQ ?_))))))
 refine QL_nil' rfl Z (lt_of Z) Z Z Z (QL_fieldV tys Z Z (lt_of Z) Z Z Z Z Z (QL_loadU (id := 100) (u := .int .i64 (t.pos + 1)) tys Z Z (lt_of Z) Z Z Z Z Z (tcT_at hc1 (by decide)) (tcW_at hc1 (by decide)) (evQ ?_)))
 refine QL_nil' rfl Z (lt_of Z) Z Z Z (QL_norm Z (QL_fieldV tys Z Z (lt_of Z) Z Z Z Z Z (QL_loadU (id := 100) (u := .slice h.1 t.acts.length h.2) tys Z Z (lt_of Z) Z Z Z Z Z (tcT_at hc1 (by decide)) (tcW_at hc1 (by decide)) (QL_lenV Z Z (lt_of Z) Z ⟨98, by kernel_rfl⟩ rfl (evQ ?_)))))
 refine QL_nil (tN ?_)
 refine W_cond Z (fun h1 => ?_) (fun h1 => ?_)
 ·
  simp only [HS] at h1
  refine rG (eZ Z (WO_nil' rfl Z (lt_of Z) Z Z Z (WO_fieldV tys Z Z (lt_of Z) Z Z Z Z Z (WO_storeV (id := 100) (u0 := .int .i64 t.state) (u := .int .i64 1) tys Z Z Z Z Z Z Z (tcT_at hc1 (by decide)) Z Z Z (nZ Z (WO_le (Le.eqK (id := 100) Z (tcs_to (c' := (h, { t with pos := t.pos + 1, state := 1 })) hc1 (by decide) Z Z)) (nZ Z (oN ?_))))))))
  refine EndsP_of (ks := [_]) (.inl Z) (ret_okF Z) (by decide) Z (noR_spec Z) (by repeat (first | exact trivial | refine ⟨rfl, rfl, ?_⟩)) ?_ ?_
  ·rfl
  ·rw [List.set_set, advT, if_pos h1]
   done
 simp only [HS] at h1
 refine W_skip ?_
 refine EndsP_of (ks := [_]) (.inl Z) (ret_okF Z) (by decide) Z (noR_spec Z) (by repeat (first | exact trivial | refine ⟨rfl, rfl, ?_⟩)) ?_ ?_
 ·rfl
 ·rw [advT, if_neg h1]
  done
open Go.Eng
def wC (w : World) (ts : Value) : List D := [.own (T.ints w.room), .own (intss w.held), .own (T.bools w.shut), .t (.v ts), .own (T.ints w.trace)]
def doI (w : World) (mv : List Int) : Bool := !(decide ((actOf w mv).kind = 3) && decide (w.trace.length = 120))
def doR (w : World) (mv : List Int) : World := if doI w mv then doW w mv else w
theorem tcsT_zip : ∀ {hdr : List (Option Addr × Nat)} {l : List Task}, hdr.length = l.length → (l.map Task.tt).flatMap T.cells = tcsT (hdr.zip l)
 | [], [], _ => rfl
 | [], _ :: _, h => by simp at h
 | _ :: _, [], h => by simp at h
 | a :: hdr, t :: l, h => by
  rw [List.map_cons, List.flatMap_cons, tcsT_zip (hdr := hdr) (by simpa using h)]
  rfl
theorem tasks_cells {l : List Task} : ∀ x, x ∈ l.map Task.tt → (T.cells x).length = 4 := by
 intro x hx
 obtain ⟨t, _, rfl⟩ := List.mem_map.1 hx
 rfl
theorem ViewL.sl' {c : Ctx} {s : St} {id n : Nat} {xs : List T} (hM : lookM s.M id = some (.L n xs)) : ViewL c s [.sl id 0 xs.length] [.t (.list n xs)] := by
 have h : ResL s [.sl id 0 xs.length] [.t (.list n ((xs.drop 0).take xs.length))] := .sl hM (by omega) .done
 rw [List.drop_zero, List.take_length] at h
 intro a w F β fb mb ow hi
 exact ViewL.of h hi
theorem zip_set {α β : Type} {h : α} {t t' : β} : ∀ {hdr : List α} {l : List β} {i : Nat}, (hdr.zip l)[i]? = some (h, t) → (hdr.zip l).set i (h, t') = hdr.zip (l.set i t')
 | [], _, _, e => by simp at e
 | _ :: _, [], _, e => by simp at e
 | a :: hdr, b :: l, 0, e => by
  simp at e
  obtain ⟨rfl, rfl⟩ := e
  rfl
 | a :: hdr, b :: l, i + 1, e => by
  have := zip_set (t' := t') (hdr := hdr) (l := l) (i := i) (by simpa using e)
  simp [this]
theorem zip_some {α β : Type} {hdr : List α} {l : List β} {i : Nat} (h1 : i < hdr.length) (h2 : i < l.length) : (hdr.zip l)[i]? = some (hdr[i], l[i]) := by
 rw [List.getElem?_zip_eq_some]; exact ⟨List.getElem?_eq_getElem h1, List.getElem?_eq_getElem h2⟩
theorem adv_fin {hdr : List (Option Addr × Nat)} {W1 : World} {I : Int} {i : Nat} {h : Option Addr × Nat} {t1 : Task} (hie : i = I.toNat) (hc : (hdr.zip W1.tasks)[i]? = some (h, t1)) (ht : tk W1 I = t1) : (hdr.zip W1.tasks).set i (h, advT t1) = hdr.zip (advW W1 I).tasks := by
 rw [zip_set hc, hie, ← ht]; rfl
theorem set_fin {hdr : List (Option Addr × Nat)} {W1 : World} {I : Int} {i : Nat} {h : Option Addr × Nat} {t1 t2 : Task} (hie : i = I.toNat) (hc : (hdr.zip W1.tasks)[i]? = some (h, t1)) : (hdr.zip W1.tasks).set i (h, t2) = hdr.zip (setT W1 I t2).tasks := by
 rw [zip_set hc, hie]; rfl
theorem tk0_fin {hdr : List (Option Addr × Nat)} {w : World} {I : Int} {i : Nat} {h : Option Addr × Nat} {t t2 : Task} (hie : i = I.toNat) (h0 : 0 ≤ I) (h1 : I < w.tasks.length) (hc : (hdr.zip w.tasks)[i]? = some (h, t)) : ((hdr.zip w.tasks).set i (h, t2)).set i (h, advT t2) = hdr.zip (advW (setT w I t2) I).tasks := by
 rw [List.set_set, zip_set hc]
 have e1 : tk (setT w I t2) I = t2 := (tk_set h0 h1 h0).trans (if_pos rfl)
 show _ = hdr.zip ((w.tasks.set I.toNat _).set I.toNat (advT (tk _ _)))
 rw [e1, List.set_set, hie]
theorem tk2_fin {hdr : List (Option Addr × Nat)} {w : World} {I J n : Int} {i j : Nat} {h hj : Option Addr × Nat} {t u : Task} (hie : i = I.toNat) (hje : j = J.toNat) (h0 : 0 ≤ I) (h1 : I < w.tasks.length) (j0 : 0 ≤ J) (j1 : J < w.tasks.length) (hIJ : ¬ I = J) (hcj : (hdr.zip w.tasks)[j]? = some (hj, u)) (hc : (hdr.zip w.tasks)[i]? = some (h, t)) (htI : tk w I = t) :
  (((hdr.zip w.tasks).set j (hj, { u with last := n })).set j (hj, advT { u with last := n })).set i (h, advT t) = hdr.zip (advW (advW (setT w J { u with last := n }) J) I).tasks := by
 have hij : ¬ j = i := by omega
 have l1 : ∀ (w : World) (i : Int) (t : Task), (setT w i t).tasks.length = w.tasks.length := fun w i t => List.length_set
 have e1 : tk (setT w J { u with last := n }) J = { u with last := n } := (tk_set j0 j1 j0).trans (if_pos rfl)
 have e2 : tk (advW (setT w J { u with last := n }) J) I = t := by
  rw [advW, tk_set j0 (by rw [l1]; exact j1) h0, if_neg hIJ, tk_set j0 j1 h0, if_neg hIJ]; exact htI
 have hc' : (hdr.zip (w.tasks.set j (advT { u with last := n })))[i]? = some (h, t) := by
  rw [← zip_set hcj, List.getElem?_set_ne hij]; exact hc
 rw [List.set_set, zip_set hcj, zip_set hc']
 show _ = hdr.zip ((((w.tasks.set J.toNat _).set J.toNat (advT (tk (setT w J { u with last := n }) J)))).set I.toNat (advT (tk (advW (setT w J { u with last := n }) J) I)))
 rw [e1, e2, List.set_set, hie, hje]
theorem set_same {α : Type} {l : List α} {i : Nat} {x : α} (h : l[i]? = some x) : l.set i x = l := by
 obtain ⟨h1, rfl⟩ := List.getElem?_eq_some_iff.1 h
 exact List.set_getElem_self h1
theorem blk2 {p : Value} {A A' : List D} {b sz : Nat} {C C' : List TC} (h1 : A = A') (h2 : C = C') : [Blk.obox p A, Blk.raw b sz (tcsW C) (tcsT C)] = [Blk.obox p A', Blk.raw b sz (tcsW C') (tcsT C')] := by rw [h1, h2]
section
variable {w : World} {mv : List Int}
theorem doI_t (h : ¬ ((actOf w mv).kind = 3 ∧ w.trace.length = 120)) : doI w mv = true := by
 unfold doI; by_cases a : (actOf w mv).kind = 3 <;> by_cases b : w.trace.length = 120 <;> simp [a, b] <;> exact h ⟨a, b⟩
theorem doR_t (h : ¬ ((actOf w mv).kind = 3 ∧ w.trace.length = 120)) : doR w mv = doW w mv := by rw [doR, doI_t h, if_pos rfl]
end
theorem resl_drop {s : St} {id off len : Nat} {hl l : List Int} (hM : lookM s.M id = some (.L 1 (hl.map T.int))) (h : off + len = hl.length) (hd : hl.drop off = l) : ResL s [.sl id off len] [.t (T.ints l)] := by
 subst hd
 have h1 : ResL s [.sl id off len] [.t (.list 1 (((hl.map T.int).drop off).take len))] := .sl hM (by rw [List.length_map]; omega) .done
 rw [List.take_of_length_le (by rw [List.length_drop, List.length_map]; omega), ← List.map_drop] at h1
 exact h1
theorem flat_put {α β : Type} {f : α → List β} {x y : α} (h : f x = f y) : ∀ (l : List α) (i : Nat), (l.set i x).flatMap f = (l.set i y).flatMap f
 | [], _ => rfl
 | a :: l, 0 => by rw [List.set_cons_zero, List.set_cons_zero, List.flatMap_cons, List.flatMap_cons, h]
 | a :: l, i + 1 => by rw [List.set_cons_succ, List.set_cons_succ, List.flatMap_cons, List.flatMap_cons, flat_put h l i]
theorem held_same {l : List (List Int)} {c : Nat} {z1 z2 : T} {v : List Int} (h : T.cells z2 = [T.ints v]) : ((l.set c v).map T.ints).flatMap T.cells = (((l.map T.ints).set c z1).set (0 + c) z2).flatMap T.cells := by
 rw [Nat.zero_add, List.set_set, List.map_set]; exact flat_put h.symm _ _
theorem held_cells {l : List (List Int)} : ∀ y, y ∈ l.map T.ints → (T.cells y).length = 1 := by
 intro y hy
 obtain ⟨x, _, rfl⟩ := List.mem_map.1 hy
 rfl
theorem doI_fun (bw bt cap : Nat) (w : World) (hdr : List (Option Addr × Nat)) (mv : List Int) (hg : goodWorld w = true) (hm : MvOk w mv) (hh : hdr.length = w.tasks.length) (hcap : w.tasks.length ≤ cap) : Proc Try.prog 69 [.t (.v (.pointer (some ⟨bw, 0, none⟩))), .t (T.ints mv)] ([]) ([]) [.obox (.pointer (some ⟨bw, 0, none⟩)) (wC w (.slice (some ⟨bt, 0, none⟩) w.tasks.length cap)), .raw bt (cap * 4) (tcsW (hdr.zip w.tasks)) (tcsT (hdr.zip w.tasks))] (.t (.bool (doI w mv))) [.obox (.pointer (some ⟨bw, 0, none⟩)) (wC (doR w mv) (.slice (some ⟨bt, 0, none⟩) w.tasks.length cap)), .raw bt (cap * 4) (tcsW (hdr.zip (doR w mv).tasks)) (tcsT (hdr.zip (doR w mv).tasks))] := by
  have hgo := good_of hg
  have hgw := gw_iff.1 hg
  have hi0 := hm.i0
  have hi1 := hm.i1
  have hml := hm.len
  have hmi : mv[(0 : Int).toNat]'(by rw [hml]; decide) = at0 0 mv 0 := (at0_of (l := mv) (by omega) (by omega)).symm
  have hmk : mv[(1 : Int).toNat]'(by rw [hml]; decide) = at0 0 mv 1 := (at0_of (l := mv) (by omega) (by omega)).symm
  have hmj : mv[(2 : Int).toNat]'(by rw [hml]; decide) = at0 0 mv 2 := (at0_of (l := mv) (by omega) (by omega)).symm
  have hpp := hgo.pos _ (List.getElem_mem (l := w.tasks) (n := (at0 0 mv 0).toNat) (by omega))
  have hk0 := hm.k0
  have hk1 : at0 0 mv 1 < (ways (w.tasks[(at0 0 mv 0).toNat]'(by omega))).length := by
   have := hm.k1
   rw [tk, at0_of hi0 hi1] at this
   exact this
  obtain ⟨A, hA⟩ : ∃ A, A = (ways (w.tasks[(at0 0 mv 0).toNat]'(by omega)))[(at0 0 mv 1).toNat]'(by omega) := ⟨_, rfl⟩
  have hAo : actOf w mv = A := by rw [actOf, tk, at0_of hi0 hi1, at0_of hk0 hk1, hA]
  refine Proc.intro tys Try.func69 Z Z (N := 159) [100, 101] 99 ([(0, .t (.v (.pointer (some ⟨bw, 0, none⟩)))), (1, .t (T.ints mv))]) ([(100, .obox (.pointer (some ⟨bw, 0, none⟩)) (wC w (.slice (some ⟨bt, 0, none⟩) w.tasks.length cap))), (101, .raw bt (cap * 4) (tcsW (hdr.zip w.tasks)) (tcsT (hdr.zip w.tasks))), (99, .ro [] [])]) Z Z Z Z (by decide) (by decide) Z (fun w0 G F0 => ?_)
  refine nY Z (W_le (Le.openNew (u := 100) 1100 Z Z Z Z Z) (nY Z (W_le (Le.named (t := 0) (u := 100) 1100 Z Z) (nY Z (W_le (Le.adoptBox (u := 100) (j := 1) (id := 104) Z Z Z) (nY Z (W_le (Le.adoptBox (u := 100) (j := 2) (id := 105) Z Z Z) (nY Z (W_le (Le.adoptBox (u := 100) (j := 4) (id := 106) Z Z Z) (nY Z (sQ (rG (eZ Z (oN (tN ?_)))))))))))))))
  refine sQ (W_regionD mixed (by kernel_rfl) (evQ ?_))
  refine QL_nil' rfl Z (lt_of Z) Z Z Z (evQ ?_)
  refine evQ ?_
  refine evQ ?_
  refine QL_norm Z (QL_idxT tys Z Z (lt_of Z) Z Z Z Z Z Z Z (by omega) _ (getT _ _ (by omega) (by omega)) (evQ ?_))
  refine QL_idxV tys Z Z (lt_of Z) Z Z Z Z Z Z (by omega) (by omega) (evQ ?_)
  refine QL_nil (tN (sQ ?_))
  rw [hmi]
  refine nY Z ?_
  obtain ⟨i, hie⟩ : ∃ i, i = (at0 0 mv 0).toNat := ⟨_, rfl⟩
  rw [← hie]
  have hit : i < w.tasks.length := by omega
  obtain ⟨t, ht⟩ : ∃ t, t = w.tasks[i]'hit := ⟨_, rfl⟩
  obtain ⟨h, hh1⟩ : ∃ h, h = hdr[i]'(by omega) := ⟨_, rfl⟩
  have hc : (hdr.zip w.tasks)[i]? = some (h, t) := by rw [List.getElem?_zip_eq_some]; exact ⟨by rw [hh1, List.getElem?_eq_getElem (by omega)], by rw [ht, List.getElem?_eq_getElem hit]⟩
  refine W_of_WR mixed ?_
  refine WR_view 6 [.t (T.int A.kind), .t (T.int A.chan), .t (T.int A.n), .top] [16, 17, 18, 19, 20, 21, 22, 23, 24, 25, 26, 27, 6] [(0, .rp (.agg [T.ints w.room, intss w.held, T.bools w.shut, T.Tasks w.tasks, T.ints w.trace]) 0), (1, .t (T.ints mv))] (by kernel_rfl) ⟨ViewL.ref (id := 100) Z (ViewL.cons (ViewL.of (.own .done)) (ViewL.cons (ViewL.sl' (id := 104) Z) (ViewL.cons (ViewL.sl' (id := 105) Z) (ViewL.cons (ViewL.raw (id := 101) Z (tcsT_zip hh) tasks_cells (List.length_map _) hcap) (ViewL.cons (ViewL.sl' (id := 106) Z) ViewL.nil'))))), ViewL.of (.t .done), trivial⟩ rfl Z (fun w1 => ?_) ?_
  ·
    refine WR_Gm 13 Z (by kernel_rfl) (by kernel_rfl) (QG_ev tys Z Z (lt_of Z) Z (QG_nil' rfl Z (lt_of Z) Z Z Z (QG_norm Z (QG_ev tys Z Z (lt_of Z) Z (QG_ev tys Z Z (lt_of Z) Z (QG_idxT tys Z Z (lt_of Z) Z Z Z Z Z Z Z (by omega) _ (getT _ _ (by omega) (by omega)) (QG_ev tys Z Z (lt_of Z) Z ?_)))))))
    rw [hmi]
    refine QG_callF Z Z (lt_of Z) Z Z Z Z Z (casesOf_fun w (at0 0 mv 0) hi0 hi1 (by omega) hpp.1 hpp.2.1) Z (QG_ev tys Z Z (lt_of Z) Z (QG_norm Z (QG_idxT tys Z Z (lt_of Z) Z Z Z Z Z Z Z (by omega) _ (getT _ _ (by omega) (by omega)) (QG_ev tys Z Z (lt_of Z) Z ?_))))
    rw [hmk]
    refine QG_idxT tys Z Z (lt_of Z) Z Z Z Z Z Z Z (by omega) _ (getAct _ (by omega) (by omega)) ?_
    rw [← hA]
    refine QG_ev tys Z Z (lt_of Z) Z (QG_alloc tys Z Z (lt_of Z) Z Z Z Z (QG_nil ?_))
    refine ⟨by kernel_rfl, ?_⟩
    refine nZ Z (sT Z (nZ Z (oN ?_)))
    exact ⟨rfl, rfl, _, rfl, rfl⟩
  refine tN (sQ (W_block (sQ (nY Z ?_))))
  have htr := hgw.trace
  have htI : tk w (at0 0 mv 0) = t := by rw [tk, at0_of hi0 hi1, ht]; simp only [hie]
  have htm : t ∈ w.tasks := by rw [ht]; exact List.getElem_mem _
  have hAw : A ∈ ways t := by rw [hA, ht]; subst hie; exact List.getElem_mem _
  obtain ⟨hAk, ⟨hAc0, hAc1⟩, hAn, hts, htp⟩ := goodAct_ways hg htm hAw
  have hheld := hgw.held
  have hshut := hgw.shut
  have hrm := hgw.room
  have hta : t.acts.length ≤ 6 := (hgo.pos _ htm).2.2
  refine rG (eK 4 Z (oN (tN ?_)))
  refine W_cond Z (fun h1 => ?_) (fun h1 => ?_)
  ·
    simp only [HS] at h1
    refine sQ (sQ (rG (eZ Z (WO_nil' rfl Z (lt_of Z) Z Z Z (eK 2 Z (kZ [0,4,5,54] Z (evE ?_)))))))
    refine eZ Z (oN (tN ?_))
    refine W_cond Z (fun h2 => ?_) (fun h2 => ?_)
    ·
      simp only [HS] at h2
      refine sQ (rG (eZ Z (oN (tN ?_))))
      ((first | (refine W_le (Le.gatherBox (u := 100) (j := 1) (id := 104) rfl rfl rfl (by first | exact Nat.le_refl _ | simp) rfl) ?_; refine W_norm rfl ?_) | skip); (first | (refine W_le (Le.gatherBox (u := 100) (j := 2) (id := 105) rfl rfl rfl (by first | exact Nat.le_refl _ | simp) rfl) ?_; refine W_norm rfl ?_) | skip); (first | (refine W_le (Le.gatherBox (u := 100) (j := 4) (id := 106) rfl rfl rfl (by first | exact Nat.le_refl _ | simp) rfl) ?_; refine W_norm rfl ?_) | skip))
      refine W_le (Le.close (u := 100) 1100 Z Z Z) (nY Z (rT (tR (bR (tR ?_)))))
      refine EndsP_of (ks := [_, _]) (.inr Z) (ret_okF Z) (by decide) Z (noR_spec Z) (by repeat (first | exact trivial | refine ⟨rfl, rfl, ?_⟩)) ?_ ?_
      · (rw [show doI w mv = false from by (unfold doI; rw [hAo]; simp [h1]; omega)]; rfl)
      · (rw [show doR w mv = w from by rw [doR, show doI w mv = false from by (unfold doI; rw [hAo]; simp [h1]; omega)]; rfl]; refine blk2 ?_ rfl; simp [wC, T.ints, intss, T.bools, List.take_of_length_le]; done)
    simp only [HS] at h2
    refine W_skip (tN (W_le (Le.gatherBox (u := 100) (j := 4) (id := 106) Z Z Z (Nat.le_refl _) Z) (nY Z ?_)))
    have hdI : doI w mv = true := doI_t (fun h => h2 (by rw [h.2]; rfl))
    have hdo : doR w mv = advW { w with trace := w.trace ++ [t.last] } (at0 0 mv 0) := by rw [doR_t (fun h => h2 (by rw [h.2]; rfl)), doW, hAo, if_pos h1, htI]
    have hC1 := hc
    have hp1 : 0 ≤ t.pos ∧ t.pos ≤ 1048576 := by omega
    have hl1 : t.acts.length ≤ 1048576 := by omega
    have hfin := adv_fin (W1 := { w with trace := w.trace ++ [t.last] }) hie hc htI
    refine W_regionH [[100], [], [], [], [], [100], [100], [100], [100], [100], [], [], [], []] mixed (by kernel_rfl) (QH_G (QG_ev tys Z Z (lt_of Z) Z (QG_nil (QH_G0 (QG_ev tys Z Z (lt_of Z) Z (QG_nil (QH_G0 (QG_nil' rfl Z (lt_of Z) Z Z Z (QG_nil (QH_G0 (QG_ev tys Z Z (lt_of Z) Z (QG_nil (QH_norm Z (QH_loadOwn tys Z Z (lt_of Z) Z Z Z Z Z Z (QH_G ?_)))))))))))))))
    refine QG_ev tys Z Z (lt_of Z) Z (QG_nil (QH_G (QG_nil' rfl Z (lt_of Z) Z Z Z (QG_nil (QH_G (QG_fieldV tys Z Z (lt_of Z) Z Z Z Z Z (QG_nil (QH_norm Z (QH_G (QG_loadU (id := 101) (u := .int .i64 t.last) tys Z Z (lt_of Z) Z Z Z Z Z (tcT_at hc (by decide)) (tcW_at hc (by decide)) (QG_nil (QH_G ?_))))))))))))
    refine QG_buildS tys [T.int t.last] Z Z (lt_of Z) Z Z Z Z Z (lt_of Z) (by repeat (first | exact PartsOk.nil' | refine PartsOk.cons' rfl (by repeat (first | exact AbsL.nil' | refine AbsL.v' ?_ | refine AbsL.own' ?_ | refine AbsL.none' ?_)) Z ?_)) Z Z Z (by decide) ?_
    refine QG_nil (QH_G0 (QG_appendO tys Z Z (lt_of Z) Z Z Z Z Z Z Z Z Z ((fun x hx => by rw [List.mem_singleton] at hx; subst hx; exact ⟨rfl, fun z hz => ⟨_, by simpa [T.cells] using hz⟩⟩)) (by simp; omega) (by decide) Z ?_))
    refine QG_nil (QH_G0 (QG_nil' rfl Z (lt_of Z) Z Z Z (QG_nil (QH_norm Z (QH_G0 (QG_ev tys Z Z (lt_of Z) Z (QG_nil (QH_storeM tys Z Z Z Z Z Z Z Z Z (Nat.le_of_ble_eq_true Z) (QH_nil ?_)))))))))
    refine ⟨by kernel_rfl, ?_⟩
    refine nZ Z (oN (bN (tN (sQ ?_))))
    skip
    refine rG (eZ Z ?_)
    refine WO_callP (rid := 99) [101] Z Z (lt_of Z) Z Z (by repeat (first | exact ResP.done | refine ResP.pin0 1101 Z ?_ | refine ResP.t ?_ | refine ResP.nil 1 ?_ | refine ResP.nil' ?_ | refine ResP.own ?_ | refine ResP.sl Z Z (by first | omega | (simp; omega)) ?_ | refine ResP.aggT (by repeat (first | exact ResP.done | refine ResP.t ?_)) ?_)) Z (by repeat (first | exact trivial | refine ⟨rfl, rfl, ?_⟩)) (by decide) (advI_fun bt (cap * 4) i _ h _ hC1 hp1 hl1) Z Z Z ?_
    refine nZ Z (oN (tN (sQ (rG (eZ Z (oN (tN ?_)))))))
    ((first | (refine W_le (Le.gatherBox (u := 100) (j := 1) (id := 104) rfl rfl rfl (by first | exact Nat.le_refl _ | simp) rfl) ?_; refine W_norm rfl ?_) | skip); (first | (refine W_le (Le.gatherBox (u := 100) (j := 2) (id := 105) rfl rfl rfl (by first | exact Nat.le_refl _ | simp) rfl) ?_; refine W_norm rfl ?_) | skip); (first | (refine W_le (Le.gatherBox (u := 100) (j := 4) (id := 106) rfl rfl rfl (by first | exact Nat.le_refl _ | simp) rfl) ?_; refine W_norm rfl ?_) | skip))
    refine W_le (Le.close (u := 100) 1100 Z Z Z) (nY Z (rT ?_))
    refine EndsP_of (ks := [_, _]) (.inr Z) (ret_okF Z) (by decide) Z (noR_spec Z) (by repeat (first | exact trivial | refine ⟨rfl, rfl, ?_⟩)) ?_ ?_
    · rw [hdI]
      rfl
    · rw [hdo]
      refine blk2 ?_ hfin
      first | (simp [wC, advW, setT, T.ints, intss, T.bools, List.take_of_length_le, List.map_set]; done) | (rw [List.set_set, hset]; simp [wC, advW, setT, T.ints, intss, T.bools, List.take_of_length_le]; done)
  simp only [HS] at h1
  refine sQ (nY Z ?_)
  have hdI : doI w mv = true := doI_t (fun h => h1 (by rw [← hAo]; exact h.1))
  have hdW : doR w mv = doW w mv := doR_t (fun h => h1 (by rw [← hAo]; exact h.1))
  have hdW' := hdW
  rw [doW, hAo, if_neg h1] at hdW'
  have hsc : at0 false w.shut A.chan = w.shut[A.chan.toNat]'(by omega) := at0_of hAc0 (by omega)
  rw [hsc, htI] at hdW'
  have hhc : at0 [] w.held A.chan = w.held[A.chan.toNat]'(by omega) := at0_of hAc0 (by omega)
  obtain ⟨hl, hle⟩ : ∃ hl, hl = w.held[A.chan.toNat]'(by omega) := ⟨_, rfl⟩
  have hz : (w.held.map T.ints)[A.chan.toNat]? = some (T.ints hl) := by rw [hle, List.getElem?_map, List.getElem?_eq_getElem (by omega)]; rfl
  have hlx : hl.length ≤ 3 := by
   have e1 := gw_hold hgw hAc0 hAc1
   rw [hhc, ← hle] at e1
   have e2 := hgw.rooms
   rw [allIn, List.all_eq_true] at e2
   have e3 := e2 _ (List.getElem_mem (l := w.room) (n := A.chan.toNat) (by omega))
   rw [at0_of hAc0 hAc1] at e1
   simp only [decide_eq_true_eq] at e3
   omega
  refine W_regionD mixed (by kernel_rfl) (evQ ?_)
  refine QL_norm Z (evQ ?_)
  refine evQ ?_
  refine evQ ?_
  refine QL_split (fun h2 => ?_) (fun h2 => ?_)
  ·
    simp only [HS] at h2
    refine QL_guardY Z Z Z Z (lt_of Z) (evQ ?_)
    refine QL_guardY Z Z Z Z (lt_of Z) (QL_nil' rfl Z (lt_of Z) Z Z Z (QL_guardY Z Z Z Z (lt_of Z) (evQ ?_)))
    refine QL_norm Z (QL_guardY Z Z Z Z (lt_of Z) (evQ ?_))
    refine QL_guardY Z Z Z Z (lt_of Z) (evQ ?_)
    refine QL_guardY Z Z Z Z (lt_of Z) (evQ ?_)
    refine QL_guardY Z Z Z Z (lt_of Z) (QL_idxS tys Z Z (lt_of Z) Z Z Z Z Z Z Z Z hAc0 (by first | (rw [List.length_map]; omega) | (rw [List.length_set, List.length_map]; omega)) ?_)
    refine QL_guardY Z Z Z Z (lt_of Z) (QL_loadL tys Z Z (lt_of Z) Z Z Z Z (getT0 _ _ (by omega) (by omega)) Z (evQ ?_))
    refine QL_norm Z (evQ ?_)
    refine QL_nil (tN ?_)
    refine W_cond Z (fun h3 => ?_) (fun h3 => ?_)
    ·
      refine sQ (nY Z ?_)
      have hdo : doR w mv = setT w (at0 0 mv 0) { t with state := 2 } := by rw [hdW', if_pos]; exact ⟨by omega, by assumption⟩
      have hfin := set_fin (t2 := { t with state := 2 }) (W1 := w) hie hc
      refine rG (eZ Z (WO_nil' rfl Z (lt_of Z) Z Z Z (WO_fieldV tys Z Z (lt_of Z) Z Z Z Z Z (WO_storeV (id := 101) (u0 := .int .i64 t.state) (u := .int .i64 2) tys Z Z Z Z Z Z Z (tcT_at hc (by decide)) Z Z Z (nZ Z (WO_le (Le.eqK (id := 101) Z (tcs_to (c' := (h, { t with state := 2 })) hc (by decide) Z Z)) (nZ Z (oN (tN (sQ (rG (eZ Z (oN (tN ?_))))))))))))))
      ((first | (refine W_le (Le.gatherBox (u := 100) (j := 1) (id := 104) rfl rfl rfl (by first | exact Nat.le_refl _ | simp) rfl) ?_; refine W_norm rfl ?_) | skip); (first | (refine W_le (Le.gatherBox (u := 100) (j := 2) (id := 105) rfl rfl rfl (by first | exact Nat.le_refl _ | simp) rfl) ?_; refine W_norm rfl ?_) | skip); (first | (refine W_le (Le.gatherBox (u := 100) (j := 4) (id := 106) rfl rfl rfl (by first | exact Nat.le_refl _ | simp) rfl) ?_; refine W_norm rfl ?_) | skip))
      refine W_le (Le.close (u := 100) 1100 Z Z Z) (nY Z (rT (bR (tR ?_))))
      refine EndsP_of (ks := [_, _]) (.inr Z) (ret_okF Z) (by decide) Z (noR_spec Z) (by repeat (first | exact trivial | refine ⟨rfl, rfl, ?_⟩)) ?_ ?_
      · rw [hdI]
        rfl
      · rw [hdo]
        refine blk2 ?_ hfin
        first | (simp [wC, advW, setT, T.ints, intss, T.bools, List.take_of_length_le, List.map_set]; done) | (rw [List.set_set, hset]; simp [wC, advW, setT, T.ints, intss, T.bools, List.take_of_length_le]; done)
    refine sQ (rG (eK 4 Z (oN (tN ?_))))
    refine W_cond Z (fun h4 => ?_) (fun h4 => ?_)
    ·
      simp only [HS] at h4
      refine nY Z ?_
      have hnp : ¬ ((A.kind = 5 ∨ A.kind = 1) ∧ w.shut[A.chan.toNat]'(by omega) = true) := fun h => by first | omega | (simp_all; done) | (simp_all; omega)
      rw [if_neg hnp] at hdW'
      have hdo : doR w mv = advW { w with shut := w.shut.set A.chan.toNat true } (at0 0 mv 0) := by rw [hdW', if_pos (by assumption)]
      have hC1 := hc
      have hp1 : 0 ≤ t.pos ∧ t.pos ≤ 1048576 := by omega
      have hl1 : t.acts.length ≤ 1048576 := by omega
      have hfin := adv_fin (W1 := { w with shut := w.shut.set A.chan.toNat true }) hie hc htI
      refine W_regionDm 7 mixed Z (by kernel_rfl) (by kernel_rfl) (evQ ?_)
      refine QL_norm Z (QL_nil' rfl Z (lt_of Z) Z Z Z (evQ ?_))
      refine evQ ?_
      refine evQ ?_
      refine evQ ?_
      refine QL_idxS tys Z Z (lt_of Z) Z Z Z Z Z Z Z Z hAc0 (by first | (rw [List.length_map]; omega) | (rw [List.length_set, List.length_map]; omega)) ?_
      refine QL_norm Z (QL_nil (WO_storeE tys (T.bool true) Z Z Z Z Z Z (Nat.zero_add _) (by rw [List.length_map]; omega) Z (AbsL.v' AbsL.nil') Z Z Z ?_))
      refine nZ Z (oN (bN (tN (sQ ?_))))
      skip
      refine rG (eZ Z ?_)
      refine WO_callP (rid := 99) [101] Z Z (lt_of Z) Z Z (by repeat (first | exact ResP.done | refine ResP.pin0 1101 Z ?_ | refine ResP.t ?_ | refine ResP.nil 1 ?_ | refine ResP.nil' ?_ | refine ResP.own ?_ | refine ResP.sl Z Z (by first | omega | (simp; omega)) ?_ | refine ResP.aggT (by repeat (first | exact ResP.done | refine ResP.t ?_)) ?_)) Z (by repeat (first | exact trivial | refine ⟨rfl, rfl, ?_⟩)) (by decide) (advI_fun bt (cap * 4) i _ h _ hC1 hp1 hl1) Z Z Z ?_
      refine nZ Z (oN (tN (sQ (rG (eZ Z (oN (tN ?_)))))))
      ((first | (refine W_le (Le.gatherBox (u := 100) (j := 1) (id := 104) rfl rfl rfl (by first | exact Nat.le_refl _ | simp) rfl) ?_; refine W_norm rfl ?_) | skip); (first | (refine W_le (Le.gatherBox (u := 100) (j := 2) (id := 105) rfl rfl rfl (by first | exact Nat.le_refl _ | simp) rfl) ?_; refine W_norm rfl ?_) | skip); (first | (refine W_le (Le.gatherBox (u := 100) (j := 4) (id := 106) rfl rfl rfl (by first | exact Nat.le_refl _ | simp) rfl) ?_; refine W_norm rfl ?_) | skip))
      refine W_le (Le.close (u := 100) 1100 Z Z Z) (nY Z (rT ?_))
      refine EndsP_of (ks := [_, _]) (.inr Z) (ret_okF Z) (by decide) Z (noR_spec Z) (by repeat (first | exact trivial | refine ⟨rfl, rfl, ?_⟩)) ?_ ?_
      · rw [hdI]
        rfl
      · rw [hdo]
        refine blk2 ?_ hfin
        first | (simp [wC, advW, setT, T.ints, intss, T.bools, List.take_of_length_le, List.map_set]; done) | (rw [List.set_set, hset]; simp [wC, advW, setT, T.ints, intss, T.bools, List.take_of_length_le]; done)
    simp only [HS] at h4
    refine sQ (rG (eK 4 Z (kZ [0,1,4,5,6,98] Z (oN (tN ?_)))))
    refine W_cond Z (fun h5 => ?_) (fun h5 => ?_)
    ·
      simp only [HS] at h5
      refine sQ (nY Z ?_)
      have hk2 : A.kind = 2 := by assumption
      have hnp : ¬ ((A.kind = 5 ∨ A.kind = 1) ∧ w.shut[A.chan.toNat]'(by omega) = true) := fun h => by omega
      rw [if_neg hnp, if_neg (by omega), if_neg (by omega), if_neg (by omega)] at hdW'
      rw [hhc, ← hle] at hdW'
      refine rG (eZ Z (WO_nil' rfl Z (lt_of Z) Z Z Z (WO_fieldV tys Z Z (lt_of Z) Z Z Z Z Z (WO_storeV (id := 101) (u0 := .int .i64 t.last) (u := .int .i64 0) tys Z Z Z Z Z Z Z (tcT_at hc (by decide)) Z Z Z (nZ Z (WO_le (Le.eqK (id := 101) Z (tcs_to (c' := (h, { t with last := 0 })) hc (by decide) Z Z)) ?_))))))
      have hcA : ((hdr.zip w.tasks).set i (h, { t with last := 0 }))[i]? = some (h, { t with last := 0 }) := tc_mid hc
      refine nZ Z (oN (tN (sQ (nY Z ?_))))
      refine W_takeL (id := 104) (i := A.chan.toNat) (off := 0) 107 Z hz Z Z Z (fun ad cp => ?_)
      refine nY Z (W_regionD mixed (by kernel_rfl) (evQ ?_))
      refine QL_nil' rfl Z (lt_of Z) Z Z Z (QL_norm Z (evQ ?_))
      refine evQ ?_
      refine evQ ?_
      refine evQ ?_
      refine QL_idxS tys Z Z (lt_of Z) Z Z Z Z Z Z Z Z hAc0 (by first | (rw [List.length_map]; omega) | (rw [List.length_set, List.length_map]; omega)) ?_
      refine QL_loadL tys Z Z (lt_of Z) Z Z Z Z (by rw [Nat.zero_add]; exact List.getElem?_set_self (by rw [List.length_map]; omega)) Z ?_
      refine QL_norm Z (evQ ?_)
      refine QL_nil (tN (sQ (rG (eZ Z (WO_lenV Z Z (lt_of Z) Z ⟨3, by kernel_rfl⟩ rfl (eZ Z (oN (tN ?_))))))))
      refine W_cond Z (fun h6 => ?_) (fun h6 => ?_)
      ·
        simp only [HS] at h6
        refine sQ (nY Z (W_le (Le.ownBack (t := 7) (id := 107) Z Z) (nY Z (W_le (Le.adoptE (u := 7) 107 Z Z) (nY Z ?_)))))
        have hlp : 0 < hl.length := by simp_all
        have hdo : doR w mv = advW { setT w (at0 0 mv 0) { t with last := hl[0] } with held := w.held.set A.chan.toNat (hl.drop 1) } (at0 0 mv 0) := by rw [hdW', if_pos hlp, show at0 0 hl 0 = hl[0] from at0_of (l := hl) (i := 0) (by omega) (by omega)]
        have hC1 : (((hdr.zip w.tasks).set i (h, { t with last := 0 })).set i (h, { t with last := hl[0] }))[i]? = some (h, { t with last := hl[0] }) := tc_mid hcA
        have hp1 : 0 ≤ t.pos ∧ t.pos ≤ 1048576 := by omega
        have hl1 : t.acts.length ≤ 1048576 := by omega
        have hfin : (((hdr.zip w.tasks).set i (h, { t with last := 0 })).set i (h, { t with last := hl[0] })).set i (h, advT { t with last := hl[0] }) = hdr.zip (advW { setT w (at0 0 mv 0) { t with last := hl[0] } with held := w.held.set A.chan.toNat (hl.drop 1) } (at0 0 mv 0)).tasks := by
         rw [List.set_set, List.set_set, zip_set hc]
         have e1 : tk { setT w (at0 0 mv 0) { t with last := hl[0] } with held := w.held.set A.chan.toNat (hl.drop 1) } (at0 0 mv 0) = { t with last := hl[0] } := (tk_set hi0 hi1 hi0).trans (if_pos rfl)
         show _ = hdr.zip ((w.tasks.set (at0 0 mv 0).toNat _).set (at0 0 mv 0).toNat (advT (tk _ _)))
         rw [e1, List.set_set, hie]
        refine rG (eK 2 Z (WO_idxS tys Z Z (lt_of Z) Z Z Z Z Z Z Z Z (by omega) (by rw [List.length_map]; omega) ?_))
        refine WO_loadL tys Z Z (lt_of Z) Z Z Z Z (getT0 _ _ (by omega) (by omega)) Z (WO_nil' rfl Z (lt_of Z) Z Z Z (kZ [0,4,5,6,7,119,120] Z (WO_fieldV tys Z Z (lt_of Z) Z Z Z Z Z (WO_storeV (id := 101) (u0 := .int .i64 0) (u := .int .i64 hl[0]) tys Z Z Z Z Z Z Z (tcT_at hcA (by decide)) Z Z Z (nZ Z (WO_le (Le.eqK (id := 101) Z (tcs_to (c' := (h, { t with last := hl[0] })) hcA (by decide) Z Z)) (nZ Z (oN (tN (W_regionGm 9 mixed Z (by kernel_rfl) (by kernel_rfl) (QG_ev tys Z Z (lt_of Z) Z (QG_nil' rfl Z (lt_of Z) Z Z Z (QG_ev tys Z Z (lt_of Z) Z (QG_ev tys Z Z (lt_of Z) Z (QG_norm Z ?_)))))))))))))))
        refine QG_ev tys Z Z (lt_of Z) Z (QG_ev tys Z Z (lt_of Z) Z (QG_ev tys Z Z (lt_of Z) Z (QG_sliceS tys Z Z (lt_of Z) Z Z Z Z Z Z Z Z Z (by omega) (by rw [List.length_map]; omega) (by rw [List.length_map]; omega) ?_)))
        refine QG_call Z Z (lt_of Z) Z Z (resl_drop (id := 107) Z (by show 1 + (((List.map T.int hl).length : Int).toNat - 1) = hl.length; rw [List.length_map]; omega) Z) (cloneI_fun (hl.drop 1) (by rw [List.length_drop]; omega)) Z ?_
        refine QG_nil ?_
        refine ⟨by kernel_rfl, ?_⟩
        refine nZ Z (WO_idxS tys Z Z (lt_of Z) Z Z Z Z Z Z Z Z hAc0 (by first | (rw [List.length_map]; omega) | (rw [List.length_set, List.length_map]; omega)) ?_)
        refine WO_storeE tys (T.ints (hl.drop 1)) Z Z Z Z Z Z (Nat.zero_add _) (by rw [List.length_set, List.length_map]; omega) Z (AbsL.own' AbsL.nil') Z Z Z ?_
        refine nZ Z (oN (bN (tN (sQ ?_))))
        skip
        refine rG (eZ Z ?_)
        refine WO_callP (rid := 99) [101] Z Z (lt_of Z) Z Z (by repeat (first | exact ResP.done | refine ResP.pin0 1101 Z ?_ | refine ResP.t ?_ | refine ResP.nil 1 ?_ | refine ResP.nil' ?_ | refine ResP.own ?_ | refine ResP.sl Z Z (by first | omega | (simp; omega)) ?_ | refine ResP.aggT (by repeat (first | exact ResP.done | refine ResP.t ?_)) ?_)) Z (by repeat (first | exact trivial | refine ⟨rfl, rfl, ?_⟩)) (by decide) (advI_fun bt (cap * 4) i _ h _ hC1 hp1 hl1) Z Z Z ?_
        refine nZ Z (oN (tN (sQ (rG (eZ Z (oN (tN ?_)))))))
        ((first | (refine W_le (Le.gatherBox (u := 100) (j := 1) (id := 104) rfl rfl rfl (by first | exact Nat.le_refl _ | simp) rfl) ?_; refine W_norm rfl ?_) | skip); (first | (refine W_le (Le.gatherBox (u := 100) (j := 2) (id := 105) rfl rfl rfl (by first | exact Nat.le_refl _ | simp) rfl) ?_; refine W_norm rfl ?_) | skip); (first | (refine W_le (Le.gatherBox (u := 100) (j := 4) (id := 106) rfl rfl rfl (by first | exact Nat.le_refl _ | simp) rfl) ?_; refine W_norm rfl ?_) | skip))
        refine W_le (Le.close (u := 100) 1100 Z Z Z) (nY Z (rT ?_))
        refine EndsP_of (ks := [_, _]) (.inr Z) (ret_okF Z) (by decide) Z (noR_spec Z) (by repeat (first | exact trivial | refine ⟨rfl, rfl, ?_⟩)) ?_ ?_
        · rw [hdI]
          rfl
        · rw [hdo]
          refine blk2 ?_ hfin
          first | (simp [wC, advW, setT, T.ints, intss, T.bools, List.take_of_length_le, List.map_set]; done) | (rw [List.set_set, hset]; simp [wC, advW, setT, T.ints, intss, T.bools, List.take_of_length_le]; done)
      simp only [HS] at h6
      refine W_skip (bN (tN (sQ ?_)))
      (refine W_le (Le.putBack (id := 104) (idq := 107) (i := A.chan.toNat) (off := 0) (T.ints hl) rfl rfl (List.getElem?_set_self (by rw [List.length_map]; omega)) rfl rfl rfl) ?_; refine W_norm rfl ?_; have hlp : ¬ 0 < hl.length := (by simp_all); have hdo : doR w mv = advW (setT w (at0 0 mv 0) { t with last := 0 }) (at0 0 mv 0) := (by rw [hdW', if_neg hlp]); have hC1 := hcA; have hp1 : 0 ≤ t.pos ∧ t.pos ≤ 1048576 := (by omega); have hl1 : t.acts.length ≤ 1048576 := (by omega); have hfin := tk0_fin (t2 := { t with last := 0 }) hie hi0 hi1 hc; have hset : (w.held.map T.ints).set A.chan.toNat (T.ints hl) = w.held.map T.ints := set_same hz)
      refine rG (eZ Z ?_)
      refine WO_callP (rid := 99) [101] Z Z (lt_of Z) Z Z (by repeat (first | exact ResP.done | refine ResP.pin0 1101 Z ?_ | refine ResP.t ?_ | refine ResP.nil 1 ?_ | refine ResP.nil' ?_ | refine ResP.own ?_ | refine ResP.sl Z Z (by first | omega | (simp; omega)) ?_ | refine ResP.aggT (by repeat (first | exact ResP.done | refine ResP.t ?_)) ?_)) Z (by repeat (first | exact trivial | refine ⟨rfl, rfl, ?_⟩)) (by decide) (advI_fun bt (cap * 4) i _ h _ hC1 hp1 hl1) Z Z Z ?_
      refine nZ Z (oN (tN (sQ (rG (eZ Z (oN (tN ?_)))))))
      ((first | (refine W_le (Le.gatherBox (u := 100) (j := 1) (id := 104) rfl rfl rfl (by first | exact Nat.le_refl _ | simp) rfl) ?_; refine W_norm rfl ?_) | skip); (first | (refine W_le (Le.gatherBox (u := 100) (j := 2) (id := 105) rfl rfl rfl (by first | exact Nat.le_refl _ | simp) rfl) ?_; refine W_norm rfl ?_) | skip); (first | (refine W_le (Le.gatherBox (u := 100) (j := 4) (id := 106) rfl rfl rfl (by first | exact Nat.le_refl _ | simp) rfl) ?_; refine W_norm rfl ?_) | skip))
      refine W_le (Le.close (u := 100) 1100 Z Z Z) (nY Z (rT ?_))
      refine EndsP_of (ks := [_, _]) (.inr Z) (ret_okF Z) (by decide) Z (noR_spec Z) (by repeat (first | exact trivial | refine ⟨rfl, rfl, ?_⟩)) ?_ ?_
      · rw [hdI]
        rfl
      · rw [hdo]
        refine blk2 ?_ hfin
        first | (simp [wC, advW, setT, T.ints, intss, T.bools, List.take_of_length_le, List.map_set]; done) | (rw [List.set_set, hset]; simp [wC, advW, setT, T.ints, intss, T.bools, List.take_of_length_le]; done)
    simp only [HS] at h5
    refine sQ (rG (eZ Z (WO_idxT tys Z Z (lt_of Z) Z Z Z Z Z Z Z (by omega) _ (getT _ _ (by omega) (by omega)) (eK 3 Z (oN (tN ?_))))))
    refine W_cond Z (fun h6 => ?_) (fun h6 => ?_)
    ·
      simp only [HS] at h6
      refine sQ (nY Z ?_)
      have hk1 : A.kind = 1 := by omega
      have hJ0 : 0 ≤ at0 0 mv 2 := by rw [← hmj]; omega
      obtain ⟨⟨_, hJ1⟩, hIJ, hJw⟩ := hm.j.resolve_left (by omega)
      obtain ⟨j, hje⟩ : ∃ j, j = (at0 0 mv 2).toNat := ⟨_, rfl⟩
      have hjt : j < w.tasks.length := by omega
      have hij : ¬ j = i := by omega
      obtain ⟨u, hu⟩ : ∃ u, u = w.tasks[j]'hjt := ⟨_, rfl⟩
      obtain ⟨hj, hhj⟩ : ∃ hj, hj = hdr[j]'(by omega) := ⟨_, rfl⟩
      have hcj : (hdr.zip w.tasks)[j]? = some (hj, u) := by rw [hhj, hu]; exact zip_some _ _
      have hum : u ∈ w.tasks := by rw [hu]; exact List.getElem_mem _
      have huJ : tk w (at0 0 mv 2) = u := by rw [tk, at0_of hJ0 hJ1, hu]; simp only [hje]
      have hup := hgo.pos _ hum
      have hus : u.state = 0 := Classical.byContradiction fun hx => by rw [huJ] at hJw; unfold ways at hJw; rw [if_neg hx] at hJw; simp at hJw
      have hup1 := hup.2.1 hus
      have hnp : ¬ ((A.kind = 5 ∨ A.kind = 1) ∧ w.shut[A.chan.toNat]'(by omega) = true) := fun h => by first | omega | (simp_all; done) | (simp_all; omega)
      rw [if_neg hnp, if_neg (by omega), if_pos ⟨hk1, hJ0⟩, huJ] at hdW'
      have hdo := hdW'
      have hC2 : ((hdr.zip w.tasks).set j (hj, { u with last := A.n }))[j]? = some (hj, { u with last := A.n }) := tc_mid hcj
      have hp2 : 0 ≤ u.pos ∧ u.pos ≤ 1048576 := by omega
      have hl2 : u.acts.length ≤ 1048576 := by omega
      have hp1 : 0 ≤ t.pos ∧ t.pos ≤ 1048576 := by omega
      have hl1 : t.acts.length ≤ 1048576 := by omega
      have hC1 : (((hdr.zip w.tasks).set j (hj, { u with last := A.n })).set j (hj, advT { u with last := A.n }))[i]? = some (h, t) := by rw [List.getElem?_set_ne hij, List.getElem?_set_ne hij]; exact hc
      have hfin := tk2_fin hie hje hi0 hi1 hJ0 hJ1 hIJ hcj hc htI (n := A.n)
      refine W_regionDm 11 mixed Z (by kernel_rfl) (by kernel_rfl) (evQ ?_)
      refine QL_norm Z (QL_nil' rfl Z (lt_of Z) Z Z Z (evQ ?_))
      refine evQ ?_
      refine evQ ?_
      refine QL_idxT tys Z Z (lt_of Z) Z Z Z Z Z Z Z (by omega) _ (getT _ _ (by omega) (by omega)) (evQ ?_)
      refine QL_norm Z ?_
      rw [hmj]
      refine evQ ?_
      refine evQ ?_
      refine QL_idxV tys Z Z (lt_of Z) Z Z Z Z Z Z (by omega) (by omega) ?_
      rw [← hje]
      refine QL_fieldV tys Z Z (lt_of Z) Z Z Z Z Z (QL_nil (WO_storeV (id := 101) (u0 := .int .i64 u.last) (u := .int .i64 A.n) tys Z Z Z Z Z Z Z (tcT_at hcj (by decide)) Z Z Z (nZ Z (WO_le (Le.eqK (id := 101) Z (tcs_to (c' := (hj, { u with last := A.n })) hcj (by decide) Z Z)) (nZ Z (oN (tN (W_regionH [[], [], [], [], [], [], [], [], []] mixed (by kernel_rfl) (QH_G0 (QG_ev tys Z Z (lt_of Z) Z (QG_nil (QH_G0 (QG_nil' rfl Z (lt_of Z) Z Z Z (QG_nil (QH_G0 ?_)))))))))))))))
      refine QG_ev tys Z Z (lt_of Z) Z (QG_nil (QH_G0 (QG_ev tys Z Z (lt_of Z) Z (QG_nil (QH_norm Z (QH_G0 (QG_ev tys Z Z (lt_of Z) Z (QG_nil (QH_G0 (QG_idxT tys Z Z (lt_of Z) Z Z Z Z Z Z Z (by omega) _ (getT _ _ (by omega) (by omega)) (QG_nil (QH_G0 (QG_ev tys Z Z (lt_of Z) Z (QG_nil (QH_G0 ?_)))))))))))))))
      rw [hmj]
      refine QG_idxV tys Z Z (lt_of Z) Z Z Z Z Z Z (by omega) (by omega) ?_
      rw [← hje]
      refine QG_nil (QH_norm Z ?_)
      refine QH_callP (rid := 99) [101] Z Z (lt_of Z) Z Z (by repeat (first | exact ResP.done | refine ResP.pin0 1101 Z ?_ | refine ResP.t ?_ | refine ResP.nil 1 ?_ | refine ResP.nil' ?_ | refine ResP.own ?_ | refine ResP.sl Z Z (by first | omega | (simp; omega)) ?_ | refine ResP.aggT (by repeat (first | exact ResP.done | refine ResP.t ?_)) ?_)) Z (by repeat (first | exact trivial | refine ⟨rfl, rfl, ?_⟩)) (by decide) (advI_fun bt (cap * 4) j _ hj _ hC2 hp2 hl2) Z Z Z ?_
      refine QH_nil ?_
      refine ⟨by kernel_rfl, ?_⟩
      refine nZ Z (oN (bN (tN (sQ ?_))))
      skip
      refine rG (eZ Z ?_)
      refine WO_callP (rid := 99) [101] Z Z (lt_of Z) Z Z (by repeat (first | exact ResP.done | refine ResP.pin0 1101 Z ?_ | refine ResP.t ?_ | refine ResP.nil 1 ?_ | refine ResP.nil' ?_ | refine ResP.own ?_ | refine ResP.sl Z Z (by first | omega | (simp; omega)) ?_ | refine ResP.aggT (by repeat (first | exact ResP.done | refine ResP.t ?_)) ?_)) Z (by repeat (first | exact trivial | refine ⟨rfl, rfl, ?_⟩)) (by decide) (advI_fun bt (cap * 4) i _ h _ hC1 hp1 hl1) Z Z Z ?_
      refine nZ Z (oN (tN (sQ (rG (eZ Z (oN (tN ?_)))))))
      ((first | (refine W_le (Le.gatherBox (u := 100) (j := 1) (id := 104) rfl rfl rfl (by first | exact Nat.le_refl _ | simp) rfl) ?_; refine W_norm rfl ?_) | skip); (first | (refine W_le (Le.gatherBox (u := 100) (j := 2) (id := 105) rfl rfl rfl (by first | exact Nat.le_refl _ | simp) rfl) ?_; refine W_norm rfl ?_) | skip); (first | (refine W_le (Le.gatherBox (u := 100) (j := 4) (id := 106) rfl rfl rfl (by first | exact Nat.le_refl _ | simp) rfl) ?_; refine W_norm rfl ?_) | skip))
      refine W_le (Le.close (u := 100) 1100 Z Z Z) (nY Z (rT ?_))
      refine EndsP_of (ks := [_, _]) (.inr Z) (ret_okF Z) (by decide) Z (noR_spec Z) (by repeat (first | exact trivial | refine ⟨rfl, rfl, ?_⟩)) ?_ ?_
      · rw [hdI]
        rfl
      · rw [hdo]
        refine blk2 ?_ hfin
        first | (simp [wC, advW, setT, T.ints, intss, T.bools, List.take_of_length_le, List.map_set]; done) | (rw [List.set_set, hset]; simp [wC, advW, setT, T.ints, intss, T.bools, List.take_of_length_le]; done)
    simp only [HS] at h6
    refine nY Z ?_
    have hk1 : A.kind = 1 := by omega
    have hJ0 : ¬ 0 ≤ at0 0 mv 2 := by rw [← hmj]; omega
    have hnp : ¬ ((A.kind = 5 ∨ A.kind = 1) ∧ w.shut[A.chan.toNat]'(by omega) = true) := fun h => by first | omega | (simp_all; done) | (simp_all; omega)
    rw [if_neg hnp, if_neg (by omega), if_neg (fun e => hJ0 e.2), if_pos hk1, hhc, ← hle] at hdW'
    have hdo := hdW'
    have hC1 := hc
    have hp1 : 0 ≤ t.pos ∧ t.pos ≤ 1048576 := by omega
    have hl1 : t.acts.length ≤ 1048576 := by omega
    have hfin := adv_fin (W1 := { w with held := w.held.set A.chan.toNat (hl ++ [A.n]) }) hie hc htI
    refine W_takeL (id := 104) (i := A.chan.toNat) (off := 0) 107 Z hz Z Z Z (fun ad cp => ?_)
    refine nY Z (W_regionH [[107], [107], [107], [107], [107], [107], [], [], [], [], [], [], [], [], [107], [107], [107], [], [], []] mixed (by kernel_rfl) (QH_G (QG_ev tys Z Z (lt_of Z) Z (QG_nil (QH_G (QG_nil' rfl Z (lt_of Z) Z Z Z (QG_nil (QH_G (QG_ev tys Z Z (lt_of Z) Z (QG_nil (QH_G (QG_ev tys Z Z (lt_of Z) Z (QG_nil (QH_norm Z (QH_G ?_)))))))))))))))
    refine QG_ev tys Z Z (lt_of Z) Z (QG_nil (QH_G (QG_ev tys Z Z (lt_of Z) Z (QG_nil (QH_G0 (QG_ev tys Z Z (lt_of Z) Z (QG_nil (QH_G0 (QG_nil' rfl Z (lt_of Z) Z Z Z (QG_nil (QH_norm Z (QH_G0 (QG_ev tys Z Z (lt_of Z) Z (QG_nil (QH_G0 ?_)))))))))))))))
    refine QG_ev tys Z Z (lt_of Z) Z (QG_nil (QH_G0 (QG_ev tys Z Z (lt_of Z) Z (QG_nil (QH_G0 (QG_ev tys Z Z (lt_of Z) Z (QG_nil (QH_norm Z (QH_G0 (QG_idxS tys Z Z (lt_of Z) Z Z Z Z Z Z Z Z hAc0 (by first | (rw [List.length_map]; omega) | (rw [List.length_set, List.length_map]; omega)) ?_))))))))))
    refine QG_nil ?_
    refine QH_loadBack tys 107 Z Z (lt_of Z) Z Z Z Z (by rw [Nat.zero_add]; exact List.getElem?_set_self (by rw [List.length_map]; omega)) Z Z ?_
    refine QH_G (QG_ev tys Z Z (lt_of Z) Z (QG_nil (QH_G (QG_ev tys Z Z (lt_of Z) Z (QG_nil (QH_norm Z (QH_G ?_)))))))
    refine QG_buildS tys [T.int A.n] Z Z (lt_of Z) Z Z Z Z Z (lt_of Z) (by repeat (first | exact PartsOk.nil' | refine PartsOk.cons' rfl (by repeat (first | exact AbsL.nil' | refine AbsL.v' ?_ | refine AbsL.own' ?_ | refine AbsL.none' ?_)) Z ?_)) Z Z Z (by decide) ?_
    refine QG_nil (QH_G0 (QG_appendO tys Z Z (lt_of Z) Z Z Z Z Z Z Z Z Z ((fun x hx => by rw [List.mem_singleton] at hx; subst hx; exact ⟨rfl, fun z hz => ⟨_, by simpa [T.cells] using hz⟩⟩)) (by simp; omega) (by decide) Z ?_))
    refine QG_nil (QH_G0 (QG_idxS tys Z Z (lt_of Z) Z Z Z Z Z Z Z Z hAc0 (by first | (rw [List.length_map]; omega) | (rw [List.length_set, List.length_map]; omega)) ?_))
    refine QG_nil ?_
    refine QH_storeL tys [.list 1 (hl.map T.int ++ [T.int A.n])] Z Z Z Z Z Z (by rw [Nat.zero_add]; exact List.getElem?_set_self (by rw [List.length_map]; omega)) Z Z (AbsL.own' AbsL.nil') Z (by decide) (Nat.le_of_ble_eq_true Z) ?_
    refine QH_norm Z (QH_nil ?_)
    refine ⟨by kernel_rfl, ?_⟩
    refine nZ Z (WO_le (Le.sameL (id := 104) (ys := (w.held.set A.chan.toNat (hl ++ [A.n])).map T.ints) Z (held_same (by show [T.list 1 _] = [T.list 1 _]; rw [List.map_append]; rfl)) (by simp) held_cells) ?_)
    refine nZ Z (oN (bN (tN (sQ ?_))))
    skip
    refine rG (eZ Z ?_)
    refine WO_callP (rid := 99) [101] Z Z (lt_of Z) Z Z (by repeat (first | exact ResP.done | refine ResP.pin0 1101 Z ?_ | refine ResP.t ?_ | refine ResP.nil 1 ?_ | refine ResP.nil' ?_ | refine ResP.own ?_ | refine ResP.sl Z Z (by first | omega | (simp; omega)) ?_ | refine ResP.aggT (by repeat (first | exact ResP.done | refine ResP.t ?_)) ?_)) Z (by repeat (first | exact trivial | refine ⟨rfl, rfl, ?_⟩)) (by decide) (advI_fun bt (cap * 4) i _ h _ hC1 hp1 hl1) Z Z Z ?_
    refine nZ Z (oN (tN (sQ (rG (eZ Z (oN (tN ?_)))))))
    ((first | (refine W_le (Le.gatherBox (u := 100) (j := 1) (id := 104) rfl rfl rfl (by first | exact Nat.le_refl _ | simp) rfl) ?_; refine W_norm rfl ?_) | skip); (first | (refine W_le (Le.gatherBox (u := 100) (j := 2) (id := 105) rfl rfl rfl (by first | exact Nat.le_refl _ | simp) rfl) ?_; refine W_norm rfl ?_) | skip); (first | (refine W_le (Le.gatherBox (u := 100) (j := 4) (id := 106) rfl rfl rfl (by first | exact Nat.le_refl _ | simp) rfl) ?_; refine W_norm rfl ?_) | skip))
    refine W_le (Le.close (u := 100) 1100 Z Z Z) (nY Z (rT ?_))
    refine EndsP_of (ks := [_, _]) (.inr Z) (ret_okF Z) (by decide) Z (noR_spec Z) (by repeat (first | exact trivial | refine ⟨rfl, rfl, ?_⟩)) ?_ ?_
    · rw [hdI]
      rfl
    · rw [hdo]
      refine blk2 ?_ hfin
      first | (simp [wC, advW, setT, T.ints, intss, T.bools, List.take_of_length_le, List.map_set]; done) | (rw [List.set_set, hset]; simp [wC, advW, setT, T.ints, intss, T.bools, List.take_of_length_le]; done)
  simp only [HS] at h2
  iterate 8 (refine QL_guardN rfl rfl rfl rfl rfl (lt_of rfl) ?_)
  refine evQ ?_
  refine evQ ?_
  refine QL_nil (tN (W_condF Z (sQ (rG (eK 4 Z (kZ [0,1,4,5,6,87] Z (oN (tN ?_))))))))
  refine W_cond Z (fun h3 => ?_) (fun h3 => ?_)
  ·
    simp only [HS] at h3
    refine nY Z ?_
    have hnp : ¬ ((A.kind = 5 ∨ A.kind = 1) ∧ w.shut[A.chan.toNat]'(by omega) = true) := fun h => by first | omega | (simp_all; done) | (simp_all; omega)
    rw [if_neg hnp] at hdW'
    have hdo : doR w mv = advW { w with shut := w.shut.set A.chan.toNat true } (at0 0 mv 0) := by rw [hdW', if_pos (by assumption)]
    have hC1 := hc
    have hp1 : 0 ≤ t.pos ∧ t.pos ≤ 1048576 := by omega
    have hl1 : t.acts.length ≤ 1048576 := by omega
    have hfin := adv_fin (W1 := { w with shut := w.shut.set A.chan.toNat true }) hie hc htI
    refine W_regionDm 7 mixed Z (by kernel_rfl) (by kernel_rfl) (evQ ?_)
    refine QL_nil' rfl Z (lt_of Z) Z Z Z (evQ ?_)
    refine evQ ?_
    refine evQ ?_
    refine evQ ?_
    refine QL_norm Z (QL_idxS tys Z Z (lt_of Z) Z Z Z Z Z Z Z Z hAc0 (by first | (rw [List.length_map]; omega) | (rw [List.length_set, List.length_map]; omega)) ?_)
    refine QL_nil (WO_storeE tys (T.bool true) Z Z Z Z Z Z (Nat.zero_add _) (by rw [List.length_map]; omega) Z (AbsL.v' AbsL.nil') Z Z Z ?_)
    refine nZ Z (oN (bN (tN (sQ ?_))))
    skip
    refine rG (eZ Z ?_)
    refine WO_callP (rid := 99) [101] Z Z (lt_of Z) Z Z (by repeat (first | exact ResP.done | refine ResP.pin0 1101 Z ?_ | refine ResP.t ?_ | refine ResP.nil 1 ?_ | refine ResP.nil' ?_ | refine ResP.own ?_ | refine ResP.sl Z Z (by first | omega | (simp; omega)) ?_ | refine ResP.aggT (by repeat (first | exact ResP.done | refine ResP.t ?_)) ?_)) Z (by repeat (first | exact trivial | refine ⟨rfl, rfl, ?_⟩)) (by decide) (advI_fun bt (cap * 4) i _ h _ hC1 hp1 hl1) Z Z Z ?_
    refine nZ Z (oN (tN (sQ (rG (eZ Z (oN (tN ?_)))))))
    ((first | (refine W_le (Le.gatherBox (u := 100) (j := 1) (id := 104) rfl rfl rfl (by first | exact Nat.le_refl _ | simp) rfl) ?_; refine W_norm rfl ?_) | skip); (first | (refine W_le (Le.gatherBox (u := 100) (j := 2) (id := 105) rfl rfl rfl (by first | exact Nat.le_refl _ | simp) rfl) ?_; refine W_norm rfl ?_) | skip); (first | (refine W_le (Le.gatherBox (u := 100) (j := 4) (id := 106) rfl rfl rfl (by first | exact Nat.le_refl _ | simp) rfl) ?_; refine W_norm rfl ?_) | skip))
    refine W_le (Le.close (u := 100) 1100 Z Z Z) (nY Z (rT ?_))
    refine EndsP_of (ks := [_, _]) (.inr Z) (ret_okF Z) (by decide) Z (noR_spec Z) (by repeat (first | exact trivial | refine ⟨rfl, rfl, ?_⟩)) ?_ ?_
    · rw [hdI]
      rfl
    · rw [hdo]
      refine blk2 ?_ hfin
      first | (simp [wC, advW, setT, T.ints, intss, T.bools, List.take_of_length_le, List.map_set]; done) | (rw [List.set_set, hset]; simp [wC, advW, setT, T.ints, intss, T.bools, List.take_of_length_le]; done)
  simp only [HS] at h3
  refine sQ (rG (eK 4 Z (oN (tN ?_))))
  refine W_cond Z (fun h4 => ?_) (fun h4 => ?_)
  ·
    simp only [HS] at h4
    refine sQ (nY Z ?_)
    have hk2 : A.kind = 2 := by assumption
    have hnp : ¬ ((A.kind = 5 ∨ A.kind = 1) ∧ w.shut[A.chan.toNat]'(by omega) = true) := fun h => by omega
    rw [if_neg hnp, if_neg (by omega), if_neg (by omega), if_neg (by omega)] at hdW'
    rw [hhc, ← hle] at hdW'
    refine rG (eZ Z (WO_nil' rfl Z (lt_of Z) Z Z Z (WO_fieldV tys Z Z (lt_of Z) Z Z Z Z Z (WO_storeV (id := 101) (u0 := .int .i64 t.last) (u := .int .i64 0) tys Z Z Z Z Z Z Z (tcT_at hc (by decide)) Z Z Z (nZ Z (WO_le (Le.eqK (id := 101) Z (tcs_to (c' := (h, { t with last := 0 })) hc (by decide) Z Z)) ?_))))))
    have hcA : ((hdr.zip w.tasks).set i (h, { t with last := 0 }))[i]? = some (h, { t with last := 0 }) := tc_mid hc
    refine nZ Z (oN (tN (sQ (nY Z ?_))))
    refine W_takeL (id := 104) (i := A.chan.toNat) (off := 0) 107 Z hz Z Z Z (fun ad cp => ?_)
    refine nY Z (kY [0,4,5,6] Z (W_regionD mixed (by kernel_rfl) (evQ ?_)))
    refine QL_nil' rfl Z (lt_of Z) Z Z Z (evQ ?_)
    refine evQ ?_
    refine evQ ?_
    refine evQ ?_
    refine QL_norm Z (QL_idxS tys Z Z (lt_of Z) Z Z Z Z Z Z Z Z hAc0 (by first | (rw [List.length_map]; omega) | (rw [List.length_set, List.length_map]; omega)) ?_)
    refine QL_loadL tys Z Z (lt_of Z) Z Z Z Z (by rw [Nat.zero_add]; exact List.getElem?_set_self (by rw [List.length_map]; omega)) Z ?_
    refine evQ ?_
    refine QL_nil (tN (sQ (rG (eZ Z (WO_lenV Z Z (lt_of Z) Z ⟨3, by kernel_rfl⟩ rfl (eZ Z (oN (tN ?_))))))))
    refine W_cond Z (fun h5 => ?_) (fun h5 => ?_)
    ·
      simp only [HS] at h5
      refine sQ (nY Z (W_le (Le.ownBack (t := 7) (id := 107) Z Z) (nY Z (W_le (Le.adoptE (u := 7) 107 Z Z) (nY Z ?_)))))
      have hlp : 0 < hl.length := by simp_all
      have hdo : doR w mv = advW { setT w (at0 0 mv 0) { t with last := hl[0] } with held := w.held.set A.chan.toNat (hl.drop 1) } (at0 0 mv 0) := by rw [hdW', if_pos hlp, show at0 0 hl 0 = hl[0] from at0_of (l := hl) (i := 0) (by omega) (by omega)]
      have hC1 : (((hdr.zip w.tasks).set i (h, { t with last := 0 })).set i (h, { t with last := hl[0] }))[i]? = some (h, { t with last := hl[0] }) := tc_mid hcA
      have hp1 : 0 ≤ t.pos ∧ t.pos ≤ 1048576 := by omega
      have hl1 : t.acts.length ≤ 1048576 := by omega
      have hfin : (((hdr.zip w.tasks).set i (h, { t with last := 0 })).set i (h, { t with last := hl[0] })).set i (h, advT { t with last := hl[0] }) = hdr.zip (advW { setT w (at0 0 mv 0) { t with last := hl[0] } with held := w.held.set A.chan.toNat (hl.drop 1) } (at0 0 mv 0)).tasks := by
       rw [List.set_set, List.set_set, zip_set hc]
       have e1 : tk { setT w (at0 0 mv 0) { t with last := hl[0] } with held := w.held.set A.chan.toNat (hl.drop 1) } (at0 0 mv 0) = { t with last := hl[0] } := (tk_set hi0 hi1 hi0).trans (if_pos rfl)
       show _ = hdr.zip ((w.tasks.set (at0 0 mv 0).toNat _).set (at0 0 mv 0).toNat (advT (tk _ _)))
       rw [e1, List.set_set, hie]
      refine rG (eK 2 Z (WO_idxS tys Z Z (lt_of Z) Z Z Z Z Z Z Z Z (by omega) (by rw [List.length_map]; omega) ?_))
      refine kZ [0,4,5,6,7,116,118] Z (WO_loadL tys Z Z (lt_of Z) Z Z Z Z (getT0 _ _ (by omega) (by omega)) Z (WO_nil' rfl Z (lt_of Z) Z Z Z (WO_fieldV tys Z Z (lt_of Z) Z Z Z Z Z (WO_storeV (id := 101) (u0 := .int .i64 0) (u := .int .i64 hl[0]) tys Z Z Z Z Z Z Z (tcT_at hcA (by decide)) Z Z Z (nZ Z (WO_le (Le.eqK (id := 101) Z (tcs_to (c' := (h, { t with last := hl[0] })) hcA (by decide) Z Z)) (nZ Z (oN (tN (W_regionGm 9 mixed Z (by kernel_rfl) (by kernel_rfl) (QG_ev tys Z Z (lt_of Z) Z (QG_nil' rfl Z (lt_of Z) Z Z Z (QG_norm Z (QG_ev tys Z Z (lt_of Z) Z (QG_ev tys Z Z (lt_of Z) Z ?_)))))))))))))))
      refine QG_ev tys Z Z (lt_of Z) Z (QG_ev tys Z Z (lt_of Z) Z (QG_ev tys Z Z (lt_of Z) Z (QG_sliceS tys Z Z (lt_of Z) Z Z Z Z Z Z Z Z Z (by omega) (by rw [List.length_map]; omega) (by rw [List.length_map]; omega) ?_)))
      refine QG_norm Z (QG_call Z Z (lt_of Z) Z Z (resl_drop (id := 107) Z (by show 1 + (((List.map T.int hl).length : Int).toNat - 1) = hl.length; rw [List.length_map]; omega) Z) (cloneI_fun (hl.drop 1) (by rw [List.length_drop]; omega)) Z ?_)
      refine QG_nil ?_
      refine ⟨by kernel_rfl, ?_⟩
      refine nZ Z (WO_idxS tys Z Z (lt_of Z) Z Z Z Z Z Z Z Z hAc0 (by first | (rw [List.length_map]; omega) | (rw [List.length_set, List.length_map]; omega)) ?_)
      refine WO_storeE tys (T.ints (hl.drop 1)) Z Z Z Z Z Z (Nat.zero_add _) (by rw [List.length_set, List.length_map]; omega) Z (AbsL.own' AbsL.nil') Z Z Z ?_
      refine nZ Z (oN (bN (tN (sQ ?_))))
      skip
      refine rG (eZ Z ?_)
      refine WO_callP (rid := 99) [101] Z Z (lt_of Z) Z Z (by repeat (first | exact ResP.done | refine ResP.pin0 1101 Z ?_ | refine ResP.t ?_ | refine ResP.nil 1 ?_ | refine ResP.nil' ?_ | refine ResP.own ?_ | refine ResP.sl Z Z (by first | omega | (simp; omega)) ?_ | refine ResP.aggT (by repeat (first | exact ResP.done | refine ResP.t ?_)) ?_)) Z (by repeat (first | exact trivial | refine ⟨rfl, rfl, ?_⟩)) (by decide) (advI_fun bt (cap * 4) i _ h _ hC1 hp1 hl1) Z Z Z ?_
      refine nZ Z (oN (tN (sQ (rG (eZ Z (oN (tN ?_)))))))
      ((first | (refine W_le (Le.gatherBox (u := 100) (j := 1) (id := 104) rfl rfl rfl (by first | exact Nat.le_refl _ | simp) rfl) ?_; refine W_norm rfl ?_) | skip); (first | (refine W_le (Le.gatherBox (u := 100) (j := 2) (id := 105) rfl rfl rfl (by first | exact Nat.le_refl _ | simp) rfl) ?_; refine W_norm rfl ?_) | skip); (first | (refine W_le (Le.gatherBox (u := 100) (j := 4) (id := 106) rfl rfl rfl (by first | exact Nat.le_refl _ | simp) rfl) ?_; refine W_norm rfl ?_) | skip))
      refine W_le (Le.close (u := 100) 1100 Z Z Z) (nY Z (rT ?_))
      refine EndsP_of (ks := [_, _]) (.inr Z) (ret_okF Z) (by decide) Z (noR_spec Z) (by repeat (first | exact trivial | refine ⟨rfl, rfl, ?_⟩)) ?_ ?_
      · rw [hdI]
        rfl
      · rw [hdo]
        refine blk2 ?_ hfin
        first | (simp [wC, advW, setT, T.ints, intss, T.bools, List.take_of_length_le, List.map_set]; done) | (rw [List.set_set, hset]; simp [wC, advW, setT, T.ints, intss, T.bools, List.take_of_length_le]; done)
    simp only [HS] at h5
    refine W_skip (bN (tN (sQ ?_)))
    (refine W_le (Le.putBack (id := 104) (idq := 107) (i := A.chan.toNat) (off := 0) (T.ints hl) rfl rfl (List.getElem?_set_self (by rw [List.length_map]; omega)) rfl rfl rfl) ?_; refine W_norm rfl ?_; have hlp : ¬ 0 < hl.length := (by simp_all); have hdo : doR w mv = advW (setT w (at0 0 mv 0) { t with last := 0 }) (at0 0 mv 0) := (by rw [hdW', if_neg hlp]); have hC1 := hcA; have hp1 : 0 ≤ t.pos ∧ t.pos ≤ 1048576 := (by omega); have hl1 : t.acts.length ≤ 1048576 := (by omega); have hfin := tk0_fin (t2 := { t with last := 0 }) hie hi0 hi1 hc; have hset : (w.held.map T.ints).set A.chan.toNat (T.ints hl) = w.held.map T.ints := set_same hz)
    refine rG (eZ Z ?_)
    refine WO_callP (rid := 99) [101] Z Z (lt_of Z) Z Z (by repeat (first | exact ResP.done | refine ResP.pin0 1101 Z ?_ | refine ResP.t ?_ | refine ResP.nil 1 ?_ | refine ResP.nil' ?_ | refine ResP.own ?_ | refine ResP.sl Z Z (by first | omega | (simp; omega)) ?_ | refine ResP.aggT (by repeat (first | exact ResP.done | refine ResP.t ?_)) ?_)) Z (by repeat (first | exact trivial | refine ⟨rfl, rfl, ?_⟩)) (by decide) (advI_fun bt (cap * 4) i _ h _ hC1 hp1 hl1) Z Z Z ?_
    refine nZ Z (oN (tN (sQ (kY [4] Z (rG (eZ Z (oN (tN ?_))))))))
    ((first | (refine W_le (Le.gatherBox (u := 100) (j := 1) (id := 104) rfl rfl rfl (by first | exact Nat.le_refl _ | simp) rfl) ?_; refine W_norm rfl ?_) | skip); (first | (refine W_le (Le.gatherBox (u := 100) (j := 2) (id := 105) rfl rfl rfl (by first | exact Nat.le_refl _ | simp) rfl) ?_; refine W_norm rfl ?_) | skip); (first | (refine W_le (Le.gatherBox (u := 100) (j := 4) (id := 106) rfl rfl rfl (by first | exact Nat.le_refl _ | simp) rfl) ?_; refine W_norm rfl ?_) | skip))
    refine W_le (Le.close (u := 100) 1100 Z Z Z) (nY Z (rT ?_))
    refine EndsP_of (ks := [_, _]) (.inr Z) (ret_okF Z) (by decide) Z (noR_spec Z) (by repeat (first | exact trivial | refine ⟨rfl, rfl, ?_⟩)) ?_ ?_
    · rw [hdI]
      rfl
    · rw [hdo]
      refine blk2 ?_ hfin
      first | (simp [wC, advW, setT, T.ints, intss, T.bools, List.take_of_length_le, List.map_set]; done) | (rw [List.set_set, hset]; simp [wC, advW, setT, T.ints, intss, T.bools, List.take_of_length_le]; done)
  simp only [HS] at h4
  refine sQ (rG (eZ Z (WO_idxT tys Z Z (lt_of Z) Z Z Z Z Z Z Z (by omega) _ (getT _ _ (by omega) (by omega)) (eK 3 Z (kZ [0,1,4,5,6,132] Z (oN (tN ?_)))))))
  refine W_cond Z (fun h5 => ?_) (fun h5 => ?_)
  ·
    simp only [HS] at h5
    refine sQ (nY Z ?_)
    have hk1 : A.kind = 1 := by omega
    have hJ0 : 0 ≤ at0 0 mv 2 := by rw [← hmj]; omega
    obtain ⟨⟨_, hJ1⟩, hIJ, hJw⟩ := hm.j.resolve_left (by omega)
    obtain ⟨j, hje⟩ : ∃ j, j = (at0 0 mv 2).toNat := ⟨_, rfl⟩
    have hjt : j < w.tasks.length := by omega
    have hij : ¬ j = i := by omega
    obtain ⟨u, hu⟩ : ∃ u, u = w.tasks[j]'hjt := ⟨_, rfl⟩
    obtain ⟨hj, hhj⟩ : ∃ hj, hj = hdr[j]'(by omega) := ⟨_, rfl⟩
    have hcj : (hdr.zip w.tasks)[j]? = some (hj, u) := by rw [hhj, hu]; exact zip_some _ _
    have hum : u ∈ w.tasks := by rw [hu]; exact List.getElem_mem _
    have huJ : tk w (at0 0 mv 2) = u := by rw [tk, at0_of hJ0 hJ1, hu]; simp only [hje]
    have hup := hgo.pos _ hum
    have hus : u.state = 0 := Classical.byContradiction fun hx => by rw [huJ] at hJw; unfold ways at hJw; rw [if_neg hx] at hJw; simp at hJw
    have hup1 := hup.2.1 hus
    have hnp : ¬ ((A.kind = 5 ∨ A.kind = 1) ∧ w.shut[A.chan.toNat]'(by omega) = true) := fun h => by first | omega | (simp_all; done) | (simp_all; omega)
    rw [if_neg hnp, if_neg (by omega), if_pos ⟨hk1, hJ0⟩, huJ] at hdW'
    have hdo := hdW'
    have hC2 : ((hdr.zip w.tasks).set j (hj, { u with last := A.n }))[j]? = some (hj, { u with last := A.n }) := tc_mid hcj
    have hp2 : 0 ≤ u.pos ∧ u.pos ≤ 1048576 := by omega
    have hl2 : u.acts.length ≤ 1048576 := by omega
    have hp1 : 0 ≤ t.pos ∧ t.pos ≤ 1048576 := by omega
    have hl1 : t.acts.length ≤ 1048576 := by omega
    have hC1 : (((hdr.zip w.tasks).set j (hj, { u with last := A.n })).set j (hj, advT { u with last := A.n }))[i]? = some (h, t) := by rw [List.getElem?_set_ne hij, List.getElem?_set_ne hij]; exact hc
    have hfin := tk2_fin hie hje hi0 hi1 hJ0 hJ1 hIJ hcj hc htI (n := A.n)
    refine W_regionDm 11 mixed Z (by kernel_rfl) (by kernel_rfl) (evQ ?_)
    refine QL_nil' rfl Z (lt_of Z) Z Z Z (evQ ?_)
    refine evQ ?_
    refine evQ ?_
    refine QL_idxT tys Z Z (lt_of Z) Z Z Z Z Z Z Z (by omega) _ (getT _ _ (by omega) (by omega)) (QL_norm Z (evQ ?_))
    rw [hmj]
    refine evQ ?_
    refine evQ ?_
    refine QL_idxV tys Z Z (lt_of Z) Z Z Z Z Z Z (by omega) (by omega) ?_
    rw [← hje]
    refine QL_fieldV tys Z Z (lt_of Z) Z Z Z Z Z (QL_nil (WO_storeV (id := 101) (u0 := .int .i64 u.last) (u := .int .i64 A.n) tys Z Z Z Z Z Z Z (tcT_at hcj (by decide)) Z Z Z (nZ Z (WO_le (Le.eqK (id := 101) Z (tcs_to (c' := (hj, { u with last := A.n })) hcj (by decide) Z Z)) (nZ Z (oN (tN (W_regionH [[], [], [], [], [], [], [], [], []] mixed (by kernel_rfl) (QH_G0 (QG_ev tys Z Z (lt_of Z) Z (QG_nil (QH_G0 (QG_nil' rfl Z (lt_of Z) Z Z Z (QG_nil (QH_G0 ?_)))))))))))))))
    refine QG_ev tys Z Z (lt_of Z) Z (QG_nil (QH_G0 (QG_ev tys Z Z (lt_of Z) Z (QG_nil (QH_norm Z (QH_G0 (QG_ev tys Z Z (lt_of Z) Z (QG_nil (QH_G0 (QG_idxT tys Z Z (lt_of Z) Z Z Z Z Z Z Z (by omega) _ (getT _ _ (by omega) (by omega)) (QG_nil (QH_G0 (QG_ev tys Z Z (lt_of Z) Z (QG_nil (QH_G0 ?_)))))))))))))))
    rw [hmj]
    refine QG_idxV tys Z Z (lt_of Z) Z Z Z Z Z Z (by omega) (by omega) ?_
    rw [← hje]
    refine QG_nil (QH_norm Z ?_)
    refine QH_callP (rid := 99) [101] Z Z (lt_of Z) Z Z (by repeat (first | exact ResP.done | refine ResP.pin0 1101 Z ?_ | refine ResP.t ?_ | refine ResP.nil 1 ?_ | refine ResP.nil' ?_ | refine ResP.own ?_ | refine ResP.sl Z Z (by first | omega | (simp; omega)) ?_ | refine ResP.aggT (by repeat (first | exact ResP.done | refine ResP.t ?_)) ?_)) Z (by repeat (first | exact trivial | refine ⟨rfl, rfl, ?_⟩)) (by decide) (advI_fun bt (cap * 4) j _ hj _ hC2 hp2 hl2) Z Z Z ?_
    refine QH_nil ?_
    refine ⟨by kernel_rfl, ?_⟩
    refine nZ Z (oN (bN (tN (sQ ?_))))
    skip
    refine rG (eZ Z ?_)
    refine WO_callP (rid := 99) [101] Z Z (lt_of Z) Z Z (by repeat (first | exact ResP.done | refine ResP.pin0 1101 Z ?_ | refine ResP.t ?_ | refine ResP.nil 1 ?_ | refine ResP.nil' ?_ | refine ResP.own ?_ | refine ResP.sl Z Z (by first | omega | (simp; omega)) ?_ | refine ResP.aggT (by repeat (first | exact ResP.done | refine ResP.t ?_)) ?_)) Z (by repeat (first | exact trivial | refine ⟨rfl, rfl, ?_⟩)) (by decide) (advI_fun bt (cap * 4) i _ h _ hC1 hp1 hl1) Z Z Z ?_
    refine nZ Z (oN (tN (sQ (rG (eZ Z (oN (tN ?_)))))))
    ((first | (refine W_le (Le.gatherBox (u := 100) (j := 1) (id := 104) rfl rfl rfl (by first | exact Nat.le_refl _ | simp) rfl) ?_; refine W_norm rfl ?_) | skip); (first | (refine W_le (Le.gatherBox (u := 100) (j := 2) (id := 105) rfl rfl rfl (by first | exact Nat.le_refl _ | simp) rfl) ?_; refine W_norm rfl ?_) | skip); (first | (refine W_le (Le.gatherBox (u := 100) (j := 4) (id := 106) rfl rfl rfl (by first | exact Nat.le_refl _ | simp) rfl) ?_; refine W_norm rfl ?_) | skip))
    refine W_le (Le.close (u := 100) 1100 Z Z Z) (nY Z (rT ?_))
    refine EndsP_of (ks := [_, _]) (.inr Z) (ret_okF Z) (by decide) Z (noR_spec Z) (by repeat (first | exact trivial | refine ⟨rfl, rfl, ?_⟩)) ?_ ?_
    · rw [hdI]
      rfl
    · rw [hdo]
      refine blk2 ?_ hfin
      first | (simp [wC, advW, setT, T.ints, intss, T.bools, List.take_of_length_le, List.map_set]; done) | (rw [List.set_set, hset]; simp [wC, advW, setT, T.ints, intss, T.bools, List.take_of_length_le]; done)
  simp only [HS] at h5
  refine nY Z ?_
  have hk1 : A.kind = 1 := by omega
  have hJ0 : ¬ 0 ≤ at0 0 mv 2 := by rw [← hmj]; omega
  have hnp : ¬ ((A.kind = 5 ∨ A.kind = 1) ∧ w.shut[A.chan.toNat]'(by omega) = true) := fun h => by first | omega | (simp_all; done) | (simp_all; omega)
  rw [if_neg hnp, if_neg (by omega), if_neg (fun e => hJ0 e.2), if_pos hk1, hhc, ← hle] at hdW'
  have hdo := hdW'
  have hC1 := hc
  have hp1 : 0 ≤ t.pos ∧ t.pos ≤ 1048576 := by omega
  have hl1 : t.acts.length ≤ 1048576 := by omega
  have hfin := adv_fin (W1 := { w with held := w.held.set A.chan.toNat (hl ++ [A.n]) }) hie hc htI
  refine W_takeL (id := 104) (i := A.chan.toNat) (off := 0) 107 Z hz Z Z Z (fun ad cp => ?_)
  refine nY Z (W_regionH [[107], [107], [107], [107], [107], [107], [], [], [], [], [], [], [], [], [107], [107], [107], [], [], []] mixed (by kernel_rfl) (QH_G (QG_ev tys Z Z (lt_of Z) Z (QG_nil (QH_G (QG_nil' rfl Z (lt_of Z) Z Z Z (QG_nil (QH_G (QG_ev tys Z Z (lt_of Z) Z (QG_nil (QH_G (QG_ev tys Z Z (lt_of Z) Z (QG_nil (QH_norm Z (QH_G ?_)))))))))))))))
  refine QG_ev tys Z Z (lt_of Z) Z (QG_nil (QH_G (QG_ev tys Z Z (lt_of Z) Z (QG_nil (QH_G0 (QG_ev tys Z Z (lt_of Z) Z (QG_nil (QH_G0 (QG_nil' rfl Z (lt_of Z) Z Z Z (QG_nil (QH_norm Z (QH_G0 (QG_ev tys Z Z (lt_of Z) Z (QG_nil (QH_G0 ?_)))))))))))))))
  refine QG_ev tys Z Z (lt_of Z) Z (QG_nil (QH_G0 (QG_ev tys Z Z (lt_of Z) Z (QG_nil (QH_G0 (QG_ev tys Z Z (lt_of Z) Z (QG_nil (QH_norm Z (QH_G0 (QG_idxS tys Z Z (lt_of Z) Z Z Z Z Z Z Z Z hAc0 (by first | (rw [List.length_map]; omega) | (rw [List.length_set, List.length_map]; omega)) ?_))))))))))
  refine QG_nil ?_
  refine QH_loadBack tys 107 Z Z (lt_of Z) Z Z Z Z (by rw [Nat.zero_add]; exact List.getElem?_set_self (by rw [List.length_map]; omega)) Z Z ?_
  refine QH_G (QG_ev tys Z Z (lt_of Z) Z (QG_nil (QH_G (QG_ev tys Z Z (lt_of Z) Z (QG_nil (QH_norm Z (QH_G ?_)))))))
  refine QG_buildS tys [T.int A.n] Z Z (lt_of Z) Z Z Z Z Z (lt_of Z) (by repeat (first | exact PartsOk.nil' | refine PartsOk.cons' rfl (by repeat (first | exact AbsL.nil' | refine AbsL.v' ?_ | refine AbsL.own' ?_ | refine AbsL.none' ?_)) Z ?_)) Z Z Z (by decide) ?_
  refine QG_nil (QH_G0 (QG_appendO tys Z Z (lt_of Z) Z Z Z Z Z Z Z Z Z ((fun x hx => by rw [List.mem_singleton] at hx; subst hx; exact ⟨rfl, fun z hz => ⟨_, by simpa [T.cells] using hz⟩⟩)) (by simp; omega) (by decide) Z ?_))
  refine QG_nil (QH_G0 (QG_idxS tys Z Z (lt_of Z) Z Z Z Z Z Z Z Z hAc0 (by first | (rw [List.length_map]; omega) | (rw [List.length_set, List.length_map]; omega)) ?_))
  refine QG_nil ?_
  refine QH_storeL tys [.list 1 (hl.map T.int ++ [T.int A.n])] Z Z Z Z Z Z (by rw [Nat.zero_add]; exact List.getElem?_set_self (by rw [List.length_map]; omega)) Z Z (AbsL.own' AbsL.nil') Z (by decide) (Nat.le_of_ble_eq_true Z) ?_
  refine QH_norm Z (QH_nil ?_)
  refine ⟨by kernel_rfl, ?_⟩
  refine nZ Z (WO_le (Le.sameL (id := 104) (ys := (w.held.set A.chan.toNat (hl ++ [A.n])).map T.ints) Z (held_same (by show [T.list 1 _] = [T.list 1 _]; rw [List.map_append]; rfl)) (by simp) held_cells) ?_)
  refine nZ Z (oN (bN (tN (sQ ?_))))
  skip
  refine rG (eZ Z ?_)
  refine WO_callP (rid := 99) [101] Z Z (lt_of Z) Z Z (by repeat (first | exact ResP.done | refine ResP.pin0 1101 Z ?_ | refine ResP.t ?_ | refine ResP.nil 1 ?_ | refine ResP.nil' ?_ | refine ResP.own ?_ | refine ResP.sl Z Z (by first | omega | (simp; omega)) ?_ | refine ResP.aggT (by repeat (first | exact ResP.done | refine ResP.t ?_)) ?_)) Z (by repeat (first | exact trivial | refine ⟨rfl, rfl, ?_⟩)) (by decide) (advI_fun bt (cap * 4) i _ h _ hC1 hp1 hl1) Z Z Z ?_
  refine nZ Z (oN (tN (sQ (rG (eZ Z (oN (tN ?_)))))))
  ((first | (refine W_le (Le.gatherBox (u := 100) (j := 1) (id := 104) rfl rfl rfl (by first | exact Nat.le_refl _ | simp) rfl) ?_; refine W_norm rfl ?_) | skip); (first | (refine W_le (Le.gatherBox (u := 100) (j := 2) (id := 105) rfl rfl rfl (by first | exact Nat.le_refl _ | simp) rfl) ?_; refine W_norm rfl ?_) | skip); (first | (refine W_le (Le.gatherBox (u := 100) (j := 4) (id := 106) rfl rfl rfl (by first | exact Nat.le_refl _ | simp) rfl) ?_; refine W_norm rfl ?_) | skip))
  refine W_le (Le.close (u := 100) 1100 Z Z Z) (nY Z (rT ?_))
  refine EndsP_of (ks := [_, _]) (.inr Z) (ret_okF Z) (by decide) Z (noR_spec Z) (by repeat (first | exact trivial | refine ⟨rfl, rfl, ?_⟩)) ?_ ?_
  · rw [hdI]
    rfl
  · rw [hdo]
    refine blk2 ?_ hfin
    first | (simp [wC, advW, setT, T.ints, intss, T.bools, List.take_of_length_le, List.map_set]; done) | (rw [List.set_set, hset]; simp [wC, advW, setT, T.ints, intss, T.bools, List.take_of_length_le]; done)
end Go.Proofs.Ytbkamkmmljbedaa
