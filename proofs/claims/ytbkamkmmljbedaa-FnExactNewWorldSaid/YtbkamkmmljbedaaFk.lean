/- Walks and laws of the claim. -/
import Derived.Test.YtbkamkmmljbedaaFa
import Derived.Test.YtbkamkmmljbedaaMb
import Derived.Test.YtbkamkmmljbedaaMc
import Derived.Test.YtbkamkmmljbedaaMd
import Derived.Test.YtbkamkmmljbedaaMe
set_option linter.unusedVariables false
set_option linter.unusedSimpArgs false
set_option maxRecDepth 10000
set_option maxHeartbeats 4000000
namespace Go.Proofs.Ytbkamkmmljbedaa
open Go.Eng
open Go.Eng
def ways (t : Task) : List Act := if t.state = 0 then (match t.acts[t.pos.toNat]? with | some a => if a.kind = 4 then a.cases else [a] | none => []) else []
theorem ways_at {t : Task} (h : t.state = 0) (h0 : 0 ≤ t.pos) (h1 : t.pos < t.acts.length) : ways t = if (t.acts[t.pos.toNat]'(by omega)).kind = 4 then (t.acts[t.pos.toNat]'(by omega)).cases else [t.acts[t.pos.toNat]'(by omega)] := by
 unfold ways
 rw [if_pos h, List.getElem?_eq_getElem (by omega)]
def at0 {α : Type} (d : α) (l : List α) (i : Int) : α := (l[i.toNat]?).getD d
def alone (w : World) (a : Act) : Bool := if a.kind = 1 then at0 false w.shut a.chan || decide (((at0 [] w.held a.chan).length : Int) < at0 0 w.room a.chan) else if a.kind = 2 then at0 false w.shut a.chan || decide ((0 : Int) < (at0 [] w.held a.chan).length) else true
structure Good (w : World) : Prop where
 room : w.room.length ≤ 3
 held : (w.held.length : Int) = w.room.length
 shut : (w.shut.length : Int) = w.room.length
 tasks : w.tasks.length ≤ 4
 pos : ∀ t, t ∈ w.tasks → 0 ≤ t.pos ∧ (t.state = 0 → t.pos < t.acts.length) ∧ t.acts.length ≤ 6
 ways : ∀ t, t ∈ w.tasks → (ways t).length ≤ 3 ∧ ∀ a, a ∈ ways t → 0 ≤ a.chan ∧ a.chan < w.room.length
theorem good_of {w : World} (h : goodWorld w = true) : Good w := by
 unfold goodWorld at h
 simp only [Bool.and_eq_true, decide_eq_true_eq, List.all_eq_true] at h
 obtain ⟨h1, h2, h3, h4, h5, h6, h7, h8, h9⟩ := h
 have ht : ∀ t, t ∈ w.tasks → (0 ≤ t.pos ∧ (t.state = 0 → t.pos < t.acts.length) ∧ t.acts.length ≤ 6) ∧ ∀ a, a ∈ t.acts → goodAct w.room.length a = true := fun t ht => by
  have := h9 t ht
  unfold goodTask goodActs at this
  simp only [Bool.and_eq_true, decide_eq_true_eq, List.all_eq_true] at this
  obtain ⟨⟨q1, q2⟩, q3, q4, q5, q6⟩ := this
  refine ⟨⟨q3.1, fun hs => ?_, by omega⟩, q1⟩
  have : ¬ t.pos = t.acts.length := fun e => by have := q6.2 e; omega
  omega
 refine ⟨by omega, h2, h3, by omega, fun t h => (ht t h).1, fun t hm => ?_⟩
 obtain ⟨⟨p0, p1, p2⟩, p3⟩ := ht t hm
 by_cases hs : t.state = 0
 ·have hp := p1 hs
  rw [ways_at hs p0 hp]
  have hg := p3 _ (List.getElem_mem (l := t.acts) (n := t.pos.toNat) (by omega))
  unfold goodAct at hg
  split
  ·rename_i hk
   rw [if_pos hk] at hg
   simp only [Bool.and_eq_true, decide_eq_true_eq, List.all_eq_true] at hg
   refine ⟨by omega, fun a ha => ?_⟩
   have := hg.1 a ha
   unfold caseAct plainAct at this
   simp only [Bool.and_eq_true, decide_eq_true_eq] at this
   exact ⟨this.2.1.2.1, by omega⟩
  ·rename_i hk
   rw [if_neg hk] at hg
   unfold plainAct at hg
   simp only [Bool.and_eq_true, decide_eq_true_eq] at hg
   refine ⟨by simp, fun a ha => ?_⟩
   rw [List.mem_singleton] at ha
   subst ha
   exact ⟨hg.1.2.1, by omega⟩
 ·unfold Go.Proofs.Ytbkamkmmljbedaa.ways
  rw [if_neg hs]
  exact ⟨by simp, fun a ha => by cases ha⟩
open Go.Eng
def mkI {α : Type} : List α → Int → List Int
 | [], _ => []
 | _ :: l, k => k :: mkI l (k + 1)
theorem mkI_len {α : Type} : ∀ (l : List α) (k : Int), (mkI l k).length = l.length
 | [], _ => rfl
 | _ :: l, k => by rw [mkI, List.length_cons, mkI_len l, List.length_cons]
theorem flat_one {α : Type} {g : α → T} (h : ∀ a, (g a).cells = [g a]) : ∀ l : List α, (l.map g).flatMap T.cells = l.map g
 | [] => rfl
 | a :: l => by rw [List.map_cons, List.flatMap_cons, h, flat_one h l]; rfl
theorem cell1 {α : Type} {g : α → T} {done l : List α} {i : Int} (hd : done.length = i.toNat) (h0 : 0 ≤ i) (h1 : i < l.length) : ((done ++ l.drop i.toNat).map g)[i.toNat * 1]? = some (g (l[i.toNat]'(by omega))) := by
 rw [drop_at h0 h1, Nat.mul_one, List.getElem?_map, get_done hd]; rfl
theorem set1 {α : Type} {g : α → T} {done l : List α} {i : Int} (hd : done.length = i.toNat) (h0 : 0 ≤ i) (h1 : i < l.length) (y : α) : ((done ++ l.drop i.toNat).map g).set (i.toNat * 1) (g y) = ((done ++ [y]) ++ l.drop (i + 1).toNat).map g := by
 rw [drop_at h0 h1, Nat.mul_one, ← List.map_set, set_done hd]
theorem markIntS_nil (k : Int) : Fun Try.prog 23 [.t (.list 1 []), .t (.int k)] (tupD [.t (.int k)]) := by
 refine Fun.begin tys Try.func23 Z Z (N := 19) [(0, .t (.list 1 [])), (1, .t (.int k))] Z Z (fun w0 G F0 => ?_)
 refine sQ (rG (eZ Z (oN (tN (sQ (sQ (rG (eZ Z (oN (tN (W_block ?_)))))))))))
 refine lK (α := Int) [0, 1] [] (fun x => [(5, .t (.int x))]) (fun x => []) (fun x => 0 ≤ x) (fun x => Int.toNat (0)) 0 ?_ (fun z hx => ?_)
 ·exact Int.le_refl 0
 have hz := hx
 refine nY Z (sQ (sQ (rG (eK 2 Z (evE ?_)))))
 refine eZ Z (oN (tN ?_))
 refine W_cond Z (fun h1 => ?_) (fun h1 => ?_)
 ·
  simp only [HS] at h1
  exfalso; simp at h1; omega
 simp only [HS] at h1
 refine W_exit (tE (loopQ_e (inBlk_y (tN (sQ (rG (eK 2 Z (oN (tN (rT (eR ?_)))))))))))
 ·rfl
theorem markIntS_m (l : List Int) (k : Int) (hk : 0 ≤ k) (hb : k + l.length ≤ 1073741824) : MarkF Try.prog 23 (.list 1 (l.map T.int)) (k) (k + l.length) (.list 1 ((mkI l k).map T.int)) := by
 refine MarkF.slice Try.func23 rfl rfl (N := 19) rfl (fun y hy => (by obtain ⟨a, _, rfl⟩ := List.mem_map.1 hy; rfl) ) ( by simp [mkI_len]) (fun h => by cases l with | nil => (rw [show k + (([] : List Int).length : Int) = k from by simp]; exact markIntS_nil k) | cons _ _ => simp at h) (fun b cap vs w0 G F0 => ?_)
 refine sQ (rG (eZ Z (oN (tN (sQ (sQ (rG (eZ Z (oN (tN (W_block ?_)))))))))))
 refine lK (α := Int × Int × List Value × List T) [0] [] (fun x => [(5, .t (.int (x.1))), (1, .t (.int (x.2.1)))]) (fun x => [(19, .raw b (cap * 1) (x.2.2.1) (x.2.2.2))]) (fun x => 0 ≤ (x.1) ∧ (x.1) ≤ l.length ∧ (x.2.1) = k + (x.1) ∧ ∃ done : List Int, done.length = (x.1).toNat ∧ (x.2.2.2) = (done ++ l.drop (x.1).toNat).map T.int ∧ mkI l k = done ++ mkI (l.drop (x.1).toNat) (x.2.1)) (fun x => Int.toNat (l.length - (x.1))) (0, k, vs, (l.map T.int).flatMap T.cells) ?_ (fun x hx => ?_)
 ·exact ⟨by omega, by omega, by show k = k + 0; omega, [], rfl, by rw [flat_one fun _ => rfl]; rfl, rfl⟩
 obtain ⟨i, k', vs', ts⟩ := x
 obtain ⟨hi0, hi1, hk', done, hd, hts, he⟩ := hx
 dsimp only at hi0 hi1 hk' hd hts he ⊢
 refine nY Z (sQ (sQ (rG (eK 2 Z (WO_lenV Z Z (lt_of Z) Z ⟨3, by kernel_rfl⟩ rfl (eZ Z (oN (tN ?_))))))))
 refine W_cond Z (fun h1 => ?_) (fun h1 => ?_)
 ·
  simp only [HS] at h1
  refine W_skip (tN (sQ (W_block (sQ (rG (eK 3 Z (WO_idxV tys Z Z (lt_of Z) Z Z Z Z Z Z (by omega) (by first | omega | (simp only [List.length_map]; omega)) ?_)))))))
  refine WO_storeV tys (id := 19) Z Z Z Z Z Z Z (by rw [hts]; exact cell1 hd hi0 (by omega)) Z Z Z ?_
  refine nZ Z (kZ [0,1,5,6,7,8,9,12,13,14,15] Z (oN (tN (rG (eZ Z (evI ?_))))))
  refine eZ Z (oN (bN (tN (rG (eZ Z (evI ?_))))))
  refine eZ Z (oN ?_)
  refine lQ (_, _, _, _) ?_ ?_
  ·dsimp only
   exact ⟨by omega, by omega, by omega, done ++ [k'], by simp [hd]; omega, by rw [hts]; exact set1 hd hi0 h1 k', by rw [he, drop_at hi0 h1, mkI]; simp⟩
  ·(show Int.toNat _ < Int.toNat _); omega
 simp only [HS] at h1
 refine W_exit (tE (loopQ_e (inBlk_y (tN (sQ (rG (eK 2 Z (oN (tN (rT ?_))))))))))
 refine EndsM_slice (.inr Z) Z Z Z ?_ ?_
 ·omega
 ·rw [hts, drop_end h1, he, drop_end h1, flat_one fun _ => rfl]; rfl
def mkSS {α : Type} : List (List α) → Int → List (List Int)
 | [], _ => []
 | l :: ll, k => mkI l k :: mkSS ll (k + l.length)
theorem mkSS_flat {α : Type} : ∀ (l : List (List α)) (k : Int), (mkSS l k).flatten.length = l.flatten.length
 | [], _ => rfl
 | _ :: l, k => by rw [mkSS, List.flatten_cons, List.flatten_cons, List.length_append, List.length_append, mkI_len, mkSS_flat l]
theorem mkSS_len {α : Type} : ∀ (l : List (List α)) (k : Int), (mkSS l k).length = l.length
 | [], _ => rfl
 | _ :: l, k => by rw [mkSS, List.length_cons, mkSS_len l, List.length_cons]
theorem markIntSS_nil (k : Int) : Fun Try.prog 30 [.t (.list 1 []), .t (.int k)] (tupD [.t (.int k)]) := by
 refine Fun.begin tys Try.func30 Z Z (N := 19) [(0, .t (.list 1 [])), (1, .t (.int k))] Z Z (fun w0 G F0 => ?_)
 refine sQ (rG (eZ Z (oN (tN (sQ (sQ (rG (eZ Z (oN (tN (W_block ?_)))))))))))
 refine lK (α := Int) [0, 1] [] (fun x => [(5, .t (.int x))]) (fun x => []) (fun x => 0 ≤ x) (fun x => Int.toNat (0)) 0 ?_ (fun z hx => ?_)
 ·exact Int.le_refl 0
 have hz := hx
 refine nY Z (sQ (sQ (rG (eK 2 Z (evE ?_)))))
 refine eZ Z (oN (tN ?_))
 refine W_cond Z (fun h1 => ?_) (fun h1 => ?_)
 ·
  simp only [HS] at h1
  exfalso; simp at h1; omega
 simp only [HS] at h1
 refine W_exit (tE (loopQ_e (inBlk_y (tN (sQ (rG (eK 2 Z (oN (tN (rT (eR ?_)))))))))))
 ·rfl
theorem markIntSS_m (l : List (List Int)) (k : Int) (hk : 0 ≤ k) (hb : k + l.flatten.length ≤ 1073741824) (hl : l.length ≤ 1073741824) : MarkF Try.prog 30 (.list 1 (l.map T.ints)) (k) (k + l.flatten.length) (.list 1 ((mkSS l k).map T.ints)) := by
 refine MarkF.slice Try.func30 rfl rfl (N := 19) rfl (fun y hy => (by obtain ⟨a, _, rfl⟩ := List.mem_map.1 hy; rfl) ) ( by simp [mkSS_len]) (fun h => by cases l with | nil => (rw [show k + (([] : List (List Int)).flatten.length : Int) = k from by simp]; exact markIntSS_nil k) | cons _ _ => simp at h) (fun b cap vs w0 G F0 => ?_)
 refine sQ (rG (eZ Z (oN (tN (sQ (sQ (rG (eZ Z (oN (tN (W_block ?_)))))))))))
 refine lK (α := Int × Int × List Value × List T) [0] [] (fun x => [(5, .t (.int (x.1))), (1, .t (.int (x.2.1)))]) (fun x => [(19, .raw b (cap * 1) (x.2.2.1) (x.2.2.2))]) (fun x => 0 ≤ (x.1) ∧ (x.1) ≤ l.length ∧ k ≤ (x.2.1) ∧ (x.2.1) + (l.drop (x.1).toNat).flatten.length = k + l.flatten.length ∧ ∃ done : List (List Int), done.length = (x.1).toNat ∧ (x.2.2.2) = (done ++ l.drop (x.1).toNat).map T.ints ∧ mkSS l k = done ++ mkSS (l.drop (x.1).toNat) (x.2.1)) (fun x => Int.toNat (l.length - (x.1))) (0, k, vs, (l.map T.ints).flatMap T.cells) ?_ (fun x hx => ?_)
 ·exact ⟨by omega, by omega, Int.le_refl k, by simp, [], rfl, by rw [flat_one fun _ => rfl]; rfl, rfl⟩
 obtain ⟨i, k', vs', ts⟩ := x
 obtain ⟨hi0, hi1, hkk, hk', done, hd, hts, he⟩ := hx
 dsimp only at hi0 hi1 hkk hk' hd hts he ⊢
 refine nY Z (sQ (sQ (rG (eK 2 Z (WO_lenV Z Z (lt_of Z) Z ⟨22, by kernel_rfl⟩ rfl (eZ Z (oN (tN ?_))))))))
 refine W_cond Z (fun h1 => ?_) (fun h1 => ?_)
 ·
  simp only [HS] at h1
  refine W_skip (tN (sQ (W_block (rG (eK 2 Z (WO_idxV tys Z Z (lt_of Z) Z Z Z Z Z Z (by omega) (by first | omega | (simp only [List.length_map]; omega)) ?_))))))
  refine WO_loadV tys (id := 19) Z Z (lt_of Z) Z Z Z Z Z (by rw [hts]; exact cell1 hd hi0 (by omega)) (fun u15 hu15 => ?_)
  refine eZ Z (kZ [0,1,5,6,7,8,9,12,13,14,15,16] Z (WO_markN (id := 19) (j := i.toNat * 1) Z Z (lt_of Z) Z Z Z Z Z Z (hu15) (by rw [hts]; exact cell1 hd hi0 (by omega)) (markIntS_m _ k' (by omega) (by rw [flat_at hi0 h1, List.length_append] at hk'; omega)) ?_))
  refine eZ Z (oN (bN (tN (rG (eZ Z (evI ?_))))))
  refine eZ Z (oN ?_)
  refine lQ (_, _, _, _) ?_ ?_
  ·dsimp only
   exact ⟨by omega, by omega, by omega, by rw [flat_at hi0 h1, List.length_append] at hk'; omega, done ++ [mkI (l[i.toNat]'(by omega)) k'], by simp [hd]; omega, by rw [hts]; exact set1 hd hi0 h1 _, by rw [he, drop_at hi0 h1, mkSS]; simp⟩
  ·(show Int.toNat _ < Int.toNat _); omega
 simp only [HS] at h1
 refine W_exit (tE (loopQ_e (inBlk_y (tN (sQ (rG (eK 2 Z (oN (tN (rT ?_))))))))))
 refine EndsM_slice (.inr Z) Z Z Z ?_ ?_
 ·rw [drop_end h1] at hk'; simp only [List.flatten_nil, List.length_nil] at hk'; omega
 ·rw [hts, drop_end h1, he, drop_end h1, flat_one fun _ => rfl]; simp [mkSS]
def heldI : List Int → Int → Int
 | [], k => k
 | x :: l, k => if x = k then heldI l (k + 1) else -1
theorem heldI_mk {α : Type} : ∀ (l : List α) (k : Int), heldI (mkI l k) k = k + l.length
 | [], k => by simp [mkI, heldI]
 | _ :: l, k => by rw [mkI, heldI, if_pos rfl, heldI_mk l, List.length_cons]; omega
theorem heldI_at {l : List Int} {i k : Int} (h0 : 0 ≤ i) (h1 : i < l.length) : heldI (l.drop i.toNat) k = if l[i.toNat]'(by omega) = k then heldI (l.drop (i + 1).toNat) (k + 1) else -1 := by
 rw [drop_at h0 h1, heldI]
theorem heldIntS_fun (l : List Int) (k : Int) (hk : 0 ≤ k) (hb : k + l.length ≤ 1073741824) : Fun Try.prog 61 [.t (T.ints l), .t (.int k)] (tupD [.t (.int (heldI l k))]) := by
 refine Fun.begin tys Try.func61 Z Z (N := 21) [(0, .t (T.ints l)), (1, .t (.int k))] Z Z (fun w0 G F0 => ?_)
 refine sQ (rG (eZ Z (oN (tN (sQ (sQ (rG (eZ Z (oN (tN (W_block ?_)))))))))))
 refine lK (α := Int × Int) [0] [] (fun x => [(5, .t (.int (x.1))), (1, .t (.int (x.2)))]) (fun x => []) (fun x => 0 ≤ (x.1) ∧ (x.1) ≤ l.length ∧ (x.2) = k + (x.1) ∧ heldI l k = heldI (l.drop (x.1).toNat) (x.2)) (fun x => Int.toNat (l.length - (x.1))) (0, k) ?_ (fun x hx => ?_)
 ·exact ⟨by omega, by omega, by show k = k + 0; omega, rfl⟩
 obtain ⟨i, k'⟩ := x
 obtain ⟨hi0, hi1, hk', he⟩ := hx
 dsimp only at hi0 hi1 hk' he ⊢
 refine nY Z (sQ (sQ (rG (eK 2 Z (evE ?_)))))
 refine eZ Z (oN (tN ?_))
 refine W_cond Z (fun h1 => ?_) (fun h1 => ?_)
 ·
  simp only [HS] at h1
  refine W_skip (tN (sQ (W_block (sQ (sQ (rG (eK 2 Z (WO_idxT tys Z Z (lt_of Z) Z Z Z Z Z Z Z (by omega) _ (getT _ _ (by omega) (by omega)) (eK 2 Z (kZ [0,1,5,6,7,8,9,12,13,14,15,16] Z (eZ Z (oN (tN ?_)))))))))))))
  refine W_cond Z (fun h2 => ?_) (fun h2 => ?_)
  ·
   simp only [HS] at h2
   refine sQ (rG (eZ Z (oN (tN (rT (tR (bR (tR (loopQ_r (bR (tR (eR ?_))))))))))))
   ·rw [he, heldI_at hi0 h1, if_neg h2]
    done
  simp only [HS] at h2
  refine W_skip (tN (rG (eZ Z (evI ?_))))
  refine eZ Z (oN (bN (tN (rG (eZ Z (evI ?_))))))
  refine eZ Z (oN ?_)
  refine lQ (_, _) ?_ ?_
  ·dsimp only
   exact ⟨by omega, by omega, by omega, by rw [he, heldI_at hi0 h1, if_pos (by assumption)]⟩
  ·(show Int.toNat _ < Int.toNat _); omega
 simp only [HS] at h1
 refine W_exit (tE (loopQ_e (inBlk_y (tN (sQ (rG (eK 2 Z (oN (tN (rT (eR ?_)))))))))))
 ·rw [he, drop_end h1]
  rfl
def heldSS : List (List Int) → Int → Int
 | [], k => k
 | l :: ll, k => if heldI l k < 0 then -1 else heldSS ll (heldI l k)
theorem heldSS_mk {α : Type} : ∀ (l : List (List α)) (k : Int), 0 ≤ k → heldSS (mkSS l k) k = k + l.flatten.length
 | [], k, _ => by simp [mkSS, heldSS]
 | l :: ll, k, h => by
  rw [mkSS, heldSS, heldI_mk, if_neg (by omega), heldSS_mk ll _ (by omega), List.flatten_cons, List.length_append]
  omega
theorem heldSS_at {l : List (List Int)} {i k : Int} (h0 : 0 ≤ i) (h1 : i < l.length) : heldSS (l.drop i.toNat) k = if heldI (l[i.toNat]'(by omega)) k < 0 then -1 else heldSS (l.drop (i + 1).toNat) (heldI (l[i.toNat]'(by omega)) k) := by
 rw [drop_at h0 h1, heldSS]
theorem heldI_le : ∀ (l : List Int) (k : Int), 0 ≤ k → heldI l k ≤ k + l.length
 | [], k, _ => by simp [heldI]
 | x :: l, k, h => by
  rw [heldI]
  split
  ·have := heldI_le l (k + 1) (by omega); rw [List.length_cons]; omega
  ·omega
theorem heldIntSS_fun (l : List (List Int)) (k : Int) (hk : 0 ≤ k) (hb : k + l.flatten.length ≤ 1073741824) (hl : l.length ≤ 1073741824) : Fun Try.prog 31 [.t (intss l), .t (.int k)] (tupD [.t (.int (heldSS l k))]) := by
 refine Fun.begin tys Try.func31 Z Z (N := 21) [(0, .t (intss l)), (1, .t (.int k))] Z Z (fun w0 G F0 => ?_)
 refine sQ (rG (eZ Z (oN (tN (sQ (sQ (rG (eZ Z (oN (tN (W_block ?_)))))))))))
 refine lK (α := Int × Int) [0] [] (fun x => [(5, .t (.int (x.1))), (1, .t (.int (x.2)))]) (fun x => []) (fun x => 0 ≤ (x.1) ∧ (x.1) ≤ l.length ∧ 0 ≤ (x.2) ∧ (x.2) + (l.drop (x.1).toNat).flatten.length ≤ 1073741824 ∧ heldSS l k = heldSS (l.drop (x.1).toNat) (x.2)) (fun x => Int.toNat (l.length - (x.1))) (0, k) ?_ (fun x hx => ?_)
 ·exact ⟨by omega, by omega, hk, by simpa using hb, rfl⟩
 obtain ⟨i, k'⟩ := x
 obtain ⟨hi0, hi1, hkk, hk', he⟩ := hx
 dsimp only at hi0 hi1 hkk hk' he ⊢
 refine nY Z (sQ (sQ (rG (eK 2 Z (evE ?_)))))
 refine eZ Z (oN (tN ?_))
 refine W_cond Z (fun h1 => ?_) (fun h1 => ?_)
 ·
  simp only [HS] at h1
  refine W_skip (tN (sQ (W_block (sQ (rG (eK 2 Z (WO_idxT tys Z Z (lt_of Z) Z Z Z Z Z Z Z (by omega) _ (getT _ _ (by omega) (by omega)) (eK 2 Z (kZ [0,1,5,6,7,8,9,12,13,14,15,16] Z (callB ?_))))))))))
  refine ⟨_, heldIntS_fun _ _ hkk (by rw [flat_at hi0 h1, List.length_append] at hk'; omega), rfl, ?_⟩
  refine eZ Z (oN (tN (sQ (rG (eK 2 Z (oN (tN ?_)))))))
  refine W_cond Z (fun h2 => ?_) (fun h2 => ?_)
  ·
   simp only [HS] at h2
   refine sQ (rG (eZ Z (oN (tN (rT (bR (tR (loopQ_r (bR (tR (eR ?_)))))))))))
   ·rw [he, heldSS_at hi0 h1, if_pos h2]
    done
  simp only [HS] at h2
  refine W_skip (bN (tN (rG (eZ Z (evI ?_)))))
  refine eZ Z (oN ?_)
  refine lQ (_, _) ?_ ?_
  ·dsimp only
   have q := heldI_le (l[i.toNat]'(by omega)) k' hkk; exact ⟨by omega, by omega, by omega, by rw [flat_at hi0 h1, List.length_append] at hk'; omega, by rw [he, heldSS_at hi0 h1, if_neg (by omega)]⟩
  ·(show Int.toNat _ < Int.toNat _); omega
 simp only [HS] at h1
 refine W_exit (tE (loopQ_e (inBlk_y (tN (sQ (rG (eK 2 Z (oN (tN (rT (eR ?_)))))))))))
 ·rw [he, drop_end h1]
  rfl
open Go.Eng
def mkL {α : Type} (mk : α → Int → α) (ct : α → Int) : List α → Int → List α
 | [], _ => []
 | x :: l, k => mk x k :: mkL mk ct l (k + ct x)
def ctL {α : Type} (ct : α → Int) (l : List α) : Int := (l.map ct).sum
section
variable {α : Type}
theorem mkL_len (mk : α → Int → α) (ct : α → Int) : ∀ (l : List α) (k : Int), (mkL mk ct l k).length = l.length
 | [], _ => rfl
 | _ :: l, k => by rw [mkL, List.length_cons, mkL_len mk ct l, List.length_cons]
theorem ctL_nil (ct : α → Int) : ctL ct [] = 0 := rfl
theorem ctL_cons (ct : α → Int) (x : α) (l : List α) : ctL ct (x :: l) = ct x + ctL ct l := by simp [ctL]
theorem ctL_at (ct : α → Int) {l : List α} {i : Int} (h0 : 0 ≤ i) (h1 : i < l.length) : ctL ct (l.drop i.toNat) = ct (l[i.toNat]'(by omega)) + ctL ct (l.drop (i + 1).toNat) := by
 rw [drop_at h0 h1, ctL_cons]
theorem ctL_take (ct : α → Int) {l : List α} {i : Int} (h0 : 0 ≤ i) (h1 : i < l.length) : ctL ct (l.take (i + 1).toNat) = ctL ct (l.take i.toNat) + ct (l[i.toNat]'(by omega)) := by
 unfold ctL; rw [take_at h0 h1, List.map_append, List.sum_append]; simp
theorem ctL_pos {ct : α → Int} {m : Int} (h : ∀ x, m ≤ ct x) (l : List α) (hm : 0 ≤ m := by decide) : 0 ≤ ctL ct l := by
 induction l with
 | nil => exact Int.le_refl 0
 | cons x l ih => have := h x; rw [ctL_cons]; omega
theorem ctL_len {ct : α → Int} (h : ∀ x, 1 ≤ ct x) (l : List α) : (l.length : Int) ≤ ctL ct l := by
 induction l with
 | nil => exact Int.le_refl 0
 | cons x l ih => have := h x; rw [ctL_cons, List.length_cons]; omega
theorem getMk (f : α → T) (mk : α → Int → α) (ct : α → Int) {l : List α} {k k' i : Int} (hk : k' = k + ctL ct (l.take i.toNat)) (h0 : 0 ≤ i) (h1 : i.toNat < l.length) : ((mkL mk ct l k).map f)[i.toNat]? = some (f (mk (l[i.toNat]) k')) := by
 rw [List.getElem?_map]
 have key : ∀ (l : List α) (k : Int) (n : Nat) (h : n < l.length), (mkL mk ct l k)[n]? = some (mk l[n] (k + ctL ct (l.take n))) := by
  intro l
  induction l with
  | nil => intro k n h; simp at h
  | cons x l ih =>
   intro k n h
   cases n with
   | zero => rw [mkL]; simp [ctL_nil]
   | succ n =>
    rw [mkL, List.getElem?_cons_succ, ih _ n (by simpa using h), List.getElem_cons_succ, List.take_succ_cons, ctL_cons]
    rw [Int.add_assoc]
 rw [key l k _ h1, ← hk]; rfl
theorem fget {D L : List α} {m f : Nat} (h : D.length = m) : (D ++ L)[m + f]? = L[f]? := by
 subst h; rw [List.getElem?_append_right (by omega)]; congr 1; omega
theorem fgetE {D L : List α} {m f : Nat} {y : α} (h : D.length = m) (e : L[f]? = some y) : (D ++ L)[m + f]? = some y := (fget h).trans e
theorem fset {D L : List α} {m f : Nat} {y : α} (h : D.length = m) : (D ++ L).set (m + f) y = D ++ L.set f y := by
 subst h; rw [List.set_append_right _ _ (by omega)]; congr 2; omega
theorem flat_lens {cl : α → List T} {n : Nat} (h : ∀ x, (cl x).length = n) (done : List α) {i : Int} (hd : done.length = i.toNat) : (done.flatMap cl).length = i.toNat * n := by
 rw [← hd]; clear hd
 induction done with
 | nil => simp
 | cons x l ih => rw [List.flatMap_cons, List.length_append, h, ih, List.length_cons, Nat.succ_mul]; omega
end
theorem heldIntS_mk {α : Type} (l : List α) (k : Int) (hk : 0 ≤ k) (hb : k + l.length ≤ 1073741824) : Fun Try.prog 61 [.t (T.ints (mkI l k)), .t (.int k)] (.t (.int (k + l.length))) := by
 rw [← heldI_mk l k]; exact heldIntS_fun _ k hk (by rw [mkI_len]; exact hb)
theorem heldIntSS_mk {α : Type} (l : List (List α)) (k : Int) (hk : 0 ≤ k) (hb : k + l.flatten.length ≤ 1073741824) (hl : l.length ≤ 1073741824) : Fun Try.prog 31 [.t (intss (mkSS l k)), .t (.int k)] (.t (.int (k + l.flatten.length))) := by
 rw [← heldSS_mk l k hk]; exact heldIntSS_fun _ k hk (by rw [mkSS_flat]; exact hb) (by rw [mkSS_len]; exact hl)
def SzC (f : Int → Int) (c : Int) : Prop := ∀ left : Int, 0 ≤ left → 0 ≤ f left → c + 8 * f left ≤ 8 * left
theorem szSeq_cn : SzC (szSeq []) 0 := fun left h0 h => by simp [szSeq]
theorem szSeq_cs {f : Int → Int} {fs : List (Int → Int)} {c d : Int} (h1 : SzC f c) (h2 : SzC (szSeq fs) d) : SzC (szSeq (f :: fs)) (c + d) := by
 intro left h0 h
 rw [szSeq] at h ⊢
 split at h
 ·omega
 ·rename_i hf
  rw [if_neg hf]
  have := h1 left h0 (by omega)
  have := h2 (f left) (by omega) h
  omega
theorem SzC.mono {f : Int → Int} {c d : Int} (h : SzC f c) (hd : d ≤ c) : SzC f d := fun left h0 hf => by have := h left h0 hf; omega
theorem szGo_cm {α : Type} {f : α → Int → Int} {ct : α → Int} : ∀ (l : List α), (∀ x, x ∈ l → SzC (f x) (ct x - 8)) → ∀ (left : Int), 0 ≤ left → 0 ≤ szGo f l left → ctL ct l - 8 * l.length + 8 * szGo f l left ≤ 8 * left
 | [], _, left, h0, _ => by simp [szGo, ctL]
 | x :: l, h, left, h0, hg => by
  rw [szGo] at hg ⊢
  split at hg
  ·omega
  ·rename_i hf
   rw [if_neg hf]
   have h1 := h x (List.mem_cons_self ..) left h0 (by omega)
   have h2 := szGo_cm l (fun y hy => h y (List.mem_cons_of_mem _ hy)) (f x left) (by omega) hg
   rw [ctL_cons, List.length_cons]
   omega
theorem szL_cm {α : Type} {f : α → Int → Int} {ct : α → Int} (l : List α) (h : ∀ x, x ∈ l → SzC (f x) (ct x - 8)) : SzC (szL f l) (ctL ct l) := by
 intro left h0 hg
 unfold szL at hg ⊢
 split at hg
 ·omega
 ·rename_i hf
  rw [if_neg hf]
  have := szGo_cm l h (left - l.length) (by omega) hg
  omega
theorem szL_c {α : Type} {f : α → Int → Int} {ct : α → Int} (h : ∀ x, SzC (f x) (ct x - 8)) (l : List α) : SzC (szL f l) (ctL ct l) := szL_cm l fun x _ => h x
open Go.Eng
def mkB {α : Type} : List α → Int → List Bool
 | [], _ => []
 | _ :: l, k => decide (k.tmod 3 = 0) :: mkB l (k + 1)
theorem mkB_len {α : Type} : ∀ (l : List α) (k : Int), (mkB l k).length = l.length
 | [], _ => rfl
 | _ :: l, k => by rw [mkB, List.length_cons, mkB_len l, List.length_cons]
theorem markBoolS_nil (k : Int) : Fun Try.prog 59 [.t (.list 1 []), .t (.int k)] (tupD [.t (.int k)]) := by
 refine Fun.begin tys Try.func59 Z Z (N := 21) [(0, .t (.list 1 [])), (1, .t (.int k))] Z Z (fun w0 G F0 => ?_)
 refine sQ (rG (eZ Z (oN (tN (sQ (sQ (rG (eZ Z (oN (tN (W_block ?_)))))))))))
 refine lK (α := Int) [0, 1] [] (fun x => [(5, .t (.int x))]) (fun x => []) (fun x => 0 ≤ x) (fun x => Int.toNat (0)) 0 ?_ (fun z hx => ?_)
 ·exact Int.le_refl 0
 have hz := hx
 refine nY Z (sQ (sQ (rG (eK 2 Z (evE ?_)))))
 refine eZ Z (oN (tN ?_))
 refine W_cond Z (fun h1 => ?_) (fun h1 => ?_)
 ·
  simp only [HS] at h1
  exfalso; simp at h1; omega
 simp only [HS] at h1
 refine W_exit (tE (loopQ_e (inBlk_y (tN (sQ (rG (eK 2 Z (oN (tN (rT (eR ?_)))))))))))
 ·rfl
theorem markBoolS_m (l : List Bool) (k : Int) (hk : 0 ≤ k) (hb : k + l.length ≤ 1073741824) : MarkF Try.prog 59 (.list 1 (l.map T.bool)) (k) (k + l.length) (.list 1 ((mkB l k).map T.bool)) := by
 refine MarkF.slice Try.func59 rfl rfl (N := 21) rfl (fun y hy => (by obtain ⟨a, _, rfl⟩ := List.mem_map.1 hy; rfl) ) ( by simp [mkB_len]) (fun h => by cases l with | nil => (rw [show k + (([] : List Bool).length : Int) = k from by simp]; exact markBoolS_nil k) | cons _ _ => simp at h) (fun b cap vs w0 G F0 => ?_)
 refine sQ (rG (eZ Z (oN (tN (sQ (sQ (rG (eZ Z (oN (tN (W_block ?_)))))))))))
 refine lK (α := Int × Int × List Value × List T) [0] [] (fun x => [(5, .t (.int (x.1))), (1, .t (.int (x.2.1)))]) (fun x => [(21, .raw b (cap * 1) (x.2.2.1) (x.2.2.2))]) (fun x => 0 ≤ (x.1) ∧ (x.1) ≤ l.length ∧ (x.2.1) = k + (x.1) ∧ ∃ done : List Bool, done.length = (x.1).toNat ∧ (x.2.2.2) = (done ++ l.drop (x.1).toNat).map T.bool ∧ mkB l k = done ++ mkB (l.drop (x.1).toNat) (x.2.1)) (fun x => Int.toNat (l.length - (x.1))) (0, k, vs, (l.map T.bool).flatMap T.cells) ?_ (fun x hx => ?_)
 ·exact ⟨by omega, by omega, by show k = k + 0; omega, [], rfl, by rw [flat_one fun _ => rfl]; rfl, rfl⟩
 obtain ⟨i, k', vs', ts⟩ := x
 obtain ⟨hi0, hi1, hk', done, hd, hts, he⟩ := hx
 dsimp only at hi0 hi1 hk' hd hts he ⊢
 refine nY Z (sQ (sQ (rG (eK 2 Z (WO_lenV Z Z (lt_of Z) Z ⟨4, by kernel_rfl⟩ rfl (eZ Z (oN (tN ?_))))))))
 refine W_cond Z (fun h1 => ?_) (fun h1 => ?_)
 ·
  simp only [HS] at h1
  refine W_skip (tN (sQ (W_block (sQ (rG (eK 3 Z (WO_rem Z Z (lt_of Z) Z Z Z (by first | decide | omega) ?_)))))))
  refine eZ Z (kZ [0,1,5,6,7,8,9,12,13,14,15,16] Z (WO_idxV tys Z Z (lt_of Z) Z Z Z Z Z Z (by omega) (by first | omega | (simp only [List.length_map]; omega)) ?_))
  refine WO_storeV tys (id := 21) Z Z Z Z Z Z Z (by rw [hts]; exact cell1 hd hi0 (by omega)) Z Z Z ?_
  refine nZ Z (oN (tN (rG (eZ Z (evI ?_)))))
  refine eZ Z (oN (bN (tN (rG (eZ Z (evI ?_))))))
  refine eZ Z (oN ?_)
  refine lQ (_, _, _, _) ?_ ?_
  ·dsimp only
   exact ⟨by omega, by omega, by omega, done ++ [decide (k'.tmod 3 = 0)], by simp [hd]; omega, by rw [hts]; exact set1 (g := T.bool) hd hi0 h1 (decide (k'.tmod 3 = 0)), by rw [he, drop_at hi0 h1, mkB]; simp⟩
  ·(show Int.toNat _ < Int.toNat _); omega
 simp only [HS] at h1
 refine W_exit (tE (loopQ_e (inBlk_y (tN (sQ (rG (eK 2 Z (oN (tN (rT ?_))))))))))
 refine EndsM_slice (.inr Z) Z Z Z ?_ ?_
 ·omega
 ·rw [hts, drop_end h1, he, drop_end h1, flat_one fun _ => rfl]; rfl
theorem mkB_at {α : Type} : ∀ (l : List α) (k : Int) (n : Nat) (h : n < (mkB l k).length), (mkB l k)[n] = decide ((k + n).tmod 3 = 0)
 | [], _, n, h => by simp [mkB] at h
 | _ :: l, k, 0, h => by simp [mkB]
 | _ :: l, k, n + 1, h => by
  simp only [mkB, List.getElem_cons_succ]
  rw [mkB_at l (k + 1) n]
  rw [show k + 1 + (n : Int) = k + ((n + 1 : Nat) : Int) from by omega]
theorem heldBoolS_mk (l : List Bool) (k : Int) (hk : 0 ≤ k) (hb : k + l.length ≤ 1073741824) : Fun Try.prog 62 [.t (T.bools (mkB l k)), .t (.int k)] (tupD [.t (.int (k + l.length))]) := by
 have hml := mkB_len l k
 refine Fun.begin tys Try.func62 Z Z (N := 23) [(0, .t (T.bools (mkB l k))), (1, .t (.int k))] Z Z (fun w0 G F0 => ?_)
 refine sQ (rG (eZ Z (oN (tN (sQ (sQ (rG (eZ Z (oN (tN (W_block ?_)))))))))))
 refine lK (α := Int × Int) [0] [] (fun x => [(5, .t (.int (x.1))), (1, .t (.int (x.2)))]) (fun x => []) (fun x => 0 ≤ (x.1) ∧ (x.1) ≤ l.length ∧ (x.2) = k + (x.1)) (fun x => Int.toNat (l.length - (x.1))) (0, k) ?_ (fun x hx => ?_)
 ·exact ⟨by omega, by omega, by show k = k + 0; omega⟩
 obtain ⟨i, k'⟩ := x
 obtain ⟨hi0, hi1, hk'⟩ := hx
 dsimp only at hi0 hi1 hk' ⊢
 refine nY Z (sQ (sQ (rG (eK 2 Z (evE ?_)))))
 refine eZ Z (oN (tN ?_))
 refine W_cond Z (fun h1 => ?_) (fun h1 => ?_)
 ·
  simp only [HS] at h1
  refine W_skip (tN (sQ (W_block (sQ (sQ (rG (eK 2 Z (WO_idxT tys Z Z (lt_of Z) Z Z Z Z Z Z Z (by omega) _ (getT _ _ (by omega) (by omega)) (eK 2 Z (kZ [0,1,5,6,7,8,9,12,13,14,15,16] Z (WO_rem Z Z (lt_of Z) Z Z Z (by first | decide | omega) ?_)))))))))))
  refine eK 2 Z (WO_le (Le.known (t := 19) false Z (by rw [mkB_at]; rw [show k + ((i.toNat : Nat) : Int) = k' from by omega]; simp)) ?_)
  refine oN (tN (W_condF Z (W_skip (tN (rG (eZ Z (evI ?_)))))))
  refine eZ Z (oN (bN (tN (rG (eZ Z (evI ?_))))))
  refine eZ Z (kZ [0,1,5,6,7,8,9,10,11,12,13,14,15,16,17,18,19,20,21] Z (oN ?_))
  refine lQ (_, _) ?_ ?_
  ·dsimp only
   exact ⟨by omega, by omega, by omega⟩
  ·(show Int.toNat _ < Int.toNat _); omega
 simp only [HS] at h1
 refine W_exit (tE (loopQ_e (inBlk_y (tN (sQ (rG (eK 2 Z (oN (tN (rT (eR ?_)))))))))))
 ·refine congrArg (fun n => [D.t (T.int n)]) ?_; omega
mutual
def ctAct : Act → Int
 | .mk _ _ _ l => 1 + 1 + 1 + ctActG l
def ctActG : List Act → Int
 | [] => 0
 | a :: l => ctAct a + ctActG l
end
theorem ctActG_eq : ∀ l, ctActG l = ctL ctAct l
 | [] => by simp [ctActG, ctL]
 | a :: l => by rw [ctActG, ctL_cons, ctActG_eq l]
theorem ctAct_eq (a : Act) : ctAct a = 1 + 1 + 1 + ctL ctAct a.cases := by
 cases a with
 | mk k c n l => rw [ctAct, ctActG_eq]; rfl
mutual
def mkAct : Act → Int → Act
 | .mk _ _ _ l, k => .mk k (k + 1) (k + 1 + 1) (mkActG l (k + 1 + 1 + 1))
def mkActG : List Act → Int → List Act
 | [], _ => []
 | a :: l, k => mkAct a k :: mkActG l (k + ctAct a)
end
theorem mkActG_eq : ∀ l k, mkActG l k = mkL mkAct ctAct l k
 | [], k => by simp [mkActG, mkL]
 | a :: l, k => by rw [mkActG, mkL, mkActG_eq l]
theorem mkAct_eq (a : Act) (k : Int) : mkAct a k = .mk k (k + 1) (k + 1 + 1) (mkL mkAct ctAct a.cases (k + 1 + 1 + 1)) := by
 cases a with
 | mk k c n l => rw [mkAct, mkActG_eq]; rfl
theorem ctAct_pos (a : Act) : 1 ≤ ctAct a := Act.ind (p := fun a => 1 ≤ ctAct a) (fun a ih => by
 rw [ctAct_eq]
 have : 0 ≤ ctL ctAct a.cases := by
  unfold ctL
  have key : ∀ l : List Act, (∀ x, x ∈ l → 1 ≤ ctAct x) → 0 ≤ (l.map ctAct).sum := by
   intro l
   induction l with
   | nil => intro _; simp
   | cons x l ih => intro h; have := h x (List.mem_cons_self ..); have := ih fun y hy => h y (List.mem_cons_of_mem _ hy); rw [List.map_cons, List.sum_cons]; omega
  exact key _ ih
 omega) a
def Act.cl (x : Act) : List T := (Act.tt x).cells
theorem Act.cl_len (x : Act) : x.cl.length = 4 := rfl
theorem mkAct_cl (x : Act) (k : Int) : (mkAct x k).cl = [T.int k, T.int (k + 1), T.int (k + 1 + 1), .list 4 ((mkL mkAct ctAct x.cases (k + 1 + 1 + 1)).map Act.toT)] := by rw [mkAct_eq]; rfl
theorem actFlat : ∀ l : List Act, (l.map Act.toT).flatMap T.cells = l.flatMap Act.cl
 | [] => rfl
 | a :: l => by rw [List.map_cons, List.flatMap_cons, List.flatMap_cons, actFlat l, Act.toT_eq]; rfl
def Act.mtt (x : Act) (k : Int) : T := .agg [T.int k, T.int (k + 1), T.int (k + 1 + 1), .list 4 ((mkL mkAct ctAct x.cases (k + 1 + 1 + 1)).map Act.toT)]
theorem getMkA {l : List Act} {k k' i : Int} (hk : k' = k + ctL ctAct (l.take i.toNat)) (h0 : 0 ≤ i) (h1 : i.toNat < l.length) : ((mkL mkAct ctAct l k).map Act.toT)[i.toNat]? = some ((l[i.toNat]).mtt k') := by
 rw [getMk Act.toT mkAct ctAct hk h0 h1, Act.toT_eq, mkAct_eq]; rfl
theorem markActS_nil (k : Int) : Fun Try.prog 58 [.t (.list 4 []), .t (.int k)] (tupD [.t (.int k)]) := by
 refine Fun.begin tys Try.func58 Z Z (N := 41) [(0, .t (.list 4 [])), (1, .t (.int k))] Z Z (fun w0 G F0 => ?_)
 refine sQ (rG (eZ Z (oN (tN (sQ (sQ (rG (eZ Z (oN (tN (W_block ?_)))))))))))
 refine lK (α := Int) [0, 1] [] (fun x => [(5, .t (.int x))]) (fun x => []) (fun x => 0 ≤ x) (fun x => Int.toNat (0)) 0 ?_ (fun z hx => ?_)
 ·exact Int.le_refl 0
 have hz := hx
 refine nY Z (sQ (sQ (rG (eK 2 Z (evE ?_)))))
 refine eZ Z (oN (tN ?_))
 refine W_cond Z (fun h1 => ?_) (fun h1 => ?_)
 ·
  simp only [HS] at h1
  exfalso; simp at h1; omega
 simp only [HS] at h1
 refine W_exit (tE (loopQ_e (inBlk_y (tN (sQ (rG (eK 2 Z (oN (tN (rT (eR ?_)))))))))))
 ·rfl
theorem markActS_m0 (l : List Act) (k : Int) (hk : 0 ≤ k) (hb : k + ctL ctAct l ≤ 1073741824) (hf : ∀ y, y ∈ l → ∀ k : Int, 0 ≤ k → k + ctL ctAct y.cases ≤ 1073741824 → MarkF Try.prog 58 (T.Acts y.cases) k (k + ctL ctAct y.cases) (T.Acts (mkL mkAct ctAct y.cases k))) : MarkF Try.prog 58 (.list 4 (l.map Act.toT)) (k) (k + ctL ctAct l) (.list 4 ((mkL mkAct ctAct l k).map Act.toT)) := by
 have hlen := ctL_len ctAct_pos l
 refine MarkF.slice Try.func58 rfl rfl (N := 41) rfl (fun y hy => (by obtain ⟨a, _, rfl⟩ := List.mem_map.1 hy; rw [Act.toT_eq]; rfl) ) ( by simp [mkL_len]) (fun h => by cases l with | nil => (rw [show k + ctL ctAct [] = k from by simp [ctL]]; exact markActS_nil k) | cons _ _ => simp at h) (fun b cap vs w0 G F0 => ?_)
 refine sQ (rG (eZ Z (oN (tN (sQ (sQ (rG (eZ Z (oN (tN (W_block ?_)))))))))))
 refine lK (α := Int × Int × List Value × List T) [0] [] (fun x => [(5, .t (.int (x.1))), (1, .t (.int (x.2.1)))]) (fun x => [(41, .raw b (cap * 4) (x.2.2.1) (x.2.2.2))]) (fun x => 0 ≤ (x.1) ∧ (x.1) ≤ l.length ∧ k ≤ (x.2.1) ∧ (x.2.1) + ctL ctAct (l.drop (x.1).toNat) = k + ctL ctAct l ∧ ∃ done : List Act, done.length = (x.1).toNat ∧ (x.2.2.2) = done.flatMap Act.cl ++ (l.drop (x.1).toNat).flatMap Act.cl ∧ mkL mkAct ctAct l k = done ++ mkL mkAct ctAct (l.drop (x.1).toNat) (x.2.1)) (fun x => Int.toNat (l.length - (x.1))) (0, k, vs, (l.map Act.toT).flatMap T.cells) ?_ (fun x hx => ?_)
 ·exact ⟨by omega, by omega, Int.le_refl k, rfl, [], rfl, actFlat l, rfl⟩
 obtain ⟨i, k', vs', ts⟩ := x
 obtain ⟨hi0, hi1, hkk, hk', done, hd, hts, he⟩ := hx
 dsimp only at hi0 hi1 hkk hk' hd hts he ⊢
 refine nY Z (sQ (sQ (rG (eK 2 Z (WO_lenV Z Z (lt_of Z) Z ⟨98, by kernel_rfl⟩ rfl (eZ Z (oN (tN ?_))))))))
 refine W_cond Z (fun h1 => ?_) (fun h1 => ?_)
 ·
  simp only [HS] at h1
  refine W_skip (tN (sQ (W_block (sQ (rG ?_)))))
  have hD := flat_lens Act.cl_len done hd
  have hca := ctL_at ctAct hi0 h1
  have hcx := ctAct_eq (l[i.toNat]'(by omega))
  have hcr := ctL_pos ctAct_pos (l.drop (i + 1).toNat)
  have p0 := ctL_pos ctAct_pos (l[i.toNat]'(by omega)).cases
  rw [drop_at hi0 h1, List.flatMap_cons] at hts
  subst hts
  refine eK 3 Z (WO_idxV tys Z Z (lt_of Z) Z Z Z Z Z Z (by omega) (by first | omega | (simp only [List.length_map]; omega)) ?_)
  refine WO_fieldV tys Z Z (lt_of Z) Z Z Z Z Z (kZ [0,1,5,6,7,8,9,12,13,14,15,16] Z (WO_storeV tys (id := 41) Z Z Z Z Z Z Z (by exact fgetE hD Z) Z Z Z ?_))
  refine nZ Z (oN (tN (sQ (rG (eZ Z (evI ?_))))))
  refine eZ Z (oN (tN (sQ (rG (eK 3 Z (WO_idxV tys Z Z (lt_of Z) Z Z Z Z Z Z (by omega) (by first | omega | (simp only [List.length_map]; omega)) ?_))))))
  refine WO_fieldV tys Z Z (lt_of Z) Z Z Z Z Z (kZ [0,1,5,6,7,8,9,12,13,14,15,16,17,18,19,20,21,22,23] Z (WO_storeV tys (id := 41) Z Z Z Z Z Z Z (by rw [fset hD]; exact fgetE hD Z) Z Z Z ?_))
  refine nZ Z (oN (tN (sQ (rG (eZ Z (evI ?_))))))
  refine eZ Z (oN (tN (sQ (rG (eK 3 Z (WO_idxV tys Z Z (lt_of Z) Z Z Z Z Z Z (by omega) (by first | omega | (simp only [List.length_map]; omega)) ?_))))))
  refine WO_fieldV tys Z Z (lt_of Z) Z Z Z Z Z (kZ [0,1,5,6,7,8,9,12,13,14,15,16,17,18,19,20,21,22,23,24,25,26,27,28,29,30] Z (WO_storeV tys (id := 41) Z Z Z Z Z Z Z (by rw [fset hD, fset hD]; exact fgetE hD Z) Z Z Z ?_))
  refine nZ Z (oN (tN (sQ (rG (eZ Z (evI ?_))))))
  refine eZ Z (oN (tN (rG (eK 2 Z (WO_idxV tys Z Z (lt_of Z) Z Z Z Z Z Z (by omega) (by first | omega | (simp only [List.length_map]; omega)) ?_)))))
  refine WO_fieldV tys Z Z (lt_of Z) Z Z Z Z Z ?_
  refine WO_loadV tys (id := 41) Z Z (lt_of Z) Z Z Z Z Z (by rw [fset hD, fset hD, fset hD]; exact fgetE hD Z) (fun u37 hu37 => ?_)
  refine kZ [0,1,5,6,7,8,9,12,13,14,15,16,17,18,19,20,21,22,23,24,25,26,27,28,29,30,31,32,33,34,35,36,37] Z (eZ Z (WO_markN (id := 41) (j := i.toNat * 4 + 3) Z Z (lt_of Z) Z Z Z Z Z Z (hu37) (by rw [fset hD, fset hD, fset hD]; exact fgetE hD Z) (hf _ (List.getElem_mem (l := l) (n := i.toNat) (by omega)) (k' + 1 + 1 + 1) (by omega) (by omega)) ?_))
  refine eZ Z (oN (bN (tN (rG (eZ Z (evI ?_))))))
  refine eZ Z (oN ?_)
  refine lQ (_, _, _, _) ?_ ?_
  ·dsimp only
   refine ⟨by omega, by omega, by omega, by omega, done ++ [mkAct (l[i.toNat]'(by omega)) k'], by simp [hd]; omega, ?_, ?_⟩
   ·simp only [fset hD]
    rw [List.flatMap_append, List.append_assoc, List.flatMap_cons, mkAct_cl]
    rfl
   ·rw [he, drop_at hi0 h1, mkL, List.append_assoc, show k' + ctAct (l[i.toNat]'(by omega)) = k' + 1 + 1 + 1 + ctL ctAct (l[i.toNat]'(by omega)).cases from by omega]
    rfl
  ·(show Int.toNat _ < Int.toNat _); omega
 simp only [HS] at h1
 refine W_exit (tE (loopQ_e (inBlk_y (tN (sQ (rG (eK 2 Z (oN (tN (rT ?_))))))))))
 refine EndsM_slice (.inr Z) Z Z Z ?_ ?_
 ·rw [drop_end h1] at hk'; simp only [ctL_nil] at hk'; omega
 ·rw [hts, drop_end h1, he, drop_end h1, actFlat, mkL, List.append_nil]; exact List.append_nil _
theorem heldActS_mk0 (l : List Act) (k : Int) (hk : 0 ≤ k) (hb : k + ctL ctAct l ≤ 1073741824) (hf : ∀ y, y ∈ l → ∀ k : Int, 0 ≤ k → k + ctL ctAct y.cases ≤ 1073741824 → Fun Try.prog 103 [.t (T.Acts (mkL mkAct ctAct y.cases k)), .t (.int k)] (.t (.int (k + ctL ctAct y.cases)))) : Fun Try.prog 103 [.t (T.Acts (mkL mkAct ctAct l k)), .t (.int k)] (tupD [.t (.int (k + ctL ctAct l))]) := by
 have hlen := ctL_len ctAct_pos l
 have hml := mkL_len mkAct ctAct l k
 refine Fun.begin tys Try.func103 Z Z (N := 49) [(0, .t (T.Acts (mkL mkAct ctAct l k))), (1, .t (.int k))] Z Z (fun w0 G F0 => ?_)
 refine sQ (rG (eZ Z (oN (tN (sQ (sQ (rG (eZ Z (oN (tN (W_block ?_)))))))))))
 refine lK (α := Int × Int) [0] [] (fun x => [(5, .t (.int (x.1))), (1, .t (.int (x.2)))]) (fun x => []) (fun x => 0 ≤ (x.1) ∧ (x.1) ≤ l.length ∧ k ≤ (x.2) ∧ (x.2) + ctL ctAct (l.drop (x.1).toNat) = k + ctL ctAct l ∧ (x.2) = k + ctL ctAct (l.take (x.1).toNat)) (fun x => Int.toNat (l.length - (x.1))) (0, k) ?_ (fun x hx => ?_)
 ·exact ⟨by omega, by omega, Int.le_refl k, rfl, by rw [show l.take (0 : Int).toNat = [] from rfl]; rw [ctL_nil]; omega⟩
 obtain ⟨i, k'⟩ := x
 obtain ⟨hi0, hi1, hkk, hk', hkt⟩ := hx
 dsimp only at hi0 hi1 hkk hk' hkt ⊢
 refine nY Z (sQ (sQ (rG (eK 2 Z (evE ?_)))))
 refine eZ Z (oN (tN ?_))
 refine W_cond Z (fun h1 => ?_) (fun h1 => ?_)
 ·
  simp only [HS] at h1
  refine W_skip (tN (sQ (W_block (sQ (sQ (rG ?_))))))
  have hca := ctL_at ctAct (l := l) hi0 (by omega)
  have hcx := ctAct_eq (l[i.toNat]'(by omega))
  have hcr := ctL_pos ctAct_pos (l.drop (i + 1).toNat)
  have p0 := ctL_pos ctAct_pos (l[i.toNat]'(by omega)).cases
  refine eK 2 Z (WO_idxT tys Z Z (lt_of Z) Z Z Z Z Z Z Z (by omega) _ (getMkA hkt (by omega) (by omega)) (eK 2 Z (kZ [0,1,5,6,7,8,9,12,13,14,15,16] Z (eK 2 Z (WO_le (Le.known (t := 18) false Z (by simp)) ?_)))))
  refine oN (tN (W_condF Z (W_skip (tN (sQ (rG (eZ Z (evI ?_))))))))
  refine eZ Z (oN (tN (sQ (sQ (rG (eK 2 Z (WO_idxT tys Z Z (lt_of Z) Z Z Z Z Z Z Z (by omega) _ (getMkA hkt (by omega) (by omega)) (eZ Z (kZ [0,1,5,6,7,8,9,12,13,14,15,16,17,18,19,20,21,22,23,24] Z (eK 3 Z (WO_le (Le.known (t := 27) false Z (by simp)) ?_)))))))))))
  refine oN (tN (W_condF Z (W_skip (tN (sQ (rG (eZ Z (evI ?_))))))))
  refine eZ Z (oN (tN (sQ (sQ (rG (eK 2 Z (WO_idxT tys Z Z (lt_of Z) Z Z Z Z Z Z Z (by omega) _ (getMkA hkt (by omega) (by omega)) (kZ [0,1,5,6,7,8,9,12,13,14,15,16,17,18,19,20,21,22,23,24,25,26,27,28,29,30,31,32] Z (eK 4 Z (WO_le (Le.known (t := 36) false Z (by simp)) ?_))))))))))
  refine oN (tN (W_condF Z (W_skip (tN (sQ (rG (eZ Z (evI ?_))))))))
  refine eZ Z (oN (tN (sQ (kY [0,1,5,6,7,8,9,12,13,14,15,16,17,18,19,20,21,22,23,24,25,26,27,28,29,30,31,32,33,34,35,36,37,38] Z (rG (eK 2 Z (WO_idxT tys Z Z (lt_of Z) Z Z Z Z Z Z Z (by omega) _ (getMkA hkt (by omega) (by omega)) (eK 3 Z (callB ?_)))))))))
  refine ⟨_, hf _ (List.getElem_mem (l := l) (n := i.toNat) (by omega)) (k' + 1 + 1 + 1) (by omega) (by omega), rfl, ?_⟩
  refine eZ Z (oN (tN (sQ (kY [0,1,5,6,7,8,9,12,13,14,15,16,17,18,19,20,21,22,23,24,25,26,27,28,29,30,31,32,33,34,35,36,37,38,39,40,41,42,43,44,45] Z (rG (eK 2 Z (WO_le (Le.known (t := 47) false Z (by first | (simp; done) | (simp; omega))) ?_)))))))
  refine oN (tN (W_condF Z (W_skip (bN (tN (rG (eZ Z (evI ?_))))))))
  refine eZ Z (oN ?_)
  refine lQ (_, _) ?_ ?_
  ·dsimp only
   refine ⟨by omega, by omega, by omega, by omega, ?_⟩
   rw [ctL_take ctAct hi0 (by omega)]
   omega
  ·(show Int.toNat _ < Int.toNat _); omega
 simp only [HS] at h1
 refine W_exit (tE (loopQ_e (inBlk_y (tN (sQ (rG (eK 2 Z (oN (tN (rT (eR ?_)))))))))))
 ·rw [drop_end (by omega)] at hk'; simp only [ctL_nil] at hk'; refine congrArg (fun n => [D.t (T.int n)]) ?_; omega
theorem markActS_c (x : Act) (k : Int) (hk : 0 ≤ k) (hb : k + ctL ctAct x.cases ≤ 1073741824) : MarkF Try.prog 58 (T.Acts x.cases) k (k + ctL ctAct x.cases) (T.Acts (mkL mkAct ctAct x.cases k)) :=
 Act.ind (p := fun x => ∀ k : Int, 0 ≤ k → k + ctL ctAct x.cases ≤ 1073741824 → MarkF Try.prog 58 (T.Acts x.cases) k (k + ctL ctAct x.cases) (T.Acts (mkL mkAct ctAct x.cases k)))
  (fun x ih k hk hb => markActS_m0 x.cases k hk hb ih) x k hk hb
theorem markActS_m (l : List Act) (k : Int) (hk : 0 ≤ k) (hb : k + ctL ctAct l ≤ 1073741824) : MarkF Try.prog 58 (T.Acts l) k (k + ctL ctAct l) (T.Acts (mkL mkAct ctAct l k)) := markActS_c (.mk 0 0 0 l) k hk hb
theorem heldActS_c (x : Act) (k : Int) (hk : 0 ≤ k) (hb : k + ctL ctAct x.cases ≤ 1073741824) : Fun Try.prog 103 [.t (T.Acts (mkL mkAct ctAct x.cases k)), .t (.int k)] (.t (.int (k + ctL ctAct x.cases))) :=
 Act.ind (p := fun x => ∀ k : Int, 0 ≤ k → k + ctL ctAct x.cases ≤ 1073741824 → Fun Try.prog 103 [.t (T.Acts (mkL mkAct ctAct x.cases k)), .t (.int k)] (.t (.int (k + ctL ctAct x.cases))))
  (fun x ih k hk hb => heldActS_mk0 x.cases k hk hb ih) x k hk hb
theorem heldActS_mk (l : List Act) (k : Int) (hk : 0 ≤ k) (hb : k + ctL ctAct l ≤ 1073741824) : Fun Try.prog 103 [.t (T.Acts (mkL mkAct ctAct l k)), .t (.int k)] (.t (.int (k + ctL ctAct l))) := heldActS_c (.mk 0 0 0 l) k hk hb
def mkTask (x : Task) (k : Int) : Task := ⟨mkL mkAct ctAct x.acts (k), k + ctL ctAct x.acts, k + ctL ctAct x.acts + 1, k + ctL ctAct x.acts + 1 + 1⟩
def ctTask (x : Task) : Int := ctL ctAct x.acts + 1 + 1 + 1
theorem ctTask_pos (x : Task) : 1 ≤ ctTask x := by
 have p0 := ctL_pos ctAct_pos x.acts
 unfold ctTask; omega
def Task.cl (x : Task) : List T := (Task.tt x).cells
theorem Task.cl_len (x : Task) : x.cl.length = 4 := rfl
theorem markTaskS_nil (k : Int) : Fun Try.prog 60 [.t (.list 4 []), .t (.int k)] (tupD [.t (.int k)]) := by
 refine Fun.begin tys Try.func60 Z Z (N := 41) [(0, .t (.list 4 [])), (1, .t (.int k))] Z Z (fun w0 G F0 => ?_)
 refine sQ (rG (eZ Z (oN (tN (sQ (sQ (rG (eZ Z (oN (tN (W_block ?_)))))))))))
 refine lK (α := Int) [0, 1] [] (fun x => [(5, .t (.int x))]) (fun x => []) (fun x => 0 ≤ x) (fun x => Int.toNat (0)) 0 ?_ (fun z hx => ?_)
 ·exact Int.le_refl 0
 have hz := hx
 refine nY Z (sQ (sQ (rG (eK 2 Z (evE ?_)))))
 refine eZ Z (oN (tN ?_))
 refine W_cond Z (fun h1 => ?_) (fun h1 => ?_)
 ·
  simp only [HS] at h1
  exfalso; simp at h1; omega
 simp only [HS] at h1
 refine W_exit (tE (loopQ_e (inBlk_y (tN (sQ (rG (eK 2 Z (oN (tN (rT (eR ?_)))))))))))
 ·rfl
theorem markTaskS_m (l : List Task) (k : Int) (hk : 0 ≤ k) (hb : k + ctL ctTask l ≤ 1073741824) : MarkF Try.prog 60 (.list 4 (l.map Task.tt)) (k) (k + ctL ctTask l) (.list 4 ((mkL mkTask ctTask l k).map Task.tt)) := by
 have hlen := ctL_len ctTask_pos l
 refine MarkF.slice Try.func60 rfl rfl (N := 41) rfl (fun y hy => (by obtain ⟨a, _, rfl⟩ := List.mem_map.1 hy; rfl) ) ( by simp [mkL_len]) (fun h => by cases l with | nil => (rw [show k + ctL ctTask [] = k from by simp [ctL]]; exact markTaskS_nil k) | cons _ _ => simp at h) (fun b cap vs w0 G F0 => ?_)
 refine sQ (rG (eZ Z (oN (tN (sQ (sQ (rG (eZ Z (oN (tN (W_block ?_)))))))))))
 refine lK (α := Int × Int × List Value × List T) [0] [] (fun x => [(5, .t (.int (x.1))), (1, .t (.int (x.2.1)))]) (fun x => [(41, .raw b (cap * 4) (x.2.2.1) (x.2.2.2))]) (fun x => 0 ≤ (x.1) ∧ (x.1) ≤ l.length ∧ k ≤ (x.2.1) ∧ (x.2.1) + ctL ctTask (l.drop (x.1).toNat) = k + ctL ctTask l ∧ ∃ done : List Task, done.length = (x.1).toNat ∧ (x.2.2.2) = done.flatMap Task.cl ++ (l.drop (x.1).toNat).flatMap Task.cl ∧ mkL mkTask ctTask l k = done ++ mkL mkTask ctTask (l.drop (x.1).toNat) (x.2.1)) (fun x => Int.toNat (l.length - (x.1))) (0, k, vs, (l.map Task.tt).flatMap T.cells) ?_ (fun x hx => ?_)
 ·exact ⟨by omega, by omega, Int.le_refl k, rfl, [], rfl, by rw [List.flatMap_map]; rfl, rfl⟩
 obtain ⟨i, k', vs', ts⟩ := x
 obtain ⟨hi0, hi1, hkk, hk', done, hd, hts, he⟩ := hx
 dsimp only at hi0 hi1 hkk hk' hd hts he ⊢
 refine nY Z (sQ (sQ (rG (eK 2 Z (WO_lenV Z Z (lt_of Z) Z ⟨72, by kernel_rfl⟩ rfl (eZ Z (oN (tN ?_))))))))
 refine W_cond Z (fun h1 => ?_) (fun h1 => ?_)
 ·
  simp only [HS] at h1
  refine W_skip (tN (sQ (W_block (sQ (rG ?_)))))
  have hD := flat_lens Task.cl_len done hd
  have hca := ctL_at ctTask hi0 h1
  have hcx : ctTask (l[i.toNat]'(by omega)) = ctTask (l[i.toNat]'(by omega)) := rfl
  conv at hcx => rhs; unfold ctTask
  have hcr := ctL_pos ctTask_pos (l.drop (i + 1).toNat)
  have p0 := ctL_pos ctAct_pos (l[i.toNat]'(by omega)).acts
  rw [drop_at hi0 h1, List.flatMap_cons] at hts
  subst hts
  refine eK 2 Z (WO_idxV tys Z Z (lt_of Z) Z Z Z Z Z Z (by omega) (by first | omega | (simp only [List.length_map]; omega)) ?_)
  refine WO_fieldV tys Z Z (lt_of Z) Z Z Z Z Z ?_
  refine WO_loadV tys (id := 41) Z Z (lt_of Z) Z Z Z Z Z (by exact fgetE hD Z) (fun u16 hu16 => ?_)
  refine kZ [0,1,5,6,7,8,9,12,13,14,15,16] Z (eZ Z (WO_markN (id := 41) (j := i.toNat * 4 + 0) Z Z (lt_of Z) Z Z Z Z Z Z (hu16) (by exact fgetE hD Z) (markActS_m (l[i.toNat]'(by omega)).acts (k') (by omega) (by omega)) ?_))
  refine eZ Z (oN (tN (sQ (rG (eK 3 Z (WO_idxV tys Z Z (lt_of Z) Z Z Z Z Z Z (by omega) (by first | omega | (simp only [List.length_map]; omega)) ?_))))))
  refine WO_fieldV tys Z Z (lt_of Z) Z Z Z Z Z (WO_storeV tys (id := 41) Z Z Z Z Z Z Z (by rw [fset hD]; exact fgetE hD Z) Z Z Z ?_)
  refine nZ Z (kZ [0,1,5,6,7,8,9,12,13,14,15,16,17,18,19,20,21,22,23] Z (oN (tN (sQ (rG (eZ Z (evI ?_)))))))
  refine eZ Z (oN (tN (sQ (rG (eK 3 Z (WO_idxV tys Z Z (lt_of Z) Z Z Z Z Z Z (by omega) (by first | omega | (simp only [List.length_map]; omega)) ?_))))))
  refine WO_fieldV tys Z Z (lt_of Z) Z Z Z Z Z (WO_storeV tys (id := 41) Z Z Z Z Z Z Z (by rw [fset hD, fset hD]; exact fgetE hD Z) Z Z Z ?_)
  refine nZ Z (kZ [0,1,5,6,7,8,9,12,13,14,15,16,17,18,19,20,21,22,23,24,25,26,27,28,29,30] Z (oN (tN (sQ (rG (eZ Z (evI ?_)))))))
  refine eZ Z (oN (tN (sQ (rG (eK 3 Z (WO_idxV tys Z Z (lt_of Z) Z Z Z Z Z Z (by omega) (by first | omega | (simp only [List.length_map]; omega)) ?_))))))
  refine WO_fieldV tys Z Z (lt_of Z) Z Z Z Z Z (WO_storeV tys (id := 41) Z Z Z Z Z Z Z (by rw [fset hD, fset hD, fset hD]; exact fgetE hD Z) Z Z Z ?_)
  refine nZ Z (kZ [0,1,5,6,7,8,9,12,13,14,15,16,17,18,19,20,21,22,23,24,25,26,27,28,29,30,31,32,33,34,35,36,37] Z (oN (tN (rG (eZ Z (evI ?_))))))
  refine eZ Z (oN (bN (tN (rG (eZ Z (evI ?_))))))
  refine eZ Z (oN ?_)
  refine lQ (_, _, _, _) ?_ ?_
  ·dsimp only
   refine ⟨by omega, by omega, by omega, by omega, done ++ [mkTask (l[i.toNat]'(by omega)) k'], by simp [hd]; omega, ?_, ?_⟩
   ·simp only [fset hD]
    rw [List.flatMap_append, List.append_assoc]
    rfl
   ·rw [he, drop_at hi0 h1, mkL, List.append_assoc, show k' + ctTask (l[i.toNat]'(by omega)) = k' + ctL ctAct (l[i.toNat]'(by omega)).acts + 1 + 1 + 1 from by omega]
    rfl
  ·(show Int.toNat _ < Int.toNat _); omega
 simp only [HS] at h1
 refine W_exit (tE (loopQ_e (inBlk_y (tN (sQ (rG (eK 2 Z (oN (tN (rT ?_))))))))))
 refine EndsM_slice (.inr Z) Z Z Z ?_ ?_
 ·rw [drop_end h1] at hk'; simp only [ctL_nil] at hk'; omega
 ·rw [hts, drop_end h1, he, drop_end h1, List.flatMap_map, mkL, List.append_nil]; exact List.append_nil _
theorem heldTaskS_mk (l : List Task) (k : Int) (hk : 0 ≤ k) (hb : k + ctL ctTask l ≤ 1073741824) : Fun Try.prog 63 [.t (T.Tasks (mkL mkTask ctTask l k)), .t (.int k)] (tupD [.t (.int (k + ctL ctTask l))]) := by
 have hlen := ctL_len ctTask_pos l
 have hml := mkL_len mkTask ctTask l k
 refine Fun.begin tys Try.func63 Z Z (N := 49) [(0, .t (T.Tasks (mkL mkTask ctTask l k))), (1, .t (.int k))] Z Z (fun w0 G F0 => ?_)
 refine sQ (rG (eZ Z (oN (tN (sQ (sQ (rG (eZ Z (oN (tN (W_block ?_)))))))))))
 refine lK (α := Int × Int) [0] [] (fun x => [(5, .t (.int (x.1))), (1, .t (.int (x.2)))]) (fun x => []) (fun x => 0 ≤ (x.1) ∧ (x.1) ≤ l.length ∧ k ≤ (x.2) ∧ (x.2) + ctL ctTask (l.drop (x.1).toNat) = k + ctL ctTask l ∧ (x.2) = k + ctL ctTask (l.take (x.1).toNat)) (fun x => Int.toNat (l.length - (x.1))) (0, k) ?_ (fun x hx => ?_)
 ·exact ⟨by omega, by omega, Int.le_refl k, rfl, by rw [show l.take (0 : Int).toNat = [] from rfl]; rw [ctL_nil]; omega⟩
 obtain ⟨i, k'⟩ := x
 obtain ⟨hi0, hi1, hkk, hk', hkt⟩ := hx
 dsimp only at hi0 hi1 hkk hk' hkt ⊢
 refine nY Z (sQ (sQ (rG (eK 2 Z (evE ?_)))))
 refine eZ Z (oN (tN ?_))
 refine W_cond Z (fun h1 => ?_) (fun h1 => ?_)
 ·
  simp only [HS] at h1
  refine W_skip (tN (sQ (W_block (sQ (rG ?_)))))
  have hca := ctL_at ctTask (l := l) hi0 (by omega)
  have hcx : ctTask (l[i.toNat]'(by omega)) = ctTask (l[i.toNat]'(by omega)) := rfl
  conv at hcx => rhs; unfold ctTask
  have hcr := ctL_pos ctTask_pos (l.drop (i + 1).toNat)
  have p0 := ctL_pos ctAct_pos (l[i.toNat]'(by omega)).acts
  refine eK 2 Z (WO_idxT tys Z Z (lt_of Z) Z Z Z Z Z Z Z (by omega) _ (getMk Task.tt mkTask ctTask hkt (by omega) (by omega)) (eK 2 Z (kZ [0,1,5,6,7,8,9,12,13,14,15,16] Z (eZ Z (callB ?_)))))
  refine ⟨_, heldActS_mk (l[i.toNat]'(by omega)).acts (k') (by omega) (by omega), rfl, ?_⟩
  refine eZ Z (oN (tN (sQ (sQ (rG (eK 2 Z (WO_le (Le.known (t := 20) false Z (by first | (simp; done) | (simp; omega))) ?_)))))))
  refine oN (tN (W_condF Z (W_skip (tN (sQ (sQ (rG (eK 2 Z (WO_idxT tys Z Z (lt_of Z) Z Z Z Z Z Z Z (by omega) _ (getMk Task.tt mkTask ctTask hkt (by omega) (by omega)) (eZ Z (kZ [0,1,5,6,7,8,9,12,13,14,15,16,17,18,19,20,21,22,23,24] Z (eK 3 Z (WO_le (Le.known (t := 27) false Z (by simp [mkTask])) ?_)))))))))))))
  refine oN (tN (W_condF Z (W_skip (tN (sQ (rG (eZ Z (evI ?_))))))))
  refine eZ Z (oN (tN (sQ (sQ (rG (eK 2 Z (WO_idxT tys Z Z (lt_of Z) Z Z Z Z Z Z Z (by omega) _ (getMk Task.tt mkTask ctTask hkt (by omega) (by omega)) (kZ [0,1,5,6,7,8,9,12,13,14,15,16,17,18,19,20,21,22,23,24,25,26,27,28,29,30,31,32] Z (eK 4 Z (WO_le (Le.known (t := 36) false Z (by simp [mkTask])) ?_))))))))))
  refine oN (tN (W_condF Z (W_skip (tN (sQ (rG (eZ Z (evI ?_))))))))
  refine eZ Z (oN (tN (sQ (sQ (kY [0,1,5,6,7,8,9,12,13,14,15,16,17,18,19,20,21,22,23,24,25,26,27,28,29,30,31,32,33,34,35,36,37,38] Z (rG (eK 2 Z (WO_idxT tys Z Z (lt_of Z) Z Z Z Z Z Z Z (by omega) _ (getMk Task.tt mkTask ctTask hkt (by omega) (by omega)) (eK 4 Z (WO_le (Le.known (t := 45) false Z (by simp [mkTask])) ?_))))))))))
  refine oN (tN (W_condF Z (W_skip (tN (kY [0,1,5,6,7,8,9,12,13,14,15,16,17,18,19,20,21,22,23,24,25,26,27,28,29,30,31,32,33,34,35,36,37,38,39,40,41,42,43,44,45] Z (rG (eZ Z (evI ?_))))))))
  refine eZ Z (oN (bN (tN (rG (eZ Z (evI ?_))))))
  refine eZ Z (oN ?_)
  refine lQ (_, _) ?_ ?_
  ·dsimp only
   refine ⟨by omega, by omega, by omega, by omega, ?_⟩
   rw [ctL_take ctTask hi0 (by omega)]
   omega
  ·(show Int.toNat _ < Int.toNat _); omega
 simp only [HS] at h1
 refine W_exit (tE (loopQ_e (inBlk_y (tN (sQ (rG (eK 2 Z (oN (tN (rT (eR ?_)))))))))))
 ·rw [drop_end (by omega)] at hk'; simp only [ctL_nil] at hk'; refine congrArg (fun n => [D.t (T.int n)]) ?_; omega
def mkWorld (x : World) (k : Int) : World := ⟨mkI x.room (k), mkSS x.held (k + (x.room.length : Int)), mkB x.shut (k + (x.room.length : Int) + (x.held.flatten.length : Int)), mkL mkTask ctTask x.tasks (k + (x.room.length : Int) + (x.held.flatten.length : Int) + (x.shut.length : Int)), mkI x.trace (k + (x.room.length : Int) + (x.held.flatten.length : Int) + (x.shut.length : Int) + ctL ctTask x.tasks)⟩
def ctWorld (x : World) : Int := (x.room.length : Int) + (x.held.flatten.length : Int) + (x.shut.length : Int) + ctL ctTask x.tasks + (x.trace.length : Int)
theorem ctWorld_pos (x : World) : 0 ≤ ctWorld x := by
 have p3 := ctL_pos ctTask_pos x.tasks
 unfold ctWorld; omega
theorem markWorld_m (x : World) (k : Int) (hk : 0 ≤ k) (hb : k + ctWorld x ≤ 1073741824) (hl_held : x.held.length ≤ 1073741824) : MarkF Try.prog 25 (.agg ([T.ints x.room, intss x.held, T.bools x.shut, T.Tasks x.tasks, T.ints x.trace])) (k) (k + ctWorld x) (.agg ([T.ints (mkI x.room (k)), intss (mkSS x.held (k + (x.room.length : Int))), T.bools (mkB x.shut (k + (x.room.length : Int) + (x.held.flatten.length : Int))), T.Tasks (mkL mkTask ctTask x.tasks (k + (x.room.length : Int) + (x.held.flatten.length : Int) + (x.shut.length : Int))), T.ints (mkI x.trace (k + (x.room.length : Int) + (x.held.flatten.length : Int) + (x.shut.length : Int) + ctL ctTask x.tasks))])) := by
 have hb2 := hb
 unfold ctWorld at hb2
 have p0 := ctL_pos ctTask_pos x.tasks
 refine MarkF.struct Try.func25 Z Z (N := 26) Z (fun vs hvs hone w0 G F0 => ?_)
 obtain ⟨a0, a1, a2, a3, a4, rfl⟩ : ∃ a0 a1 a2 a3 a4, vs = [a0, a1, a2, a3, a4] := by
  match vs, hvs with
  | [a0, a1, a2, a3, a4], _ => exact ⟨_, _, _, _, _, rfl⟩
 refine sQ (rG (WO_box Z Z (lt_of Z) Z Z (nZ Z (eZ Z (oN (tN (sQ (rG (eK 3 Z (WO_markN (id := 26) (j := 0) Z Z (lt_of Z) Z Z Z Z Z Z (rfl) (rfl) (markIntS_m x.room (k) (by omega) (by omega)) (eZ Z (oN (tN (sQ (kY [1,2,4] Z ?_)))))))))))))))
 refine rG (eK 3 Z (WO_markN (id := 26) (j := 1) Z Z (lt_of Z) Z Z Z Z Z Z (rfl) (rfl) (markIntSS_m x.held (k + (x.room.length : Int)) (by omega) (by omega) (by omega)) (eZ Z (oN (tN (sQ (rG (eK 3 Z (WO_markN (id := 26) (j := 2) Z Z (lt_of Z) Z Z Z Z Z Z (rfl) (rfl) (markBoolS_m x.shut (k + (x.room.length : Int) + (x.held.flatten.length : Int)) (by omega) (by omega)) (kZ [1,2,4,16] Z (eZ Z (oN (tN (sQ (rG ?_)))))))))))))))
 refine eK 3 Z (WO_markN (id := 26) (j := 3) Z Z (lt_of Z) Z Z Z Z Z Z (rfl) (rfl) (markTaskS_m x.tasks (k + (x.room.length : Int) + (x.held.flatten.length : Int) + (x.shut.length : Int)) (by omega) (by omega)) (eZ Z (oN (tN (sQ (rG (eK 3 Z (kZ [1,4,22,23] Z (WO_markN (id := 26) (j := 4) Z Z (lt_of Z) Z Z Z Z Z Z (rfl) (rfl) (markIntS_m x.trace (k + (x.room.length : Int) + (x.held.flatten.length : Int) + (x.shut.length : Int) + ctL ctTask x.tasks) (by omega) (by omega)) (eZ Z (oN (tN (sQ (rG (eK 2 Z ?_)))))))))))))))
 refine oN (tN (rT ?_))
 refine EndsM_struct (.inr Z) Z Z Z ?_ ?_
 ·unfold ctWorld; omega
 ·rfl
theorem heldWorld_mk (x : World) (k : Int) (hk : 0 ≤ k) (hb : k + ctWorld x ≤ 1073741824) (hl_held : x.held.length ≤ 1073741824) : Fun Try.prog 26 [.t (mkWorld x k).tt, .t (.int k)] (tupD [.t (.int (k + ctWorld x))]) := by
 have hb2 := hb
 unfold ctWorld at hb2
 have p0 := ctL_pos ctTask_pos x.tasks
 refine Fun.begin tys Try.func26 Z Z (N := 36) [(0, .t (mkWorld x k).tt), (1, .t (.int k))] Z Z (fun w0 G F0 => ?_)
 refine sQ (rG (WO_box Z Z (lt_of Z) Z Z (nZ Z (eZ Z (oN (tN (sQ (rG (eK 3 Z (callB ?_))))))))))
 refine ⟨_, heldIntS_mk x.room (k) (by omega) (by omega), rfl, ?_⟩
 refine eZ Z (oN (tN (sQ (sQ (kY [1,2,4] Z (rG (eK 2 Z (WO_le (Le.known (t := 10) false Z (by first | (simp; done) | (simp; omega))) ?_))))))))
 refine oN (tN (W_condF Z (W_skip (tN (sQ (rG (eK 3 Z (callB ?_))))))))
 refine ⟨_, heldIntSS_mk x.held (k + (x.room.length : Int)) (by omega) (by omega) (by omega), rfl, ?_⟩
 refine eZ Z (oN (tN (sQ (sQ (kY [1,2,4] Z (rG (eK 2 Z (WO_le (Le.known (t := 16) false Z (by first | (simp; done) | (simp; omega))) ?_))))))))
 refine oN (tN (W_condF Z (W_skip (tN (sQ (rG (eK 3 Z (callB ?_))))))))
 refine ⟨_, heldBoolS_mk x.shut (k + (x.room.length : Int) + (x.held.flatten.length : Int)) (by omega) (by omega), rfl, ?_⟩
 refine eZ Z (oN (tN (sQ (sQ (kY [1,2,4] Z (rG (eK 2 Z (WO_le (Le.known (t := 22) false Z (by first | (simp; done) | (simp; omega))) ?_))))))))
 refine oN (tN (W_condF Z (W_skip (tN (sQ (rG (eK 3 Z (callB ?_))))))))
 refine ⟨_, heldTaskS_mk x.tasks (k + (x.room.length : Int) + (x.held.flatten.length : Int) + (x.shut.length : Int)) (by omega) (by omega), rfl, ?_⟩
 refine eZ Z (oN (tN (sQ (sQ (kY [1,2,4] Z (rG (eK 2 Z (WO_le (Le.known (t := 28) false Z (by first | (simp; done) | (simp; omega))) ?_))))))))
 refine oN (tN (W_condF Z (W_skip (tN (sQ (rG (eK 3 Z (callB ?_))))))))
 refine ⟨_, heldIntS_mk x.trace (k + (x.room.length : Int) + (x.held.flatten.length : Int) + (x.shut.length : Int) + ctL ctTask x.tasks) (by omega) (by omega), rfl, ?_⟩
 refine eZ Z (oN (tN (sQ (sQ (kY [1,4] Z (rG (eK 2 Z (WO_le (Le.known (t := 34) false Z (by first | (simp; done) | (simp; omega))) ?_))))))))
 refine oN (tN (W_condF Z (W_skip (tN (sQ (rG (eK 2 Z (oN (tN (rT (eR ?_)))))))))))
 ·refine congrArg (fun n => [D.t (T.int n)]) ?_; unfold ctWorld; omega
theorem szAct_c (x : Act) : SzC (szAct x) (ctAct x - 8) := Act.ind (p := fun x => SzC (szAct x) (ctAct x - 8)) (fun x ih => by
 have h := (szSeq_cs (szL_cm x.cases ih) szSeq_cn).mono (d := ctAct x - 8) (by rw [ctAct_eq]; omega)
 intro left h0 hg
 rw [szAct_eq] at hg ⊢
 exact h left h0 hg) x
open Go.Eng
def task0 : Task := ⟨[], 0, 0, 0⟩
def act0 : Act := .mk 0 0 0 []
def tk (w : World) (i : Int) : Task := at0 task0 w.tasks i
def actOf (w : World) (mv : List Int) : Act := at0 act0 (ways (tk w (at0 0 mv 0))) (at0 0 mv 1)
structure MvOk (w : World) (mv : List Int) : Prop where
 len : mv.length = 4
 i0 : 0 ≤ at0 0 mv 0
 i1 : at0 0 mv 0 < w.tasks.length
 k0 : 0 ≤ at0 0 mv 1
 k1 : at0 0 mv 1 < (ways (tk w (at0 0 mv 0))).length
 j : (at0 0 mv 2 = -1 ∧ alone w (actOf w mv) = true) ∨ ((0 ≤ at0 0 mv 2 ∧ at0 0 mv 2 < w.tasks.length) ∧ (¬ at0 0 mv 0 = at0 0 mv 2) ∧ 0 < (ways (tk w (at0 0 mv 2))).length)
section
variable {w : World} {i k : Int} {a : Act}
end
theorem heldGo_iff : ∀ {hs : List (List Int)} {rs : List Int}, heldGo hs rs = true ↔ ∀ (k : Nat) (h1 : k < hs.length) (h2 : k < rs.length), ((hs[k].length : Int) ≤ rs[k]) ∧ allIn hs[k] (-1000) 1000 = true
 | [], _ => by simp [heldGo]
 | _ :: _, [] => by simp [heldGo]
 | l :: hs, r :: rs => by
  rw [heldGo, Bool.and_eq_true, Bool.and_eq_true, decide_eq_true_eq, heldGo_iff]
  constructor
  ·rintro ⟨a, b, h⟩ k h1 h2
   cases k with
   | zero => exact ⟨a, b⟩
   | succ k => exact h k (by simpa using h1) (by simpa using h2)
  ·intro h
   refine ⟨(h 0 (by simp) (by simp)).1, (h 0 (by simp) (by simp)).2, fun k h1 h2 => ?_⟩
   exact h (k + 1) (by simpa using h1) (by simpa using h2)
structure GW (w : World) : Prop where
 room : (1 : Int) ≤ w.room.length ∧ (w.room.length : Int) ≤ 3
 held : (w.held.length : Int) = w.room.length
 shut : (w.shut.length : Int) = w.room.length
 rooms : allIn w.room 0 3 = true
 tasks : (1 : Int) ≤ w.tasks.length ∧ (w.tasks.length : Int) ≤ 4
 trace : (w.trace.length : Int) ≤ 120
 tr : allIn w.trace (-1000) 1000 = true
 hs : ∀ (k : Nat) (h1 : k < w.held.length) (h2 : k < w.room.length), ((w.held[k].length : Int) ≤ w.room[k]) ∧ allIn w.held[k] (-1000) 1000 = true
 ts : ∀ t, t ∈ w.tasks → goodTask w.room.length t = true
theorem gw_iff {w : World} : goodWorld w = true ↔ GW w := by
 unfold goodWorld
 simp only [Bool.and_eq_true, decide_eq_true_eq, List.all_eq_true, heldGo_iff]
 exact ⟨fun ⟨a, b, d, e, f, g, h, i, j⟩ => ⟨a, b, d, e, f, g, h, i, j⟩, fun h => ⟨h.1, h.2, h.3, h.4, h.5, h.6, h.7, h.8, h.9⟩⟩
open Go.Eng
theorem readIz (l : List Int) : ∀ x, x ∈ l.map T.int → (T.cells x).length = 1 ∧ ∀ y, y ∈ T.cells x → ∃ v, y = .v v := by
 intro x hx
 obtain ⟨n, _, rfl⟩ := List.mem_map.1 hx
 exact ⟨rfl, fun y hy => by simp [T.cells] at hy; exact ⟨_, hy⟩⟩
theorem readBz (l : List Bool) : ∀ x, x ∈ l.map T.bool → (T.cells x).length = 1 ∧ ∀ y, y ∈ T.cells x → ∃ v, y = .v v := by
 intro x hx
 obtain ⟨n, _, rfl⟩ := List.mem_map.1 hx
 exact ⟨rfl, fun y hy => by simp [T.cells] at hy; exact ⟨_, hy⟩⟩
theorem cloneI_fun (l : List Int) (hl : l.length ≤ 1073741824) : Fun Try.prog 99 [.t (T.ints l)] (tupD [.own (T.ints l)]) := by
 refine Fun.begin tys Try.func99 Z Z (N := 8) [(0, .t (T.ints l))] Z Z (fun w0 G F0 => ?_)
 refine sQ (rG (eZ Z (oN (tN (sQ (sQ (rG (eZ Z ?_))))))))
 refine WO_nilEq (e := 3) Z Z (lt_of Z) Z (by kernel_rfl) Z Z (fun b hb => ?_)
 refine oN (tN ?_)
 refine W_cond Z (fun h1 => ?_) (fun h1 => ?_)
 ·
  refine sQ (rG (eZ Z (oN (tN (W_le (Le.nilOwn (u := 2) 1 Z) (rT (tR (eR ?_))))))))
  ·have e := List.map_eq_nil_iff.1 (hb h1)
   rw [e]
   rfl
 refine W_skip (tN (sQ (rG ?_)))
 refine WO_buildSlice tys [] Z Z (lt_of Z) Z Z Z Z Z (by decide) (by repeat (first | exact PartsOk.nil' | refine PartsOk.cons' rfl (by repeat (first | exact AbsL.nil' | refine AbsL.v' ?_ | refine AbsL.own' ?_ | refine AbsL.none' ?_)) Z ?_)) (by first | exact List.nodup_nil | exact nodup1 _ | decide | exact nodupB_sound Z) Z (by decide) ?_
 refine nZ Z (eZ Z (WO_append tys Z Z (lt_of Z) Z Z Z Z Z (.own Z (by first | omega | (simp only [List.length_append]; omega))) Z (.read (readIz _)) (by decide) (by simp; omega) (by decide) Z ?_))
 refine nZ Z (eZ Z (oN (tN (W_le (Le.gather (u := 2) (id := 5) Z Z (by simp)) ?_))))
 refine rT (eR ?_)
 ·show [D.own (.list 1 _)] = [D.own (.list 1 _)]
  simp only [List.take_length, List.nil_append, List.length_map]
  rw [List.take_of_length_le (by simp)]
def toldA (C : List (Act × List Value)) : List T := C.map fun c => .agg (c.2.map T.v)
theorem toldA_flat (C : List (Act × List Value)) : (toldA C).flatMap T.cells = (C.flatMap (·.2)).map T.v := by
 unfold toldA; rw [List.flatMap_map, List.map_flatMap]; rfl
theorem toldA_len (C : List (Act × List Value)) : (toldA C).length = C.length := List.length_map ..
theorem toldA_read {C : List (Act × List Value)} (h : ∀ c, c ∈ C → c.2.length = 4) : ∀ x, x ∈ toldA C → (T.cells x).length = 4 ∧ ∀ y, y ∈ T.cells x → ∃ v, y = .v v := by
 intro x hx
 obtain ⟨c, hc, rfl⟩ := List.mem_map.1 hx
 refine ⟨by show (c.2.map T.v).length = 4; rw [List.length_map, h c hc], fun y hy => ?_⟩
 obtain ⟨v, _, rfl⟩ := List.mem_map.1 hy
 exact ⟨v, rfl⟩
theorem mapAt' {α β : Type} {f : α → β} {l : List α} {k : Nat} {x : α} (h : l[k]? = some x) : (l.map f)[k]? = some (f x) := by rw [List.getElem?_map, h]; rfl
theorem cellsA (l : List Act) : ∀ x, x ∈ l.map Act.toT → (T.cells x).length = 4 := by
 intro x hx; obtain ⟨a, _, rfl⟩ := List.mem_map.1 hx; rw [Act.toT_eq]; rfl
theorem cloneAv_fun (ys : List T) (hl : ys.length ≤ 1073741824) (hr : ∀ x, x ∈ ys → (T.cells x).length = 4 ∧ ∀ y, y ∈ T.cells x → ∃ v, y = .v v) : Fun Try.prog 100 [.t (.list 4 ys)] (tupD [.own (.list 4 ys)]) := by
 refine Fun.begin tys Try.func100 Z Z (N := 8) [(0, .t (.list 4 ys))] Z Z (fun w0 G F0 => ?_)
 refine sQ (rG (eZ Z (oN (tN (sQ (sQ (rG (eZ Z ?_))))))))
 refine WO_nilEq (e := 98) Z Z (lt_of Z) Z (by kernel_rfl) Z Z (fun b hb => ?_)
 refine oN (tN ?_)
 refine W_cond Z (fun h1 => ?_) (fun h1 => ?_)
 ·
  refine sQ (rG (eZ Z (oN (tN (W_le (Le.nilOwn (u := 2) 4 Z) (rT (tR (eR ?_))))))))
  ·rw [hb h1]
   done
 refine W_skip (tN (sQ (rG ?_)))
 refine WO_buildSlice tys [] Z Z (lt_of Z) Z Z Z Z Z (by decide) (by repeat (first | exact PartsOk.nil' | refine PartsOk.cons' rfl (by repeat (first | exact AbsL.nil' | refine AbsL.v' ?_ | refine AbsL.own' ?_ | refine AbsL.none' ?_)) Z ?_)) (by first | exact List.nodup_nil | exact nodup1 _ | decide | exact nodupB_sound Z) Z (by decide) ?_
 refine nZ Z (eZ Z (WO_append tys Z Z (lt_of Z) Z Z Z Z Z (.own Z (by first | omega | (simp only [List.length_append]; omega))) Z (.read hr) (by decide) (by simp; omega) (by decide) Z ?_))
 refine nZ Z (eZ Z (oN (tN (W_le (Le.gather (u := 2) (id := 5) Z Z (by simp)) ?_))))
 refine rT (eR ?_)
 ·show [D.own (.list 4 _)] = [D.own (.list 4 _)]
  simp
  done
theorem snd_at {n : Nat} : ∀ {C : List (Act × List Value)} (h : ∀ c, c ∈ C → c.2.length = n) {k j : Nat} (hk : k < C.length), j < n → (C.flatMap (·.2))[k * n + j]? = (C[k]).2[j]?
 | [], _, k, _, hk, _ => by simp at hk
 | c :: C, h, 0, j, hk, hj => by
  have := h c (by simp)
  rw [List.flatMap_cons, Nat.zero_mul, Nat.zero_add, List.getElem?_append_left (by omega)]
  rfl
 | c :: C, h, k + 1, j, hk, hj => by
  have hc := h c (by simp)
  rw [List.flatMap_cons, List.getElem?_append_right (by rw [hc, Nat.succ_mul]; omega)]
  have := snd_at (C := C) (fun d hd => h d (by simp [hd])) (k := k) (j := j) (by simpa using hk) hj
  rw [hc, show (k + 1) * n + j - n = k * n + j from by rw [Nat.succ_mul]; omega, this]
  rfl
theorem mixA_at {α : Type} {f : α → T} {l : List α} {ys : List T} {k : Nat} (hk : k ≤ l.length) : ((l.take k).map f ++ ys.drop k)[0 + k]? = ys[k]? := by
 rw [List.getElem?_append_right (by simp; omega)]
 simp [Nat.min_eq_left hk]
theorem mixA_set {α : Type} {f : α → T} {l : List α} {ys : List T} {k : Nat} (hk : k < l.length) (hy : k < ys.length) {t : T} (ht : t = f l[k]) : ((l.take k).map f ++ ys.drop k).set (0 + k) t = (l.take (k + 1)).map f ++ ys.drop (k + 1) := by
 subst ht
 rw [List.set_append_right _ _ (by simp; omega), List.take_succ_eq_append_getElem hk, List.map_append]
 simp [Nat.min_eq_left (Nat.le_of_lt hk)]
 rw [List.drop_eq_getElem_cons hy]
 rfl
theorem cloneActs_rec (l : List Act) (hl : l.length ≤ 1048576) (ih : ∀ a, a ∈ l → Fun Try.prog 101 [.t (T.Acts a.cases)] (tupD [.own (T.Acts a.cases)])) : Fun Try.prog 101 [.t (T.Acts l)] (tupD [.own (T.Acts l)]) := by
  refine Fun.begin tys Try.func101 Z Z (N := 24) [(0, .t (T.Acts l))] Z Z (fun w0 G F0 => ?_)
  refine sQ ?_
  refine W_tellL (u := 0) 101 Z (fun vs hvs => ?_)
  obtain ⟨C, hC1, hC2, rfl⟩ := cutV (l := l) (vs := vs) (n := 4) (by rw [hvs, List.length_map])
  have hCl : C.length = l.length := by rw [← hC1, List.length_map]
  refine ⟨toldA C, toldA_flat C, by rw [toldA_len, List.length_map, hCl], fun y hy => (toldA_read hC2 y hy).1, ?_⟩
  refine nY Z (rG (eZ Z (oN (tN (sQ (rG (eZ Z (callB ?_))))))))
  refine ⟨_, cloneAv_fun _ (by rw [toldA_len]; omega) (toldA_read hC2), rfl, ?_⟩
  refine WO_le (Le.adoptE (u := 7) 7 Z (by first | exact lenN | exact Z)) ?_
  refine nZ Z (eZ Z (oN (tN (sQ (sQ (rG (eZ Z (evE ?_))))))))
  refine eZ Z (oN (tN (W_block ?_)))
  refine lK (α := Int × List T) [3, 8, 9] [101] (fun x => [(10, .t (.int (x.1)))]) (fun x => [(7, .L 4 (x.2))]) (fun x => 0 ≤ (x.1) ∧ (x.1) ≤ l.length ∧ (x.2) = (l.take (x.1).toNat).map Act.toT ++ (toldA C).drop (x.1).toNat) (fun x => Int.toNat (l.length - (x.1))) (0, toldA C) ?_ (fun x hx => ?_)
  · exact ⟨by omega, by omega, rfl⟩
  obtain ⟨k, zs⟩ := x
  obtain ⟨hk0, hk1, hzs⟩ := hx
  dsimp only at hk0 hk1 hzs ⊢
  refine nY Z (sQ (rG (eZ Z (oN (tN (sQ ?_))))))
  refine W_cond Z (fun h1 => ?_) (fun h1 => ?_)
  ·
    simp only [HS] at h1
    refine W_skip (tN (sQ (W_block (sQ (rG (eZ Z ?_))))))
    have hkl : k.toNat < C.length := by omega
    have hlk : k.toNat < l.length := by omega
    obtain ⟨v0, v1, v2, v3, hv⟩ : ∃ v0 v1 v2 v3, (C[k.toNat]'hkl).2 = [v0, v1, v2, v3] := by
     have h4 := hC2 _ (List.getElem_mem hkl)
     match (C[k.toNat]'hkl).2, h4 with
     | [v0, v1, v2, v3], _ => exact ⟨_, _, _, _, rfl⟩
    have hy : zs[0 + k.toNat]? = some (.agg [.v v0, .v v1, .v v2, .v v3]) := by rw [hzs, mixA_at (by omega), toldA, List.getElem?_map, List.getElem?_eq_getElem hkl]; simp [hv]
    have hcv : ∀ j (hj : j < 4), (C.flatMap (·.2))[k.toNat * 4 + j]? = [v0, v1, v2, v3][j]? := fun j hj => by rw [snd_at hC2 hkl hj, hv]
    have hct : ∀ j (hj : j < 4), ((l.map Act.toT).flatMap T.cells)[k.toNat * 4 + j]? = (T.cells (l[k.toNat]).tt)[j]? := fun j hj => by rw [flat_atc (cellsA l) (mapAt' (List.getElem?_eq_getElem hlk)) hj, Act.toT_eq]
    refine WO_roTold 101 (k.toNat * 4 + 0) Z (x := .int .i64 (l[k.toNat]).kind) (by rw [hct 0 (by decide)]; rfl) (hcv 0 (by decide)) (fun e0 => ?_)
    refine WO_roTold 101 (k.toNat * 4 + 1) Z (x := .int .i64 (l[k.toNat]).chan) (by rw [hct 1 (by decide)]; rfl) (hcv 1 (by decide)) (fun e1 => ?_)
    refine WO_roTold 101 (k.toNat * 4 + 2) Z (x := .int .i64 (l[k.toNat]).n) (by rw [hct 2 (by decide)]; rfl) (hcv 2 (by decide)) (fun e2 => ?_)
    subst e0 e1 e2
    refine WO_idxS tys Z Z (lt_of Z) Z Z Z Z Z Z Z Z (by omega) (by omega) (WO_loadL tys Z Z (lt_of Z) Z Z Z Z (hy) Z (nZ Z (WO_alloc tys Z Z (lt_of Z) Z Z Z (nZ Z (eZ Z (sT Z (nZ Z (oN (tN (kY [3,4,5,8,9,10,11,12,13,14] Z (rG (eK 4 Z (nZ Z (WO_le (Le.roUntell (u := 18) 101 (k.toNat * 4 + 3) Z Z (hcv 3 (by decide)) (by rw [hct 3 (by decide)]; rfl)) ?_))))))))))))))
    refine nZ Z (callB ?_)
    refine ⟨_, ih _ (List.getElem_mem (show k.toNat < l.length by omega)), rfl, ?_⟩
    refine nZ Z (WO_idxS tys Z Z (lt_of Z) Z Z Z Z Z Z Z Z (by omega) (by omega) (eZ Z (WO_storeL tys [T.Acts (l[k.toNat]).cases] Z Z Z Z Z Z hy Z (AbsL.own' AbsL.nil') Z (Nat.le_of_ble_eq_true Z) (Nat.le_of_ble_eq_true Z) (nZ Z (oN (bN (tN (kY [3,4,5,8,9,10,11,12,13,14,15,16,17,18,19,20,21] Z (rG (evI ?_))))))))))
    refine eZ Z (oN ?_)
    refine lQ (_, _) ?_ ?_
    · dsimp only
      rw [show (k + 1).toNat = k.toNat + 1 from by omega]
      refine ⟨by omega, by omega, ?_⟩
      rw [hzs]
      exact mixA_set hlk (by rw [toldA_len]; exact hkl) (Act.toT_eq _).symm
    · (show Int.toNat _ < Int.toNat _); omega
  simp only [HS] at h1
  refine W_exit (tE (loopQ_e (inBlk_y (tN (sQ (rG (eK 2 Z (oN (tN (W_le (Le.gather (u := 2) (id := 7) Z Z (by rw [hzs]; simp [toldA_len]; omega)) ?_))))))))))
  refine rT (eR ?_)
  · (rw [hzs, List.drop_eq_nil_of_le (by rw [toldA_len]; omega), List.append_nil, take_end (by omega), List.take_of_length_le (by simp; omega)])
    all_goals rfl
theorem cloneActs_of (a : Act) : a.ok 1048576 → Fun Try.prog 101 [.t (T.Acts a.cases)] (tupD [.own (T.Acts a.cases)]) :=
 Act.ind (p := fun a => a.ok 1048576 → Fun Try.prog 101 [.t (T.Acts a.cases)] (tupD [.own (T.Acts a.cases)])) (fun a ih h => cloneActs_rec a.cases h.cases'.1 fun b hb => ih b hb (h.cases'.2 b hb)) a
theorem cloneActs_fun (l : List Act) (h : okL 1048576 (Act.ok 1048576) l) : Fun Try.prog 101 [.t (T.Acts l)] (tupD [.own (T.Acts l)]) :=
 cloneActs_rec l h.1 fun a ha => cloneActs_of a (h.2 a ha)
open Go.Eng
theorem tasks_cells {l : List Task} : ∀ x, x ∈ l.map Task.tt → (T.cells x).length = 4 := by
 intro x hx
 obtain ⟨t, _, rfl⟩ := List.mem_map.1 hx
 rfl
theorem zip_some {α β : Type} {hdr : List α} {l : List β} {i : Nat} (h1 : i < hdr.length) (h2 : i < l.length) : (hdr.zip l)[i]? = some (hdr[i], l[i]) := by
 rw [List.getElem?_zip_eq_some]; exact ⟨List.getElem?_eq_getElem h1, List.getElem?_eq_getElem h2⟩
section
variable {w : World} {mv : List Int}
end
open Go.Eng
section
variable {P : Program} {c : Ctx} {s : St} {Q : Exit → St → Prop} {ops : Array Oper}
end
def world0 : World := ⟨[], [], [], [], []⟩
abbrev World.dd (w : World) : D := .agg [.own (T.ints w.room), .own (intss w.held), .own (T.bools w.shut), .own (T.Tasks w.tasks), .own (T.ints w.trace)]
open Go.Eng
inductive All2 {α β : Type} (p : α → β → Prop) : List α → List β → Prop
 | nil : All2 p [] []
 | cons {a b l m} : p a b → All2 p l m → All2 p (a :: l) (b :: m)
theorem All2.len {α β : Type} {p : α → β → Prop} {l : List α} {m : List β} (h : All2 p l m) : l.length = m.length := by
 induction h with
 | nil => rfl
 | cons _ _ ih => simp [ih]
theorem All2.at {α β : Type} {p : α → β → Prop} {l : List α} {m : List β} (h : All2 p l m) : ∀ {i : Nat} (h1 : i < l.length) (h2 : i < m.length), p l[i] m[i] := by
 induction h with
 | nil => intro i h1; simp at h1
 | cons h _ ih =>
  intro i h1 h2
  cases i with
  | zero => exact h
  | succ i => exact ih (by simpa using h1) (by simpa using h2)
theorem All2.left {α β : Type} {p : α → β → Prop} {l : List α} {m : List β} (h : All2 p l m) : ∀ {a}, a ∈ l → ∃ b, b ∈ m ∧ p a b := by
 induction h with
 | nil => intro a h; cases h
 | cons h _ ih =>
  intro a ha
  rcases List.mem_cons.1 ha with rfl | ha
  ·exact ⟨_, List.mem_cons_self .., h⟩
  ·obtain ⟨b, h1, h2⟩ := ih ha
   exact ⟨b, List.mem_cons_of_mem _ h1, h2⟩
def TCase (z : T) (b : Act) : Prop := b.cases = [] ∧ ∃ a c, z = .agg [T.int b.kind, T.int b.chan, T.int b.n, .v (.slice a 0 c)]
def TAct (y : T) (a : Act) : Prop := ∃ zs, y = .agg [T.int a.kind, T.int a.chan, T.int a.n, .list 4 zs] ∧ All2 TCase zs a.cases
def TActs (x : T) (l : List Act) : Prop := ∃ ys, x = .list 4 ys ∧ All2 TAct ys l
def ttT (p : T × Task) : T := .agg [p.1, T.int p.2.pos, T.int p.2.state, T.int p.2.last]
abbrev ttW (w : World) (xs : List T) : T := .agg [T.ints w.room, intss w.held, T.bools w.shut, .list 4 ((xs.zip w.tasks).map ttT), T.ints w.trace]
abbrev ddW (w : World) (xs : List T) : D := .agg [.own (T.ints w.room), .own (intss w.held), .own (T.bools w.shut), .own (.list 4 ((xs.zip w.tasks).map ttT)), .own (T.ints w.trace)]
theorem case_read {zs : List T} {l : List Act} (h : All2 TCase zs l) : ∀ x, x ∈ zs → (T.cells x).length = 4 ∧ ∀ y, y ∈ T.cells x → ∃ v, y = .v v := by
 intro x hx
 obtain ⟨b, _, _, a, c, rfl⟩ := h.left hx
 refine ⟨rfl, fun y hy => ?_⟩
 simp [T.cells] at hy
 rcases hy with rfl | rfl | rfl | rfl <;> exact ⟨_, rfl⟩
theorem l1OwnW_fun (l : List Int) (hl : l.length ≤ 1073741824) : Fun Try.prog 94 [.t (T.ints l)] (tupD [.own (T.ints l)]) := by
 refine Fun.begin tys Try.func94 Z Z (N := 6) [(0, .t (T.ints l))] Z Z (fun w0 G F0 => ?_)
 refine sQ (rG (eZ Z (oN (tN (sQ (rG ?_))))))
 refine WO_buildSlice tys [] Z Z (lt_of Z) Z Z Z Z Z (by decide) (by repeat (first | exact PartsOk.nil' | refine PartsOk.cons' rfl (by repeat (first | exact AbsL.nil' | refine AbsL.v' ?_ | refine AbsL.own' ?_ | refine AbsL.none' ?_)) Z ?_)) (by first | exact List.nodup_nil | exact nodup1 _ | decide | exact nodupB_sound Z) Z (by decide) ?_
 refine nZ Z (eZ Z (WO_append tys Z Z (lt_of Z) Z Z Z Z Z (.own Z (by first | omega | (simp only [List.length_append]; omega))) Z (.read (readIz l)) (by decide) (by simp; omega) (by decide) Z ?_))
 refine nZ Z (eZ Z (oN (tN (W_le (Le.gather (u := 2) (id := 3) Z Z (by simp)) ?_))))
 refine rT (eR ?_)
 ·(simp only [List.take_append, List.take_length, List.nil_append, List.length_nil, Nat.zero_add, List.take_nil, Nat.sub_zero]; rfl)
theorem ownAct_fun (k c n : Int) (zs : List T) (hl : zs.length ≤ 1048576) (hz : ∀ x, x ∈ zs → (T.cells x).length = 4 ∧ ∀ y, y ∈ T.cells x → ∃ v, y = .v v) : Fun Try.prog 95 [.t (.agg [T.int k, T.int c, T.int n, .list 4 zs])] (tupD [.agg [.t (T.int k), .t (T.int c), .t (T.int n), .own (.list 4 zs)]]) := by
 refine Fun.begin tys Try.func95 Z Z (N := 9) [(0, .t (.agg [T.int k, T.int c, T.int n, .list 4 zs]))] Z Z (fun w0 G F0 => ?_)
 refine sQ (rG (WO_box Z Z (lt_of Z) Z Z (nZ Z (WO_alloc tys Z Z (lt_of Z) Z Z Z (nZ Z (oN (tN (sQ (rG ?_)))))))))
 refine WO_buildSlice tys [] Z Z (lt_of Z) Z Z Z Z Z (by decide) (by repeat (first | exact PartsOk.nil' | refine PartsOk.cons' rfl (by repeat (first | exact AbsL.nil' | refine AbsL.v' ?_ | refine AbsL.own' ?_ | refine AbsL.none' ?_)) Z ?_)) (by first | exact List.nodup_nil | exact nodup1 _ | decide | exact nodupB_sound Z) Z (by decide) ?_
 refine nZ Z (eK 2 Z (WO_append tys Z Z (lt_of Z) Z Z Z Z Z (.own Z (by first | omega | (simp only [List.length_append]; omega))) Z (.read hz) (by decide) (by simp; omega) (by decide) Z ?_))
 refine nZ Z (WO_le (Le.gather (u := 6) (id := 3) Z Z (by first | (simp; done) | (simp; omega) | omega)) ?_)
 refine nZ Z (eZ Z (sT Z (nZ Z (oN (tN (sQ (kY [1,2] Z (rG (WO_loadMove tys Z Z (lt_of Z) Z Z Z Z Z Z (nZ Z (sT Z (nZ Z (oN (tN (rT ?_)))))))))))))))
 refine eR ?_
 ·simp only [List.take_append, List.take_length, List.nil_append, List.length_nil, Nat.zero_add, List.take_nil, Nat.sub_zero]
theorem ownW_fun (w : World) (xs : List T) (hw : w.ok 1048576) (hx : All2 TActs xs (w.tasks.map Task.acts)) : Fun Try.prog 54 [.t (ttW w xs)] (tupD [ddW w xs]) := by
 have hw1 : w.room.length ≤ 1048576 := hw.1
 have hw2 : w.held.length ≤ 1048576 := hw.2.1.1
 have hw3 : w.shut.length ≤ 1048576 := hw.2.2.1
 have hw4 : w.tasks.length ≤ 1048576 := hw.2.2.2.1.1
 have hw5 : w.trace.length ≤ 1048576 := hw.2.2.2.2.1
 have hxl : xs.length = w.tasks.length := by have := hx.len; rw [List.length_map] at this; exact this
 have hzz : (xs.zip w.tasks).length = w.tasks.length := by rw [List.length_zip]; omega
 have hzl : ((xs.zip w.tasks).map ttT).length = w.tasks.length := by rw [List.length_map, List.length_zip]; omega
 refine Fun.begin tys Try.func54 Z Z (N := 67) [(0, .t (ttW w xs))] Z Z (fun w0 G F0 => ?_)
 refine sQ (rG (WO_box Z Z (lt_of Z) Z Z (nZ Z (WO_alloc tys Z Z (lt_of Z) Z Z Z (nZ Z (oN (tN (sQ (W_regionGm 12 mixed Z (by kernel_rfl) (by kernel_rfl) (QG_ev tys Z Z (lt_of Z) Z (QG_ev tys Z Z (lt_of Z) Z (callBG ?_))))))))))))
 refine ⟨_, l1OwnW_fun w.room (by omega), rfl, ?_⟩
 refine QG_buildS tys [] Z Z (lt_of Z) Z Z Z Z Z (by decide) (by repeat (first | exact PartsOk.nil' | refine PartsOk.cons' rfl (by repeat (first | exact AbsL.nil' | refine AbsL.v' ?_ | refine AbsL.own' ?_ | refine AbsL.none' ?_)) Z ?_)) Z Z Z (by decide) ?_
 refine QG_norm Z (QG_ev tys Z Z (lt_of Z) Z (QG_ev tys Z Z (lt_of Z) Z (QG_append tys Z Z (lt_of Z) Z Z Z Z Z Z Z Z (fun _ => .read (readBz _)) (by simp; omega) (by decide) Z ?_)))
 refine QG_ev tys Z Z (lt_of Z) Z (QG_ev tys Z Z (lt_of Z) Z (callBG ?_))
 refine ⟨_, l1OwnW_fun w.trace (by omega), rfl, ?_⟩
 refine QG_norm Z (QG_struct tys Z Z (lt_of Z) Z Z Z (by kernel_rfl) Z Z Z Z Z Z (QG_alloc tys Z Z (lt_of Z) Z Z Z Z (QG_nil ?_)))
 refine ⟨by kernel_rfl, ?_⟩
 refine nZ Z (sT Z (nZ Z (oN (tN (sQ (sQ (rG (nZ Z (WO_le (Le.nilBox (u := 3) (j := 1) 1 Z Z) (nZ Z (WO_le (Le.adoptBox (u := 3) (j := 1) (id := 191) Z Z Z) (nZ Z (eK 2 Z (evE ?_))))))))))))))
 refine eZ Z (oN (tN (W_block ?_)))
 refine lK (α := Int × Nat × List T) [1, 2, 3, 23, 24] [1, 2] (fun x => [(25, .t (.int (x.1)))]) (fun x => [(3, .box [.own (T.ints w.room), .sl 191 0 (x.2.1), .own (T.bools w.shut), .nil, .own (T.ints w.trace)]), (191, .L 1 (x.2.2))]) (fun x => 0 ≤ (x.1) ∧ (x.1) ≤ w.held.length ∧ (x.2.1) = (x.2.2).length ∧ (x.2.2) = (w.held.take (x.1).toNat).map T.ints) (fun x => Int.toNat (w.held.length - (x.1))) (0, 0, []) ?_ (fun x hx => ?_)
 ·exact ⟨by omega, by omega, rfl, rfl⟩
 obtain ⟨k, m, hs⟩ := x
 obtain ⟨hk0, hk1, hm, hxs⟩ := hx
 dsimp only at hk0 hk1 hm hxs ⊢
 refine nY Z (sQ (rG (eZ Z (oN (tN (sQ ?_))))))
 refine W_cond Z (fun h1 => ?_) (fun h1 => ?_)
 ·
  simp only [HS] at h1
  refine W_skip (tN (sQ (W_block (sQ (rG (WO_idxT tys Z Z (lt_of Z) Z Z Z Z Z Z Z (by omega) _ (getT _ _ (by omega) (by omega)) (eK 2 Z (oN (tN (W_regionGm 5 mixed Z (by kernel_rfl) (by kernel_rfl) (QG_ev tys Z Z (lt_of Z) Z (QG_ev tys Z Z (lt_of Z) Z (QG_norm Z (QG_ev tys Z Z (lt_of Z) Z (callBG ?_)))))))))))))))
  refine ⟨_, l1OwnW_fun (w.held[k.toNat]'(by omega)) (by have : (w.held[k.toNat]'(by omega)).length ≤ 1048576 := hw.2.1.2 _ (List.getElem_mem _); omega), rfl, ?_⟩
  refine QG_buildS tys [T.ints (w.held[k.toNat]'(by omega))] Z Z (lt_of Z) Z Z Z Z Z (lt_of Z) (by repeat (first | exact PartsOk.nil' | refine PartsOk.cons' rfl (by repeat (first | exact AbsL.nil' | refine AbsL.v' ?_ | refine AbsL.own' ?_ | refine AbsL.none' ?_)) Z ?_)) Z Z Z (by decide) ?_
  refine QG_nil ?_
  refine ⟨by kernel_rfl, ?_⟩
  refine nZ Z (WO_le (Le.adoptE (u := 33) 33 Z Z) (nZ Z (WO_append tys Z Z (lt_of Z) Z Z Z Z Z (.own Z (by first | omega | (simp only [List.length_append]; omega))) Z (.own Z (by first | decide | omega)) (by decide) (by simp only [List.length_take, List.length_cons, List.length_nil]; rw [hxs, List.length_map, List.length_take]; omega) (by decide) Z ?_)))
  refine nZ Z (eZ Z (sT Z (nZ Z (oN (bN (tN (rG (evI ?_))))))))
  refine eZ Z (oN ?_)
  refine lQ (_, _, _) ?_ ?_
  ·dsimp only
   subst hm
   refine ⟨by omega, by omega, by simp, ?_⟩
   rw [List.take_length, hxs, take_at hk0 (by omega), List.map_append]
   rfl
  ·(show Int.toNat _ < Int.toNat _); omega
 simp only [HS] at h1
 refine W_exit (tE (loopQ_e (inBlk_y (tN (sQ (sQ (rG (nZ Z (WO_le (Le.gatherBox (u := 3) (j := 1) (id := 191) Z Z Z (by omega) Z) (nZ Z (WO_le (Le.nilBox (u := 3) (j := 3) 4 Z Z) (nZ Z (WO_le (Le.adoptBox (u := 3) (j := 3) (id := 192) Z Z Z) (nZ Z (eK 2 Z ?_)))))))))))))))
 refine evE ?_
 refine eZ Z (oN (tN (W_block ?_)))
 refine lK (α := Int × Nat × List T) [2, 3, 38, 39] [2] (fun x => [(40, .t (.int (x.1)))]) (fun x => [(3, .box [.own (T.ints w.room), .own (.list 1 (hs.take m)), .own (T.bools w.shut), .sl 192 0 (x.2.1), .own (T.ints w.trace)]), (192, .L 4 (x.2.2))]) (fun x => 0 ≤ (x.1) ∧ (x.1) ≤ w.tasks.length ∧ (x.2.1) = (x.2.2).length ∧ (x.2.2) = ((xs.zip w.tasks).map ttT).take (x.1).toNat) (fun x => Int.toNat (w.tasks.length - (x.1))) (0, 0, []) ?_ (fun x hx => ?_)
 ·exact ⟨by omega, by omega, rfl, rfl⟩
 obtain ⟨i, m2, ys⟩ := x
 obtain ⟨hi0, hi1, hm2, hys⟩ := hx
 dsimp only at hi0 hi1 hm2 hys ⊢
 refine nY Z (sQ (rG (eZ Z (oN (tN (sQ ?_))))))
 refine W_cond Z (fun h2 => ?_) (fun h2 => ?_)
 ·
  simp only [HS] at h2
  refine W_skip (tN (sQ (W_block (sQ ?_))))
  have hi2 : i < w.tasks.length := by rw [List.length_map, List.length_zip] at hzl; omega
  obtain ⟨t, ht⟩ : ∃ t, t = w.tasks[i.toNat]'(by omega) := ⟨_, rfl⟩
  have htm : t ∈ w.tasks := by rw [ht]; exact List.getElem_mem _
  have hto := hw.2.2.2.1.2 t htm
  have hta : t.acts.length ≤ 1048576 := hto.1.1
  have hxa := hx.at (i := i.toNat) (by omega) (by rw [List.length_map]; omega)
  rw [List.getElem_map, ← ht] at hxa
  obtain ⟨zs, hzs, hA⟩ := hxa
  have hzsl := hA.len
  have hget : (List.map ttT (xs.zip w.tasks))[i.toNat]? = some (.agg [.list 4 zs, T.int t.pos, T.int t.state, T.int t.last]) := by rw [List.getElem?_map, zip_some (by omega) (by omega), hzs, ← ht]; rfl
  refine rG (WO_idxT tys Z Z (lt_of Z) Z Z Z Z Z Z Z (by omega) _ hget (eZ Z ?_))
  try refine WO_le (Le.freeze (u := 43) rfl) ?_
  refine nZ Z (WO_alloc tys Z Z (lt_of Z) Z Z Z (nZ Z (sT Z (nZ Z (oN (tN (sQ (rG (eZ Z (WO_le (Le.nilOwn (u := 8) 4 Z) (nZ Z (WO_le (Le.adoptE (u := 8) 193 Z Z) (nZ Z (oN (tN ?_)))))))))))))))
  refine sQ (sQ (rG (eK 2 Z (evE ?_))))
  refine kZ [2,3,7,8,38,39,40,41,42,43,44,45,46] Z (eZ Z (oN (tN (W_block ?_))))
  refine lK (α := Int × Nat × List T) [2, 3, 7, 38, 39, 40, 45, 46] [2, 3, 7, 192] (fun x => [(47, .t (.int (x.1))), (8, .sl 193 0 (x.2.1))]) (fun x => [(193, .L 4 (x.2.2))]) (fun x => 0 ≤ (x.1) ∧ (x.1) ≤ zs.length ∧ (x.2.1) = (x.2.2).length ∧ (x.2.2) = zs.take (x.1).toNat) (fun x => Int.toNat (zs.length - (x.1))) (0, 0, []) ?_ (fun x hx => ?_)
  ·exact ⟨by omega, by omega, rfl, rfl⟩
  obtain ⟨k, m3, ms⟩ := x
  obtain ⟨hk0', hk1', hm3, hms⟩ := hx
  dsimp only at hk0' hk1' hm3 hms ⊢
  refine nY Z (sQ (rG (eZ Z (oN (tN (sQ ?_))))))
  refine W_cond Z (fun h3 => ?_) (fun h3 => ?_)
  ·
   simp only [HS] at h3
   refine W_skip (tN (sQ (W_block (sQ (rG ?_)))))
   have hkz : k.toNat < zs.length := by omega
   obtain ⟨cs, hcs, hcA⟩ := hA.at hkz (by omega)
   obtain ⟨a, ha⟩ : ∃ a, a = t.acts[k.toNat]'(by omega) := ⟨_, rfl⟩
   rw [← ha] at hcs hcA
   have hcl : cs.length ≤ 1048576 := by rw [hcA.len]; exact (hto.1.2 a (by rw [ha]; exact List.getElem_mem _)).cases'.1
   have hgetk : zs[k.toNat]? = some (.agg [T.int a.kind, T.int a.chan, T.int a.n, .list 4 cs]) := by rw [List.getElem?_eq_getElem hkz, hcs]
   refine WO_idxT tys Z Z (lt_of Z) Z Z Z Z Z Z Z (by omega) _ hgetk (eZ Z ?_)
   try refine WO_le (Le.freeze (u := 50) rfl) ?_
   refine nZ Z (WO_alloc tys Z Z (lt_of Z) Z Z Z (nZ Z (sT Z (nZ Z (oN (tN (rG (eK 2 Z ?_))))))))
   try refine WO_le (Le.freeze (u := 52) rfl) ?_
   refine nZ Z (callB ?_)
   refine ⟨_, ownAct_fun _ _ _ cs hcl (case_read hcA), rfl, ?_⟩
   refine WO_buildSlice tys [.agg [T.int a.kind, T.int a.chan, T.int a.n, .list 4 cs]] Z Z (lt_of Z) Z Z Z Z Z (lt_of Z) (by repeat (first | exact PartsOk.nil' | refine PartsOk.cons' rfl (by repeat (first | exact AbsL.nil' | refine AbsL.v' ?_ | refine AbsL.own' ?_ | refine AbsL.none' ?_)) Z ?_)) (by first | exact List.nodup_nil | exact nodup1 _ | decide | exact nodupB_sound Z) Z (by decide) ?_
   refine nZ Z (kZ [2,3,7,8,10,38,39,40,45,46,47,48,49,50,51,52,53,54] Z (WO_append tys Z Z (lt_of Z) Z Z Z Z Z (.own Z (by first | omega | (simp only [List.length_append]; omega))) Z (.own Z (by first | decide | omega)) (by decide) (by simp only [List.length_take, List.length_cons, List.length_nil]; rw [hms, List.length_take]; omega) (by decide) Z ?_))
   refine nZ Z (eZ Z (oN (bN (tN (rG (evI ?_))))))
   refine eZ Z (oN ?_)
   refine lQ (_, _, _) ?_ ?_
   ·dsimp only
    subst hm3
    refine ⟨by omega, by omega, by simp, ?_⟩
    rw [List.take_length, hms, take_at hk0' (by omega), hcs]
    rfl
   ·(show Int.toNat _ < Int.toNat _); omega
  simp only [HS] at h3
  refine W_exit (tE (loopQ_e (inBlk_y (tN (sQ (rG (eZ Z (WO_le (Le.gather (u := 57) (id := 193) Z Z (by first | (simp; done) | (simp; omega) | omega)) ?_))))))))
  refine nZ Z (eZ Z (sT Z (nZ Z (oN (tN (rG (eK 2 Z (WO_loadMove tys Z Z (lt_of Z) Z Z Z Z Z Z (nZ Z ?_)))))))))
  refine WO_buildSlice tys [.agg [.list 4 (ms.take m3), T.int t.pos, T.int t.state, T.int t.last]] Z Z (lt_of Z) Z Z Z Z Z (lt_of Z) (by repeat (first | exact PartsOk.nil' | refine PartsOk.cons' rfl (by repeat (first | exact AbsL.nil' | refine AbsL.v' ?_ | refine AbsL.own' ?_ | refine AbsL.none' ?_)) Z ?_)) (by first | exact List.nodup_nil | exact nodup1 _ | decide | exact nodupB_sound Z) Z (by decide) ?_
  refine nZ Z (WO_append tys Z Z (lt_of Z) Z Z Z Z Z (.own Z (by first | omega | (simp only [List.length_append]; omega))) Z (.own Z (by first | decide | omega)) (by decide) (by simp only [List.length_take, List.length_cons, List.length_nil]; rw [hys, List.length_take]; omega) (by decide) Z ?_)
  refine nZ Z (kZ [2,3,7,8,38,39,40,45,46,47,48,57,58,59,60,61,62,63] Z (eZ Z (sT Z (nZ Z (oN (bN (tN (rG (evI ?_)))))))))
  refine eZ Z (oN ?_)
  refine lQ (_, _, _) ?_ ?_
  ·dsimp only
   subst hm2
   refine ⟨by omega, by omega, by simp, ?_⟩
   have hmz : ms.take m3 = zs := by rw [hm3, List.take_length, hms, take_end (by omega)]
   rw [List.take_length, hys, take_at hi0 (by rw [hzl]; omega), (List.getElem?_eq_some_iff.1 hget).2, hmz]
   rfl
  ·(show Int.toNat _ < Int.toNat _); omega
 simp only [HS] at h2
 refine W_exit (tE (loopQ_e (inBlk_y (tN (sQ (rG (nZ Z (WO_le (Le.gatherBox (u := 3) (j := 3) (id := 192) Z Z Z (by omega) Z) (nZ Z (WO_loadMove tys Z Z (lt_of Z) Z Z Z Z Z Z (nZ Z (sT Z (nZ Z (oN (tN ?_)))))))))))))))
 refine rT (eR ?_)
 ·rw [hm2, List.take_length, hys, hm, List.take_length, hxs, take_end (l := w.held) (by omega), take_end (l := List.map ttT (xs.zip w.tasks)) (by omega)]
  all_goals rfl
open Go.Eng
section
variable {α β : Type} {f : β → List α} {C : List ((Option Addr × Nat) × (T × Task))} {c c' : (Option Addr × Nat) × (T × Task)} {d d' : β} {i j : Nat} {y : α}
end
theorem ttT_cells {l : List (T × Task)} : ∀ x, x ∈ l.map ttT → (T.cells x).length = 4 := by
 intro x hx
 obtain ⟨t, _, rfl⟩ := List.mem_map.1 hx
 rfl
/-! What is told reads as what it is. -/
theorem relCase {w : Go.World} {F : Nat → Prop} : ∀ {zs : List T} {l : List Act}, All2 TCase zs l → ∀ {vs}, RelL w F vs (zs.flatMap T.cells) → RelL w F vs ((l.map Act.toT).flatMap T.cells)
 | _, _, .nil, vs, h => h
 | _, _, .cons (a := z) (b := b) (l := zs) (m := l) h1 h2, vs, h => by
  obtain ⟨hb, a, c, rfl⟩ := h1
  rw [List.flatMap_cons] at h
  rw [List.map_cons, List.flatMap_cons, Act.toT_eq]
  change RelL w F vs (T.int b.kind :: T.int b.chan :: T.int b.n :: .v (.slice a 0 c) :: zs.flatMap T.cells) at h
  show RelL w F vs (T.int b.kind :: T.int b.chan :: T.int b.n :: .list 4 (b.cases.map Act.toT) :: (l.map Act.toT).flatMap T.cells)
  rw [hb]
  cases h with
  | v q1 h =>
   cases h with
   | v q2 h =>
    cases h with
    | v q3 h =>
     cases h with
     | v q4 h => exact .v q1 (.v q2 (.v q3 (.none (relCase h2 h))))
theorem relAct {w : Go.World} {F : Nat → Prop} : ∀ {zs : List T} {l : List Act}, All2 TAct zs l → ∀ {vs}, RelL w F vs (zs.flatMap T.cells) → RelL w F vs ((l.map Act.toT).flatMap T.cells)
 | _, _, .nil, vs, h => h
 | _, _, .cons (a := z) (b := b) (l := zs) (m := l) h1 h2, vs, h => by
  obtain ⟨cs, rfl, hcs⟩ := h1
  rw [List.flatMap_cons] at h
  rw [List.map_cons, List.flatMap_cons, Act.toT_eq]
  change RelL w F vs (T.int b.kind :: T.int b.chan :: T.int b.n :: .list 4 cs :: zs.flatMap T.cells) at h
  show RelL w F vs (T.int b.kind :: T.int b.chan :: T.int b.n :: .list 4 (b.cases.map Act.toT) :: (l.map Act.toT).flatMap T.cells)
  cases h with
  | v q1 h =>
   cases h with
   | v q2 h =>
    cases h with
    | v q3 h =>
     refine .v q1 (.v q2 (.v q3 ?_))
     have hl := hcs.len
     cases h with
     | none h =>
      have : b.cases = [] := List.eq_nil_of_length_eq_zero (by simpa using hl.symm)
      rw [this]; exact .none (relAct h2 h)
     | list p1 p2 p3 p4 p5 p6 h =>
      have e : cs.length = (b.cases.map Act.toT).length := by rw [List.length_map]; exact hl
      rw [e] at p5 ⊢
      exact .list p1 p2 p3 (cellsA b.cases) p5 (relCase hcs p6) (relAct h2 h)
theorem relActs {w : Go.World} {F : Nat → Prop} {x : T} {l : List Act} (hx : TActs x l) {v vs : _} {ts : List T} (h : RelL w F (v :: vs) (x :: ts)) : RelL w F (v :: vs) (T.Acts l :: ts) := by
 obtain ⟨ys, rfl, hA⟩ := hx
 have hl := hA.len
 cases h with
 | none h =>
  have : l = [] := List.eq_nil_of_length_eq_zero (by simpa using hl.symm)
  subst this; exact .none h
 | list p1 p2 p3 p4 p5 p6 h =>
  have e : ys.length = (l.map Act.toT).length := by rw [List.length_map]; exact hl
  rw [e] at p5 ⊢
  exact .list p1 p2 p3 (cellsA l) p5 (relAct hA p6) h
open Go.Eng
/-! What reads as flat acts can be told. -/
theorem hdr_of {w : Go.World} {F : Nat → Prop} {n : Nat} {vs : List Value} {ts : List T} (h : RelL w F vs (.list n [] :: ts)) : ∃ a c v', vs = Value.slice a 0 c :: v' ∧ RelL w F v' ts := by
 generalize hx : ([] : List T) = xs at h
 cases h with
 | none h => exact ⟨_, _, _, rfl, h⟩
 | list p1 p2 p3 p4 p5 p6 h => subst hx; exact ⟨_, _, _, rfl, h⟩
theorem tellCases {w : Go.World} {F : Nat → Prop} : ∀ {l : List Act}, (∀ b, b ∈ l → b.cases = []) → ∀ {vs}, RelL w F vs ((l.map Act.toT).flatMap T.cells) → ∃ zs, All2 TCase zs l ∧ RelL w F vs (zs.flatMap T.cells)
 | [], _, vs, h => ⟨[], .nil, h⟩
 | b :: l, hb, vs, h => by
  rw [List.map_cons, List.flatMap_cons, Act.toT_eq] at h
  change RelL w F vs (T.int b.kind :: T.int b.chan :: T.int b.n :: .list 4 (b.cases.map Act.toT) :: (l.map Act.toT).flatMap T.cells) at h
  have hb0 := hb b (by simp)
  rw [hb0] at h
  cases h with
  | v q1 h =>
   cases h with
   | v q2 h =>
    cases h with
    | v q3 h =>
     obtain ⟨a, c, v', rfl, h'⟩ := hdr_of h
     obtain ⟨zs, g1, g2⟩ := tellCases (fun b' h => hb b' (by simp [h])) h'
     exact ⟨.agg [T.int b.kind, T.int b.chan, T.int b.n, .v (.slice a 0 c)] :: zs, .cons ⟨hb0, a, c, rfl⟩ g1, .v q1 (.v q2 (.v q3 (.v rfl g2)))⟩
def flatC (a : Act) : Prop := ∀ b, b ∈ a.cases → b.cases = []
theorem case_cells {zs : List T} {l : List Act} (h : All2 TCase zs l) : ∀ x, x ∈ zs → (T.cells x).length = 4 := fun x hx => (case_read h x hx).1
theorem act_cells {zs : List T} {l : List Act} (h : All2 TAct zs l) : ∀ x, x ∈ zs → (T.cells x).length = 4 := fun x hx => by
 obtain ⟨b, _, cs, rfl, _⟩ := h.left hx
 rfl
theorem tellActL {w : Go.World} {F : Nat → Prop} : ∀ {l : List Act}, (∀ b, b ∈ l → flatC b) → ∀ {vs}, RelL w F vs ((l.map Act.toT).flatMap T.cells) → ∃ zs, All2 TAct zs l ∧ RelL w F vs (zs.flatMap T.cells)
 | [], _, vs, h => ⟨[], .nil, h⟩
 | b :: l, hb, vs, h => by
  rw [List.map_cons, List.flatMap_cons, Act.toT_eq] at h
  change RelL w F vs (T.int b.kind :: T.int b.chan :: T.int b.n :: .list 4 (b.cases.map Act.toT) :: (l.map Act.toT).flatMap T.cells) at h
  have hb0 := hb b (by simp)
  cases h with
  | v q1 h =>
   cases h with
   | v q2 h =>
    cases h with
    | v q3 h =>
     generalize hy : T.list 4 (b.cases.map Act.toT) = y at h
     cases h with
     | v p1 p2 => cases hy
     | none h =>
      have e : b.cases = [] := by have := (T.list.inj hy).2; exact List.map_eq_nil_iff.1 this
      obtain ⟨zs, g1, g2⟩ := tellActL (fun b' h => hb b' (by simp [h])) h
      refine ⟨.agg [T.int b.kind, T.int b.chan, T.int b.n, .list 4 []] :: zs, .cons ⟨[], rfl, by rw [e]; exact .nil⟩ g1, .v q1 (.v q2 (.v q3 (.none g2)))⟩
     | list p1 p2 p3 p4 p5 p6 h =>
      obtain ⟨rfl, rfl⟩ := T.list.inj hy
      obtain ⟨zs, g1, g2⟩ := tellActL (fun b' h => hb b' (by simp [h])) h
      obtain ⟨cs, g3, g4⟩ := tellCases hb0 p6
      have el : (b.cases.map Act.toT).length = cs.length := by rw [List.length_map]; exact g3.len.symm
      refine ⟨.agg [T.int b.kind, T.int b.chan, T.int b.n, .list 4 cs] :: zs, .cons ⟨cs, rfl, g3⟩ g1, .v q1 (.v q2 (.v q3 ?_))⟩
      rw [el] at p5 ⊢
      exact .list p1 p2 p3 (case_cells g3) p5 g4 g2
theorem tellActs {w : Go.World} {F : Nat → Prop} {l : List Act} (hb : ∀ b, b ∈ l → flatC b) {v : Value} {vs : List Value} {ts : List T} (h : RelL w F (v :: vs) (T.Acts l :: ts)) : ∃ x, TActs x l ∧ RelL w F [v] [x] ∧ RelL w F vs ts := by
 obtain ⟨h, hr⟩ := h.cons
 generalize hy : T.Acts l = y at h
 cases h with
 | v p1 p2 => cases hy
 | none h =>
  have e : l = [] := by have := (T.list.inj hy).2; exact List.map_eq_nil_iff.1 this
  subst e
  exact ⟨.list 4 [], ⟨[], rfl, .nil⟩, .none .nil, hr⟩
 | list p1 p2 p3 p4 p5 p6 h =>
  obtain ⟨rfl, rfl⟩ := T.list.inj hy
  obtain ⟨zs, g1, g2⟩ := tellActL hb p6
  have el : (l.map Act.toT).length = zs.length := by rw [List.length_map]; exact g1.len.symm
  refine ⟨.list 4 zs, ⟨zs, rfl, g1⟩, ?_, hr⟩
  rw [el] at p5 ⊢
  exact .list p1 p2 p3 (act_cells g1) p5 g2 .nil
theorem tellTasks {w : Go.World} {F : Nat → Prop} : ∀ {l : List Task}, (∀ t, t ∈ l → ∀ b, b ∈ t.acts → flatC b) → ∀ {vs}, RelL w F vs ((l.map Task.tt).flatMap T.cells) → ∃ xs, All2 TActs xs (l.map Task.acts) ∧ RelL w F vs (((xs.zip l).map ttT).flatMap T.cells)
 | [], _, vs, h => ⟨[], .nil, h⟩
 | t :: l, hb, vs, h => by
  rw [List.map_cons, List.flatMap_cons] at h
  change RelL w F vs (T.Acts t.acts :: T.int t.pos :: T.int t.state :: T.int t.last :: (l.map Task.tt).flatMap T.cells) at h
  cases vs with
  | nil => cases h
  | cons v vs =>
   obtain ⟨x, g1, g2, h⟩ := tellActs (hb t (by simp)) h
   cases h with
   | v q1 h =>
    cases h with
    | v q2 h =>
     cases h with
     | v q3 h =>
      obtain ⟨xs, g3, g4⟩ := tellTasks (fun t' h => hb t' (by simp [h])) h
      exact ⟨x :: xs, .cons g1 g3, RelL.cons' g2 (.v q1 (.v q2 (.v q3 g4)))⟩
theorem relTasks {w : Go.World} {F : Nat → Prop} : ∀ {l : List Task} {xs : List T}, All2 TActs xs (l.map Task.acts) → ∀ {vs}, RelL w F vs (((xs.zip l).map ttT).flatMap T.cells) → RelL w F vs ((l.map Task.tt).flatMap T.cells)
 | [], xs, h, vs, hr => by cases h; exact hr
 | t :: l, xs, h, vs, hr => by
  cases h with
  | cons h1 h2 =>
   rename_i x xs
   rw [List.map_cons, List.flatMap_cons]
   change RelL w F vs (x :: T.int t.pos :: T.int t.state :: T.int t.last :: ((xs.zip l).map ttT).flatMap T.cells) at hr
   show RelL w F vs (T.Acts t.acts :: T.int t.pos :: T.int t.state :: T.int t.last :: (l.map Task.tt).flatMap T.cells)
   cases vs with
   | nil => cases hr
   | cons v vs =>
    have h3 := relActs h1 hr
    obtain ⟨h4, h5⟩ := h3.cons
    cases h5 with
    | v q1 h =>
     cases h with
     | v q2 h =>
      cases h with
      | v q3 h => exact RelL.cons' h4 (.v q1 (.v q2 (.v q3 (relTasks h2 h))))
theorem relTaskL {w : Go.World} {F : Nat → Prop} {l : List Task} {xs : List T} (hx : All2 TActs xs (l.map Task.acts)) {v : Value} (h : RelL w F [v] [.list 4 ((xs.zip l).map ttT)]) : RelL w F [v] [T.Tasks l] := by
 have hl : xs.length = l.length := by have := hx.len; rw [List.length_map] at this; exact this
 generalize hy : T.list 4 ((xs.zip l).map ttT) = y at h
 cases h with
 | v p1 p2 => cases hy
 | none h =>
  have e : (xs.zip l).length = 0 := by have := (T.list.inj hy).2; rw [List.map_eq_nil_iff] at this; rw [this]; rfl
  rw [List.length_zip] at e
  have : l = [] := List.eq_nil_of_length_eq_zero (by omega)
  subst this
  exact .none .nil
 | list p1 p2 p3 p4 p5 p6 h =>
  obtain ⟨rfl, rfl⟩ := T.list.inj hy
  have el : ((xs.zip l).map ttT).length = (l.map Task.tt).length := by rw [List.length_map, List.length_map, List.length_zip]; omega
  rw [el] at p5 ⊢
  exact .list p1 p2 p3 tasks_cells p5 (relTasks hx p6) .nil
theorem tellTaskL {w : Go.World} {F : Nat → Prop} {l : List Task} (hb : ∀ t, t ∈ l → ∀ b, b ∈ t.acts → flatC b) {v : Value} (h : RelL w F [v] [T.Tasks l]) : ∃ xs, All2 TActs xs (l.map Task.acts) ∧ RelL w F [v] [.list 4 ((xs.zip l).map ttT)] := by
 generalize hy : T.Tasks l = y at h
 cases h with
 | v p1 p2 => cases hy
 | none h =>
  have e : l = [] := by have := (T.list.inj hy).2; exact List.map_eq_nil_iff.1 this
  subst e
  exact ⟨[], .nil, .none .nil⟩
 | list p1 p2 p3 p4 p5 p6 h =>
  obtain ⟨rfl, rfl⟩ := T.list.inj hy
  obtain ⟨xs, g1, g2⟩ := tellTasks hb p6
  have hl : xs.length = l.length := by have := g1.len; rw [List.length_map] at this; exact this
  have el : (l.map Task.tt).length = ((xs.zip l).map ttT).length := by rw [List.length_map, List.length_map, List.length_zip]; omega
  refine ⟨xs, g1, ?_⟩
  rw [el] at p5 ⊢
  exact .list p1 p2 p3 ttT_cells p5 g2 .nil
theorem flat_good {w : World} (hg : goodWorld w = true) : ∀ t, t ∈ w.tasks → ∀ a, a ∈ t.acts → flatC a := by
 intro t ht a ha b hb
 have h9 := (gw_iff.1 hg).ts t ht
 unfold goodTask goodActs at h9
 simp only [Bool.and_eq_true, decide_eq_true_eq, List.all_eq_true] at h9
 have hga := h9.1.1 a ha
 unfold goodAct at hga
 split at hga
 ·simp only [Bool.and_eq_true, List.all_eq_true] at hga
  have := hga.1 b hb
  unfold caseAct plainAct at this
  simp only [Bool.and_eq_true, decide_eq_true_eq] at this
  grind [List.length_eq_zero_iff]
 ·unfold plainAct at hga
  simp only [Bool.and_eq_true, decide_eq_true_eq] at hga
  have : a.cases = [] := by grind [List.length_eq_zero_iff]
  rw [this] at hb; cases hb
section
variable {P : Program} {c : Ctx} {s : St} {Q : Exit → St → Prop}
theorem W_tellT {code : Code} {u j : Nat} {x : T} {cells : List D} {p : T → Prop} (hM : lookM s.M u = some (.box cells)) (hj : cells[j]? = some (.t x)) (h : ∀ {w : Go.World} {F : Nat → Prop} {v}, RelL w F [v] [x] → ∃ y, p y ∧ RelL w F [v] [y])
  (k : ∀ y, p y → W P c code ⟨s.fr, (u, .box (cells.set j (.t y))) :: s.M⟩ Q) : W P c code s Q := by
 rintro a w ⟨F, β, fb, mb, ow, hi⟩
 have hm := hi.mem u
 rw [hM] at hm
 obtain ⟨b, arr, e, bs, h1, h2, h3, h4, h5⟩ := hm
 have key : ∀ {vs : List Value} {ds : List D} {bs : List Nat} {j : Nat}, RelD w F β vs ds bs → vs.all (·.oneCell') = true → ds[j]? = some (.t x) → ∃ y, p y ∧ RelD w F β vs (ds.set j (.t y)) bs := by
  intro vs
  induction vs with
  | nil =>
   intro ds bs j hr _ hj
   have := hr.length
   cases ds with
   | nil => simp at hj
   | cons _ _ => simp at this
  | cons v vs ih =>
   intro ds bs j hr ho hj
   cases ds with
   | nil => simp at hj
   | cons d ds =>
    obtain ⟨b1, b2, g1, g2, rfl⟩ := hr.cons
    rw [List.all_cons, Bool.and_eq_true] at ho
    cases j with
    | zero =>
     simp at hj
     subst hj
     cases g1 with
     | t q1 q2 =>
      cases q2
      obtain ⟨y, hy1, hy2⟩ := h q1
      exact ⟨y, hy1, RelD.cons' (.t hy2 .done) g2⟩
     | tagg q1 q2 => simp [Value.oneCell'] at ho
    | succ j =>
     obtain ⟨y, hy1, hy2⟩ := ih g2 ho.2 (by simpa using hj)
     exact ⟨y, hy1, RelD.cons' g1 hy2⟩
 obtain ⟨y, hy1, hy2⟩ := key h3 h4 hj
 refine k y hy1 a w ⟨F, β, fb, mb, ow, { hi with mem := fun i => ?_ }⟩
 simp only [lookM]
 by_cases hid : u = i
 ·subst hid
  rw [if_pos rfl]
  exact ⟨b, arr, e, bs, by rw [List.length_set]; exact h1, h2, hy2, h4, h5⟩
 ·rw [if_neg hid]; exact hi.mem i
end
open Go.Eng
abbrev World.rd (w : World) : D := .agg [.t (T.ints w.room), .t (intss w.held), .t (T.bools w.shut), .t (T.Tasks w.tasks), .t (T.ints w.trace)]
open Go.Eng
theorem ctL_bd {α : Type} {ct : α → Int} {b : Int} : ∀ {l : List α}, (∀ x, x ∈ l → ct x ≤ b) → ctL ct l ≤ b * l.length
 | [], _ => by simp [ctL]
 | x :: l, h => by
  have h1 := h x (by simp)
  have h2 := ctL_bd (ct := ct) (b := b) (l := l) fun y hy => h y (by simp [hy])
  rw [ctL_cons, List.length_cons, Int.natCast_add, Int.mul_add]
  simp only [Int.natCast_one, Int.mul_one]
  omega
theorem ct_case {b : Act} (h : b.cases = []) : ctAct b = 3 := by rw [ctAct_eq, h]; rfl
theorem good_act {w : World} (hg : goodWorld w = true) {t : Task} (ht : t ∈ w.tasks) {a : Act} (ha : a ∈ t.acts) : a.cases.length ≤ 3 := by
 have h9 := (gw_iff.1 hg).ts t ht
 unfold goodTask goodActs at h9
 simp only [Bool.and_eq_true, decide_eq_true_eq, List.all_eq_true] at h9
 have hga := h9.1.1 a ha
 unfold goodAct at hga
 split at hga
 ·simp only [Bool.and_eq_true, decide_eq_true_eq] at hga
  grind
 ·unfold plainAct at hga
  simp only [Bool.and_eq_true, decide_eq_true_eq] at hga
  grind
theorem ct_good_task {w : World} (hg : goodWorld w = true) {t : Task} (ht : t ∈ w.tasks) : ctTask t ≤ 75 := by
 have h6 := ((good_of hg).pos t ht).2.2
 have h := ctL_bd (ct := ctAct) (b := 12) (l := t.acts) fun a ha => by
  have h3 := good_act hg ht ha
  have hf := flat_good hg t ht a ha
  have := ctL_bd (ct := ctAct) (b := 3) (l := a.cases) fun b hb => by rw [ct_case (hf b hb)]; exact Int.le_refl 3
  rw [ctAct_eq]
  omega
 unfold ctTask
 omega
theorem flat_len {b : Nat} : ∀ {l : List (List Int)}, (∀ x, x ∈ l → x.length ≤ b) → l.flatten.length ≤ b * l.length
 | [], _ => by simp
 | x :: l, h => by
  have h1 := h x (by simp)
  have h2 := flat_len (l := l) fun y hy => h y (by simp [hy])
  rw [List.flatten_cons, List.length_append, List.length_cons, Nat.mul_add]
  omega
theorem good_held {w : World} (hg : goodWorld w = true) {x : List Int} (hx : x ∈ w.held) : x.length ≤ 3 := by
 have h := gw_iff.1 hg
 obtain ⟨k, hk, rfl⟩ := List.getElem_of_mem hx
 have hl := h.held
 have h1 := (h.hs k hk (by omega)).1
 have e2 := h.rooms
 rw [allIn, List.all_eq_true] at e2
 have e3 := e2 _ (List.getElem_mem (l := w.room) (n := k) (by omega))
 simp only [decide_eq_true_eq] at e3
 omega
theorem ct_good {w : World} (hg : goodWorld w = true) : ctWorld w ≤ 1000 := by
 have h := gw_iff.1 hg
 have h1 := ctL_bd (ct := ctTask) (b := 75) (l := w.tasks) fun t ht => ct_good_task hg ht
 have h2 := flat_len (b := 3) (l := w.held) fun x hx => good_held hg hx
 have h3 := h.room
 have h4 := h.held
 have h5 := h.shut
 have h6 := h.tasks
 have h7 := h.trace
 unfold ctWorld
 omega
theorem ok_good {w : World} (hg : goodWorld w = true) {B : Nat} (hB : 1000 ≤ B) : w.ok B := by
 have h := gw_iff.1 hg
 have h3 := h.room
 have h4 := h.held
 have h5 := h.shut
 have h6 := h.tasks
 have h7 := h.trace
 refine ⟨?_, ⟨?_, fun x hx => ?_⟩, ?_, ⟨?_, fun t ht => ⟨⟨?_, fun a ha => .of ⟨?_, fun b hb => .of ?_⟩⟩, trivial⟩⟩, ?_, trivial⟩
 ·show w.room.length ≤ B; omega
 ·show w.held.length ≤ B; omega
 ·show x.length ≤ B; have := good_held hg hx; omega
 ·show w.shut.length ≤ B; omega
 ·show w.tasks.length ≤ B; omega
 ·have := ((good_of hg).pos t ht).2.2; omega
 ·have := good_act hg ht ha; omega
 ·rw [flat_good hg t ht a ha b hb]; exact ⟨Nat.zero_le _, fun c hc => by cases hc⟩
 ·show w.trace.length ≤ B; omega
theorem ok_world0 {B : Nat} : world0.ok B := ⟨Nat.zero_le _, ⟨Nat.zero_le _, fun x hx => by cases hx⟩, Nat.zero_le _, ⟨Nat.zero_le _, fun x hx => by cases hx⟩, Nat.zero_le _, trivial⟩
theorem goz_ok {w : World} (h : goodWorld w = true ∨ w = world0) {B : Nat} (hB : 1000 ≤ B) : w.ok B := by
 rcases h with h | rfl
 ·exact ok_good h hB
 ·exact ok_world0
theorem goz_ct {w : World} (h : goodWorld w = true ∨ w = world0) : ctWorld w ≤ 1000 := by
 rcases h with h | rfl
 ·exact ct_good h
 ·decide
theorem eqIw_refl (l : List Int) : eqL eqI l l = true := eqL_refl eqI_refl l
end Go.Proofs.Ytbkamkmmljbedaa
