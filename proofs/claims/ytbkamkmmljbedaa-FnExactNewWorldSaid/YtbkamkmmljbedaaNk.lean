/- Walks and laws of the claim. -/
import Derived.Test.YtbkamkmmljbedaaFk
import Derived.Test.YtbkamkmmljbedaaMe
set_option linter.unusedVariables false
set_option linter.unusedSimpArgs false
set_option maxRecDepth 10000
set_option maxHeartbeats 4000000
namespace Go.Proofs.Ytbkamkmmljbedaa
open Go.Eng
open Go.Eng
abbrev T.ActLs (l : List (List (Act))) : T := .list 1 (l.map T.Acts)
theorem szActSS_g : SzG (szL (szL szAct)) (okL 1048576 (okL 1048576 (Act.ok 1048576))) := szL_g szActS_g
theorem szActSS_fun (l : List (List (Act))) (left : Int) (hl : okL 9223372036854775807 (okL 9223372036854775807 (Act.ok 9223372036854775807)) l) (h0 : 0 ≤ left) (hh : left ≤ 1048576) : Fun Try.prog 16 [.t (T.ActLs l), .t (.int left)] (tupD [.t (.int (szL (szL szAct) l left))]) := by
 have hl1 := hl.1
 refine Fun.begin tys Try.func16 Z Z (N := 27) [(0, .t (T.ActLs l)), (1, .t (.int left))] Z Z (fun w0 G F0 => ?_)
 refine sQ (rG (eZ Z (oN (tN (sQ (rG (eK 2 Z (evE ?_))))))))
 refine evI ?_
 refine eZ Z (oN (tN (sQ (sQ (rG (eK 2 Z (oN (tN ?_))))))))
 refine W_cond Z (fun h1 => ?_) (fun h1 => ?_)
 ·
  simp only [HS] at h1
  refine sQ (kY [0,1,4] Z (rG (eZ Z (oN (tN (rT (tR (eR ?_))))))))
  ·rw [szL, if_pos h1]
   done
 simp only [HS] at h1
 refine W_skip (tN (sQ (sQ (kY [0,1,4] Z (rG (eZ Z (oN (tN (W_block ?_)))))))))
 refine lK (α := Int × Int) [0] [] (fun x => [(5, .t (.int (x.1))), (1, .t (.int (x.2)))]) (fun x => []) (fun x => 0 ≤ (x.1) ∧ (x.1) ≤ l.length ∧ 0 ≤ (x.2) ∧ (x.2) ≤ 1048576 ∧ szGo (szL szAct) l (left - l.length) = szGo (szL szAct) (l.drop (x.1).toNat) (x.2)) (fun x => Int.toNat (l.length - (x.1))) (0, left - l.length) ?_ (fun x hx => ?_)
 ·exact ⟨by omega, by omega, by omega, by omega, by simp⟩
 obtain ⟨k, lf⟩ := x
 obtain ⟨hk0, hk1, hk2, hk3, hk4⟩ := hx
 dsimp only at hk0 hk1 hk2 hk3 hk4 ⊢
 refine nY Z (sQ (sQ (rG (eK 2 Z (evE ?_)))))
 refine eZ Z (oN (tN ?_))
 refine W_cond Z (fun h2 => ?_) (fun h2 => ?_)
 ·
  simp only [HS] at h2
  refine W_skip (tN (sQ (W_block (sQ (rG (eK 2 Z (WO_idxT tys Z Z (lt_of Z) Z Z Z Z Z Z Z (by omega) _ (getT _ _ (by omega) (by omega)) (eK 2 Z (kZ [0,1,5,12,13,14,15,18,19,20,21,22] Z (callB ?_))))))))))
  refine ⟨_, szActSo_fun _ _ (hl.2 _ (List.getElem_mem _)) (by omega) (by omega), rfl, ?_⟩
  refine eZ Z (oN (tN (sQ (rG (eK 2 Z (oN (tN ?_)))))))
  refine W_cond Z (fun h3 => ?_) (fun h3 => ?_)
  ·
   simp only [HS] at h3
   refine sQ (rG (eZ Z (oN (tN (rT (bR (tR (loopQ_r (bR (tR (eR ?_)))))))))))
   ·(rw [szL, if_neg (by omega), hk4, drop_at hk0 (by omega), szGo, if_pos h3]; done)
  simp only [HS] at h3
  refine W_skip (bN (tN (rG (eZ Z (evI ?_)))))
  refine eZ Z (oN ?_)
  refine lQ (_, _) ?_ ?_
  ·dsimp only
   (have hb := szActS_g (l[k.toNat]'(by omega)) lf hk2 hk3; refine ⟨by omega, by omega, by omega, by omega, ?_⟩; rw [hk4, drop_at hk0 (by omega), szGo, if_neg (by omega)])
  ·(show Int.toNat _ < Int.toNat _); omega
 simp only [HS] at h2
 refine W_exit (tE (loopQ_e (inBlk_y (tN (sQ (rG (eK 2 Z (oN (tN (rT (eR ?_)))))))))))
 ·(rw [szL, if_neg (by omega), hk4, drop_end (by omega), szGo]; done)
theorem toActSS_fun (l : List (List (Act))) (hl : okL 1048576 (okL 1048576 (Act.ok 1048576)) l) : Fun Try.prog 19 [.t (T.ActLs l)] (tupD [.own (T.ActLs l)]) := by
 have hl1 := hl.1
 refine Fun.begin tys Try.func19 Z Z (N := 23) [(0, .t (T.ActLs l))] Z Z (fun w0 G F0 => ?_)
 refine sQ (rG (eZ Z (oN (tN (sQ (rG (eZ Z (evE ?_))))))))
 refine WO_make tys (.list 4 []) _ Z Z (lt_of Z) Z Z Z Z Z (by repeat (first | exact AbsL.nil' | refine AbsL.v' ?_ | refine AbsL.none' ?_)) Z (by omega) (by decide) ?_
 refine nZ Z (eZ Z (oN (tN (sQ (sQ (rG (eZ Z (oN (tN (W_block ?_))))))))))
 refine lK (α := Int × List T) [0, 3] [] (fun x => [(4, .t (.int (x.1)))]) (fun x => [(7, .L 1 (x.2))]) (fun x => 0 ≤ (x.1) ∧ (x.1) ≤ l.length ∧ (x.2).length = l.length ∧ (x.2).take (x.1).toNat = (l.take (x.1).toNat).map T.Acts) (fun x => Int.toNat (l.length - (x.1))) (0, List.replicate l.length (.list 4 [])) ?_ (fun x hx => ?_)
 ·exact ⟨by omega, by omega, by simp, by simp⟩
 obtain ⟨k, xs⟩ := x
 obtain ⟨hk0, hk1, hk2, hk3⟩ := hx
 dsimp only at hk0 hk1 hk2 hk3 ⊢
 refine nY Z (sQ (sQ (rG (eK 2 Z (evE ?_)))))
 refine eZ Z (oN (tN ?_))
 refine W_cond Z (fun h1 => ?_) (fun h1 => ?_)
 ·
  simp only [HS] at h1
  refine W_skip (tN (sQ (W_block (rG (eK 4 Z (WO_idxT tys Z Z (lt_of Z) Z Z Z Z Z Z Z (by omega) _ (getT _ _ (by omega) (by omega)) (kZ [0,3,4,8,9,10,11,14,15,16,17,18] Z (eZ Z (callB ?_)))))))))
  refine ⟨_, toActSo_fun _ (hl.2 _ (List.getElem_mem _)), rfl, ?_⟩
  refine WO_idxS tys Z Z (lt_of Z) Z Z Z Z Z Z Z Z (by omega) (by omega) ?_
  refine WO_storeE tys (T.Acts _) Z Z Z Z Z Z (by first | exact Nat.zero_add _ | rfl) (by omega) Z (by repeat (first | exact AbsL.nil' | refine AbsL.v' ?_ | refine AbsL.own' ?_)) Z Z Z ?_
  refine nZ Z (oN (bN (tN (rG (eZ Z (evI ?_))))))
  refine eZ Z (oN ?_)
  refine lQ (_, _) ?_ ?_
  ·dsimp only
   exact ⟨by omega, by omega, by simpa using hk2, by exact fill_step hk0 (by omega) hk2 hk3⟩
  ·(show Int.toNat _ < Int.toNat _); omega
 simp only [HS] at h1
 refine W_exit (tE (loopQ_e (inBlk_y (tN (sQ (rG (eK 2 Z (oN (tN (W_le (Le.gather (u := 2) (id := 7) Z Z (by omega)) (rT (eR ?_))))))))))))
 ·rw [List.take_of_length_le (by omega), fill_end (by omega) hk2 hk3]
theorem eqActSS_fun (a b : List (List (Act))) (ha : okL 9223372036854775807 (okL 9223372036854775807 (Act.ok 9223372036854775807)) a) (hb : okL 9223372036854775807 (okL 9223372036854775807 (Act.ok 9223372036854775807)) b) : Fun Try.prog 22 [.t (T.ActLs a), .t (T.ActLs b)] (tupD [.t (.bool (eqL (eqL eqAct) a b))]) := by
 have ha1 := ha.1
 have hb1 := hb.1
 refine Fun.begin tys Try.func22 Z Z (N := 27) [(0, .t (T.ActLs a)), (1, .t (T.ActLs b))] Z Z (fun w0 G F0 => ?_)
 refine sQ (rG (eZ Z (oN (tN (sQ (sQ (rG (eZ Z (evE ?_)))))))))
 refine eZ Z (evE ?_)
 refine eZ Z (oN (tN ?_))
 refine W_cond Z (fun h1 => ?_) (fun h1 => ?_)
 ·
  simp only [HS] at h1
  refine sQ (rG (eZ Z (oN (tN (rT (tR (eR ?_)))))))
  ·rw [eqL_len h1]
   done
 simp only [HS] at h1
 refine W_skip (tN (sQ (sQ (rG (eZ Z (oN (tN (W_block ?_))))))))
 refine lK (α := Int) [0, 1] [] (fun x => [(5, .t (.int x))]) (fun x => []) (fun x => 0 ≤ x ∧ x ≤ a.length ∧ eqGo (eqL eqAct) a b = eqGo (eqL eqAct) (a.drop x.toNat) (b.drop x.toNat)) (fun x => Int.toNat (a.length - x)) 0 ?_ (fun k hx => ?_)
 ·exact ⟨by omega, by omega, rfl⟩
 obtain ⟨hk0, hk1, hk2⟩ := hx
 refine nY Z (sQ (sQ (rG (eK 2 Z (evE ?_)))))
 refine eZ Z (oN (tN ?_))
 refine W_cond Z (fun h2 => ?_) (fun h2 => ?_)
 ·
  simp only [HS] at h2
  refine W_skip (tN (sQ (W_block (sQ (W_regionD mixed (by kernel_rfl) (evQ ?_))))))
  refine evQ ?_
  refine QL_norm Z (QL_idxT tys Z Z (lt_of Z) Z Z Z Z Z Z Z (by omega) _ (getT _ _ (by omega) (by omega)) (evQ ?_))
  refine evQ ?_
  refine evQ ?_
  refine QL_idxT tys Z Z (lt_of Z) Z Z Z Z Z Z Z (by omega) _ (getT _ _ (by omega) (by omega)) (evQ ?_)
  refine QL_norm Z (callBQ ?_)
  refine ⟨_, eqActSo_fun _ _ (ha.2 _ (List.getElem_mem _)) (hb.2 _ (List.getElem_mem _)), rfl, ?_⟩
  refine evQ ?_
  refine QL_nil (tN ?_)
  refine W_cond Z (fun h3 => ?_) (fun h3 => ?_)
  ·
   simp only [HS] at h3
   refine sQ (rG (eZ Z (oN (tN (rT (bR (tR (loopQ_r (bR (tR (eR ?_)))))))))))
   ·rw [eqL_eq h1, hk2, eqGo_at hk0 h2 h1]
    simp [h3]
    done
  simp only [HS] at h3
  refine W_skip (bN (tN (rG (eZ Z (evI ?_)))))
  refine eZ Z (oN ?_)
  refine lQ _ ?_ ?_
  ·skip
   refine ⟨by omega, by omega, ?_⟩; rw [hk2, eqGo_at hk0 h2 h1]; simp [h3]
  ·(show Int.toNat _ < Int.toNat _); omega
 simp only [HS] at h2
 refine W_exit (tE (loopQ_e (inBlk_y (tN (sQ (rG (eZ Z (oN (tN (rT (eR ?_)))))))))))
 ·rw [eqL_eq h1, hk2, drop_end h2]
  rfl
abbrev ctAs (l : List Act) : Int := ctL ctAct l
abbrev mkAs (l : List Act) (k : Int) : List Act := mkL mkAct ctAct l k
theorem ctAs_pos (l : List Act) : 0 ≤ ctAs l := ctL_pos ctAct_pos l
theorem ctL_pos0 {α : Type} {ct : α → Int} (h : ∀ x, 0 ≤ ct x) : ∀ l : List α, 0 ≤ ctL ct l
 | [] => by simp [ctL]
 | x :: l => by rw [ctL_cons]; have := h x; have := ctL_pos0 h l; omega
theorem szActSS_c (l : List (List Act)) : SzC (szL (szL szAct) l) (ctL ctAs l) := by
 have key : ∀ (l : List (List Act)) (left : Int), 0 ≤ left → 0 ≤ szGo (szL szAct) l left → ctL ctAs l + 8 * szGo (szL szAct) l left ≤ 8 * left := by
  intro l
  induction l with
  | nil => intro left _ h; simp [szGo, ctL]
  | cons x l ih =>
   intro left h0 h
   rw [szGo] at h ⊢
   split at h
   ·omega
   ·rename_i h1
    rw [if_neg h1]
    have h2 := ih _ (by omega) h
    have h3 := szL_c szAct_c x left h0 (by omega)
    rw [ctL_cons]
    have : ctAs x = ctL ctAct x := rfl
    omega
 intro left h0 h
 have e : szL (szL szAct) l left = if left - l.length < 0 then -1 else szGo (szL szAct) l (left - l.length) := rfl
 rw [e] at h ⊢
 split at h
 ·omega
 ·rename_i h1
  rw [if_neg h1]
  have := key l _ (by omega) h
  omega
theorem markActSS_nil (k : Int) : Fun Try.prog 24 [.t (.list 1 []), .t (.int k)] (tupD [.t (.int k)]) := by
 refine Fun.begin tys Try.func24 Z Z (N := 19) [(0, .t (.list 1 [])), (1, .t (.int k))] Z Z (fun w0 G F0 => ?_)
 refine sQ (rG (eZ Z (oN (tN (sQ (sQ (rG (eZ Z (oN (tN (W_block ?_)))))))))))
 refine lK (α := Int) [0, 1] [] (fun x => [(5, .t (.int x))]) (fun x => []) (fun x => 0 ≤ x) (fun x => Int.toNat (0)) 0 ?_ (fun z hx => ?_)
 ·exact Int.le_refl 0
 have hz := hx
 refine nY Z (sQ (sQ (rG (eK 2 Z (evE ?_)))))
 refine eZ Z (oN (tN ?_))
 refine W_cond Z (fun h1 => ?_) (fun h1 => ?_)
 ·
  simp only [HS] at h1
  exfalso; simp at h1; omega
 simp only [HS] at h1
 refine W_exit (tE (loopQ_e (inBlk_y (tN (sQ (rG (eK 2 Z (oN (tN (rT (eR ?_)))))))))))
 ·rfl
theorem markActSS_m (l : List (List Act)) (k : Int) (hk : 0 ≤ k) (hb : k + ctL ctAs l ≤ 1073741824) (hl : l.length ≤ 1073741824) : MarkF Try.prog 24 (.list 1 (l.map T.Acts)) (k) (k + ctL ctAs l) (.list 1 ((mkL mkAs ctAs l k).map T.Acts)) := by
 refine MarkF.slice Try.func24 rfl rfl (N := 19) rfl (fun y hy => (by obtain ⟨a, _, rfl⟩ := List.mem_map.1 hy; rfl) ) ( by simp [mkL_len]) (fun h => by cases l with | nil => (rw [show k + ctL ctAs [] = k from by simp [ctL]]; exact markActSS_nil k) | cons _ _ => simp at h) (fun b cap vs w0 G F0 => ?_)
 refine sQ (rG (eZ Z (oN (tN (sQ (sQ (rG (eZ Z (oN (tN (W_block ?_)))))))))))
 refine lK (α := Int × Int × List Value × List T) [0] [] (fun x => [(5, .t (.int (x.1))), (1, .t (.int (x.2.1)))]) (fun x => [(19, .raw b (cap * 1) (x.2.2.1) (x.2.2.2))]) (fun x => 0 ≤ (x.1) ∧ (x.1) ≤ l.length ∧ k ≤ (x.2.1) ∧ (x.2.1) + ctL ctAs (l.drop (x.1).toNat) = k + ctL ctAs l ∧ ∃ done : List (List Act), done.length = (x.1).toNat ∧ (x.2.2.2) = (done ++ l.drop (x.1).toNat).map T.Acts ∧ mkL mkAs ctAs l k = done ++ mkL mkAs ctAs (l.drop (x.1).toNat) (x.2.1)) (fun x => Int.toNat (l.length - (x.1))) (0, k, vs, (l.map T.Acts).flatMap T.cells) ?_ (fun x hx => ?_)
 ·exact ⟨by omega, by omega, Int.le_refl k, by simp, [], rfl, by rw [flat_one fun _ => rfl]; rfl, rfl⟩
 obtain ⟨i, k', vs', ts⟩ := x
 obtain ⟨hi0, hi1, hkk, hk', done, hd, hts, he⟩ := hx
 dsimp only at hi0 hi1 hkk hk' hd hts he ⊢
 refine nY Z (sQ (sQ (rG (eK 2 Z (WO_lenV Z Z (lt_of Z) Z ⟨70, by kernel_rfl⟩ rfl (eZ Z (oN (tN ?_))))))))
 refine W_cond Z (fun h1 => ?_) (fun h1 => ?_)
 ·
  simp only [HS] at h1
  refine W_skip (tN (sQ (W_block (rG ?_))))
  have hca := ctL_at ctAs hi0 h1
  have hcr := ctL_pos0 ctAs_pos (l.drop (i + 1).toNat)
  have hcx := ctAs_pos (l[i.toNat]'(by omega))
  have hq : ctL ctAct (l[i.toNat]'(by omega)) = ctAs (l[i.toNat]'(by omega)) := rfl
  refine eK 2 Z (WO_idxV tys Z Z (lt_of Z) Z Z Z Z Z Z (by omega) (by first | omega | (simp only [List.length_map]; omega)) ?_)
  refine WO_loadV tys (id := 19) Z Z (lt_of Z) Z Z Z Z Z (by rw [hts]; exact cell1 hd hi0 (by omega)) (fun u15 hu15 => ?_)
  refine eZ Z (kZ [0,1,5,6,7,8,9,12,13,14,15,16] Z (WO_markN (id := 19) (j := i.toNat * 1) Z Z (lt_of Z) Z Z Z Z Z Z (hu15) (by rw [hts]; exact cell1 hd hi0 (by omega)) (markActS_m _ k' (by omega) (by have hq : ctL ctAct (l[i.toNat]'(by omega)) = ctAs (l[i.toNat]'(by omega)) := rfl; omega)) ?_))
  refine eZ Z (oN (bN (tN (rG (eZ Z (evI ?_))))))
  refine eZ Z (oN ?_)
  refine lQ (_, _, _, _) ?_ ?_
  ·dsimp only
   exact ⟨by omega, by omega, by omega, by have hq : ctL ctAct (l[i.toNat]'(by omega)) = ctAs (l[i.toNat]'(by omega)) := rfl; omega, done ++ [mkAs (l[i.toNat]'(by omega)) k'], by simp [hd]; omega, by rw [hts]; exact set1 (g := T.Acts) hd hi0 h1 _, by rw [he, drop_at hi0 h1, mkL]; simp⟩
  ·(show Int.toNat _ < Int.toNat _); omega
 simp only [HS] at h1
 refine W_exit (tE (loopQ_e (inBlk_y (tN (sQ (rG (eK 2 Z (oN (tN (rT ?_))))))))))
 refine EndsM_slice (.inr Z) Z Z Z ?_ ?_
 ·rw [drop_end h1] at hk'; simp only [ctL_nil] at hk'; omega
 ·rw [hts, drop_end h1, he, drop_end h1, flat_one fun _ => rfl]; simp [mkL]
open Go.Eng
def newT (l : List Act) : Task := ⟨l, 0, if l.length = 0 then 1 else 0, 0⟩
def newW (room : List Int) (acts : List (List Act)) : World := ⟨room, List.replicate room.length [], List.replicate room.length false, acts.map newT, []⟩
def nwR (room : List Int) (acts : List (List Act)) : World := if goodWorld (newW room acts) then newW room acts else world0
/-! Tasks whose acts are told. -/
abbrev CA := List (Act × List Value)
def okC (C : CA) : Prop := ∀ c, c ∈ C → c.2.length = 4
def nT (C : CA) : T := .agg [.list 4 (toldA C), T.int 0, T.int (newT (C.map (·.1))).state, T.int 0]
def vsC (CC : List CA) : List Value := CC.flatMap fun C => C.flatMap (·.2)
def usA (acts : List (List Act)) : List T := acts.flatMap fun l => (l.map Act.toT).flatMap T.cells
theorem acts_len (l : List Act) : ((l.map Act.toT).flatMap T.cells).length = l.length * 4 := by
 rw [flat_length (n := 4) (cellsA l), List.length_map]
theorem told_len {C : CA} (h : okC C) : (C.flatMap (·.2)).length = C.length * 4 := by
 induction C with
 | nil => rfl
 | cons c C ih =>
  rw [List.flatMap_cons, List.length_append, h c (by simp), ih (fun d hd => h d (by simp [hd])), List.length_cons]
  omega
theorem relNT1 {m : Go.World} {F : Nat → Prop} {C : CA} (h : okC C) {v : Value} (h1 : RelL m F [v] [.list 4 (toldA C)]) (h2 : RelL m F (C.flatMap (·.2)) (((C.map (·.1)).map Act.toT).flatMap T.cells)) : RelL m F [v] [T.Acts (C.map (·.1))] := by
 generalize hy : T.list 4 (toldA C) = y at h1
 cases h1 with
 | v p1 p2 => cases hy
 | none p =>
  have e : C = [] := by have := (T.list.inj hy).2; unfold toldA at this; exact List.map_eq_nil_iff.1 this
  subst e; exact .none .nil
 | list p1 p2 p3 p4 p5 p6 p7 =>
  obtain ⟨rfl, rfl⟩ := T.list.inj hy
  rw [toldA_flat] at p6
  have e := relL_told p6
  subst e
  have el : (toldA C).length = ((C.map (·.1)).map Act.toT).length := by rw [toldA_len, List.length_map, List.length_map]
  rw [el] at p5 ⊢
  exact .list p1 p2 p3 (cellsA _) p5 h2 .nil
theorem relNT {m : Go.World} {F : Nat → Prop} : ∀ {CC : List CA}, (∀ C, C ∈ CC → okC C) → ∀ {vs}, RelL m F vs ((CC.map nT).flatMap T.cells) → RelL m F (vsC CC) (usA (CC.map fun C => C.map (·.1))) →
  RelL m F vs ((((CC.map fun C => C.map (·.1)).map newT).map Task.tt).flatMap T.cells)
 | [], _, vs, h, _ => h
 | C :: CC, ho, vs, h, hr => by
  have hC := ho C (by simp)
  simp only [List.map_cons, List.flatMap_cons] at h ⊢
  simp only [vsC, usA, List.map_cons, List.flatMap_cons] at hr
  have hl : (C.flatMap (·.2)).length = (((C.map (·.1)).map Act.toT).flatMap T.cells).length := by rw [told_len hC, acts_len, List.length_map]
  have hr1 := hr.take (C.flatMap (·.2)).length
  have hr2 := relL_drop (C.flatMap (·.2)).length hr
  rw [List.take_left] at hr1
  rw [List.drop_left] at hr2
  rw [hl, List.take_left] at hr1
  rw [hl, List.drop_left] at hr2
  change RelL m F vs (.list 4 (toldA C) :: T.int 0 :: T.int (newT (C.map (·.1))).state :: T.int 0 :: (CC.map nT).flatMap T.cells) at h
  show RelL m F vs (T.Acts (C.map (·.1)) :: T.int 0 :: T.int (newT (C.map (·.1))).state :: T.int 0 :: _)
  cases vs with
  | nil => cases h
  | cons v vs =>
   obtain ⟨h0, h⟩ := h.cons
   cases h with
   | v q1 h =>
    cases h with
    | v q2 h =>
     cases h with
     | v q3 h => exact RelL.cons' (relNT1 hC h0 hr1) (.v q1 (.v q2 (.v q3 (relNT (fun D hD => ho D (by simp [hD])) h hr2))))
theorem relNW {m : Go.World} {F : Nat → Prop} {CC : List CA} (ho : ∀ C, C ∈ CC → okC C) {v : Value} (h : RelL m F [v] [.list 4 (CC.map nT)]) (hr : RelL m F (vsC CC) (usA (CC.map fun C => C.map (·.1)))) : RelL m F [v] [T.Tasks ((CC.map fun C => C.map (·.1)).map newT)] := by
 generalize hy : T.list 4 (CC.map nT) = y at h
 cases h with
 | v p1 p2 => cases hy
 | none p =>
  have e : CC = [] := List.map_eq_nil_iff.1 (T.list.inj hy).2
  subst e; exact .none .nil
 | list p1 p2 p3 p4 p5 p6 p7 =>
  obtain ⟨rfl, rfl⟩ := T.list.inj hy
  have el : (CC.map nT).length = (((CC.map fun C => C.map (·.1)).map newT).map Task.tt).length := by simp
  rw [el] at p5 ⊢
  exact .list p1 p2 p3 tasks_cells p5 (relNT ho p6 hr) .nil
theorem newW_big {room : List Int} {acts : List (List Act)} (h : 3 < room.length ∨ 4 < acts.length ∨ ∃ l, l ∈ acts ∧ 6 < l.length) : goodWorld (newW room acts) = false := by
 rw [Bool.eq_false_iff]
 intro hg
 have hw := gw_iff.1 hg
 rcases h with h | h | ⟨l, hl, h⟩
 ·have h1 : (room.length : Int) ≤ 3 := hw.room.2
  omega
 ·have h1 := hw.tasks.2
  have h2 : (newW room acts).tasks.length = acts.length := List.length_map _
  omega
 ·have := ((good_of hg).pos (newT l) (List.mem_map.2 ⟨l, hl, rfl⟩)).2.2
  have h3 : (newT l).acts = l := rfl
  rw [h3] at this
  omega
theorem idxActL_fun (l : List (List Act)) (p : List Act → Bool) (f : Nat) (caps : List D) (hcaps : caps.all D.imm = true) (hl : l.length ≤ 9223372036854775807) (hf : ∀ x, x ∈ l → Fun Try.prog f (.t (T.Acts x) :: caps) (.t (.bool (p x)))) : Fun Try.prog 113 [.t (T.ActLs l), .clo f caps] (tupD [.t (.int (idxGo p l 0))]) := by
 refine Fun.begin tys Try.func113 Z Z (N := 19) [(0, .t (T.ActLs l)), (1, .clo f caps)] Z Z (fun w0 G F0 => ?_)
 refine sQ (rG (eZ Z (oN (tN (sQ (sQ (rG (eZ Z (evE ?_)))))))))
 refine eZ Z (oN (tN (W_block ?_)))
 refine lK (α := Int) [0, 1, 7] [] (fun x => [(8, .t (.int x))]) (fun x => []) (fun x => 0 ≤ x ∧ x ≤ l.length ∧ idxGo p l 0 = idxGo p (l.drop x.toNat) x) (fun x => Int.toNat (l.length - x)) 0 ?_ (fun k hx => ?_)
 ·exact ⟨by omega, by omega, rfl⟩
 obtain ⟨hk0, hk1, hk2⟩ := hx
 refine nY Z (sQ (rG (eZ Z (oN (tN (sQ ?_))))))
 refine W_cond Z (fun h1 => ?_) (fun h1 => ?_)
 ·
  simp only [HS] at h1
  refine W_skip (tN (sQ (W_block (sQ (rG (eK 2 Z (oN (tN (sQ (rG (WO_moveClo tys Z Z (lt_of Z) Z Z (by assumption) ?_)))))))))))
  refine eK 2 Z (WO_idxT tys Z Z (lt_of Z) Z Z Z Z Z Z Z (by omega) _ (getT _ _ (by omega) (by omega)) (eZ Z ?_))
  refine WO_call Z Z (lt_of Z) Z Z (by repeat (first | exact ResL.done | exact ResL.imms (by first | rfl | assumption) | refine ResL.t ?_ | refine ResL.own ?_ | refine ResL.slA Z (by first | rfl | (simp; done) | (simp; omega)) ?_ | refine ResL.sl Z (by first | omega | (simp; done) | (simp; omega)) ?_ | refine ResL.rp ?_ | refine ResL.clo ?_ ?_ | refine ResL.aggT ?_ ?_ | refine ResL.ref Z ?_ ?_ | refine ResL.nil' ?_ | refine ResL.nil 1 ?_)) (hf _ (List.getElem_mem _)) Z ?_
  refine kZ [0,1,5,7,8,9,10,11,12,13,14,15,16] Z (oN (tN ?_))
  refine W_cond Z (fun h2 => ?_) (fun h2 => ?_)
  ·
   refine sQ (rG (eK 2 Z (oN (tN (rT (bR (tR (loopQ_r (bR (tR (eR ?_)))))))))))
   ·rw [hk2, idx_at hk0 h1]
    simp [h2]
    done
  refine W_skip (bN (tN (rG (evI ?_))))
  refine eZ Z (oN ?_)
  refine lQ _ ?_ ?_
  ·skip
   refine ⟨by omega, by omega, ?_⟩; rw [hk2, idx_at hk0 h1]; simp [h2]
  ·(show Int.toNat _ < Int.toNat _); omega
 simp only [HS] at h1
 refine W_exit (tE (loopQ_e (inBlk_y (tN (sQ (rG (eZ Z (oN (tN (rT (eR ?_)))))))))))
 ·rw [hk2, drop_end h1]
  rfl
theorem hasActL_fun (l : List (List Act)) (p : List Act → Bool) (f : Nat) (caps : List D) (hcaps : caps.all D.imm = true) (hl : l.length ≤ 9223372036854775807) (hf : ∀ x, x ∈ l → Fun Try.prog f (.t (T.Acts x) :: caps) (.t (.bool (p x)))) : Fun Try.prog 97 [.t (T.ActLs l), .clo f caps] (tupD [.t (.bool (l.any p))]) := by
 refine Fun.begin tys Try.func97 Z Z (N := 9) [(0, .t (T.ActLs l)), (1, .clo f caps)] Z Z (fun w0 G F0 => ?_)
 refine sQ (rG (eZ Z (oN (tN (sQ (rG (eZ Z (WO_moveClo tys Z Z (lt_of Z) Z Z (by assumption) ?_))))))))
 refine WO_call Z Z (lt_of Z) Z Z (by repeat (first | exact ResL.done | exact ResL.imms (by first | rfl | assumption) | refine ResL.t ?_ | refine ResL.own ?_ | refine ResL.slA Z (by first | rfl | (simp; done) | (simp; omega)) ?_ | refine ResL.sl Z (by first | omega | (simp; done) | (simp; omega)) ?_ | refine ResL.rp ?_ | refine ResL.clo ?_ ?_ | refine ResL.aggT ?_ ?_ | refine ResL.ref Z ?_ ?_ | refine ResL.nil' ?_ | refine ResL.nil 1 ?_)) (idxActL_fun l p f caps hcaps hl hf) Z ?_
 refine eK 2 Z (oN (tN (rT (eR ?_))))
 ·rw [← idxGo_any (Int.le_refl 0)]
theorem newWorld1_fun (l : List Act) (hl : l.length ≤ 9223372036854775807) : Fun Try.prog 98 [.t (T.Acts l)] (tupD [.t (.bool (decide ((6 : Int) < l.length)))]) := by
 refine Fun.begin tys Try.func98 Z Z (N := 6) [(0, .t (T.Acts l))] Z Z (fun w0 G F0 => ?_)
 refine sQ (rG (eZ Z (oN (tN (sQ (rG (eZ Z (evE ?_))))))))
 refine eK 2 Z (oN (tN (rT (eR ?_))))
 ·rfl
open Go.Eng
theorem ro_step {acts : List (List Act)} {CC : List CA} {C : CA} {l : List Act} {i : Int} (h0 : 0 ≤ i) (h1 : i < acts.length) (hl : l = acts[i.toNat]'(by omega)) :
  Blk.ro (vsC CC ++ C.flatMap (·.2)) (usA (acts.take i.toNat) ++ (l.map Act.toT).flatMap T.cells) = .ro (vsC (CC ++ [C])) (usA (acts.take (i + 1).toNat)) := by
 rw [take_at h0 h1, ← hl]
 simp [vsC, usA]
theorem ro_at {m : Go.World} {F : Nat → Prop} : ∀ {CC : List CA} {k : Nat} (hk : k < CC.length), (∀ C, C ∈ CC → okC C) → RelL m F (vsC CC) (usA (CC.map fun C => C.map (·.1))) → RelL m F (CC[k].flatMap (·.2)) (((CC[k].map (·.1)).map Act.toT).flatMap T.cells)
 | [], _, h, _, _ => by simp at h
 | C :: CC, k, hk, ho, hr => by
  have hC := ho C (by simp)
  simp only [vsC, usA, List.map_cons, List.flatMap_cons] at hr
  have hl : (C.flatMap (·.2)).length = (((C.map (·.1)).map Act.toT).flatMap T.cells).length := by rw [told_len hC, acts_len, List.length_map]
  have hr1 := hr.take (C.flatMap (·.2)).length
  have hr2 := relL_drop (C.flatMap (·.2)).length hr
  rw [List.take_left] at hr1
  rw [List.drop_left] at hr2
  rw [hl, List.take_left] at hr1
  rw [hl, List.drop_left] at hr2
  cases k with
  | zero => exact hr1
  | succ k => exact ro_at (CC := CC) (by simpa using hk) (fun D hD => ho D (by simp [hD])) hr2
theorem relNew {m : Go.World} {F : Nat → Prop} {CC : List CA} {room : List Int} {acts : List (List Act)} (ho : ∀ C, C ∈ CC → okC C) (hCC : CC.map (fun C => C.map (·.1)) = acts) {v0 v1 v2 v3 v4 : Value}
  (h : RelL m F [v0, v1, v2, v3, v4] [T.ints room, .list 1 (List.replicate room.length (.list 1 [])), .list 1 (List.replicate room.length (.v (.bool false))), .list 4 (CC.map nT), .list 1 []]) (hr : RelL m F (vsC CC) (usA acts)) :
  RelL m F [v0, v1, v2, v3, v4] [T.ints room, intss (newW room acts).held, T.bools (newW room acts).shut, T.Tasks (newW room acts).tasks, T.ints []] := by
 subst hCC
 obtain ⟨h0, h⟩ := h.cons
 obtain ⟨h1, h⟩ := h.cons
 obtain ⟨h2, h⟩ := h.cons
 obtain ⟨h3, h⟩ := h.cons
 have e1 : intss (newW room (CC.map fun C => C.map (·.1))).held = .list 1 (List.replicate room.length (.list 1 [])) := by
  show T.list 1 _ = _
  simp [newW, T.ints]
 have e2 : T.bools (newW room (CC.map fun C => C.map (·.1))).shut = .list 1 (List.replicate room.length (.v (.bool false))) := by
  show T.list 1 _ = _
  simp [newW]
 rw [e1, e2]
 exact RelL.cons' h0 (RelL.cons' h1 (RelL.cons' h2 (RelL.cons' (relNW ho h3 hr) h)))
theorem nw_no {room : List Int} {acts : List (List Act)} (h : goodWorld (newW room acts) = false) : [world0.dd, D.t (T.v (.bool false))] = [(nwR room acts).dd, D.t (T.bool (goodWorld (newW room acts)))] := by
 rw [nwR, h]; rfl
theorem nw_yes {room : List Int} {acts : List (List Act)} (h : goodWorld (newW room acts) = true) {R : List D} (hR : D.agg R = (newW room acts).dd) : [D.agg R, D.t (T.v (.bool true))] = [(nwR room acts).dd, D.t (T.bool (goodWorld (newW room acts)))] := by
 rw [nwR, h, hR]; rfl
theorem nw_dd {room : List Int} {acts : List (List Act)} {CC : List CA} (hCC : CC.map (fun C => C.map (·.1)) = acts) : D.agg [.own (T.ints room), .own (.list 1 (List.replicate room.length (.list 1 []))), .own (.list 1 (List.replicate room.length (.v (.bool false)))), .own (.list 4 (CC.map fun C => Task.tt (newT (C.map (·.1))))), .own (.list 1 [])] = (newW room acts).dd := by
 subst hCC
 simp [newW, T.ints]
theorem ok_new {B : Nat} {room : List Int} {acts : List (List Act)} (hr : room.length ≤ B) (ha : okL B (okL B (Act.ok B)) acts) : (newW room acts).ok B :=
 ⟨hr, ⟨by show (List.replicate _ _).length ≤ B; rw [List.length_replicate]; exact hr, fun x hx => by rw [List.eq_of_mem_replicate hx]; exact Nat.zero_le _⟩, by show (List.replicate _ _).length ≤ B; rw [List.length_replicate]; exact hr,
  ⟨by show (acts.map newT).length ≤ B; rw [List.length_map]; exact ha.1, fun t ht => by obtain ⟨l, hl, rfl⟩ := List.mem_map.1 ht; exact ⟨ha.2 l hl, trivial⟩⟩, Nat.zero_le _, trivial⟩
theorem newWorld_fun (room : List Int) (acts : List (List Act)) (hr : room.length ≤ 1048576) (ha : okL 1048576 (okL 1048576 (Act.ok 1048576)) acts) (ha' : okL 9223372036854775807 (okL 9223372036854775807 (Act.ok 9223372036854775807)) acts) : Fun Try.prog 56 [.t (T.ints room), .t (T.ActLs acts)] (tupD [(nwR room acts).dd, .t (.bool (goodWorld (newW room acts)))]) := by
  have hal : acts.length ≤ 1048576 := ha.1
  refine Fun.begin tys Try.func56 Z Z (N := 78) [(0, .t (T.ints room)), (1, .t (T.ActLs acts))] Z Z (fun w0 G F0 => ?_)
  refine sQ (rG (WO_alloc tys Z Z (lt_of Z) Z Z Z (nZ Z (eZ Z (oN (tN (sQ (sQ (rG (eZ Z (evE ?_)))))))))))
  refine eK 2 Z ?_
  refine WO_guard Z Z Z Z (lt_of Z) (fun h1 => ?_) (fun h1 => ?_)
  rotate_left
  ·
    simp only [HS] at h1
    refine gM Z (gM Z (eZ Z (kZ [0,1,4,5,18] Z (eZ Z (gM Z (gM Z (eZ Z (oN (tN (W_condT Z (sQ (rG (WO_struct tys Z Z (lt_of Z) Z Z Z (by kernel_rfl) Z Z Z Z Z Z (sT Z (nZ Z ?_)))))))))))))))
    refine eZ Z (oN (tN ?_))
    (first | (refine W_le (Le.nilBox (u := 4) (j := 0) 1 rfl rfl) ?_; refine W_norm rfl ?_; refine W_le (Le.nilBox (u := 4) (j := 1) 1 rfl rfl) ?_; refine W_norm rfl ?_; refine W_le (Le.nilBox (u := 4) (j := 2) 1 rfl rfl) ?_; refine W_norm rfl ?_; refine W_le (Le.nilBox (u := 4) (j := 3) 4 rfl rfl) ?_; refine W_norm rfl ?_; refine W_le (Le.nilBox (u := 4) (j := 4) 1 rfl rfl) ?_; refine W_norm rfl ?_) | skip)
    refine rT (tR (eR ?_))
    · first
      | exact nw_no (newW_big (.inl (by omega)))
  simp only [HS] at h1
  refine eZ Z (gY Z (evE ?_))
  refine gY Z (eZ Z (kZ [0,1,4,5,14,17] Z (eK 2 Z ?_)))
  refine WO_guard Z Z Z Z (lt_of Z) (fun h2 => ?_) (fun h2 => ?_)
  rotate_left
  ·
    simp only [HS] at h2
    refine gM Z (eZ Z (oN (tN (W_condT Z (sQ (rG (WO_struct tys Z Z (lt_of Z) Z Z Z (by kernel_rfl) Z Z Z Z Z Z (sT Z (nZ Z (eZ Z (oN (tN ?_))))))))))))
    (first | (refine W_le (Le.nilBox (u := 4) (j := 0) 1 rfl rfl) ?_; refine W_norm rfl ?_; refine W_le (Le.nilBox (u := 4) (j := 1) 1 rfl rfl) ?_; refine W_norm rfl ?_; refine W_le (Le.nilBox (u := 4) (j := 2) 1 rfl rfl) ?_; refine W_norm rfl ?_; refine W_le (Le.nilBox (u := 4) (j := 3) 4 rfl rfl) ?_; refine W_norm rfl ?_; refine W_le (Le.nilBox (u := 4) (j := 4) 1 rfl rfl) ?_; refine W_norm rfl ?_) | skip)
    refine rT (tR (eR ?_))
    · first
      | exact nw_no (newW_big (.inr (.inl (by omega))))
  simp only [HS] at h2
  refine eZ Z (gY Z (callB ?_))
  refine ⟨_, hasActL_fun acts (fun l => decide ((6 : Int) < l.length)) _ [] Z (by omega) (fun x hx => newWorld1_fun x (ha'.2 x hx).1), rfl, ?_⟩
  refine eZ Z (oN (tN ?_))
  refine W_cond Z (fun h3 => ?_) (fun h3 => ?_)
  ·
    refine sQ (rG (WO_struct tys Z Z (lt_of Z) Z Z Z (by kernel_rfl) Z Z Z Z Z Z (sT Z (nZ Z (eZ Z (oN (tN ?_)))))))
    (first | (refine W_le (Le.nilBox (u := 4) (j := 0) 1 rfl rfl) ?_; refine W_norm rfl ?_; refine W_le (Le.nilBox (u := 4) (j := 1) 1 rfl rfl) ?_; refine W_norm rfl ?_; refine W_le (Le.nilBox (u := 4) (j := 2) 1 rfl rfl) ?_; refine W_norm rfl ?_; refine W_le (Le.nilBox (u := 4) (j := 3) 4 rfl rfl) ?_; refine W_norm rfl ?_; refine W_le (Le.nilBox (u := 4) (j := 4) 1 rfl rfl) ?_; refine W_norm rfl ?_) | skip)
    refine rT (tR (eR ?_))
    · first
      | exact nw_no (newW_big (.inr (.inr (by obtain ⟨l, g1, g2⟩ := List.any_eq_true.1 h3; exact ⟨l, g1, by have := of_decide_eq_true g2; omega⟩))))
  refine W_skip (tN (sQ ?_))
  have hs1 : room.length ≤ 3 := by simp_all; omega
  have hs2 : acts.length ≤ 4 := by simp_all; omega
  refine W_regionGm 10 mixed Z (by kernel_rfl) (by kernel_rfl) (QG_ev tys Z Z (lt_of Z) Z (QG_norm Z (callBG ?_)))
  refine ⟨_, cloneI_fun room (by omega), rfl, ?_⟩
  refine QG_ev tys Z Z (lt_of Z) Z (QG_evE tys Z Z (lt_of Z) Z (by first | exact lenM | exact Z) ?_)
  refine QG_make tys (.list 1 []) _ Z Z (lt_of Z) Z Z Z Z Z (by repeat (first | exact AbsL.nil' | refine AbsL.v' ?_ | refine AbsL.none' ?_)) Z (by omega) (by decide) ?_
  refine QG_ev tys Z Z (lt_of Z) Z (QG_evE tys Z Z (lt_of Z) Z (by first | exact lenM | exact Z) ?_)
  refine QG_norm Z ?_
  refine QG_make tys (.v (.bool false)) _ Z Z (lt_of Z) Z Z Z Z Z (by repeat (first | exact AbsL.nil' | refine AbsL.v' ?_ | refine AbsL.none' ?_)) Z (by omega) (by decide) ?_
  refine QG_struct tys Z Z (lt_of Z) Z Z Z (by kernel_rfl) Z Z Z Z Z Z (QG_alloc tys Z Z (lt_of Z) Z Z Z Z (QG_nil ?_))
  refine ⟨by kernel_rfl, ?_⟩
  refine nZ Z (sT Z (nZ Z (oN (tN (sQ (sQ (nY Z (W_le (Le.nilBox (u := 6) (j := 3) 4 Z Z) (nY Z (W_le (Le.adoptBox (u := 6) (j := 3) (id := 192) Z Z Z) (nY Z (W_le (Le.roNil 101) (nY Z (rG (eZ Z ?_)))))))))))))))
  refine evE ?_
  refine eZ Z (oN (tN (W_block ?_)))
  refine lK (α := Int × Nat × List T × List CA) [1, 4, 6, 33, 34] [4] (fun x => [(35, .t (.int (x.1)))]) (fun x => [(6, .box [.own (T.ints room), .own (.list 1 (List.replicate room.length (.list 1 []))), .own (.list 1 (List.replicate room.length (.v (.bool false)))), .sl 192 0 (x.2.1), .nil]), (192, .L 4 (x.2.2.1)), (101, .ro (vsC (x.2.2.2)) (usA (acts.take (x.1).toNat)))]) (fun x => 0 ≤ (x.1) ∧ (x.1) ≤ acts.length ∧ (x.2.1) = (x.2.2.1).length ∧ (x.2.2.1) = (x.2.2.2).map nT ∧ (∀ C, C ∈ (x.2.2.2) → okC C) ∧ (x.2.2.2).map (fun C => C.map (·.1)) = acts.take (x.1).toNat) (fun x => Int.toNat (acts.length - (x.1))) (0, 0, [], []) ?_ (fun x hx => ?_)
  · exact ⟨by omega, by omega, rfl, rfl, (by simp), rfl⟩
  obtain ⟨i, m, ys, CC⟩ := x
  obtain ⟨hi0, hi1, hm, hys, hoC, hCC⟩ := hx
  dsimp only at hi0 hi1 hm hys hoC hCC ⊢
  refine nY Z (sQ (rG (eZ Z (oN (tN (sQ ?_))))))
  refine W_cond Z (fun h4 => ?_) (fun h4 => ?_)
  ·
    simp only [HS] at h4
    refine W_skip (tN (sQ (W_block (sQ ?_))))
    obtain ⟨l, hl⟩ : ∃ l, l = acts[i.toNat]'(by omega) := ⟨_, rfl⟩
    have hlo := ha.2 l (by rw [hl]; exact List.getElem_mem _)
    have hll : l.length ≤ 1048576 := hlo.1
    have hyl : ys.length = i.toNat := by have e := congrArg List.length hCC; rw [List.length_map, List.length_take] at e; rw [hys, List.length_map]; omega
    refine rG (WO_idxT tys Z Z (lt_of Z) Z Z Z Z Z Z Z (by omega) _ (getT _ _ (by omega) (by omega)) (eZ Z ?_))
    rw [← hl]
    refine eZ Z (oN (tN (sQ (rG (WO_struct tys Z Z (lt_of Z) Z Z Z (by kernel_rfl) Z Z Z Z Z Z (WO_alloc tys Z Z (lt_of Z) Z Z Z (nZ Z (sT Z (nZ Z (oN (tN (sQ (sQ (kY [1,4,6,8,9,33,34,35,36,37,38,39] Z (rG ?_)))))))))))))))
    refine eZ Z (evE ?_)
    refine eZ Z (oN (tN ?_))
    refine W_joinN (α := Int) [1, 4, 6, 8, 9, 33, 34, 35, 36, 37, 38, 39, 40, 41, 42] [4, 6, 101, 192] (fun x => []) (fun x => [(9, .box [.nil, .t (T.int 0), .t (T.int x), .t (T.int 0)])]) (fun x => x = (newT l).state) ?_ (fun st hx => ?_)
    ·
      refine W_cond Z (fun h5 => ?_) (fun h5 => ?_)
      ·
        simp only [HS] at h5
        refine rG (eZ Z (sT Z (nZ Z (oN ?_))))
        refine joinQ_n _ (by (try dsimp only); repeat (first | exact Sub.nil' | refine Sub.cons' rfl ?_)) (by (try dsimp only); repeat (first | exact SubM.nil' | refine SubM.cons' rfl ?_)) ?_
        unfold newT
        simp_all
        done
      simp only [HS] at h5
      refine W_skip ?_
      refine joinQ_n _ (by (try dsimp only); repeat (first | exact Sub.nil' | refine Sub.cons' rfl ?_)) (by (try dsimp only); repeat (first | exact SubM.nil' | refine SubM.cons' rfl ?_)) ?_
      unfold newT
      simp_all
      done
    have hst := hx
    refine tN (sQ (nY Z ?_))
    refine W_tellL (u := 8) 102 Z (fun vs hvs => ?_)
    obtain ⟨C, hC1, hC2, rfl⟩ := cutV (l := l) (vs := vs) (n := 4) (by rw [hvs, List.length_map])
    have hCl : C.length = l.length := by rw [← hC1, List.length_map]
    refine ⟨toldA C, toldA_flat C, by rw [toldA_len, List.length_map, hCl], fun y hy => (toldA_read hC2 y hy).1, ?_⟩
    refine nY Z (W_le (Le.roJoin 101 102 Z Z) (nY Z (W_le (Le.eqK (id := 101) Z (ro_step (CC := CC) hi0 (by omega) hl)) (nY Z (kY [1,4,6,8,9,33,34,35,36,37,38,39,40,41,42] Z (rG (eZ Z (callB ?_))))))))
    refine ⟨_, cloneAv_fun _ (by rw [toldA_len]; omega) (toldA_read hC2), rfl, ?_⟩
    refine eZ Z (sT Z (nZ Z (oN (tN (rG (eK 2 Z (WO_loadMove tys Z Z (lt_of Z) Z Z Z Z Z Z (nZ Z ?_))))))))
    refine WO_buildSlice tys [.agg [.list 4 (toldA C), T.int 0, T.int st, T.int 0]] Z Z (lt_of Z) Z Z Z Z Z (lt_of Z) (by repeat (first | exact PartsOk.nil' | refine PartsOk.cons' rfl (by repeat (first | exact AbsL.nil' | refine AbsL.v' ?_ | refine AbsL.own' ?_ | refine AbsL.none' ?_)) Z ?_)) (by first | exact List.nodup_nil | exact nodup1 _ | decide | exact nodupB_sound Z) Z (by decide) ?_
    refine nZ Z (WO_append tys Z Z (lt_of Z) Z Z Z Z Z (.own Z (by first | omega | (simp only [List.length_append]; omega))) Z (.own Z (by first | decide | omega)) (by decide) (by simp only [List.length_take, List.length_cons, List.length_nil]; omega) (by decide) Z ?_)
    refine nZ Z (kZ [1,4,6,8,9,33,34,35,36,37,38,39,40,41,42,44,45,46,47,48,49,50,51] Z (eZ Z (sT Z (nZ Z (oN (bN (tN (rG (evI ?_)))))))))
    refine eZ Z (oN ?_)
    refine lQ (_, _, _, CC ++ [C]) ?_ ?_
    · dsimp only
      subst hm
      refine ⟨by omega, by omega, by simp, ?_, ?_, ?_⟩
      · rw [List.take_length, hys, List.map_append, hst]
        show _ ++ [_] = _ ++ [nT C]
        rw [nT, hC1]
      · intro D hD
        rcases List.mem_append.1 hD with h | h
        · exact hoC D h
        · rw [List.mem_singleton] at h; subst h; exact hC2
      · rw [List.map_append, hCC, take_at hi0 (by omega), ← hl]
        show _ ++ [C.map (·.1)] = _
        rw [hC1]
    · (show Int.toNat _ < Int.toNat _); omega
  simp only [HS] at h4
  refine W_exit (tE (loopQ_e (inBlk_y (tN (sQ (sQ ?_))))))
  obtain rfl : i = acts.length := by omega
  rw [show ((acts.length : Int)).toNat = acts.length from by omega, List.take_length] at hCC ⊢
  subst hm hys
  refine W_le (Le.gatherBox (u := 6) (j := 3) (id := 192) Z Z Z (Nat.le_refl _) Z) (nY Z ?_)
  rw [List.take_length]
  refine W_le (Le.nilBox (u := 6) (j := 4) 1 Z Z) (nY Z (W_WO ?_))
  refine WO_exposeBox (u := 6) (idp := 140) (j := 0) Z Z Z (fun v0 => ?_)
  refine nZ Z ?_
  refine WO_exposeBox (u := 6) (idp := 141) (j := 1) Z Z Z (fun v1 => ?_)
  refine nZ Z ?_
  refine WO_exposeBox (u := 6) (idp := 142) (j := 2) Z Z Z (fun v2 => ?_)
  refine nZ Z ?_
  refine WO_exposeBox (u := 6) (idp := 143) (j := 3) Z Z Z (fun v3 => ?_)
  refine nZ Z ?_
  refine WO_exposeBox (u := 6) (idp := 144) (j := 4) Z Z Z (fun v4 => ?_)
  refine nZ Z (oN (rG (eZ Z (nZ Z (WO_callV Z Z (lt_of Z) Z Z (ViewL.told5 (i0 := 140) (i1 := 141) (i2 := 142) (i3 := 143) (i4 := 144) (idr := 101) Z Z Z Z Z Z (fun h1 h2 => relNew hoC hCC h1 h2)) (isWorld_fun (newW room acts) (ok_new (by omega) ha) (ok_new (by omega) ha')) Z (eZ Z (oN (tN ?_))))))))
  refine W_cond Z (fun h5 => ?_) (fun h5 => ?_)
  ·
    simp only [HS] at h5
    refine sQ (rG (WO_struct tys Z Z (lt_of Z) Z Z Z (by kernel_rfl) Z Z Z Z Z Z (sT Z (nZ Z (eZ Z (oN (tN ?_)))))))
    (first | (refine W_le (Le.nilBox (u := 4) (j := 0) 1 rfl rfl) ?_; refine W_norm rfl ?_; refine W_le (Le.nilBox (u := 4) (j := 1) 1 rfl rfl) ?_; refine W_norm rfl ?_; refine W_le (Le.nilBox (u := 4) (j := 2) 1 rfl rfl) ?_; refine W_norm rfl ?_; refine W_le (Le.nilBox (u := 4) (j := 3) 4 rfl rfl) ?_; refine W_norm rfl ?_; refine W_le (Le.nilBox (u := 4) (j := 4) 1 rfl rfl) ?_; refine W_norm rfl ?_) | skip)
    refine rT (tR (eR ?_))
    · first
      | exact nw_no (by assumption)
  simp only [HS] at h5
  refine W_skip (tN (sQ (sQ ?_)))
  have hg : goodWorld (newW room acts) = true := by simp_all
  refine nY Z (W_le (Le.claimBox (u := 6) (idp := 140) (j := 0) Z Z Z Z) (nY Z (W_le (Le.claimBox (u := 6) (idp := 141) (j := 1) Z Z Z Z) (nY Z (W_le (Le.claimBox (u := 6) (idp := 142) (j := 2) Z Z Z Z) (nY Z (W_le (Le.claimBox (u := 6) (idp := 143) (j := 3) Z Z Z Z) (nY Z (W_le (Le.claimBox (u := 6) (idp := 144) (j := 4) Z Z Z Z) (nY Z (W_le (Le.adoptBox (u := 6) (j := 3) (id := 193) Z Z Z) (nY Z ?_))))))))))))
  rw [show (List.map nT CC).length = CC.length from List.length_map _]
  have hcl : CC.length = acts.length := by rw [← hCC, List.length_map]
  refine rG (eK 2 Z (evE ?_))
  refine eZ Z (oN (tN (W_block ?_)))
  refine lK (α := Int × List T) [4, 6, 60] [4, 101] (fun x => [(61, .t (.int (x.1)))]) (fun x => [(6, .box [.own (T.ints room), .own (.list 1 (List.replicate room.length (.list 1 []))), .own (.list 1 (List.replicate room.length (.v (.bool false)))), .sl 193 0 CC.length, .own (.list 1 [])]), (193, .L 4 (x.2))]) (fun x => 0 ≤ (x.1) ∧ (x.1) ≤ CC.length ∧ (x.2) = (CC.take (x.1).toNat).map (fun C => Task.tt (newT (C.map (·.1)))) ++ (CC.map nT).drop (x.1).toNat) (fun x => Int.toNat (CC.length - (x.1))) (0, CC.map nT) ?_ (fun x hx => ?_)
  · exact ⟨by omega, by omega, rfl⟩
  obtain ⟨k, zs⟩ := x
  obtain ⟨hk0, hk1, hzs⟩ := hx
  dsimp only at hk0 hk1 hzs ⊢
  refine nY Z (sQ (rG (eZ Z (oN (tN (sQ ?_))))))
  refine W_cond Z (fun h6 => ?_) (fun h6 => ?_)
  ·
    simp only [HS] at h6
    refine W_skip (tN (sQ (W_block (sQ (rG (eK 2 Z (oN (tN ?_))))))))
    have hkC : k.toNat < CC.length := by omega
    obtain ⟨C, hC⟩ : ∃ C, C = CC[k.toNat]'hkC := ⟨_, rfl⟩
    have hCm : C ∈ CC := by rw [hC]; exact List.getElem_mem _
    have hCo := hoC C hCm
    have hzs2 : zs.length = CC.length := by rw [hzs]; simp; omega
    have hz : zs[k.toNat]? = some (nT C) := by
     have e := mixA_at (f := fun C : CA => Task.tt (newT (C.map (·.1)))) (l := CC) (ys := CC.map nT) (k := k.toNat) (by omega)
     rw [Nat.zero_add] at e
     rw [hzs, e, List.getElem?_map, List.getElem?_eq_getElem hkC, ← hC]; rfl
    refine nY Z ?_
    refine W_takeL (id := 193) (i := k.toNat) (off := 0) (z := nT C) (ys := toldA C) 107 Z hz Z Z Z (fun ad cp => ?_)
    refine nY Z (W_regionGm 10 mixed Z (by kernel_rfl) (by kernel_rfl) ?_)
    iterate 3 (refine QG_ev tys rfl rfl (lt_of rfl) rfl ?_)
    refine QG_norm Z ?_
    iterate 3 (refine QG_ev tys rfl rfl (lt_of rfl) rfl ?_)
    refine QG_idxS tys Z Z (lt_of Z) Z Z Z Z Z Z Z Z (by omega) (by omega) (QG_ev tys Z Z (lt_of Z) Z ?_)
    refine QG_loadL tys Z Z (lt_of Z) Z Z Z Z (by rw [Nat.zero_add]; exact List.getElem?_set_self (by omega)) Z ?_
    refine QG_norm Z (QG_callV Z Z (lt_of Z) Z Z (fun s' hs => ViewL.told1 (id := 107) (idr := 101) (y := T.Acts (C.map (·.1))) (hs _ _ Z) (hs _ _ Z) (fun h1 h2 => relNT1 hCo h1 (by have h3 := ro_at hkC hoC (by rw [hCC]; exact h2); rw [← hC] at h3; exact h3))) (cloneActs_fun (C.map (·.1)) (ha.2 _ (by rw [← hCC]; exact List.mem_map.2 ⟨C, hCm, rfl⟩))) Z ?_)
    refine QG_nil ?_
    refine ⟨by kernel_rfl, ?_⟩
    refine nZ Z (WO_idxS tys Z Z (lt_of Z) Z Z Z Z Z Z Z Z (by omega) (by omega) (eZ Z (nZ Z ?_)))
    refine WO_storeL tys [T.Acts (C.map (fun c : Act × List Value => c.1))] Z Z Z Z Z Z (by rw [Nat.zero_add]; exact List.getElem?_set_self (by omega)) Z (AbsL.own' AbsL.nil') Z (Nat.le_of_ble_eq_true Z) (Nat.le_of_ble_eq_true Z) ?_
    refine nZ Z (oN (bN (tN (rG (evI ?_)))))
    refine eZ Z (oN ?_)
    refine lQ (_, _) ?_ ?_
    · dsimp only
      rw [show (k + 1).toNat = k.toNat + 1 from by omega]
      refine ⟨by omega, by omega, ?_⟩
      rw [Nat.zero_add, List.set_set, hzs]
      have e := mixA_set (f := fun C : CA => Task.tt (newT (C.map (·.1)))) (l := CC) (ys := CC.map nT) (k := k.toNat) hkC (by rw [List.length_map]; exact hkC) rfl
      rw [Nat.zero_add] at e
      rw [← e, ← hC]
      rfl
    · (show Int.toNat _ < Int.toNat _); omega
  simp only [HS] at h6
  refine W_exit (tE (loopQ_e (inBlk_y (tN (sQ (nY Z (W_le (Le.gatherBox (u := 6) (j := 3) (id := 193) Z Z Z (by rw [hzs]; simp; omega) Z) ?_)))))))
  refine nY Z (rG (WO_loadMove tys Z Z (lt_of Z) Z Z Z Z Z Z (nZ Z (sT Z (nZ Z (eZ Z (oN (tN ?_))))))))
  (first | (refine W_le (Le.nilBox (u := 4) (j := 0) 1 rfl rfl) ?_; refine W_norm rfl ?_; refine W_le (Le.nilBox (u := 4) (j := 1) 1 rfl rfl) ?_; refine W_norm rfl ?_; refine W_le (Le.nilBox (u := 4) (j := 2) 1 rfl rfl) ?_; refine W_norm rfl ?_; refine W_le (Le.nilBox (u := 4) (j := 3) 4 rfl rfl) ?_; refine W_norm rfl ?_; refine W_le (Le.nilBox (u := 4) (j := 4) 1 rfl rfl) ?_; refine W_norm rfl ?_) | skip)
  refine rT (eR ?_)
  · first
    | (refine nw_yes hg ?_; rw [hzs, List.drop_eq_nil_of_le (by simp; omega), List.append_nil, take_end (by omega), List.take_of_length_le (by simp)]; exact nw_dd hCC)
open Go.Eng
def hT (p : Value × List Act) : T := .agg [.v p.1, T.int 0, T.int (newT p.2).state, T.int 0]
theorem relHT {m : Go.World} {F : Nat → Prop} : ∀ {hs : List Value} {acts : List (List Act)}, hs.length = acts.length → ∀ {vs}, RelL m F vs (((hs.zip acts).map hT).flatMap T.cells) → RelL m F hs (acts.map T.Acts) → RelL m F vs (((acts.map newT).map Task.tt).flatMap T.cells)
 | [], [], _, vs, h, _ => h
 | [], _ :: _, hl, _, _, _ => by simp at hl
 | _ :: _, [], hl, _, _, _ => by simp at hl
 | u :: hs, l :: acts, hl, vs, h, hr => by
  obtain ⟨h1, h2⟩ := hr.cons
  change RelL m F vs (.v u :: T.int 0 :: T.int (newT l).state :: T.int 0 :: ((hs.zip acts).map hT).flatMap T.cells) at h
  show RelL m F vs (T.Acts l :: T.int 0 :: T.int (newT l).state :: T.int 0 :: ((acts.map newT).map Task.tt).flatMap T.cells)
  cases vs with
  | nil => cases h
  | cons v vs =>
   obtain ⟨h0, h'⟩ := h.cons
   have e := relL_one h0
   clear h
   subst e
   cases h' with
   | v q1 h =>
    cases h with
    | v q2 h =>
     cases h with
     | v q3 h => exact RelL.cons' h1 (.v q1 (.v q2 (.v q3 (relHT (by simpa using hl) h h2))))
theorem relHTL {m : Go.World} {F : Nat → Prop} {hs : List Value} {acts : List (List Act)} (hl : hs.length = acts.length) {v : Value} (h : RelL m F [v] [.list 4 ((hs.zip acts).map hT)]) (hr : RelL m F hs (acts.map T.Acts)) : RelL m F [v] [T.Tasks (acts.map newT)] := by
 generalize hy : T.list 4 ((hs.zip acts).map hT) = y at h
 cases h with
 | v p1 p2 => cases hy
 | none p =>
  have e := List.map_eq_nil_iff.1 (T.list.inj hy).2
  have e2 := congrArg List.length e
  rw [List.length_zip, List.length_nil] at e2
  have : acts = [] := List.eq_nil_of_length_eq_zero (by omega)
  subst this; exact .none .nil
 | list p1 p2 p3 p4 p5 p6 p7 =>
  obtain ⟨rfl, rfl⟩ := T.list.inj hy
  have el : ((hs.zip acts).map hT).length = ((acts.map newT).map Task.tt).length := by simp; omega
  rw [el] at p5 ⊢
  exact .list p1 p2 p3 tasks_cells p5 (relHT hl p6 hr) .nil
theorem rd_new {room : List Int} {acts : List (List Act)} {R : T} (hR : R = T.Tasks (acts.map newT)) : [D.agg [.t (T.ints room), .t (.list 1 (List.replicate room.length (.list 1 []))), .t (.list 1 (List.replicate room.length (.v (.bool false)))), .t R, .t (.list 1 [])]] = [(newW room acts).rd] := by
 subst hR
 simp [newW, T.ints]
theorem l15New_fun (room : List Int) (acts : List (List Act)) (hr : room.length ≤ 1048576) (ha : okL 1048576 (okL 1048576 (Act.ok 1048576)) acts) : Fun Try.prog 53 [.t (T.ints room), .t (T.ActLs acts)] (tupD [(newW room acts).rd]) := by
 have hal : acts.length ≤ 1048576 := ha.1
 refine Fun.begin tys Try.func53 Z Z (N := 37) [(0, .t (T.ints room)), (1, .t (T.ActLs acts))] Z Z (fun w0 G F0 => ?_)
 refine sQ (rG (WO_alloc tys Z Z (lt_of Z) Z Z Z (nZ Z (oN (tN (sQ (W_regionGm 9 mixed Z (by kernel_rfl) (by kernel_rfl) (QG_ev tys Z Z (lt_of Z) Z (QG_ev tys Z Z (lt_of Z) Z (QG_evE tys Z Z (lt_of Z) Z (by first | exact lenM | exact Z) ?_))))))))))
 refine QG_make tys (.list 1 []) _ Z Z (lt_of Z) Z Z Z Z Z (by repeat (first | exact AbsL.nil' | refine AbsL.v' ?_ | refine AbsL.none' ?_)) Z (by omega) (by decide) ?_
 refine QG_ev tys Z Z (lt_of Z) Z (QG_norm Z (QG_evE tys Z Z (lt_of Z) Z (by first | exact lenM | exact Z) ?_))
 refine QG_make tys (.v (.bool false)) _ Z Z (lt_of Z) Z Z Z Z Z (by repeat (first | exact AbsL.nil' | refine AbsL.v' ?_ | refine AbsL.none' ?_)) Z (by omega) (by decide) ?_
 refine QG_struct tys Z Z (lt_of Z) Z Z Z (by kernel_rfl) Z Z Z Z Z Z (QG_alloc tys Z Z (lt_of Z) Z Z Z Z (QG_nil ?_))
 refine ⟨by kernel_rfl, ?_⟩
 refine nZ Z (sT Z (nZ Z (oN (tN (sQ (sQ (nY Z (W_le (Le.nilBox (u := 5) (j := 3) 4 Z Z) (nY Z (W_le (Le.adoptBox (u := 5) (j := 3) (id := 192) Z Z Z) (nY Z (W_le (Le.roNil 101) (nY Z (rG (eZ Z ?_)))))))))))))))
 refine evE ?_
 refine eZ Z (oN (tN (W_block ?_)))
 refine lK (α := Int × Nat × List T × List Value) [1, 4, 5, 17, 18] [4] (fun x => [(19, .t (.int (x.1)))]) (fun x => [(5, .box [.t (T.ints room), .own (.list 1 (List.replicate room.length (.list 1 []))), .own (.list 1 (List.replicate room.length (.v (.bool false)))), .sl 192 0 (x.2.1), .nil]), (192, .L 4 (x.2.2.1)), (101, .ro (x.2.2.2) ((acts.take (x.1).toNat).map T.Acts))]) (fun x => 0 ≤ (x.1) ∧ (x.1) ≤ acts.length ∧ (x.2.1) = (x.2.2.1).length ∧ (x.2.2.1) = ((x.2.2.2).zip (acts.take (x.1).toNat)).map hT ∧ ((x.2.2.2).length : Int) = (x.1)) (fun x => Int.toNat (acts.length - (x.1))) (0, 0, [], []) ?_ (fun x hx => ?_)
 ·exact ⟨by omega, by omega, rfl, rfl, rfl⟩
 obtain ⟨i, m, ys, hs⟩ := x
 obtain ⟨hi0, hi1, hm, hys, hhs⟩ := hx
 dsimp only at hi0 hi1 hm hys hhs ⊢
 refine nY Z (sQ (rG (eZ Z (oN (tN (sQ ?_))))))
 refine W_cond Z (fun h1 => ?_) (fun h1 => ?_)
 ·
  simp only [HS] at h1
  refine W_skip (tN (sQ (W_block (sQ ?_))))
  obtain ⟨l, hl⟩ : ∃ l, l = acts[i.toNat]'(by omega) := ⟨_, rfl⟩
  have hll : l.length ≤ 1048576 := (ha.2 l (by rw [hl]; exact List.getElem_mem _)).1
  have hyl : ys.length = i.toNat := by rw [hys, List.length_map, List.length_zip, List.length_take]; omega
  refine rG (WO_idxT tys Z Z (lt_of Z) Z Z Z Z Z Z Z (by omega) _ (getT _ _ (by omega) (by omega)) (eZ Z ?_))
  rw [← hl]
  refine eZ Z (oN (tN (sQ (nY Z ?_))))
  refine W_tellS (t := 7) 102 Z Z (fun ad cp => ?_)
  rw [List.length_map]
  refine nY Z (W_le (Le.roJoin 101 102 Z Z) (nY Z (W_le (Le.eqK (id := 101) (k' := .ro (hs ++ [.slice ad l.length cp]) ((acts.take (i + 1).toNat).map T.Acts)) Z (by rw [take_at hi0 (by omega), ← hl, List.map_append]; rfl)) ?_)))
  refine nY Z (rG (eZ Z (WO_struct tys Z Z (lt_of Z) Z Z Z (by kernel_rfl) Z Z Z Z Z Z (WO_alloc tys Z Z (lt_of Z) Z Z Z (nZ Z (sT Z (nZ Z (oN (tN (sQ (sQ (kY [1,4,5,7,8,17,18,19,20,21,22,23,24] Z (rG (eZ Z (WO_lenV Z Z (lt_of Z) Z ⟨98, by kernel_rfl⟩ rfl ?_)))))))))))))))
  refine eZ Z (oN (tN ?_))
  refine W_joinN (α := Int) [1, 4, 5, 7, 8, 17, 18, 19, 20, 21, 22, 23, 24, 25, 26, 27] [4, 5, 101, 192] (fun x => []) (fun x => [(8, .box [.t (.v (.slice ad l.length cp)), .t (T.int 0), .t (T.int x), .t (T.int 0)])]) (fun x => x = (newT l).state) ?_ (fun st hx => ?_)
  ·
   refine W_cond Z (fun h2 => ?_) (fun h2 => ?_)
   ·
    simp only [HS] at h2
    refine rG (eZ Z (sT Z (nZ Z (oN ?_))))
    refine joinQ_n _ (by (try dsimp only); repeat (first | exact Sub.nil' | refine Sub.cons' rfl ?_)) (by (try dsimp only); repeat (first | exact SubM.nil' | refine SubM.cons' rfl ?_)) ?_
    unfold newT
    simp_all
    done
   simp only [HS] at h2
   refine W_skip ?_
   refine joinQ_n _ (by (try dsimp only); repeat (first | exact Sub.nil' | refine Sub.cons' rfl ?_)) (by (try dsimp only); repeat (first | exact SubM.nil' | refine SubM.cons' rfl ?_)) ?_
   unfold newT
   simp_all
   done
  have hst := hx
  refine tN (kY [1,4,5,7,8,17,18,19,20,21,22,23,24,25,26,27] Z (rG (eK 3 Z ?_)))
  try refine WO_le (Le.freeze (u := 31) rfl) ?_
  refine nZ Z ?_
  refine WO_buildSlice tys [.agg [.v (.slice ad l.length cp), T.int 0, T.int st, T.int 0]] Z Z (lt_of Z) Z Z Z Z Z (lt_of Z) (by repeat (first | exact PartsOk.nil' | refine PartsOk.cons' rfl (by repeat (first | exact AbsL.nil' | refine AbsL.v' ?_ | refine AbsL.own' ?_ | refine AbsL.none' ?_)) Z ?_)) (by first | exact List.nodup_nil | exact nodup1 _ | decide | exact nodupB_sound Z) Z (by decide) ?_
  refine nZ Z (WO_append tys Z Z (lt_of Z) Z Z Z Z Z (.own Z (by first | omega | (simp only [List.length_append]; omega))) Z (.own Z (by first | decide | omega)) (by decide) (by simp only [List.length_take, List.length_cons, List.length_nil]; omega) (by decide) Z ?_)
  refine nZ Z (eZ Z (sT Z (nZ Z (oN (bN (tN (kY [1,4,5,7,8,17,18,19,20,21,22,23,24,25,26,27,29,30,31,32,33,34] Z (rG (evI ?_)))))))))
  refine eZ Z (oN ?_)
  refine lQ (_, _, _, _) ?_ ?_
  ·dsimp only
   subst hm
   refine ⟨by omega, by omega, by simp, ?_, by simp; omega⟩
   rw [List.take_length, hys, take_at hi0 (by omega), ← hl, List.zip_append (by rw [List.length_take]; omega), List.map_append, hst]
   rfl
  ·(show Int.toNat _ < Int.toNat _); omega
 simp only [HS] at h1
 refine W_exit (tE (loopQ_e (inBlk_y (tN (sQ ?_)))))
 obtain rfl : i = acts.length := by omega
 rw [show ((acts.length : Int)).toNat = acts.length from by omega, List.take_length] at hys ⊢
 subst hm hys
 refine W_le (Le.gatherBox (u := 5) (j := 3) (id := 192) Z Z Z (Nat.le_refl _) Z) (nY Z ?_)
 rw [List.take_length]
 refine W_le (Le.nilBox (u := 5) (j := 4) 1 Z Z) (nY Z (W_le (Le.freezeB (u := 5) Z Z) (nY Z (W_convB (u := 5) (j := 3) (idr := 101) (T.Tasks (acts.map newT)) Z Z Z (fun h1 h2 => relHTL (by omega) h1 h2) (nY Z (rG (eZ Z ?_)))))))
 try refine WO_le (Le.freeze (u := 36) rfl) ?_
 refine nZ Z (sT Z (nZ Z (oN (tN (rT (eR ?_))))))
 ·exact rd_new rfl
theorem nr_no {room : List Int} {acts : List (List Act)} (h : goodWorld (newW room acts) = false) : [world0.rd, D.t (T.v (.bool false))] = [(nwR room acts).rd, D.t (T.bool (goodWorld (newW room acts)))] := by
 rw [nwR, h]; rfl
theorem nr_yes {room : List Int} {acts : List (List Act)} (h : goodWorld (newW room acts) = true) : [(newW room acts).rd, D.t (T.v (.bool true))] = [(nwR room acts).rd, D.t (T.bool (goodWorld (newW room acts)))] := by
 rw [nwR, h]; rfl
theorem specNew_fun (room : List Int) (acts : List (List Act)) (hr : room.length ≤ 1048576) (ha : okL 1048576 (okL 1048576 (Act.ok 1048576)) acts) : Fun Try.prog 17 [.t (T.ints room), .t (T.ActLs acts)] (tupD [(nwR room acts).rd, .t (.bool (goodWorld (newW room acts)))]) := by
 refine Fun.begin tys Try.func17 Z Z (N := 16) [(0, .t (T.ints room)), (1, .t (T.ActLs acts))] Z Z (fun w0 G F0 => ?_)
 refine sQ (rG (WO_alloc tys Z Z (lt_of Z) Z Z Z (nZ Z (eZ Z (oN (tN (sQ (rG (eK 2 Z (WO_callF Z Z (lt_of Z) Z Z Z Z Z (l15New_fun room acts hr ha) Z (WO_alloc tys Z Z (lt_of Z) Z Z Z (nZ Z (sT Z (nZ Z (oN ?_)))))))))))))))
 refine tN (sQ (sQ (kY [4,5,6] Z (rG (eZ Z ?_)))))
 try refine WO_le (Le.freeze (u := 10) rfl) ?_
 refine nZ Z (callB ?_)
 refine ⟨_, specGoodWorld_fun (newW room acts) (ok_new hr ha), rfl, ?_⟩
 refine eZ Z (oN (tN ?_))
 refine W_cond Z (fun h1 => ?_) (fun h1 => ?_)
 ·
  simp only [HS] at h1
  refine sQ (rG (WO_struct tys Z Z (lt_of Z) Z Z Z (by kernel_rfl) Z Z Z Z Z Z (sT Z (nZ Z (eZ Z (oN (tN ?_)))))))
  (first | (refine W_le (Le.freezeB (u := 4) rfl rfl) ?_; refine W_norm rfl ?_; refine W_tellT (u := 4) (j := 3) (p := fun y => y = T.Tasks (newW room acts).tasks) rfl rfl (fun h => ⟨_, rfl, relTaskL hx h⟩) (fun y hy => ?_); subst hy; refine W_norm rfl ?_) | (refine W_le (Le.nilBox (u := 4) (j := 0) 1 rfl rfl) ?_; refine W_norm rfl ?_; refine W_le (Le.nilBox (u := 4) (j := 1) 1 rfl rfl) ?_; refine W_norm rfl ?_; refine W_le (Le.nilBox (u := 4) (j := 2) 1 rfl rfl) ?_; refine W_norm rfl ?_; refine W_le (Le.nilBox (u := 4) (j := 3) 4 rfl rfl) ?_; refine W_norm rfl ?_; refine W_le (Le.nilBox (u := 4) (j := 4) 1 rfl rfl) ?_; refine W_norm rfl ?_; refine W_le (Le.freezeB (u := 4) rfl rfl) ?_; refine W_norm rfl ?_))
  refine rT (tR (eR ?_))
  ·first
   | exact nr_no (by assumption)
 simp only [HS] at h1
 refine W_skip (tN (sQ ?_))
 have hg : goodWorld (newW room acts) = true := by simp_all
 refine nY Z ?_
 refine W_tellT (u := 6) (j := 3) (p := fun y => ∃ xs, All2 TActs xs ((newW room acts).tasks.map Task.acts) ∧ y = .list 4 ((xs.zip (newW room acts).tasks).map ttT)) rfl rfl (fun h => by obtain ⟨xs, h1, h2⟩ := tellTaskL (flat_good hg) h; exact ⟨_, ⟨xs, h1, rfl⟩, h2⟩) (fun y hy => ?_)
 obtain ⟨xs, hx, rfl⟩ := hy
 refine nY Z (rG (eZ Z ?_))
 try refine WO_le (Le.freeze (u := 14) rfl) ?_
 refine nZ Z (callB ?_)
 refine ⟨_, ownW_fun (newW room acts) xs (ok_new hr ha) hx, rfl, ?_⟩
 refine sT Z (nZ Z (eZ Z (oN (tN ?_))))
 (first | (refine W_le (Le.freezeB (u := 4) rfl rfl) ?_; refine W_norm rfl ?_; refine W_tellT (u := 4) (j := 3) (p := fun y => y = T.Tasks (newW room acts).tasks) rfl rfl (fun h => ⟨_, rfl, relTaskL hx h⟩) (fun y hy => ?_); subst hy; refine W_norm rfl ?_) | (refine W_le (Le.nilBox (u := 4) (j := 0) 1 rfl rfl) ?_; refine W_norm rfl ?_; refine W_le (Le.nilBox (u := 4) (j := 1) 1 rfl rfl) ?_; refine W_norm rfl ?_; refine W_le (Le.nilBox (u := 4) (j := 2) 1 rfl rfl) ?_; refine W_norm rfl ?_; refine W_le (Le.nilBox (u := 4) (j := 3) 4 rfl rfl) ?_; refine W_norm rfl ?_; refine W_le (Le.nilBox (u := 4) (j := 4) 1 rfl rfl) ?_; refine W_norm rfl ?_; refine W_le (Le.freezeB (u := 4) rfl rfl) ?_; refine W_norm rfl ?_))
 refine rT (eR ?_)
 ·first
  | exact nr_yes hg
theorem implNew_fun (room : List Int) (acts : List (List Act)) (hr : room.length ≤ 1048576) (ha : okL 1048576 (okL 1048576 (Act.ok 1048576)) acts) (ha' : okL 9223372036854775807 (okL 9223372036854775807 (Act.ok 9223372036854775807)) acts) : Fun Try.prog 20 [.t (T.ints room), .t (T.ActLs acts)] (tupD [(nwR room acts).dd, .t (.bool (goodWorld (newW room acts)))]) := by
 refine Fun.begin tys Try.func20 Z Z (N := 11) [(0, .t (T.ints room)), (1, .t (T.ActLs acts))] Z Z (fun w0 G F0 => ?_)
 refine sQ (rG (WO_alloc tys Z Z (lt_of Z) Z Z Z (nZ Z (eZ Z (oN (tN (sQ (rG (eK 2 Z (callB ?_))))))))))
 refine ⟨_, newWorld_fun room acts hr ha ha', rfl, ?_⟩
 refine WO_extract Z Z (lt_of Z) Z Z Z Z ?_
 first | refine WO_le (Le.adoptE (u := 9) 9 rfl (by first | exact lenN | exact rfl)) ?_ | skip
 refine nZ Z (WO_evF tys Z Z (lt_of Z) (d := .t _) Z (nZ Z (sT Z (nZ Z (eZ Z (kZ [4,5] Z (oN (tN (rT (eR ?_))))))))))
 ·rfl
theorem eqActL_refl (a : List (List Act)) : eqL (eqL eqAct) a a = true := eqL_refl (eqL_refl eqAct_refl) a
theorem nwR_good (room : List Int) (acts : List (List Act)) : goodWorld (nwR room acts) = true ∨ nwR room acts = world0 := by
 unfold nwR
 split
 ·rename_i h; exact .inl h
 ·exact .inr rfl
theorem lawNew_fun (room : List Int) (acts : List (List Act)) (hr : room.length ≤ 9223372036854775807) (ha : okL 9223372036854775807 (okL 9223372036854775807 (Act.ok 9223372036854775807)) acts) : Fun Try.prog 5 [.t (T.ints room), .t (T.ActLs acts)] (tupD [.t (.bool true)]) := by
 refine Fun.begin tys Try.func5 Z Z (N := 117) [(0, .t (T.ints room)), (1, .t (T.ActLs acts))] Z Z (fun w0 G F0 => ?_)
 refine sQ (rG (eZ Z (oN (tN (sQ (sQ (rG (eZ Z (evE ?_)))))))))
 refine eZ Z (oN (tN ?_))
 refine W_cond Z (fun h1 => ?_) (fun h1 => ?_)
 ·
  simp only [HS] at h1
  refine sQ (rG (eZ Z (oN (tN (rT (tR (eR ?_)))))))
  ·rfl
 simp only [HS] at h1
 refine W_skip (tN (sQ (rG (eZ Z (oN (tN (sQ (rG (eK 2 Z (callB ?_))))))))))
 refine ⟨_, szActSS_fun acts 1048576 ha (by omega) (by omega), rfl, ?_⟩
 refine eZ Z (kZ [0,1,4,5] Z (oN (tN (sQ (sQ (rG (eK 2 Z (oN (tN ?_)))))))))
 refine W_cond Z (fun h2 => ?_) (fun h2 => ?_)
 ·
  simp only [HS] at h2
  refine sQ (rG (eZ Z (oN (tN (rT (tR (eR ?_)))))))
  ·rfl
 simp only [HS] at h2
 refine W_skip (tN (sQ (rG ?_)))
 have oka := (szActSS_g acts 1048576 (by omega) (by omega)).2.2 h2
 have ca := szActSS_c acts 1048576 (by omega) h2
 have cp := ctL_pos0 ctAs_pos acts
 have hal : acts.length ≤ 1048576 := oka.1
 have hz := nwR_good room acts
 have okr : (nwR room acts).ok 9223372036854775807 := goz_ok hz (by decide)
 have cr := goz_ct hz
 have crp := ctWorld_pos (nwR room acts)
 have hrl : (nwR room acts).held.length ≤ 1048576 := (goz_ok hz (B := 1048576) (by decide)).2.1.1
 refine eZ Z (callB ?_)
 refine ⟨_, toIntS_fun room (by omega), rfl, ?_⟩
 refine WO_le (Le.freeze (u := 27) Z) (nZ Z (eZ Z (callB ?_)))
 refine ⟨_, toActSS_fun acts oka, rfl, ?_⟩
 refine WO_le (Le.freeze (u := 29) Z) (nZ Z (WO_callF Z Z (lt_of Z) Z Z Z Z Z (specNew_fun room acts (by omega) oka) Z (WO_moveAll Z Z (lt_of Z) (.inr Z) Z Z (WO_extract Z Z (lt_of Z) Z Z Z Z ?_))))
 first | refine WO_le (Le.adoptE (u := 31) 31 rfl (by first | exact lenN | exact rfl)) ?_ | skip
 refine nZ Z (kZ [0,1,4,25,31] Z (WO_evF tys Z Z (lt_of Z) (d := .t _) Z (nZ Z (WO_alloc tys Z Z (lt_of Z) Z Z Z (nZ Z (sT Z (nZ Z (eZ Z (oN (tN (sQ (rG (eZ Z (callB ?_))))))))))))))
 refine ⟨_, toIntS_fun room (by omega), rfl, ?_⟩
 refine WO_exposeS (u := 34) 34 Z (fun v34 => ?_)
 refine eZ Z (oN (tN (sQ (kY [0,1,4,6,7,8] Z (rG (eZ Z (callB ?_)))))))
 refine ⟨_, toActSS_fun acts oka, rfl, ?_⟩
 refine WO_exposeS (u := 36) 36 Z (fun v36 => ?_)
 refine eZ Z (oN (tN (sQ (rG (eK 2 Z ?_)))))
 refine WO_call Z Z (lt_of Z) Z Z (by refine ResL.raw (id := 34) (j := 0) Z Z Z ?_; refine ResL.raw (id := 36) (j := 0) Z Z Z ?_; exact ResL.done) (implNew_fun room acts (by omega) oka ha) Z ?_
 refine WO_moveAll Z Z (lt_of Z) (.inr Z) Z Z (nZ Z (WO_extract Z Z (lt_of Z) Z Z Z Z ?_))
 refine WO_exposeB (u := 41) 41 Z Z (fun v41 hv41 => ?_)
 obtain ⟨a41_0, a41_1, a41_2, a41_3, a41_4, rfl⟩ : ∃ a41_0 a41_1 a41_2 a41_3 a41_4, v41 = [a41_0, a41_1, a41_2, a41_3, a41_4] := by
  match v41, hv41 with
  | [a41_0, a41_1, a41_2, a41_3, a41_4], _ => exact ⟨_, _, _, _, _, rfl⟩
 refine nZ Z (WO_evF tys Z Z (lt_of Z) (d := .t _) Z (nZ Z (kZ [0,1,4,6,7,8,9,41,42] Z (WO_alloc tys Z Z (lt_of Z) Z Z Z (nZ Z (sT Z (nZ Z (eZ Z (oN (tN (sQ (sQ (rG (eZ Z (nZ Z ?_)))))))))))))))
 refine eZ Z ?_
 try refine WO_le (Le.freeze (u := 44) rfl) ?_
 refine nZ Z ?_
 refine WO_call Z Z (lt_of Z) Z Z (by refine ResL.rawA (id := 41) Z Z ?_; (first | refine ResL.t ?_ | refine ResL.own ?_ | refine ResL.aggT (by repeat (first | exact ResL.done | refine ResL.own ?_ | refine ResL.t ?_)) ?_ | refine ResL.slA Z (by first | rfl | (simp; done) | (simp; omega)) ?_ | refine ResL.nil' ?_); exact ResL.done) (eqWorld_fun (nwR room acts) (nwR room acts) okr okr) Z ?_
 refine WO_le (Le.known (t := 45) true Z (eqWorld_refl _)) (eK 2 Z (gY Z (eZ Z (kZ [0,1,4,6,7,8,9,10,11,47,48] Z (gY Z (eZ Z (gY Z (eZ Z (WO_le (Le.known (t := 50) false Z (by simp)) ?_)))))))))
 refine eZ Z (oN (tN (W_condF Z (W_skip (tN (sQ (sQ (rG (eK 2 Z (callB ?_))))))))))
 refine ⟨_, toIntS_fun room (by omega), rfl, ?_⟩
 refine WO_le (Le.freeze (u := 54) Z) (nZ Z ?_)
 refine WO_call Z Z (lt_of Z) Z Z (by refine ResL.raw (id := 34) (j := 0) Z Z Z ?_; (first | refine ResL.t ?_ | refine ResL.own ?_ | refine ResL.aggT (by repeat (first | exact ResL.done | refine ResL.own ?_ | refine ResL.t ?_)) ?_ | refine ResL.slA Z (by first | rfl | (simp; done) | (simp; omega)) ?_ | refine ResL.nil' ?_); exact ResL.done) (eqIntS_fun room room (by omega) (by omega)) Z ?_
 refine WO_le (Le.known (t := 55) true Z (eqIw_refl _)) (eZ Z (oN (tN (W_condF Z (W_skip (tN (sQ (sQ (kY [0,1,4,6,7,8,9,10,11] Z (rG (eK 2 Z (callB ?_))))))))))))
 refine ⟨_, toActSS_fun acts oka, rfl, ?_⟩
 refine WO_le (Le.freeze (u := 59) Z) (nZ Z ?_)
 refine WO_call Z Z (lt_of Z) Z Z (by refine ResL.raw (id := 36) (j := 0) Z Z Z ?_; (first | refine ResL.t ?_ | refine ResL.own ?_ | refine ResL.aggT (by repeat (first | exact ResL.done | refine ResL.own ?_ | refine ResL.t ?_)) ?_ | refine ResL.slA Z (by first | rfl | (simp; done) | (simp; omega)) ?_ | refine ResL.nil' ?_); exact ResL.done) (eqActSS_fun acts acts ha ha) Z ?_
 refine WO_le (Le.known (t := 60) true Z (eqActL_refl _)) (eZ Z (oN (tN (W_condF Z (W_skip (tN (sQ (rG (eZ Z (oN (tN (sQ (rG (eK 2 Z (WO_markN (id := 34) (j := 0) Z Z (lt_of Z) Z Z Z Z Z Z Z Z (markIntS_m room 1 (by omega) (by omega)) ?_)))))))))))))))
 refine nZ Z (kZ [0,1,4,6,7,9,10,11,12,64] Z (eZ Z (oN (tN (sQ (rG (eK 2 Z (WO_markN (id := 36) (j := 0) Z Z (lt_of Z) Z Z Z Z Z Z Z Z (markActSS_m acts (1 + room.length) (by omega) (by omega) (by omega)) (nZ Z (eZ Z (oN (tN (sQ (sQ (rG ?_)))))))))))))))
 refine eK 2 Z (WO_le (Le.known (t := 69) false Z (by simp; omega)) ?_)
 refine eZ Z (gY Z (eZ Z (nZ Z (kZ [0,1,4,6,7,10,11,70,71] Z (gY Z (eZ Z ?_))))))
 try refine WO_le (Le.freeze (u := 72) rfl) ?_
 refine nZ Z (gY Z ?_)
 refine WO_call Z Z (lt_of Z) Z Z (by refine ResL.rawA (id := 41) Z Z ?_; (first | refine ResL.t ?_ | refine ResL.own ?_ | refine ResL.aggT (by repeat (first | exact ResL.done | refine ResL.own ?_ | refine ResL.t ?_)) ?_ | refine ResL.slA Z (by first | rfl | (simp; done) | (simp; omega)) ?_ | refine ResL.nil' ?_); exact ResL.done) (eqWorld_fun (nwR room acts) (nwR room acts) okr okr) Z ?_
 refine WO_le (Le.known (t := 73) true Z (eqWorld_refl _)) (gY Z (eK 3 Z (gY Z (eZ Z (gY Z (eZ Z (gY Z (eZ Z (WO_le (Le.known (t := 79) false Z (by simp)) ?_)))))))))
 refine eZ Z (kZ [0,1,4,6,7,10,80] Z (oN (tN (W_condF Z (W_skip (tN (sQ (rG (eZ Z (oN (tN (sQ (rG (eZ Z (nZ Z ?_)))))))))))))))
 refine eZ Z (WO_markS (id := 41) Z Z (lt_of Z) Z Z Z Z Z (markWorld_m (nwR room acts) 1 (by omega) (by omega) (by omega)) (nZ Z (eZ Z (oN (tN (sQ (rG (eZ Z (oN (tN (sQ (rG (eZ Z (nZ Z (eZ Z ?_)))))))))))))))
 refine WO_call Z Z (lt_of Z) Z Z (by refine ResL.rawA (id := 41) Z Z ?_; (first | refine ResL.t ?_ | refine ResL.own ?_ | refine ResL.aggT (by repeat (first | exact ResL.done | refine ResL.own ?_ | refine ResL.t ?_)) ?_ | refine ResL.slA Z (by first | rfl | (simp; done) | (simp; omega)) ?_ | refine ResL.nil' ?_); exact ResL.done) (heldWorld_mk (nwR room acts) 1 (by omega) (by omega) (by omega)) Z ?_
 refine kZ [0,1,4,6,7,10,13,14,86] Z (eZ Z (oN (tN (sQ (sQ (rG (eK 2 Z (WO_le (Le.known (t := 88) false Z (by simp; omega)) ?_))))))))
 refine oN (tN (W_condF Z (W_skip (tN (sQ (sQ (rG (eK 3 Z (WO_le (Le.known (t := 91) false Z (by simp)) ?_)))))))))
 refine oN (tN (W_condF Z (W_skip (tN (sQ (rG (eZ Z (callB ?_))))))))
 refine ⟨_, toIntS_fun room (by omega), rfl, ?_⟩
 refine WO_le (Le.freeze (u := 94) Z) (nZ Z (eZ Z (kZ [4,6,7,10,13,14,94,95] Z (callB ?_))))
 refine ⟨_, toActSS_fun acts oka, rfl, ?_⟩
 refine WO_le (Le.freeze (u := 96) Z) (nZ Z (callB ?_))
 refine ⟨_, implNew_fun room acts (by omega) oka ha, rfl, ?_⟩
 refine WO_moveAll Z Z (lt_of Z) (.inr Z) Z Z (WO_extract Z Z (lt_of Z) Z Z Z Z ?_)
 first | refine WO_le (Le.adoptE (u := 98) 98 rfl (by first | exact lenN | exact rfl)) ?_ | skip
 refine nZ Z (WO_evF tys Z Z (lt_of Z) (d := .t _) Z (nZ Z (WO_alloc tys Z Z (lt_of Z) Z Z Z (nZ Z (sT Z (nZ Z (eZ Z (oN (tN (sQ (sQ (kY [4,6,7,10,13,14,15,16] Z (rG (WO_loadMove tys Z Z (lt_of Z) Z Z Z Z Z Z (nZ Z ?_)))))))))))))))
 refine eZ Z ?_
 try refine WO_le (Le.freeze (u := 101) rfl) ?_
 refine nZ Z (callB ?_)
 refine ⟨_, eqWorld_fun (nwR room acts) (nwR room acts) okr okr, rfl, ?_⟩
 refine WO_le (Le.known (t := 102) true Z (eqWorld_refl _)) (eK 2 Z (gY Z (eZ Z (gY Z (eZ Z (gY Z (eZ Z (WO_le (Le.known (t := 107) false Z (by simp)) ?_))))))))
 refine eZ Z (kZ [4,10,13,14,108] Z (oN (tN (W_condF Z (W_skip (tN (sQ (rG (eZ Z (oN (tN (sQ (rG (eZ Z (nZ Z ?_)))))))))))))))
 refine eZ Z ?_
 refine WO_call Z Z (lt_of Z) Z Z (by refine ResL.rawA (id := 41) Z Z ?_; (first | refine ResL.t ?_ | refine ResL.own ?_ | refine ResL.aggT (by repeat (first | exact ResL.done | refine ResL.own ?_ | refine ResL.t ?_)) ?_ | refine ResL.slA Z (by first | rfl | (simp; done) | (simp; omega)) ?_ | refine ResL.nil' ?_); exact ResL.done) (heldWorld_mk (nwR room acts) 1 (by omega) (by omega) (by omega)) Z ?_
 refine eZ Z (oN (tN (sQ (sQ (rG (eK 2 Z (WO_le (Le.known (t := 113) false Z (by simp; omega)) ?_)))))))
 refine oN (tN (W_condF Z (W_skip (tN (sQ (sQ (kY [4,13,14] Z (rG (eK 3 Z (WO_le (Le.known (t := 116) false Z (by simp)) ?_))))))))))
 refine oN (tN (W_condF Z (W_skip (tN (sQ (rG (eZ Z (oN (tN (rT (eR ?_)))))))))))
 ·rfl
end Go.Proofs.Ytbkamkmmljbedaa
