/- Walks of what goes with a statement, and of what is left of a block. -/
import Derived.Test.YtimpganophnehaaGreatGf
import Derived.Test.YtimpganophnehaaGreatGea
import Derived.Test.YtimpganophnehaaGreatFr
import Derived.Test.YtimpganophnehaaGreatFp
import Derived.Test.YtimpganophnehaaGreatGl
import Derived.Test.YtimpganophnehaaGreatMd
set_option linter.unusedVariables false
set_option linter.unusedSimpArgs false
set_option maxRecDepth 10000
set_option maxHeartbeats 1000000
namespace Go.Proofs.YtimpganophnehaaGreat
open Go.Eng

def run (m : Int) (g : Nat) : List Int := (List.range g).map fun i : Nat => m + i
theorem run_len (m : Int) (g : Nat) : (run m g).length = g := by simp [run]
theorem run_succ (m : Int) (g : Nat) : run m (g + 1) = run m g ++ [m + g] := by simp [run, List.range_succ]
theorem mem_run {m x : Int} {g : Nat} : x ∈ run m g ↔ m ≤ x ∧ x < m + g := by
 simp only [run, List.mem_map, List.mem_range]
 constructor
 ·rintro ⟨i, hi, rfl⟩; omega
 ·intro h; exact ⟨(x - m).toNat, by omega, by omega⟩
theorem run_rise (m : Int) (g : Nat) : (run m g).Pairwise (· < ·) := by
 induction g with
 | zero => simp [run]
 | succ g ih =>
  rw [run_succ, List.pairwise_append]
  refine ⟨ih, by simp, fun a ha b hb => ?_⟩
  rw [List.mem_singleton] at hb
  subst hb
  exact (mem_run.1 ha).2
theorem run_add (m : Int) (g h : Nat) : run m (g + h) = run m g ++ run (m + g) h := by
 induction h with
 | zero => simp [run]
 | succ h ih => rw [← Nat.add_assoc, run_succ, ih, run_succ, List.append_assoc]; congr 3; simp; omega
theorem run_cut {m : Int} {g : Nat} {a b : List Int} (h : run m g = a ++ b) : a = run m a.length ∧ b = run (m + a.length) b.length := by
 have hl := congrArg List.length h
 rw [run_len, List.length_append] at hl
 rw [hl, run_add] at h
 exact ⟨(List.append_inj_left h (by rw [run_len])).symm, (List.append_inj_right h (by rw [run_len])).symm⟩
theorem upto_run (N : Nat) : upto N = run 0 N := by simp [upto, run]
theorem put_run (m : Int) (g : Nat) : put (run m g) (m + g) = run m (g + 1) := by
 have h : ∀ x, x ∈ run m g → decide (x < m + (g : Int)) = true := fun x hx => decide_eq_true (mem_run.1 hx).2
 rw [put, if_neg (fun h => by have := (mem_run.1 h).2; omega), run_succ]
 congr 1
 ·have : ∀ l : List Int, (∀ x, x ∈ l → decide (x < m + (g : Int)) = true) → l.takeWhile (fun x => decide (x < m + (g : Int))) = l := by
   intro l hl
   induction l with
   | nil => rfl
   | cons y l ih => rw [List.takeWhile_cons, if_pos (hl y (by simp)), ih fun x hx => hl x (by simp [hx])]
  exact this _ h
 ·have : ∀ l : List Int, (∀ x, x ∈ l → decide (x < m + (g : Int)) = true) → l.dropWhile (fun x => decide (x < m + (g : Int))) = [] := by
   intro l hl
   induction l with
   | nil => rfl
   | cons y l ih => rw [List.dropWhile_cons, if_pos (hl y (by simp)), ih fun x hx => hl x (by simp [hx])]
  rw [this _ h]

theorem ord_app {N : Int} {kids : Int → List Int × List Int} (hd : downB N kids) : ∀ {a b : List Int}, inB N 0 (a ++ b) → ord N kids (a ++ b) = ord N kids a ++ ord N kids b
 | [], b, _ => by rw [ord_nil]; rfl
 | x :: a, b, h => by
  rw [List.cons_append] at h ⊢
  rw [ord_cons hd h, ord_cons hd (fun y hy => h y (by
   rcases List.mem_cons.1 hy with rfl | hy
   ·exact List.mem_cons_self ..
   ·exact List.mem_cons_of_mem _ (List.mem_append_left _ hy))), ord_app hd (a := a) (fun y hy => h y (List.mem_cons_of_mem _ hy))]
  simp
theorem ord_part {N : Int} {kids : Int → List Int × List Int} (hd : downB N kids) {b : List Int} (hb : inB N 0 b) (m : Int) (hm : m ∈ ord N kids b) : ∃ l r, ord N kids b = l ++ ord N kids [m] ++ r :=
 ord_ind' hd (p := fun b o => m ∈ o → ∃ l r, o = l ++ ord N kids [m] ++ r) (fun h => by cases h) (fun n b h1 h2 _ i1 i2 i3 hm => by
  simp only [List.cons_append, List.mem_cons, List.mem_append] at hm ⊢
  rcases hm with rfl | (hm | hm) | hm
  ·refine ⟨[], ord N kids b, ?_⟩
   rw [ord_cons hd (by intro x hx; rw [List.mem_singleton] at hx; subst hx; exact ⟨h1, h2⟩), ord_nil]
   simp
  ·obtain ⟨l, r, e⟩ := i1 hm; exact ⟨n :: l, r ++ (ord N kids (kids n).2 ++ ord N kids b), by rw [e]; simp⟩
  ·obtain ⟨l, r, e⟩ := i2 hm; exact ⟨n :: (ord N kids (kids n).1 ++ l), r ++ ord N kids b, by rw [e]; simp⟩
  ·obtain ⟨l, r, e⟩ := i3 hm; exact ⟨n :: (ord N kids (kids n).1 ++ (ord N kids (kids n).2 ++ l)), r, by rw [e]; simp⟩) hb hm

theorem shapeF_iff {f : Func} (h : shapeF f = true) : downB f.stmts.length (kids f.stmts) ∧ inB f.stmts.length 0 f.body ∧ ord f.stmts.length (kids f.stmts) f.body = upto f.stmts.length := by
 unfold shapeF at h
 simp only [Bool.and_eq_true] at h
 exact shapeB_iff.1 h.2.2.1
def goneN (f : Func) (s : Int) : Nat := (ordF f [s]).length
theorem gone_run {f : Func} (h : shapeF f = true) {s : Int} (h0 : 0 ≤ s) (h1 : s < f.stmts.length) : ordF f [s] = run s (goneN f s) ∧ 1 ≤ goneN f s ∧ s + goneN f s ≤ f.stmts.length := by
 obtain ⟨hd, hb, ho⟩ := shapeF_iff h
 have hm : s ∈ ord f.stmts.length (kids f.stmts) f.body := by rw [ho]; exact mem_upto.2 ⟨h0, h1⟩
 obtain ⟨l, r, e⟩ := ord_part hd hb s hm
 rw [ho, upto_run, List.append_assoc] at e
 have hs : ordF f [s] = s :: (ordF f (kids f.stmts s).1 ++ ordF f (kids f.stmts s).2) := by
  unfold ordF
  rw [ord_cons hd (by intro x hx; rw [List.mem_singleton] at hx; subst hx; exact ⟨h0, h1⟩), ord_nil]
  simp
 have hl := congrArg List.length e
 rw [run_len, List.length_append, List.length_append] at hl
 obtain ⟨e1, e2⟩ := run_cut e
 obtain ⟨e3, e4⟩ := run_cut e2.symm
 have e5 : ordF f [s] = run (0 + (l.length : Int)) (goneN f s) := e3
 have hg : 1 ≤ goneN f s := by unfold goneN; rw [hs]; simp
 have e6 : s = 0 + (l.length : Int) := by
  have h2 : (ordF f [s]).head? = some s := by rw [hs]; rfl
  rw [e5] at h2
  obtain ⟨g, hg'⟩ : ∃ g, goneN f s = g + 1 := ⟨goneN f s - 1, by omega⟩
  rw [hg'] at h2
  simp [run, List.range_succ_eq_map] at h2
  omega
 rw [← e6] at e5
 refine ⟨e5, hg, ?_⟩
 have : (ord (f.stmts.length : Int) (kids f.stmts) [s]).length = goneN f s := rfl
 omega

def kidsL (f : Func) (s : Int) : List Int := (stmtAt f s).thn ++ (stmtAt f s).els
theorem kidsL_kids {f : Func} {s : Int} : kidsL f s = both (kids f.stmts) s := by
 unfold kidsL both kids stmtAt
 cases f.stmts[s.toNat]? <;> rfl
theorem kidsL_in {f : Func} (hd : downB f.stmts.length (kids f.stmts)) {s : Int} (h0 : 0 ≤ s) (h1 : s < f.stmts.length) : inB f.stmts.length (s + 1) (kidsL f s) := by
 intro x hx
 rw [kidsL_kids] at hx
 rcases List.mem_append.1 hx with hx | hx
 ·exact (hd s h0 h1).1 x hx
 ·exact (hd s h0 h1).2 x hx
theorem ordF_one {f : Func} (hd : downB f.stmts.length (kids f.stmts)) {s : Int} (h0 : 0 ≤ s) (h1 : s < f.stmts.length) : ordF f [s] = s :: ordF f (kidsL f s) := by
 have hk := kidsL_in hd h0 h1
 have hk2 := inB_lower hk (show (0 : Int) ≤ s + 1 by omega)
 rw [kidsL_kids] at hk2
 unfold ordF
 rw [ord_cons hd (by intro x hx; rw [List.mem_singleton] at hx; subst hx; exact ⟨h0, h1⟩), ord_nil, kidsL_kids, both, ord_app hd hk2]
 simp
theorem kids_run {f : Func} (hd : downB f.stmts.length (kids f.stmts)) {s : Int} (h0 : 0 ≤ s) (h1 : s < f.stmts.length) (hg : ordF f [s] = run s (goneN f s)) {k : Nat} (hk : k < (kidsL f s).length) :
  (∀ (j : Nat) (hj : j < (ordF f [(kidsL f s)[k]]).length), (ordF f [(kidsL f s)[k]])[j] = s + ((1 + (ordF f ((kidsL f s).take k)).length + j : Nat) : Int)) ∧ 1 + (ordF f ((kidsL f s).take (k + 1))).length = 1 + (ordF f ((kidsL f s).take k)).length + (ordF f [(kidsL f s)[k]]).length ∧ 1 + (ordF f ((kidsL f s).take k)).length + (ordF f [(kidsL f s)[k]]).length ≤ goneN f s := by
 have hin := inB_lower (kidsL_in hd h0 h1) (show (0 : Int) ≤ s + 1 by omega)
 have e1 : ordF f ((kidsL f s).take (k + 1)) = ordF f ((kidsL f s).take k) ++ ordF f [(kidsL f s)[k]] := by
  have hq : inB f.stmts.length 0 ((kidsL f s).take k ++ [(kidsL f s)[k]]) := fun x hx => hin x (by
   rw [← List.take_succ_eq_append_getElem hk] at hx
   exact List.mem_of_mem_take hx)
  unfold ordF
  rw [List.take_succ_eq_append_getElem hk, ord_app hd hq]
 have e2 : ordF f (kidsL f s) = ordF f ((kidsL f s).take (k + 1)) ++ ordF f ((kidsL f s).drop (k + 1)) := by
  unfold ordF
  rw [← ord_app hd (by rw [List.take_append_drop]; exact hin), List.take_append_drop]
 rw [ordF_one hd h0 h1, e2, e1] at hg
 refine ⟨fun j hj => ?_, by rw [e1, List.length_append]; omega, by
  have hl := congrArg List.length hg
  simp only [List.length_cons, List.length_append, run_len] at hl
  omega⟩
 have h2 := congrArg (fun l => l[1 + (ordF f ((kidsL f s).take k)).length + j]?) hg
 have hl := congrArg List.length hg
 simp only [List.length_cons, List.length_append, run_len] at hl
 simp only [run, List.getElem?_map, List.getElem?_range] at h2
 rw [show 1 + (ordF f ((kidsL f s).take k)).length + j = (ordF f ((kidsL f s).take k)).length + j + 1 from by omega, List.getElem?_cons_succ, List.append_assoc, List.getElem?_append_right (by omega), List.getElem?_append_left (by omega),
  show (ordF f ((kidsL f s).take k)).length + j - (ordF f ((kidsL f s).take k)).length = j from by omega, List.getElem?_eq_getElem hj, List.getElem?_eq_getElem (by simp; omega)] at h2
 simp only [Option.map_some, Option.some.injEq, List.getElem_range] at h2
 rw [h2]; omega

theorem l18Gone_fun0 (f : Func) (s : Int) (hf : f.ok 1048576) (hn : f.stmts.length ≤ 16) (hs0 : 0 ≤ s) (hs1 : s < f.stmts.length) (hd : downB f.stmts.length (kids f.stmts)) (hg : ordF f [s] = run s (goneN f s)) (hgn : s + goneN f s ≤ f.stmts.length) (ih : ∀ n, n ∈ kidsL f s → Fun Tryz.prog 121 [.t f.tt, .t (.int n)] (.t (T.ints (ordF f [n])))) : Fun Tryz.prog 121 [.t f.tt, .t (.int s)] (tupD [.t (T.ints (ordF f [s]))]) := by
  have hso := stmt_ok hf (n := s.toNat) (by omega)
  have hin := kidsL_in hd hs0 hs1
  have hkl : (kidsL f s).length ≤ 2097152 := by rw [kidsL, stmtAt, List.getElem?_eq_getElem (by omega)]; simp; omega
  have hge : goneN f s = 1 + (ordF f (kidsL f s)).length := by unfold goneN; rw [ordF_one hd hs0 hs1]; simp; omega
  refine Fun.begin tys Tryz.func121 rfl rfl (N := 43) [(0, .t f.tt), (1, .t (.int s))] rfl rfl (fun w0 G F0 => ?_)
  refine sQ (rG (WO_box rfl rfl (lt_of rfl) rfl rfl (nZ rfl (eZ rfl (oN (tN (sQ (rG (eK 3 rfl (WO_idxT tys rfl rfl (lt_of rfl) rfl rfl rfl rfl rfl rfl rfl (by omega) _ (getT _ _ (by omega) (by omega)) (eZ rfl ?_)))))))))))
  try refine WO_le (Le.freeze (u := 15) rfl) ?_
  refine nZ rfl (WO_alloc tys rfl rfl (lt_of rfl) rfl rfl rfl (nZ rfl (sT rfl (nZ rfl (kZ [1,2,4,5] rfl (oN (tN (sQ (rG (eZ rfl ?_))))))))))
  refine WO_buildSlice tys [T.int s] rfl rfl (lt_of rfl) rfl rfl rfl rfl rfl (lt_of rfl) (by repeat (first | exact PartsOk.nil' | refine PartsOk.cons' rfl (by repeat (first | exact AbsL.nil' | refine AbsL.v' ?_ | refine AbsL.own' ?_ | refine AbsL.none' ?_)) rfl ?_)) (by first | exact List.nodup_nil | exact nodup1 _ | decide | exact nodupB_sound rfl) rfl (by decide) ?_
  refine nZ rfl (WO_le (Le.gather (u := 17) (id := 17) rfl rfl (by first | (simp; done) | (simp; omega) | omega)) ?_)
  refine nZ rfl (WO_le (Le.freeze (u := 17) rfl) (nZ rfl (eZ rfl (oN (tN (sQ (sQ (W_regionDZm 5 7 mixed rfl rfl rfl rfl rfl rfl rfl (lt_of rfl) (by kernel_rfl) (by kernel_rfl) (by kernel_rfl) (by kernel_rfl) (by kernel_rfl) (evQ ?_)))))))))
  refine evQ ?_
  refine callBQ ?_
  refine ⟨_, l1Own_fun _ (by omega), rfl, ?_⟩
  refine QL_norm rfl (evQ ?_)
  refine evQ ?_
  refine QL_nil (nZ rfl (WO_le (Le.adoptE (u := 20) 20 rfl (by first | exact lenN | exact rfl)) ?_))
  refine nZ rfl (WO_append tys rfl rfl (lt_of rfl) rfl rfl rfl rfl rfl (.own rfl (by simp)) rfl (.read (readI _)) (by decide) (by simp; omega) (by decide) rfl ?_)
  refine nZ rfl (WO_le (Le.gather (u := 23) (id := 20) rfl rfl (by simp)) ?_)
  refine nZ rfl ?_
  refine WO_le (Le.eqF (u := 23) (e := .own (T.ints (kidsL f s))) rfl (by
   show D.own (.list 1 _) = D.own (T.ints (kidsL f s))
   rw [kidsL, stmtAt, List.getElem?_eq_getElem (by omega)]
   simp [T.ints, List.take_of_length_le])) ?_
  refine nZ rfl (WO_le (Le.freeze (u := 23) rfl) (nZ rfl (evE ?_)))
  refine oN (nQ_n (tN (W_block ?_)))
  refine lK (α := Int × List Int) [2, 23, 24] [2] (fun x => [(25, .t (.int (x.1))), (6, .t (T.ints (x.2)))]) (fun x => []) (fun x => 0 ≤ (x.1) ∧ (x.1) ≤ (kidsL f s).length ∧ (x.2) = run s (1 + (ordF f ((kidsL f s).take (x.1).toNat)).length)) (fun x => Int.toNat ((kidsL f s).length - (x.1))) (0, [s]) ?_ (fun x hx => ?_)
  · refine ⟨by omega, by omega, ?_⟩
    rw [show (0 : Int).toNat = 0 from rfl, List.take_zero, ordF_nil]
    simp [run]
  obtain ⟨k, out⟩ := x
  obtain ⟨hk0, hk1, ho⟩ := hx
  dsimp only at hk0 hk1 ho ⊢
  refine nY rfl (sQ (rG (eZ rfl (oN (tN (sQ ?_))))))
  refine W_cond rfl (fun h1 => ?_) (fun h1 => ?_)
  ·
    simp only [HS] at h1
    refine W_skip (tN (sQ (W_block (sQ (rG ?_)))))
    have hkn := hin _ (List.getElem_mem (show k.toNat < (kidsL f s).length by omega))
    refine WO_idxT tys rfl rfl (lt_of rfl) rfl rfl rfl rfl rfl rfl rfl (by omega) _ (getT _ _ (by omega) (by omega)) (eK 2 rfl (oN (tN (sQ (rG (eZ rfl ?_))))))
    try refine WO_le (Le.freeze (u := 29) rfl) ?_
    refine nZ rfl (eZ rfl (WO_callF rfl rfl (lt_of rfl) rfl rfl rfl rfl rfl (ih _ (List.getElem_mem (show k.toNat < (kidsL f s).length by omega))) rfl ?_))
    obtain ⟨hr1, hr2, hr3⟩ := kids_run hd hs0 hs1 hg (k := k.toNat) (by omega)
    refine evE ?_
    refine eZ rfl (kZ [2,6,8,23,24,25,26,27,28,29,30,31,32,33] rfl (oN (tN (W_block ?_))))
    refine lK (α := Int × List Int) [2, 23, 24, 25, 31, 32] [2] (fun x => [(33, .t (.int (x.1))), (6, .t (T.ints (x.2)))]) (fun x => []) (fun x => 0 ≤ (x.1) ∧ (x.1) ≤ (ordF f [(kidsL f s)[k.toNat]'(by omega)]).length ∧ (x.2) = run s (1 + (ordF f ((kidsL f s).take k.toNat)).length + (x.1).toNat)) (fun x => Int.toNat ((ordF f [(kidsL f s)[k.toNat]'(by omega)]).length - (x.1))) (0, out) ?_ (fun x hx => ?_)
    · exact ⟨by omega, by omega, ho⟩
    obtain ⟨j, o2⟩ := x
    obtain ⟨hj0, hj1, ho2⟩ := hx
    dsimp only at hj0 hj1 ho2 ⊢
    refine nY rfl (sQ (rG (eZ rfl (oN (tN (sQ ?_))))))
    refine W_cond rfl (fun h2 => ?_) (fun h2 => ?_)
    ·
      simp only [HS] at h2
      refine W_skip (tN (sQ (W_block (sQ (rG (WO_idxT tys rfl rfl (lt_of rfl) rfl rfl rfl rfl rfl rfl rfl (by omega) _ (getT _ _ (by omega) (by omega)) (eK 2 rfl (oN (tN (rG (eK 2 rfl (WO_callF rfl rfl (lt_of rfl) rfl rfl rfl rfl rfl (l1Put_fun _ _ (by rw [ho2, run_len]; omega) (by rw [ho2]; exact run_rise _ _)) rfl ?_))))))))))))
      refine eZ rfl (oN (bN (tN (kY [2,6,10,23,24,25,31,32,33,34,35,36,37,38,39] rfl (rG (evI ?_))))))
      refine eZ rfl (oN ?_)
      refine lQ (_, _) ?_ ?_
      · dsimp only
        refine ⟨by omega, by omega, ?_⟩
        have e := hr1 j.toNat (by omega)
        rw [e, ho2, show (j + 1).toNat = j.toNat + 1 from by omega, ← Nat.add_assoc, ← put_run]
      · (show Int.toNat _ < Int.toNat _); omega
    simp only [HS] at h2
    refine W_exit (tE (loopQ_e (inBlk_y (bN (tN (rG (evI ?_)))))))
    refine eZ rfl (oN ?_)
    refine lQ (_, _) ?_ ?_
    · dsimp only
      refine ⟨by omega, by omega, ?_⟩
      rw [ho2, show (k + 1).toNat = k.toNat + 1 from by omega, hr2, show j.toNat = (ordF f [(kidsL f s)[k.toNat]'(by omega)]).length from by omega]
    · (show Int.toNat _ < Int.toNat _); omega
  simp only [HS] at h1
  refine W_exit (tE (loopQ_e (inBlk_y (tN (sQ (rG (eK 2 rfl (oN (tN (rT (eR ?_)))))))))))
  · rw [ho, take_end (by omega), hg, hge]
    rfl

theorem l18Gone_fun {f : Func} (hf : f.ok 1048576) (hn : f.stmts.length ≤ 16) (hs : shapeF f = true) : ∀ (k : Nat) (s : Int), 0 ≤ s → s < f.stmts.length → f.stmts.length - s ≤ k → Fun Tryz.prog 121 [.t f.tt, .t (.int s)] (.t (T.ints (ordF f [s])))
 | 0, s, h0, h1, h2 => by omega
 | k + 1, s, h0, h1, h2 => by
  obtain ⟨hd, _, _⟩ := shapeF_iff hs
  obtain ⟨g1, g2, g3⟩ := gone_run hs h0 h1
  refine l18Gone_fun0 f s hf hn h0 h1 hd g1 g3 fun n hn' => ?_
  have := kidsL_in hd h0 h1 n hn'
  exact l18Gone_fun hf hn hs k n (by omega) (by omega) (by omega)

def lessN (gone : List Int) (n : Int) : Int := ((gone.filter fun m => decide (m < n)).length : Nat)
def leftG (gone b : List Int) : List Int := (b.filter fun n => !decide (n ∈ gone)).map fun n => n - lessN gone n
theorem leftG_len (gone b : List Int) : (leftG gone b).length ≤ b.length := by
 unfold leftG; rw [List.length_map]; exact List.length_filter_le ..
theorem lessN_at {l : List Int} {n k : Int} (h0 : 0 ≤ k) (h1 : k < l.length) : lessN (l.take (k + 1).toNat) n = lessN (l.take k.toNat) n + (if l[k.toNat]'(by omega) < n then 1 else 0) := by
 unfold lessN
 rw [take_at h0 h1, List.filter_append, List.length_append]
 split
 ·rename_i h; rw [List.filter_cons_of_pos (by simpa using h)]; simp
 ·rename_i h; rw [List.filter_cons_of_neg (by simpa using h)]; simp
theorem lessN_bnd (l : List Int) (n : Int) : 0 ≤ lessN l n ∧ lessN l n ≤ l.length := by
 unfold lessN
 have := List.length_filter_le (fun m => decide (m < n)) l
 omega
theorem leftG_at {gone b : List Int} {k : Int} (h0 : 0 ≤ k) (h1 : k < b.length) : leftG gone (b.take (k + 1).toNat) = leftG gone (b.take k.toNat) ++ (if b[k.toNat]'(by omega) ∈ gone then [] else [b[k.toNat]'(by omega) - lessN gone (b[k.toNat]'(by omega))]) := by
 unfold leftG
 rw [take_at h0 h1, List.filter_append, List.map_append]
 congr 1
 split
 ·rename_i h; rw [List.filter_cons_of_neg (by simpa using h)]; rfl
 ·rename_i h; rw [List.filter_cons_of_pos (by simpa using h)]; rfl

theorem l18Left_fun (b gone : List Int) (hb : b.length ≤ 1048576) (hg : gone.length ≤ 1048576) (hv : ∀ n, n ∈ b → -1073741824 ≤ n ∧ n ≤ 1073741824) : Fun Tryz.prog 122 [.t (T.ints b), .t (T.ints gone)] (tupD [.own (T.ints (leftG gone b))]) := by
 refine Fun.begin tys Tryz.func122 rfl rfl (N := 40) [(0, .t (T.ints b)), (1, .t (T.ints gone))] rfl rfl (fun w0 G F0 => ?_)
 refine sQ (rG (eZ rfl (oN (tN (sQ (rG (eZ rfl (WO_le (Le.nilOwn (u := 5) 1 rfl) (WO_le (Le.adoptE (u := 5) 5 rfl rfl) (nZ rfl (oN (tN (sQ (sQ (rG ?_)))))))))))))))
 refine eZ rfl (evE ?_)
 refine eZ rfl (oN (tN (W_block ?_)))
 refine lK (α := Int × Nat × List T) [1, 11, 12] [] (fun x => [(13, .t (.int (x.1))), (5, .sl 5 0 (x.2.1))]) (fun x => [(5, .L 1 (x.2.2))]) (fun x => 0 ≤ (x.1) ∧ (x.1) ≤ b.length ∧ (x.2.1) = (x.2.2).length ∧ (x.2.2).length ≤ (x.1) ∧ (x.2.2) = (leftG gone (b.take (x.1).toNat)).map T.int) (fun x => Int.toNat (b.length - (x.1))) (0, 0, []) ?_ (fun x hx => ?_)
 ·exact ⟨by omega, by omega, rfl, by simp, rfl⟩
 obtain ⟨k, m, ws⟩ := x
 obtain ⟨hk0, hk1, hm, hwl, hws⟩ := hx
 dsimp only at hk0 hk1 hm hwl hws ⊢
 refine nY rfl (sQ (rG (eZ rfl (oN (tN (sQ ?_))))))
 refine W_cond rfl (fun h1 => ?_) (fun h1 => ?_)
 ·
  simp only [HS] at h1
  refine W_skip (tN (sQ (W_block (sQ (rG (WO_idxT tys rfl rfl (lt_of rfl) rfl rfl rfl rfl rfl rfl rfl (by omega) _ (getT _ _ (by omega) (by omega)) (eK 2 rfl (oN (tN (sQ (sQ (rG (eK 2 rfl (callB ?_))))))))))))))
  refine ⟨_, l1Has_fun _ _ (by omega), rfl, ?_⟩
  refine oN (tN ?_)
  refine W_cond rfl (fun h2 => ?_) (fun h2 => ?_)
  ·
   simp only [HS] at h2
   refine W_exit (tE (inBlk_y (tN (kY [1,5,7,11,12,13,14,15,16,17,18,19] rfl (rG (evI ?_))))))
   refine eZ rfl (oN ?_)
   refine lQ (_, _, _) ?_ ?_
   ·dsimp only
    subst hm
    first
    | (refine ⟨by omega, by omega, rfl, by omega, ?_⟩; rw [hws, leftG_at hk0 (by omega), if_pos (by assumption), List.append_nil]; done)
   ·(show Int.toNat _ < Int.toNat _); omega
  simp only [HS] at h2
  refine W_skip (tN (sQ (kY [1,5,7,11,12,13,14,15,16,17,18,19] rfl (rG (eZ rfl (oN (tN (sQ (sQ (rG ?_))))))))))
  have hvk := hv _ (List.getElem_mem (show k.toNat < b.length by omega))
  refine eZ rfl (evE ?_)
  refine eZ rfl (oN (tN (W_block ?_)))
  refine lK (α := Int × Int) [1, 5, 7, 11, 12, 13, 20, 21] [5] (fun x => [(22, .t (.int (x.1))), (8, .t (.int (x.2)))]) (fun x => []) (fun x => 0 ≤ (x.1) ∧ (x.1) ≤ gone.length ∧ (x.2) = lessN (gone.take (x.1).toNat) (b[k.toNat]'(by omega))) (fun x => Int.toNat (gone.length - (x.1))) (0, 0) ?_ (fun x hx => ?_)
  ·exact ⟨by omega, by omega, rfl⟩
  obtain ⟨j, c⟩ := x
  obtain ⟨hj0, hj1, hc⟩ := hx
  dsimp only at hj0 hj1 hc ⊢
  refine nY rfl (sQ (rG (eZ rfl (oN (tN (sQ ?_))))))
  refine W_cond rfl (fun h3 => ?_) (fun h3 => ?_)
  ·
   simp only [HS] at h3
   refine W_skip (tN (sQ (W_block (sQ (rG (WO_idxT tys rfl rfl (lt_of rfl) rfl rfl rfl rfl rfl rfl rfl (by omega) _ (getT _ _ (by omega) (by omega)) (eK 2 rfl (oN (tN (sQ (rG ?_)))))))))))
   have hcb := lessN_bnd (gone.take j.toNat) (b[k.toNat]'(by omega))
   have hcl : (gone.take j.toNat).length ≤ 1048576 := by rw [List.length_take]; omega
   refine eK 3 rfl (oN (tN ?_))
   refine W_cond rfl (fun h4 => ?_) (fun h4 => ?_)
   ·
    simp only [HS] at h4
    refine kY [1,5,7,8,10,11,12,13,20,21,22,23,24,25,26,27,28] rfl (rG (eZ rfl (evI ?_)))
    refine eZ rfl (oN (bN (tN (rG (evI ?_)))))
    refine eZ rfl (oN ?_)
    refine lQ (_, _) ?_ ?_
    ·dsimp only
     refine ⟨by omega, by omega, ?_⟩
     rw [lessN_at hj0 (by omega)]
     first
     | (rw [if_pos (by assumption), hc]; done)
    ·(show Int.toNat _ < Int.toNat _); omega
   simp only [HS] at h4
   refine W_skip (bN (tN (kY [1,5,7,8,10,11,12,13,20,21,22,23,24,25,26,27,28] rfl (rG (evI ?_)))))
   refine eZ rfl (oN ?_)
   refine lQ (_, _) ?_ ?_
   ·dsimp only
    refine ⟨by omega, by omega, ?_⟩
    rw [lessN_at hj0 (by omega)]
    first
    | (rw [if_neg (by omega), hc]; omega)
   ·(show Int.toNat _ < Int.toNat _); omega
  simp only [HS] at h3
  refine W_exit (tE (loopQ_e (inBlk_y (tN (rG ?_)))))
  have hcb := lessN_bnd gone (b[k.toNat]'(by omega))
  have hc' : c = lessN gone (b[k.toNat]'(by omega)) := by rw [hc, take_end (by omega)]
  refine eK 3 rfl (evI ?_)
  refine WO_buildSlice tys [T.int (b[k.toNat]'(by omega) - c)] rfl rfl (lt_of rfl) rfl rfl rfl rfl rfl (lt_of rfl) (by repeat (first | exact PartsOk.nil' | refine PartsOk.cons' rfl (by repeat (first | exact AbsL.nil' | refine AbsL.v' ?_ | refine AbsL.own' ?_ | refine AbsL.none' ?_)) rfl ?_)) (by first | exact List.nodup_nil | exact nodup1 _ | decide | exact nodupB_sound rfl) rfl (by decide) ?_
  refine nZ rfl (WO_append tys rfl rfl (lt_of rfl) rfl rfl rfl rfl rfl (.own rfl (by first | omega | (simp only [List.length_append]; omega))) rfl (.own rfl (by first | decide | omega)) (by decide) (by simp only [List.length_take, List.length_cons, List.length_nil]; omega) (by decide) rfl ?_)
  refine nZ rfl (eZ rfl (oN (bN (tN (kY [1,5,7,8,11,12,13,20,21,22,23,32,33,34,35,36,37] rfl (rG (evI ?_)))))))
  refine eZ rfl (oN ?_)
  refine lQ (_, _, _) ?_ ?_
  ·dsimp only
   subst hm
   first
   | (refine ⟨by omega, by omega, by simp, by simp; omega, ?_⟩; rw [List.take_length, hws, leftG_at hk0 (by omega), if_neg (by assumption), List.map_append, hc']; rfl)
  ·(show Int.toNat _ < Int.toNat _); omega
 simp only [HS] at h1
 refine W_exit (tE (loopQ_e (inBlk_y (tN (sQ (rG (eK 2 rfl (oN (tN (W_le (Le.gather (u := 4) (id := 5) rfl rfl (by omega)) (rT (eR ?_))))))))))))
 ·(rw [hm, List.take_length, hws]; refine retOwnI ?_; rw [take_end (by omega)])

end Go.Proofs.YtimpganophnehaaGreat
