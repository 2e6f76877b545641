/- Walks of what a shaped function is. -/
import Derived.Test.YtimpganophnehaaGreatFi
set_option linter.unusedVariables false
set_option linter.unusedSimpArgs false
set_option maxRecDepth 10000
set_option maxHeartbeats 1000000
namespace Go.Proofs.YtimpganophnehaaGreat
open Go.Eng

def okNum (f : Func) : Bool := decide (0 ≤ f.params ∧ f.params ≤ 2) && (decide (f.params ≤ f.vars ∧ f.vars ≤ 6) && decide ((f.stmts.length : Int) ≤ 16))
def siteB (f : Func) : Bool := decide (((sitesF f.stmts 0).length : Int) ≤ 4)
def kindAt (f : Func) (n : Int) : Int := match f.stmts[n.toNat]? with
 | some s => s.kind
 | none => 0
theorem kindAt_at {f : Func} {n : Int} (h : n.toNat < f.stmts.length) : kindAt f n = (f.stmts[n.toNat]).kind := by
 unfold kindAt; rw [List.getElem?_eq_getElem h]
def noDef (f : Func) (b : List Int) : Bool := (ordF f b).all fun n => decide (¬ kindAt f n = 3)
def whileOk (f : Func) (s : Stmt) : Bool := if s.kind = 8 then noDef f s.thn else true
def whileB (f : Func) : Bool := f.stmts.all (whileOk f)
def shapeF (f : Func) : Bool := okNum f && (siteB f && (shapeB f.stmts f.body && whileB f))

theorem isShaped1_fun (n i : Int) (f : Func) (hN : f.stmts.length ≤ 1048576) (hi : 0 ≤ i ∧ i ≤ 1048576) : Fun Tryz.prog 210 [.t (.int n), .rp (.agg [T.int i]) 0, .rp f.tt 0] (tupD [.t (.bool (!decide (i + 1 ≤ n ∧ n ≤ f.stmts.length - 1)))]) := by
 refine Fun.begin tys Tryz.func210 rfl rfl (N := 14) [(0, .t (.int n)), (1, .rp (.agg [T.int i]) 0), (2, .rp f.tt 0)] rfl rfl (fun w0 G F0 => ?_)
 refine sQ (rG (eZ rfl (oN (tN (sQ (rG (eK 2 rfl (evI ?_))))))))
 refine eK 2 rfl (evE ?_)
 refine evI ?_
 refine callB ?_
 refine ⟨_, within_fun _ _ _, rfl, ?_⟩
 refine kZ [4,12] rfl (eK 2 rfl (oN (tN (rT (eR ?_)))))
 ·rfl

theorem isShaped2_fun (n : Int) (f : Func) (hN : f.stmts.length ≤ 1048576) : Fun Tryz.prog 211 [.t (.int n), .rp f.tt 0] (tupD [.t (.bool (!decide (0 ≤ n ∧ n ≤ f.stmts.length - 1)))]) := by
 refine Fun.begin tys Tryz.func211 rfl rfl (N := 11) [(0, .t (.int n)), (1, .rp f.tt 0)] rfl rfl (fun w0 G F0 => ?_)
 refine sQ (rG (eZ rfl (oN (tN (sQ (rG (eK 3 rfl (evE ?_))))))))
 refine evI ?_
 refine callB ?_
 refine ⟨_, within_fun _ _ _, rfl, ?_⟩
 refine eK 2 rfl (kZ [3] rfl (oN (tN (rT (eR ?_)))))
 ·rfl

theorem any_inB {N i : Int} {b : List Int} : (b.any fun n => !decide (i ≤ n ∧ n ≤ N - 1)) = !inBB N i b := by
 unfold inBB
 rw [List.not_all_eq_any_not]
 congr 1
 funext n
 congr 1
 exact decide_eq_decide.2 (by omega)
def blkZ (s : Stmt) (z : Int) : List Int := if z = 0 then s.thn else s.els
theorem pick2 {s : Stmt} {z : Int} (h0 : 0 ≤ z) (h1 : z < 2) : [D.t (.list 1 (s.thn.map T.int)), D.t (.list 1 (s.els.map T.int))][z.toNat]? = some (.t (T.ints (blkZ s z))) := by
 unfold blkZ
 rcases (by omega : z = 0 ∨ z = 1) with rfl | rfl <;> rfl
def usesZ (s : Stmt) (z : Int) : Int := if z = 0 then 0 else if z = 1 then s.thn.length else s.thn.length + s.els.length
theorem usesF_at {l : List Stmt} {k : Int} (h0 : 0 ≤ k) (h1 : k < l.length) : usesF (l.drop k.toNat) = (l[k.toNat]'(by omega)).thn.length + (l[k.toNat]'(by omega)).els.length + usesF (l.drop (k + 1).toNat) := by
 rw [drop_at h0 h1, usesF]
def downTo (f : Func) (k : Int) : Prop := ∀ m : Int, 0 ≤ m → m < k → inB f.stmts.length (m + 1) (kids f.stmts m).1 ∧ inB f.stmts.length (m + 1) (kids f.stmts m).2
theorem downTo_step {f : Func} {k : Int} (h0 : 0 ≤ k) (h1 : k < f.stmts.length) (h : downTo f k) (h2 : inBB f.stmts.length (k + 1) (f.stmts[k.toNat]'(by omega)).thn = true) (h3 : inBB f.stmts.length (k + 1) (f.stmts[k.toNat]'(by omega)).els = true) : downTo f (k + 1) := by
 intro m m0 m1
 by_cases hm : m < k
 ·exact h m m0 hm
 ·obtain rfl : m = k := by omega
  rw [kids_at (by omega)]
  exact ⟨inBB_iff.1 h2, inBB_iff.1 h3⟩
theorem down_no {f : Func} {k z : Int} (h0 : 0 ≤ k) (h1 : k < f.stmts.length) (hz0 : 0 ≤ z) (hz1 : z < 2) (h : ¬ inBB f.stmts.length (k + 1) (blkZ (f.stmts[k.toNat]'(by omega)) z) = true) : shapeB f.stmts f.body = false := by
 rw [Bool.eq_false_iff]
 intro hs
 have hd := (shapeB_iff.1 hs).1 k h0 h1
 rw [kids_at (by omega)] at hd
 apply h
 unfold blkZ
 split
 ·exact inBB_iff.2 hd.1
 ·exact inBB_iff.2 hd.2
theorem ord_no {f : Func} {k : Int} (h0 : 0 ≤ k) (h1 : k < (ordF f f.body).length) (h : ¬ (ordF f f.body)[k.toNat]'(by omega) = k) : shapeB f.stmts f.body = false := by
 rw [Bool.eq_false_iff]
 intro hs
 have := (shape_blocks.1 hs).2 k.toNat (by unfold ordF at h1; omega)
 apply h
 unfold ordF
 rw [this]; omega
theorem ord_yes {f : Func} (hd : downB f.stmts.length (kids f.stmts)) (hb : inB f.stmts.length 0 f.body) (hl : ((ordF f f.body).length : Int) = f.stmts.length) (h : ∀ (k : Nat) (h : k < (ordF f f.body).length), (ordF f f.body)[k] = (k : Int)) : shapeB f.stmts f.body = true := by
 rw [shapeB_iff]
 refine ⟨hd, hb, List.ext_getElem (by rw [upto_len]; unfold ordF at hl; omega) fun k h1 h2 => ?_⟩
 rw [upto_at h2]
 exact h k h1
theorem shape_len {f : Func} (h : shapeB f.stmts f.body = true) : ((ordF f f.body).length : Int) = f.stmts.length := by
 unfold ordF; rw [(shapeB_iff.1 h).2.2, upto_len]

theorem uses_no {f : Func} {k u : Int} (h0 : 0 ≤ k) (h1 : (f.stmts.length : Int) ≤ k) (hu : u + usesF (f.stmts.drop k.toNat) = f.body.length + usesF f.stmts) (h : ¬ u = f.stmts.length) : shapeB f.stmts f.body = false := by
 rw [Bool.eq_false_iff]
 intro hs
 have := shape_uses hs
 have e := drop_end h1
 rw [e] at hu
 simp only [usesF] at hu
 omega
theorem body_no {f : Func} (h : (f.body.any fun n => !decide (0 ≤ n ∧ n ≤ (f.stmts.length : Int) - 1)) = true) : shapeB f.stmts f.body = false := by
 rw [any_inB] at h
 rw [shapeB]
 simp only [Bool.not_eq_true'] at h
 rw [h]; simp
theorem while_no {f : Func} {m : Int} (h0 : 0 ≤ m) (h1 : m < f.stmts.length) (h2 : (f.stmts[m.toNat]'(by omega)).kind = 8) (h : noDef f (f.stmts[m.toNat]'(by omega)).thn = false) : whileB f = false := by
 rw [whileB]
 exact all_no h0 h1 (by unfold whileOk; rw [if_pos h2, h])

theorem isShaped_fun (f : Func) (hf : f.ok 1048576) : Fun Tryz.prog 171 [.t f.tt] (tupD [.t (.bool (shapeF f))]) := by
  have hl : f.stmts.length ≤ 1048576 := hf.2.1.1
  have hbl : f.body.length ≤ 1048576 := hf.1
  refine Fun.begin tys Tryz.func171 rfl rfl (N := 140) [(0, .t f.tt)] rfl rfl (fun w0 G F0 => ?_)
  refine sQ (rG (WO_box rfl rfl (lt_of rfl) rfl rfl (nZ rfl (eZ rfl (oN (tN (sQ (sQ (rG (eK 2 rfl (callB ?_)))))))))))
  refine ⟨_, within_fun _ _ _, rfl, ?_⟩
  refine eK 2 rfl ?_
  refine WO_guard rfl rfl rfl rfl (lt_of rfl) (fun h1 => ?_) (fun h1 => ?_)
  rotate_left
  ·
    simp only [HS] at h1
    refine gN rfl rfl (gN rfl rfl (kZ [1,2,19,21,22] rfl (gN rfl rfl (gN rfl rfl (gN rfl rfl (eK 2 rfl (gN rfl rfl (gN rfl rfl (gN rfl rfl (gN rfl rfl (kZ [1,2,27,31] rfl (eK 2 rfl (gN rfl rfl (gN rfl rfl (gN rfl rfl ?_)))))))))))))))
    refine gN rfl rfl (eZ rfl (oN (tN (W_condT rfl (sQ (kY [1,2] rfl (rG (eZ rfl (oN (tN (rT (tR (eR ?_)))))))))))))
    · first
      | (refine retB ?_; rw [shapeF, okNum]; simp only [h1, decide_false, Bool.false_and]; done)
  simp only [HS] at h1
  refine eZ rfl (gY rfl (eZ rfl (kZ [1,2,19,21] rfl (gY rfl (eZ rfl (gY rfl (eZ rfl (gY rfl (callB ?_)))))))))
  refine ⟨_, within_fun _ _ _, rfl, ?_⟩
  refine gY rfl (eK 3 rfl ?_)
  refine WO_guard rfl rfl rfl rfl (lt_of rfl) (fun h2 => ?_) (fun h2 => ?_)
  rotate_left
  ·
    simp only [HS] at h2
    refine gN rfl rfl (gN rfl rfl (gN rfl rfl (kZ [1,2,27,31] rfl (eK 2 rfl (gN rfl rfl (gN rfl rfl (gN rfl rfl (gN rfl rfl (eZ rfl (oN (tN (W_condT rfl (sQ (kY [1,2] rfl (rG ?_)))))))))))))))
    refine eZ rfl (oN (tN (rT (tR (eR ?_)))))
    · first
      | (refine retB ?_; rw [shapeF, okNum]; simp only [h2, decide_false, Bool.false_and, Bool.and_false]; done)
  simp only [HS] at h2
  refine eZ rfl (gY rfl (eZ rfl (gY rfl (evE ?_))))
  refine kZ [1,2,27,30] rfl (gY rfl (eK 3 rfl ?_))
  refine WO_guard rfl rfl rfl rfl (lt_of rfl) (fun h3 => ?_) (fun h3 => ?_)
  rotate_left
  ·
    simp only [HS] at h3
    refine gN rfl rfl (gN rfl rfl (gN rfl rfl (eZ rfl (oN (tN (W_condT rfl (sQ (kY [1,2] rfl (rG (eZ rfl (oN (tN (rT (tR (eR ?_)))))))))))))))
    · first
      | (refine retB ?_; rw [shapeF, okNum]; simp only [Int.not_le.2 h3, decide_false, Bool.false_and, Bool.and_false]; done)
  simp only [HS] at h3
  refine eZ rfl ?_
  try refine WO_le (Le.freeze (u := 34) rfl) ?_
  refine nZ rfl (gY rfl (callB ?_))
  refine ⟨_, sitesOf_fun f hf, rfl, ?_⟩
  refine WO_le (Le.adoptE (u := 35) 35 rfl (by first | exact lenN | exact rfl)) ?_
  refine nZ rfl (gY rfl (evE ?_))
  refine gY rfl (eK 2 rfl (oN (tN ?_)))
  refine W_cond rfl (fun h4 => ?_) (fun h4 => ?_)
  ·
    simp only [HS] at h4
    refine sQ (kY [1,2] rfl (rG (eZ rfl (oN (tN (rT (tR (eR ?_))))))))
    · first
      | (refine retB ?_; rw [shapeF, siteB]; simp only [Int.not_le.2 h4, decide_false, Bool.false_and, Bool.and_false]; done)
  simp only [HS] at h4
  refine W_skip (tN (sQ (kY [1,2] rfl (rG (eK 2 rfl (evE ?_))))))
  refine eZ rfl (oN (tN (sQ (sQ (rG (eK 2 rfl (evE ?_)))))))
  refine eZ rfl (oN (tN (W_block ?_)))
  refine lK (α := Int × Int) [1, 43, 44] [1] (fun x => [(45, .t (.int (x.1))), (3, .t (.int (x.2)))]) (fun x => []) (fun x => 0 ≤ (x.1) ∧ (x.1) ≤ f.stmts.length ∧ f.stmts.length ≤ 16 ∧ okNum f = true ∧ siteB f = true ∧ 0 ≤ (x.2) ∧ (x.2) ≤ 1048576 + (x.1) * 2097152 ∧ (x.2) + usesF (f.stmts.drop (x.1).toNat) = f.body.length + usesF f.stmts ∧ downTo f (x.1)) (fun x => Int.toNat (f.stmts.length - (x.1))) (0, f.body.length) ?_ (fun x hx => ?_)
  · exact ⟨by omega, by omega, by omega, by simp [okNum, h1, h2, h3], by simp [siteB, h4], by omega, by omega, by simp, fun m h h' => by omega⟩
  obtain ⟨k, u⟩ := x
  obtain ⟨hk0, hk1, hN, hnum, hsite, hu0, hu1, hu, hdn⟩ := hx
  dsimp only at hk0 hk1 hN hnum hsite hu0 hu1 hu hdn ⊢
  refine nY rfl (sQ (rG (eZ rfl (oN (tN (sQ ?_))))))
  refine W_cond rfl (fun h5 => ?_) (fun h5 => ?_)
  ·
    simp only [HS] at h5
    refine W_skip (tN (sQ (W_block (sQ (rG (eZ rfl (WO_idxT tys rfl rfl (lt_of rfl) rfl rfl rfl rfl rfl rfl rfl (by omega) _ (getT _ _ (by omega) (by omega)) (eZ rfl ?_))))))))
    try refine WO_le (Le.freeze (u := 49) rfl) ?_
    refine nZ rfl (WO_alloc tys rfl rfl (lt_of rfl) rfl rfl rfl (nZ rfl (WO_alloc tys rfl rfl (lt_of rfl) rfl rfl rfl (nZ rfl (sT rfl (nZ rfl (sT rfl (nZ rfl (oN (tN (sQ (kY [1,3,4,5,43,44,45,46,47,48,49] rfl (rG (eK 4 rfl (WO_build2 (e := 25) rfl rfl (lt_of rfl) rfl (by kernel_rfl) (by kernel_rfl) (by kernel_rfl) rfl rfl ?_)))))))))))))))
    refine eZ rfl (oN (tN (W_block ?_)))
    refine lK (α := Int × Int) [1, 4, 5, 43, 44, 45, 54] [1, 4, 5] (fun x => [(55, .t (.int (x.1))), (3, .t (.int (x.2)))]) (fun x => []) (fun x => 0 ≤ (x.1) ∧ (x.1) ≤ 2 ∧ (x.2) = u + usesZ (f.stmts[k.toNat]'(by omega)) (x.1) ∧ (1 ≤ (x.1) → inBB f.stmts.length (k + 1) (f.stmts[k.toNat]'(by omega)).thn = true) ∧ (2 ≤ (x.1) → inBB f.stmts.length (k + 1) (f.stmts[k.toNat]'(by omega)).els = true)) (fun x => Int.toNat (2 - (x.1))) (0, u) ?_ (fun x hx => ?_)
    · exact ⟨by omega, by omega, by simp [usesZ], by omega, by omega⟩
    obtain ⟨z, v⟩ := x
    obtain ⟨hz0, hz1, hv, hz2, hz3⟩ := hx
    dsimp only at hz0 hz1 hv hz2 hz3 ⊢
    refine nY rfl (sQ (rG (eZ rfl (oN (tN (sQ ?_))))))
    refine W_cond rfl (fun h6 => ?_) (fun h6 => ?_)
    ·
      simp only [HS] at h6
      refine W_skip (tN (sQ (W_block (sQ (rG (WO_index2 (e := 25) (len := 2) rfl rfl (lt_of rfl) rfl (by kernel_rfl) (by kernel_rfl) (by kernel_rfl) rfl rfl rfl (by omega) (pick2 (by omega) (by omega)) rfl (eZ rfl (oN (tN (sQ (rG (eK 2 rfl (evE ?_)))))))))))))
      have hbz : 0 ≤ (blkZ (f.stmts[k.toNat]'(by omega)) z).length ∧ (blkZ (f.stmts[k.toNat]'(by omega)) z).length ≤ 1048576 := by
        have := stmt_ok hf (n := k.toNat) (by omega)
        unfold blkZ
        split <;> omega
      have huz : 0 ≤ usesZ (f.stmts[k.toNat]'(by omega)) z ∧ usesZ (f.stmts[k.toNat]'(by omega)) z ≤ 2097152 := by
        have := stmt_ok hf (n := k.toNat) (by omega)
        unfold usesZ
        split
        · omega
        · split <;> omega
      refine evI ?_
      refine eZ rfl (oN (tN (sQ (kY [1,3,4,5,7,43,44,45,54,55,56,57,58,59,60,61] rfl (rG (eK 2 rfl (callB ?_)))))))
      refine ⟨_, hasS_fun _ (fun n => !decide (k + 1 ≤ n ∧ n ≤ f.stmts.length - 1)) _ [.rp (.agg [T.int k]) 0, .rp f.tt 0] rfl (by omega) (fun n _ => isShaped1_fun n k f hl (by omega)), rfl, ?_⟩
      refine oN (tN ?_)
      refine W_cond rfl (fun h7 => ?_) (fun h7 => ?_)
      ·
        refine sQ (rG (eZ rfl (oN (tN (rT (bR (tR (loopQ_r (bR (bR (tR (loopQ_r (bR (tR (eR ?_)))))))))))))))
        · first
          | (refine retB ?_; rw [shapeF, down_no hk0 h5 hz0 h6 (by rw [any_inB] at h7; simpa using h7)]; simp; done)
      refine W_skip (bN (tN (rG (evI ?_))))
      refine eZ rfl (oN ?_)
      refine lQ (_, _) ?_ ?_
      · dsimp only
        have h7' : inBB f.stmts.length (k + 1) (blkZ (f.stmts[k.toNat]'(by omega)) z) = true := by rw [any_inB] at h7; simpa using h7
        rcases (by omega : z = 0 ∨ z = 1) with rfl | rfl
        · exact ⟨by omega, by omega, by simp [usesZ, blkZ] at hv ⊢; omega, fun _ => h7', by omega⟩
        · exact ⟨by omega, by omega, by simp [usesZ, blkZ] at hv ⊢; omega, fun _ => hz2 (by omega), fun _ => h7'⟩
      · (show Int.toNat _ < Int.toNat _); omega
    simp only [HS] at h6
    refine W_exit (tE (loopQ_e (inBlk_y (bN (tN (rG (evI ?_)))))))
    refine eZ rfl (oN ?_)
    refine lQ (_, _) ?_ ?_
    · dsimp only
      have hz : z = 2 := by omega
      subst hz
      have hua := usesF_at hk0 h5
      have hv' : v = u + ((f.stmts[k.toNat]'(by omega)).thn.length + (f.stmts[k.toNat]'(by omega)).els.length) := hv
      have hso := stmt_ok hf (n := k.toNat) (by omega)
      exact ⟨by omega, by omega, hN, hnum, hsite, by omega, by omega, by omega, downTo_step hk0 h5 hdn (hz2 (by omega)) (hz3 (by omega))⟩
    · (show Int.toNat _ < Int.toNat _); omega
  simp only [HS] at h5
  refine W_exit (tE (loopQ_e (inBlk_y (tN (sQ (sQ (rG (eK 3 rfl (evE ?_)))))))))
  refine eK 2 rfl ?_
  refine WO_guard rfl rfl rfl rfl (lt_of rfl) (fun h6 => ?_) (fun h6 => ?_)
  rotate_left
  ·
    simp only [HS] at h6
    refine gN rfl rfl (gN rfl rfl (kZ [1,72,74,75] rfl (gN rfl rfl (eZ rfl (oN (tN (W_condT rfl (sQ (rG (eZ rfl (oN (tN (rT (tR (eR ?_)))))))))))))))
    · first
      | (refine retB ?_; rw [shapeF, uses_no hk0 h5 hu h6]; simp; done)
  simp only [HS] at h6
  refine eZ rfl (gY rfl (eZ rfl (kZ [1,72,74] rfl (gY rfl (eZ rfl (gY rfl (callB ?_)))))))
  refine ⟨_, hasS_fun _ (fun n => !decide (0 ≤ n ∧ n ≤ f.stmts.length - 1)) _ [.rp f.tt 0] rfl (by omega) (fun n _ => isShaped2_fun n f hl), rfl, ?_⟩
  refine eZ rfl (oN (tN ?_))
  refine W_cond rfl (fun h7 => ?_) (fun h7 => ?_)
  ·
    refine sQ (rG (eZ rfl (oN (tN (rT (tR (eR ?_)))))))
    · first
      | (refine retB ?_; rw [shapeF, body_no h7]; simp; done)
  refine W_skip (tN (sQ (rG ?_)))
  have hd : downB f.stmts.length (kids f.stmts) := fun m m0 m1 => hdn m m0 (by omega)
  have hb : inB f.stmts.length 0 f.body := inBB_iff.1 (by rw [any_inB] at h7; simpa using h7)
  have hue : f.body.length + usesF f.stmts = f.stmts.length := by
    have e := drop_end h5
    rw [e] at hu
    simp only [usesF] at hu
    omega
  have hol : (ordF f f.body).length ≤ 1048576 := ord_bound' hd hb (by omega) (by omega)
  refine eZ rfl ?_
  try refine WO_le (Le.freeze (u := 78) rfl) ?_
  refine nZ rfl (eK 2 rfl ?_)
  skip
  skip
  refine nZ rfl (WO_callO (u := 81) (az := [.tmp 78, .tmp 80]) rfl rfl (lt_of rfl) rfl rfl rfl rfl (.inr ⟨rfl, _, rfl⟩) (orderOf_fun' f hf hd hb hbl hol) (WO_le (Le.adoptE (u := 81) 81 rfl (by first | exact lenN | exact rfl)) ?_))
  refine nZ rfl (eZ rfl (oN (tN (sQ (sQ (kY [1,8] rfl (rG (eZ rfl (evE ?_)))))))))
  refine eZ rfl (oN (tN (W_block ?_)))
  refine lK (α := Int) [1, 8, 82, 83] [1, 81] (fun x => [(84, .t (.int x))]) (fun x => []) (fun x => 0 ≤ x ∧ x ≤ (ordF f f.body).length ∧ ∀ (q : Nat) (h : q < (ordF f f.body).length), q < x → (ordF f f.body)[q] = (q : Int)) (fun x => Int.toNat ((ordF f f.body).length - x)) 0 ?_ (fun j hx => ?_)
  · exact ⟨by omega, by omega, fun q h h' => by omega⟩
  obtain ⟨hj0, hj1, hj⟩ := hx
  refine nY rfl (sQ (rG (eZ rfl (oN (tN (sQ ?_))))))
  refine W_cond rfl (fun h8 => ?_) (fun h8 => ?_)
  ·
    simp only [HS] at h8
    refine W_skip (tN (sQ (W_block (sQ (rG (eZ rfl (WO_idxS tys rfl rfl (lt_of rfl) rfl rfl rfl rfl rfl rfl rfl rfl (by omega) (by omega) (WO_loadL tys rfl rfl (lt_of rfl) rfl rfl rfl rfl (getT0 _ _ (by omega) (by omega)) rfl (eK 2 rfl (oN (tN (sQ (rG (eK 3 rfl (kZ [1,8,9,10,82,83,84,85,86,87,88,89,90,91] rfl ?_)))))))))))))))
    refine oN (tN ?_)
    refine W_cond rfl (fun h9 => ?_) (fun h9 => ?_)
    ·
      simp only [HS] at h9
      refine sQ (rG (eZ rfl (oN (tN (rT (bR (tR (loopQ_r (bR (tR (eR ?_)))))))))))
      · first
        | (refine retB ?_; rw [shapeF, ord_no hj0 h8 h9]; simp; done)
    simp only [HS] at h9
    refine W_skip (bN (tN (rG (evI ?_))))
    refine eZ rfl (oN ?_)
    refine lQ _ ?_ ?_
    · skip
      refine ⟨by omega, by omega, fun q h h' => ?_⟩
      by_cases hq : (q : Int) < j
      · exact hj q h hq
      · obtain rfl : q = j.toNat := by omega
        omega
    · (show Int.toNat _ < Int.toNat _); omega
  simp only [HS] at h8
  refine W_exit (tE (loopQ_e (inBlk_y (tN (sQ (sQ (rG (eK 2 rfl (evE ?_)))))))))
  refine eZ rfl (oN (tN (W_block ?_)))
  refine lK (α := Int) [1, 8, 94, 95] [1, 81] (fun x => [(96, .t (.int x))]) (fun x => []) (fun x => 0 ≤ x ∧ x ≤ f.stmts.length ∧ (((ordF f f.body).length : Int) = f.stmts.length → (f.stmts.take x.toNat).all (whileOk f) = true)) (fun x => Int.toNat (f.stmts.length - x)) 0 ?_ (fun m hx => ?_)
  · exact ⟨by omega, by omega, fun _ => by simp⟩
  obtain ⟨hm0, hm1, hmw⟩ := hx
  refine nY rfl (sQ (rG (eZ rfl (oN (tN (sQ ?_))))))
  refine W_cond rfl (fun h9 => ?_) (fun h9 => ?_)
  ·
    simp only [HS] at h9
    refine W_skip (tN (sQ (W_block (sQ (rG (eZ rfl (WO_idxT tys rfl rfl (lt_of rfl) rfl rfl rfl rfl rfl rfl rfl (by omega) _ (getT _ _ (by omega) (by omega)) (eZ rfl ?_))))))))
    try refine WO_le (Le.freeze (u := 100) rfl) ?_
    refine nZ rfl (WO_alloc tys rfl rfl (lt_of rfl) rfl rfl rfl (nZ rfl ?_))
    have hmt : m.toNat < f.stmts.length := by omega
    have hbt : inB f.stmts.length 0 (f.stmts[m.toNat]'hmt).thn := by
      have := (hd m (by omega) (by omega)).1
      rw [kids_at hmt] at this
      exact inB_lower this (by omega)
    have hut := usesF_drop f.stmts hmt
    have hul := usesF_le f.stmts m.toNat
    have hot : (ordF f (f.stmts[m.toNat]'hmt).thn).length ≤ 1048576 := ord_bound' hd hbt (by omega) (by omega)
    refine eZ rfl (sT rfl (nZ rfl (oN (tN (sQ (kY [1,8,11,12,94,95,96,97,98,99,100] rfl (rG (eK 4 rfl ?_))))))))
    refine WO_guard rfl rfl rfl rfl (lt_of rfl) (fun h10 => ?_) (fun h10 => ?_)
    rotate_left
    ·
      simp only [HS] at h10
      refine gN rfl rfl (gN rfl rfl (gN rfl rfl (gN rfl rfl (gN rfl rfl (kZ [1,8,11,12,94,95,96,97,98,99,100,101,102,103,104,105,106,107,108,109,110] rfl (eZ rfl (oN (tN (W_condF rfl (W_skip (bN (tN (rG (evI ?_))))))))))))))
      refine eZ rfl (oN ?_)
      refine lQ _ ?_ ?_
      · skip
        refine ⟨by omega, by omega, fun he => all_tk hm0 (by omega) (hmw he) ?_⟩
        first
        | (unfold whileOk; rw [if_neg (by omega)]; done)
      · (show Int.toNat _ < Int.toNat _); omega
    simp only [HS] at h10
    refine eZ rfl (gY rfl (evE ?_))
    refine gY rfl (eZ rfl (gY rfl (eZ rfl (gY rfl (evE ?_)))))
    refine kZ [1,8,11,12,94,95,96,97,98,99,100,101,102,103,104,105,106,107,108,109] rfl (gY rfl (eK 2 rfl (oN (tN ?_))))
    refine W_cond rfl (fun h11 => ?_) (fun h11 => ?_)
    ·
      simp only [HS] at h11
      refine sQ (W_regionDZm 7 9 mixed rfl rfl rfl rfl rfl rfl rfl (lt_of rfl) (by kernel_rfl) (by kernel_rfl) (by kernel_rfl) (by kernel_rfl) (by kernel_rfl) (evQ ?_))
      refine evQ ?_
      refine evQ ?_
      refine evQ ?_
      refine QL_norm rfl (QL_idxT tys rfl rfl (lt_of rfl) rfl rfl rfl rfl rfl rfl rfl (by omega) _ (getT _ _ (by omega) (by omega)) (evQ ?_))
      refine evQ ?_
      refine QL_nil (WO_le (Le.freeze (u := 112) rfl) ?_)
      skip
      refine nZ rfl (WO_callO (u := 119) (az := [.tmp 112, .tmp 118]) rfl rfl (lt_of rfl) rfl rfl rfl rfl (.inr ⟨rfl, _, rfl⟩) (orderOf_fun' f hf hd hbt (stmt_ok hf _).1 hot) (WO_le (Le.adoptE (u := 119) 119 rfl (by first | exact lenN | exact rfl)) ?_))
      refine nZ rfl (evE ?_)
      refine oN (nQ_n (tN (W_block ?_)))
      refine lK (α := Int) [1, 8, 94, 95, 96, 119, 120] [1, 81, 119] (fun x => [(121, .t (.int x))]) (fun x => []) (fun x => 0 ≤ x ∧ x ≤ (ordF f (f.stmts[m.toNat]'(by omega)).thn).length ∧ ((ordF f (f.stmts[m.toNat]'(by omega)).thn).take x.toNat).all (fun n => decide (¬ kindAt f n = 3)) = true) (fun x => Int.toNat ((ordF f (f.stmts[m.toNat]'(by omega)).thn).length - x)) 0 ?_ (fun r hx => ?_)
      · exact ⟨by omega, by omega, by simp⟩
      obtain ⟨hr0, hr1, hrw⟩ := hx
      refine nY rfl (sQ (rG (eZ rfl (oN (tN (sQ ?_))))))
      refine W_cond rfl (fun h12 => ?_) (fun h12 => ?_)
      ·
        simp only [HS] at h12
        refine W_skip (tN (sQ (W_block (sQ (rG (WO_idxS tys rfl rfl (lt_of rfl) rfl rfl rfl rfl rfl rfl rfl rfl (by omega) (by omega) (WO_loadL tys rfl rfl (lt_of rfl) rfl rfl rfl rfl (getT0 _ _ (by omega) (by omega)) rfl ?_)))))))
        have hn := ord_range hd hbt _ (List.getElem_mem (l := ordF f (f.stmts[m.toNat]'(by omega)).thn) (n := r.toNat) (by omega))
        refine eZ rfl (oN (tN (sQ (rG (eK 3 rfl (WO_idxT tys rfl rfl (lt_of rfl) rfl rfl rfl rfl rfl rfl rfl (by omega) _ (getT _ _ (by omega) (by omega)) (eZ rfl (kZ [1,8,14,94,95,96,119,120,121,122,123,124,125,126,127,128,129] rfl (eK 2 rfl (oN (tN ?_)))))))))))
        refine W_cond rfl (fun h13 => ?_) (fun h13 => ?_)
        ·
          simp only [HS] at h13
          refine sQ (rG (eZ rfl (oN (tN (rT (bR (tR (loopQ_r (bR (bR (tR (loopQ_r (bR (tR (eR ?_)))))))))))))))
          · first
            | (have e : noDef f (f.stmts[m.toNat]'(by omega)).thn = false := (by unfold noDef; exact all_no hr0 (by omega) (by rw [kindAt_at (by omega)]; simp; omega))
               refine retB ?_; rw [shapeF, while_no hm0 (by omega) (by omega) e]; simp; done)
        simp only [HS] at h13
        refine W_skip (bN (tN (rG (evI ?_))))
        refine eZ rfl (oN ?_)
        refine lQ _ ?_ ?_
        · skip
          exact ⟨by omega, by omega, all_tk hr0 (by omega) hrw (by rw [kindAt_at (by omega)]; simp; assumption)⟩
        · (show Int.toNat _ < Int.toNat _); omega
      simp only [HS] at h12
      refine W_exit (tE (loopQ_e (inBlk_y (bN (tN (rG (evI ?_)))))))
      refine eZ rfl (oN ?_)
      refine lQ _ ?_ ?_
      · skip
        refine ⟨by omega, by omega, fun he => all_tk hm0 (by omega) (hmw he) ?_⟩
        first
        | (unfold whileOk; rw [if_pos (by assumption)]; exact all_fl (by omega) hrw)
      · (show Int.toNat _ < Int.toNat _); omega
    simp only [HS] at h11
    refine W_skip (bN (tN (rG (evI ?_))))
    refine eZ rfl (oN ?_)
    refine lQ _ ?_ ?_
    · skip
      refine ⟨by omega, by omega, fun he => all_tk hm0 (by omega) (hmw he) ?_⟩
      first
      | (unfold whileOk; rw [if_neg (by omega)]; done)
    · (show Int.toNat _ < Int.toNat _); omega
  simp only [HS] at h9
  refine W_exit (tE (loopQ_e (inBlk_y (tN (sQ (rG (eZ rfl (evE ?_))))))))
  refine eK 2 rfl (evE ?_)
  refine eK 2 rfl (oN (tN (rT (eR ?_))))
  · first
    | (refine retB ?_
       rw [shapeF, hnum, hsite]
       by_cases hle : ((ordF f f.body).length : Int) = f.stmts.length
       · rw [ord_yes hd hb hle (fun q h => hj q h (by omega)), whileB, all_fl (by omega) (hmw hle)]; simp [hle]
       · have : shapeB f.stmts f.body = false := by
           rw [Bool.eq_false_iff]; exact fun h => hle (shape_len h)
         rw [this]; simp [hle])

end Go.Proofs.YtimpganophnehaaGreat
