/- Walks of what good expressions are. -/
import Derived.Test.YtimpganophnehaaGreatFp
import Derived.Test.YtimpganophnehaaGreatMc
set_option linter.unusedVariables false
set_option linter.unusedSimpArgs false
set_option maxRecDepth 10000
set_option maxHeartbeats 1000000
namespace Go.Proofs.YtimpganophnehaaGreat
open Go.Eng

theorem retB {b b' : Bool} (h : b = b') : [D.t (T.v (Value.bool b))] = [D.t (T.bool b')] := by rw [h]
theorem retI {b b' : Int} (h : b = b') : [D.t (T.v (Value.int .i64 b))] = [D.t (T.int b')] := by rw [h]

def atI (l : List Int) (n : Int) : Int := (l[n.toNat]?).getD 0
theorem atI_at {l : List Int} {n : Int} (h0 : 0 ≤ n) (h1 : n < l.length) : atI l n = l[n.toNat]'(by omega) := by
 unfold atI; rw [List.getElem?_eq_getElem (by omega)]; rfl
def PsOk (ps : List Int) : Prop := ps.length ≤ 5 ∧ ∀ x, x ∈ ps → 0 ≤ x ∧ x ≤ 2
def paramsB (ps : List Int) : Bool := decide ((ps.length : Int) ≤ 5) && allIn ps 0 2
theorem paramsB_ok {ps : List Int} (h : paramsB ps = true) : PsOk ps := by
 unfold paramsB at h
 rw [Bool.and_eq_true] at h
 refine ⟨by have := h.1; simp at this; omega, fun x hx => ?_⟩
 have := h.2
 unfold allIn at this
 rw [List.all_eq_true] at this
 simpa using this x hx
theorem atI_bnd {ps : List Int} (h : PsOk ps) (n : Int) : 0 ≤ atI ps n ∧ atI ps n ≤ 2 := by
 unfold atI
 cases hx : ps[n.toNat]? with
 | none => simp
 | some x => simpa using h.2 x (List.mem_of_getElem? hx)

def knownT (vars m : Int) (t : Tok) : Bool :=
 if t.op = 1 then decide (-2147483648 ≤ t.n ∧ t.n ≤ 2147483647) else if t.op = 2 then decide (0 ≤ t.n ∧ t.n < vars) else if t.op = 11 then decide (0 ≤ t.n ∧ t.n < m) else decide (3 ≤ t.op ∧ t.op ≤ 10) && decide (t.n = 0)
def needsT (ps : List Int) (t : Tok) : Int := if 3 ≤ t.op ∧ t.op ≤ 8 then 2 else if t.op = 11 then atI ps t.n else 0
theorem needsT_bnd {ps : List Int} (h : PsOk ps) (t : Tok) : 0 ≤ needsT ps t ∧ needsT ps t ≤ 2 := by
 have := atI_bnd h t.n
 unfold needsT; split <;> (try split) <;> omega

theorem l2Bound_fun (n : Int) : Fun Tryz.prog 66 [.t (.int n)] (tupD [.t (.bool (decide (-2147483648 ≤ n ∧ n ≤ 2147483647)))]) := by
 refine Fun.begin tys Tryz.func66 rfl rfl (N := 5) [(0, .t (.int n))] rfl rfl (fun w0 G F0 => ?_)
 refine sQ (rG (eZ rfl (oN (tN (sQ (rG (eZ rfl (callB ?_))))))))
 refine ⟨_, l1In_fun _ _ _, rfl, ?_⟩
 refine eZ rfl (oN (tN (rT (eR ?_))))
 ·rfl

def tokB (t : Tok) : Bool := if t.op = 1 then decide (-2147483648 ≤ t.n ∧ t.n ≤ 2147483647) else if t.op = 2 ∨ t.op = 11 then decide (0 ≤ t.n ∧ t.n ≤ 99) else decide (3 ≤ t.op ∧ t.op ≤ 10) && decide (t.n = 0)

theorem l2Token_fun (t : Tok) : Fun Tryz.prog 263 [.t t.tt] (tupD [.t (.bool (tokB t))]) := by
 refine Fun.begin tys Tryz.func263 rfl rfl (N := 24) [(0, .t t.tt)] rfl rfl (fun w0 G F0 => ?_)
 refine sQ (rG (WO_box rfl rfl (lt_of rfl) rfl rfl (nZ rfl (eZ rfl (oN (tN (sQ (sQ (rG (eK 2 rfl (oN (tN (W_block (sQ (rG ?_)))))))))))))))
 refine eK 2 rfl (oN (tN ?_))
 refine W_cond rfl (fun h1 => ?_) (fun h1 => ?_)
 ·
  simp only [HS] at h1
  refine sQ (rG (eK 2 rfl (callB ?_)))
  refine ⟨_, l2Bound_fun _, rfl, ?_⟩
  refine kZ [1,2,9] rfl (eZ rfl (oN (tN (rT (bR (tR (eR ?_)))))))
  ·exact retB (by grind [tokB])
 simp only [HS] at h1
 refine sQ (sQ (rG (eK 2 rfl (oN (tN ?_)))))
 refine W_cond rfl (fun h2 => ?_) (fun h2 => ?_)
 ·
  simp only [HS] at h2
  refine W_skip (tN ?_)
  refine W_cond rfl (fun h3 => ?_) (fun h3 => ?_)
  ·
   simp only [HS] at h3
   refine sQ (kY [1,2] rfl (rG (eK 2 rfl (callB ?_))))
   refine ⟨_, l1In_fun _ _ _, rfl, ?_⟩
   refine eZ rfl (oN (tN (rT (bR (tR (eR ?_))))))
   ·exact retB (by grind [tokB])
  simp only [HS] at h3
  refine W_skip (bN (tN (sQ (kY [1,2] rfl (rG (eK 2 rfl (callB ?_)))))))
  refine ⟨_, l1In_fun _ _ _, rfl, ?_⟩
  refine eZ rfl ?_
  refine WO_guard rfl rfl rfl rfl (lt_of rfl) (fun h4 => ?_) (fun h4 => ?_)
  rotate_left
  ·
   simp only [HS] at h4
   refine gN rfl rfl (gN rfl rfl (eK 2 rfl (oN (tN (rT (eR ?_))))))
   ·exact retB (by grind [tokB])
  simp only [HS] at h4
  refine eZ rfl (gY rfl (eZ rfl (gY rfl (eK 3 rfl (kZ [2] rfl (oN (tN (rT (eR ?_)))))))))
  ·exact retB (by grind [tokB])
 simp only [HS] at h2
 refine kY [1,2,4,10] rfl (rG (eK 2 rfl (oN (tN ?_))))
 refine W_cond rfl (fun h3 => ?_) (fun h3 => ?_)
 ·
  simp only [HS] at h3
  refine sQ (rG (eK 2 rfl (callB ?_)))
  refine ⟨_, l1In_fun _ _ _, rfl, ?_⟩
  refine eZ rfl (oN (tN (rT (bR (tR (eR ?_))))))
  ·exact retB (by grind [tokB])
 simp only [HS] at h3
 refine W_skip (bN (tN (sQ (rG (eK 2 rfl (callB ?_))))))
 refine ⟨_, l1In_fun _ _ _, rfl, ?_⟩
 refine eZ rfl ?_
 refine WO_guard rfl rfl rfl rfl (lt_of rfl) (fun h4 => ?_) (fun h4 => ?_)
 rotate_left
 ·
  simp only [HS] at h4
  refine gN rfl rfl (gN rfl rfl (eZ rfl (kZ [2,23] rfl (eZ rfl (oN (tN (rT (eR ?_))))))))
  ·exact retB (by grind [tokB])
 simp only [HS] at h4
 refine eZ rfl (gY rfl (eZ rfl (gY rfl (eZ rfl (kZ [2,19,22] rfl (eK 2 rfl (oN (tN (rT (eR ?_))))))))))
 ·exact retB (by grind [tokB])

theorem l2Known_fun (t : Tok) (vars : Int) (ps : List Int) (hv : vars ≤ 100) (hp : ps.length ≤ 100) : Fun Tryz.prog 252 [.t t.tt, .t (.int vars), .t (T.ints ps)] (tupD [.t (.bool (knownT vars ps.length t))]) := by
 refine Fun.begin tys Tryz.func252 rfl rfl (N := 32) [(0, .t t.tt), (1, .t (.int vars)), (2, .t (T.ints ps))] rfl rfl (fun w0 G F0 => ?_)
 refine sQ (rG (WO_box rfl rfl (lt_of rfl) rfl rfl (nZ rfl (eZ rfl (oN (tN (sQ (rG (eZ rfl ?_)))))))))
 try refine WO_le (Le.freeze (u := 7) rfl) ?_
 refine nZ rfl (callB ?_)
 refine ⟨_, l2Token_fun _, rfl, ?_⟩
 refine eZ rfl ?_
 refine WO_guard rfl rfl rfl rfl (lt_of rfl) (fun h1 => ?_) (fun h1 => ?_)
 rotate_left
 ·
  simp only [HS] at h1
  refine gN rfl rfl (gN rfl rfl (gN rfl rfl (gN rfl rfl (kZ [1,2,3,6,9,13,14] rfl (gN rfl rfl (gN rfl rfl (gN rfl rfl (gN rfl rfl (eK 2 rfl (gN rfl rfl (gN rfl rfl (gN rfl rfl (kZ [2,3,6,20,23] rfl (gN rfl rfl (gN rfl rfl ?_)))))))))))))))
  refine gN rfl rfl (gN rfl rfl (gN rfl rfl (gN rfl rfl (gN rfl rfl (eK 2 rfl (kZ [6] rfl (oN (tN (rT (eR ?_))))))))))
  ·exact retB (by grind [tokB, knownT])
 refine eZ rfl (gY rfl (eZ rfl (gY rfl (eZ rfl (gY rfl (eZ rfl (kZ [1,2,3,6,9,13] rfl ?_)))))))
 refine WO_guard rfl rfl rfl rfl (lt_of rfl) (fun h2 => ?_) (fun h2 => ?_)
 rotate_left
 ·
  simp only [HS] at h2
  refine gN rfl rfl (gN rfl rfl (gN rfl rfl (gY rfl (eK 3 rfl (gY rfl (eZ rfl (gY rfl (eZ rfl (gY rfl (eZ rfl (kZ [2,3,6,20,23] rfl (gY rfl (eZ rfl ?_)))))))))))))
  refine WO_guard rfl rfl rfl rfl (lt_of rfl) (fun h3 => ?_) (fun h3 => ?_)
  rotate_left
  ·
   simp only [HS] at h3
   refine gN rfl rfl (gN rfl rfl (gN rfl rfl (gN rfl rfl (gY rfl (eK 3 rfl (oN (tN (rT (eR ?_)))))))))
   ·exact retB (by grind [tokB, knownT])
  simp only [HS] at h3
  refine eZ rfl (gY rfl (eZ rfl (gY rfl (eZ rfl (gY rfl (evE ?_))))))
  refine gY rfl (eZ rfl (gY rfl (eK 3 rfl (kZ [6] rfl (oN (tN (rT (eR ?_))))))))
  ·exact retB (by grind [tokB, knownT])
 simp only [HS] at h2
 refine eZ rfl (gY rfl (eZ rfl (gY rfl (eZ rfl (gY rfl (eZ rfl (gY rfl (eK 3 rfl ?_))))))))
 refine WO_guard rfl rfl rfl rfl (lt_of rfl) (fun h3 => ?_) (fun h3 => ?_)
 rotate_left
 ·
  simp only [HS] at h3
  refine gN rfl rfl (gN rfl rfl (kZ [2,3,6,20,23] rfl (gN rfl rfl (gN rfl rfl (gN rfl rfl (gN rfl rfl (gN rfl rfl (gN rfl rfl (gN rfl rfl (eK 2 rfl (kZ [6] rfl (oN (tN (rT (eR ?_)))))))))))))))
  ·exact retB (by grind [tokB, knownT])
 simp only [HS] at h3
 refine eZ rfl (gY rfl (eZ rfl (kZ [2,3,6,20,22] rfl (gY rfl (eZ rfl (gY rfl (eZ rfl ?_)))))))
 refine WO_guard rfl rfl rfl rfl (lt_of rfl) (fun h4 => ?_) (fun h4 => ?_)
 rotate_left
 ·
  simp only [HS] at h4
  refine gN rfl rfl (gN rfl rfl (gN rfl rfl (gN rfl rfl (gY rfl (eK 3 rfl (kZ [6] rfl (oN (tN (rT (eR ?_))))))))))
  ·exact retB (by grind [tokB, knownT])
 simp only [HS] at h4
 refine eZ rfl (gY rfl (eZ rfl (gY rfl (eZ rfl (gY rfl (evE ?_))))))
 refine gY rfl (eZ rfl (gY rfl (eK 2 rfl (kZ [6,31] rfl (eZ rfl (oN (tN (rT (eR ?_)))))))))
 ·exact retB (by grind [tokB, knownT])

theorem l2Needs_fun (t : Tok) (ps : List Int) (ht : t.op = 11 → 0 ≤ t.n ∧ t.n < ps.length) : Fun Tryz.prog 253 [.t t.tt, .t (T.ints ps)] (tupD [.t (.int (needsT ps t))]) := by
 refine Fun.begin tys Tryz.func253 rfl rfl (N := 18) [(0, .t t.tt), (1, .t (T.ints ps))] rfl rfl (fun w0 G F0 => ?_)
 refine sQ (rG (WO_box rfl rfl (lt_of rfl) rfl rfl (nZ rfl (eZ rfl (oN (tN (sQ (W_block (sQ (rG (eK 2 rfl (callB ?_))))))))))))
 refine ⟨_, l1In_fun _ _ _, rfl, ?_⟩
 refine eZ rfl (oN (tN ?_))
 refine W_cond rfl (fun h1 => ?_) (fun h1 => ?_)
 ·
  simp only [HS] at h1
  refine sQ (rG (eZ rfl (oN (tN (rT (bR (tR (eR ?_))))))))
  ·exact retI (by grind [needsT, atI_at])
 simp only [HS] at h1
 refine sQ (rG (eK 3 rfl (kZ [1,2,4,12] rfl (eZ rfl (oN (tN ?_))))))
 refine W_cond rfl (fun h2 => ?_) (fun h2 => ?_)
 ·
  simp only [HS] at h2
  refine sQ (rG (eK 3 rfl (WO_idxT tys rfl rfl (lt_of rfl) rfl rfl rfl rfl rfl rfl rfl (by omega) _ (getT _ _ (by omega) (by omega)) (eK 2 rfl (oN (tN (rT (bR (tR (eR ?_))))))))))
  ·exact retI (by grind [needsT, atI_at])
 simp only [HS] at h2
 refine W_skip (bN (tN (sQ (rG (eZ rfl (oN (tN (rT (eR ?_)))))))))
 ·exact retI (by grind [needsT, atI_at])

theorem l1Most_fun (a b : Int) : Fun Tryz.prog 254 [.t (.int a), .t (.int b)] (tupD [.t (.int (max a b))]) := by
 refine Fun.begin tys Tryz.func254 rfl rfl (N := 10) [(0, .t (.int a)), (1, .t (.int b))] rfl rfl (fun w0 G F0 => ?_)
 refine sQ (rG (eZ rfl (oN (tN (sQ (sQ (rG (eK 3 rfl (oN (tN ?_))))))))))
 refine W_cond rfl (fun h1 => ?_) (fun h1 => ?_)
 ·
  simp only [HS] at h1
  refine sQ (rG (eK 2 rfl (oN (tN (rT (tR (eR ?_)))))))
  ·exact retI (by grind)
 simp only [HS] at h1
 refine W_skip (tN (sQ (rG (eK 2 rfl (oN (tN (rT (eR ?_))))))))
 ·exact retI (by grind)

def runE (vars : Int) (ps : List Int) : List Tok → Int → Int → Option (Int × Int)
 | [], h, m => some (h, m)
 | t :: l, h, m => if knownT vars ps.length t && decide (needsT ps t ≤ h) then runE vars ps l (h + (1 - needsT ps t)) (max m (h + (1 - needsT ps t))) else none
theorem runE_at {vars : Int} {ps : List Int} {l : List Tok} {h m k : Int} (h0 : 0 ≤ k) (h1 : k < l.length) : runE vars ps (l.drop k.toNat) h m = if knownT vars ps.length (l[k.toNat]'(by omega)) && decide (needsT ps (l[k.toNat]'(by omega)) ≤ h) then runE vars ps (l.drop (k + 1).toNat) (h + (1 - needsT ps (l[k.toNat]'(by omega)))) (max m (h + (1 - needsT ps (l[k.toNat]'(by omega))))) else none := by
 rw [drop_at h0 h1, runE]
def highS (vars : Int) (ps : List Int) (l : List Tok) : Int := match runE vars ps l 0 0 with
 | some (h, m) => if h = 1 ∧ (l.length : Int) ≤ 12 then m else -1
 | none => -1
def highI (vars : Int) (ps : List Int) (l : List Tok) : Int := if (1 : Int) ≤ l.length ∧ (l.length : Int) ≤ 12 then (match runE vars ps l 0 0 with
 | some (h, m) => if h = 1 then m else 0
 | none => 0) else 0
theorem known_op {vars m : Int} {t : Tok} (h : knownT vars m t = true) : t.op = 11 → 0 ≤ t.n ∧ t.n < m := by
 intro ho; unfold knownT at h; simp [ho] at h; omega

theorem l2High_fun (l : List Tok) (vars : Int) (ps : List Int) (hv : vars ≤ 100) (hp : PsOk ps) (hl : l.length ≤ 1048576) : Fun Tryz.prog 238 [.t (T.Toks l), .t (.int vars), .t (T.ints ps)] (tupD [.t (.int (highS vars ps l))]) := by
 have hp1 := hp.1
 refine Fun.begin tys Tryz.func238 rfl rfl (N := 47) [(0, .t (T.Toks l)), (1, .t (.int vars)), (2, .t (T.ints ps))] rfl rfl (fun w0 G F0 => ?_)
 refine sQ (rG (eZ rfl (oN (tN (sQ (rG (eK 2 rfl (oN (tN (sQ (sQ (rG (eZ rfl (evE ?_))))))))))))))
 refine eZ rfl (oN (tN (W_block ?_)))
 refine lK (α := Int × Int × Int) [0, 1, 2, 11, 12] [] (fun x => [(13, .t (.int (x.1))), (7, .t (.int (x.2.1))), (8, .t (.int (x.2.2)))]) (fun x => []) (fun x => 0 ≤ (x.1) ∧ (x.1) ≤ l.length ∧ 0 ≤ (x.2.1) ∧ (x.2.1) ≤ (x.1) ∧ runE vars ps l 0 0 = runE vars ps (l.drop (x.1).toNat) (x.2.1) (x.2.2)) (fun x => Int.toNat (l.length - (x.1))) (0, 0, 0) ?_ (fun x hx => ?_)
 ·exact ⟨by omega, by omega, Int.le_refl 0, Int.le_refl 0, rfl⟩
 obtain ⟨k, h, m⟩ := x
 obtain ⟨hk0, hk1, hh0, hh1, he⟩ := hx
 dsimp only at hk0 hk1 hh0 hh1 he ⊢
 refine nY rfl (sQ (rG (eZ rfl (oN (tN (sQ ?_))))))
 refine W_cond rfl (fun h1 => ?_) (fun h1 => ?_)
 ·
  simp only [HS] at h1
  refine W_skip (tN (sQ (W_block (sQ (rG (WO_idxT tys rfl rfl (lt_of rfl) rfl rfl rfl rfl rfl rfl rfl (by omega) _ (getT _ _ (by omega) (by omega)) (eZ rfl ?_)))))))
  try refine WO_le (Le.freeze (u := 16) rfl) ?_
  refine nZ rfl (WO_alloc tys rfl rfl (lt_of rfl) rfl rfl rfl (nZ rfl (sT rfl (nZ rfl (oN (tN (sQ (sQ (rG (eZ rfl ?_))))))))))
  try refine WO_le (Le.freeze (u := 17) rfl) ?_
  refine nZ rfl (eK 2 rfl (callB ?_))
  refine ⟨_, l2Known_fun _ _ _ hv (by omega), rfl, ?_⟩
  refine kZ [0,1,2,7,8,10,11,12,13,14,15,16,17,18,19,20] rfl (eK 2 rfl ?_)
  refine WO_guard rfl rfl rfl rfl (lt_of rfl) (fun h2 => ?_) (fun h2 => ?_)
  rotate_left
  ·
   simp only [HS] at h2
   refine gN rfl rfl (gN rfl rfl (gN rfl rfl (gN rfl rfl (eZ rfl (oN (tN (W_condT rfl (sQ (kY [0,1,2,7,8,10,11,12,13,14,15,16,17,18,19,20,21,22,23,24,25,26,27,28] rfl (rG (eZ rfl (oN (tN (rT (tR ?_)))))))))))))))
   refine bR (tR (loopQ_r (bR (tR (eR ?_)))))
   ·exact retI (by rw [highS, he, runE_at hk0 h1, if_neg (by simp [*]; done)])
  simp only [HS] at h2
  refine eZ rfl (gY rfl (eZ rfl ?_))
  try refine WO_le (Le.freeze (u := 24) rfl) ?_
  refine nZ rfl (gY rfl (eZ rfl (gY rfl (callB ?_))))
  refine ⟨_, l2Needs_fun _ _ (known_op h2), rfl, ?_⟩
  refine gY rfl (eK 2 rfl (oN (tN ?_)))
  refine W_cond rfl (fun h3 => ?_) (fun h3 => ?_)
  ·
   simp only [HS] at h3
   refine sQ (kY [0,1,2,7,8,10,11,12,13,14,15,16,17,18,19,20,21,22,23,24,25,26,27,28] rfl (rG (eZ rfl (oN (tN (rT (tR (bR (tR (loopQ_r (bR (tR (eR ?_)))))))))))))
   ·exact retI (by rw [highS, he, runE_at hk0 h1, if_neg (by simp [*]; done)])
  simp only [HS] at h3
  refine W_skip (tN (sQ (kY [0,1,2,7,8,10,11,12,13,14,15,16,17,18,19,20,21,22,23,24,25,26,27,28] rfl (rG (eK 2 rfl ?_)))))
  try refine WO_le (Le.freeze (u := 30) rfl) ?_
  refine nZ rfl (eZ rfl (callB ?_))
  refine ⟨_, l2Needs_fun _ _ (known_op h2), rfl, ?_⟩
  have q := needsT_bnd hp (l[k.toNat]'(by omega))
  refine evI ?_
  refine evI ?_
  refine eZ rfl (oN (tN (kY [0,1,2,7,8,10,11,12,13,14,15,16,17,18,19,20,21,22,23,24,25,26,27,28,29,30,31,32,33,34] rfl (rG (eK 2 rfl (callB ?_))))))
  refine ⟨_, l1Most_fun _ _, rfl, ?_⟩
  refine eZ rfl (oN (bN (tN (rG (evI ?_)))))
  refine eZ rfl (oN ?_)
  refine lQ (_, _, _) ?_ ?_
  ·dsimp only
   have q := needsT_bnd hp (l[k.toNat]'(by omega)); exact ⟨by omega, by omega, by omega, by omega, by rw [he, runE_at hk0 h1, if_pos (by simp [h2]; omega)]⟩
  ·(show Int.toNat _ < Int.toNat _); omega
 simp only [HS] at h1
 refine W_exit (tE (loopQ_e (inBlk_y (tN (sQ (sQ (rG (eK 3 rfl ?_))))))))
 refine WO_guard rfl rfl rfl rfl (lt_of rfl) (fun h2 => ?_) (fun h2 => ?_)
 rotate_left
 ·
  simp only [HS] at h2
  refine gN rfl rfl (gN rfl rfl (eZ rfl (oN (tN (W_condT rfl (sQ (kY [8] rfl (rG (eZ rfl (oN (tN (rT (tR (eR ?_))))))))))))))
  ·exact retI (by rw [highS, he, drop_end h1]; simp only [runE]; grind)
 simp only [HS] at h2
 refine eZ rfl (gY rfl (evE ?_))
 refine gY rfl (eK 2 rfl (oN (tN ?_)))
 refine W_cond rfl (fun h3 => ?_) (fun h3 => ?_)
 ·
  simp only [HS] at h3
  refine sQ (kY [8] rfl (rG (eZ rfl (oN (tN (rT (tR (eR ?_))))))))
  ·exact retI (by rw [highS, he, drop_end h1]; simp only [runE]; grind)
 simp only [HS] at h3
 refine W_skip (tN (sQ (kY [8] rfl (rG (eK 2 rfl (oN (tN (rT (eR ?_)))))))))
 ·exact retI (by rw [highS, he, drop_end h1]; simp only [runE]; grind)

def goodE (vars : Int) (ps : List Int) (l : List Tok) : Bool := match runE vars ps l 0 0 with
 | some (h, m) => decide (h = 1) && decide ((l.length : Int) ≤ 12)
 | none => false
theorem runE_high {vars : Int} {ps : List Int} : ∀ {l : List Tok} {h m h' m' : Int}, runE vars ps l h m = some (h', m') → (l = [] ∧ h' = h) ∨ h' ≤ m'
 | [], h, m, h', m', e => by rw [runE] at e; cases e; exact .inl ⟨rfl, rfl⟩
 | t :: l, h, m, h', m', e => by
  rw [runE] at e
  split at e
  ·have := runE_high e
   rcases this with ⟨rfl, rfl⟩ | h
   ·rw [runE] at e
    cases e
    exact .inr (by omega)
   ·exact .inr h
  ·cases e
theorem highS_pos (vars : Int) (ps : List Int) (l : List Tok) : (0 < highS vars ps l) = (goodE vars ps l = true) := by
 unfold highS goodE
 cases hr : runE vars ps l 0 0 with
 | none => simp
 | some x =>
  obtain ⟨h, m⟩ := x
  have := runE_high hr
  dsimp only
  split
  ·rename_i h1
   simp [h1]
   rcases this with ⟨_, h2⟩ | h2 <;> omega
  ·rename_i h1
   simp
   omega
theorem highI_pos (vars : Int) (ps : List Int) (l : List Tok) : (0 < highI vars ps l) = (goodE vars ps l = true) := by
 unfold highI goodE
 cases hr : runE vars ps l 0 0 with
 | none => simp
 | some x =>
  obtain ⟨h, m⟩ := x
  have := runE_high hr
  dsimp only
  by_cases hl : l = []
  ·subst hl
   rw [runE] at hr
   cases hr
   simp
  ·have h0 : 0 < l.length := List.length_pos_iff.2 hl
   simp only [Bool.and_eq_true, decide_eq_true_eq]
   have h2 := this.resolve_left fun h => hl h.1
   split
   ·split <;> simp <;> omega
   ·simp; omega

theorem l2Params_fun (ps : List Int) (hp : ps.length ≤ 1048576) : Fun Tryz.prog 151 [.t (T.ints ps)] (tupD [.t (.bool (paramsB ps))]) := by
 refine Fun.begin tys Tryz.func151 rfl rfl (N := 10) [(0, .t (T.ints ps))] rfl rfl (fun w0 G F0 => ?_)
 refine sQ (rG (eZ rfl (oN (tN (sQ (rG (eZ rfl (evE ?_))))))))
 refine eK 2 rfl ?_
 refine WO_guard rfl rfl rfl rfl (lt_of rfl) (fun h1 => ?_) (fun h1 => ?_)
 rotate_left
 ·
  simp only [HS] at h1
  refine gN rfl rfl (eK 2 rfl (oN (tN (rT (eR ?_)))))
  ·exact retB (by grind [paramsB])
 simp only [HS] at h1
 refine eZ rfl (gY rfl (callB ?_))
 refine ⟨_, l1All_fun _ _ _ (by omega), rfl, ?_⟩
 refine eK 2 rfl (kZ [2] rfl (oN (tN (rT (eR ?_)))))
 ·exact retB (by grind [paramsB])

theorem goodExpr_fun (l : List Tok) (vars : Int) (ps : List Int) (hv : 0 ≤ vars ∧ vars ≤ 6) (hp : PsOk ps) (hpb : paramsB ps = true) (hl : l.length ≤ 1048576) : Fun Tryz.prog 225 [.t (T.Toks l), .t (.int vars), .t (T.ints ps)] (tupD [.t (.bool (goodE vars ps l))]) := by
 have hp1 := hp.1
 refine Fun.begin tys Tryz.func225 rfl rfl (N := 20) [(0, .t (T.Toks l)), (1, .t (.int vars)), (2, .t (T.ints ps))] rfl rfl (fun w0 G F0 => ?_)
 refine sQ (rG (eZ rfl (oN (tN (sQ (rG (eZ rfl (callB ?_))))))))
 refine ⟨_, l1In_fun _ _ _, rfl, ?_⟩
 refine WO_le (Le.known (t := 8) true rfl (by simp; omega)) ?_
 refine eZ rfl (gY rfl (eZ rfl (gY rfl (callB ?_))))
 refine ⟨_, l2Params_fun _ (by omega), rfl, ?_⟩
 refine WO_le (Le.known (t := 11) true rfl (hpb)) (eK 2 rfl (gY rfl (eZ rfl (kZ [1,2,6,13,14] rfl (gY rfl (eZ rfl (gY rfl (eZ rfl (gY rfl (callB ?_))))))))))
 refine ⟨_, l2High_fun _ _ _ (by omega) hp hl, rfl, ?_⟩
 refine gY rfl (eK 3 rfl (oN (tN (rT (eR ?_)))))
 ·exact retB (by rw [Bool.eq_iff_iff, decide_eq_true_iff]; rw [← highS_pos])

theorem i32_small (n : Int) : (n = IntKind.i64.wrap (IntKind.i32.wrap n)) ↔ (-2147483648 ≤ n ∧ n ≤ 2147483647) := by
 have h1 : -2147483648 ≤ IntKind.i32.wrap n ∧ IntKind.i32.wrap n ≤ 2147483647 := by
  unfold IntKind.wrap; simp [IntKind.bits, IntKind.signed]; split <;> omega
 rw [wrap_id (by omega) (by omega)]
 constructor
 ·intro h; omega
 ·intro h; unfold IntKind.wrap; simp [IntKind.bits, IntKind.signed]; split <;> omega

theorem isSmall_fun (n : Int) : Fun Tryz.prog 71 [.t (.int n)] (tupD [.t (.bool (decide (-2147483648 ≤ n ∧ n ≤ 2147483647)))]) := by
 refine Fun.begin tys Tryz.func71 rfl rfl (N := 8) [(0, .t (.int n))] rfl rfl (fun w0 G F0 => ?_)
 refine sQ (rG (eZ rfl (oN (tN (sQ (rG (eK 2 rfl (WO_conv (td := .int .i64) (k := .i32) rfl rfl (lt_of rfl) rfl (by kernel_rfl) (by kernel_rfl) rfl (WO_conv (td := .int .i32) (k := .i64) rfl rfl (lt_of rfl) rfl (by kernel_rfl) (by kernel_rfl) rfl (eK 2 rfl (oN (tN (rT (eR ?_))))))))))))))
 ·exact retB (by rw [Bool.eq_iff_iff, decide_eq_true_iff, decide_eq_true_iff, i32_small])

theorem isTok_fun (t : Tok) (vars m : Int) (hv : 0 ≤ vars ∧ vars ≤ 100) (hm : 0 ≤ m ∧ m ≤ 100) : Fun Tryz.prog 228 [.t t.tt, .t (.int vars), .t (.int m)] (tupD [.t (.bool (knownT vars m t))]) := by
 refine Fun.begin tys Tryz.func228 rfl rfl (N := 36) [(0, .t t.tt), (1, .t (.int vars)), (2, .t (.int m))] rfl rfl (fun w0 G F0 => ?_)
 refine sQ (rG (WO_box rfl rfl (lt_of rfl) rfl rfl (nZ rfl (eZ rfl (oN (tN (sQ (sQ (rG (eK 2 rfl (oN (tN (W_block (sQ (rG ?_)))))))))))))))
 refine eK 2 rfl (oN (tN ?_))
 refine W_cond rfl (fun h1 => ?_) (fun h1 => ?_)
 ·
  simp only [HS] at h1
  refine sQ (rG (eK 2 rfl (callB ?_)))
  refine ⟨_, isSmall_fun _, rfl, ?_⟩
  refine kZ [3,6,13] rfl (eZ rfl (oN (tN (rT (bR (tR (eR ?_)))))))
  ·exact retB (by grind [knownT])
 simp only [HS] at h1
 refine sQ (rG (eK 2 rfl (oN (tN ?_))))
 refine W_cond rfl (fun h2 => ?_) (fun h2 => ?_)
 ·
  simp only [HS] at h2
  refine sQ (kY [1,3,6] rfl (rG (eK 3 rfl (evI ?_))))
  refine callB ?_
  refine ⟨_, within_fun _ _ _, rfl, ?_⟩
  refine eZ rfl (oN (tN (rT (bR (tR (eR ?_))))))
  ·exact retB (by grind [knownT])
 simp only [HS] at h2
 refine sQ (kY [2,3,6,8] rfl (rG (eK 2 rfl (oN (tN ?_)))))
 refine W_cond rfl (fun h3 => ?_) (fun h3 => ?_)
 ·
  simp only [HS] at h3
  refine sQ (rG (eK 3 rfl (evI ?_)))
  refine callB ?_
  refine ⟨_, within_fun _ _ _, rfl, ?_⟩
  refine eZ rfl (oN (tN (rT (bR (tR (eR ?_))))))
  ·exact retB (by grind [knownT])
 simp only [HS] at h3
 refine W_skip (bN (tN (sQ (rG (eK 2 rfl (callB ?_))))))
 refine ⟨_, within_fun _ _ _, rfl, ?_⟩
 refine eZ rfl ?_
 refine WO_guard rfl rfl rfl rfl (lt_of rfl) (fun h4 => ?_) (fun h4 => ?_)
 rotate_left
 ·
  simp only [HS] at h4
  refine gN rfl rfl (gN rfl rfl (eZ rfl (kZ [6,35] rfl (eZ rfl (oN (tN (rT (eR ?_))))))))
  ·exact retB (by grind [knownT])
 simp only [HS] at h4
 refine eZ rfl (gY rfl (eZ rfl (gY rfl (eZ rfl (kZ [6,31,34] rfl (eK 2 rfl (oN (tN (rT (eR ?_))))))))))
 ·exact retB (by grind [knownT])

theorem isReckoned_fun (n : Int) : Fun Tryz.prog 232 [.t (.int n)] (tupD [.t (.bool (decide (3 ≤ n ∧ n ≤ 8)))]) := by
 refine Fun.begin tys Tryz.func232 rfl rfl (N := 5) [(0, .t (.int n))] rfl rfl (fun w0 G F0 => ?_)
 refine sQ (rG (eZ rfl (oN (tN (sQ (rG (eZ rfl (callB ?_))))))))
 refine ⟨_, within_fun _ _ _, rfl, ?_⟩
 refine eZ rfl (oN (tN (rT (eR ?_))))
 ·rfl

theorem needs_fun (t : Tok) (ps : List Int) (ht : t.op = 11 → 0 ≤ t.n ∧ t.n < ps.length) : Fun Tryz.prog 229 [.t t.tt, .t (T.ints ps)] (tupD [.t (.int (needsT ps t))]) := by
 refine Fun.begin tys Tryz.func229 rfl rfl (N := 18) [(0, .t t.tt), (1, .t (T.ints ps))] rfl rfl (fun w0 G F0 => ?_)
 refine sQ (rG (WO_box rfl rfl (lt_of rfl) rfl rfl (nZ rfl (eZ rfl (oN (tN (sQ (W_block (sQ (rG (eK 4 rfl (oN (tN ?_)))))))))))))
 refine W_cond rfl (fun h1 => ?_) (fun h1 => ?_)
 ·
  simp only [HS] at h1
  refine sQ (rG (eK 3 rfl (kZ [4,9,11] rfl (WO_idxT tys rfl rfl (lt_of rfl) rfl rfl rfl rfl rfl rfl rfl (by omega) _ (getT _ _ (by omega) (by omega)) (eK 2 rfl (oN (tN (rT (bR (tR (eR ?_)))))))))))
  ·exact retI (by grind [needsT, atI_at])
 simp only [HS] at h1
 refine sQ (rG (eK 2 rfl (callB ?_)))
 refine ⟨_, isReckoned_fun _, rfl, ?_⟩
 refine kZ [4,17] rfl (eZ rfl (oN (tN ?_)))
 refine W_cond rfl (fun h2 => ?_) (fun h2 => ?_)
 ·
  simp only [HS] at h2
  refine sQ (rG (eZ rfl (oN (tN (rT (bR (tR (eR ?_))))))))
  ·exact retI (by grind [needsT, atI_at])
 simp only [HS] at h2
 refine W_skip (bN (tN (sQ (rG (eZ rfl (oN (tN (rT (eR ?_)))))))))
 ·exact retI (by grind [needsT, atI_at])

theorem maxIf (a b : Int) : (if a < b then b else a) = max a b := by split <;> omega

theorem highOf_fun (l : List Tok) (vars : Int) (ps : List Int) (hv : 0 ≤ vars ∧ vars ≤ 100) (hp : PsOk ps) (hl : l.length ≤ 1048576) : Fun Tryz.prog 213 [.t (T.Toks l), .t (.int vars), .t (T.ints ps)] (tupD [.t (.int (highI vars ps l))]) := by
 have hp1 := hp.1
 refine Fun.begin tys Tryz.func213 rfl rfl (N := 47) [(0, .t (T.Toks l)), (1, .t (.int vars)), (2, .t (T.ints ps))] rfl rfl (fun w0 G F0 => ?_)
 refine sQ (rG (eZ rfl (oN (tN (sQ (sQ (rG (eZ rfl (evE ?_)))))))))
 refine callB ?_
 refine ⟨_, within_fun _ _ _, rfl, ?_⟩
 refine eZ rfl (oN (tN ?_))
 refine W_cond rfl (fun h1 => ?_) (fun h1 => ?_)
 ·
  simp only [HS] at h1
  refine sQ (rG (eZ rfl (oN (tN (rT (tR (eR ?_)))))))
  ·(exact retI (by rw [highI, if_neg (by omega)]); done)
 simp only [HS] at h1
 refine W_skip (tN (sQ (rG (eK 2 rfl (oN (tN (sQ (sQ (kY [0,1,2,6,7,8] rfl (rG (eZ rfl (evE ?_))))))))))))
 refine eZ rfl (oN (tN (W_block ?_)))
 refine lK (α := Int × Int × Int) [1, 2, 15, 16] [] (fun x => [(17, .t (.int (x.1))), (8, .t (.int (x.2.1))), (7, .t (.int (x.2.2)))]) (fun x => []) (fun x => 0 ≤ (x.1) ∧ (x.1) ≤ l.length ∧ 0 ≤ (x.2.1) ∧ (x.2.1) ≤ (x.1) ∧ (1 : Int) ≤ l.length ∧ (l.length : Int) ≤ 12 ∧ runE vars ps l 0 0 = runE vars ps (l.drop (x.1).toNat) (x.2.1) (x.2.2)) (fun x => Int.toNat (l.length - (x.1))) (0, 0, 0) ?_ (fun x hx => ?_)
 ·exact ⟨by omega, by omega, Int.le_refl 0, Int.le_refl 0, by omega, by omega, rfl⟩
 obtain ⟨k, h, m⟩ := x
 obtain ⟨hk0, hk1, hh0, hh1, hl0, hl1, he⟩ := hx
 dsimp only at hk0 hk1 hh0 hh1 hl0 hl1 he ⊢
 refine nY rfl (sQ (rG (eZ rfl (oN (tN (sQ ?_))))))
 refine W_cond rfl (fun h2 => ?_) (fun h2 => ?_)
 ·
  simp only [HS] at h2
  refine W_skip (tN (sQ (W_block (sQ (rG (WO_idxT tys rfl rfl (lt_of rfl) rfl rfl rfl rfl rfl rfl rfl (by omega) _ (getT _ _ (by omega) (by omega)) (eZ rfl ?_)))))))
  try refine WO_le (Le.freeze (u := 20) rfl) ?_
  refine nZ rfl (WO_alloc tys rfl rfl (lt_of rfl) rfl rfl rfl (nZ rfl (sT rfl (nZ rfl (oN (tN (sQ (sQ (rG (eZ rfl ?_))))))))))
  try refine WO_le (Le.freeze (u := 21) rfl) ?_
  refine nZ rfl (eK 2 rfl (evE ?_))
  refine kZ [1,2,7,8,10,15,16,17,18,19,20,21,22,23,24] rfl (callB ?_)
  refine ⟨_, isTok_fun _ _ _ hv (by omega), rfl, ?_⟩
  refine eK 2 rfl ?_
  refine WO_guard rfl rfl rfl rfl (lt_of rfl) (fun h3 => ?_) (fun h3 => ?_)
  rotate_left
  ·
   simp only [HS] at h3
   refine gN rfl rfl (gN rfl rfl (gN rfl rfl (gN rfl rfl (eZ rfl (oN (tN (W_condT rfl (sQ (kY [1,2,7,8,10,15,16,17,18,19,20,21,22,23,24,25,26,27,28,29,30,31,32,33] rfl (rG (eZ rfl (oN (tN (rT (tR ?_)))))))))))))))
   refine bR (tR (loopQ_r (bR (tR (eR ?_)))))
   ·exact retI (by rw [highI, if_pos ⟨hl0, hl1⟩, he, runE_at hk0 h2, if_neg (by simp [*]; done)])
  simp only [HS] at h3
  refine eZ rfl ?_
  try refine WO_le (Le.freeze (u := 28) rfl) ?_
  refine nZ rfl (gY rfl (eZ rfl (gY rfl (callB ?_))))
  refine ⟨_, needs_fun _ _ (known_op h3), rfl, ?_⟩
  refine gY rfl (eZ rfl (gY rfl (eK 2 rfl (kZ [1,2,7,8,10,15,16,17,18,19,20,21,22,23,24,25,26,27,28,29,30,31,32,33] rfl (oN (tN ?_))))))
  refine W_cond rfl (fun h4 => ?_) (fun h4 => ?_)
  ·
   simp only [HS] at h4
   refine sQ (rG (eZ rfl (oN (tN (rT (tR (bR (tR (loopQ_r (bR (tR (eR ?_))))))))))))
   ·exact retI (by rw [highI, if_pos ⟨hl0, hl1⟩, he, runE_at hk0 h2, if_neg (by simp [*]; done)])
  simp only [HS] at h4
  refine W_skip (tN (sQ (rG (eK 2 rfl ?_))))
  try refine WO_le (Le.freeze (u := 35) rfl) ?_
  refine nZ rfl (eZ rfl (callB ?_))
  refine ⟨_, needs_fun _ _ (known_op h3), rfl, ?_⟩
  have q := needsT_bnd hp (l[k.toNat]'(by omega))
  refine evI ?_
  refine evI ?_
  refine eZ rfl (oN (tN (kY [1,2,7,8,10,15,16,17,18,19,20,21,22,23,24,25,26,27,28,29,30,31,32,33,34,35,36,37,38,39] rfl (rG (eK 4 rfl (oN (bN (tN (rG (evI ?_))))))))))
  refine eZ rfl (oN ?_)
  refine lQ (_, _, _) ?_ ?_
  ·dsimp only
   have q := needsT_bnd hp (l[k.toNat]'(by omega)); exact ⟨by omega, by omega, by omega, by omega, hl0, hl1, by rw [he, runE_at hk0 h2, if_pos (by simp [h3]; omega), maxIf]⟩
  ·(show Int.toNat _ < Int.toNat _); omega
 simp only [HS] at h2
 refine W_exit (tE (loopQ_e (inBlk_y (tN (sQ (sQ (rG (eK 2 rfl (oN (tN ?_))))))))))
 refine W_cond rfl (fun h3 => ?_) (fun h3 => ?_)
 ·
  simp only [HS] at h3
  refine sQ (rG (eZ rfl (oN (tN (rT (tR (eR ?_)))))))
  ·exact retI (by rw [highI, if_pos ⟨hl0, hl1⟩, he, drop_end h2]; simp only [runE]; grind)
 simp only [HS] at h3
 refine W_skip (tN (sQ (rG (eK 2 rfl (oN (tN (rT (eR ?_))))))))
 ·exact retI (by rw [highI, if_pos ⟨hl0, hl1⟩, he, drop_end h2]; simp only [runE]; grind)

end Go.Proofs.YtimpganophnehaaGreat
