/- Walks of IsLeastProg: the first statement without which a program ends so. -/
import Derived.Test.YtimpganophnehaaGreatJa
import Derived.Test.YtimpganophnehaaGreatIm
import Derived.Test.YtimpganophnehaaGreatHd
set_option linter.unusedVariables false
set_option linter.unusedSimpArgs false
set_option maxRecDepth 10000
set_option maxHeartbeats 1000000
namespace Go.Proofs.YtimpganophnehaaGreat
open Go.Eng

def findN {α : Type} (f : Nat → Option α) : Nat → Nat → Option α
 | 0, _ => none
 | n + 1, i => match f i with
  | some x => some x
  | none => findN f n (i + 1)
theorem findN_at {α : Type} {f : Nat → Option α} {N i : Nat} (h : i < N) : findN f (N - i) i = match f i with
  | some x => some x
  | none => findN f (N - (i + 1)) (i + 1) := by
 obtain ⟨m, hm⟩ : ∃ m, N - i = m + 1 := ⟨N - i - 1, by omega⟩
 rw [hm, findN, show N - (i + 1) = m from by omega]
def tryD (p : Prog) (inp : List Int) (code value : Int) (fn k : Nat) : Option Prog := if endsB (dropP p fn k) inp code value = true then some (dropP p fn k) else none
def lessF (p : Prog) (inp : List Int) (code value : Int) (fn : Nat) : Option Prog := findN (tryD p inp code value fn) (funcAt p fn).stmts.length 0
def lessP (p : Prog) (inp : List Int) (code value : Int) : Option Prog := findN (lessF p inp code value) p.funcs.length 0
section
variable {p : Prog} {inp : List Int} {code value fn k : Int}
theorem less_next (h0 : 0 ≤ fn) (h1 : fn < p.funcs.length) (hex : lessP p inp code value = findN (lessF p inp code value) (p.funcs.length - fn.toNat) fn.toNat) (hk : ¬ k < (funcAt p fn).stmts.length) (hk0 : 0 ≤ k) (hin : lessF p inp code value fn.toNat = findN (tryD p inp code value fn.toNat) ((funcAt p fn).stmts.length - k.toNat) k.toNat) :
  lessP p inp code value = findN (lessF p inp code value) (p.funcs.length - (fn + 1).toNat) (fn + 1).toNat := by
 rw [hex, findN_at (by omega), hin, show (funcAt p fn).stmts.length - k.toNat = 0 from by omega, show (fn + 1).toNat = fn.toNat + 1 from by omega]
 rfl
theorem less_step (h0 : 0 ≤ fn) (hk0 : 0 ≤ k) (hk : k < (funcAt p fn).stmts.length) (hin : lessF p inp code value fn.toNat = findN (tryD p inp code value fn.toNat) ((funcAt p fn).stmts.length - k.toNat) k.toNat) (hb : ¬ endsB (dropP p fn k) inp code value = true) :
  lessF p inp code value fn.toNat = findN (tryD p inp code value fn.toNat) ((funcAt p fn).stmts.length - (k + 1).toNat) (k + 1).toNat := by
 rw [hin, findN_at (by omega), tryD, show ((fn.toNat : Nat) : Int) = fn from by omega, show ((k.toNat : Nat) : Int) = k from by omega, if_neg hb, show (k + 1).toNat = k.toNat + 1 from by omega]
theorem less_yes (h0 : 0 ≤ fn) (h1 : fn < p.funcs.length) (hex : lessP p inp code value = findN (lessF p inp code value) (p.funcs.length - fn.toNat) fn.toNat) (hk0 : 0 ≤ k) (hk : k < (funcAt p fn).stmts.length) (hin : lessF p inp code value fn.toNat = findN (tryD p inp code value fn.toNat) ((funcAt p fn).stmts.length - k.toNat) k.toNat) (hb : endsB (dropP p fn k) inp code value = true) :
  lessP p inp code value = some (dropP p fn k) := by
 rw [hex, findN_at (by omega), hin, findN_at (by omega), tryD, show ((fn.toNat : Nat) : Int) = fn from by omega, show ((k.toNat : Nat) : Int) = k from by omega, if_pos hb]
theorem less_no (h0 : 0 ≤ fn) (h1 : ¬ fn < p.funcs.length) (hex : lessP p inp code value = findN (lessF p inp code value) (p.funcs.length - fn.toNat) fn.toNat) : lessP p inp code value = none := by
 rw [hex, show p.funcs.length - fn.toNat = 0 from by omega]
 rfl
end
def lessR (p : Prog) (inp : List Int) (code value : Int) : Prog := (lessP p inp code value).getD ⟨[]⟩
theorem less_ryes {p q : Prog} {inp : List Int} {code value : Int} (h : lessP p inp code value = some q) : [D.agg [D.own (T.Funcs q.funcs)], D.t (T.v (.bool true))] = [D.agg [D.own (T.Funcs (lessR p inp code value).funcs)], D.t (T.bool (lessP p inp code value).isSome)] := by
 rw [lessR, h]; rfl
theorem less_rno {p : Prog} {inp : List Int} {code value : Int} (h : lessP p inp code value = none) : [D.agg [D.own (T.list 4 [])], D.t (T.v (.bool false))] = [D.agg [D.own (T.Funcs (lessR p inp code value).funcs)], D.t (T.bool (lessP p inp code value).isSome)] := by
 rw [lessR, h]; rfl

theorem l18Less_fun (p : Prog) (inp : List Int) (code value : Int) (hp : p.ok 1048576) (hi : inp.length ≤ 1048576) (hg : goodP p = true) : Fun Tryz.prog 35 [.t p.tt, .t (T.ints inp), .t (.int code), .t (.int value)] (tupD [.agg [.own (T.Funcs (lessR p inp code value).funcs)], .t (.bool (lessP p inp code value).isSome)]) := by
 have hpl : p.funcs.length ≤ 1048576 := hp.1.1
 refine Fun.begin tys Tryz.func35 rfl rfl (N := 41) [(0, .t p.tt), (1, .t (T.ints inp)), (2, .t (.int code)), (3, .t (.int value))] rfl rfl (fun w0 G F0 => ?_)
 refine sQ (rG (WO_box rfl rfl (lt_of rfl) rfl rfl (nZ rfl (WO_alloc tys rfl rfl (lt_of rfl) rfl rfl rfl (nZ rfl (eZ rfl (oN (tN (sQ (sQ (rG (eK 2 rfl (evE ?_)))))))))))))
 refine eZ rfl (oN (tN (W_block ?_)))
 refine lK (α := Int) [1, 2, 3, 4, 8, 15, 16] [4, 8] (fun x => [(17, .t (.int x))]) (fun x => []) (fun x => 0 ≤ x ∧ x ≤ p.funcs.length ∧ lessP p inp code value = findN (lessF p inp code value) (p.funcs.length - x.toNat) x.toNat) (fun x => Int.toNat (p.funcs.length - x)) 0 ?_ (fun fn hx => ?_)
 ·exact ⟨by omega, by omega, rfl⟩
 obtain ⟨hf0, hf1, hex⟩ := hx
 refine nY rfl (sQ (rG (eZ rfl (oN (tN (sQ ?_))))))
 refine W_cond rfl (fun h1 => ?_) (fun h1 => ?_)
 ·
  simp only [HS] at h1
  refine W_skip (tN (sQ (W_block (sQ (rG (eZ rfl ?_))))))
  have hfa := funcAt_at (p := p) (n := fn) (by omega)
  have hfl := (func_ok hp (n := fn.toNat) (by omega)).2.1.1
  refine WO_idxT tys rfl rfl (lt_of rfl) rfl rfl rfl rfl rfl rfl rfl (by omega) _ (getT _ _ (by omega) (by omega)) (eZ rfl ?_)
  try refine WO_le (Le.freeze (u := 21) rfl) ?_
  refine nZ rfl (WO_alloc tys rfl rfl (lt_of rfl) rfl rfl rfl (nZ rfl (eZ rfl (sT rfl (nZ rfl (oN (tN (sQ (kY [1,2,3,4,8,10,11,15,16,17,18,19,20,21] rfl (rG (eK 2 rfl (evE ?_))))))))))))
  refine eZ rfl (oN (tN (W_block ?_)))
  refine lK (α := Int) [1, 2, 3, 4, 8, 10, 15, 16, 17, 23, 24] [4, 8] (fun x => [(25, .t (.int x))]) (fun x => []) (fun x => 0 ≤ x ∧ x ≤ (p.funcs[fn.toNat]'(by omega)).stmts.length ∧ lessF p inp code value fn.toNat = findN (tryD p inp code value fn.toNat) ((funcAt p fn).stmts.length - x.toNat) x.toNat) (fun x => Int.toNat ((p.funcs[fn.toNat]'(by omega)).stmts.length - x)) 0 ?_ (fun k hx => ?_)
  ·exact ⟨by omega, by omega, by unfold lessF; rw [show ((fn.toNat : Nat) : Int) = fn from by omega]; rfl⟩
  obtain ⟨hk0, hk1, hin⟩ := hx
  refine nY rfl (sQ (rG (eZ rfl (oN (tN (sQ ?_))))))
  refine W_cond rfl (fun h2 => ?_) (fun h2 => ?_)
  ·
   simp only [HS] at h2
   refine W_skip (tN (sQ (W_block (sQ (rG (eK 2 rfl (oN (tN (sQ (rG (eZ rfl ?_)))))))))))
   try refine WO_le (Le.freeze (u := 28) rfl) ?_
   refine nZ rfl (eK 2 rfl (callB ?_))
   refine ⟨_, l18Drop_fun p fn k hp hg hf0 (by omega) hk0 (by rw [← hfa]; omega), rfl, ?_⟩
   refine WO_alloc tys rfl rfl (lt_of rfl) rfl rfl rfl (nZ rfl (sT rfl (nZ rfl (kZ [1,2,3,4,8,10,12,13,15,16,17,23,24,25,26,27,28,29,30,31] rfl (oN (tN (sQ (rG (nZ rfl (WO_le (Le.adoptBox (u := 13) (j := 0) (id := 131) rfl rfl rfl) (nZ rfl (eZ rfl ?_))))))))))))
   try refine WO_le (Le.freeze (u := 32) rfl) ?_
   refine nZ rfl (eK 3 rfl (WO_call rfl rfl (lt_of rfl) rfl rfl (es := [.t (dropP p fn k).tt, .t (T.ints inp), .t (.int code), .t (.int value)]) (ResL.aggT (ResL.slA rfl rfl ResL.done) (ResL.t (ResL.t (ResL.t ResL.done)))) (l18Ends_fun (dropP p fn k) inp code value (goodP_drop hg hf0 (by omega) hk0 (by rw [← hfa]; omega)) (ok_dropP hp fn k) hi) rfl ?_))
   refine nZ rfl (oN (tN ?_))
   refine W_cond rfl (fun h3 => ?_) (fun h3 => ?_)
   ·
    refine sQ (rG (eZ rfl ?_))
    try refine WO_le (Le.freeze (u := 37) rfl) ?_
    refine nZ rfl (sT rfl (nZ rfl (eZ rfl (oN (tN ?_)))))
    (refine W_le (Le.gatherBox (u := 8) (j := 0) (id := 131) rfl rfl rfl (by simp) rfl) ?_; refine W_norm rfl ?_)
    refine rT (bR (tR (loopQ_r (bR (bR (tR (loopQ_r (bR (tR (eR ?_))))))))))
    ·first
     | (rw [List.take_of_length_le (by simp)]; exact less_ryes (less_yes hf0 (by omega) hex hk0 (by rw [← hfa]; omega) hin h3))
   refine W_skip (bN (tN (rG (evI ?_))))
   refine eZ rfl (oN ?_)
   refine lQ _ ?_ ?_
   ·skip
    exact ⟨by omega, by omega, less_step hf0 hk0 (by rw [← hfa]; omega) hin (by simp_all)⟩
   ·(show Int.toNat _ < Int.toNat _); omega
  simp only [HS] at h2
  refine W_exit (tE (loopQ_e (inBlk_y (bN (tN (rG (evI ?_)))))))
  refine eZ rfl (oN ?_)
  refine lQ _ ?_ ?_
  ·skip
   exact ⟨by omega, by omega, less_next hf0 (by omega) hex (by rw [← hfa]; omega) hk0 hin⟩
  ·(show Int.toNat _ < Int.toNat _); omega
 simp only [HS] at h1
 refine W_exit (tE (loopQ_e (inBlk_y (tN (sQ (rG (WO_struct tys rfl rfl (lt_of rfl) rfl rfl rfl (by kernel_rfl) rfl rfl rfl rfl rfl rfl (sT rfl (nZ rfl (eZ rfl (oN (tN (W_le (Le.nilBox (u := 8) (j := 0) 4 rfl rfl) (nY rfl (rT ?_)))))))))))))))
 refine eR ?_
 ·first
  | exact less_rno (less_no hf0 (by omega) hex)

theorem shrunk_fun (p : Prog) (inp : List Int) (code value : Int) (hp : p.ok 1048576) (hi : inp.length ≤ 1048576) (hg : goodP p = true) : Fun Tryz.prog 39 [.t p.tt, .t (T.ints inp), .t (.int code), .t (.int value)] (tupD [.agg [.own (T.Funcs (lessR p inp code value).funcs)], .t (.bool (lessP p inp code value).isSome)]) := by
 have hpl : p.funcs.length ≤ 1048576 := hp.1.1
 refine Fun.begin tys Tryz.func39 rfl rfl (N := 41) [(0, .t p.tt), (1, .t (T.ints inp)), (2, .t (.int code)), (3, .t (.int value))] rfl rfl (fun w0 G F0 => ?_)
 refine sQ (rG (WO_box rfl rfl (lt_of rfl) rfl rfl (nZ rfl (WO_alloc tys rfl rfl (lt_of rfl) rfl rfl rfl (nZ rfl (eZ rfl (oN (tN (sQ (sQ (rG (eK 2 rfl (evE ?_)))))))))))))
 refine eZ rfl (oN (tN (W_block ?_)))
 refine lK (α := Int) [1, 2, 3, 4, 8, 15, 16] [4, 8] (fun x => [(17, .t (.int x))]) (fun x => []) (fun x => 0 ≤ x ∧ x ≤ p.funcs.length ∧ lessP p inp code value = findN (lessF p inp code value) (p.funcs.length - x.toNat) x.toNat) (fun x => Int.toNat (p.funcs.length - x)) 0 ?_ (fun fn hx => ?_)
 ·exact ⟨by omega, by omega, rfl⟩
 obtain ⟨hf0, hf1, hex⟩ := hx
 refine nY rfl (sQ (rG (eZ rfl (oN (tN (sQ ?_))))))
 refine W_cond rfl (fun h1 => ?_) (fun h1 => ?_)
 ·
  simp only [HS] at h1
  refine W_skip (tN (sQ (W_block (sQ (rG (eZ rfl ?_))))))
  have hfa := funcAt_at (p := p) (n := fn) (by omega)
  have hfl := (func_ok hp (n := fn.toNat) (by omega)).2.1.1
  refine WO_idxT tys rfl rfl (lt_of rfl) rfl rfl rfl rfl rfl rfl rfl (by omega) _ (getT _ _ (by omega) (by omega)) (eZ rfl ?_)
  try refine WO_le (Le.freeze (u := 21) rfl) ?_
  refine nZ rfl (WO_alloc tys rfl rfl (lt_of rfl) rfl rfl rfl (nZ rfl (eZ rfl (sT rfl (nZ rfl (oN (tN (sQ (kY [1,2,3,4,8,10,11,15,16,17,18,19,20,21] rfl (rG (eK 2 rfl (evE ?_))))))))))))
  refine eZ rfl (oN (tN (W_block ?_)))
  refine lK (α := Int) [1, 2, 3, 4, 8, 10, 15, 16, 17, 23, 24] [4, 8] (fun x => [(25, .t (.int x))]) (fun x => []) (fun x => 0 ≤ x ∧ x ≤ (p.funcs[fn.toNat]'(by omega)).stmts.length ∧ lessF p inp code value fn.toNat = findN (tryD p inp code value fn.toNat) ((funcAt p fn).stmts.length - x.toNat) x.toNat) (fun x => Int.toNat ((p.funcs[fn.toNat]'(by omega)).stmts.length - x)) 0 ?_ (fun k hx => ?_)
  ·exact ⟨by omega, by omega, by unfold lessF; rw [show ((fn.toNat : Nat) : Int) = fn from by omega]; rfl⟩
  obtain ⟨hk0, hk1, hin⟩ := hx
  refine nY rfl (sQ (rG (eZ rfl (oN (tN (sQ ?_))))))
  refine W_cond rfl (fun h2 => ?_) (fun h2 => ?_)
  ·
   simp only [HS] at h2
   refine W_skip (tN (sQ (W_block (sQ (rG (eK 2 rfl (oN (tN (sQ (rG (eZ rfl ?_)))))))))))
   try refine WO_le (Le.freeze (u := 28) rfl) ?_
   refine nZ rfl (eK 2 rfl (callB ?_))
   refine ⟨_, dropI_fun p fn k hp hg hf0 (by omega) hk0 (by rw [← hfa]; omega), rfl, ?_⟩
   refine WO_alloc tys rfl rfl (lt_of rfl) rfl rfl rfl (nZ rfl (sT rfl (nZ rfl (kZ [1,2,3,4,8,10,12,13,15,16,17,23,24,25,26,27,28,29,30,31] rfl (oN (tN (sQ (rG (nZ rfl (WO_le (Le.adoptBox (u := 13) (j := 0) (id := 131) rfl rfl rfl) (nZ rfl (eZ rfl ?_))))))))))))
   try refine WO_le (Le.freeze (u := 32) rfl) ?_
   refine nZ rfl (eK 3 rfl (WO_call rfl rfl (lt_of rfl) rfl rfl (es := [.t (dropP p fn k).tt, .t (T.ints inp), .t (.int code), .t (.int value)]) (ResL.aggT (ResL.slA rfl rfl ResL.done) (ResL.t (ResL.t (ResL.t ResL.done)))) (endsI_fun (dropP p fn k) inp code value (goodP_drop hg hf0 (by omega) hk0 (by rw [← hfa]; omega)) (ok_dropP hp fn k) hi) rfl ?_))
   refine nZ rfl (oN (tN ?_))
   refine W_cond rfl (fun h3 => ?_) (fun h3 => ?_)
   ·
    refine sQ (rG (eZ rfl ?_))
    try refine WO_le (Le.freeze (u := 37) rfl) ?_
    refine nZ rfl (sT rfl (nZ rfl (eZ rfl (oN (tN ?_)))))
    (refine W_le (Le.gatherBox (u := 8) (j := 0) (id := 131) rfl rfl rfl (by simp) rfl) ?_; refine W_norm rfl ?_)
    refine rT (bR (tR (loopQ_r (bR (bR (tR (loopQ_r (bR (tR (eR ?_))))))))))
    ·first
     | (rw [List.take_of_length_le (by simp)]; exact less_ryes (less_yes hf0 (by omega) hex hk0 (by rw [← hfa]; omega) hin h3))
   refine W_skip (bN (tN (rG (evI ?_))))
   refine eZ rfl (oN ?_)
   refine lQ _ ?_ ?_
   ·skip
    exact ⟨by omega, by omega, less_step hf0 hk0 (by rw [← hfa]; omega) hin (by simp_all)⟩
   ·(show Int.toNat _ < Int.toNat _); omega
  simp only [HS] at h2
  refine W_exit (tE (loopQ_e (inBlk_y (bN (tN (rG (evI ?_)))))))
  refine eZ rfl (oN ?_)
  refine lQ _ ?_ ?_
  ·skip
   exact ⟨by omega, by omega, less_next hf0 (by omega) hex (by rw [← hfa]; omega) hk0 hin⟩
  ·(show Int.toNat _ < Int.toNat _); omega
 simp only [HS] at h1
 refine W_exit (tE (loopQ_e (inBlk_y (tN (sQ (rG (WO_struct tys rfl rfl (lt_of rfl) rfl rfl rfl (by kernel_rfl) rfl rfl rfl rfl rfl rfl (sT rfl (nZ rfl (eZ rfl (oN (tN (W_le (Le.nilBox (u := 8) (j := 0) 4 rfl rfl) (nY rfl (rT ?_)))))))))))))))
 refine eR ?_
 ·first
  | exact less_rno (less_no hf0 (by omega) hex)

def leastA (p : Prog) (inp : List Int) (code value : Int) : Bool := endsOk p inp code value && endsB p inp code value

theorem specLeast_fun (p : Prog) (inp : List Int) (code value : Int) (hp : p.ok 1048576) (hi : inp.length ≤ 1048576) : Fun Tryz.prog 8 [.t p.tt, .t (T.ints inp), .t (.int code), .t (.int value)] (tupD [.t (.bool (leastA p inp code value && !(lessP p inp code value).isSome)), .t (.bool (leastA p inp code value))]) := by
 refine Fun.begin tys Tryz.func8 rfl rfl (N := 38) [(0, .t p.tt), (1, .t (T.ints inp)), (2, .t (.int code)), (3, .t (.int value))] rfl rfl (fun w0 G F0 => ?_)
 refine sQ (rG (WO_box rfl rfl (lt_of rfl) rfl rfl (nZ rfl (eK 2 rfl (oN (tN (sQ (sQ (rG (eZ rfl ?_))))))))))
 try refine WO_le (Le.freeze (u := 15) rfl) ?_
 refine nZ rfl (eK 3 rfl (callB ?_))
 refine ⟨_, specEndsSo_fun p inp code value hp hi, rfl, ?_⟩
 refine eZ rfl (kZ [1,2,3,4,8,9,14] rfl (WO_evF tys rfl rfl (lt_of rfl) (d := .t _) rfl (nZ rfl (WO_evF tys rfl rfl (lt_of rfl) (d := .t _) rfl (nZ rfl (eK 2 rfl (oN (tN (sQ (rG (eK 3 rfl ?_)))))))))))
 refine WO_guard rfl rfl rfl rfl (lt_of rfl) (fun h1 => ?_) (fun h1 => ?_)
 rotate_left
 ·
  simp only [HS] at h1
  refine gN rfl rfl (eZ rfl (kZ [1,2,3,4,8,9,27] rfl (oN (tN (W_condT rfl (sQ (rG (eK 2 rfl (oN (tN (rT (tR (eR ?_)))))))))))))
  ·(have hno : leastA p inp code value = false := (by unfold leastA; simp_all); exact retBB (by rw [hno]; rfl) hno.symm)
 simp only [HS] at h1
 refine eZ rfl (gY rfl (eZ rfl (kZ [1,2,3,4,8,9,24,26] rfl (eZ rfl (oN (tN ?_))))))
 refine W_cond rfl (fun h2 => ?_) (fun h2 => ?_)
 ·
  simp only [HS] at h2
  refine sQ (rG (eK 2 rfl (oN (tN (rT (tR (eR ?_)))))))
  ·(have hno : leastA p inp code value = false := (by unfold leastA; simp_all); exact retBB (by rw [hno]; rfl) hno.symm)
 simp only [HS] at h2
 refine W_skip (tN (sQ (rG ?_)))
 have hA : leastA p inp code value = true := by unfold leastA; simp_all
 have hok : endsOk p inp code value = true := by unfold leastA at hA; simp_all
 refine eZ rfl ?_
 try refine WO_le (Le.freeze (u := 29) rfl) ?_
 refine nZ rfl (eK 3 rfl (callB ?_))
 refine ⟨_, l18Less_fun p inp code value hp hi (endsOk_g hok), rfl, ?_⟩
 refine WO_moveAll rfl rfl (lt_of rfl) (.inr rfl) rfl rfl (nZ rfl (WO_extract rfl rfl (lt_of rfl) rfl rfl rfl rfl (WO_le (Le.freeze (u := 34) rfl) (nZ rfl (WO_evF tys rfl rfl (lt_of rfl) (d := .t _) rfl (nZ rfl (kZ [8,9,34,35] rfl (WO_alloc tys rfl rfl (lt_of rfl) rfl rfl rfl (nZ rfl (sT rfl (nZ rfl (eZ rfl (oN (tN (sQ ?_)))))))))))))))
 refine rG (eK 4 rfl (oN (tN (rT (eR ?_)))))
 ·exact retBB (by rw [hA]; rfl) hA.symm

theorem implLeast_fun (p : Prog) (inp : List Int) (code value : Int) (hp : p.ok 1048576) (hi : inp.length ≤ 1048576) : Fun Tryz.prog 11 [.t p.tt, .t (T.ints inp), .t (.int code), .t (.int value)] (tupD [.t (.bool (leastA p inp code value && !(lessP p inp code value).isSome)), .t (.bool (leastA p inp code value))]) := by
 refine Fun.begin tys Tryz.func11 rfl rfl (N := 36) [(0, .t p.tt), (1, .t (T.ints inp)), (2, .t (.int code)), (3, .t (.int value))] rfl rfl (fun w0 G F0 => ?_)
 refine sQ (rG (WO_box rfl rfl (lt_of rfl) rfl rfl (nZ rfl (eK 2 rfl (oN (tN (sQ (sQ (rG (eZ rfl ?_))))))))))
 try refine WO_le (Le.freeze (u := 12) rfl) ?_
 refine nZ rfl (eK 3 rfl (callB ?_))
 refine ⟨_, areEnds_fun p inp code value hp hi, rfl, ?_⟩
 refine eZ rfl (kZ [1,2,3,4,8,9,17] rfl (eZ rfl ?_))
 refine WO_guard rfl rfl rfl rfl (lt_of rfl) (fun h1 => ?_) (fun h1 => ?_)
 rotate_left
 ·
  simp only [HS] at h1
  refine gN rfl rfl (gN rfl rfl (gN rfl rfl (gN rfl rfl (gN rfl rfl (eZ rfl (oN (tN (W_condT rfl (sQ (kY [1,2,3,4,8,9] rfl (rG (eK 2 rfl (oN (tN (rT ?_)))))))))))))))
  refine tR (eR ?_)
  ·(have hno : leastA p inp code value = false := (by unfold leastA; simp_all); exact retBB (by rw [hno]; rfl) hno.symm)
 simp only [HS] at h1
 have hok : endsOk p inp code value = true := by simp_all
 refine eZ rfl ?_
 try refine WO_le (Le.freeze (u := 19) rfl) ?_
 refine nZ rfl (gY rfl (eZ rfl (gY rfl (eZ rfl (gY rfl (eZ rfl (gY rfl (callB ?_))))))))
 refine ⟨_, endsI_fun p inp code value (endsOk_g hok) hp hi, rfl, ?_⟩
 refine gY rfl (eK 2 rfl (oN (tN ?_)))
 refine W_cond rfl (fun h2 => ?_) (fun h2 => ?_)
 ·
  simp only [HS] at h2
  refine sQ (kY [1,2,3,4,8,9] rfl (rG (eK 2 rfl (oN (tN (rT (tR (eR ?_))))))))
  ·(have hno : leastA p inp code value = false := (by unfold leastA; simp_all); exact retBB (by rw [hno]; rfl) hno.symm)
 simp only [HS] at h2
 refine W_skip (tN (sQ (kY [1,2,3,4,8,9] rfl (rG ?_))))
 have hA : leastA p inp code value = true := by unfold leastA; simp_all
 have hok : endsOk p inp code value = true := by unfold leastA at hA; simp_all
 refine eZ rfl ?_
 try refine WO_le (Le.freeze (u := 27) rfl) ?_
 refine nZ rfl (eK 3 rfl (callB ?_))
 refine ⟨_, shrunk_fun p inp code value hp hi (endsOk_g hok), rfl, ?_⟩
 refine WO_moveAll rfl rfl (lt_of rfl) (.inr rfl) rfl rfl (nZ rfl (WO_extract rfl rfl (lt_of rfl) rfl rfl rfl rfl (WO_le (Le.freeze (u := 32) rfl) (nZ rfl (WO_evF tys rfl rfl (lt_of rfl) (d := .t _) rfl (nZ rfl (WO_alloc tys rfl rfl (lt_of rfl) rfl rfl rfl (nZ rfl (kZ [8,9,10,32,33] rfl (sT rfl (nZ rfl (eZ rfl (oN (tN (sQ ?_)))))))))))))))
 refine rG (eK 4 rfl (oN (tN (rT (eR ?_)))))
 ·exact retBB (by rw [hA]; rfl) hA.symm

theorem lawLeast_fun (p : Prog) (inp : List Int) (code value : Int) (hp : p.ok 9223372036854775807) (hl : inp.length ≤ 9223372036854775807) : Fun Tryz.prog 3 [.t p.tt, .t (T.ints inp), .t (.int code), .t (.int value)] (tupD [.t (.bool true)]) := by
 refine Fun.begin tys Tryz.func3 rfl rfl (N := 64) [(0, .t p.tt), (1, .t (T.ints inp)), (2, .t (.int code)), (3, .t (.int value))] rfl rfl (fun w0 G F0 => ?_)
 refine sQ (rG (WO_box rfl rfl (lt_of rfl) rfl rfl (nZ rfl (eZ rfl (oN (tN (sQ (sQ (rG (eZ rfl (evE ?_)))))))))))
 refine eZ rfl (oN (tN ?_))
 refine W_cond rfl (fun h1 => ?_) (fun h1 => ?_)
 ·
  simp only [HS] at h1
  refine sQ (rG (eZ rfl (oN (tN (rT (tR (eR ?_)))))))
  ·rfl
 simp only [HS] at h1
 refine W_skip (tN (sQ (rG (eZ rfl (oN (tN (sQ (rG (eZ rfl ?_)))))))))
 try refine WO_le (Le.freeze (u := 19) rfl) ?_
 refine nZ rfl (eZ rfl (callB ?_))
 refine ⟨_, szProg_fun p 1048576 hp (by omega) (by omega), rfl, ?_⟩
 refine kZ [1,2,3,4,8,9,21] rfl (eZ rfl (oN (tN (sQ (sQ (rG (eK 2 rfl (oN (tN ?_)))))))))
 refine W_cond rfl (fun h2 => ?_) (fun h2 => ?_)
 ·
  simp only [HS] at h2
  refine sQ (rG (eZ rfl (oN (tN (rT (tR (eR ?_)))))))
  ·rfl
 simp only [HS] at h2
 refine W_skip (tN (sQ (rG ?_)))
 have okp := Prog.small h2
 refine eZ rfl ?_
 try refine WO_le (Le.freeze (u := 25) rfl) ?_
 refine nZ rfl (callB ?_)
 refine ⟨_, toProg_fun p okp, rfl, ?_⟩
 refine WO_le (Le.freeze (u := 26) rfl) (nZ rfl (eZ rfl (callB ?_)))
 refine ⟨_, toIntS_fun inp (by omega), rfl, ?_⟩
 refine WO_le (Le.freeze (u := 28) rfl) (nZ rfl (eK 2 rfl (kZ [1,2,3,4,8,26,28,29,30] rfl (callB ?_))))
 refine ⟨_, specLeast_fun p inp code value okp (by omega), rfl, ?_⟩
 refine eZ rfl (WO_evF tys rfl rfl (lt_of rfl) (d := .t _) rfl (nZ rfl (WO_evF tys rfl rfl (lt_of rfl) (d := .t _) rfl (nZ rfl (eK 2 rfl (oN (tN (sQ (rG (eZ rfl ?_))))))))))
 try refine WO_le (Le.freeze (u := 34) rfl) ?_
 refine nZ rfl (callB ?_)
 refine ⟨_, toProg_fun p okp, rfl, ?_⟩
 refine WO_le (Le.freeze (u := 35) rfl) (nZ rfl (WO_alloc tys rfl rfl (lt_of rfl) rfl rfl rfl (nZ rfl (kZ [1,2,3,4,8,10,11,12,35] rfl (sT rfl (nZ rfl (oN (tN (sQ (rG (eZ rfl (callB ?_))))))))))))
 refine ⟨_, toIntS_fun inp (by omega), rfl, ?_⟩
 refine WO_le (Le.freeze (u := 37) rfl) (nZ rfl (eZ rfl (oN (tN (sQ (rG (eZ rfl ?_)))))))
 try refine WO_le (Le.freeze (u := 39) rfl) ?_
 refine nZ rfl (eK 3 rfl (callB ?_))
 refine ⟨_, implLeast_fun p inp code value okp (by omega), rfl, ?_⟩
 refine kZ [1,4,8,10,11,12,13,43] rfl (eZ rfl (WO_evF tys rfl rfl (lt_of rfl) (d := .t _) rfl (nZ rfl (WO_evF tys rfl rfl (lt_of rfl) (d := .t _) rfl (nZ rfl (eK 2 rfl (oN (tN (sQ (sQ (rG (eK 3 rfl (WO_le (Le.known (t := 48) false rfl (by simp)) ?_)))))))))))))
 refine eZ rfl (kZ [1,4,8,11,12,13,15,49] rfl (gY rfl (eZ rfl (gY rfl (eZ rfl (gY rfl (eZ rfl (WO_le (Le.known (t := 52) false rfl (by simp)) ?_))))))))
 refine eZ rfl (oN (tN (W_condF rfl (W_skip (tN (sQ (sQ (W_regionD mixed (by kernel_rfl) (QL_evZ tys rfl rfl (lt_of rfl) rfl rfl (QL_evZ tys rfl rfl (lt_of rfl) rfl rfl (QL_norm rfl (callBQ ?_))))))))))))
 refine ⟨_, toProg_fun p okp, rfl, ?_⟩
 refine callBQ ?_
 refine ⟨_, eqProg_fun p p hp hp, rfl, ?_⟩
 refine QL_known (v := true) (eqProg_refl _) (evQ ?_)
 refine QL_nil (tN (W_condF rfl (W_skip (tN (sQ (sQ (rG (eK 2 rfl (callB ?_)))))))))
 refine ⟨_, toIntS_fun inp (by omega), rfl, ?_⟩
 refine WO_le (Le.freeze (u := 61) rfl) (nZ rfl (callB ?_))
 refine ⟨_, eqIntS_fun inp inp (by omega) (by omega), rfl, ?_⟩
 refine WO_le (Le.known (t := 62) true rfl (eqIe_refl _)) (eZ rfl (oN (tN (W_condF rfl (W_skip (tN (sQ (kY [8] rfl (rG (eZ rfl (oN (tN (rT (eR ?_))))))))))))))
 ·rfl

end Go.Proofs.YtimpganophnehaaGreat
