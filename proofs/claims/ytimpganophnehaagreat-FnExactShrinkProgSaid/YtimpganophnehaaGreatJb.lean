/- Walks and laws of the claim. -/
import Derived.Test.YtimpganophnehaaGreatGy
import Derived.Test.YtimpganophnehaaGreatIk
import Derived.Test.YtimpganophnehaaGreatFr
import Derived.Test.YtimpganophnehaaGreatMe
set_option linter.unusedVariables false
set_option linter.unusedSimpArgs false
set_option maxRecDepth 10000
set_option maxHeartbeats 1000000
namespace Go.Proofs.YtimpganophnehaaGreat
open Go.Eng
open Go.Eng
def findN {α : Type} (f : Nat → Option α) : Nat → Nat → Option α
 | 0, _ => none
 | n + 1, i => match f i with
  | some x => some x
  | none => findN f n (i + 1)
theorem findN_at {α : Type} {f : Nat → Option α} {N i : Nat} (h : i < N) : findN f (N - i) i = match f i with
  | some x => some x
  | none => findN f (N - (i + 1)) (i + 1) := by
 obtain ⟨m, hm⟩ : ∃ m, N - i = m + 1 := ⟨N - i - 1, by omega⟩
 rw [hm, findN, show N - (i + 1) = m from by omega]
theorem findN_some {α : Type} {f : Nat → Option α} {x : α} : ∀ {n i : Nat}, findN f n i = some x → ∃ k, i ≤ k ∧ k < i + n ∧ f k = some x
 | 0, _, h => by cases h
 | n + 1, i, h => by
  rw [findN] at h
  split at h
  ·rename_i y e
   cases h
   exact ⟨i, by omega, by omega, e⟩
  ·obtain ⟨k, h1, h2, h3⟩ := findN_some h
   exact ⟨k, by omega, by omega, h3⟩
def tryD (p : Prog) (inp : List Int) (code value : Int) (fn k : Nat) : Option Prog := if endsB (dropP p fn k) inp code value = true then some (dropP p fn k) else none
def lessF (p : Prog) (inp : List Int) (code value : Int) (fn : Nat) : Option Prog := findN (tryD p inp code value fn) (funcAt p fn).stmts.length 0
def lessP (p : Prog) (inp : List Int) (code value : Int) : Option Prog := findN (lessF p inp code value) p.funcs.length 0
section
variable {p : Prog} {inp : List Int} {code value fn k : Int}
theorem less_next (h0 : 0 ≤ fn) (h1 : fn < p.funcs.length) (hex : lessP p inp code value = findN (lessF p inp code value) (p.funcs.length - fn.toNat) fn.toNat) (hk : ¬ k < (funcAt p fn).stmts.length) (hk0 : 0 ≤ k) (hin : lessF p inp code value fn.toNat = findN (tryD p inp code value fn.toNat) ((funcAt p fn).stmts.length - k.toNat) k.toNat) :
  lessP p inp code value = findN (lessF p inp code value) (p.funcs.length - (fn + 1).toNat) (fn + 1).toNat := by
 rw [hex, findN_at (by omega), hin, show (funcAt p fn).stmts.length - k.toNat = 0 from by omega, show (fn + 1).toNat = fn.toNat + 1 from by omega]
 rfl
theorem less_step (h0 : 0 ≤ fn) (hk0 : 0 ≤ k) (hk : k < (funcAt p fn).stmts.length) (hin : lessF p inp code value fn.toNat = findN (tryD p inp code value fn.toNat) ((funcAt p fn).stmts.length - k.toNat) k.toNat) (hb : ¬ endsB (dropP p fn k) inp code value = true) :
  lessF p inp code value fn.toNat = findN (tryD p inp code value fn.toNat) ((funcAt p fn).stmts.length - (k + 1).toNat) (k + 1).toNat := by
 rw [hin, findN_at (by omega), tryD, show ((fn.toNat : Nat) : Int) = fn from by omega, show ((k.toNat : Nat) : Int) = k from by omega, if_neg hb, show (k + 1).toNat = k.toNat + 1 from by omega]
theorem less_yes (h0 : 0 ≤ fn) (h1 : fn < p.funcs.length) (hex : lessP p inp code value = findN (lessF p inp code value) (p.funcs.length - fn.toNat) fn.toNat) (hk0 : 0 ≤ k) (hk : k < (funcAt p fn).stmts.length) (hin : lessF p inp code value fn.toNat = findN (tryD p inp code value fn.toNat) ((funcAt p fn).stmts.length - k.toNat) k.toNat) (hb : endsB (dropP p fn k) inp code value = true) :
  lessP p inp code value = some (dropP p fn k) := by
 rw [hex, findN_at (by omega), hin, findN_at (by omega), tryD, show ((fn.toNat : Nat) : Int) = fn from by omega, show ((k.toNat : Nat) : Int) = k from by omega, if_pos hb]
theorem less_no (h0 : 0 ≤ fn) (h1 : ¬ fn < p.funcs.length) (hex : lessP p inp code value = findN (lessF p inp code value) (p.funcs.length - fn.toNat) fn.toNat) : lessP p inp code value = none := by
 rw [hex, show p.funcs.length - fn.toNat = 0 from by omega]
 rfl
end
def lessR (p : Prog) (inp : List Int) (code value : Int) : Prog := (lessP p inp code value).getD ⟨[]⟩
theorem less_ryes {p q : Prog} {inp : List Int} {code value : Int} (h : lessP p inp code value = some q) : [D.agg [D.own (T.Funcs q.funcs)], D.t (T.v (.bool true))] = [D.agg [D.own (T.Funcs (lessR p inp code value).funcs)], D.t (T.bool (lessP p inp code value).isSome)] := by
 rw [lessR, h]; rfl
theorem less_rno {p : Prog} {inp : List Int} {code value : Int} (h : lessP p inp code value = none) : [D.agg [D.own (T.list 4 [])], D.t (T.v (.bool false))] = [D.agg [D.own (T.Funcs (lessR p inp code value).funcs)], D.t (T.bool (lessP p inp code value).isSome)] := by
 rw [lessR, h]; rfl
theorem l18Less_fun (p : Prog) (inp : List Int) (code value : Int) (hp : p.ok 1048576) (hi : inp.length ≤ 1048576) (hg : goodP p = true) : Fun Tryz.prog 35 [.t p.tt, .t (T.ints inp), .t (.int code), .t (.int value)] (tupD [.agg [.own (T.Funcs (lessR p inp code value).funcs)], .t (.bool (lessP p inp code value).isSome)]) := by
 have hpl : p.funcs.length ≤ 1048576 := hp.1.1
 refine Fun.begin tys Tryz.func35 Z Z (N := 41) [(0, .t p.tt), (1, .t (T.ints inp)), (2, .t (.int code)), (3, .t (.int value))] Z Z (fun w0 G F0 => ?_)
 refine sQ (rG (WO_box Z Z (lt_of Z) Z Z (nZ Z (WO_alloc tys Z Z (lt_of Z) Z Z Z (nZ Z (eZ Z (oN (tN (sQ (sQ (rG (eK 2 Z (evE ?_)))))))))))))
 refine eZ Z (oN (tN (W_block ?_)))
 refine lK (α := Int) [1, 2, 3, 4, 8, 15, 16] [4, 8] (fun x => [(17, .t (.int x))]) (fun x => []) (fun x => 0 ≤ x ∧ x ≤ p.funcs.length ∧ lessP p inp code value = findN (lessF p inp code value) (p.funcs.length - x.toNat) x.toNat) (fun x => Int.toNat (p.funcs.length - x)) 0 ?_ (fun fn hx => ?_)
 ·exact ⟨by omega, by omega, rfl⟩
 obtain ⟨hf0, hf1, hex⟩ := hx
 refine nY Z (sQ (rG (eZ Z (oN (tN (sQ ?_))))))
 refine W_cond Z (fun h1 => ?_) (fun h1 => ?_)
 ·
  simp only [HS] at h1
  refine W_skip (tN (sQ (W_block (sQ (rG (eZ Z ?_))))))
  have hfa := funcAt_at (p := p) (n := fn) (by omega)
  have hfl := (func_ok hp (n := fn.toNat) (by omega)).2.1.1
  refine WO_idxT tys Z Z (lt_of Z) Z Z Z Z Z Z Z (by omega) _ (getT _ _ (by omega) (by omega)) (eZ Z ?_)
  try refine WO_le (Le.freeze (u := 21) rfl) ?_
  refine nZ Z (WO_alloc tys Z Z (lt_of Z) Z Z Z (nZ Z (eZ Z (sT Z (nZ Z (oN (tN (sQ (kY [1,2,3,4,8,10,11,15,16,17,18,19,20,21] Z (rG (eK 2 Z (evE ?_))))))))))))
  refine eZ Z (oN (tN (W_block ?_)))
  refine lK (α := Int) [1, 2, 3, 4, 8, 10, 15, 16, 17, 23, 24] [4, 8] (fun x => [(25, .t (.int x))]) (fun x => []) (fun x => 0 ≤ x ∧ x ≤ (p.funcs[fn.toNat]'(by omega)).stmts.length ∧ lessF p inp code value fn.toNat = findN (tryD p inp code value fn.toNat) ((funcAt p fn).stmts.length - x.toNat) x.toNat) (fun x => Int.toNat ((p.funcs[fn.toNat]'(by omega)).stmts.length - x)) 0 ?_ (fun k hx => ?_)
  ·exact ⟨by omega, by omega, by unfold lessF; rw [show ((fn.toNat : Nat) : Int) = fn from by omega]; rfl⟩
  obtain ⟨hk0, hk1, hin⟩ := hx
  refine nY Z (sQ (rG (eZ Z (oN (tN (sQ ?_))))))
  refine W_cond Z (fun h2 => ?_) (fun h2 => ?_)
  ·
   simp only [HS] at h2
   refine W_skip (tN (sQ (W_block (sQ (rG (eK 2 Z (oN (tN (sQ (rG (eZ Z ?_)))))))))))
   try refine WO_le (Le.freeze (u := 28) rfl) ?_
   refine nZ Z (eK 2 Z (callB ?_))
   refine ⟨_, l18Drop_fun p fn k hp hg hf0 (by omega) hk0 (by rw [← hfa]; omega), rfl, ?_⟩
   refine WO_alloc tys Z Z (lt_of Z) Z Z Z (nZ Z (sT Z (nZ Z (kZ [1,2,3,4,8,10,12,13,15,16,17,23,24,25,26,27,28,29,30,31] Z (oN (tN (sQ (rG (nZ Z (WO_le (Le.adoptBox (u := 13) (j := 0) (id := 131) Z Z Z) (nZ Z (eZ Z ?_))))))))))))
   try refine WO_le (Le.freeze (u := 32) rfl) ?_
   refine nZ Z (eK 3 Z (WO_call Z Z (lt_of Z) Z Z (es := [.t (dropP p fn k).tt, .t (T.ints inp), .t (.int code), .t (.int value)]) (ResL.aggT (ResL.slA Z Z ResL.done) (ResL.t (ResL.t (ResL.t ResL.done)))) (l18Ends_fun (dropP p fn k) inp code value (goodP_drop hg hf0 (by omega) hk0 (by rw [← hfa]; omega)) (ok_dropP hp fn k) hi) Z ?_))
   refine nZ Z (oN (tN ?_))
   refine W_cond Z (fun h3 => ?_) (fun h3 => ?_)
   ·
    refine sQ (rG (eZ Z ?_))
    try refine WO_le (Le.freeze (u := 37) rfl) ?_
    refine nZ Z (sT Z (nZ Z (eZ Z (oN (tN ?_)))))
    (refine W_le (Le.gatherBox (u := 8) (j := 0) (id := 131) rfl rfl rfl (by simp) rfl) ?_; refine W_norm rfl ?_)
    refine rT (bR (tR (loopQ_r (bR (bR (tR (loopQ_r (bR (tR (eR ?_))))))))))
    ·first
     | (rw [List.take_of_length_le (by simp)]; exact less_ryes (less_yes hf0 (by omega) hex hk0 (by rw [← hfa]; omega) hin h3))
   refine W_skip (bN (tN (rG (evI ?_))))
   refine eZ Z (oN ?_)
   refine lQ _ ?_ ?_
   ·skip
    exact ⟨by omega, by omega, less_step hf0 hk0 (by rw [← hfa]; omega) hin (by simp_all)⟩
   ·(show Int.toNat _ < Int.toNat _); omega
  simp only [HS] at h2
  refine W_exit (tE (loopQ_e (inBlk_y (bN (tN (rG (evI ?_)))))))
  refine eZ Z (oN ?_)
  refine lQ _ ?_ ?_
  ·skip
   exact ⟨by omega, by omega, less_next hf0 (by omega) hex (by rw [← hfa]; omega) hk0 hin⟩
  ·(show Int.toNat _ < Int.toNat _); omega
 simp only [HS] at h1
 refine W_exit (tE (loopQ_e (inBlk_y (tN (sQ (rG (WO_struct tys Z Z (lt_of Z) Z Z Z (by kernel_rfl) Z Z Z Z Z Z (sT Z (nZ Z (eZ Z (oN (tN (W_le (Le.nilBox (u := 8) (j := 0) 4 Z Z) (nY Z (rT ?_)))))))))))))))
 refine eR ?_
 ·first
  | exact less_rno (less_no hf0 (by omega) hex)
theorem shrunk_fun (p : Prog) (inp : List Int) (code value : Int) (hp : p.ok 1048576) (hi : inp.length ≤ 1048576) (hg : goodP p = true) : Fun Tryz.prog 39 [.t p.tt, .t (T.ints inp), .t (.int code), .t (.int value)] (tupD [.agg [.own (T.Funcs (lessR p inp code value).funcs)], .t (.bool (lessP p inp code value).isSome)]) := by
 have hpl : p.funcs.length ≤ 1048576 := hp.1.1
 refine Fun.begin tys Tryz.func39 Z Z (N := 41) [(0, .t p.tt), (1, .t (T.ints inp)), (2, .t (.int code)), (3, .t (.int value))] Z Z (fun w0 G F0 => ?_)
 refine sQ (rG (WO_box Z Z (lt_of Z) Z Z (nZ Z (WO_alloc tys Z Z (lt_of Z) Z Z Z (nZ Z (eZ Z (oN (tN (sQ (sQ (rG (eK 2 Z (evE ?_)))))))))))))
 refine eZ Z (oN (tN (W_block ?_)))
 refine lK (α := Int) [1, 2, 3, 4, 8, 15, 16] [4, 8] (fun x => [(17, .t (.int x))]) (fun x => []) (fun x => 0 ≤ x ∧ x ≤ p.funcs.length ∧ lessP p inp code value = findN (lessF p inp code value) (p.funcs.length - x.toNat) x.toNat) (fun x => Int.toNat (p.funcs.length - x)) 0 ?_ (fun fn hx => ?_)
 ·exact ⟨by omega, by omega, rfl⟩
 obtain ⟨hf0, hf1, hex⟩ := hx
 refine nY Z (sQ (rG (eZ Z (oN (tN (sQ ?_))))))
 refine W_cond Z (fun h1 => ?_) (fun h1 => ?_)
 ·
  simp only [HS] at h1
  refine W_skip (tN (sQ (W_block (sQ (rG (eZ Z ?_))))))
  have hfa := funcAt_at (p := p) (n := fn) (by omega)
  have hfl := (func_ok hp (n := fn.toNat) (by omega)).2.1.1
  refine WO_idxT tys Z Z (lt_of Z) Z Z Z Z Z Z Z (by omega) _ (getT _ _ (by omega) (by omega)) (eZ Z ?_)
  try refine WO_le (Le.freeze (u := 21) rfl) ?_
  refine nZ Z (WO_alloc tys Z Z (lt_of Z) Z Z Z (nZ Z (eZ Z (sT Z (nZ Z (oN (tN (sQ (kY [1,2,3,4,8,10,11,15,16,17,18,19,20,21] Z (rG (eK 2 Z (evE ?_))))))))))))
  refine eZ Z (oN (tN (W_block ?_)))
  refine lK (α := Int) [1, 2, 3, 4, 8, 10, 15, 16, 17, 23, 24] [4, 8] (fun x => [(25, .t (.int x))]) (fun x => []) (fun x => 0 ≤ x ∧ x ≤ (p.funcs[fn.toNat]'(by omega)).stmts.length ∧ lessF p inp code value fn.toNat = findN (tryD p inp code value fn.toNat) ((funcAt p fn).stmts.length - x.toNat) x.toNat) (fun x => Int.toNat ((p.funcs[fn.toNat]'(by omega)).stmts.length - x)) 0 ?_ (fun k hx => ?_)
  ·exact ⟨by omega, by omega, by unfold lessF; rw [show ((fn.toNat : Nat) : Int) = fn from by omega]; rfl⟩
  obtain ⟨hk0, hk1, hin⟩ := hx
  refine nY Z (sQ (rG (eZ Z (oN (tN (sQ ?_))))))
  refine W_cond Z (fun h2 => ?_) (fun h2 => ?_)
  ·
   simp only [HS] at h2
   refine W_skip (tN (sQ (W_block (sQ (rG (eK 2 Z (oN (tN (sQ (rG (eZ Z ?_)))))))))))
   try refine WO_le (Le.freeze (u := 28) rfl) ?_
   refine nZ Z (eK 2 Z (callB ?_))
   refine ⟨_, dropI_fun p fn k hp hg hf0 (by omega) hk0 (by rw [← hfa]; omega), rfl, ?_⟩
   refine WO_alloc tys Z Z (lt_of Z) Z Z Z (nZ Z (sT Z (nZ Z (kZ [1,2,3,4,8,10,12,13,15,16,17,23,24,25,26,27,28,29,30,31] Z (oN (tN (sQ (rG (nZ Z (WO_le (Le.adoptBox (u := 13) (j := 0) (id := 131) Z Z Z) (nZ Z (eZ Z ?_))))))))))))
   try refine WO_le (Le.freeze (u := 32) rfl) ?_
   refine nZ Z (eK 3 Z (WO_call Z Z (lt_of Z) Z Z (es := [.t (dropP p fn k).tt, .t (T.ints inp), .t (.int code), .t (.int value)]) (ResL.aggT (ResL.slA Z Z ResL.done) (ResL.t (ResL.t (ResL.t ResL.done)))) (endsI_fun (dropP p fn k) inp code value (goodP_drop hg hf0 (by omega) hk0 (by rw [← hfa]; omega)) (ok_dropP hp fn k) hi) Z ?_))
   refine nZ Z (oN (tN ?_))
   refine W_cond Z (fun h3 => ?_) (fun h3 => ?_)
   ·
    refine sQ (rG (eZ Z ?_))
    try refine WO_le (Le.freeze (u := 37) rfl) ?_
    refine nZ Z (sT Z (nZ Z (eZ Z (oN (tN ?_)))))
    (refine W_le (Le.gatherBox (u := 8) (j := 0) (id := 131) rfl rfl rfl (by simp) rfl) ?_; refine W_norm rfl ?_)
    refine rT (bR (tR (loopQ_r (bR (bR (tR (loopQ_r (bR (tR (eR ?_))))))))))
    ·first
     | (rw [List.take_of_length_le (by simp)]; exact less_ryes (less_yes hf0 (by omega) hex hk0 (by rw [← hfa]; omega) hin h3))
   refine W_skip (bN (tN (rG (evI ?_))))
   refine eZ Z (oN ?_)
   refine lQ _ ?_ ?_
   ·skip
    exact ⟨by omega, by omega, less_step hf0 hk0 (by rw [← hfa]; omega) hin (by simp_all)⟩
   ·(show Int.toNat _ < Int.toNat _); omega
  simp only [HS] at h2
  refine W_exit (tE (loopQ_e (inBlk_y (bN (tN (rG (evI ?_)))))))
  refine eZ Z (oN ?_)
  refine lQ _ ?_ ?_
  ·skip
   exact ⟨by omega, by omega, less_next hf0 (by omega) hex (by rw [← hfa]; omega) hk0 hin⟩
  ·(show Int.toNat _ < Int.toNat _); omega
 simp only [HS] at h1
 refine W_exit (tE (loopQ_e (inBlk_y (tN (sQ (rG (WO_struct tys Z Z (lt_of Z) Z Z Z (by kernel_rfl) Z Z Z Z Z Z (sT Z (nZ Z (eZ Z (oN (tN (W_le (Le.nilBox (u := 8) (j := 0) 4 Z Z) (nY Z (rT ?_)))))))))))))))
 refine eR ?_
 ·first
  | exact less_rno (less_no hf0 (by omega) hex)
def leastA (p : Prog) (inp : List Int) (code value : Int) : Bool := endsOk p inp code value && endsB p inp code value
open Go.Eng
def tokE (e : List Tok) (k : Int) : Tok := (e[k.toNat]?).getD ⟨0, 0⟩
theorem tokE_at {e : List Tok} {k : Int} (h0 : 0 ≤ k) (h1 : k < e.length) : tokE e k = e[k.toNat]'(by omega) := by
 rw [tokE, List.getElem?_eq_getElem (by omega)]; rfl
def foldK (e : List Tok) (k : Nat) : Option (List Tok) :=
 if (tokE e ((k : Int) - 2)).op = 1 ∧ (tokE e ((k : Int) - 1)).op = 1 ∧ 3 ≤ (tokE e k).op ∧ (tokE e k).op ≤ 8 then
  match reckS (tokE e k).op (tokE e ((k : Int) - 2)).n (tokE e ((k : Int) - 1)).n with
  | none => none
  | some v => some (e.take (k - 2) ++ [⟨1, v⟩] ++ e.drop (k + 1))
 else none
def fold1 (e : List Tok) : Option (List Tok) := findN (foldK e) (e.length - 2) 2
theorem fold1_len {e x : List Tok} (h : fold1 e = some x) : x.length + 2 = e.length := by
 obtain ⟨k, h1, h2, h3⟩ := findN_some h
 unfold foldK at h3
 split at h3
 ·split at h3
  ·cases h3
  ·cases h3
   simp only [List.length_append, List.length_take, List.length_drop, List.length_cons, List.length_nil]
   omega
 ·cases h3
def foldN : Nat → List Tok → List Tok
 | 0, e => e
 | n + 1, e => match fold1 e with
  | none => e
  | some x => foldN n x
def foldE (e : List Tok) : List Tok := foldN e.length e
theorem foldN_none {e : List Tok} (h : fold1 e = none) (n : Nat) : foldN n e = e := by
 cases n with
 | zero => rfl
 | succ n => rw [foldN, h]
theorem foldN_more : ∀ {n : Nat} {e : List Tok}, e.length ≤ n → foldN n e = foldN e.length e
 | n, e, hn => by
  cases h : fold1 e with
  | none => rw [foldN_none h, foldN_none h]
  | some x =>
   have g := fold1_len h
   obtain ⟨m, hm⟩ : ∃ m, e.length = m + 1 := ⟨e.length - 1, by omega⟩
   obtain ⟨n', rfl⟩ : ∃ n', n = n' + 1 := ⟨n - 1, by omega⟩
   rw [hm, foldN, foldN, h]
   show foldN n' x = foldN m x
   rw [foldN_more (n := n') (by omega), foldN_more (n := m) (by omega)]
termination_by n => n
theorem foldE_none {e : List Tok} (h : fold1 e = none) : foldE e = e := foldN_none h _
theorem foldE_some {e x : List Tok} (h : fold1 e = some x) : foldE e = foldE x := by
 have g := fold1_len h
 unfold foldE
 obtain ⟨m, hm⟩ : ∃ m, e.length = m + 1 := ⟨e.length - 1, by omega⟩
 rw [hm, foldN, h]
 exact foldN_more (by omega)
section
variable {e : List Tok} {k : Int}
theorem foldK_at (h0 : 2 ≤ k) (h1 : k < e.length) : foldK e k.toNat = if (e[(k - 2).toNat]'(by omega)).op = 1 ∧ (e[(k - 1).toNat]'(by omega)).op = 1 ∧ 3 ≤ (e[k.toNat]'(by omega)).op ∧ (e[k.toNat]'(by omega)).op ≤ 8 then
  match reckS (e[k.toNat]'(by omega)).op (e[(k - 2).toNat]'(by omega)).n (e[(k - 1).toNat]'(by omega)).n with
  | none => none
  | some v => some (e.take (k - 2).toNat ++ [⟨1, v⟩] ++ e.drop (k + 1).toNat)
 else none := by
 unfold foldK
 rw [show ((k.toNat : Nat) : Int) = k from by omega, tokE_at (by omega) (by omega), tokE_at (by omega) (by omega), tokE_at (by omega) (by omega), show k.toNat - 2 = (k - 2).toNat from by omega, show k.toNat + 1 = (k + 1).toNat from by omega]
theorem fold_step (h0 : 2 ≤ k) (h1 : k < e.length) (hex : fold1 e = findN (foldK e) (e.length - k.toNat) k.toNat) (hn : foldK e k.toNat = none) : fold1 e = findN (foldK e) (e.length - (k + 1).toNat) (k + 1).toNat := by
 rw [hex, findN_at (by omega), hn, show (k + 1).toNat = k.toNat + 1 from by omega]
theorem fold_yes {x : List Tok} (h0 : 2 ≤ k) (h1 : k < e.length) (hex : fold1 e = findN (foldK e) (e.length - k.toNat) k.toNat) (hn : foldK e k.toNat = some x) : fold1 e = some x := by
 rw [hex, findN_at (by omega), hn]
theorem fold_no (h1 : ¬ k < e.length) (hex : fold1 e = findN (foldK e) (e.length - k.toNat) k.toNat) : fold1 e = none := by
 rw [hex, show e.length - k.toNat = 0 from by omega]; rfl
end
theorem l13Fold_fun (e : List Tok) (he : e.length ≤ 1048576) : Fun Tryz.prog 155 [.t (T.Toks e)] (tupD [.own (T.Toks ((fold1 e).getD [])), .t (.bool (fold1 e).isSome)]) := by
  refine Fun.begin tys Tryz.func155 Z Z (N := 79) [(0, .t (T.Toks e))] Z Z (fun w0 G F0 => ?_)
  refine sQ (rG (eK 2 Z (oN (tN (sQ (sQ (rG (eZ Z (oN (tN (W_block ?_)))))))))))
  refine lK (α := Int) [0] [] (fun x => [(4, .t (.int x))]) (fun x => []) (fun x => 2 ≤ x ∧ (x ≤ e.length ∨ x = 2) ∧ fold1 e = findN (foldK e) (e.length - x.toNat) x.toNat) (fun x => Int.toNat (e.length - x)) 2 ?_ (fun k hx => ?_)
  · exact ⟨by omega, by omega, rfl⟩
  obtain ⟨hk0, hk1, hex⟩ := hx
  refine nY Z (sQ (sQ (rG (eK 2 Z (evE ?_)))))
  refine eZ Z (oN (tN ?_))
  refine W_cond Z (fun h1 => ?_) (fun h1 => ?_)
  ·
    simp only [HS] at h1
    refine W_skip (tN (sQ (W_block (sQ (sQ (rG (eK 2 Z (evI ?_))))))))
    refine WO_idxT tys Z Z (lt_of Z) Z Z Z Z Z Z Z (by omega) _ (getT _ _ (by omega) (by omega)) (eZ Z (kZ [0,4,8,9,10,11,14,15,16,17,18] Z (eK 3 Z ?_)))
    refine WO_guard Z Z Z Z (lt_of Z) (fun h2 => ?_) (fun h2 => ?_)
    rotate_left
    ·
      simp only [HS] at h2
      refine gM Z (gM Z (gM Z (gM Z (gM Z (gM Z (kZ [0,4,8,9,10,11,14,15,16,17,18,19,20,21,22,23,24,25,26,27,28] Z (eK 2 Z (gM Z (gM Z (gM Z (gM Z (gM Z (gM Z (gM Z (kZ [0,4,8,9,10,11,14,15,16,17,18,19,20,21,22,23,24,25,26,27,28,29,30,31,32,33,34,35,36,37] Z ?_)))))))))))))))
      refine eZ Z (oN (tN (W_condT Z (W_exit (tE (inBlk_y (tN (rG (eZ Z (evI ?_))))))))))
      refine eZ Z (oN ?_)
      refine lQ _ ?_ ?_
      · skip
        refine ⟨by omega, by omega, fold_step hk0 (by omega) hex ?_⟩
        rw [foldK_at hk0 (by omega)]
        first
        | (rw [if_neg (fun h => h2 h.1)]; done)
      · (show Int.toNat _ < Int.toNat _); omega
    simp only [HS] at h2
    refine eZ Z (gY Z (eZ Z (gY Z (evI ?_))))
    refine gY Z (WO_idxT tys Z Z (lt_of Z) Z Z Z Z Z Z Z (by omega) _ (getT _ _ (by omega) (by omega)) (gY Z (eZ Z (gY Z (eZ Z (kZ [0,4,8,9,10,11,14,15,16,17,18,19,20,21,22,23,24,25,26,27] Z (gY Z (eK 3 Z ?_))))))))
    refine WO_guard Z Z Z Z (lt_of Z) (fun h3 => ?_) (fun h3 => ?_)
    rotate_left
    ·
      simp only [HS] at h3
      refine gM Z (gM Z (gM Z (gM Z (gM Z (gM Z (kZ [0,4,8,9,10,11,14,15,16,17,18,19,20,21,22,23,24,25,26,27,28,29,30,31,32,33,34,35,36,37] Z (eZ Z (oN (tN (W_condT Z (W_exit (tE (inBlk_y (tN (rG ?_)))))))))))))))
      refine eZ Z (evI ?_)
      refine eZ Z (oN ?_)
      refine lQ _ ?_ ?_
      · skip
        refine ⟨by omega, by omega, fold_step hk0 (by omega) hex ?_⟩
        rw [foldK_at hk0 (by omega)]
        first
        | (rw [if_neg (fun h => h3 h.2.1)]; done)
      · (show Int.toNat _ < Int.toNat _); omega
    simp only [HS] at h3
    refine eZ Z (gY Z (eZ Z (gY Z (WO_idxT tys Z Z (lt_of Z) Z Z Z Z Z Z Z (by omega) _ (getT _ _ (by omega) (by omega)) (gY Z (eZ Z (gY Z (eZ Z (gY Z (callB ?_))))))))))
    refine ⟨_, l1In_fun _ _ _, rfl, ?_⟩
    refine kZ [0,4,8,9,10,11,14,15,16,17,18,19,20,21,22,23,24,25,26,27,28,29,30,31,32,33,34,35,36] Z (gY Z (eK 2 Z (oN (tN ?_))))
    refine W_cond Z (fun h4 => ?_) (fun h4 => ?_)
    ·
      simp only [HS] at h4
      refine W_exit (tE (inBlk_y (tN (rG (eZ Z (evI ?_))))))
      refine eZ Z (oN ?_)
      refine lQ _ ?_ ?_
      · skip
        refine ⟨by omega, by omega, fold_step hk0 (by omega) hex ?_⟩
        rw [foldK_at hk0 (by omega)]
        first
        | (rw [if_neg (fun h => h4 h.2.2)]; done)
      · (show Int.toNat _ < Int.toNat _); omega
    simp only [HS] at h4
    refine W_skip (tN (sQ (W_regionD mixed (by kernel_rfl) (evQ ?_))))
    refine evQ ?_
    refine QL_idxT tys Z Z (lt_of Z) Z Z Z Z Z Z Z (by omega) _ (getT _ _ (by omega) (by omega)) (evQ ?_)
    refine QL_norm Z (evQ ?_)
    refine evQ ?_
    refine evQ ?_
    refine evIQ ?_
    refine QL_idxT tys Z Z (lt_of Z) Z Z Z Z Z Z Z (by omega) _ (getT _ _ (by omega) (by omega)) (evQ ?_)
    refine QL_norm Z (evQ ?_)
    refine evQ ?_
    refine evQ ?_
    refine evIQ ?_
    refine QL_idxT tys Z Z (lt_of Z) Z Z Z Z Z Z Z (by omega) _ (getT _ _ (by omega) (by omega)) (evQ ?_)
    refine QL_norm Z (evQ ?_)
    refine callBQ ?_
    refine ⟨_, l2Reckon_fun _ _ _, rfl, ?_⟩
    refine evQ ?_
    refine evQ ?_
    refine evQ ?_
    refine evQ ?_
    refine QL_norm Z (evQ ?_)
    refine QL_nil (tN (sQ (sQ (rG (eK 2 Z (oN (tN ?_)))))))
    refine W_cond Z (fun h5 => ?_) (fun h5 => ?_)
    ·
      simp only [HS] at h5
      refine W_exit (tE (inBlk_y (tN (rG (eZ Z (evI ?_))))))
      refine eZ Z (oN ?_)
      refine lQ _ ?_ ?_
      · skip
        refine ⟨by omega, by omega, fold_step hk0 (by omega) hex ?_⟩
        rw [foldK_at hk0 (by omega)]
        first
        | (rw [if_pos ⟨h2, h3, h4.1, h4.2⟩]
           cases hr : reckS (e[k.toNat]'(by omega)).op (e[(k - 2).toNat]'(by omega)).n (e[(k - 1).toNat]'(by omega)).n with
           | none => rfl
           | some v => rw [hr] at h5; cases h5)
      · (show Int.toNat _ < Int.toNat _); omega
    simp only [HS] at h5
    refine W_skip (tN (sQ (rG ?_)))
    refine WO_buildSlice tys [] Z Z (lt_of Z) Z Z Z Z Z (by decide) (by repeat (first | exact PartsOk.nil' | refine PartsOk.cons' rfl (by repeat (first | exact AbsL.nil' | refine AbsL.v' ?_ | refine AbsL.own' ?_ | refine AbsL.none' ?_)) Z ?_)) (by first | exact List.nodup_nil | exact nodup1 _ | decide | exact nodupB_sound Z) Z (by decide) ?_
    refine nZ Z (eK 2 Z (evI ?_))
    refine WO_sliceT tys Z Z (lt_of Z) Z Z Z Z Z Z Z Z (by first | omega | (simp only [List.length_map]; omega)) (by first | omega | (simp only [List.length_map]; omega)) (by first | omega | (simp only [List.length_map]; omega)) ?_
    refine WO_append tys Z Z (lt_of Z) Z Z Z Z Z (.own Z (by first | omega | (simp only [List.length_append]; omega))) Z (.read (fun x hx => readTok e x (List.mem_of_mem_drop (List.mem_of_mem_take hx)))) (by decide) (by simp; omega) (by decide) Z ?_
    refine nZ Z (kZ [0,4,5,6,8,9,10,11,14,15,16,17,18,19,20,21,22,23,24,25,26,27,28,29,30,31,32,33,34,35,36,37,38,39,40,41,42,43,44,45,46,47,48,49,50,51,52,53,54,55,56,57,58,59,60,61,62,63,64,65,66,67] Z (eZ Z (oN (tN (sQ (rG (eK 2 Z (WO_struct tys Z Z (lt_of Z) Z Z Z (by kernel_rfl) Z Z Z Z Z Z ?_))))))))
    refine WO_buildSlice tys [.agg [.v (.int .i64 1), .v (.int .i64 ((reckS (e[k.toNat]'(by omega)).op (e[(k - 2).toNat]'(by omega)).n (e[(k - 1).toNat]'(by omega)).n).getD 0))]] Z Z (lt_of Z) Z Z Z Z Z (lt_of Z) (by repeat (first | exact PartsOk.nil' | refine PartsOk.cons' rfl (by repeat (first | exact AbsL.nil' | refine AbsL.v' ?_ | refine AbsL.own' ?_ | refine AbsL.none' ?_)) Z ?_)) (by first | exact List.nodup_nil | exact nodup1 _ | decide | exact nodupB_sound Z) Z (by decide) ?_
    refine nZ Z (WO_append tys Z Z (lt_of Z) Z Z Z Z Z (.own Z (by first | omega | (simp only [List.length_append]; omega))) Z (.own Z (by first | decide | omega)) (by decide) (by simp; omega) (by decide) Z ?_)
    refine nZ Z (eZ Z (oN (tN (sQ (kY [0,4,5,6,7,8,9,10,11,14,15,16,17,18,19,20,21,22,23,24,25,26,27,28,29,30,31,32,33,34,35,36,37,38,39,40,41,42,43,44,45,46,47,48,49,50,51,52,53,54,55,56,57,58,59,60,61,62,63,64,65,66,67,68,69,70,71,72] Z (rG (eK 3 Z (evI ?_))))))))
    refine WO_sliceT tys Z Z (lt_of Z) Z Z Z Z Z Z Z Z (by first | omega | (simp only [List.length_map]; omega)) (by first | omega | (simp only [List.length_map]; omega)) (by first | omega | (simp only [List.length_map]; omega)) ?_
    refine WO_append tys Z Z (lt_of Z) Z Z Z Z Z (.own Z (by first | omega | (simp only [List.length_append]; omega))) Z (.read (fun x hx => readTok e x (List.mem_of_mem_drop (List.mem_of_mem_take hx)))) (by decide) (by simp; omega) (by decide) Z ?_
    refine nZ Z (eK 2 Z (oN (tN ?_)))
    (refine W_le (Le.gather (u := 2) (id := 62) rfl rfl (by simp)) ?_)
    refine rT (bR (tR (loopQ_r (bR (tR (eR ?_))))))
    · first
      | (obtain ⟨v, hv⟩ := Option.isSome_iff_exists.1 h5
         have hx := fold_yes hk0 h1 hex (x := e.take (k - 2).toNat ++ [⟨1, v⟩] ++ e.drop (k + 1).toNat) (by rw [foldK_at hk0 h1, if_pos ⟨h2, h3, h4.1, h4.2⟩, hv])
         have hdr : List.take ((((e.map Tok.tt).length : Nat) : Int).toNat - (k + 1).toNat) (List.drop (k + 1).toNat (e.map Tok.tt)) = List.drop (k + 1).toNat (e.map Tok.tt) := List.take_of_length_le (by simp)
         rw [hx, hv]
         simp only [take_app, List.take_length, List.nil_append, List.length_nil, Nat.zero_add, List.take_nil, hdr]
         simp only [T.Toks, Option.getD_some, List.map_append, List.map_take, List.map_drop, Option.isSome_some]
         rfl)
  simp only [HS] at h1
  refine W_exit (tE (loopQ_e (inBlk_y (tN (sQ (rG (eK 2 Z (oN (tN (W_le (Le.nilOwn (u := 2) 2 Z) (rT (eR ?_))))))))))))
  · first
    | (rw [fold_no (by omega) hex]; rfl)
theorem l13Expr_fun (e : List Tok) (he : e.length ≤ 1048576) : Fun Tryz.prog 92 [.t (T.Toks e)] (tupD [.own (T.Toks (foldE e))]) := by
  refine Fun.begin tys Tryz.func92 Z Z (N := 18) [(0, .t (T.Toks e))] Z Z (fun w0 G F0 => ?_)
  refine sQ (rG (eZ Z (oN (tN (sQ (rG ?_))))))
  refine WO_buildSlice tys [] Z Z (lt_of Z) Z Z Z Z Z (by decide) (by repeat (first | exact PartsOk.nil' | refine PartsOk.cons' rfl (by repeat (first | exact AbsL.nil' | refine AbsL.v' ?_ | refine AbsL.own' ?_ | refine AbsL.none' ?_)) Z ?_)) (by first | exact List.nodup_nil | exact nodup1 _ | decide | exact nodupB_sound Z) Z (by decide) ?_
  refine nZ Z (eZ Z (WO_append tys Z Z (lt_of Z) Z Z Z Z Z (.own Z (by first | omega | (simp only [List.length_append]; omega))) Z (.read (readTok _)) (by decide) (by simp; omega) (by decide) Z ?_))
  refine nZ Z (eZ Z (nZ Z (WO_le (Le.gather (u := 3) (id := 6) Z Z (by simp)) ?_)))
  refine WO_le (Le.eqF (u := 3) (e := .own (T.Toks e)) Z (by
   show D.own (T.list 2 (List.take (0 + (e.map Tok.tt).length) ([] ++ e.map Tok.tt))) = _
   rw [List.take_of_length_le (by simp)]; rfl)) ?_
  refine nZ Z (oN (tN (W_block ?_)))
  refine lK (α := List Tok) [0] [] (fun x => [(3, .own (T.Toks x))]) (fun x => []) (fun x => x.length ≤ e.length ∧ foldE e = foldE x) (fun x => Int.toNat (x.length)) e ?_ (fun l hx => ?_)
  · exact ⟨by omega, rfl⟩
  obtain ⟨hl0, hex⟩ := hx
  refine nY Z (W_block (sQ (rG (nZ Z (WO_le (Le.adoptE (u := 3) 6 Z (List.length_map _)) (nZ Z (eZ Z (callB ?_))))))))
  refine ⟨_, l13Fold_fun l (by omega), rfl, ?_⟩
  refine WO_moveAll Z Z (lt_of Z) (.inr Z) Z Z (WO_extract Z Z (lt_of Z) Z Z Z Z ?_)
  first | refine WO_le (Le.adoptE (u := 12) 12 rfl (by first | exact lenN | exact rfl)) ?_ | skip
  refine nZ Z (WO_evF tys Z Z (lt_of Z) (d := .t _) Z (nZ Z (eK 2 Z (oN (tN (sQ (sQ (kY [0,3,4,5,9,10,11,12,13] Z (rG (eK 2 Z (oN (tN ?_))))))))))))
  refine W_cond Z (fun h1 => ?_) (fun h1 => ?_)
  ·
    simp only [HS] at h1
    refine sQ (rG (eK 2 Z (oN (tN (W_le (Le.gather (u := 2) (id := 6) Z Z (by simp)) ?_)))))
    refine rT (tR (bR (loopQ_r (bR (eR ?_)))))
    · (rw [hex, foldE_none (by cases hf : fold1 l with | none => rfl | some x => rw [hf] at h1; cases h1), List.take_of_length_le (by simp)])
  simp only [HS] at h1
  refine W_skip (tN (rG (eK 2 Z (nZ Z (WO_le (Le.gather (u := 3) (id := 12) Z Z (by simp)) ?_)))))
  refine WO_le (Le.eqF (u := 3) (e := .own (T.Toks ((fold1 l).getD []))) Z (by rw [List.take_of_length_le (by simp)]; rfl)) ?_
  obtain ⟨x, hx⟩ := Option.isSome_iff_exists.1 h1
  have hxl := fold1_len hx
  have hxg : (fold1 l).getD [] = x := by rw [hx]; rfl
  have hlt : ((fold1 l).getD []).length < l.length := by rw [hxg]; omega
  refine nZ Z (oN (bN ?_))
  refine lQ _ ?_ ?_
  · skip
    exact ⟨by omega, by rw [hxg, hex, foldE_some hx]⟩
  · (show Int.toNat _ < Int.toNat _); omega
def foldS (s : Stmt) : Stmt := ⟨s.kind, s.n, foldE s.ex, s.thn, s.els⟩
def foldF (f : Func) : Func := ⟨f.params, f.vars, f.body, f.stmts.map foldS⟩
theorem foldProg_fun (p : Prog) (hp : p.ok 1048576) (hg : goodP p = true) : Fun Tryz.prog 51 [.t p.tt] (tupD [.agg [.own (T.Funcs (p.funcs.map foldF))], .t (.bool true)]) := by
  have hpl : p.funcs.length ≤ 1048576 := hp.1.1
  refine Fun.begin tys Tryz.func51 Z Z (N := 64) [(0, .t p.tt)] Z Z (fun w0 G F0 => ?_)
  refine sQ (rG (WO_box Z Z (lt_of Z) Z Z (nZ Z (WO_alloc tys Z Z (lt_of Z) Z Z Z (nZ Z (eZ Z (oN (tN (sQ (sQ (rG (eZ Z ?_))))))))))))
  try refine WO_le (Le.freeze (u := 10) rfl) ?_
  refine nZ Z (callB ?_)
  refine ⟨_, goodProg_fun p hp, rfl, ?_⟩
  refine eZ Z (WO_le (Le.known (t := 12) false Z (by simp [hg])) ?_)
  refine oN (tN (W_condF Z (W_skip (tN (sQ (rG (WO_alloc tys Z Z (lt_of Z) Z Z Z (nZ Z (oN (tN (sQ (sQ (kY [1,2,3,4] Z (rG (nZ Z ?_)))))))))))))))
  refine WO_le (Le.nilBox (u := 4) (j := 0) 4 Z Z) (nZ Z (WO_le (Le.adoptBox (u := 4) (j := 0) (id := 190) Z Z Z) (nZ Z (eK 2 Z (evE ?_)))))
  refine eZ Z (oN (tN (W_block ?_)))
  refine lK (α := Int × Nat × List T) [1, 2, 4, 15, 16] [1, 2] (fun x => [(17, .t (.int (x.1)))]) (fun x => [(4, .box [.sl 190 0 (x.2.1)]), (190, .L 4 (x.2.2))]) (fun x => 0 ≤ (x.1) ∧ (x.1) ≤ p.funcs.length ∧ (x.2.1) = (x.2.2).length ∧ (x.2.2) = ((p.funcs.take (x.1).toNat).map foldF).map Func.tt) (fun x => Int.toNat (p.funcs.length - (x.1))) (0, 0, []) ?_ (fun x hx => ?_)
  · exact ⟨by omega, by omega, rfl, rfl⟩
  obtain ⟨k, m, xs⟩ := x
  obtain ⟨hk0, hk1, hm, hxs⟩ := hx
  dsimp only at hk0 hk1 hm hxs ⊢
  refine nY Z (sQ (rG (eZ Z (oN (tN (sQ ?_))))))
  refine W_cond Z (fun h1 => ?_) (fun h1 => ?_)
  ·
    simp only [HS] at h1
    refine W_skip (tN (sQ (W_block (sQ (rG ?_)))))
    have hf := func_ok hp (n := k.toNat) (by omega)
    have hfl := hf.2.1.1
    have hbl : (p.funcs[k.toNat]'(by omega)).body.length ≤ 1048576 := hf.1
    refine WO_idxT tys Z Z (lt_of Z) Z Z Z Z Z Z Z (by omega) _ (getT _ _ (by omega) (by omega)) (eZ Z ?_)
    try refine WO_le (Le.freeze (u := 20) rfl) ?_
    refine nZ Z (WO_alloc tys Z Z (lt_of Z) Z Z Z (nZ Z (sT Z (nZ Z (oN (tN (sQ (W_regionGm 9 mixed Z (by kernel_rfl) (by kernel_rfl) (QG_ev tys Z Z (lt_of Z) Z (QG_norm Z ?_))))))))))
    iterate 5 (refine QG_ev tys rfl rfl (lt_of rfl) rfl ?_)
    refine callBG ?_
    refine ⟨_, l1Own_fun _ (by omega), rfl, ?_⟩
    refine QG_norm Z (QG_struct tys Z Z (lt_of Z) Z Z Z (by kernel_rfl) Z Z Z Z Z Z (QG_alloc tys Z Z (lt_of Z) Z Z Z Z (QG_nil ?_)))
    refine ⟨by kernel_rfl, ?_⟩
    refine nZ Z (sT Z (nZ Z (oN (tN (sQ (sQ (rG (nZ Z (WO_le (Le.nilBox (u := 7) (j := 3) 5 Z Z) (nZ Z (WO_le (Le.adoptBox (u := 7) (j := 3) (id := 180) Z Z Z) (nZ Z (eK 2 Z (evE ?_))))))))))))))
    refine eZ Z (oN (tN (W_block ?_)))
    refine lK (α := Int × Nat × List T) [1, 2, 4, 7, 15, 16, 17, 30, 31] [1, 2, 4, 190] (fun x => [(32, .t (.int (x.1)))]) (fun x => [(7, .box [.t (T.int (p.funcs[k.toNat]'(by omega)).params), .t (T.int (p.funcs[k.toNat]'(by omega)).vars), .own (T.ints (p.funcs[k.toNat]'(by omega)).body), .sl 180 0 (x.2.1)]), (180, .L 5 (x.2.2))]) (fun x => 0 ≤ (x.1) ∧ (x.1) ≤ (p.funcs[k.toNat]'(by omega)).stmts.length ∧ (x.2.1) = (x.2.2).length ∧ (x.2.2) = (((p.funcs[k.toNat]'(by omega)).stmts.take (x.1).toNat).map foldS).map Stmt.tt) (fun x => Int.toNat ((p.funcs[k.toNat]'(by omega)).stmts.length - (x.1))) (0, 0, []) ?_ (fun x hx => ?_)
    · exact ⟨by omega, by omega, rfl, rfl⟩
    obtain ⟨j, m2, ys⟩ := x
    obtain ⟨hj0, hj1, hm2, hys⟩ := hx
    dsimp only at hj0 hj1 hm2 hys ⊢
    refine nY Z (sQ (rG (eZ Z (oN (tN (sQ ?_))))))
    refine W_cond Z (fun h2 => ?_) (fun h2 => ?_)
    ·
      simp only [HS] at h2
      refine W_skip (tN (sQ (W_block (sQ (rG ?_)))))
      have hso := stmt_ok hf (n := j.toNat) (by omega)
      refine WO_idxT tys Z Z (lt_of Z) Z Z Z Z Z Z Z (by omega) _ (getT _ _ (by omega) (by omega)) (eZ Z ?_)
      try refine WO_le (Le.freeze (u := 35) rfl) ?_
      refine nZ Z (WO_alloc tys Z Z (lt_of Z) Z Z Z (nZ Z (sT Z (nZ Z (oN (tN (W_regionGm 17 mixed Z (by kernel_rfl) (by kernel_rfl) (QG_ev tys Z Z (lt_of Z) Z (QG_norm Z ?_)))))))))
      iterate 6 (refine QG_ev tys rfl rfl (lt_of rfl) rfl ?_)
      refine QG_norm Z (QG_ev tys Z Z (lt_of Z) Z (callBG ?_))
      refine ⟨_, l13Expr_fun _ hso.2.2, rfl, ?_⟩
      refine QG_ev tys Z Z (lt_of Z) Z (QG_ev tys Z Z (lt_of Z) Z (callBG ?_))
      refine ⟨_, l1Own_fun _ (by have := hso.1; omega), rfl, ?_⟩
      refine QG_ev tys Z Z (lt_of Z) Z (QG_norm Z (QG_ev tys Z Z (lt_of Z) Z (callBG ?_)))
      refine ⟨_, l1Own_fun _ (by have := hso.2.1; omega), rfl, ?_⟩
      refine QG_struct tys Z Z (lt_of Z) Z Z Z (by kernel_rfl) Z Z Z Z Z Z ?_
      refine QG_buildS tys [(foldS ((p.funcs[k.toNat]'(by omega)).stmts[j.toNat]'(by omega))).tt] Z Z (lt_of Z) Z Z Z Z Z (lt_of Z) (by repeat (first | exact PartsOk.nil' | refine PartsOk.cons' rfl (by repeat (first | exact AbsL.nil' | refine AbsL.v' ?_ | refine AbsL.own' ?_ | refine AbsL.none' ?_)) Z ?_)) Z Z Z (by decide) ?_
      refine QG_nil ?_
      refine ⟨by kernel_rfl, ?_⟩
      refine nZ Z (WO_le (Le.adoptE (u := 52) 52 Z Z) (nZ Z (WO_append tys Z Z (lt_of Z) Z Z Z Z Z (.own Z (by first | omega | (simp only [List.length_append]; omega))) Z (.own Z (by first | decide | omega)) (by decide) (by simp only [List.length_take, List.length_cons, List.length_nil]; rw [hys, List.length_map, List.length_map, List.length_take]; omega) (by decide) Z ?_)))
      refine nZ Z (eZ Z (sT Z (nZ Z (oN (bN (tN (rG (evI ?_))))))))
      refine eZ Z (oN ?_)
      refine lQ (_, _, _) ?_ ?_
      · dsimp only
        subst hm2
        refine ⟨by omega, by omega, by simp, ?_⟩
        rw [List.take_length, hys, take_at hj0 (by omega), List.map_append, List.map_append]
        all_goals rfl
      · (show Int.toNat _ < Int.toNat _); omega
    simp only [HS] at h2
    refine W_exit (tE (loopQ_e (inBlk_y (tN (rG (nZ Z (WO_le (Le.gatherBox (u := 7) (j := 3) (id := 180) Z Z Z (by omega) Z) (nZ Z (eK 2 Z (WO_loadMove tys Z Z (lt_of Z) Z Z Z Z Z Z (nZ Z ?_)))))))))))
    refine WO_buildSlice tys [.agg [T.int (p.funcs[k.toNat]'(by omega)).params, T.int (p.funcs[k.toNat]'(by omega)).vars, T.ints (p.funcs[k.toNat]'(by omega)).body, .list 5 (ys.take m2)]] Z Z (lt_of Z) Z Z Z Z Z (lt_of Z) (by repeat (first | exact PartsOk.nil' | refine PartsOk.cons' rfl (by repeat (first | exact AbsL.nil' | refine AbsL.v' ?_ | refine AbsL.own' ?_ | refine AbsL.none' ?_)) Z ?_)) (by first | exact List.nodup_nil | exact nodup1 _ | decide | exact nodupB_sound Z) Z (by decide) ?_
    refine nZ Z (WO_append tys Z Z (lt_of Z) Z Z Z Z Z (.own Z (by first | omega | (simp only [List.length_append]; omega))) Z (.own Z (by first | decide | omega)) (by decide) (by simp only [List.length_take, List.length_cons, List.length_nil]; rw [hxs, List.length_map, List.length_map, List.length_take]; omega) (by decide) Z ?_)
    refine nZ Z (eZ Z (sT Z (nZ Z (oN (bN (tN (kY [1,2,4,7,15,16,17,30,31,32,33,56,57,58,59,60,61] Z (rG (evI ?_)))))))))
    refine eZ Z (oN ?_)
    refine lQ (_, _, _) ?_ ?_
    · dsimp only
      have e : (foldF (p.funcs[k.toNat]'(by omega))).tt = .agg [T.int (p.funcs[k.toNat]'(by omega)).params, T.int (p.funcs[k.toNat]'(by omega)).vars, T.ints (p.funcs[k.toNat]'(by omega)).body, .list 5 (ys.take m2)] := by
       rw [hm2, List.take_length, hys, List.take_of_length_le (l := (p.funcs[k.toNat]'(by omega)).stmts) (by omega)]
       rfl
      subst hm
      refine ⟨by omega, by omega, by simp, ?_⟩
      rw [List.take_length, hxs, take_at hk0 (by omega), List.map_append, List.map_append, List.map_cons, List.map_cons, List.map_nil, List.map_nil, e]
      all_goals rfl
    · (show Int.toNat _ < Int.toNat _); omega
  simp only [HS] at h1
  refine W_exit (tE (loopQ_e (inBlk_y (tN (sQ (rG (nZ Z (WO_le (Le.gatherBox (u := 4) (j := 0) (id := 190) Z Z Z (by omega) Z) (nZ Z (WO_loadMove tys Z Z (lt_of Z) Z Z Z Z Z Z (nZ Z (sT Z (nZ Z (eZ Z (oN ?_)))))))))))))))
  refine tN (rT (eR ?_))
  · rw [hm, List.take_length, hxs, List.take_of_length_le (by omega)]
    all_goals rfl
open Go.Eng
def manyP (p : Prog) : Nat := (p.funcs.map fun f => f.stmts.length).sum
section
variable {p q : Prog} {inp : List Int} {code value : Int}
theorem lessP_some (h : lessP p inp code value = some q) : ∃ fn k : Int, 0 ≤ fn ∧ fn < p.funcs.length ∧ 0 ≤ k ∧ k < (funcAt p fn).stmts.length ∧ q = dropP p fn k := by
 obtain ⟨fn, _, h1, h2⟩ := findN_some h
 obtain ⟨k, _, h3, h4⟩ := findN_some h2
 unfold tryD at h4
 split at h4
 ·cases h4
  exact ⟨fn, k, by omega, by omega, by omega, by omega, rfl⟩
 ·cases h4
theorem sum_less {α : Type} {f g : α → Nat} : ∀ {l : List α} {x : α}, x ∈ l → g x < f x → (∀ y, y ∈ l → g y ≤ f y) → (l.map g).sum < (l.map f).sum
 | [], _, h, _, _ => by cases h
 | y :: l, x, h, hx, hl => by
  have h1 := hl y (by simp)
  have h2 : (l.map g).sum ≤ (l.map f).sum := by
   have : ∀ l' : List α, (∀ y, y ∈ l' → g y ≤ f y) → (l'.map g).sum ≤ (l'.map f).sum := by
    intro l'
    induction l' with
    | nil => intro _; exact Nat.le_refl _
    | cons z l' ih =>
     intro hz
     have a := hz z (by simp)
     have b := ih fun y hy => hz y (by simp [hy])
     simp only [List.map_cons, List.sum_cons]
     omega
   exact this l fun y hy => hl y (by simp [hy])
  simp only [List.map_cons, List.sum_cons]
  rcases List.mem_cons.1 h with rfl | h
  ·omega
  ·have := sum_less h hx fun y hy => hl y (by simp [hy])
   omega
theorem many_drop {fn k : Int} (hg : goodP p = true) (h0 : 0 ≤ fn) (h1 : fn < p.funcs.length) (h2 : 0 ≤ k) (h3 : k < (funcAt p fn).stmts.length) : manyP (dropP p fn k) < manyP p := by
 have hgf := goodP_fn hg (n := fn.toNat) (by omega)
 have hsh := goodF_shape hgf
 have hfa := (funcAt_at (p := p) (n := fn) (by omega)).symm
 rw [hfa] at h3
 have hq := gone_run hsh h2 h3
 unfold manyP
 conv => rhs; rw [funcs_at p]
 unfold dropP
 rw [List.map_map, List.map_map]
 refine sum_less (x := fn.toNat) (List.mem_range.2 (by omega)) ?_ fun y _ => ?_
 ·show ((pickC (wantG (goneK p fn k (fn.toNat : Nat))) 0 (funcAt p (fn.toNat : Nat)).stmts).map (leftS _)).length < (funcAt p (fn.toNat : Nat)).stmts.length
  rw [show ((fn.toNat : Nat) : Int) = fn from by omega, hfa, goneK, if_pos rfl, hfa, List.length_map]
  have e := leftF_Y hsh h2 h3
  have e2 := congrArg (fun f => f.stmts.length) e
  have e3 : (leftF (ordF (p.funcs[fn.toNat]'(by omega)) [k]) (p.funcs[fn.toNat]'(by omega))).stmts.length = (pickC (wantG (ordF (p.funcs[fn.toNat]'(by omega)) [k])) 0 (p.funcs[fn.toNat]'(by omega)).stmts).length := by
   show ((pickC _ 0 _).map _).length = _
   rw [List.length_map]
  have e4 : (leftY k (goneN (p.funcs[fn.toNat]'(by omega)) k) (p.funcs[fn.toNat]'(by omega))).stmts.length + goneN (p.funcs[fn.toNat]'(by omega)) k = (p.funcs[fn.toNat]'(by omega)).stmts.length := stmZ_len h2 hq.2.2
  rw [← e3, e2]
  have hq1 := hq.2.1
  omega
 ·show ((pickC (wantG (goneK p fn k (y : Nat))) 0 (funcAt p (y : Nat)).stmts).map (leftS _)).length ≤ (funcAt p (y : Nat)).stmts.length
  rw [List.length_map]
  exact pickC_len _ _ _
theorem less_good (hg : goodP p = true) (hp : p.ok 1048576) (h : lessP p inp code value = some q) : goodP q = true ∧ q.ok 1048576 ∧ manyP q < manyP p := by
 obtain ⟨fn, k, h0, h1, h2, h3, rfl⟩ := lessP_some h
 exact ⟨goodP_drop hg h0 h1 h2 h3, ok_dropP hp fn k, many_drop hg h0 h1 h2 h3⟩
theorem less_ok {B : Nat} (hp : p.ok B) (h : lessP p inp code value = some q) : q.ok B ∧ ctProg q ≤ ctProg p := by
 obtain ⟨fn, k, h0, h1, h2, h3, rfl⟩ := lessP_some h
 refine ⟨ok_dropP hp fn k, ?_⟩
 show ctL ctFunc (dropP p fn k).funcs ≤ ctL ctFunc p.funcs
 conv => rhs; rw [funcs_at p]
 exact ctL_le2 (f := fun j : Nat => leftF (goneK p fn k j) (funcAt p j)) (g := fun j : Nat => funcAt p j) fun j _ => ctF_left _ _
def shrinkN (inp : List Int) (code value : Int) : Nat → Prog → Prog
 | 0, p => p
 | n + 1, p => match lessP p inp code value with
  | none => p
  | some q => shrinkN inp code value n q
def shrinkP (p : Prog) (inp : List Int) (code value : Int) : Prog := shrinkN inp code value (manyP p) p
theorem shrinkN_none (h : lessP p inp code value = none) (n : Nat) : shrinkN inp code value n p = p := by
 cases n with
 | zero => rfl
 | succ n => rw [shrinkN, h]
theorem shrinkN_more : ∀ {n : Nat} {p : Prog}, goodP p = true → p.ok 1048576 → manyP p ≤ n → shrinkN inp code value n p = shrinkN inp code value (manyP p) p
 | n, p, hg, hp, hn => by
  cases h : lessP p inp code value with
  | none => rw [shrinkN_none h, shrinkN_none h]
  | some q =>
   obtain ⟨g1, g2, g3⟩ := less_good hg hp h
   obtain ⟨m, hm⟩ : ∃ m, manyP p = m + 1 := ⟨manyP p - 1, by omega⟩
   obtain ⟨n', rfl⟩ : ∃ n', n = n' + 1 := ⟨n - 1, by omega⟩
   rw [hm, shrinkN, shrinkN, h]
   show shrinkN inp code value n' q = shrinkN inp code value m q
   rw [shrinkN_more g1 g2 (n := n') (by omega), shrinkN_more g1 g2 (n := m) (by omega)]
termination_by n => n
theorem shrinkP_none (h : lessP p inp code value = none) : shrinkP p inp code value = p := shrinkN_none h _
theorem shrinkP_some (hg : goodP p = true) (hp : p.ok 1048576) (h : lessP p inp code value = some q) : shrinkP p inp code value = shrinkP q inp code value := by
 obtain ⟨g1, g2, g3⟩ := less_good hg hp h
 unfold shrinkP
 obtain ⟨m, hm⟩ : ∃ m, manyP p = m + 1 := ⟨manyP p - 1, by omega⟩
 rw [hm, shrinkN, h]
 exact shrinkN_more g1 g2 (by omega)
theorem shrinkN_ok {B : Nat} : ∀ {n : Nat} {p : Prog}, p.ok B → (shrinkN inp code value n p).ok B ∧ ctProg (shrinkN inp code value n p) ≤ ctProg p
 | 0, p, hp => ⟨hp, Int.le_refl _⟩
 | n + 1, p, hp => by
  rw [shrinkN]
  split
  ·exact ⟨hp, Int.le_refl _⟩
  ·rename_i q h
   have h1 := less_ok hp h
   have h2 := shrinkN_ok (n := n) h1.1
   exact ⟨h2.1, Int.le_trans h2.2 h1.2⟩
theorem shrinkP_ok {B : Nat} (hp : p.ok B) : (shrinkP p inp code value).ok B ∧ ctProg (shrinkP p inp code value) ≤ ctProg p := shrinkN_ok hp
end
open Go.Eng
def mixR {α : Type} (g : α → α) (l : List α) (k : Nat) : List α := l.take k ++ (l.drop k).map g
theorem mixR_zero {α : Type} (g : α → α) (l : List α) : mixR g l 0 = l.map g := by simp [mixR]
theorem mixR_end {α : Type} (g : α → α) (l : List α) {k : Nat} (h : l.length ≤ k) : mixR g l k = l := by simp [mixR, List.take_of_length_le h, List.drop_eq_nil_of_le h]
theorem mixR_len {α : Type} (g : α → α) (l : List α) (k : Nat) : (mixR g l k).length = l.length := by simp [mixR]; omega
theorem mixR_at {α : Type} (g : α → α) (l : List α) {k : Nat} (h : k < l.length) : (mixR g l k)[k]? = some (g l[k]) := by
 unfold mixR
 rw [List.getElem?_append_right (by rw [List.length_take]; omega), List.length_take, show k - min k l.length = 0 from by omega, List.getElem?_map, List.getElem?_drop, Nat.add_zero, List.getElem?_eq_getElem h]
 rfl
theorem mixR_set {α : Type} (g : α → α) (l : List α) {k : Nat} (h : k < l.length) : (mixR g l k).set k l[k] = mixR g l (k + 1) := by
 unfold mixR
 rw [List.set_append_right _ _ (by rw [List.length_take]; omega), List.length_take, show k - min k l.length = 0 from by omega, List.drop_eq_getElem_cons h, List.map_cons, List.set_cons_zero, List.take_succ_eq_append_getElem h, List.append_assoc]
 rfl
def halfF (f : Func) (j : Nat) : Func := ⟨f.params, f.vars, f.body, mixR foldS f.stmts j⟩
def halfL (l : List Func) (k j : Nat) (h : k < l.length) : List Func := (mixR foldF l k).set k (halfF l[k] j)
theorem halfL_zero (l : List Func) (k : Nat) (h : k < l.length) : halfL l k 0 h = mixR foldF l k := by
 unfold halfL halfF
 rw [mixR_zero]
 exact set_self (mixR_at foldF l h)
theorem halfL_end (l : List Func) (k : Nat) (h : k < l.length) {j : Nat} (hj : (l[k]).stmts.length ≤ j) : halfL l k j h = mixR foldF l (k + 1) := by
 unfold halfL halfF
 rw [mixR_end _ _ hj]
 exact mixR_set foldF l h
theorem halfL_at (l : List Func) (k j : Nat) (h : k < l.length) : (halfL l k j h)[k]? = some (halfF l[k] j) := by
 unfold halfL
 exact List.getElem?_set_self (by rw [mixR_len]; exact h)
theorem halfL_next (l : List Func) (k j : Nat) (h : k < l.length) (hj : j < (l[k]).stmts.length) :
  (((halfL l k j h).map Func.tt).set k (.agg [T.int (l[k]).params, T.int (l[k]).vars, T.ints (l[k]).body, .list 5 (((mixR foldS (l[k]).stmts j).map Stmt.tt).set j (l[k]).stmts[j].tt)])) = (halfL l k (j + 1) h).map Func.tt := by
 have e : (((mixR foldS (l[k]).stmts j).map Stmt.tt).set j (l[k]).stmts[j].tt) = (mixR foldS (l[k]).stmts (j + 1)).map Stmt.tt := by
  rw [← mixR_set foldS _ hj, List.map_set]
 rw [e]
 unfold halfL
 rw [List.map_set, List.map_set, List.set_set]
 rfl
def shrR (p : Prog) (inp : List Int) (code value : Int) : Prog := if leastA p inp code value = true then shrinkP p inp code value else ⟨[]⟩
theorem shr_no {p : Prog} {inp : List Int} {code value : Int} (h : leastA p inp code value = false) : [D.agg [D.own (T.list 4 [])], D.t (T.v (.bool false))] = [D.agg [D.own (T.Funcs (shrR p inp code value).funcs)], D.t (T.bool (leastA p inp code value))] := by
 rw [shrR, h]; rfl
theorem shr_yes {p q : Prog} {inp : List Int} {code value : Int} (h : leastA p inp code value = true) (hs : shrinkP p inp code value = shrinkP q inp code value) (hn : (lessP q inp code value).isSome = false) : [D.agg [D.own (T.Funcs q.funcs)], D.t (T.v (.bool true))] = [D.agg [D.own (T.Funcs (shrR p inp code value).funcs)], D.t (T.bool (leastA p inp code value))] := by
 have hq : lessP q inp code value = none := by
  cases hf : lessP q inp code value with
  | none => rfl
  | some x => rw [hf] at hn; cases hn
 rw [shrR, h, if_pos rfl, hs, shrinkP_none hq]
theorem implShr_fun (p : Prog) (inp : List Int) (code value : Int) (hp : p.ok 1048576) (hi : inp.length ≤ 1048576) : Fun Tryz.prog 27 [.t p.tt, .t (T.ints inp), .t (.int code), .t (.int value)] (tupD [.agg [.own (T.Funcs (shrR p inp code value).funcs)], .t (.bool (leastA p inp code value))]) := by
 refine Fun.begin tys Tryz.func27 Z Z (N := 42) [(0, .t p.tt), (1, .t (T.ints inp)), (2, .t (.int code)), (3, .t (.int value))] Z Z (fun w0 G F0 => ?_)
 refine sQ (rG (WO_box Z Z (lt_of Z) Z Z (nZ Z (WO_alloc tys Z Z (lt_of Z) Z Z Z (nZ Z (eZ Z (oN (tN (sQ (sQ (rG (eZ Z ?_))))))))))))
 try refine WO_le (Le.freeze (u := 13) rfl) ?_
 refine nZ Z (eK 3 Z (callB ?_))
 refine ⟨_, areEnds_fun p inp code value hp hi, rfl, ?_⟩
 refine eZ Z (kZ [1,2,3,4,8,9,18] Z (eZ Z ?_))
 refine WO_guard Z Z Z Z (lt_of Z) (fun h1 => ?_) (fun h1 => ?_)
 rotate_left
 ·
  simp only [HS] at h1
  refine gM Z (gM Z (gM Z (gM Z (gM Z (eZ Z (oN (tN (W_condT Z (sQ (kY [1,2,3,4,8,9] Z (rG (WO_struct tys Z Z (lt_of Z) Z Z Z (by kernel_rfl) Z Z Z Z Z Z (sT Z (nZ Z (eZ Z ?_)))))))))))))))
  refine oN (tN (W_le (Le.nilBox (u := 8) (j := 0) 4 Z Z) (nY Z (rT (tR (eR ?_))))))
  ·first
   | (refine shr_no ?_; unfold leastA; simp_all)
 simp only [HS] at h1
 have hok : endsOk p inp code value = true := by simp_all
 refine eZ Z ?_
 try refine WO_le (Le.freeze (u := 20) rfl) ?_
 refine nZ Z (gY Z (eZ Z (gY Z (eZ Z (gY Z (eZ Z (gY Z (callB ?_))))))))
 refine ⟨_, endsI_fun p inp code value (endsOk_g hok) hp hi, rfl, ?_⟩
 refine gY Z (eK 2 Z (oN (tN ?_)))
 refine W_cond Z (fun h2 => ?_) (fun h2 => ?_)
 ·
  simp only [HS] at h2
  refine sQ (kY [1,2,3,4,8,9] Z (rG (WO_struct tys Z Z (lt_of Z) Z Z Z (by kernel_rfl) Z Z Z Z Z Z (sT Z (nZ Z (eZ Z (oN (tN (W_le (Le.nilBox (u := 8) (j := 0) 4 Z Z) (nY Z (rT (tR (eR ?_)))))))))))))
  ·first
   | (refine shr_no ?_; unfold leastA; simp_all)
 simp only [HS] at h2
 refine W_skip (tN (sQ (kY [1,2,3,4,8,9] Z (rG ?_))))
 have hA : leastA p inp code value = true := by unfold leastA; simp_all
 have hok : endsOk p inp code value = true := by unfold leastA at hA; simp_all
 refine eZ Z ?_
 try refine WO_le (Le.freeze (u := 28) rfl) ?_
 refine nZ Z (callB ?_)
 refine ⟨_, cloneProg_fun p hp, rfl, ?_⟩
 refine WO_alloc tys Z Z (lt_of Z) Z Z Z (nZ Z (sT Z (nZ Z (oN (tN (W_block ?_))))))
 refine lK (α := Prog) [1, 2, 3, 8, 10] [8] (fun x => []) (fun x => [(10, .box [.own (T.Funcs x.funcs)])]) (fun x => goodP x = true ∧ x.ok 1048576 ∧ shrinkP p inp code value = shrinkP x inp code value) (fun x => Int.toNat (manyP x)) p ?_ (fun q hx => ?_)
 ·exact ⟨endsOk_g hok, hp, rfl⟩
 obtain ⟨hqg, hqo, hqs⟩ := hx
 refine nY Z (W_block (sQ (rG (nZ Z (WO_le (Le.adoptBox (u := 10) (j := 0) (id := 131) Z Z Z) (nZ Z (eZ Z ?_)))))))
 try refine WO_le (Le.freeze (u := 31) rfl) ?_
 refine nZ Z (eK 3 Z (WO_call Z Z (lt_of Z) Z Z (es := [.t (T.agg [T.Funcs q.funcs]), .t (T.ints inp), .t (.int code), .t (.int value)]) (ResL.aggT (ResL.slA Z Z ResL.done) (ResL.t (ResL.t (ResL.t ResL.done)))) (shrunk_fun q inp code value hqo hi hqg) Z (nZ Z (WO_moveAll Z Z (lt_of Z) (.inr Z) Z Z (WO_extract Z Z (lt_of Z) Z Z Z Z ?_)))))
 first | refine WO_le (Le.adoptE (u := 36) 36 rfl (by first | exact lenN | exact rfl)) ?_ | skip
 refine nZ Z (WO_evF tys Z Z (lt_of Z) (d := .t _) Z (nZ Z (WO_alloc tys Z Z (lt_of Z) Z Z Z (nZ Z (kZ [1,2,3,8,10,11,30,31,32,33,34,35,36,37] Z (sT Z (nZ Z (eZ Z (oN (tN (sQ (sQ (rG (eK 2 Z (oN ?_)))))))))))))))
 refine tN ?_
 refine W_cond Z (fun h3 => ?_) (fun h3 => ?_)
 ·
  simp only [HS] at h3
  refine sQ (rG (eZ Z ?_))
  try refine WO_le (Le.freeze (u := 40) rfl) ?_
  refine nZ Z (sT Z (nZ Z (eZ Z (oN (tN ?_)))))
  (refine W_le (Le.gatherBox (u := 8) (j := 0) (id := 131) rfl rfl rfl (by simp) rfl) ?_; refine W_norm rfl ?_)
  refine rT (tR (bR (loopQ_r (bR (eR ?_)))))
  ·first
   | (rw [List.take_of_length_le (by simp)]; exact shr_yes hA hqs h3)
 simp only [HS] at h3
 refine W_skip (tN (rG ?_))
 obtain ⟨q', hq'⟩ := Option.isSome_iff_exists.1 h3
 have hq2 : lessR q inp code value = q' := by rw [lessR, hq']; rfl
 have hq3 := less_good hqg hqo hq'
 have hlt : manyP (lessR q inp code value) < manyP q := by rw [hq2]; exact hq3.2.2
 refine WO_loadMove tys Z Z (lt_of Z) Z Z Z Z Z Z (nZ Z (sT Z (nZ Z (oN (bN ?_)))))
 refine lQ _ ?_ ?_
 ·skip
  rw [hq2]; exact ⟨hq3.1, hq3.2.1, hqs.trans (shrinkP_some hqg hqo hq')⟩
 ·(show Int.toNat _ < Int.toNat _); omega
theorem specShr_fun (p : Prog) (inp : List Int) (code value : Int) (hp : p.ok 1048576) (hi : inp.length ≤ 1048576) : Fun Tryz.prog 26 [.t p.tt, .t (T.ints inp), .t (.int code), .t (.int value)] (tupD [.agg [.own (T.Funcs (shrR p inp code value).funcs)], .t (.bool (leastA p inp code value))]) := by
  have hpl : p.funcs.length ≤ 1048576 := hp.1.1
  refine Fun.begin tys Tryz.func26 Z Z (N := 83) [(0, .t p.tt), (1, .t (T.ints inp)), (2, .t (.int code)), (3, .t (.int value))] Z Z (fun w0 G F0 => ?_)
  refine sQ (rG (WO_box Z Z (lt_of Z) Z Z (nZ Z (WO_alloc tys Z Z (lt_of Z) Z Z Z (nZ Z (eZ Z (oN (tN (sQ (sQ (rG (eZ Z ?_))))))))))))
  try refine WO_le (Le.freeze (u := 21) rfl) ?_
  refine nZ Z (eK 3 Z (callB ?_))
  refine ⟨_, specEndsSo_fun p inp code value hp hi, rfl, ?_⟩
  refine eZ Z (kZ [1,2,3,4,8,9,20] Z (WO_evF tys Z Z (lt_of Z) (d := .t _) Z (nZ Z (WO_evF tys Z Z (lt_of Z) (d := .t _) Z (nZ Z (eK 2 Z (oN (tN (sQ (rG (eK 3 Z ?_)))))))))))
  refine WO_guard Z Z Z Z (lt_of Z) (fun h1 => ?_) (fun h1 => ?_)
  rotate_left
  ·
    simp only [HS] at h1
    refine gM Z (eZ Z (kZ [1,2,3,4,8,9,33] Z (oN (tN (W_condT Z (sQ (rG (WO_struct tys Z Z (lt_of Z) Z Z Z (by kernel_rfl) Z Z Z Z Z Z (sT Z (nZ Z (eZ Z (oN (tN (W_le (Le.nilBox (u := 8) (j := 0) 4 Z Z) (nY Z ?_)))))))))))))))
    refine rT (tR (eR ?_))
    · first
      | (refine shr_no ?_; unfold leastA; simp_all)
  simp only [HS] at h1
  refine eZ Z (gY Z (eZ Z (kZ [1,2,3,4,8,9,30,32] Z (eZ Z (oN (tN ?_))))))
  refine W_cond Z (fun h2 => ?_) (fun h2 => ?_)
  ·
    simp only [HS] at h2
    refine sQ (rG (WO_struct tys Z Z (lt_of Z) Z Z Z (by kernel_rfl) Z Z Z Z Z Z (sT Z (nZ Z (eZ Z (oN (tN (W_le (Le.nilBox (u := 8) (j := 0) 4 Z Z) (nY Z (rT (tR (eR ?_))))))))))))
    · first
      | (refine shr_no ?_; unfold leastA; simp_all)
  simp only [HS] at h2
  refine W_skip (tN (sQ (rG ?_)))
  have hA : leastA p inp code value = true := by unfold leastA; simp_all
  have hok : endsOk p inp code value = true := by unfold leastA at hA; simp_all
  have hg := endsOk_g hok
  refine eZ Z ?_
  try refine WO_le (Le.freeze (u := 36) rfl) ?_
  refine nZ Z (callB ?_)
  refine ⟨_, foldProg_fun p hp hg, rfl, ?_⟩
  refine WO_moveAll Z Z (lt_of Z) (.inr Z) Z Z (WO_extract Z Z (lt_of Z) Z Z Z Z ?_)
  first | refine WO_le (Le.adoptE (u := 38) 38 rfl (by first | exact lenN | exact rfl)) ?_ | skip
  refine nZ Z (WO_evF tys Z Z (lt_of Z) (d := .t _) Z (nZ Z (WO_alloc tys Z Z (lt_of Z) Z Z Z (nZ Z (sT Z (nZ Z (eZ Z (kZ [1,2,3,4,8,9,12] Z (oN (tN (sQ (sQ (rG (eK 2 Z (evE ?_)))))))))))))))
  refine eZ Z (oN (tN (W_block ?_)))
  refine lK (α := Int × List Func) [1, 2, 3, 4, 8, 12, 41, 42] [4, 8] (fun x => [(43, .t (.int (x.1)))]) (fun x => [(12, .box [.own (T.Funcs (x.2))])]) (fun x => 0 ≤ (x.1) ∧ (x.1) ≤ p.funcs.length ∧ (x.2) = mixR foldF p.funcs (x.1).toNat) (fun x => Int.toNat (p.funcs.length - (x.1))) (0, p.funcs.map foldF) ?_ (fun x hx => ?_)
  · exact ⟨by omega, by omega, by rw [show (0 : Int).toNat = 0 from rfl, mixR_zero]⟩
  obtain ⟨k, xs⟩ := x
  obtain ⟨hk0, hk1, hxs⟩ := hx
  dsimp only at hk0 hk1 hxs ⊢
  refine nY Z (sQ (rG (eZ Z (oN (tN (sQ ?_))))))
  refine W_cond Z (fun h3 => ?_) (fun h3 => ?_)
  ·
    simp only [HS] at h3
    refine W_skip (tN (sQ (W_block (sQ (rG (eZ Z ?_))))))
    have hkl : k.toNat < p.funcs.length := by omega
    have hf := func_ok hp (n := k.toNat) hkl
    have hfl := hf.2.1.1
    refine WO_idxT tys Z Z (lt_of Z) Z Z Z Z Z Z Z (by omega) _ (getT _ _ (by omega) (by omega)) (eZ Z ?_)
    try refine WO_le (Le.freeze (u := 47) rfl) ?_
    refine nZ Z (WO_alloc tys Z Z (lt_of Z) Z Z Z (nZ Z (eZ Z (sT Z (nZ Z (oN (tN (sQ (kY [1,2,3,4,8,12,14,15,41,42,43,44,45,46,47] Z (rG (eK 2 Z (evE ?_))))))))))))
    refine eZ Z (oN (tN (W_block ?_)))
    refine lK (α := Int × List Func) [1, 2, 3, 4, 8, 12, 14, 41, 42, 43, 49, 50] [4, 8] (fun x => [(51, .t (.int (x.1)))]) (fun x => [(12, .box [.own (T.Funcs (x.2))])]) (fun x => 0 ≤ (x.1) ∧ (x.1) ≤ (p.funcs[k.toNat]'hkl).stmts.length ∧ (x.2) = halfL p.funcs k.toNat (x.1).toNat hkl) (fun x => Int.toNat ((p.funcs[k.toNat]'hkl).stmts.length - (x.1))) (0, xs) ?_ (fun x hx => ?_)
    · exact ⟨by omega, by omega, by rw [hxs, show (0 : Int).toNat = 0 from rfl, halfL_zero]⟩
    obtain ⟨j, ys⟩ := x
    obtain ⟨hj0, hj1, hys⟩ := hx
    dsimp only at hj0 hj1 hys ⊢
    refine nY Z (sQ (rG (eZ Z (oN (tN (sQ ?_))))))
    refine W_cond Z (fun h4 => ?_) (fun h4 => ?_)
    ·
      simp only [HS] at h4
      refine W_skip (tN (sQ (W_block (sQ (rG (eZ Z ?_))))))
      have hjl : j.toNat < (p.funcs[k.toNat]'hkl).stmts.length := by omega
      have hso := stmt_ok hf (n := j.toNat) hjl
      refine WO_idxT tys Z Z (lt_of Z) Z Z Z Z Z Z Z (by omega) _ (getT _ _ (by omega) (by omega)) (eZ Z ?_)
      try refine WO_le (Le.freeze (u := 55) rfl) ?_
      refine nZ Z (WO_alloc tys Z Z (lt_of Z) Z Z Z (nZ Z (eZ Z (sT Z (nZ Z (oN (tN ?_)))))))
      have hyl : ys.length = p.funcs.length := by rw [hys]; unfold halfL; rw [List.length_set, mixR_len]
      have hml : (List.map Stmt.tt (halfF (p.funcs[k.toNat]'hkl) j.toNat).stmts).length = (p.funcs[k.toNat]'hkl).stmts.length := by rw [List.length_map]; exact mixR_len ..
      refine W_le (Le.adoptBox (u := 12) (j := 0) (id := 101) Z Z Z) (nY Z ?_)
      refine W_openL (id := 101) (i := k.toNat) (off := 3) (z := (halfF (p.funcs[k.toNat]'hkl) j.toNat).tt) 102 1102 133 Z (cellsF _) (by rw [hys]; exact mapAt (halfL_at _ _ _ hkl)) Z (by intro h; have := congrArg List.length h; rw [List.length_map, List.length_nil] at this; have : (mixR foldS (p.funcs[k.toNat]'hkl).stmts j.toNat).length = 0 := this; rw [mixR_len] at this; omega) Z Z Z Z Z Z (fun b cap hcap => ?_)
      refine nY Z (kY [1,2,3,4,8,12,14,16,17,41,42,43,49,50,51,52,53,54,55] Z (W_regionGm 12 mixed Z (by kernel_rfl) (by kernel_rfl) ?_))
      iterate 3 (refine QG_ev tys rfl rfl (lt_of rfl) rfl ?_)
      refine QG_idxS tys Z Z (lt_of Z) Z Z Z Z Z Z Z Z hk0 (by rw [List.length_map, hyl]; exact h3) ?_
      refine QG_ev tys Z Z (lt_of Z) Z ?_
      refine QG_loadLS tys 1102 Z Z (lt_of Z) Z Z Z Z (by rw [Nat.zero_add]; exact List.getElem?_set_self (by rw [List.length_map]; omega)) Z Z hcap ?_
      refine QG_norm Z (QG_ev tys Z Z (lt_of Z) Z ?_)
      refine QG_buildS tys [] Z Z (lt_of Z) Z Z Z Z Z (by decide) (by repeat (first | exact PartsOk.nil' | refine PartsOk.cons' rfl (by repeat (first | exact AbsL.nil' | refine AbsL.v' ?_ | refine AbsL.own' ?_ | refine AbsL.none' ?_)) Z ?_)) Z Z Z (by decide) ?_
      refine QG_ev tys Z Z (lt_of Z) Z (QG_ev tys Z Z (lt_of Z) Z (QG_append tys Z Z (lt_of Z) Z Z Z Z Z Z Z Z (fun _ => .read (readTok _)) (by simp; omega) (by decide) Z ?_))
      refine QG_idxS tys Z Z (lt_of Z) Z Z Z Z Z Z Z Z (by omega) (by omega) (QG_norm Z (QG_nil ?_))
      refine ⟨by kernel_rfl, ?_⟩
      refine nZ Z (eZ Z ?_)
      refine WO_storeL tys [T.Toks ((p.funcs[k.toNat]'hkl).stmts[j.toNat]'hjl).ex] Z Z Z Z Z Z (by rw [Nat.zero_add]; exact mapAt (mixR_at foldS _ hjl)) Z (by repeat (first | exact AbsL.nil' | refine AbsL.v' ?_ | refine AbsL.own' ?_)) Z (by decide) (Nat.le_of_ble_eq_true Z) ?_
      refine nZ Z ?_
      refine WO_le (Le.claimL (id := 101) (id2 := 102) (pid := 1102) (i := k.toNat) (off := 3) Z Z Z (List.getElem?_set_self (by rw [List.length_map]; omega)) Z (by rw [List.length_set]) Z) ?_
      refine nZ Z (WO_le (Le.gatherBox (u := 12) (j := 0) (id := 101) Z Z Z (by simp) Z) ?_)
      refine nZ Z ?_
      refine WO_le (Le.eqK (id := 12) Z (k' := .box [.own (T.Funcs (halfL p.funcs k.toNat (j.toNat + 1) hkl))]) (by
       rw [List.take_of_length_le (by simp), List.set_set, T.Funcs, ← halfL_next _ _ _ hkl hjl, hys, Nat.zero_add, Nat.zero_add]
       rfl)) ?_
      refine nZ Z (nZ Z (oN (bN (tN (rG (evI ?_))))))
      refine eZ Z (oN ?_)
      refine lQ (_, _) ?_ ?_
      · dsimp only
        exact ⟨by omega, by omega, by rw [show (j + 1).toNat = j.toNat + 1 from by omega]⟩
      · (show Int.toNat _ < Int.toNat _); omega
    simp only [HS] at h4
    refine W_exit (tE (loopQ_e (inBlk_y (bN (tN (rG (evI ?_)))))))
    refine eZ Z (oN ?_)
    refine lQ (_, _) ?_ ?_
    · dsimp only
      exact ⟨by omega, by omega, by rw [hys, halfL_end _ _ hkl (by omega), show (k + 1).toNat = k.toNat + 1 from by omega]⟩
    · (show Int.toNat _ < Int.toNat _); omega
  simp only [HS] at h3
  refine W_exit (tE (loopQ_e (inBlk_y (tN (W_block ?_)))))
  refine lK (α := Prog × List Func) [1, 2, 3, 8, 12] [8] (fun x => []) (fun x => [(12, .box [.own (T.Funcs (x.2))])]) (fun x => goodP (x.1) = true ∧ (x.1).ok 1048576 ∧ shrinkP p inp code value = shrinkP (x.1) inp code value ∧ (x.2) = (x.1).funcs) (fun x => Int.toNat (manyP (x.1))) (p, xs) ?_ (fun x hx => ?_)
  · exact ⟨hg, hp, rfl, by rw [hxs, mixR_end _ _ (by omega)]⟩
  obtain ⟨q, zs⟩ := x
  obtain ⟨hqg, hqo, hqs, hzs⟩ := hx
  dsimp only at hqg hqo hqs hzs ⊢
  subst hzs
  refine nY Z (W_block (sQ (rG (nZ Z (WO_le (Le.adoptBox (u := 12) (j := 0) (id := 131) Z Z Z) (nZ Z (eZ Z ?_)))))))
  try refine WO_le (Le.freeze (u := 72) rfl) ?_
  refine nZ Z (eK 3 Z (WO_call Z Z (lt_of Z) Z Z (es := [.t (T.agg [T.Funcs q.funcs]), .t (T.ints inp), .t (.int code), .t (.int value)]) (ResL.aggT (ResL.slA Z Z ResL.done) (ResL.t (ResL.t (ResL.t ResL.done)))) (l18Less_fun q inp code value hqo hi hqg) Z (nZ Z (WO_moveAll Z Z (lt_of Z) (.inr Z) Z Z (WO_extract Z Z (lt_of Z) Z Z Z Z ?_)))))
  first | refine WO_le (Le.adoptE (u := 77) 77 rfl (by first | exact lenN | exact rfl)) ?_ | skip
  refine nZ Z (WO_evF tys Z Z (lt_of Z) (d := .t _) Z (nZ Z (WO_alloc tys Z Z (lt_of Z) Z Z Z (nZ Z (kZ [1,2,3,8,12,18,71,72,73,74,75,76,77,78] Z (sT Z (nZ Z (eZ Z (oN (tN (sQ (sQ (rG (eK 2 Z (oN ?_)))))))))))))))
  refine tN ?_
  refine W_cond Z (fun h4 => ?_) (fun h4 => ?_)
  ·
    simp only [HS] at h4
    refine sQ (rG (eZ Z ?_))
    try refine WO_le (Le.freeze (u := 81) rfl) ?_
    refine nZ Z (sT Z (nZ Z (eZ Z (oN (tN ?_)))))
    (refine W_le (Le.gatherBox (u := 8) (j := 0) (id := 131) rfl rfl rfl (by simp) rfl) ?_; refine W_norm rfl ?_)
    refine rT (tR (bR (loopQ_r (bR (eR ?_)))))
    · first
      | (rw [List.take_of_length_le (by simp)]; exact shr_yes hA hqs (by assumption))
  simp only [HS] at h4
  refine W_skip (tN (rG ?_))
  obtain ⟨q', hq'⟩ := Option.isSome_iff_exists.1 (by assumption)
  have hq2 : lessR q inp code value = q' := by rw [lessR, hq']; rfl
  have hq3 := less_good hqg hqo hq'
  have hlt : manyP (lessR q inp code value) < manyP q := by rw [hq2]; exact hq3.2.2
  refine WO_loadMove tys Z Z (lt_of Z) Z Z Z Z Z Z (nZ Z (sT Z (nZ Z (oN (bN ?_)))))
  refine lQ (lessR q inp code value, _) ?_ ?_
  · dsimp only
    rw [hq2]; exact ⟨hq3.1, hq3.2.1, hqs.trans (shrinkP_some hqg hqo hq'), rfl⟩
  · (show Int.toNat ((manyP (lessR q inp code value) : Nat) : Int) < Int.toNat ((manyP q : Nat) : Int)); omega
open Go.Eng
theorem ok_shrR {p : Prog} {B : Nat} (hp : p.ok B) (inp : List Int) (code value : Int) : (shrR p inp code value).ok B := by
 unfold shrR
 split
 ·exact (shrinkP_ok hp).1
 ·exact ⟨⟨Nat.zero_le _, by simp⟩, trivial⟩
theorem ct_shrR {p : Prog} {B : Nat} (hp : p.ok B) (inp : List Int) (code value : Int) : ctProg (shrR p inp code value) ≤ ctProg p ∧ 0 ≤ ctProg (shrR p inp code value) := by
 refine ⟨?_, ctL_pos ctFunc_pos _⟩
 unfold shrR
 split
 ·exact (shrinkP_ok hp).2
 ·exact ctL_pos ctFunc_pos p.funcs
theorem lawShr_fun (p : Prog) (inp : List Int) (code value : Int) (hp : p.ok 9223372036854775807) (hl : inp.length ≤ 9223372036854775807) : Fun Tryz.prog 5 [.t p.tt, .t (T.ints inp), .t (.int code), .t (.int value)] (tupD [.t (.bool true)]) := by
 refine Fun.begin tys Tryz.func5 Z Z (N := 127) [(0, .t p.tt), (1, .t (T.ints inp)), (2, .t (.int code)), (3, .t (.int value))] Z Z (fun w0 G F0 => ?_)
 refine sQ (rG (WO_box Z Z (lt_of Z) Z Z (nZ Z (eZ Z (oN (tN (sQ (sQ (rG (eZ Z (evE ?_)))))))))))
 refine eZ Z (oN (tN ?_))
 refine W_cond Z (fun h1 => ?_) (fun h1 => ?_)
 ·
  simp only [HS] at h1
  refine sQ (rG (eZ Z (oN (tN (rT (tR (eR ?_)))))))
  ·rfl
 simp only [HS] at h1
 refine W_skip (tN (sQ (rG (eZ Z (oN (tN (sQ (rG (eZ Z ?_)))))))))
 try refine WO_le (Le.freeze (u := 24) rfl) ?_
 refine nZ Z (eZ Z (callB ?_))
 refine ⟨_, szProg_fun p 1048576 hp (by omega) (by omega), rfl, ?_⟩
 refine kZ [1,2,3,4,8,9,26] Z (eZ Z (oN (tN (sQ (sQ (rG (eK 2 Z (oN (tN ?_)))))))))
 refine W_cond Z (fun h2 => ?_) (fun h2 => ?_)
 ·
  simp only [HS] at h2
  refine sQ (rG (eZ Z (oN (tN (rT (tR (eR ?_)))))))
  ·rfl
 simp only [HS] at h2
 refine W_skip (tN (sQ (rG ?_)))
 have okp := Prog.small h2
 have cp := ctProg_small h2
 have cr := ct_shrR hp inp code value
 have c0 : 0 ≤ ctProg p := ctL_pos ctFunc_pos p.funcs
 have okr : (shrR p inp code value).ok 9223372036854775807 := ok_shrR hp inp code value
 refine eZ Z ?_
 try refine WO_le (Le.freeze (u := 30) rfl) ?_
 refine nZ Z (callB ?_)
 refine ⟨_, toProg_fun p okp, rfl, ?_⟩
 refine WO_le (Le.freeze (u := 31) Z) (nZ Z (eZ Z (callB ?_)))
 refine ⟨_, toIntS_fun inp (by omega), rfl, ?_⟩
 refine WO_le (Le.freeze (u := 33) Z) (nZ Z (eK 2 Z (kZ [1,2,3,4,8,31,33,34,35] Z (callB ?_))))
 refine ⟨_, specShr_fun p inp code value okp (by omega), rfl, ?_⟩
 refine WO_moveAll Z Z (lt_of Z) (.inr Z) Z Z (nZ Z (WO_extract Z Z (lt_of Z) Z Z Z Z (WO_le (Le.freeze (u := 37) Z) (nZ Z (WO_evF tys Z Z (lt_of Z) (d := .t _) Z (nZ Z (WO_alloc tys Z Z (lt_of Z) Z Z Z (nZ Z (sT Z (nZ Z (eZ Z (oN (tN (sQ (kY [1,2,3,4,8,10,11] Z ?_)))))))))))))))
 refine rG (eZ Z ?_)
 try refine WO_le (Le.freeze (u := 39) rfl) ?_
 refine nZ Z (callB ?_)
 refine ⟨_, toProg_fun p okp, rfl, ?_⟩
 refine WO_exposeB (u := 40) 40 Z Z (fun v40 hv40 => ?_)
 obtain ⟨a40_0, rfl⟩ : ∃ a40_0, v40 = [a40_0] := by
  match v40, hv40 with
  | [a40_0], _ => exact ⟨_, rfl⟩
 refine nZ Z (WO_alloc tys Z Z (lt_of Z) Z Z Z (nZ Z (sT Z (nZ Z (oN (tN (sQ (rG (eZ Z (callB ?_))))))))))
 refine ⟨_, toIntS_fun inp (by omega), rfl, ?_⟩
 refine WO_exposeS (u := 42) 42 Z (fun v42 => ?_)
 refine eZ Z (oN (tN (sQ (kY [1,2,3,4,8,10,11,12,13] Z (rG (eZ Z (nZ Z (eK 3 Z ?_))))))))
 refine WO_call Z Z (lt_of Z) Z Z (by refine ResL.rawA (id := 40) Z Z ?_; refine ResL.raw (id := 42) (j := 0) Z Z Z ?_; (first | refine ResL.t ?_ | refine ResL.own ?_ | refine ResL.aggT (by repeat (first | exact ResL.done | refine ResL.own ?_ | refine ResL.t ?_)) ?_ | refine ResL.slA Z (by first | rfl | (simp; done) | (simp; omega)) ?_ | refine ResL.nil' ?_); (first | refine ResL.t ?_ | refine ResL.own ?_ | refine ResL.aggT (by repeat (first | exact ResL.done | refine ResL.own ?_ | refine ResL.t ?_)) ?_ | refine ResL.slA Z (by first | rfl | (simp; done) | (simp; omega)) ?_ | refine ResL.nil' ?_); exact ResL.done) (implShr_fun p inp code value okp (by omega)) Z ?_
 refine WO_moveAll Z Z (lt_of Z) (.inr Z) Z Z (nZ Z (WO_extract Z Z (lt_of Z) Z Z Z Z ?_))
 refine WO_exposeB (u := 49) 49 Z Z (fun v49 hv49 => ?_)
 obtain ⟨a49_0, rfl⟩ : ∃ a49_0, v49 = [a49_0] := by
  match v49, hv49 with
  | [a49_0], _ => exact ⟨_, rfl⟩
 refine nZ Z (WO_evF tys Z Z (lt_of Z) (d := .t _) Z (nZ Z (WO_alloc tys Z Z (lt_of Z) Z Z Z (nZ Z (kZ [1,2,3,4,8,10,11,12,13,14,49,50] Z (sT Z (nZ Z (eZ Z (oN (tN (sQ (sQ (rG (eZ Z (nZ Z ?_)))))))))))))))
 refine eZ Z ?_
 try refine WO_le (Le.freeze (u := 52) rfl) ?_
 refine nZ Z ?_
 refine WO_call Z Z (lt_of Z) Z Z (by refine ResL.rawA (id := 49) Z Z ?_; (first | refine ResL.t ?_ | refine ResL.own ?_ | refine ResL.aggT (by repeat (first | exact ResL.done | refine ResL.own ?_ | refine ResL.t ?_)) ?_ | refine ResL.slA Z (by first | rfl | (simp; done) | (simp; omega)) ?_ | refine ResL.nil' ?_); exact ResL.done) (eqProg_fun (shrR p inp code value) (shrR p inp code value) okr okr) Z ?_
 refine WO_le (Le.known (t := 53) true Z (eqProg_refl _)) (eK 2 Z (gY Z (eZ Z (gY Z (eZ Z (kZ [1,2,3,4,8,10,11,12,13,14,15,55,56,57] Z (gY Z (eZ Z (WO_le (Le.known (t := 58) false Z (by simp)) ?_)))))))))
 refine eZ Z (oN (tN (W_condF Z (W_skip (tN (sQ (sQ (W_regionD mixed (by kernel_rfl) (evQ ?_)))))))))
 refine QL_evZ tys Z Z (lt_of Z) Z Z (callBQ ?_)
 refine ⟨_, toProg_fun p okp, rfl, ?_⟩
 refine QL_call Z Z (lt_of Z) Z Z (by refine ResL.rawA (id := 40) Z Z ?_; (first | refine ResL.t ?_ | refine ResL.own ?_ | refine ResL.aggT (by repeat (first | exact ResL.done | refine ResL.own ?_ | refine ResL.t ?_)) ?_ | refine ResL.slA Z (by first | rfl | (simp; done) | (simp; omega)) ?_ | refine ResL.nil' ?_); exact ResL.done) (eqProg_fun p p hp hp) Z ?_
 refine QL_known (v := true) (eqProg_refl _) (QL_norm Z (evQ ?_))
 refine QL_nil (tN (W_condF Z (W_skip (tN (sQ (sQ (rG (eK 2 Z (callB ?_)))))))))
 refine ⟨_, toIntS_fun inp (by omega), rfl, ?_⟩
 refine WO_le (Le.freeze (u := 67) Z) (nZ Z ?_)
 refine WO_call Z Z (lt_of Z) Z Z (by refine ResL.raw (id := 42) (j := 0) Z Z Z ?_; (first | refine ResL.t ?_ | refine ResL.own ?_ | refine ResL.aggT (by repeat (first | exact ResL.done | refine ResL.own ?_ | refine ResL.t ?_)) ?_ | refine ResL.slA Z (by first | rfl | (simp; done) | (simp; omega)) ?_ | refine ResL.nil' ?_); exact ResL.done) (eqIntS_fun inp inp (by omega) (by omega)) Z ?_
 refine WO_le (Le.known (t := 68) true Z (eqIe_refl _)) (eZ Z (oN (tN (W_condF Z (W_skip (tN (sQ (rG (eZ Z (oN (tN (sQ (kY [1,2,3,4,8,10,11,12,13,14,15,16] Z (rG (eZ Z ?_)))))))))))))))
 refine nZ Z (eZ Z (WO_markS (id := 40) Z Z (lt_of Z) Z Z Z Z Z (markProg_m p 1 (by omega) (by omega)) (nZ Z (eZ Z (oN (tN (sQ (rG (eK 2 Z (WO_markN (id := 42) (j := 0) Z Z (lt_of Z) Z Z Z Z Z Z Z Z (markIntS_m inp (1 + ctProg p) (by omega) (by omega)) (nZ Z (eZ Z (oN (tN (sQ ?_)))))))))))))))
 refine sQ (kY [1,2,3,4,8,10,11,14,15,16] Z (rG (eK 2 Z (WO_le (Le.known (t := 77) false Z (by simp; omega)) ?_))))
 refine eZ Z (gY Z (eZ Z (nZ Z (gY Z (eZ Z ?_)))))
 try refine WO_le (Le.freeze (u := 80) rfl) ?_
 refine nZ Z (gY Z ?_)
 refine WO_call Z Z (lt_of Z) Z Z (by refine ResL.rawA (id := 49) Z Z ?_; (first | refine ResL.t ?_ | refine ResL.own ?_ | refine ResL.aggT (by repeat (first | exact ResL.done | refine ResL.own ?_ | refine ResL.t ?_)) ?_ | refine ResL.slA Z (by first | rfl | (simp; done) | (simp; omega)) ?_ | refine ResL.nil' ?_); exact ResL.done) (eqProg_fun (shrR p inp code value) (shrR p inp code value) okr okr) Z ?_
 refine WO_le (Le.known (t := 81) true Z (eqProg_refl _)) (gY Z (eK 3 Z (kZ [1,2,3,4,8,10,11,14,15,84] Z (gY Z (eZ Z (gY Z (eZ Z (gY Z (eZ Z (WO_le (Le.known (t := 87) false Z (by simp)) ?_))))))))))
 refine eZ Z (oN (tN (W_condF Z (W_skip (tN (sQ (rG (eZ Z (oN (tN (sQ (rG (eZ Z (nZ Z (eZ Z ?_)))))))))))))))
 refine WO_markS (id := 49) Z Z (lt_of Z) Z Z Z Z Z (markProg_m (shrR p inp code value) 1 (by omega) (by omega)) (nZ Z (eZ Z (kZ [1,2,3,4,8,10,11,14,17] Z (oN (tN (sQ (rG (eZ Z (oN (tN (sQ (rG (eZ Z (nZ Z (eZ Z ?_)))))))))))))))
 refine WO_call Z Z (lt_of Z) Z Z (by refine ResL.rawA (id := 49) Z Z ?_; (first | refine ResL.t ?_ | refine ResL.own ?_ | refine ResL.aggT (by repeat (first | exact ResL.done | refine ResL.own ?_ | refine ResL.t ?_)) ?_ | refine ResL.slA Z (by first | rfl | (simp; done) | (simp; omega)) ?_ | refine ResL.nil' ?_); exact ResL.done) (heldProg_mk (shrR p inp code value) 1 (by omega) (by omega)) Z ?_
 refine eZ Z (oN (tN (sQ (sQ (rG (eK 2 Z (WO_le (Le.known (t := 96) false Z (by simp; omega)) ?_)))))))
 refine oN (tN (W_condF Z (W_skip (tN (sQ (sQ (kY [1,2,3,4,8,10,11,14,17,18] Z (rG (eK 3 Z (WO_le (Le.known (t := 99) false Z (by simp)) ?_))))))))))
 refine oN (tN (W_condF Z (W_skip (tN (sQ (rG (eZ Z ?_)))))))
 try refine WO_le (Le.freeze (u := 101) rfl) ?_
 refine nZ Z (callB ?_)
 refine ⟨_, toProg_fun p okp, rfl, ?_⟩
 refine WO_le (Le.freeze (u := 102) Z) (nZ Z (eZ Z (callB ?_)))
 refine ⟨_, toIntS_fun inp (by omega), rfl, ?_⟩
 refine WO_le (Le.freeze (u := 104) Z) (nZ Z (eK 2 Z (kZ [8,10,11,14,17,18,102,104,105,106] Z (callB ?_))))
 refine ⟨_, implShr_fun p inp code value okp (by omega), rfl, ?_⟩
 refine WO_moveAll Z Z (lt_of Z) (.inr Z) Z Z (nZ Z (WO_extract Z Z (lt_of Z) Z Z Z Z (WO_le (Le.freeze (u := 108) Z) (nZ Z (WO_evF tys Z Z (lt_of Z) (d := .t _) Z (nZ Z (WO_alloc tys Z Z (lt_of Z) Z Z Z (nZ Z (sT Z (nZ Z (eZ Z (oN (tN (sQ (sQ ?_)))))))))))))))
 refine kY [8,10,11,14,17,18,19,20] Z (rG (eZ Z ?_))
 try refine WO_le (Le.freeze (u := 110) rfl) ?_
 refine nZ Z (eZ Z ?_)
 try refine WO_le (Le.freeze (u := 111) rfl) ?_
 refine nZ Z (callB ?_)
 refine ⟨_, eqProg_fun (shrR p inp code value) (shrR p inp code value) okr okr, rfl, ?_⟩
 refine WO_le (Le.known (t := 112) true Z (eqProg_refl _)) (eK 2 Z (gY Z (eZ Z (gY Z (eZ Z (gY Z (eZ Z (WO_le (Le.known (t := 117) false Z (by simp)) ?_))))))))
 refine eZ Z (kZ [8,14,17,18,118] Z (oN (tN (W_condF Z (W_skip (tN (sQ (rG (eZ Z (oN (tN (sQ (rG (eZ Z (nZ Z ?_)))))))))))))))
 refine eZ Z ?_
 refine WO_call Z Z (lt_of Z) Z Z (by refine ResL.rawA (id := 49) Z Z ?_; (first | refine ResL.t ?_ | refine ResL.own ?_ | refine ResL.aggT (by repeat (first | exact ResL.done | refine ResL.own ?_ | refine ResL.t ?_)) ?_ | refine ResL.slA Z (by first | rfl | (simp; done) | (simp; omega)) ?_ | refine ResL.nil' ?_); exact ResL.done) (heldProg_mk (shrR p inp code value) 1 (by omega) (by omega)) Z ?_
 refine eZ Z (oN (tN (sQ (sQ (rG (eK 2 Z (WO_le (Le.known (t := 123) false Z (by simp; omega)) ?_)))))))
 refine oN (tN (W_condF Z (W_skip (tN (sQ (sQ (kY [8,17,18] Z (rG (eK 3 Z (WO_le (Le.known (t := 126) false Z (by simp)) ?_))))))))))
 refine oN (tN (W_condF Z (W_skip (tN (sQ (rG (eZ Z (oN (tN (rT (eR ?_)))))))))))
 ·rfl
end Go.Proofs.YtimpganophnehaaGreat
