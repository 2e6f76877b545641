/- Walks and laws of the claim. -/
import Derived.Test.YtimpganophnehaaGreatTy
import Derived.Test.YtimpganophnehaaGreatRows
import Derived.Test.YtimpganophnehaaGreatMb
import Derived.Test.YtimpganophnehaaGreatRows
import Derived.Test.YtimpganophnehaaGreatMc
set_option linter.unusedVariables false
set_option linter.unusedSimpArgs false
set_option maxRecDepth 10000
set_option maxHeartbeats 1000000
namespace Go.Proofs.YtimpganophnehaaGreat
open Go.Eng
open Go.Eng
theorem l1In_fun (n lo hi : Int) : Fun Tryz.prog 44 [.t (.int n), .t (.int lo), .t (.int hi)] (tupD [.t (.bool (decide (lo ≤ n ∧ n ≤ hi)))]) := by
 refine Fun.begin tys Tryz.func44 Z Z (N := 15) [(0, .t (.int n)), (1, .t (.int lo)), (2, .t (.int hi))] Z Z (fun w0 G F0 => ?_)
 refine sQ (rG (eZ Z (oN (tN (sQ (rG (eK 4 Z ?_)))))))
 refine WO_guard Z Z Z Z (lt_of Z) (fun h1 => ?_) (fun h1 => ?_)
 rotate_left
 ·
  simp only [HS] at h1
  refine gM Z (gM Z (eK 2 Z (kZ [6] Z (oN (tN (rT (eR ?_)))))))
  ·(simp_all <;> omega)
 simp only [HS] at h1
 refine eZ Z (gY Z (eZ Z (gY Z (eK 2 Z (kZ [6,14] Z (eZ Z (oN (tN (rT (eR ?_))))))))))
 ·(simp_all <;> omega)
theorem within_fun (n lo hi : Int) : Fun Tryz.prog 60 [.t (.int n), .t (.int lo), .t (.int hi)] (tupD [.t (.bool (decide (lo ≤ n ∧ n ≤ hi)))]) := by
 refine Fun.begin tys Tryz.func60 Z Z (N := 15) [(0, .t (.int n)), (1, .t (.int lo)), (2, .t (.int hi))] Z Z (fun w0 G F0 => ?_)
 refine sQ (rG (eZ Z (oN (tN (sQ (rG (eK 4 Z ?_)))))))
 refine WO_guard Z Z Z Z (lt_of Z) (fun h1 => ?_) (fun h1 => ?_)
 rotate_left
 ·
  simp only [HS] at h1
  refine gM Z (gM Z (eK 2 Z (kZ [6] Z (oN (tN (rT (eR ?_)))))))
  ·(simp_all <;> omega)
 simp only [HS] at h1
 refine eZ Z (gY Z (eZ Z (gY Z (eK 2 Z (kZ [6,14] Z (eZ Z (oN (tN (rT (eR ?_))))))))))
 ·(simp_all <;> omega)
def allIn (l : List Int) (lo hi : Int) : Bool := l.all fun n => decide (lo ≤ n ∧ n ≤ hi)
theorem allIn_step {l : List Int} {lo hi k : Int} (h0 : 0 ≤ k) (h1 : k < l.length) (h : allIn (l.take k.toNat) lo hi = true) (h2 : lo ≤ l[k.toNat]'(by omega) ∧ l[k.toNat]'(by omega) ≤ hi) : allIn (l.take (k + 1).toNat) lo hi = true := by
 rw [show (k + 1).toNat = k.toNat + 1 from by omega, List.take_add_one, List.getElem?_eq_getElem (by omega)]
 unfold allIn at *
 rw [List.all_append, h]
 simpa using h2
theorem allIn_no {l : List Int} {lo hi k : Int} (h0 : 0 ≤ k) (h1 : k < l.length) (h2 : ¬ (lo ≤ l[k.toNat]'(by omega) ∧ l[k.toNat]'(by omega) ≤ hi)) : allIn l lo hi = false := by
 unfold allIn
 rw [List.all_eq_false]
 exact ⟨l[k.toNat]'(by omega), List.getElem_mem _, by simpa using h2⟩
theorem allIn_yes {l : List Int} {lo hi k : Int} (h : allIn (l.take k.toNat) lo hi = true) (h0 : 0 ≤ k) (h1 : (l.length : Int) ≤ k) : allIn l lo hi = true := by
 rwa [List.take_of_length_le (by omega)] at h
theorem l1All_fun (l : List Int) (lo hi : Int) (hl : l.length ≤ 1073741824) : Fun Tryz.prog 119 [.t (T.ints l), .t (.int lo), .t (.int hi)] (tupD [.t (.bool (allIn l lo hi))]) := by
 refine Fun.begin tys Tryz.func119 Z Z (N := 21) [(0, .t (T.ints l)), (1, .t (.int lo)), (2, .t (.int hi))] Z Z (fun w0 G F0 => ?_)
 refine sQ (rG (eZ Z (oN (tN (sQ (sQ (rG (eZ Z (evE ?_)))))))))
 refine eZ Z (oN (tN (W_block ?_)))
 refine lK (α := Int) [9, 10, 1, 2] [] (fun x => [(11, .t (.int x))]) (fun x => []) (fun x => 0 ≤ x ∧ x ≤ l.length ∧ allIn (l.take x.toNat) lo hi = true) (fun x => Int.toNat (l.length - x)) 0 ?_ (fun k hx => ?_)
 ·refine ⟨?_, ?_, ?_⟩ <;> simp [allIn]
 obtain ⟨hk0, hk1, hk2⟩ := hx
 refine nY Z (sQ (rG (eZ Z (oN (tN (sQ ?_))))))
 refine W_cond Z (fun h1 => ?_) (fun h1 => ?_)
 ·
  simp only [HS] at h1
  refine W_skip (tN (sQ (W_block (sQ (rG (WO_idxT tys Z Z (lt_of Z) Z Z Z Z Z Z Z (by omega) _ (getT _ _ (by omega) (by omega)) (eK 2 Z (oN (tN (sQ (rG (eK 3 Z (callB ?_)))))))))))))
  refine ⟨_, l1In_fun _ _ _, rfl, ?_⟩
  refine eZ Z (kZ [1,2,8,9,10,11,12,13,14,15,16,17,18,19] Z (oN (tN ?_)))
  refine W_cond Z (fun h2 => ?_) (fun h2 => ?_)
  ·
   simp only [HS] at h2
   refine sQ (rG (eZ Z (oN (tN (rT (bR (tR (loopQ_r (bR (tR (eR ?_)))))))))))
   ·rw [allIn_no hk0 (by omega) (by simpa using h2)]
  simp only [HS] at h2
  refine W_skip (bN (tN (rG (evI ?_))))
  refine eZ Z (oN ?_)
  refine lQ _ ?_ ?_
  ·skip
   exact ⟨by omega, by omega, allIn_step hk0 (by omega) hk2 (by simpa using h2)⟩
  ·(show Int.toNat _ < Int.toNat _); omega
 simp only [HS] at h1
 refine W_exit (tE (loopQ_e (inBlk_y (tN (sQ (rG (eZ Z (oN (tN (rT (eR ?_)))))))))))
 ·rw [allIn_yes hk2 hk0 (by omega)]
open Go.Eng
def szN (n : Nat) (left : Int) : Int := if left - n < 0 then -1 else left - n
def szGo {α : Type} (f : α → Int → Int) : List α → Int → Int
 | [], left => left
 | x :: xs, left => if f x left < 0 then -1 else szGo f xs (f x left)
def szL {α : Type} (f : α → Int → Int) (l : List α) (left : Int) : Int := if left - l.length < 0 then -1 else szGo f l (left - l.length)
theorem drop_at {α : Type} {l : List α} {k : Int} (h0 : 0 ≤ k) (h1 : k < l.length) : l.drop k.toNat = l[k.toNat]'(by omega) :: l.drop (k + 1).toNat := by
 rw [show (k + 1).toNat = k.toNat + 1 from by omega]
 exact List.drop_eq_getElem_cons (by omega)
theorem drop_end {α : Type} {l : List α} {k : Int} (h1 : (l.length : Int) ≤ k) : l.drop k.toNat = [] := List.drop_of_length_le (by omega)
theorem fill_step {α : Type} {xs : List T} {l : List α} {g : α → T} {k : Int} (h0 : 0 ≤ k) (h1 : k < l.length) (hl : xs.length = l.length) (h : xs.take k.toNat = (l.take k.toNat).map g) :
  (xs.set k.toNat (g (l[k.toNat]'(by omega)))).take (k + 1).toNat = (l.take (k + 1).toNat).map g := by
 rw [show (k + 1).toNat = k.toNat + 1 from by omega, List.take_add_one, List.take_add_one, List.getElem?_set_self (by omega), List.getElem?_eq_getElem (by omega)]
 simp only [Option.toList_some, List.map_append, List.map_cons, List.map_nil, ← h]
 rw [List.take_set_of_le (Nat.le_refl _)]
theorem fill_end {α : Type} {xs : List T} {l : List α} {g : α → T} {k : Int} (h1 : (l.length : Int) ≤ k) (hl : xs.length = l.length) (h : xs.take k.toNat = (l.take k.toNat).map g) : xs = l.map g := by
 rwa [List.take_of_length_le (by omega), List.take_of_length_le (by omega)] at h
theorem szIntS_fun (l : List Int) (left : Int) (hl : l.length ≤ 9223372036854775807) (h0 : 0 ≤ left) (hh : left ≤ 1048576) : Fun Tryz.prog 42 [.t (T.ints l), .t (.int left)] (tupD [.t (.int (szN l.length left))]) := by
 refine Fun.begin tys Tryz.func42 Z Z (N := 12) [(0, .t (T.ints l)), (1, .t (.int left))] Z Z (fun w0 G F0 => ?_)
 refine sQ (rG (eZ Z (oN (tN (sQ (rG (eK 2 Z (evE ?_))))))))
 refine evI ?_
 refine eZ Z (oN (tN (sQ (sQ (rG (eK 2 Z (oN (tN ?_))))))))
 refine W_cond Z (fun h1 => ?_) (fun h1 => ?_)
 ·
  simp only [HS] at h1
  refine sQ (kY [1,4] Z (rG (eZ Z (oN (tN (rT (tR (eR ?_))))))))
  ·(simp only [szN]; simp_all <;> omega)
 simp only [HS] at h1
 refine W_skip (tN (sQ (kY [1,4] Z (rG (eK 2 Z (oN (tN (rT (eR ?_)))))))))
 ·(simp only [szN]; simp_all <;> omega)
theorem szN_bound {n : Nat} {left : Int} (h0 : 0 ≤ left) (h1 : left ≤ 1048576) : szN n left ≤ 1048576 ∧ -1 ≤ szN n left := by
 unfold szN; split <;> omega
theorem szIntSS_fun (l : List (List Int)) (left : Int) (hl : l.length ≤ 9223372036854775807) (hll : ∀ x, x ∈ l → x.length ≤ 9223372036854775807) (h0 : 0 ≤ left) (hh : left ≤ 1048576) : Fun Tryz.prog 15 [.t (.list 1 (l.map T.ints)), .t (.int left)] (tupD [.t (.int (szL (fun x => szN x.length) l left))]) := by
 refine Fun.begin tys Tryz.func15 Z Z (N := 27) [(0, .t (.list 1 (l.map T.ints))), (1, .t (.int left))] Z Z (fun w0 G F0 => ?_)
 refine sQ (rG (eZ Z (oN (tN (sQ (rG (eK 2 Z (evE ?_))))))))
 refine evI ?_
 refine eZ Z (oN (tN (sQ (sQ (rG (eK 2 Z (oN (tN ?_))))))))
 refine W_cond Z (fun h1 => ?_) (fun h1 => ?_)
 ·
  simp only [HS] at h1
  refine sQ (kY [0,1,4] Z (rG (eZ Z (oN (tN (rT (tR (eR ?_))))))))
  ·rw [szL, if_pos h1]
   done
 simp only [HS] at h1
 refine W_skip (tN (sQ (sQ (kY [0,1,4] Z (rG (eZ Z (oN (tN (W_block ?_)))))))))
 refine lK (α := Int × Int) [0] [] (fun x => [(5, .t (.int (x.1))), (1, .t (.int (x.2)))]) (fun x => []) (fun x => 0 ≤ (x.1) ∧ (x.1) ≤ l.length ∧ 0 ≤ (x.2) ∧ (x.2) ≤ 1048576 ∧ szGo (fun x => szN x.length) l (left - l.length) = szGo (fun x => szN x.length) (l.drop (x.1).toNat) (x.2)) (fun x => Int.toNat (l.length - (x.1))) (0, left - l.length) ?_ (fun x hx => ?_)
 ·exact ⟨by omega, by omega, by omega, by omega, by simp⟩
 obtain ⟨k, lf⟩ := x
 obtain ⟨hk0, hk1, hk2, hk3, hk4⟩ := hx
 dsimp only at hk0 hk1 hk2 hk3 hk4 ⊢
 refine nY Z (sQ (sQ (rG (eK 2 Z (evE ?_)))))
 refine eZ Z (oN (tN ?_))
 refine W_cond Z (fun h2 => ?_) (fun h2 => ?_)
 ·
  simp only [HS] at h2
  refine W_skip (tN (sQ (W_block (sQ (rG (eK 2 Z (WO_idxT tys Z Z (lt_of Z) Z Z Z Z Z Z Z (by omega) _ (getT _ _ (by omega) (by omega)) (eK 2 Z (kZ [0,1,5,12,13,14,15,18,19,20,21,22] Z (callB ?_))))))))))
  refine ⟨_, szIntS_fun _ _ (hll _ (List.getElem_mem _)) (by omega) (by omega), rfl, ?_⟩
  refine eZ Z (oN (tN (sQ (rG (eK 2 Z (oN (tN ?_)))))))
  refine W_cond Z (fun h3 => ?_) (fun h3 => ?_)
  ·
   simp only [HS] at h3
   refine sQ (rG (eZ Z (oN (tN (rT (bR (tR (loopQ_r (bR (tR (eR ?_)))))))))))
   ·(rw [szL, if_neg (by omega), hk4, drop_at hk0 (by omega), szGo, if_pos h3]; done)
  simp only [HS] at h3
  refine W_skip (bN (tN (rG (eZ Z (evI ?_)))))
  refine eZ Z (oN ?_)
  refine lQ (_, _) ?_ ?_
  ·dsimp only
   (have hb := szN_bound (n := (l[k.toNat]'(by omega)).length) hk2 hk3; refine ⟨by omega, by omega, by omega, by omega, ?_⟩; rw [hk4, drop_at hk0 (by omega), szGo, if_neg (by omega)])
  ·(show Int.toNat _ < Int.toNat _); omega
 simp only [HS] at h2
 refine W_exit (tE (loopQ_e (inBlk_y (tN (sQ (rG (eK 2 Z (oN (tN (rT (eR ?_)))))))))))
 ·(rw [szL, if_neg (by omega), hk4, drop_end (by omega), szGo]; done)
theorem toIntS_fun (l : List Int) (hl : l.length ≤ 1048576) : Fun Tryz.prog 10 [.t (T.ints l)] (tupD [.own (T.ints l)]) := by
 refine Fun.begin tys Tryz.func10 Z Z (N := 22) [(0, .t (T.ints l))] Z Z (fun w0 G F0 => ?_)
 refine sQ (rG (eZ Z (oN (tN (sQ (rG (eZ Z (evE ?_))))))))
 refine WO_make tys (.v (.int .i64 0)) _ Z Z (lt_of Z) Z Z Z Z Z (by repeat (first | exact AbsL.nil' | refine AbsL.v' ?_ | refine AbsL.none' ?_)) Z (by omega) (by decide) ?_
 refine nZ Z (eZ Z (oN (tN (sQ (sQ (rG (eZ Z (oN (tN (W_block ?_))))))))))
 refine lK (α := Int × List T) [0, 3] [] (fun x => [(4, .t (.int (x.1)))]) (fun x => [(7, .L 1 (x.2))]) (fun x => 0 ≤ (x.1) ∧ (x.1) ≤ l.length ∧ (x.2).length = l.length ∧ (x.2).take (x.1).toNat = (l.take (x.1).toNat).map T.int) (fun x => Int.toNat (l.length - (x.1))) (0, List.replicate l.length (.v (.int .i64 0))) ?_ (fun x hx => ?_)
 ·exact ⟨by omega, by omega, by simp, by simp⟩
 obtain ⟨k, xs⟩ := x
 obtain ⟨hk0, hk1, hk2, hk3⟩ := hx
 dsimp only at hk0 hk1 hk2 hk3 ⊢
 refine nY Z (sQ (sQ (rG (eK 2 Z (evE ?_)))))
 refine eZ Z (oN (tN ?_))
 refine W_cond Z (fun h1 => ?_) (fun h1 => ?_)
 ·
  simp only [HS] at h1
  refine W_skip (tN (sQ (W_block (rG (eK 4 Z (WO_idxT tys Z Z (lt_of Z) Z Z Z Z Z Z Z (by omega) _ (getT _ _ (by omega) (by omega)) (kZ [0,3,4,8,9,10,11,14,15,16,17,18] Z (eZ Z (WO_idxS tys Z Z (lt_of Z) Z Z Z Z Z Z Z Z (by omega) (by omega) ?_)))))))))
  refine WO_storeE tys (.v (.int .i64 _)) Z Z Z Z Z Z (by first | exact Nat.zero_add _ | rfl) (by omega) Z (by repeat (first | exact AbsL.nil' | refine AbsL.v' ?_ | refine AbsL.own' ?_)) Z Z Z ?_
  refine nZ Z (oN (bN (tN (rG (eZ Z (evI ?_))))))
  refine eZ Z (oN ?_)
  refine lQ (_, _) ?_ ?_
  ·dsimp only
   exact ⟨by omega, by omega, by simpa using hk2, fill_step hk0 (by omega) hk2 hk3⟩
  ·(show Int.toNat _ < Int.toNat _); omega
 simp only [HS] at h1
 refine W_exit (tE (loopQ_e (inBlk_y (tN (sQ (rG (eK 2 Z (oN (tN (W_le (Le.gather (u := 2) (id := 7) Z Z (by omega)) (rT (eR ?_))))))))))))
 ·rw [List.take_of_length_le (by omega), fill_end (by omega) hk2 hk3]; rfl
abbrev intss (l : List (List Int)) : T := .list 1 (l.map T.ints)
theorem toIntSS_fun (l : List (List Int)) (hl : l.length ≤ 1048576) (hll : ∀ x, x ∈ l → x.length ≤ 1048576) : Fun Tryz.prog 18 [.t (intss l)] (tupD [.own (intss l)]) := by
 refine Fun.begin tys Tryz.func18 Z Z (N := 23) [(0, .t (intss l))] Z Z (fun w0 G F0 => ?_)
 refine sQ (rG (eZ Z (oN (tN (sQ (rG (eZ Z (evE ?_))))))))
 refine WO_make tys (.list 1 []) _ Z Z (lt_of Z) Z Z Z Z Z (by repeat (first | exact AbsL.nil' | refine AbsL.v' ?_ | refine AbsL.none' ?_)) Z (by omega) (by decide) ?_
 refine nZ Z (eZ Z (oN (tN (sQ (sQ (rG (eZ Z (oN (tN (W_block ?_))))))))))
 refine lK (α := Int × List T) [0, 3] [] (fun x => [(4, .t (.int (x.1)))]) (fun x => [(7, .L 1 (x.2))]) (fun x => 0 ≤ (x.1) ∧ (x.1) ≤ l.length ∧ (x.2).length = l.length ∧ (x.2).take (x.1).toNat = (l.take (x.1).toNat).map T.ints) (fun x => Int.toNat (l.length - (x.1))) (0, List.replicate l.length (.list 1 [])) ?_ (fun x hx => ?_)
 ·exact ⟨by omega, by omega, by simp, by simp⟩
 obtain ⟨k, xs⟩ := x
 obtain ⟨hk0, hk1, hk2, hk3⟩ := hx
 dsimp only at hk0 hk1 hk2 hk3 ⊢
 refine nY Z (sQ (sQ (rG (eK 2 Z (evE ?_)))))
 refine eZ Z (oN (tN ?_))
 refine W_cond Z (fun h1 => ?_) (fun h1 => ?_)
 ·
  simp only [HS] at h1
  refine W_skip (tN (sQ (W_block (rG (eK 4 Z (WO_idxT tys Z Z (lt_of Z) Z Z Z Z Z Z Z (by omega) _ (getT _ _ (by omega) (by omega)) (kZ [0,3,4,8,9,10,11,14,15,16,17,18] Z (eZ Z (callB ?_)))))))))
  refine ⟨_, toIntS_fun _ (hll _ (List.getElem_mem _)), rfl, ?_⟩
  refine WO_idxS tys Z Z (lt_of Z) Z Z Z Z Z Z Z Z (by omega) (by omega) ?_
  refine WO_storeE tys (T.ints _) Z Z Z Z Z Z (by first | exact Nat.zero_add _ | rfl) (by omega) Z (by repeat (first | exact AbsL.nil' | refine AbsL.v' ?_ | refine AbsL.own' ?_)) Z Z Z ?_
  refine nZ Z (oN (bN (tN (rG (eZ Z (evI ?_))))))
  refine eZ Z (oN ?_)
  refine lQ (_, _) ?_ ?_
  ·dsimp only
   exact ⟨by omega, by omega, by simpa using hk2, fill_step hk0 (by omega) hk2 hk3⟩
  ·(show Int.toNat _ < Int.toNat _); omega
 simp only [HS] at h1
 refine W_exit (tE (loopQ_e (inBlk_y (tN (sQ (rG (eK 2 Z (oN (tN (W_le (Le.gather (u := 2) (id := 7) Z Z (by omega)) (rT (eR ?_))))))))))))
 ·rw [List.take_of_length_le (by omega), fill_end (by omega) hk2 hk3]
def eqGo {α : Type} (f : α → α → Bool) : List α → List α → Bool
 | x :: xs, y :: ys => f x y && eqGo f xs ys
 | _, _ => true
def eqL {α : Type} (f : α → α → Bool) (a b : List α) : Bool := a.length == b.length && eqGo f a b
theorem eqGo_refl {α : Type} {f : α → α → Bool} (h : ∀ x, f x x = true) : ∀ l : List α, eqGo f l l = true
 | [] => rfl
 | x :: l => by rw [eqGo, h, eqGo_refl h l]; rfl
theorem eqL_refl {α : Type} {f : α → α → Bool} (h : ∀ x, f x x = true) (l : List α) : eqL f l l = true := by
 unfold eqL; rw [eqGo_refl h]; simp
def eqI (a b : Int) : Bool := decide (a = b)
theorem eqL_len {α : Type} {f : α → α → Bool} {a b : List α} (h : ¬ (a.length : Int) = b.length) : eqL f a b = false := by
 unfold eqL
 have : (a.length == b.length) = false := by simpa using fun e => h (by omega)
 rw [this]; rfl
theorem eqGo_at {α : Type} {f : α → α → Bool} {a b : List α} {k : Int} (h0 : 0 ≤ k) (h1 : k < a.length) (h : (a.length : Int) = b.length) :
  eqGo f (a.drop k.toNat) (b.drop k.toNat) = (f (a[k.toNat]'(by omega)) (b[k.toNat]'(by omega)) && eqGo f (a.drop (k + 1).toNat) (b.drop (k + 1).toNat)) := by
 rw [drop_at h0 (by omega), drop_at (l := b) h0 (by omega), eqGo]
theorem eqL_eq {α : Type} {f : α → α → Bool} {a b : List α} (h : (a.length : Int) = b.length) : eqL f a b = eqGo f a b := by
 unfold eqL
 have : (a.length == b.length) = true := by simp; omega
 rw [this]; rfl
theorem eqIntS_fun (a b : List Int) (ha : a.length ≤ 9223372036854775807) (hb : b.length ≤ 9223372036854775807) : Fun Tryz.prog 13 [.t (T.ints a), .t (T.ints b)] (tupD [.t (.bool (eqL eqI a b))]) := by
 refine Fun.begin tys Tryz.func13 Z Z (N := 26) [(0, .t (T.ints a)), (1, .t (T.ints b))] Z Z (fun w0 G F0 => ?_)
 refine sQ (rG (eZ Z (oN (tN (sQ (sQ (rG (eZ Z (evE ?_)))))))))
 refine eZ Z (evE ?_)
 refine eZ Z (oN (tN ?_))
 refine W_cond Z (fun h1 => ?_) (fun h1 => ?_)
 ·
  simp only [HS] at h1
  refine sQ (rG (eZ Z (oN (tN (rT (tR (eR ?_)))))))
  ·rw [eqL_len h1]
   done
 simp only [HS] at h1
 refine W_skip (tN (sQ (sQ (rG (eZ Z (oN (tN (W_block ?_))))))))
 refine lK (α := Int) [0, 1] [] (fun x => [(5, .t (.int x))]) (fun x => []) (fun x => 0 ≤ x ∧ x ≤ a.length ∧ eqGo eqI a b = eqGo eqI (a.drop x.toNat) (b.drop x.toNat)) (fun x => Int.toNat (a.length - x)) 0 ?_ (fun k hx => ?_)
 ·exact ⟨by omega, by omega, rfl⟩
 obtain ⟨hk0, hk1, hk2⟩ := hx
 refine nY Z (sQ (sQ (rG (eK 2 Z (evE ?_)))))
 refine eZ Z (oN (tN ?_))
 refine W_cond Z (fun h2 => ?_) (fun h2 => ?_)
 ·
  simp only [HS] at h2
  refine W_skip (tN (sQ (W_block (sQ (W_regionD mixed (by kernel_rfl) (evQ ?_))))))
  refine evQ ?_
  refine QL_norm Z (QL_idxT tys Z Z (lt_of Z) Z Z Z Z Z Z Z (by omega) _ (getT _ _ (by omega) (by omega)) (evQ ?_))
  refine evQ ?_
  refine evQ ?_
  refine QL_idxT tys Z Z (lt_of Z) Z Z Z Z Z Z Z (by omega) _ (getT _ _ (by omega) (by omega)) (evQ ?_)
  refine QL_norm Z (evQ ?_)
  refine QL_nil (tN ?_)
  refine W_cond Z (fun h3 => ?_) (fun h3 => ?_)
  ·
   simp only [HS] at h3
   refine sQ (rG (eZ Z (oN (tN (rT (bR (tR (loopQ_r (bR (tR (eR ?_)))))))))))
   ·rw [eqL_eq h1, hk2, eqGo_at hk0 h2 h1]
    simp [eqI, h3]
    done
  simp only [HS] at h3
  refine W_skip (bN (tN (rG (eZ Z (evI ?_)))))
  refine eZ Z (oN ?_)
  refine lQ _ ?_ ?_
  ·skip
   refine ⟨by omega, by omega, ?_⟩; rw [hk2, eqGo_at hk0 h2 h1]; simp [eqI, h3]
  ·(show Int.toNat _ < Int.toNat _); omega
 simp only [HS] at h2
 refine W_exit (tE (loopQ_e (inBlk_y (tN (sQ (rG (eZ Z (oN (tN (rT (eR ?_)))))))))))
 ·rw [eqL_eq h1, hk2, drop_end h2]
  rfl
theorem eqIntSS_fun (a b : List (List Int)) (ha : a.length ≤ 9223372036854775807) (hb : b.length ≤ 9223372036854775807) (hxa : ∀ x, x ∈ a → x.length ≤ 9223372036854775807) (hxb : ∀ x, x ∈ b → x.length ≤ 9223372036854775807) : Fun Tryz.prog 21 [.t (intss a), .t (intss b)] (tupD [.t (.bool (eqL (eqL eqI) a b))]) := by
 refine Fun.begin tys Tryz.func21 Z Z (N := 27) [(0, .t (intss a)), (1, .t (intss b))] Z Z (fun w0 G F0 => ?_)
 refine sQ (rG (eZ Z (oN (tN (sQ (sQ (rG (eZ Z (evE ?_)))))))))
 refine eZ Z (evE ?_)
 refine eZ Z (oN (tN ?_))
 refine W_cond Z (fun h1 => ?_) (fun h1 => ?_)
 ·
  simp only [HS] at h1
  refine sQ (rG (eZ Z (oN (tN (rT (tR (eR ?_)))))))
  ·rw [eqL_len h1]
   done
 simp only [HS] at h1
 refine W_skip (tN (sQ (sQ (rG (eZ Z (oN (tN (W_block ?_))))))))
 refine lK (α := Int) [0, 1] [] (fun x => [(5, .t (.int x))]) (fun x => []) (fun x => 0 ≤ x ∧ x ≤ a.length ∧ eqGo (eqL eqI) a b = eqGo (eqL eqI) (a.drop x.toNat) (b.drop x.toNat)) (fun x => Int.toNat (a.length - x)) 0 ?_ (fun k hx => ?_)
 ·exact ⟨by omega, by omega, rfl⟩
 obtain ⟨hk0, hk1, hk2⟩ := hx
 refine nY Z (sQ (sQ (rG (eK 2 Z (evE ?_)))))
 refine eZ Z (oN (tN ?_))
 refine W_cond Z (fun h2 => ?_) (fun h2 => ?_)
 ·
  simp only [HS] at h2
  refine W_skip (tN (sQ (W_block (sQ (W_regionD mixed (by kernel_rfl) (evQ ?_))))))
  refine evQ ?_
  refine QL_norm Z (QL_idxT tys Z Z (lt_of Z) Z Z Z Z Z Z Z (by omega) _ (getT _ _ (by omega) (by omega)) (evQ ?_))
  refine evQ ?_
  refine evQ ?_
  refine QL_idxT tys Z Z (lt_of Z) Z Z Z Z Z Z Z (by omega) _ (getT _ _ (by omega) (by omega)) (evQ ?_)
  refine QL_norm Z (callBQ ?_)
  refine ⟨_, eqIntS_fun _ _ (hxa _ (List.getElem_mem _)) (hxb _ (List.getElem_mem _)), rfl, ?_⟩
  refine evQ ?_
  refine QL_nil (tN ?_)
  refine W_cond Z (fun h3 => ?_) (fun h3 => ?_)
  ·
   simp only [HS] at h3
   refine sQ (rG (eZ Z (oN (tN (rT (bR (tR (loopQ_r (bR (tR (eR ?_)))))))))))
   ·rw [eqL_eq h1, hk2, eqGo_at hk0 h2 h1]
    simp [h3]
    done
  simp only [HS] at h3
  refine W_skip (bN (tN (rG (eZ Z (evI ?_)))))
  refine eZ Z (oN ?_)
  refine lQ _ ?_ ?_
  ·skip
   refine ⟨by omega, by omega, ?_⟩; rw [hk2, eqGo_at hk0 h2 h1]; simp [h3]
  ·(show Int.toNat _ < Int.toNat _); omega
 simp only [HS] at h2
 refine W_exit (tE (loopQ_e (inBlk_y (tN (sQ (rG (eZ Z (oN (tN (rT (eR ?_)))))))))))
 ·rw [eqL_eq h1, hk2, drop_end h2]
  rfl
def cnt (ll : List (List Int)) : Bool := decide ((ll.length : Int) ≤ 5) && ll.all fun l => decide ((l.length : Int) ≤ 300) && allIn l 0 1000000
theorem all_at {α : Type} {p : α → Bool} {l : List α} {k : Int} (h0 : 0 ≤ k) (h1 : k < l.length) : (l.drop k.toNat).all p = (p (l[k.toNat]'(by omega)) && (l.drop (k + 1).toNat).all p) := by
 rw [drop_at h0 h1, List.all_cons]
theorem l20Counts_fun (l : List (List Int)) (hl : l.length ≤ 1048576) (hll : ∀ x, x ∈ l → x.length ≤ 1048576) : Fun Tryz.prog 77 [.t (intss l)] (tupD [.t (.bool (cnt l))]) := by
 refine Fun.begin tys Tryz.func77 Z Z (N := 23) [(0, .t (intss l))] Z Z (fun w0 G F0 => ?_)
 refine sQ (rG (eZ Z (oN (tN (sQ (sQ (rG (eZ Z (evE ?_)))))))))
 refine eZ Z (oN (tN (W_block ?_)))
 refine lK (α := Int) [0, 5, 6] [] (fun x => [(7, .t (.int x))]) (fun x => []) (fun x => 0 ≤ x ∧ x ≤ l.length ∧ (l.all fun l => decide ((l.length : Int) ≤ 300) && allIn l 0 1000000) = ((l.drop x.toNat).all fun l => decide ((l.length : Int) ≤ 300) && allIn l 0 1000000)) (fun x => Int.toNat (l.length - x)) 0 ?_ (fun k hx => ?_)
 ·exact ⟨by omega, by omega, rfl⟩
 obtain ⟨hk0, hk1, hk2⟩ := hx
 refine nY Z (sQ (rG (eZ Z (oN (tN (sQ ?_))))))
 refine W_cond Z (fun h1 => ?_) (fun h1 => ?_)
 ·
  simp only [HS] at h1
  refine W_skip (tN (sQ (W_block (sQ (rG (WO_idxT tys Z Z (lt_of Z) Z Z Z Z Z Z Z (by omega) _ (getT _ _ (by omega) (by omega)) (eK 2 Z (oN (tN (sQ (rG (eZ Z (evE ?_)))))))))))))
  refine eK 2 Z ?_
  refine WO_guard Z Z Z Z (lt_of Z) (fun h2 => ?_) (fun h2 => ?_)
  rotate_left
  ·
   simp only [HS] at h2
   refine gM Z (kZ [0,4,5,6,7,8,9,10,11,12,13,14,15,16] Z (gM Z (eZ Z (oN (tN (W_condT Z (sQ (rG (eZ Z (oN (tN (rT (bR (tR (loopQ_r ?_)))))))))))))))
   refine bR (tR (eR ?_))
   ·rw [cnt, hk2, all_at hk0 h1]
    have := Int.not_le.2 h2
    simp [this]
    done
  simp only [HS] at h2
  refine eZ Z (gY Z (callB ?_))
  refine ⟨_, l1All_fun _ _ _ (by have := hll _ (List.getElem_mem (l := l) (n := k.toNat) (by omega)); omega), rfl, ?_⟩
  refine kZ [0,4,5,6,7,8,9,10,11,12,13,14,15,16] Z (gY Z (eK 2 Z (oN (tN ?_))))
  refine W_cond Z (fun h3 => ?_) (fun h3 => ?_)
  ·
   simp only [HS] at h3
   refine sQ (rG (eZ Z (oN (tN (rT (bR (tR (loopQ_r (bR (tR (eR ?_)))))))))))
   ·rw [cnt, hk2, all_at hk0 h1]
    simp [h3]
    done
  simp only [HS] at h3
  refine W_skip (bN (tN (rG (evI ?_))))
  refine eZ Z (oN ?_)
  refine lQ _ ?_ ?_
  ·skip
   refine ⟨by omega, by omega, ?_⟩; rw [hk2, all_at hk0 h1]; simp [h2, h3]
  ·(show Int.toNat _ < Int.toNat _); omega
 simp only [HS] at h1
 refine W_exit (tE (loopQ_e (inBlk_y (tN (sQ (rG (eZ Z (evE ?_))))))))
 refine eK 2 Z (oN (tN (rT (eR ?_))))
 ·rw [cnt, hk2, drop_end h1]
  simp
  done
def idxGo {α : Type} (p : α → Bool) : List α → Int → Int
 | [], _ => -1
 | x :: xs, k => if p x then k else idxGo p xs (k + 1)
theorem idxGo_any {α : Type} {p : α → Bool} : ∀ {l : List α} {k : Int}, 0 ≤ k → decide (0 ≤ idxGo p l k) = l.any p
 | [], _, _ => rfl
 | x :: l, k, h => by
  rw [idxGo, List.any_cons]
  cases hp : p x
  ·simpa using idxGo_any (l := l) (k := k + 1) (by omega)
  ·simpa using h
theorem idx_at {α : Type} {p : α → Bool} {l : List α} {k : Int} (h0 : 0 ≤ k) (h1 : k < l.length) : idxGo p (l.drop k.toNat) k = if p (l[k.toNat]'(by omega)) then k else idxGo p (l.drop (k + 1).toNat) (k + 1) := by
 rw [drop_at h0 h1, idxGo]
theorem idxSS_fun (l : List (List Int)) (p : List Int → Bool) (f : Nat) (caps : List D) (hcaps : caps.all D.imm = true) (hl : l.length ≤ 9223372036854775807) (hf : ∀ x, x ∈ l → Fun Tryz.prog f (.t (T.ints x) :: caps) (.t (.bool (p x)))) : Fun Tryz.prog 147 [.t (intss l), .clo f caps] (tupD [.t (.int (idxGo p l 0))]) := by
 refine Fun.begin tys Tryz.func147 Z Z (N := 19) [(0, .t (intss l)), (1, .clo f caps)] Z Z (fun w0 G F0 => ?_)
 refine sQ (rG (eZ Z (oN (tN (sQ (sQ (rG (eZ Z (evE ?_)))))))))
 refine eZ Z (oN (tN (W_block ?_)))
 refine lK (α := Int) [0, 1, 7] [] (fun x => [(8, .t (.int x))]) (fun x => []) (fun x => 0 ≤ x ∧ x ≤ l.length ∧ idxGo p l 0 = idxGo p (l.drop x.toNat) x) (fun x => Int.toNat (l.length - x)) 0 ?_ (fun k hx => ?_)
 ·exact ⟨by omega, by omega, rfl⟩
 obtain ⟨hk0, hk1, hk2⟩ := hx
 refine nY Z (sQ (rG (eZ Z (oN (tN (sQ ?_))))))
 refine W_cond Z (fun h1 => ?_) (fun h1 => ?_)
 ·
  simp only [HS] at h1
  refine W_skip (tN (sQ (W_block (sQ (rG (eK 2 Z (oN (tN (sQ (rG (WO_moveClo tys Z Z (lt_of Z) Z Z (by assumption) ?_)))))))))))
  refine eK 2 Z (WO_idxT tys Z Z (lt_of Z) Z Z Z Z Z Z Z (by omega) _ (getT _ _ (by omega) (by omega)) (eZ Z ?_))
  refine WO_call Z Z (lt_of Z) Z Z (by repeat (first | exact ResL.done | exact ResL.imms (by first | rfl | assumption) | refine ResL.t ?_ | refine ResL.own ?_ | refine ResL.slA Z (by first | rfl | (simp; done) | (simp; omega)) ?_ | refine ResL.sl Z (by first | omega | (simp; done) | (simp; omega)) ?_ | refine ResL.rp ?_ | refine ResL.clo ?_ ?_ | refine ResL.aggT ?_ ?_ | refine ResL.ref Z ?_ ?_ | refine ResL.nil' ?_ | refine ResL.nil 1 ?_)) (hf _ (List.getElem_mem _)) Z ?_
  refine kZ [0,1,5,7,8,9,10,11,12,13,14,15,16] Z (oN (tN ?_))
  refine W_cond Z (fun h2 => ?_) (fun h2 => ?_)
  ·
   refine sQ (rG (eK 2 Z (oN (tN (rT (bR (tR (loopQ_r (bR (tR (eR ?_)))))))))))
   ·rw [hk2, idx_at hk0 h1]
    simp [h2]
    done
  refine W_skip (bN (tN (rG (evI ?_))))
  refine eZ Z (oN ?_)
  refine lQ _ ?_ ?_
  ·skip
   refine ⟨by omega, by omega, ?_⟩; rw [hk2, idx_at hk0 h1]; simp [h2]
  ·(show Int.toNat _ < Int.toNat _); omega
 simp only [HS] at h1
 refine W_exit (tE (loopQ_e (inBlk_y (tN (sQ (rG (eZ Z (oN (tN (rT (eR ?_)))))))))))
 ·rw [hk2, drop_end h1]
  rfl
theorem idxS_fun (l : List Int) (p : Int → Bool) (f : Nat) (caps : List D) (hcaps : caps.all D.imm = true) (hl : l.length ≤ 9223372036854775807) (hf : ∀ x, x ∈ l → Fun Tryz.prog f (.t (T.int x) :: caps) (.t (.bool (p x)))) : Fun Tryz.prog 148 [.t (T.ints l), .clo f caps] (tupD [.t (.int (idxGo p l 0))]) := by
 refine Fun.begin tys Tryz.func148 Z Z (N := 19) [(0, .t (T.ints l)), (1, .clo f caps)] Z Z (fun w0 G F0 => ?_)
 refine sQ (rG (eZ Z (oN (tN (sQ (sQ (rG (eZ Z (evE ?_)))))))))
 refine eZ Z (oN (tN (W_block ?_)))
 refine lK (α := Int) [0, 1, 7] [] (fun x => [(8, .t (.int x))]) (fun x => []) (fun x => 0 ≤ x ∧ x ≤ l.length ∧ idxGo p l 0 = idxGo p (l.drop x.toNat) x) (fun x => Int.toNat (l.length - x)) 0 ?_ (fun k hx => ?_)
 ·exact ⟨by omega, by omega, rfl⟩
 obtain ⟨hk0, hk1, hk2⟩ := hx
 refine nY Z (sQ (rG (eZ Z (oN (tN (sQ ?_))))))
 refine W_cond Z (fun h1 => ?_) (fun h1 => ?_)
 ·
  simp only [HS] at h1
  refine W_skip (tN (sQ (W_block (sQ (rG (eK 2 Z (oN (tN (sQ (rG (WO_moveClo tys Z Z (lt_of Z) Z Z (by assumption) ?_)))))))))))
  refine eK 2 Z (WO_idxT tys Z Z (lt_of Z) Z Z Z Z Z Z Z (by omega) _ (getT _ _ (by omega) (by omega)) (eZ Z ?_))
  refine WO_call Z Z (lt_of Z) Z Z (by repeat (first | exact ResL.done | exact ResL.imms (by first | rfl | assumption) | refine ResL.t ?_ | refine ResL.own ?_ | refine ResL.slA Z (by first | rfl | (simp; done) | (simp; omega)) ?_ | refine ResL.sl Z (by first | omega | (simp; done) | (simp; omega)) ?_ | refine ResL.rp ?_ | refine ResL.clo ?_ ?_ | refine ResL.aggT ?_ ?_ | refine ResL.ref Z ?_ ?_ | refine ResL.nil' ?_ | refine ResL.nil 1 ?_)) (hf _ (List.getElem_mem _)) Z ?_
  refine kZ [0,1,5,7,8,9,10,11,12,13,14,15,16] Z (oN (tN ?_))
  refine W_cond Z (fun h2 => ?_) (fun h2 => ?_)
  ·
   refine sQ (rG (eK 2 Z (oN (tN (rT (bR (tR (loopQ_r (bR (tR (eR ?_)))))))))))
   ·rw [hk2, idx_at hk0 h1]
    simp [h2]
    done
  refine W_skip (bN (tN (rG (evI ?_))))
  refine eZ Z (oN ?_)
  refine lQ _ ?_ ?_
  ·skip
   refine ⟨by omega, by omega, ?_⟩; rw [hk2, idx_at hk0 h1]; simp [h2]
  ·(show Int.toNat _ < Int.toNat _); omega
 simp only [HS] at h1
 refine W_exit (tE (loopQ_e (inBlk_y (tN (sQ (rG (eZ Z (oN (tN (rT (eR ?_)))))))))))
 ·rw [hk2, drop_end h1]
  rfl
theorem hasSS_fun (l : List (List Int)) (p : List Int → Bool) (f : Nat) (caps : List D) (hcaps : caps.all D.imm = true) (hl : l.length ≤ 9223372036854775807) (hf : ∀ x, x ∈ l → Fun Tryz.prog f (.t (T.ints x) :: caps) (.t (.bool (p x)))) : Fun Tryz.prog 83 [.t (intss l), .clo f caps] (tupD [.t (.bool (l.any p))]) := by
 refine Fun.begin tys Tryz.func83 Z Z (N := 9) [(0, .t (intss l)), (1, .clo f caps)] Z Z (fun w0 G F0 => ?_)
 refine sQ (rG (eZ Z (oN (tN (sQ (rG (eZ Z (WO_moveClo tys Z Z (lt_of Z) Z Z (by assumption) ?_))))))))
 refine WO_call Z Z (lt_of Z) Z Z (by repeat (first | exact ResL.done | exact ResL.imms (by first | rfl | assumption) | refine ResL.t ?_ | refine ResL.own ?_ | refine ResL.slA Z (by first | rfl | (simp; done) | (simp; omega)) ?_ | refine ResL.sl Z (by first | omega | (simp; done) | (simp; omega)) ?_ | refine ResL.rp ?_ | refine ResL.clo ?_ ?_ | refine ResL.aggT ?_ ?_ | refine ResL.ref Z ?_ ?_ | refine ResL.nil' ?_ | refine ResL.nil 1 ?_)) (idxSS_fun l p f caps hcaps hl hf) Z ?_
 refine eK 2 Z (oN (tN (rT (eR ?_))))
 ·rw [← idxGo_any (Int.le_refl 0)]
theorem hasS_fun (l : List Int) (p : Int → Bool) (f : Nat) (caps : List D) (hcaps : caps.all D.imm = true) (hl : l.length ≤ 9223372036854775807) (hf : ∀ x, x ∈ l → Fun Tryz.prog f (.t (T.int x) :: caps) (.t (.bool (p x)))) : Fun Tryz.prog 85 [.t (T.ints l), .clo f caps] (tupD [.t (.bool (l.any p))]) := by
 refine Fun.begin tys Tryz.func85 Z Z (N := 9) [(0, .t (T.ints l)), (1, .clo f caps)] Z Z (fun w0 G F0 => ?_)
 refine sQ (rG (eZ Z (oN (tN (sQ (rG (eZ Z (WO_moveClo tys Z Z (lt_of Z) Z Z (by assumption) ?_))))))))
 refine WO_call Z Z (lt_of Z) Z Z (by repeat (first | exact ResL.done | exact ResL.imms (by first | rfl | assumption) | refine ResL.t ?_ | refine ResL.own ?_ | refine ResL.slA Z (by first | rfl | (simp; done) | (simp; omega)) ?_ | refine ResL.sl Z (by first | omega | (simp; done) | (simp; omega)) ?_ | refine ResL.rp ?_ | refine ResL.clo ?_ ?_ | refine ResL.aggT ?_ ?_ | refine ResL.ref Z ?_ ?_ | refine ResL.nil' ?_ | refine ResL.nil 1 ?_)) (idxS_fun l p f caps hcaps hl hf) Z ?_
 refine eK 2 Z (oN (tN (rT (eR ?_))))
 ·rw [← idxGo_any (Int.le_refl 0)]
theorem areCounts11_fun (n : Int) : Fun Tryz.prog 86 [.t (.int n)] (tupD [.t (.bool (!decide ((0 : Int) ≤ n ∧ n ≤ 1000000)))]) := by
 refine Fun.begin tys Tryz.func86 Z Z (N := 6) [(0, .t (.int n))] Z Z (fun w0 G F0 => ?_)
 refine sQ (rG (eZ Z (oN (tN (sQ (rG (eZ Z (callB ?_))))))))
 refine ⟨_, within_fun _ _ _, rfl, ?_⟩
 refine eK 2 Z (oN (tN (rT (eR ?_))))
 ·rfl
theorem any_not_all {l : List Int} : (l.any fun n => !decide ((0 : Int) ≤ n ∧ n ≤ 1000000)) = !allIn l 0 1000000 := by
 rw [allIn, List.not_all_eq_any_not]
theorem areCounts1_fun (l : List Int) (hl : l.length ≤ 1048576) : Fun Tryz.prog 84 [.t (T.ints l)] (tupD [.t (.bool (!(decide ((l.length : Int) ≤ 300) && allIn l 0 1000000)))]) := by
 refine Fun.begin tys Tryz.func84 Z Z (N := 10) [(0, .t (T.ints l))] Z Z (fun w0 G F0 => ?_)
 refine sQ (rG (eZ Z (oN (tN (sQ (rG (eZ Z (evE ?_))))))))
 refine eK 2 Z ?_
 refine WO_guard Z Z Z Z (lt_of Z) (fun h1 => ?_) (fun h1 => ?_)
 rotate_left
 ·
  simp only [HS] at h1
  refine gM Z (eK 2 Z (oN (tN (rT (eR ?_)))))
  ·have := Int.not_le.2 h1
   simp [this]
   done
 simp only [HS] at h1
 refine eZ Z (gY Z (callB ?_))
 refine ⟨_, hasS_fun l (fun n => !decide ((0 : Int) ≤ n ∧ n ≤ 1000000)) _ [] Z (by omega) (fun x _ => areCounts11_fun x), rfl, ?_⟩
 refine eK 2 Z (kZ [2] Z (oN (tN (rT (eR ?_)))))
 ·rw [any_not_all]
  simp [h1]
  done
theorem areCounts_fun (l : List (List Int)) (hl : l.length ≤ 1048576) (hll : ∀ x, x ∈ l → x.length ≤ 1048576) : Fun Tryz.prog 48 [.t (intss l)] (tupD [.t (.bool (cnt l))]) := by
 refine Fun.begin tys Tryz.func48 Z Z (N := 11) [(0, .t (intss l))] Z Z (fun w0 G F0 => ?_)
 refine sQ (rG (eZ Z (oN (tN (sQ (rG (eZ Z (evE ?_))))))))
 refine eK 2 Z ?_
 refine WO_guard Z Z Z Z (lt_of Z) (fun h1 => ?_) (fun h1 => ?_)
 rotate_left
 ·
  simp only [HS] at h1
  refine gM Z (gM Z (eK 2 Z (kZ [2] Z (oN (tN (rT (eR ?_)))))))
  ·have := Int.not_le.2 h1
   simp [cnt, this]
   done
 simp only [HS] at h1
 refine eZ Z (gY Z (callB ?_))
 refine ⟨_, hasSS_fun l (fun x => !(decide ((x.length : Int) ≤ 300) && allIn x 0 1000000)) _ [] Z (by omega) (fun x hx => areCounts1_fun x (hll x hx)), rfl, ?_⟩
 refine gY Z (eK 2 Z (kZ [2,10] Z (eZ Z (oN (tN (rT (eR ?_)))))))
 ·rw [cnt, List.all_eq_not_any_not]
  simp [h1]
  done
open Go.ChangeShapes Go.WideShapes Go.ChangeAt Go.RowKit Go.Eng
theorem Tryz.own : ownKnob Tryz.prog.godebug = none := by kernel_rfl
theorem Tryz.laidOut : laidOutB Tryz.prog = true := by kernel_rfl
theorem rd_i {x : T} (h : Rd Tryz.prog 3 x) : ∃ n : Int, x = T.int n ∧ True := by
 obtain ⟨n, rfl, _⟩ := rd_int (k := .i64) (by kernel_rfl) h
 exact ⟨n, rfl, trivial⟩
theorem rd_ints {x : T} (h : Rd Tryz.prog 25 x) : ∃ l : List Int, x = T.ints l ∧ l.length ≤ 9223372036854775807 := by
 obtain ⟨l, rfl, h1, h2⟩ := rd_list (e := 3) (n := 1) (by kernel_rfl) (by kernel_rfl) (fun y hy => rd_i hy) h
 exact ⟨l, rfl, h1⟩
theorem rd_intss {x : T} (h : Rd Tryz.prog 40 x) : ∃ l : List (List Int), x = intss l ∧ l.length ≤ 9223372036854775807 ∧ ∀ y, y ∈ l → y.length ≤ 9223372036854775807 :=
 rd_list (e := 25) (n := 1) (by kernel_rfl) (by kernel_rfl) (fun y hy => rd_ints hy) h
open Go.Eng
def okN {α : Type} (B : Nat) (l : List α) : Prop := l.length ≤ B
def okL {α : Type} (B : Nat) (ok : α → Prop) (l : List α) : Prop := l.length ≤ B ∧ ∀ x, x ∈ l → ok x
theorem flat_at {α : Type} {l : List (List α)} {k : Int} (h0 : 0 ≤ k) (h1 : k < l.length) : (l.drop k.toNat).flatten = l[k.toNat]'(by omega) ++ (l.drop (k + 1).toNat).flatten := by
 rw [drop_at h0 h1, List.flatten_cons]
theorem take_at {α : Type} {l : List α} {k : Int} (h0 : 0 ≤ k) (h1 : k < l.length) : l.take (k + 1).toNat = l.take k.toNat ++ [l[k.toNat]'(by omega)] := by
 rw [show (k + 1).toNat = k.toNat + 1 from by omega, List.take_add_one, List.getElem?_eq_getElem (by omega)]
 rfl
theorem take_end {α : Type} {l : List α} {k : Int} (h1 : (l.length : Int) ≤ k) : l.take k.toNat = l := List.take_of_length_le (by omega)
def szSeq : List (Int → Int) → Int → Int
 | [], left => left
 | f :: fs, left => if f left < 0 then -1 else szSeq fs (f left)
def szLen {α : Type} (l : List α) (left : Int) : Int := szN l.length left
def szIntS (l : List Int) (left : Int) : Int := szN l.length left
def szIntSS (l : List (List Int)) (left : Int) : Int := szL (fun x => szN x.length) l left
def SzA (f : Int → Int) (p : Prop) : Prop := ∀ left : Int, 0 ≤ left → left ≤ 1048576 → f left ≤ left ∧ -1 ≤ f left ∧ (0 ≤ f left → p)
def SzG {α : Type} (f : α → Int → Int) (ok : α → Prop) : Prop := ∀ x, SzA (f x) (ok x)
theorem szN_g {α : Type} : SzG (fun (l : List α) => szN l.length) (okN 1048576) := by
 intro l left h0 hh
 unfold szN okN
 dsimp only
 split <;> refine ⟨by omega, by omega, fun h => by omega⟩
theorem szLen_g {α : Type} (l : List α) : SzA (szLen l) (okN 1048576 l) := szN_g l
theorem szIntS_g (l : List Int) : SzA (szIntS l) (okN 1048576 l) := szN_g l
theorem szGo_g {α : Type} {f : α → Int → Int} {ok : α → Prop} : ∀ {l : List α}, (∀ x, x ∈ l → SzA (f x) (ok x)) → SzA (szGo f l) (∀ x, x ∈ l → ok x)
 | [], _, left, h0, hh => ⟨by simp [szGo], by simp [szGo]; omega, fun _ x hx => by cases hx⟩
 | x :: l, h, left, h0, hh => by
  have h1 := h x (List.mem_cons_self ..) left h0 hh
  rw [szGo]
  split
  ·exact ⟨by omega, by omega, fun h => by omega⟩
  ·have h2 := szGo_g (fun y hy => h y (List.mem_cons_of_mem _ hy)) (f x left) (by omega) (by omega)
   refine ⟨by omega, by omega, fun h3 y hy => ?_⟩
   rcases List.mem_cons.1 hy with rfl | hy
   ·exact h1.2.2 (by omega)
   ·exact h2.2.2 h3 y hy
theorem szL_a {α : Type} {f : α → Int → Int} {ok : α → Prop} {l : List α} (h : ∀ x, x ∈ l → SzA (f x) (ok x)) : SzA (szL f l) (okL 1048576 ok l) := by
 intro left h0 hh
 unfold szL okL
 split
 ·exact ⟨by omega, by omega, fun h => by omega⟩
 ·have h2 := szGo_g h (left - l.length) (by omega) (by omega)
  exact ⟨by omega, by omega, fun h3 => ⟨by omega, h2.2.2 h3⟩⟩
theorem szL_g {α : Type} {f : α → Int → Int} {ok : α → Prop} (h : SzG f ok) : SzG (szL f) (okL 1048576 ok) := fun l => szL_a fun x _ => h x
theorem szIntSS_g (l : List (List Int)) : SzA (szIntSS l) (okL 1048576 (okN 1048576) l) := szL_g szN_g l
theorem szSeq_nil : SzA (szSeq []) True := fun left h0 hh => ⟨by simp [szSeq], by simp [szSeq]; omega, fun _ => trivial⟩
theorem szSeq_step {f : Int → Int} {fs : List (Int → Int)} {p q : Prop} (h1 : SzA f p) (h2 : SzA (szSeq fs) q) : SzA (szSeq (f :: fs)) (p ∧ q) := by
 intro left h0 hh
 have g1 := h1 left h0 hh
 rw [szSeq]
 split
 ·exact ⟨by omega, by omega, fun h => by omega⟩
 ·have g2 := h2 (f left) (by omega) (by omega)
  exact ⟨by omega, by omega, fun h => ⟨g1.2.2 (by omega), g2.2.2 h⟩⟩
def eqB (a b : Bool) : Bool := a == b
theorem eqI_refl : ∀ x, eqI x x = true := fun x => by simp [eqI]
theorem szIntSo_fun (l : List Int) (left : Int) (hl : okN 9223372036854775807 l) (h0 : 0 ≤ left) (hh : left ≤ 1048576) : Fun Tryz.prog 42 [.t (T.ints l), .t (.int left)] (.t (.int (szIntS l left))) := szIntS_fun l left hl h0 hh
theorem toIntSo_fun (l : List Int) (hl : okN 1048576 l) : Fun Tryz.prog 10 [.t (T.ints l)] (.own (T.ints l)) := toIntS_fun l hl
theorem eqIntSo_fun (a b : List Int) (ha : okN 9223372036854775807 a) (hb : okN 9223372036854775807 b) : Fun Tryz.prog 13 [.t (T.ints a), .t (T.ints b)] (.t (.bool (eqL eqI a b))) := eqIntS_fun a b ha hb
theorem szIntSSo_fun (l : List (List Int)) (left : Int) (hl : okL 9223372036854775807 (okN 9223372036854775807) l) (h0 : 0 ≤ left) (hh : left ≤ 1048576) :
  Fun Tryz.prog 15 [.t (intss l), .t (.int left)] (.t (.int (szIntSS l left))) := szIntSS_fun l left hl.1 hl.2 h0 hh
theorem toIntSSo_fun (l : List (List Int)) (hl : okL 1048576 (okN 1048576) l) : Fun Tryz.prog 18 [.t (intss l)] (.own (intss l)) := toIntSS_fun l hl.1 hl.2
theorem eqIntSSo_fun (a b : List (List Int)) (ha : okL 9223372036854775807 (okN 9223372036854775807) a) (hb : okL 9223372036854775807 (okN 9223372036854775807) b) :
  Fun Tryz.prog 21 [.t (intss a), .t (intss b)] (.t (.bool (eqL (eqL eqI) a b))) := eqIntSS_fun a b ha.1 hb.1 ha.2 hb.2
open Go.Eng
structure Ins where
 op : Int
 n : Int
def Ins.tt (x : Ins) : T := .agg [T.int x.op, T.int x.n]
def eqIns (a b : Ins) : Bool := eqI a.op b.op && eqI a.n b.n && true
theorem eqIns_refl (a : Ins) : eqIns a a = true := by
 unfold eqIns; simp only [eqI_refl, Bool.and_self]
theorem toIns_fun (x : Ins) : Fun Tryz.prog 185 [.t (Ins.tt x)] (tupD [.agg [.t (T.int x.op), .t (T.int x.n)]]) := by
 refine Fun.begin tys Tryz.func185 Z Z (N := 11) [(0, .t (Ins.tt x))] Z Z (fun w0 G F0 => ?_)
 refine sQ (rG (WO_box Z Z (lt_of Z) Z Z (nZ Z (WO_alloc tys Z Z (lt_of Z) Z Z Z (nZ Z (oN (tN (sQ (rG (WO_alloc tys Z Z (lt_of Z) Z Z Z (nZ Z (oN (tN (sQ (rG ?_)))))))))))))))
 refine eK 3 Z (sT Z (nZ Z (oN (tN (sQ (kY [1,2,3] Z (rG (eK 3 Z (sT Z (nZ Z (oN (tN (sQ (rG ?_))))))))))))))
 first | (refine ev ?_; try refine WO_le (Le.freeze (u := 10) rfl) ?_) | refine WO_loadMove tys rfl rfl (lt_of rfl) rfl rfl rfl rfl rfl rfl ?_
 refine nZ Z (sT Z (nZ Z (oN (tN (rT (eR ?_))))))
 ·rfl
theorem eqIns_fun (a b : Ins) : Fun Tryz.prog 198 [.t (Ins.tt a), .t (Ins.tt b)] (tupD [.t (.bool (eqIns a b))]) := by
 refine Fun.begin tys Tryz.func198 Z Z (N := 15) [(0, .t (Ins.tt a)), (1, .t (Ins.tt b))] Z Z (fun w0 G F0 => ?_)
 refine sQ (rG (WO_box Z Z (lt_of Z) Z Z (nZ Z (WO_box Z Z (lt_of Z) Z Z (nZ Z (eZ Z (oN (tN (sQ (sQ (rG (eK 5 Z (oN (tN ?_))))))))))))))
 refine W_cond Z (fun h1 => ?_) (fun h1 => ?_)
 ·
  try simp only [HS] at h1
  refine sQ (kY [2,3,4] Z (rG (eZ Z (oN (tN (rT (tR (eR ?_))))))))
  ·simp_all [eqIns, eqI, eqB]
 try simp only [HS] at h1
 refine W_skip (tN (sQ (sQ (kY [2,3,4] Z (rG (eK 5 Z (oN (tN ?_))))))))
 refine W_cond Z (fun h2 => ?_) (fun h2 => ?_)
 ·
  try simp only [HS] at h2
  refine sQ (rG (eZ Z (oN (tN (rT (tR (eR ?_)))))))
  ·simp_all [eqIns, eqI, eqB]
 try simp only [HS] at h2
 refine W_skip (tN (sQ (rG (eZ Z (oN (tN (rT (eR ?_))))))))
 ·simp_all [eqIns, eqI, eqB]
theorem szInsS_g (l : List Ins) : SzA (szLen l) (okN 1048576 l) := szLen_g l
abbrev T.Inss (l : List Ins) : T := .list 2 (l.map Ins.tt)
theorem szInsS_fun (l : List Ins) (left : Int) (hl : okN 9223372036854775807 l) (h0 : 0 ≤ left) (hh : left ≤ 1048576) : Fun Tryz.prog 132 [.t (T.Inss l), .t (.int left)] (tupD [.t (.int (szLen l left))]) := by
 unfold okN at hl
 refine Fun.begin tys Tryz.func132 Z Z (N := 12) [(0, .t (T.Inss l)), (1, .t (.int left))] Z Z (fun w0 G F0 => ?_)
 refine sQ (rG (eZ Z (oN (tN (sQ (rG (eK 2 Z (evE ?_))))))))
 refine evI ?_
 refine eZ Z (oN (tN (sQ (sQ (rG (eK 2 Z (oN (tN ?_))))))))
 refine W_cond Z (fun h1 => ?_) (fun h1 => ?_)
 ·
  try simp only [HS] at h1
  refine sQ (kY [1,4] Z (rG (eZ Z (oN (tN (rT (tR (eR ?_))))))))
  ·(simp only [szLen, szN]; simp_all <;> omega)
 try simp only [HS] at h1
 refine W_skip (tN (sQ (kY [1,4] Z (rG (eK 2 Z (oN (tN (rT (eR ?_)))))))))
 ·(simp only [szLen, szN]; simp_all <;> omega)
theorem toInsS_fun (l : List Ins) (hl : okN 1048576 l) : Fun Tryz.prog 137 [.t (T.Inss l)] (tupD [.own (T.Inss l)]) := by
 unfold okN at hl
 refine Fun.begin tys Tryz.func137 Z Z (N := 23) [(0, .t (T.Inss l))] Z Z (fun w0 G F0 => ?_)
 refine sQ (rG (eZ Z (oN (tN (sQ (rG (eZ Z (evE ?_))))))))
 refine WO_make tys (.agg [.v (.int .i64 0), .v (.int .i64 0)]) _ Z Z (lt_of Z) Z Z Z Z Z (by repeat (first | exact AbsL.nil' | refine AbsL.v' ?_ | refine AbsL.none' ?_)) Z (by omega) (by decide) ?_
 refine nZ Z (eZ Z (oN (tN (sQ (sQ (rG (eZ Z (oN (tN (W_block ?_))))))))))
 refine lK (α := Int × List T) [0, 3] [] (fun x => [(4, .t (.int (x.1)))]) (fun x => [(7, .L 2 (x.2))]) (fun x => 0 ≤ (x.1) ∧ (x.1) ≤ l.length ∧ (x.2).length = l.length ∧ (x.2).take (x.1).toNat = (l.take (x.1).toNat).map Ins.tt) (fun x => Int.toNat (l.length - (x.1))) (0, List.replicate l.length (.agg [.v (.int .i64 0), .v (.int .i64 0)])) ?_ (fun x hx => ?_)
 ·exact ⟨by omega, by omega, by simp, by simp⟩
 obtain ⟨k, xs⟩ := x
 obtain ⟨hk0, hk1, hk2, hk3⟩ := hx
 try dsimp only at hk0 hk1 hk2 hk3 ⊢
 refine nY Z (sQ (sQ (rG (eK 2 Z (evE ?_)))))
 refine eZ Z (oN (tN ?_))
 refine W_cond Z (fun h1 => ?_) (fun h1 => ?_)
 ·
  try simp only [HS] at h1
  refine W_skip (tN (sQ (W_block (rG (eK 4 Z ?_)))))
  first | refine WO_idxT tys rfl rfl (lt_of rfl) rfl rfl rfl rfl rfl rfl rfl (by omega) _ (getT _ _ (by omega) (by omega)) ?_ | refine WO_idxS tys rfl rfl (lt_of rfl) rfl rfl rfl rfl rfl rfl rfl rfl (by omega) (by omega) ?_
  refine kZ [0,3,4,8,9,10,11,14,15,16,17,18] Z ?_
  first | (refine ev ?_; try refine WO_le (Le.freeze (u := 19) rfl) ?_) | refine WO_loadL tys rfl rfl (lt_of rfl) rfl rfl rfl rfl (getT _ _ (by omega) (by omega)) rfl ?_ | refine WO_loadL tys rfl rfl (lt_of rfl) rfl rfl rfl rfl (getT0 _ _ (by omega) (by omega)) rfl ?_
  refine nZ Z (callB ?_)
  refine ⟨_, toIns_fun _, rfl, ?_⟩
  first | refine WO_idxT tys rfl rfl (lt_of rfl) rfl rfl rfl rfl rfl rfl rfl (by omega) _ (getT _ _ (by omega) (by omega)) ?_ | refine WO_idxS tys rfl rfl (lt_of rfl) rfl rfl rfl rfl rfl rfl rfl rfl (by omega) (by omega) ?_
  first | refine WO_storeE tys (Ins.tt _) rfl rfl rfl rfl rfl rfl (by first | exact Nat.zero_add _ | rfl) (by omega) rfl (by repeat (first | exact AbsL.nil' | refine AbsL.v' ?_ | refine AbsL.own' ?_)) rfl rfl rfl ?_ | refine WO_storeL tys _ rfl rfl rfl rfl rfl rfl (getT _ _ (by omega) (by omega)) rfl (by repeat (first | exact AbsL.nil' | refine AbsL.v' ?_ | refine AbsL.own' ?_)) rfl (by decide) (by decide) ?_
  refine nZ Z (oN (bN (tN (rG (eZ Z (evI ?_))))))
  refine eZ Z (oN ?_)
  refine lQ (_, _) ?_ ?_
  ·try dsimp only
   exact ⟨by omega, by omega, by simpa using hk2, fill_step hk0 (by omega) hk2 hk3⟩
  ·(show Int.toNat _ < Int.toNat _); omega
 try simp only [HS] at h1
 refine W_exit (tE (loopQ_e (inBlk_y (tN (sQ (rG (eK 2 Z (oN (tN (W_le (Le.gather (u := 2) (id := 7) Z Z (by omega)) (rT (eR ?_))))))))))))
 ·rw [List.take_of_length_le (by omega), fill_end (by omega) hk2 hk3]
theorem eqInsS_fun (a b : List Ins) (ha : okN 9223372036854775807 a) (hb : okN 9223372036854775807 b) : Fun Tryz.prog 149 [.t (T.Inss a), .t (T.Inss b)] (tupD [.t (.bool (eqL eqIns a b))]) := by
 unfold okN at ha hb
 refine Fun.begin tys Tryz.func149 Z Z (N := 27) [(0, .t (T.Inss a)), (1, .t (T.Inss b))] Z Z (fun w0 G F0 => ?_)
 refine sQ (rG (eZ Z (oN (tN (sQ (sQ (rG (eZ Z (evE ?_)))))))))
 refine eZ Z (evE ?_)
 refine eZ Z (oN (tN ?_))
 refine W_cond Z (fun h1 => ?_) (fun h1 => ?_)
 ·
  try simp only [HS] at h1
  refine sQ (rG (eZ Z (oN (tN (rT (tR (eR ?_)))))))
  ·first | (rw [eqL_len h1]; done) | (rw [eqL_eq h1, hk2, eqGo_at hk0 h2 h1]; simp [h3]; done) | (rw [eqL_eq h1, hk2, drop_end h2]; rfl)
 try simp only [HS] at h1
 refine W_skip (tN (sQ (sQ (rG (eZ Z (oN (tN (W_block ?_))))))))
 refine lK (α := Int) [0, 1] [] (fun x => [(5, .t (.int x))]) (fun x => []) (fun x => 0 ≤ x ∧ x ≤ a.length ∧ eqGo eqIns a b = eqGo eqIns (a.drop x.toNat) (b.drop x.toNat)) (fun x => Int.toNat (a.length - x)) 0 ?_ (fun k hx => ?_)
 ·exact ⟨by omega, by omega, rfl⟩
 obtain ⟨hk0, hk1, hk2⟩ := hx
 refine nY Z (sQ (sQ (rG (eK 2 Z (evE ?_)))))
 refine eZ Z (oN (tN ?_))
 refine W_cond Z (fun h2 => ?_) (fun h2 => ?_)
 ·
  try simp only [HS] at h2
  refine W_skip (tN (sQ (W_block (sQ (W_regionD mixed (by kernel_rfl) (evQ ?_))))))
  refine evQ ?_
  refine QL_norm Z ?_
  first | refine QL_idxT tys rfl rfl (lt_of rfl) rfl rfl rfl rfl rfl rfl rfl (by omega) _ (getT _ _ (by omega) (by omega)) ?_ | refine QL_idxS tys rfl rfl (lt_of rfl) rfl rfl rfl rfl rfl rfl rfl rfl (by omega) (by omega) ?_
  first | refine QL_evZ tys rfl rfl (lt_of rfl) rfl rfl ?_ | refine evQ ?_ | refine QL_loadL tys rfl rfl (lt_of rfl) rfl rfl rfl rfl (getT _ _ (by omega) (by omega)) rfl ?_ | refine QL_loadL tys rfl rfl (lt_of rfl) rfl rfl rfl rfl (getT0 _ _ (by omega) (by omega)) rfl ?_
  refine evQ ?_
  refine evQ ?_
  first | refine QL_idxT tys rfl rfl (lt_of rfl) rfl rfl rfl rfl rfl rfl rfl (by omega) _ (getT _ _ (by omega) (by omega)) ?_ | refine QL_idxS tys rfl rfl (lt_of rfl) rfl rfl rfl rfl rfl rfl rfl rfl (by omega) (by omega) ?_
  first | refine QL_evZ tys rfl rfl (lt_of rfl) rfl rfl ?_ | refine evQ ?_ | refine QL_loadL tys rfl rfl (lt_of rfl) rfl rfl rfl rfl (getT _ _ (by omega) (by omega)) rfl ?_ | refine QL_loadL tys rfl rfl (lt_of rfl) rfl rfl rfl rfl (getT0 _ _ (by omega) (by omega)) rfl ?_
  refine QL_norm Z (callBQ ?_)
  refine ⟨_, eqIns_fun _ _, rfl, ?_⟩
  refine evQ ?_
  refine QL_nil (tN ?_)
  refine W_cond Z (fun h3 => ?_) (fun h3 => ?_)
  ·
   try simp only [HS] at h3
   refine sQ (rG (eZ Z (oN (tN (rT (bR (tR (loopQ_r (bR (tR (eR ?_)))))))))))
   ·first | (rw [eqL_len h1]; done) | (rw [eqL_eq h1, hk2, eqGo_at hk0 h2 h1]; simp [h3]; done) | (rw [eqL_eq h1, hk2, drop_end h2]; rfl)
  try simp only [HS] at h3
  refine W_skip (bN (tN (rG (eZ Z (evI ?_)))))
  refine eZ Z (oN ?_)
  refine lQ _ ?_ ?_
  ·try dsimp only
   refine ⟨by omega, by omega, ?_⟩; rw [hk2, eqGo_at hk0 h2 h1]; simp [h3]
  ·(show Int.toNat _ < Int.toNat _); omega
 try simp only [HS] at h2
 refine W_exit (tE (loopQ_e (inBlk_y (tN (sQ (rG (eZ Z (oN (tN (rT (eR ?_)))))))))))
 ·first | (rw [eqL_len h1]; done) | (rw [eqL_eq h1, hk2, eqGo_at hk0 h2 h1]; simp [h3]; done) | (rw [eqL_eq h1, hk2, drop_end h2]; rfl)
structure Row where
 lo : Int
 hi : Int
 pad : Int
def Row.tt (x : Row) : T := .agg [T.int x.lo, T.int x.hi, T.int x.pad]
def eqRow (a b : Row) : Bool := eqI a.lo b.lo && eqI a.hi b.hi && eqI a.pad b.pad && true
theorem eqRow_refl (a : Row) : eqRow a a = true := by
 unfold eqRow; simp only [eqI_refl, Bool.and_self]
theorem toRow_fun (x : Row) : Fun Tryz.prog 186 [.t (Row.tt x)] (tupD [.agg [.t (T.int x.lo), .t (T.int x.hi), .t (T.int x.pad)]]) := by
 refine Fun.begin tys Tryz.func186 Z Z (N := 14) [(0, .t (Row.tt x))] Z Z (fun w0 G F0 => ?_)
 refine sQ (rG (WO_box Z Z (lt_of Z) Z Z (nZ Z (WO_alloc tys Z Z (lt_of Z) Z Z Z (nZ Z (oN (tN (sQ (rG (WO_alloc tys Z Z (lt_of Z) Z Z Z (nZ Z (oN (tN (sQ (rG ?_)))))))))))))))
 refine eK 3 Z (sT Z (nZ Z (oN (tN (sQ (kY [1,2,3] Z (rG (eK 3 Z (sT Z (nZ Z (oN (tN (sQ (rG (eK 3 Z ?_)))))))))))))))
 refine sT Z (nZ Z (oN (tN (sQ (kY [2,3] Z (rG ?_))))))
 first | (refine ev ?_; try refine WO_le (Le.freeze (u := 13) rfl) ?_) | refine WO_loadMove tys rfl rfl (lt_of rfl) rfl rfl rfl rfl rfl rfl ?_
 refine nZ Z (sT Z (nZ Z (oN (tN (rT (eR ?_))))))
 ·rfl
theorem eqRow_fun (a b : Row) : Fun Tryz.prog 199 [.t (Row.tt a), .t (Row.tt b)] (tupD [.t (.bool (eqRow a b))]) := by
 refine Fun.begin tys Tryz.func199 Z Z (N := 20) [(0, .t (Row.tt a)), (1, .t (Row.tt b))] Z Z (fun w0 G F0 => ?_)
 refine sQ (rG (WO_box Z Z (lt_of Z) Z Z (nZ Z (WO_box Z Z (lt_of Z) Z Z (nZ Z (eZ Z (oN (tN (sQ (sQ (rG (eK 5 Z (oN (tN ?_))))))))))))))
 refine W_cond Z (fun h1 => ?_) (fun h1 => ?_)
 ·
  try simp only [HS] at h1
  refine sQ (kY [2,3,4] Z (rG (eZ Z (oN (tN (rT (tR (eR ?_))))))))
  ·simp_all [eqRow, eqI, eqB]
 try simp only [HS] at h1
 refine W_skip (tN (sQ (sQ (kY [2,3,4] Z (rG (eK 5 Z (oN (tN ?_))))))))
 refine W_cond Z (fun h2 => ?_) (fun h2 => ?_)
 ·
  try simp only [HS] at h2
  refine sQ (rG (eZ Z (oN (tN (rT (tR (eR ?_)))))))
  ·simp_all [eqRow, eqI, eqB]
 try simp only [HS] at h2
 refine W_skip (tN (sQ (sQ (rG (eK 4 Z (kZ [4,16,18] Z (eZ Z (oN (tN ?_)))))))))
 refine W_cond Z (fun h3 => ?_) (fun h3 => ?_)
 ·
  try simp only [HS] at h3
  refine sQ (rG (eZ Z (oN (tN (rT (tR (eR ?_)))))))
  ·simp_all [eqRow, eqI, eqB]
 try simp only [HS] at h3
 refine W_skip (tN (sQ (rG (eZ Z (oN (tN (rT (eR ?_))))))))
 ·simp_all [eqRow, eqI, eqB]
theorem szRowS_g (l : List Row) : SzA (szLen l) (okN 1048576 l) := szLen_g l
abbrev T.Rows (l : List Row) : T := .list 3 (l.map Row.tt)
theorem szRowS_fun (l : List Row) (left : Int) (hl : okN 9223372036854775807 l) (h0 : 0 ≤ left) (hh : left ≤ 1048576) : Fun Tryz.prog 133 [.t (T.Rows l), .t (.int left)] (tupD [.t (.int (szLen l left))]) := by
 unfold okN at hl
 refine Fun.begin tys Tryz.func133 Z Z (N := 12) [(0, .t (T.Rows l)), (1, .t (.int left))] Z Z (fun w0 G F0 => ?_)
 refine sQ (rG (eZ Z (oN (tN (sQ (rG (eK 2 Z (evE ?_))))))))
 refine evI ?_
 refine eZ Z (oN (tN (sQ (sQ (rG (eK 2 Z (oN (tN ?_))))))))
 refine W_cond Z (fun h1 => ?_) (fun h1 => ?_)
 ·
  try simp only [HS] at h1
  refine sQ (kY [1,4] Z (rG (eZ Z (oN (tN (rT (tR (eR ?_))))))))
  ·(simp only [szLen, szN]; simp_all <;> omega)
 try simp only [HS] at h1
 refine W_skip (tN (sQ (kY [1,4] Z (rG (eK 2 Z (oN (tN (rT (eR ?_)))))))))
 ·(simp only [szLen, szN]; simp_all <;> omega)
theorem toRowS_fun (l : List Row) (hl : okN 1048576 l) : Fun Tryz.prog 138 [.t (T.Rows l)] (tupD [.own (T.Rows l)]) := by
 unfold okN at hl
 refine Fun.begin tys Tryz.func138 Z Z (N := 23) [(0, .t (T.Rows l))] Z Z (fun w0 G F0 => ?_)
 refine sQ (rG (eZ Z (oN (tN (sQ (rG (eZ Z (evE ?_))))))))
 refine WO_make tys (.agg [.v (.int .i64 0), .v (.int .i64 0), .v (.int .i64 0)]) _ Z Z (lt_of Z) Z Z Z Z Z (by repeat (first | exact AbsL.nil' | refine AbsL.v' ?_ | refine AbsL.none' ?_)) Z (by omega) (by decide) ?_
 refine nZ Z (eZ Z (oN (tN (sQ (sQ (rG (eZ Z (oN (tN (W_block ?_))))))))))
 refine lK (α := Int × List T) [0, 3] [] (fun x => [(4, .t (.int (x.1)))]) (fun x => [(7, .L 3 (x.2))]) (fun x => 0 ≤ (x.1) ∧ (x.1) ≤ l.length ∧ (x.2).length = l.length ∧ (x.2).take (x.1).toNat = (l.take (x.1).toNat).map Row.tt) (fun x => Int.toNat (l.length - (x.1))) (0, List.replicate l.length (.agg [.v (.int .i64 0), .v (.int .i64 0), .v (.int .i64 0)])) ?_ (fun x hx => ?_)
 ·exact ⟨by omega, by omega, by simp, by simp⟩
 obtain ⟨k, xs⟩ := x
 obtain ⟨hk0, hk1, hk2, hk3⟩ := hx
 try dsimp only at hk0 hk1 hk2 hk3 ⊢
 refine nY Z (sQ (sQ (rG (eK 2 Z (evE ?_)))))
 refine eZ Z (oN (tN ?_))
 refine W_cond Z (fun h1 => ?_) (fun h1 => ?_)
 ·
  try simp only [HS] at h1
  refine W_skip (tN (sQ (W_block (rG (eK 4 Z ?_)))))
  first | refine WO_idxT tys rfl rfl (lt_of rfl) rfl rfl rfl rfl rfl rfl rfl (by omega) _ (getT _ _ (by omega) (by omega)) ?_ | refine WO_idxS tys rfl rfl (lt_of rfl) rfl rfl rfl rfl rfl rfl rfl rfl (by omega) (by omega) ?_
  refine kZ [0,3,4,8,9,10,11,14,15,16,17,18] Z ?_
  first | (refine ev ?_; try refine WO_le (Le.freeze (u := 19) rfl) ?_) | refine WO_loadL tys rfl rfl (lt_of rfl) rfl rfl rfl rfl (getT _ _ (by omega) (by omega)) rfl ?_ | refine WO_loadL tys rfl rfl (lt_of rfl) rfl rfl rfl rfl (getT0 _ _ (by omega) (by omega)) rfl ?_
  refine nZ Z (callB ?_)
  refine ⟨_, toRow_fun _, rfl, ?_⟩
  first | refine WO_idxT tys rfl rfl (lt_of rfl) rfl rfl rfl rfl rfl rfl rfl (by omega) _ (getT _ _ (by omega) (by omega)) ?_ | refine WO_idxS tys rfl rfl (lt_of rfl) rfl rfl rfl rfl rfl rfl rfl rfl (by omega) (by omega) ?_
  first | refine WO_storeE tys (Row.tt _) rfl rfl rfl rfl rfl rfl (by first | exact Nat.zero_add _ | rfl) (by omega) rfl (by repeat (first | exact AbsL.nil' | refine AbsL.v' ?_ | refine AbsL.own' ?_)) rfl rfl rfl ?_ | refine WO_storeL tys _ rfl rfl rfl rfl rfl rfl (getT _ _ (by omega) (by omega)) rfl (by repeat (first | exact AbsL.nil' | refine AbsL.v' ?_ | refine AbsL.own' ?_)) rfl (by decide) (by decide) ?_
  refine nZ Z (oN (bN (tN (rG (eZ Z (evI ?_))))))
  refine eZ Z (oN ?_)
  refine lQ (_, _) ?_ ?_
  ·try dsimp only
   exact ⟨by omega, by omega, by simpa using hk2, fill_step hk0 (by omega) hk2 hk3⟩
  ·(show Int.toNat _ < Int.toNat _); omega
 try simp only [HS] at h1
 refine W_exit (tE (loopQ_e (inBlk_y (tN (sQ (rG (eK 2 Z (oN (tN (W_le (Le.gather (u := 2) (id := 7) Z Z (by omega)) (rT (eR ?_))))))))))))
 ·rw [List.take_of_length_le (by omega), fill_end (by omega) hk2 hk3]
theorem eqRowS_fun (a b : List Row) (ha : okN 9223372036854775807 a) (hb : okN 9223372036854775807 b) : Fun Tryz.prog 150 [.t (T.Rows a), .t (T.Rows b)] (tupD [.t (.bool (eqL eqRow a b))]) := by
 unfold okN at ha hb
 refine Fun.begin tys Tryz.func150 Z Z (N := 27) [(0, .t (T.Rows a)), (1, .t (T.Rows b))] Z Z (fun w0 G F0 => ?_)
 refine sQ (rG (eZ Z (oN (tN (sQ (sQ (rG (eZ Z (evE ?_)))))))))
 refine eZ Z (evE ?_)
 refine eZ Z (oN (tN ?_))
 refine W_cond Z (fun h1 => ?_) (fun h1 => ?_)
 ·
  try simp only [HS] at h1
  refine sQ (rG (eZ Z (oN (tN (rT (tR (eR ?_)))))))
  ·first | (rw [eqL_len h1]; done) | (rw [eqL_eq h1, hk2, eqGo_at hk0 h2 h1]; simp [h3]; done) | (rw [eqL_eq h1, hk2, drop_end h2]; rfl)
 try simp only [HS] at h1
 refine W_skip (tN (sQ (sQ (rG (eZ Z (oN (tN (W_block ?_))))))))
 refine lK (α := Int) [0, 1] [] (fun x => [(5, .t (.int x))]) (fun x => []) (fun x => 0 ≤ x ∧ x ≤ a.length ∧ eqGo eqRow a b = eqGo eqRow (a.drop x.toNat) (b.drop x.toNat)) (fun x => Int.toNat (a.length - x)) 0 ?_ (fun k hx => ?_)
 ·exact ⟨by omega, by omega, rfl⟩
 obtain ⟨hk0, hk1, hk2⟩ := hx
 refine nY Z (sQ (sQ (rG (eK 2 Z (evE ?_)))))
 refine eZ Z (oN (tN ?_))
 refine W_cond Z (fun h2 => ?_) (fun h2 => ?_)
 ·
  try simp only [HS] at h2
  refine W_skip (tN (sQ (W_block (sQ (W_regionD mixed (by kernel_rfl) (evQ ?_))))))
  refine evQ ?_
  refine QL_norm Z ?_
  first | refine QL_idxT tys rfl rfl (lt_of rfl) rfl rfl rfl rfl rfl rfl rfl (by omega) _ (getT _ _ (by omega) (by omega)) ?_ | refine QL_idxS tys rfl rfl (lt_of rfl) rfl rfl rfl rfl rfl rfl rfl rfl (by omega) (by omega) ?_
  first | refine QL_evZ tys rfl rfl (lt_of rfl) rfl rfl ?_ | refine evQ ?_ | refine QL_loadL tys rfl rfl (lt_of rfl) rfl rfl rfl rfl (getT _ _ (by omega) (by omega)) rfl ?_ | refine QL_loadL tys rfl rfl (lt_of rfl) rfl rfl rfl rfl (getT0 _ _ (by omega) (by omega)) rfl ?_
  refine evQ ?_
  refine evQ ?_
  first | refine QL_idxT tys rfl rfl (lt_of rfl) rfl rfl rfl rfl rfl rfl rfl (by omega) _ (getT _ _ (by omega) (by omega)) ?_ | refine QL_idxS tys rfl rfl (lt_of rfl) rfl rfl rfl rfl rfl rfl rfl rfl (by omega) (by omega) ?_
  first | refine QL_evZ tys rfl rfl (lt_of rfl) rfl rfl ?_ | refine evQ ?_ | refine QL_loadL tys rfl rfl (lt_of rfl) rfl rfl rfl rfl (getT _ _ (by omega) (by omega)) rfl ?_ | refine QL_loadL tys rfl rfl (lt_of rfl) rfl rfl rfl rfl (getT0 _ _ (by omega) (by omega)) rfl ?_
  refine QL_norm Z (callBQ ?_)
  refine ⟨_, eqRow_fun _ _, rfl, ?_⟩
  refine evQ ?_
  refine QL_nil (tN ?_)
  refine W_cond Z (fun h3 => ?_) (fun h3 => ?_)
  ·
   try simp only [HS] at h3
   refine sQ (rG (eZ Z (oN (tN (rT (bR (tR (loopQ_r (bR (tR (eR ?_)))))))))))
   ·first | (rw [eqL_len h1]; done) | (rw [eqL_eq h1, hk2, eqGo_at hk0 h2 h1]; simp [h3]; done) | (rw [eqL_eq h1, hk2, drop_end h2]; rfl)
  try simp only [HS] at h3
  refine W_skip (bN (tN (rG (eZ Z (evI ?_)))))
  refine eZ Z (oN ?_)
  refine lQ _ ?_ ?_
  ·try dsimp only
   refine ⟨by omega, by omega, ?_⟩; rw [hk2, eqGo_at hk0 h2 h1]; simp [h3]
  ·(show Int.toNat _ < Int.toNat _); omega
 try simp only [HS] at h2
 refine W_exit (tE (loopQ_e (inBlk_y (tN (sQ (rG (eZ Z (oN (tN (rT (eR ?_)))))))))))
 ·first | (rw [eqL_len h1]; done) | (rw [eqL_eq h1, hk2, eqGo_at hk0 h2 h1]; simp [h3]; done) | (rw [eqL_eq h1, hk2, drop_end h2]; rfl)
structure Code where
 params : Int
 vars : Int
 sites : List Int
 ins : List (Ins)
 rows : List (Row)
def Code.tt (x : Code) : T := .agg [T.int x.params, T.int x.vars, T.ints x.sites, T.Inss x.ins, T.Rows x.rows]
def Code.ok (B : Nat) (x : Code) : Prop := okN B x.sites ∧ okN B x.ins ∧ okN B x.rows ∧ True
def szCode (x : Code) : Int → Int := szSeq [szIntS x.sites, szLen x.ins, szLen x.rows]
theorem szCode_g : SzG szCode (Code.ok 1048576) := fun x left h0 hh => by
 have := szSeq_step (szIntS_g x.sites) (szSeq_step (szInsS_g x.ins) (szSeq_step (szRowS_g x.rows) (szSeq_nil)))
 exact this left h0 hh
def eqCode (a b : Code) : Bool := eqI a.params b.params && eqI a.vars b.vars && (eqL eqI) a.sites b.sites && (eqL eqIns) a.ins b.ins && (eqL eqRow) a.rows b.rows && true
theorem eqCode_refl (a : Code) : eqCode a a = true := by
 unfold eqCode; simp only [eqI_refl, eqL_refl eqI_refl, eqL_refl eqIns_refl, eqL_refl eqRow_refl, Bool.and_self]
theorem szCode_fun (x : Code) (left : Int) (hx : Code.ok 9223372036854775807 x) (h0 : 0 ≤ left) (hh : left ≤ 1048576) : Fun Tryz.prog 75 [.t (Code.tt x), .t (.int left)] (tupD [.t (.int (szCode x left))]) := by
 refine Fun.begin tys Tryz.func75 Z Z (N := 24) [(0, .t (Code.tt x)), (1, .t (.int left))] Z Z (fun w0 G F0 => ?_)
 refine sQ (rG (WO_box Z Z (lt_of Z) Z Z (nZ Z (eZ Z (oN (tN (sQ (rG (eK 3 Z (callB ?_))))))))))
 refine ⟨_, szIntSo_fun _ _ (hx.1) (by omega) (by  omega), rfl, ?_⟩
 refine eZ Z (oN (tN (sQ (sQ (kY [1,2,4] Z (rG (eK 2 Z (oN (tN ?_)))))))))
 refine W_cond Z (fun h1 => ?_) (fun h1 => ?_)
 ·
  try simp only [HS] at h1
  refine sQ (rG (eZ Z (oN (tN (rT (tR (eR ?_)))))))
  ·(simp only [szCode, szSeq]; repeat (first | rw [if_neg (by omega)] | rw [if_pos (by omega)]))
 try simp only [HS] at h1
 refine W_skip (tN (sQ (rG (eK 3 Z (callB ?_)))))
 refine ⟨_, szInsS_fun _ _ (hx.2.1) (by omega) (by have g0 := szIntS_g x.sites left (by omega) (by omega); omega), rfl, ?_⟩
 refine eZ Z (oN (tN (sQ (sQ (kY [1,2,4] Z (rG (eK 2 Z (oN (tN ?_)))))))))
 refine W_cond Z (fun h2 => ?_) (fun h2 => ?_)
 ·
  try simp only [HS] at h2
  refine sQ (rG (eZ Z (oN (tN (rT (tR (eR ?_)))))))
  ·(simp only [szCode, szSeq]; repeat (first | rw [if_neg (by omega)] | rw [if_pos (by omega)]))
 try simp only [HS] at h2
 refine W_skip (tN (sQ (rG (eK 3 Z (callB ?_)))))
 refine ⟨_, szRowS_fun _ _ (hx.2.2.1) (by omega) (by have g0 := szIntS_g x.sites left (by omega) (by omega); have g1 := szInsS_g x.ins (szIntS x.sites left) (by omega) (by omega); omega), rfl, ?_⟩
 refine eZ Z (oN (tN (sQ (sQ (kY [1,4] Z (rG (eK 2 Z (oN (tN ?_)))))))))
 refine W_cond Z (fun h3 => ?_) (fun h3 => ?_)
 ·
  try simp only [HS] at h3
  refine sQ (rG (eZ Z (oN (tN (rT (tR (eR ?_)))))))
  ·(simp only [szCode, szSeq]; repeat (first | rw [if_neg (by omega)] | rw [if_pos (by omega)]))
 try simp only [HS] at h3
 refine W_skip (tN (sQ (rG (eK 2 Z (oN (tN (rT (eR ?_))))))))
 ·(simp only [szCode, szSeq]; repeat (first | rw [if_neg (by omega)] | rw [if_pos (by omega)]))
theorem toCode_fun (x : Code) (hx : Code.ok 1048576 x) : Fun Tryz.prog 80 [.t (Code.tt x)] (tupD [.agg [.t (T.int x.params), .t (T.int x.vars), .own (T.ints x.sites), .own (T.Inss x.ins), .own (T.Rows x.rows)]]) := by
 refine Fun.begin tys Tryz.func80 Z Z (N := 23) [(0, .t (Code.tt x))] Z Z (fun w0 G F0 => ?_)
 refine sQ (rG (WO_box Z Z (lt_of Z) Z Z (nZ Z (WO_alloc tys Z Z (lt_of Z) Z Z Z (nZ Z (oN (tN (sQ (rG (WO_alloc tys Z Z (lt_of Z) Z Z Z (nZ Z (oN (tN (sQ (rG ?_)))))))))))))))
 refine eK 3 Z (sT Z (nZ Z (oN (tN (sQ (kY [1,2,3] Z (rG (eK 3 Z (sT Z (nZ Z (oN (tN (sQ (rG (eK 2 Z ?_)))))))))))))))
 refine callB ?_
 refine ⟨_, toIntSo_fun _ (by first | exact hx.1), rfl, ?_⟩
 refine eZ Z (sT Z (nZ Z (kZ [1,2,3] Z (oN (tN (sQ (rG (eK 2 Z (callB ?_)))))))))
 refine ⟨_, toInsS_fun _ (by first | exact hx.2.1), rfl, ?_⟩
 refine eZ Z (sT Z (nZ Z (oN (tN (sQ (rG (eK 2 Z (callB ?_))))))))
 refine ⟨_, toRowS_fun _ (by first | exact hx.2.2.1), rfl, ?_⟩
 refine eZ Z (kZ [2,3,20,21] Z (sT Z (nZ Z (oN (tN (sQ (rG ?_)))))))
 first | (refine ev ?_; try refine WO_le (Le.freeze (u := 22) rfl) ?_) | refine WO_loadMove tys rfl rfl (lt_of rfl) rfl rfl rfl rfl rfl rfl ?_
 refine nZ Z (sT Z (nZ Z (oN (tN (rT (eR ?_))))))
 ·rfl
theorem eqCode_fun (a b : Code) (ha : Code.ok 9223372036854775807 a) (hb : Code.ok 9223372036854775807 b) : Fun Tryz.prog 87 [.t (Code.tt a), .t (Code.tt b)] (tupD [.t (.bool (eqCode a b))]) := by
 refine Fun.begin tys Tryz.func87 Z Z (N := 33) [(0, .t (Code.tt a)), (1, .t (Code.tt b))] Z Z (fun w0 G F0 => ?_)
 refine sQ (rG (WO_box Z Z (lt_of Z) Z Z (nZ Z (WO_box Z Z (lt_of Z) Z Z (nZ Z (eZ Z (oN (tN (sQ (sQ (rG (eK 5 Z (oN (tN ?_))))))))))))))
 refine W_cond Z (fun h1 => ?_) (fun h1 => ?_)
 ·
  try simp only [HS] at h1
  refine sQ (kY [2,3,4] Z (rG (eZ Z (oN (tN (rT (tR (eR ?_))))))))
  ·simp_all [eqCode, eqI, eqB]
 try simp only [HS] at h1
 refine W_skip (tN (sQ (sQ (kY [2,3,4] Z (rG (eK 5 Z (oN (tN ?_))))))))
 refine W_cond Z (fun h2 => ?_) (fun h2 => ?_)
 ·
  try simp only [HS] at h2
  refine sQ (rG (eZ Z (oN (tN (rT (tR (eR ?_)))))))
  ·simp_all [eqCode, eqI, eqB]
 try simp only [HS] at h2
 refine W_skip (tN (sQ (sQ (rG (eK 4 Z (kZ [2,3,4,16,18] Z (callB ?_)))))))
 refine ⟨_, eqIntSo_fun _ _ (by first | exact ha.1) (by first | exact hb.1), rfl, ?_⟩
 refine eZ Z (oN (tN ?_))
 refine W_cond Z (fun h3 => ?_) (fun h3 => ?_)
 ·
  try simp only [HS] at h3
  refine sQ (rG (eZ Z (oN (tN (rT (tR (eR ?_)))))))
  ·simp_all [eqCode, eqI, eqB]
 try simp only [HS] at h3
 refine W_skip (tN (sQ (sQ (rG (eK 4 Z (callB ?_))))))
 refine ⟨_, eqInsS_fun _ _ (by first | exact ha.2.1) (by first | exact hb.2.1), rfl, ?_⟩
 refine eZ Z (oN (tN ?_))
 refine W_cond Z (fun h4 => ?_) (fun h4 => ?_)
 ·
  try simp only [HS] at h4
  refine sQ (kY [2,3,4] Z (rG (eZ Z (oN (tN (rT (tR (eR ?_))))))))
  ·simp_all [eqCode, eqI, eqB]
 try simp only [HS] at h4
 refine W_skip (tN (sQ (sQ (kY [2,3,4] Z (rG (eK 4 Z (callB ?_)))))))
 refine ⟨_, eqRowS_fun _ _ (by first | exact ha.2.2.1) (by first | exact hb.2.2.1), rfl, ?_⟩
 refine eZ Z (oN (tN ?_))
 refine W_cond Z (fun h5 => ?_) (fun h5 => ?_)
 ·
  try simp only [HS] at h5
  refine sQ (rG (eZ Z (oN (tN (rT (tR (eR ?_)))))))
  ·simp_all [eqCode, eqI, eqB]
 try simp only [HS] at h5
 refine W_skip (tN (sQ (rG (eZ Z (oN (tN (rT (eR ?_))))))))
 ·simp_all [eqCode, eqI, eqB]
abbrev T.Codes (l : List (Code)) : T := .list 5 (l.map Code.tt)
theorem szCodeS_g : SzG (szL szCode) (okL 1048576 (Code.ok 1048576)) := szL_g szCode_g
theorem szCodeS_fun (l : List (Code)) (left : Int) (hl : okL 9223372036854775807 (Code.ok 9223372036854775807) l) (h0 : 0 ≤ left) (hh : left ≤ 1048576) : Fun Tryz.prog 41 [.t (T.Codes l), .t (.int left)] (tupD [.t (.int (szL szCode l left))]) := by
 have hl1 := hl.1
 refine Fun.begin tys Tryz.func41 Z Z (N := 27) [(0, .t (T.Codes l)), (1, .t (.int left))] Z Z (fun w0 G F0 => ?_)
 refine sQ (rG (eZ Z (oN (tN (sQ (rG (eK 2 Z (evE ?_))))))))
 refine evI ?_
 refine eZ Z (oN (tN (sQ (sQ (rG (eK 2 Z (oN (tN ?_))))))))
 refine W_cond Z (fun h1 => ?_) (fun h1 => ?_)
 ·
  try simp only [HS] at h1
  refine sQ (kY [0,1,4] Z (rG (eZ Z (oN (tN (rT (tR (eR ?_))))))))
  ·first | (rw [szL, if_pos h1]; done) | (rw [szL, if_neg (by omega), hk4, drop_at hk0 (by omega), szGo, if_pos h3]; done) | (rw [szL, if_neg (by omega), hk4, drop_end (by omega), szGo]; done)
 try simp only [HS] at h1
 refine W_skip (tN (sQ (sQ (kY [0,1,4] Z (rG (eZ Z (oN (tN (W_block ?_)))))))))
 refine lK (α := Int × Int) [0] [] (fun x => [(5, .t (.int (x.1))), (1, .t (.int (x.2)))]) (fun x => []) (fun x => 0 ≤ (x.1) ∧ (x.1) ≤ l.length ∧ 0 ≤ (x.2) ∧ (x.2) ≤ 1048576 ∧ szGo szCode l (left - l.length) = szGo szCode (l.drop (x.1).toNat) (x.2)) (fun x => Int.toNat (l.length - (x.1))) (0, left - l.length) ?_ (fun x hx => ?_)
 ·exact ⟨by omega, by omega, by omega, by omega, by simp⟩
 obtain ⟨k, lf⟩ := x
 obtain ⟨hk0, hk1, hk2, hk3, hk4⟩ := hx
 try dsimp only at hk0 hk1 hk2 hk3 hk4 ⊢
 refine nY Z (sQ (sQ (rG (eK 2 Z (evE ?_)))))
 refine eZ Z (oN (tN ?_))
 refine W_cond Z (fun h2 => ?_) (fun h2 => ?_)
 ·
  try simp only [HS] at h2
  refine W_skip (tN (sQ (W_block (sQ (rG (eK 2 Z ?_))))))
  first | refine WO_idxT tys rfl rfl (lt_of rfl) rfl rfl rfl rfl rfl rfl rfl (by omega) _ (getT _ _ (by omega) (by omega)) ?_ | refine WO_idxS tys rfl rfl (lt_of rfl) rfl rfl rfl rfl rfl rfl rfl rfl (by omega) (by omega) ?_
  first | (refine ev ?_; try refine WO_le (Le.freeze (u := 21) rfl) ?_) | refine WO_loadL tys rfl rfl (lt_of rfl) rfl rfl rfl rfl (getT _ _ (by omega) (by omega)) rfl ?_ | refine WO_loadL tys rfl rfl (lt_of rfl) rfl rfl rfl rfl (getT0 _ _ (by omega) (by omega)) rfl ?_
  refine nZ Z (eZ Z (kZ [0,1,5,12,13,14,15,18,19,20,21,22] Z (callB ?_)))
  refine ⟨_, szCode_fun _ _ (hl.2 _ (List.getElem_mem _)) (by omega) (by omega), rfl, ?_⟩
  refine eZ Z (oN (tN (sQ (rG (eK 2 Z (oN (tN ?_)))))))
  refine W_cond Z (fun h3 => ?_) (fun h3 => ?_)
  ·
   try simp only [HS] at h3
   refine sQ (rG (eZ Z (oN (tN (rT (bR (tR (loopQ_r (bR (tR (eR ?_)))))))))))
   ·first | (rw [szL, if_pos h1]; done) | (rw [szL, if_neg (by omega), hk4, drop_at hk0 (by omega), szGo, if_pos h3]; done) | (rw [szL, if_neg (by omega), hk4, drop_end (by omega), szGo]; done)
  try simp only [HS] at h3
  refine W_skip (bN (tN (rG (eZ Z (evI ?_)))))
  refine eZ Z (oN ?_)
  refine lQ (_, _) ?_ ?_
  ·try dsimp only
   (have hb := szCode_g (l[k.toNat]'(by omega)) lf hk2 hk3; refine ⟨by omega, by omega, by omega, by omega, ?_⟩; rw [hk4, drop_at hk0 (by omega), szGo, if_neg (by omega)])
  ·(show Int.toNat _ < Int.toNat _); omega
 try simp only [HS] at h2
 refine W_exit (tE (loopQ_e (inBlk_y (tN (sQ (rG (eK 2 Z (oN (tN (rT (eR ?_)))))))))))
 ·first | (rw [szL, if_pos h1]; done) | (rw [szL, if_neg (by omega), hk4, drop_at hk0 (by omega), szGo, if_pos h3]; done) | (rw [szL, if_neg (by omega), hk4, drop_end (by omega), szGo]; done)
theorem toCodeS_fun (l : List (Code)) (hl : okL 1048576 (Code.ok 1048576) l) : Fun Tryz.prog 46 [.t (T.Codes l)] (tupD [.own (T.Codes l)]) := by
 have hl1 := hl.1
 refine Fun.begin tys Tryz.func46 Z Z (N := 23) [(0, .t (T.Codes l))] Z Z (fun w0 G F0 => ?_)
 refine sQ (rG (eZ Z (oN (tN (sQ (rG (eZ Z (evE ?_))))))))
 refine WO_make tys (.agg [.v (.int .i64 0), .v (.int .i64 0), .list 1 [], .list 2 [], .list 3 []]) _ Z Z (lt_of Z) Z Z Z Z Z (by repeat (first | exact AbsL.nil' | refine AbsL.v' ?_ | refine AbsL.none' ?_)) Z (by omega) (by decide) ?_
 refine nZ Z (eZ Z (oN (tN (sQ (sQ (rG (eZ Z (oN (tN (W_block ?_))))))))))
 refine lK (α := Int × List T) [0, 3] [] (fun x => [(4, .t (.int (x.1)))]) (fun x => [(7, .L 5 (x.2))]) (fun x => 0 ≤ (x.1) ∧ (x.1) ≤ l.length ∧ (x.2).length = l.length ∧ (x.2).take (x.1).toNat = (l.take (x.1).toNat).map Code.tt) (fun x => Int.toNat (l.length - (x.1))) (0, List.replicate l.length (.agg [.v (.int .i64 0), .v (.int .i64 0), .list 1 [], .list 2 [], .list 3 []])) ?_ (fun x hx => ?_)
 ·exact ⟨by omega, by omega, by simp, by simp⟩
 obtain ⟨k, xs⟩ := x
 obtain ⟨hk0, hk1, hk2, hk3⟩ := hx
 try dsimp only at hk0 hk1 hk2 hk3 ⊢
 refine nY Z (sQ (sQ (rG (eK 2 Z (evE ?_)))))
 refine eZ Z (oN (tN ?_))
 refine W_cond Z (fun h1 => ?_) (fun h1 => ?_)
 ·
  try simp only [HS] at h1
  refine W_skip (tN (sQ (W_block (rG (eK 4 Z ?_)))))
  first | refine WO_idxT tys rfl rfl (lt_of rfl) rfl rfl rfl rfl rfl rfl rfl (by omega) _ (getT _ _ (by omega) (by omega)) ?_ | refine WO_idxS tys rfl rfl (lt_of rfl) rfl rfl rfl rfl rfl rfl rfl rfl (by omega) (by omega) ?_
  refine kZ [0,3,4,8,9,10,11,14,15,16,17,18] Z ?_
  first | (refine ev ?_; try refine WO_le (Le.freeze (u := 19) rfl) ?_) | refine WO_loadL tys rfl rfl (lt_of rfl) rfl rfl rfl rfl (getT _ _ (by omega) (by omega)) rfl ?_ | refine WO_loadL tys rfl rfl (lt_of rfl) rfl rfl rfl rfl (getT0 _ _ (by omega) (by omega)) rfl ?_
  refine nZ Z (callB ?_)
  refine ⟨_, toCode_fun _ (hl.2 _ (List.getElem_mem _)), rfl, ?_⟩
  first | refine WO_idxT tys rfl rfl (lt_of rfl) rfl rfl rfl rfl rfl rfl rfl (by omega) _ (getT _ _ (by omega) (by omega)) ?_ | refine WO_idxS tys rfl rfl (lt_of rfl) rfl rfl rfl rfl rfl rfl rfl rfl (by omega) (by omega) ?_
  first | refine WO_storeE tys (Code.tt _) rfl rfl rfl rfl rfl rfl (by first | exact Nat.zero_add _ | rfl) (by omega) rfl (by repeat (first | exact AbsL.nil' | refine AbsL.v' ?_ | refine AbsL.own' ?_)) rfl rfl rfl ?_ | refine WO_storeL tys _ rfl rfl rfl rfl rfl rfl (getT _ _ (by omega) (by omega)) rfl (by repeat (first | exact AbsL.nil' | refine AbsL.v' ?_ | refine AbsL.own' ?_)) rfl (by decide) (by decide) ?_
  refine nZ Z (oN (bN (tN (rG (eZ Z (evI ?_))))))
  refine eZ Z (oN ?_)
  refine lQ (_, _) ?_ ?_
  ·try dsimp only
   exact ⟨by omega, by omega, by simpa using hk2, by exact fill_step hk0 (by omega) hk2 hk3⟩
  ·(show Int.toNat _ < Int.toNat _); omega
 try simp only [HS] at h1
 refine W_exit (tE (loopQ_e (inBlk_y (tN (sQ (rG (eK 2 Z (oN (tN (W_le (Le.gather (u := 2) (id := 7) Z Z (by omega)) (rT (eR ?_))))))))))))
 ·rw [List.take_of_length_le (by omega), fill_end (by omega) hk2 hk3]
theorem eqCodeS_fun (a b : List (Code)) (ha : okL 9223372036854775807 (Code.ok 9223372036854775807) a) (hb : okL 9223372036854775807 (Code.ok 9223372036854775807) b) : Fun Tryz.prog 49 [.t (T.Codes a), .t (T.Codes b)] (tupD [.t (.bool (eqL eqCode a b))]) := by
 have ha1 := ha.1
 have hb1 := hb.1
 refine Fun.begin tys Tryz.func49 Z Z (N := 27) [(0, .t (T.Codes a)), (1, .t (T.Codes b))] Z Z (fun w0 G F0 => ?_)
 refine sQ (rG (eZ Z (oN (tN (sQ (sQ (rG (eZ Z (evE ?_)))))))))
 refine eZ Z (evE ?_)
 refine eZ Z (oN (tN ?_))
 refine W_cond Z (fun h1 => ?_) (fun h1 => ?_)
 ·
  try simp only [HS] at h1
  refine sQ (rG (eZ Z (oN (tN (rT (tR (eR ?_)))))))
  ·first | (rw [eqL_len h1]; done) | (rw [eqL_eq h1, hk2, eqGo_at hk0 h2 h1]; simp [h3]; done) | (rw [eqL_eq h1, hk2, drop_end h2]; rfl)
 try simp only [HS] at h1
 refine W_skip (tN (sQ (sQ (rG (eZ Z (oN (tN (W_block ?_))))))))
 refine lK (α := Int) [0, 1] [] (fun x => [(5, .t (.int x))]) (fun x => []) (fun x => 0 ≤ x ∧ x ≤ a.length ∧ eqGo eqCode a b = eqGo eqCode (a.drop x.toNat) (b.drop x.toNat)) (fun x => Int.toNat (a.length - x)) 0 ?_ (fun k hx => ?_)
 ·exact ⟨by omega, by omega, rfl⟩
 obtain ⟨hk0, hk1, hk2⟩ := hx
 refine nY Z (sQ (sQ (rG (eK 2 Z (evE ?_)))))
 refine eZ Z (oN (tN ?_))
 refine W_cond Z (fun h2 => ?_) (fun h2 => ?_)
 ·
  try simp only [HS] at h2
  refine W_skip (tN (sQ (W_block (sQ (W_regionD mixed (by kernel_rfl) (evQ ?_))))))
  refine evQ ?_
  refine QL_norm Z ?_
  first | refine QL_idxT tys rfl rfl (lt_of rfl) rfl rfl rfl rfl rfl rfl rfl (by omega) _ (getT _ _ (by omega) (by omega)) ?_ | refine QL_idxS tys rfl rfl (lt_of rfl) rfl rfl rfl rfl rfl rfl rfl rfl (by omega) (by omega) ?_
  first | refine QL_evZ tys rfl rfl (lt_of rfl) rfl rfl ?_ | refine evQ ?_ | refine QL_loadL tys rfl rfl (lt_of rfl) rfl rfl rfl rfl (getT _ _ (by omega) (by omega)) rfl ?_ | refine QL_loadL tys rfl rfl (lt_of rfl) rfl rfl rfl rfl (getT0 _ _ (by omega) (by omega)) rfl ?_
  refine evQ ?_
  refine evQ ?_
  first | refine QL_idxT tys rfl rfl (lt_of rfl) rfl rfl rfl rfl rfl rfl rfl (by omega) _ (getT _ _ (by omega) (by omega)) ?_ | refine QL_idxS tys rfl rfl (lt_of rfl) rfl rfl rfl rfl rfl rfl rfl rfl (by omega) (by omega) ?_
  first | refine QL_evZ tys rfl rfl (lt_of rfl) rfl rfl ?_ | refine evQ ?_ | refine QL_loadL tys rfl rfl (lt_of rfl) rfl rfl rfl rfl (getT _ _ (by omega) (by omega)) rfl ?_ | refine QL_loadL tys rfl rfl (lt_of rfl) rfl rfl rfl rfl (getT0 _ _ (by omega) (by omega)) rfl ?_
  refine QL_norm Z (callBQ ?_)
  refine ⟨_, eqCode_fun _ _ (ha.2 _ (List.getElem_mem _)) (hb.2 _ (List.getElem_mem _)), rfl, ?_⟩
  refine evQ ?_
  refine QL_nil (tN ?_)
  refine W_cond Z (fun h3 => ?_) (fun h3 => ?_)
  ·
   try simp only [HS] at h3
   refine sQ (rG (eZ Z (oN (tN (rT (bR (tR (loopQ_r (bR (tR (eR ?_)))))))))))
   ·first | (rw [eqL_len h1]; done) | (rw [eqL_eq h1, hk2, eqGo_at hk0 h2 h1]; simp [h3]; done) | (rw [eqL_eq h1, hk2, drop_end h2]; rfl)
  try simp only [HS] at h3
  refine W_skip (bN (tN (rG (eZ Z (evI ?_)))))
  refine eZ Z (oN ?_)
  refine lQ _ ?_ ?_
  ·try dsimp only
   refine ⟨by omega, by omega, ?_⟩; rw [hk2, eqGo_at hk0 h2 h1]; simp [h3]
  ·(show Int.toNat _ < Int.toNat _); omega
 try simp only [HS] at h2
 refine W_exit (tE (loopQ_e (inBlk_y (tN (sQ (rG (eZ Z (oN (tN (rT (eR ?_)))))))))))
 ·first | (rw [eqL_len h1]; done) | (rw [eqL_eq h1, hk2, eqGo_at hk0 h2 h1]; simp [h3]; done) | (rw [eqL_eq h1, hk2, drop_end h2]; rfl)
structure Image where
 codes : List (Code)
def Image.tt (x : Image) : T := .agg [T.Codes x.codes]
def Image.ok (B : Nat) (x : Image) : Prop := okL B (Code.ok B) x.codes ∧ True
def szImage (x : Image) : Int → Int := szSeq [(szL szCode) x.codes]
theorem szImage_g : SzG szImage (Image.ok 1048576) := fun x left h0 hh => by
 have := szSeq_step (szCodeS_g x.codes) (szSeq_nil)
 exact this left h0 hh
def eqImage (a b : Image) : Bool := (eqL eqCode) a.codes b.codes && true
theorem eqImage_refl (a : Image) : eqImage a a = true := by
 unfold eqImage; simp only [eqL_refl eqCode_refl, Bool.and_self]
theorem szImage_fun (x : Image) (left : Int) (hx : Image.ok 9223372036854775807 x) (h0 : 0 ≤ left) (hh : left ≤ 1048576) : Fun Tryz.prog 14 [.t (Image.tt x), .t (.int left)] (tupD [.t (.int (szImage x left))]) := by
 refine Fun.begin tys Tryz.func14 Z Z (N := 12) [(0, .t (Image.tt x)), (1, .t (.int left))] Z Z (fun w0 G F0 => ?_)
 refine sQ (rG (WO_box Z Z (lt_of Z) Z Z (nZ Z (eZ Z (oN (tN (sQ (rG (eK 3 Z (callB ?_))))))))))
 refine ⟨_, szCodeS_fun _ _ (hx.1) (by omega) (by  omega), rfl, ?_⟩
 refine eZ Z (oN (tN (sQ (sQ (kY [1,4] Z (rG (eK 2 Z (oN (tN ?_)))))))))
 refine W_cond Z (fun h1 => ?_) (fun h1 => ?_)
 ·
  try simp only [HS] at h1
  refine sQ (rG (eZ Z (oN (tN (rT (tR (eR ?_)))))))
  ·(simp only [szImage, szSeq]; repeat (first | rw [if_neg (by omega)] | rw [if_pos (by omega)]))
 try simp only [HS] at h1
 refine W_skip (tN (sQ (rG (eK 2 Z (oN (tN (rT (eR ?_))))))))
 ·(simp only [szImage, szSeq]; repeat (first | rw [if_neg (by omega)] | rw [if_pos (by omega)]))
theorem toImage_fun (x : Image) (hx : Image.ok 1048576 x) : Fun Tryz.prog 17 [.t (Image.tt x)] (tupD [.agg [.own (T.Codes x.codes)]]) := by
 refine Fun.begin tys Tryz.func17 Z Z (N := 9) [(0, .t (Image.tt x))] Z Z (fun w0 G F0 => ?_)
 refine sQ (rG (WO_box Z Z (lt_of Z) Z Z (nZ Z (WO_alloc tys Z Z (lt_of Z) Z Z Z (nZ Z (oN (tN (sQ (rG (WO_alloc tys Z Z (lt_of Z) Z Z Z (nZ Z (oN (tN (sQ (rG ?_)))))))))))))))
 refine eK 2 Z (callB ?_)
 refine ⟨_, toCodeS_fun _ (by first | exact hx.1), rfl, ?_⟩
 refine eZ Z (sT Z (nZ Z (oN (tN (sQ (kY [2,3] Z (rG ?_)))))))
 first | (refine ev ?_; try refine WO_le (Le.freeze (u := 8) rfl) ?_) | refine WO_loadMove tys rfl rfl (lt_of rfl) rfl rfl rfl rfl rfl rfl ?_
 refine nZ Z (sT Z (nZ Z (oN (tN (rT (eR ?_))))))
 ·rfl
theorem eqImage_fun (a b : Image) (ha : Image.ok 9223372036854775807 a) (hb : Image.ok 9223372036854775807 b) : Fun Tryz.prog 20 [.t (Image.tt a), .t (Image.tt b)] (tupD [.t (.bool (eqImage a b))]) := by
 refine Fun.begin tys Tryz.func20 Z Z (N := 11) [(0, .t (Image.tt a)), (1, .t (Image.tt b))] Z Z (fun w0 G F0 => ?_)
 refine sQ (rG (WO_box Z Z (lt_of Z) Z Z (nZ Z (WO_box Z Z (lt_of Z) Z Z (nZ Z (eZ Z (oN (tN (sQ (sQ (rG (eK 4 Z (callB ?_)))))))))))))
 refine ⟨_, eqCodeS_fun _ _ (by first | exact ha.1) (by first | exact hb.1), rfl, ?_⟩
 refine eZ Z (kZ [4,10] Z (oN (tN ?_)))
 refine W_cond Z (fun h1 => ?_) (fun h1 => ?_)
 ·
  try simp only [HS] at h1
  refine sQ (rG (eZ Z (oN (tN (rT (tR (eR ?_)))))))
  ·simp_all [eqImage, eqI, eqB]
 try simp only [HS] at h1
 refine W_skip (tN (sQ (rG (eZ Z (oN (tN (rT (eR ?_))))))))
 ·simp_all [eqImage, eqI, eqB]
open Go.Eng
theorem rd_ins {x : T} (h : Rd Tryz.prog 219 x) : ∃ a : Ins, x = a.tt ∧ True := by
 obtain ⟨xs, rfl, h1⟩ := rd_struct (ts := [3, 3]) (by kernel_rfl) h
 match xs, h1 with
 | [x1, x2], ⟨h1, h2, _⟩ =>
  obtain ⟨k, rfl, _⟩ := rd_i h1
  obtain ⟨c, rfl, _⟩ := rd_i h2
  exact ⟨⟨k, c⟩, rfl, trivial⟩
theorem rd_inss {x : T} (h : Rd Tryz.prog 118 x) : ∃ l : List Ins, x = T.Inss l ∧ okN 9223372036854775807 l := by
 obtain ⟨l, rfl, h1, _⟩ := rd_list (e := 219) (n := 2) (by kernel_rfl) (by kernel_rfl) (fun y hy => rd_ins hy) h
 exact ⟨l, rfl, h1⟩
theorem rd_row {x : T} (h : Rd Tryz.prog 221 x) : ∃ a : Row, x = a.tt ∧ True := by
 obtain ⟨xs, rfl, h1⟩ := rd_struct (ts := [3, 3, 3]) (by kernel_rfl) h
 match xs, h1 with
 | [x1, x2, x3], ⟨h1, h2, h3, _⟩ =>
  obtain ⟨k, rfl, _⟩ := rd_i h1
  obtain ⟨c, rfl, _⟩ := rd_i h2
  obtain ⟨d, rfl, _⟩ := rd_i h3
  exact ⟨⟨k, c, d⟩, rfl, trivial⟩
theorem rd_rows {x : T} (h : Rd Tryz.prog 119 x) : ∃ l : List Row, x = T.Rows l ∧ okN 9223372036854775807 l := by
 obtain ⟨l, rfl, h1, _⟩ := rd_list (e := 221) (n := 3) (by kernel_rfl) (by kernel_rfl) (fun y hy => rd_row hy) h
 exact ⟨l, rfl, h1⟩
theorem rd_code {x : T} (h : Rd Tryz.prog 121 x) : ∃ a : Code, x = a.tt ∧ a.ok 9223372036854775807 := by
 obtain ⟨xs, rfl, h1⟩ := rd_struct (ts := [3, 3, 25, 118, 119]) (by kernel_rfl) h
 match xs, h1 with
 | [x1, x2, x3, x4, x5], ⟨h1, h2, h3, h4, h5, _⟩ =>
  obtain ⟨k, rfl, _⟩ := rd_i h1
  obtain ⟨c, rfl, _⟩ := rd_i h2
  obtain ⟨a, rfl, q1⟩ := rd_ints h3
  obtain ⟨b, rfl, q2⟩ := rd_inss h4
  obtain ⟨d, rfl, q3⟩ := rd_rows h5
  exact ⟨⟨k, c, a, b, d⟩, rfl, q1, q2, q3, trivial⟩
theorem rd_codes {x : T} (h : Rd Tryz.prog 37 x) : ∃ l : List Code, x = T.Codes l ∧ okL 9223372036854775807 (Code.ok 9223372036854775807) l :=
 rd_list (e := 121) (n := 5) (by kernel_rfl) (by kernel_rfl) (fun y hy => rd_code hy) h
theorem rd_image {x : T} (h : Rd Tryz.prog 39 x) : ∃ a : Image, x = a.tt ∧ a.ok 9223372036854775807 := by
 obtain ⟨xs, rfl, h1⟩ := rd_struct (ts := [37]) (by kernel_rfl) h
 match xs, h1 with
 | [x1], ⟨h1, _⟩ =>
  obtain ⟨b, rfl, q2⟩ := rd_codes h1
  exact ⟨⟨b⟩, rfl, q2, trivial⟩
open Go.Eng
structure Tok where
 op : Int
 n : Int
structure Stmt where
 kind : Int
 n : Int
 ex : List (Tok)
 thn : List Int
 els : List Int
structure Func where
 params : Int
 vars : Int
 body : List Int
 stmts : List (Stmt)
structure Prog where
 funcs : List (Func)
open Go.Eng
theorem retB {b b' : Bool} (h : b = b') : [D.t (T.v (Value.bool b))] = [D.t (T.bool b')] := by rw [h]
theorem retI {b b' : Int} (h : b = b') : [D.t (T.v (Value.int .i64 b))] = [D.t (T.int b')] := by rw [h]
def atI (l : List Int) (n : Int) : Int := (l[n.toNat]?).getD 0
theorem atI_at {l : List Int} {n : Int} (h0 : 0 ≤ n) (h1 : n < l.length) : atI l n = l[n.toNat]'(by omega) := by
 unfold atI; rw [List.getElem?_eq_getElem (by omega)]; rfl
def paramsB (ps : List Int) : Bool := decide ((ps.length : Int) ≤ 5) && allIn ps 0 2
def knownT (vars m : Int) (t : Tok) : Bool :=
 if t.op = 1 then decide (-2147483648 ≤ t.n ∧ t.n ≤ 2147483647) else if t.op = 2 then decide (0 ≤ t.n ∧ t.n < vars) else if t.op = 11 then decide (0 ≤ t.n ∧ t.n < m) else decide (3 ≤ t.op ∧ t.op ≤ 10) && decide (t.n = 0)
def needsT (ps : List Int) (t : Tok) : Int := if 3 ≤ t.op ∧ t.op ≤ 8 then 2 else if t.op = 11 then atI ps t.n else 0
theorem l2Bound_fun (n : Int) : Fun Tryz.prog 66 [.t (.int n)] (tupD [.t (.bool (decide (-2147483648 ≤ n ∧ n ≤ 2147483647)))]) := by
 refine Fun.begin tys Tryz.func66 Z Z (N := 5) [(0, .t (.int n))] Z Z (fun w0 G F0 => ?_)
 refine sQ (rG (eZ Z (oN (tN (sQ (rG (eZ Z (callB ?_))))))))
 refine ⟨_, l1In_fun _ _ _, rfl, ?_⟩
 refine eZ Z (oN (tN (rT (eR ?_))))
 ·rfl
def runE (vars : Int) (ps : List Int) : List Tok → Int → Int → Option (Int × Int)
 | [], h, m => some (h, m)
 | t :: l, h, m => if knownT vars ps.length t && decide (needsT ps t ≤ h) then runE vars ps l (h + (1 - needsT ps t)) (max m (h + (1 - needsT ps t))) else none
def goodE (vars : Int) (ps : List Int) (l : List Tok) : Bool := match runE vars ps l 0 0 with
 | some (h, m) => decide (h = 1) && decide ((l.length : Int) ≤ 12)
 | none => false
theorem i32_small (n : Int) : (n = IntKind.i64.wrap (IntKind.i32.wrap n)) ↔ (-2147483648 ≤ n ∧ n ≤ 2147483647) := by
 have h1 : -2147483648 ≤ IntKind.i32.wrap n ∧ IntKind.i32.wrap n ≤ 2147483647 := by
  unfold IntKind.wrap; simp [IntKind.bits, IntKind.signed]; split <;> omega
 rw [wrap_id (by omega) (by omega)]
 constructor
 ·intro h; omega
 ·intro h; unfold IntKind.wrap; simp [IntKind.bits, IntKind.signed]; split <;> omega
theorem isSmall_fun (n : Int) : Fun Tryz.prog 71 [.t (.int n)] (tupD [.t (.bool (decide (-2147483648 ≤ n ∧ n ≤ 2147483647)))]) := by
 refine Fun.begin tys Tryz.func71 Z Z (N := 8) [(0, .t (.int n))] Z Z (fun w0 G F0 => ?_)
 refine sQ (rG (eZ Z (oN (tN (sQ (rG (eK 2 Z (WO_conv (td := .int .i64) (k := .i32) Z Z (lt_of Z) Z (by kernel_rfl) (by kernel_rfl) Z (WO_conv (td := .int .i32) (k := .i64) Z Z (lt_of Z) Z (by kernel_rfl) (by kernel_rfl) Z (eK 2 Z (oN (tN (rT (eR ?_))))))))))))))
 ·exact retB (by rw [Bool.eq_iff_iff, decide_eq_true_iff, decide_eq_true_iff, i32_small])
theorem isReckoned_fun (n : Int) : Fun Tryz.prog 232 [.t (.int n)] (tupD [.t (.bool (decide (3 ≤ n ∧ n ≤ 8)))]) := by
 refine Fun.begin tys Tryz.func232 Z Z (N := 5) [(0, .t (.int n))] Z Z (fun w0 G F0 => ?_)
 refine sQ (rG (eZ Z (oN (tN (sQ (rG (eZ Z (callB ?_))))))))
 refine ⟨_, within_fun _ _ _, rfl, ?_⟩
 refine eZ Z (oN (tN (rT (eR ?_))))
 ·rfl
open Go.Eng
def hasNB (op : Int) : Bool := decide (op = 1 ∨ op = 2 ∨ op = 3 ∨ op = 4 ∨ op = 7 ∨ op = 10 ∨ op = 11 ∨ op = 12 ∨ op = 17)
def insB (i : Ins) : Bool :=
 if i.op = 1 then decide (-2147483648 ≤ i.n ∧ i.n ≤ 2147483647) else if i.op = 4 then decide (3 ≤ i.n ∧ i.n ≤ 8)
 else if hasNB i.op then decide (0 ≤ i.n ∧ i.n ≤ 1000000) else decide (1 ≤ i.op ∧ i.op ≤ 18) && decide (i.n = 0)
def sizedC (c : Code) : Bool := decide (0 ≤ c.params ∧ c.params ≤ 2) && decide (c.params ≤ c.vars ∧ c.vars ≤ 6) && decide (c.sites.length ≤ 4) && decide (1 ≤ c.ins.length ∧ c.ins.length ≤ 300) && decide (c.rows.length ≤ 300) && c.ins.all insB
def sizedX (x : Image) : Bool := decide (1 ≤ x.codes.length ∧ x.codes.length ≤ 5) && x.codes.all sizedC
def insAt (c : Code) (k : Int) : Ins := (c.ins[k.toNat]?).getD ⟨0, 0⟩
def codeAt (x : Image) (k : Int) : Code := (x.codes[k.toNat]?).getD ⟨0, 0, [], [], []⟩
def tkX (x : Image) (i : Ins) : Int :=
 if i.op = 3 ∨ i.op = 8 ∨ i.op = 9 ∨ i.op = 11 ∨ i.op = 13 ∨ i.op = 15 then 1 else if i.op = 4 then 2 else if i.op = 7 then (codeAt x i.n).params else 0
def ptX (i : Ins) : Int := if i.op = 1 ∨ i.op = 2 ∨ i.op = 5 ∨ i.op = 6 ∨ i.op = 4 ∨ i.op = 7 then 1 else 0
def nextX (i : Ins) (at' : Int) : List Int :=
 if i.op = 10 then [i.n] else if i.op = 11 then (if at' + 1 < i.n then [at' + 1, i.n] else if at' + 1 = i.n then [at' + 1] else [i.n, at' + 1])
 else if i.op = 13 ∨ i.op = 14 ∨ i.op = 16 ∨ i.op = 18 then [] else [at' + 1]
def namedI (x : Image) (c : Code) (i : Ins) : Bool :=
 if i.op = 2 ∨ i.op = 3 then decide (i.n < c.vars) else if i.op = 12 ∨ i.op = 17 then decide (i.n < c.sites.length) else if i.op = 7 then decide (i.n < x.codes.length) else true
def namedB (x : Image) (c : Code) : Bool := c.ins.all (namedI x c)
def siteI (x : Image) (n : Int) : Bool := decide (0 ≤ n ∧ n < x.codes.length) && decide ((codeAt x n).params = 0)
def sitesB (x : Image) (c : Code) : Bool := c.sites.all (siteI x)
def goesGo (N : Int) : List Ins → Int → Bool
 | [], _ => true
 | i :: l, k => (nextX i k).all (fun n => decide (n < N)) && goesGo N l (k + 1)
def goesB (c : Code) : Bool := goesGo c.ins.length c.ins 0
def rowsGo (many : Int) : List Row → Int → Bool
 | [], _ => true
 | r :: l, k => decide (k ≤ r.lo) && (decide (r.lo < r.hi) && (decide (r.hi ≤ many) && (decide (0 ≤ r.pad ∧ r.pad < many) && rowsGo many l r.hi)))
def rowsB (rows : List Row) (many : Int) : Bool := rowsGo many rows 0
def rowGo (k : Int) : List Row → Nat → Int
 | [], _ => -1
 | r :: l, j => if r.lo ≤ k ∧ k < r.hi then j else rowGo k l (j + 1)
def rowX (rows : List Row) (k : Int) : Int := rowGo k rows 0
def padX (rows : List Row) (k : Int) : Int := ((rows[(rowX rows k).toNat]?).getD ⟨0, 0, 0⟩).pad
def raisesB (op : Int) : Bool := decide (op = 4 ∨ op = 7 ∨ op = 13 ∨ op = 14 ∨ op = 16 ∨ op = 17)
def flatB (op : Int) : Bool := decide (op = 18 ∨ op = 16 ∨ op = 14 ∨ op = 17)
theorem insAt_at {c : Code} {k : Int} (h0 : 0 ≤ k) (h1 : k < c.ins.length) : insAt c k = c.ins[k.toNat]'(by omega) := by
 rw [insAt, List.getElem?_eq_getElem (by omega)]; rfl
theorem codeAt_at {x : Image} {k : Int} (h0 : 0 ≤ k) (h1 : k < x.codes.length) : codeAt x k = x.codes[k.toNat]'(by omega) := by
 rw [codeAt, List.getElem?_eq_getElem (by omega)]; rfl
theorem insB_n {i : Ins} (h : insB i = true) : -2147483648 ≤ i.n ∧ i.n ≤ 2147483647 ∧ (i.op ≠ 1 → 0 ≤ i.n ∧ i.n ≤ 1000000) := by
 unfold insB at h
 split at h
 ·rename_i h1
  have := of_decide_eq_true h
  exact ⟨this.1, this.2, fun h => absurd h1 h⟩
 ·split at h
  ·have := of_decide_eq_true h; exact ⟨by omega, by omega, fun _ => by omega⟩
  ·split at h
   ·have := of_decide_eq_true h; exact ⟨by omega, by omega, fun _ => by omega⟩
   ·rw [Bool.and_eq_true, decide_eq_true_eq, decide_eq_true_eq] at h
    exact ⟨by omega, by omega, fun _ => by omega⟩
theorem nextX_nn {i : Ins} (h : insB i = true) {k : Int} (hk : 0 ≤ k) : ∀ n, n ∈ nextX i k → 0 ≤ n := by
 have hn := (insB_n h).2.2
 intro n hm
 unfold nextX at hm
 split at hm
 ·rename_i h1; rw [List.mem_singleton] at hm; have := hn (by omega); omega
 ·split at hm
  ·rename_i h1
   have := hn (by omega)
   split at hm
   ·simp at hm; omega
   ·split at hm
    ·simp at hm; omega
    ·simp at hm; omega
  ·split at hm
   ·simp at hm
   ·simp at hm; omega
theorem nextX_len (i : Ins) (k : Int) : (nextX i k).length ≤ 2 := by
 unfold nextX
 split
 ·simp
 ·split
  ·split
   ·simp
   ·split <;> simp
  ·split <;> simp
/-! ### Heights -/
def outX (x : Image) (c : Code) (h : List Int) (k : Int) : Prop := tkX x (insAt c k) ≤ atI h k ∧ ∀ n, n ∈ nextX (insAt c k) k → atI h n = atI h k - tkX x (insAt c k) + ptX (insAt c k)
def baseX (c : Code) (h : List Int) : Prop := atI h 0 = 0 ∧ ∀ r, r ∈ c.rows → atI h r.pad = 0
def rngX (c : Code) (h : List Int) : Prop := h.length = c.ins.length ∧ ∀ v, v ∈ h → -1 ≤ v ∧ v ≤ 40
def fitX (x : Image) (c : Code) (h : List Int) : Prop := rngX c h ∧ baseX c h ∧ ∀ k : Int, 0 ≤ k → k < h.length → 0 ≤ atI h k → outX x c h k
def lessX (h h' : List Int) : Prop := ∀ k : Int, 0 ≤ k → k < h.length → 0 ≤ atI h k → atI h' k = atI h k
def leastX (x : Image) (c : Code) (h : List Int) : Prop := fitX x c h ∧ ∀ h', fitX x c h' → lessX h h'
open Classical in
noncomputable def heiX (x : Image) (c : Code) : Option (List Int) := if e : ∃ h, leastX x c h then some (Classical.choose e) else none
theorem atI_in {l : List Int} {k : Int} (h0 : 0 ≤ k) (h1 : k < l.length) : atI l k ∈ l := by
 rw [atI_at h0 h1]; exact List.getElem_mem _
theorem least_uniq {x : Image} {c : Code} {h h' : List Int} (a : leastX x c h) (b : leastX x c h') : h = h' := by
 have hl : h.length = h'.length := by rw [a.1.1.1, b.1.1.1]
 refine List.ext_getElem hl fun k h1 h2 => ?_
 have e1 : atI h (k : Nat) = h[k] := atI_at (l := h) (n := (k : Nat)) (by omega) (by omega)
 have e2 : atI h' (k : Nat) = h'[k] := atI_at (l := h') (n := (k : Nat)) (by omega) (by omega)
 have r1 := a.1.1.2 _ (atI_in (l := h) (k := (k : Nat)) (by omega) (by omega))
 have r2 := b.1.1.2 _ (atI_in (l := h') (k := (k : Nat)) (by omega) (by omega))
 rw [← e1, ← e2]
 by_cases g : 0 ≤ atI h (k : Nat)
 ·exact (a.2 _ b.1 k (by omega) (by omega) g).symm
 ·by_cases g' : 0 ≤ atI h' (k : Nat)
  ·exact b.2 _ a.1 k (by omega) (by omega) g'
  ·omega
theorem heiX_some {x : Image} {c : Code} {h : List Int} (a : leastX x c h) : heiX x c = some h := by
 have e : ∃ h, leastX x c h := ⟨h, a⟩
 unfold heiX
 rw [dif_pos e]
 exact congrArg some (least_uniq (Classical.choose_spec e) a)
theorem heiX_none {x : Image} {c : Code} (a : ∀ h, ¬ fitX x c h) : heiX x c = none := by
 unfold heiX
 rw [dif_neg]
 rintro ⟨h, g⟩
 exact a h g.1
theorem heiX_fit {x : Image} {c : Code} {h : List Int} (e : heiX x c = some h) : leastX x c h := by
 unfold heiX at e
 split at e
 ·rename_i g
  cases e
  exact Classical.choose_spec g
 ·cases e
def partX (x : Image) (c : Code) (h open' : List Int) : Prop :=
 rngX c h ∧ baseX c h ∧ (∀ h', fitX x c h' → lessX h h') ∧ (∀ k, k ∈ open' → 0 ≤ k ∧ k < h.length ∧ 0 ≤ atI h k) ∧ ∀ k : Int, 0 ≤ k → k < h.length → 0 ≤ atI h k → k ∈ open' ∨ outX x c h k
def midX (x : Image) (c : Code) (h open' : List Int) (k0 : Int) (done : List Int) : Prop :=
 rngX c h ∧ baseX c h ∧ (∀ h', fitX x c h' → lessX h h') ∧ (∀ k, k ∈ open' → 0 ≤ k ∧ k < h.length ∧ 0 ≤ atI h k) ∧ (∀ k : Int, 0 ≤ k → k < h.length → 0 ≤ atI h k → k ≠ k0 → k ∈ open' ∨ outX x c h k) ∧
 (0 ≤ k0 ∧ k0 < h.length ∧ 0 ≤ atI h k0 ∧ tkX x (insAt c k0) ≤ atI h k0) ∧ ∀ n, n ∈ done → atI h n = atI h k0 - tkX x (insAt c k0) + ptX (insAt c k0)
def negs (h : List Int) : Nat := h.countP fun v => decide (v < 0)
section
variable {x : Image} {c : Code} {h open' done : List Int} {k0 n : Int}
theorem part_end (a : partX x c h open') (e : open' = []) : heiX x c = some h := by
 subst e
 obtain ⟨a1, a2, a3, a4, a5⟩ := a
 exact heiX_some ⟨⟨a1, a2, fun k h0 h1 h2 => (a5 k h0 h1 h2).resolve_left (by simp)⟩, a3⟩
theorem part_fail (a : partX x c h open') (hk : k0 ∈ open') (ht : ¬ tkX x (insAt c k0) ≤ atI h k0) : heiX x c = none := by
 obtain ⟨a1, a2, a3, a4, a5⟩ := a
 obtain ⟨b1, b2, b3⟩ := a4 _ hk
 refine heiX_none fun h' hf => ht ?_
 have e := a3 h' hf k0 b1 b2 b3
 have hl : h'.length = h.length := by rw [a1.1, hf.1.1]
 have := hf.2.2 k0 b1 (by omega) (by omega)
 rw [← e]
 exact this.1
theorem part_mid {open'' : List Int} (a : partX x c h open') (hk : k0 ∈ open') (hs : ∀ k, k ∈ open'' → k ∈ open') (hs' : ∀ k, k ∈ open' → k = k0 ∨ k ∈ open'') (ht : tkX x (insAt c k0) ≤ atI h k0) : midX x c h open'' k0 [] := by
 obtain ⟨a1, a2, a3, a4, a5⟩ := a
 obtain ⟨b1, b2, b3⟩ := a4 _ hk
 exact ⟨a1, a2, a3, fun k hk => a4 k (hs k hk), fun k h0 h1 h2 hne => (a5 k h0 h1 h2).imp_left fun h => (hs' k h).resolve_left hne, ⟨b1, b2, b3, ht⟩, by simp⟩
theorem mid_part (a : midX x c h open' k0 done) (hd : ∀ n, n ∈ nextX (insAt c k0) k0 → n ∈ done) : partX x c h open' := by
 obtain ⟨a1, a2, a3, a4, a5, a6, a7⟩ := a
 refine ⟨a1, a2, a3, a4, fun k h0 h1 h2 => ?_⟩
 by_cases hk : k = k0
 ·subst hk
  exact .inr ⟨a6.2.2.2, fun n hn => a7 n (hd n hn)⟩
 ·exact a5 k h0 h1 h2 hk
theorem mid_fail (a : midX x c h open' k0 done) (hn : n ∈ nextX (insAt c k0) k0) (hn0 : 0 ≤ n) (hn1 : n < h.length) (hb : 40 < atI h k0 - tkX x (insAt c k0) + ptX (insAt c k0) ∨ (0 ≤ atI h n ∧ ¬ atI h n = atI h k0 - tkX x (insAt c k0) + ptX (insAt c k0))) : heiX x c = none := by
 obtain ⟨a1, a2, a3, a4, a5, a6, a7⟩ := a
 refine heiX_none fun h' hf => ?_
 have e := a3 h' hf k0 a6.1 a6.2.1 a6.2.2.1
 have hl : h'.length = h.length := by rw [a1.1, hf.1.1]
 have h1 := (hf.2.2 k0 a6.1 (by omega) (by omega)).2 n hn
 have h2 := hf.1.2 _ (atI_in (l := h') (k := n) hn0 (by omega))
 rcases hb with hb | ⟨hb, hc⟩
 ·omega
 ·have h3 := a3 h' hf n hn0 hn1 hb
  omega
theorem mid_same (a : midX x c h open' k0 done) (he : atI h n = atI h k0 - tkX x (insAt c k0) + ptX (insAt c k0)) : midX x c h open' k0 (done ++ [n]) := by
 obtain ⟨a1, a2, a3, a4, a5, a6, a7⟩ := a
 refine ⟨a1, a2, a3, a4, a5, a6, fun m hm => ?_⟩
 rcases List.mem_append.1 hm with hm | hm
 ·exact a7 m hm
 ·rw [List.mem_singleton] at hm; subst hm; exact he
theorem atI_set {l : List Int} {n v k : Int} (h0 : 0 ≤ n) (h1 : n < l.length) (hk : 0 ≤ k) : atI (l.set n.toNat v) k = if k = n then v else atI l k := by
 unfold atI
 by_cases e : k = n
 ·subst e
  rw [if_pos rfl, List.getElem?_set_self (by omega)]; rfl
 ·rw [if_neg e, List.getElem?_set_ne (by omega)]
theorem negs_set {l : List Int} {n v : Int} (h0 : 0 ≤ n) (h1 : n < l.length) (hn : atI l n < 0) (hv : 0 ≤ v) : negs (l.set n.toNat v) + 1 = negs l := by
 unfold negs
 have h2 : n.toNat < l.length := by omega
 rw [atI_at h0 h1] at hn
 have e : l = l.take n.toNat ++ l[n.toNat] :: l.drop (n.toNat + 1) := by
  rw [List.getElem_cons_drop, List.take_append_drop]
 rw [List.set_eq_take_append_cons_drop, if_pos h2]
 conv => rhs; rw [e]
 rw [List.countP_append, List.countP_append, List.countP_cons, List.countP_cons]
 rw [if_neg (by simp; omega), if_pos (by simp; omega)]
 omega
theorem mid_new (a : midX x c h open' k0 done) (hn : n ∈ nextX (insAt c k0) k0) (hn0 : 0 ≤ n) (hn1 : n < h.length) (hneg : atI h n < 0) (hp : 0 ≤ ptX (insAt c k0)) (h40 : atI h k0 - tkX x (insAt c k0) + ptX (insAt c k0) ≤ 40)
  {v : Int} (hv : v = atI h k0 - tkX x (insAt c k0) + ptX (insAt c k0)) (hr : ∀ r, r ∈ c.rows → 0 ≤ r.pad) : midX x c (h.set n.toNat v) (open' ++ [n]) k0 (done ++ [n]) := by
 obtain ⟨a1, a2, a3, a4, a5, a6, a7⟩ := a
 have hne : k0 ≠ n := fun e => by rw [← e] at hneg; omega
 have hs : ∀ k : Int, 0 ≤ k → atI (h.set n.toNat v) k = if k = n then v else atI h k := fun k hk => atI_set hn0 hn1 hk
 have hs0 : atI (h.set n.toNat v) k0 = atI h k0 := by rw [hs k0 a6.1, if_neg hne]
 have keep : ∀ k : Int, 0 ≤ k → 0 ≤ atI h k → atI (h.set n.toNat v) k = atI h k := fun k hk h0 => by
  rw [hs k hk, if_neg fun e => by rw [e] at h0; omega]
 have hv0 : 0 ≤ v := by omega
 have outk : ∀ k : Int, 0 ≤ k → k < h.length → 0 ≤ atI h k → outX x c h k → (∀ m, m ∈ nextX (insAt c k) k → 0 ≤ atI h k - tkX x (insAt c k) + ptX (insAt c k)) → (∀ m, m ∈ nextX (insAt c k) k → 0 ≤ m) → outX x c (h.set n.toNat v) k := fun k hk0 hk1 hk2 ho hp hm => by
  refine ⟨by rw [keep k hk0 hk2]; exact ho.1, fun m hm' => ?_⟩
  have := ho.2 m hm'
  rw [keep k hk0 hk2, keep m (hm m hm') (by rw [this]; exact hp m hm'), this]
 have ptk : ∀ i : Ins, 0 ≤ ptX i := fun i => by unfold ptX; split <;> omega
 refine ⟨⟨by rw [List.length_set]; exact a1.1, fun u hu => ?_⟩, ⟨by rw [keep 0 (by omega) (by rw [a2.1]; omega)]; exact a2.1, fun r hr' => by rw [keep _ (hr r hr') (by rw [a2.2 r hr']; omega)]; exact a2.2 r hr'⟩, fun h' hf k hk0 hk1 hk2 => ?_, fun k hk => ?_, fun k hk0 hk1 hk2 hkn => ?_, ?_, fun m hm => ?_⟩
 ·rcases List.mem_or_eq_of_mem_set hu with hu | rfl
  ·exact a1.2 u hu
  ·omega
 ·rw [List.length_set] at hk1
  rw [hs k hk0] at hk2 ⊢
  by_cases e : k = n
  ·subst e
   rw [if_pos rfl]
   have e0 := a3 h' hf k0 a6.1 a6.2.1 a6.2.2.1
   have hl : h'.length = h.length := by rw [a1.1, hf.1.1]
   rw [(hf.2.2 k0 a6.1 (by omega) (by omega)).2 k hn, e0, hv]
  ·rw [if_neg e] at hk2 ⊢
   exact a3 h' hf k hk0 hk1 hk2
 ·rw [List.length_set]
  rcases List.mem_append.1 hk with hk | hk
  ·obtain ⟨b1, b2, b3⟩ := a4 k hk
   exact ⟨b1, b2, by rw [keep k b1 b3]; exact b3⟩
  ·rw [List.mem_singleton] at hk
   subst hk
   exact ⟨hn0, hn1, by rw [hs k hn0, if_pos rfl]; exact hv0⟩
 ·rw [List.length_set] at hk1
  rw [hs k hk0] at hk2
  by_cases e : k = n
  ·subst e; exact .inl (by simp)
  ·rw [if_neg e] at hk2
   rcases a5 k hk0 hk1 hk2 hkn with h5 | h5
   ·exact .inl (by simp [h5])
   ·refine .inr ⟨by rw [keep k hk0 hk2]; exact h5.1, fun m hm' => ?_⟩
    have h6 := h5.2 m hm'
    have h7 := ptk (insAt c k)
    have h8 := h5.1
    have hge : 0 ≤ atI h m := by omega
    have hmn : atI (h.set n.toNat v) m = atI h m := by
     unfold atI at hge hneg ⊢
     by_cases en : m.toNat = n.toNat
     ·rw [en] at hge; omega
     ·rw [List.getElem?_set_ne (by omega)]
    rw [hmn, keep k hk0 hk2, h6]
 ·rw [List.length_set, hs0]
  exact ⟨a6.1, a6.2.1, a6.2.2.1, a6.2.2.2⟩
 ·rw [hs0]
  rcases List.mem_append.1 hm with hm | hm
  ·have h6 := a7 m hm
   have hge : 0 ≤ atI h m := by omega
   have hmn : atI (h.set n.toNat v) m = atI h m := by
    unfold atI at hge hneg ⊢
    by_cases en : m.toNat = n.toNat
    ·rw [en] at hge; omega
    ·rw [List.getElem?_set_ne (by omega)]
   rw [hmn, h6]
  ·rw [List.mem_singleton] at hm
   subst hm
   rw [hs m hn0, if_pos rfl, hv]
end
def bad6 (c : Code) (h : List Int) (k : Int) : Prop := 0 ≤ atI h k ∧ raisesB (insAt c k).op = true ∧ (rowX c.rows k < 0 ∨ padX c.rows k ≤ k)
def bad7 (c : Code) (h : List Int) (k : Int) : Prop := 0 < atI h k ∧ flatB (insAt c k).op = true
open Classical in
noncomputable def codeX (x : Image) (c : Code) : Int :=
 if namedB x c = false then 1 else if sitesB x c = false then 2 else if goesB c = false then 3 else if rowsB c.rows c.ins.length = false then 4
 else match heiX x c with
  | none => 5
  | some h => if ∃ k : Int, 0 ≤ k ∧ k < c.ins.length ∧ bad6 c h k then 6 else if ∃ k : Int, 0 ≤ k ∧ k < c.ins.length ∧ bad7 c h k then 7 else 0
noncomputable def heiR (x : Image) (c : Code) : List Int := if codeX x c = 0 then (heiX x c).getD [] else []
noncomputable def imageB (x : Image) : Bool := sizedX x && (decide ((codeAt x 0).params = 0) && x.codes.all fun c => decide (codeX x c = 0))
section
variable {x : Image} {c : Code} {h : List Int}
theorem code_1 (h1 : namedB x c = false) : codeX x c = 1 := by unfold codeX; rw [if_pos h1]
theorem code_2 (h1 : namedB x c = true) (h2 : sitesB x c = false) : codeX x c = 2 := by unfold codeX; rw [if_neg (by rw [h1]; simp), if_pos h2]
theorem code_3 (h1 : namedB x c = true) (h2 : sitesB x c = true) (h3 : goesB c = false) : codeX x c = 3 := by unfold codeX; rw [if_neg (by rw [h1]; simp), if_neg (by rw [h2]; simp), if_pos h3]
theorem code_4 (h1 : namedB x c = true) (h2 : sitesB x c = true) (h3 : goesB c = true) (h4 : rowsB c.rows c.ins.length = false) : codeX x c = 4 := by
 unfold codeX; rw [if_neg (by rw [h1]; simp), if_neg (by rw [h2]; simp), if_neg (by rw [h3]; simp), if_pos h4]
open Classical in
theorem code_9 (h1 : namedB x c = true) (h2 : sitesB x c = true) (h3 : goesB c = true) (h4 : rowsB c.rows c.ins.length = true) : codeX x c = match heiX x c with
  | none => 5
  | some h => if ∃ k : Int, 0 ≤ k ∧ k < c.ins.length ∧ bad6 c h k then 6 else if ∃ k : Int, 0 ≤ k ∧ k < c.ins.length ∧ bad7 c h k then 7 else 0 := by
 unfold codeX; rw [if_neg (by rw [h1]; simp), if_neg (by rw [h2]; simp), if_neg (by rw [h3]; simp), if_neg (by rw [h4]; simp)]
theorem code_5 (h1 : namedB x c = true) (h2 : sitesB x c = true) (h3 : goesB c = true) (h4 : rowsB c.rows c.ins.length = true) (he : (heiX x c).isSome = false) : codeX x c = 5 := by
 rw [code_9 h1 h2 h3 h4]
 cases e : heiX x c with
 | none => rfl
 | some h => rw [e] at he; cases he
theorem code_6 (h1 : namedB x c = true) (h2 : sitesB x c = true) (h3 : goesB c = true) (h4 : rowsB c.rows c.ins.length = true) (he : heiX x c = some h) {k : Int} (hk0 : 0 ≤ k) (hk1 : k < c.ins.length) (hb : bad6 c h k) : codeX x c = 6 := by
 rw [code_9 h1 h2 h3 h4, he]
 simp only
 rw [if_pos ⟨k, hk0, hk1, hb⟩]
theorem code_7 (h1 : namedB x c = true) (h2 : sitesB x c = true) (h3 : goesB c = true) (h4 : rowsB c.rows c.ins.length = true) (he : heiX x c = some h) (h6 : ∀ k : Int, 0 ≤ k → k < c.ins.length → ¬ bad6 c h k) {k : Int} (hk0 : 0 ≤ k) (hk1 : k < c.ins.length) (hb : bad7 c h k) : codeX x c = 7 := by
 rw [code_9 h1 h2 h3 h4, he]
 simp only
 rw [if_neg (fun ⟨j, a, b, d⟩ => h6 j a b d), if_pos ⟨k, hk0, hk1, hb⟩]
theorem code_0 (h1 : namedB x c = true) (h2 : sitesB x c = true) (h3 : goesB c = true) (h4 : rowsB c.rows c.ins.length = true) (he : heiX x c = some h) (h6 : ∀ k : Int, 0 ≤ k → k < c.ins.length → ¬ bad6 c h k) (h7 : ∀ k : Int, 0 ≤ k → k < c.ins.length → ¬ bad7 c h k) : codeX x c = 0 := by
 rw [code_9 h1 h2 h3 h4, he]
 simp only
 rw [if_neg (fun ⟨j, a, b, d⟩ => h6 j a b d), if_neg (fun ⟨j, a, b, d⟩ => h7 j a b d)]
end
theorem ptX_nn (i : Ins) : 0 ≤ ptX i := by unfold ptX; split <;> omega
theorem ptX_le (i : Ins) : ptX i ≤ 1 := by unfold ptX; split <;> omega
structure RdyX (x : Image) (c : Code) : Prop where
 xl : x.codes.length ≤ 5
 par : ∀ d, d ∈ x.codes → 0 ≤ d.params ∧ d.params ≤ 2
 n1 : 1 ≤ c.ins.length
 n2 : c.ins.length ≤ 300
 rl : c.rows.length ≤ 300
 ins : ∀ i, i ∈ c.ins → insB i = true
 call : ∀ i, i ∈ c.ins → i.op = 7 → 0 ≤ i.n ∧ i.n < x.codes.length
 next : ∀ k : Int, 0 ≤ k → k < c.ins.length → ∀ n, n ∈ nextX (insAt c k) k → 0 ≤ n ∧ n < c.ins.length
 pads : ∀ r, r ∈ c.rows → 0 ≤ r.pad ∧ r.pad < c.ins.length
 his : ∀ r, r ∈ c.rows → 0 ≤ r.hi ∧ r.hi ≤ c.ins.length
theorem codeX_nn (x : Image) (c : Code) : 0 ≤ codeX x c := by
 unfold codeX
 split
 ·omega
 ·split
  ·omega
  ·split
   ·omega
   ·split
    ·omega
    ·split
     ·omega
     ·split
      ·omega
      ·split <;> omega
theorem rowGo_lt (k : Int) : ∀ (l : List Row) (j : Nat), rowGo k l j < j + l.length ∧ -1 ≤ rowGo k l j
 | [], j => by simp only [rowGo, List.length_nil]; omega
 | r :: l, j => by
  have := rowGo_lt k l (j + 1)
  rw [rowGo, List.length_cons]
  split <;> omega
theorem rowX_lt (rows : List Row) (k : Int) : rowX rows k < rows.length ∧ -1 ≤ rowX rows k := by
 have := rowGo_lt k rows 0
 unfold rowX; omega
theorem padX_at {rows : List Row} {k : Int} (h : ¬ rowX rows k < 0) : padX rows k = (rows[(rowX rows k).toNat]'(by have := rowX_lt rows k; omega)).pad := by
 have := rowX_lt rows k
 rw [padX, List.getElem?_eq_getElem (by omega)]; rfl
theorem goes_at {N : Int} : ∀ {l : List Ins} {k : Int}, goesGo N l k = true → ∀ j (hj : j < l.length), ∀ n, n ∈ nextX (l[j]) (k + j) → n < N
 | [], _, _, j, hj, _, _ => by simp at hj
 | i :: l, k, h, 0, _, n, hn => by
  rw [goesGo, Bool.and_eq_true, List.all_eq_true] at h
  have := h.1 n (by simpa using hn)
  exact of_decide_eq_true this
 | i :: l, k, h, j + 1, hj, n, hn => by
  rw [goesGo, Bool.and_eq_true] at h
  refine goes_at h.2 j (by simpa using hj) n ?_
  rw [List.getElem_cons_succ] at hn
  rw [show k + 1 + (j : Int) = k + ((j + 1 : Nat) : Int) from by omega]
  exact hn
theorem rows_at {many : Int} : ∀ {l : List Row} {k : Int}, 0 ≤ k → rowsGo many l k = true → ∀ r, r ∈ l → 0 ≤ r.lo ∧ r.lo < r.hi ∧ r.hi ≤ many ∧ 0 ≤ r.pad ∧ r.pad < many
 | [], _, _, _, r, hr => by cases hr
 | r0 :: l, k, hk, h, r, hr => by
  rw [rowsGo] at h
  simp only [Bool.and_eq_true, decide_eq_true_eq] at h
  rcases List.mem_cons.1 hr with rfl | hr
  ·omega
  ·exact rows_at (by omega) h.2.2.2.2 r hr
theorem sizedC_of {c : Code} (h : sizedC c = true) : (0 ≤ c.params ∧ c.params ≤ 2) ∧ (c.params ≤ c.vars ∧ c.vars ≤ 6) ∧ c.sites.length ≤ 4 ∧ (1 ≤ c.ins.length ∧ c.ins.length ≤ 300) ∧ c.rows.length ≤ 300 ∧ ∀ i, i ∈ c.ins → insB i = true := by
 unfold sizedC at h
 simp only [Bool.and_eq_true, decide_eq_true_eq, List.all_eq_true] at h
 obtain ⟨⟨⟨⟨⟨a, b⟩, d⟩, e⟩, f⟩, g⟩ := h
 exact ⟨a, b, d, e, f, g⟩
theorem sizedX_of {x : Image} (h : sizedX x = true) : (1 ≤ x.codes.length ∧ x.codes.length ≤ 5) ∧ ∀ c, c ∈ x.codes → sizedC c = true := by
 unfold sizedX at h
 simp only [Bool.and_eq_true, decide_eq_true_eq, List.all_eq_true] at h
 exact h
theorem ready {x : Image} {c : Code} (hx : sizedX x = true) (hc : c ∈ x.codes) (h1 : namedB x c = true) (h3 : goesB c = true) (h4 : rowsB c.rows c.ins.length = true) : RdyX x c := by
 obtain ⟨a1, a2⟩ := sizedX_of hx
 obtain ⟨b1, b2, b3, b4, b5, b6⟩ := sizedC_of (a2 c hc)
 unfold namedB at h1
 rw [List.all_eq_true] at h1
 refine ⟨a1.2, fun d hd => (sizedC_of (a2 d hd)).1, b4.1, b4.2, b5, b6, fun i hi h7 => ?_, fun k h0 h1' n hn => ?_, fun r hr => ?_, fun r hr => ?_⟩
 ·have := h1 i hi
  unfold namedI at this
  rw [if_neg (by omega), if_neg (by omega), if_pos h7] at this
  have g := (insB_n (b6 i hi)).2.2 (by omega)
  exact ⟨g.1, of_decide_eq_true this⟩
 ·rw [insAt_at h0 h1'] at hn
  have g := goes_at h3 k.toNat (by omega) n (by rw [show (0 : Int) + (k.toNat : Nat) = k from by omega]; exact hn)
  exact ⟨nextX_nn (b6 _ (List.getElem_mem _)) h0 n hn, g⟩
 ·have := rows_at (by omega) h4 r hr; omega
 ·have := rows_at (by omega) h4 r hr; omega
def ordK (kids : Int → List Int × List Int) : Nat → List Int → List Int
 | 0, _ => []
 | k + 1, b => b.flatMap fun n => n :: (ordK kids k (kids n).1 ++ ordK kids k (kids n).2)
def ord (N : Int) (kids : Int → List Int × List Int) (b : List Int) : List Int := ordK kids N.toNat b
def both (kids : Int → List Int × List Int) (m : Int) : List Int := (kids m).1 ++ (kids m).2
def upto (N : Nat) : List Int := (List.range N).map fun (k : Nat) => (k : Int)
open Go.Eng
def sitesF : List Stmt → Int → List Int
 | [], _ => []
 | s :: l, k => if s.kind = 3 then k :: sitesF l (k + 1) else sitesF l (k + 1)
open Go.Eng
def kids (l : List Stmt) (m : Int) : List Int × List Int := match l[m.toNat]? with
 | some s => (s.thn, s.els)
 | none => ([], [])
def inBB (N i : Int) (b : List Int) : Bool := b.all fun x => decide (i ≤ x ∧ x < N)
def downBB (l : List Stmt) : Bool := (upto l.length).all fun m => inBB l.length (m + 1) (kids l m).1 && inBB l.length (m + 1) (kids l m).2
def shapeB (l : List Stmt) (body : List Int) : Bool := downBB l && (inBB l.length 0 body && (ord l.length (kids l) body == upto l.length))
def riseP (l : List Int) (lo hi : Int) : Prop := (∀ x, x ∈ l → lo ≤ x ∧ x ≤ hi) ∧ l.Pairwise (· < ·)
instance (l : List Int) (lo hi : Int) : Decidable (riseP l lo hi) := by unfold riseP; infer_instance
open Go.Eng
theorem readI (l : List Int) : ∀ x, x ∈ l.map T.int → (T.cells x).length = 1 ∧ ∀ y, y ∈ T.cells x → ∃ v, y = .v v := by
 intro x hx
 obtain ⟨a, _, rfl⟩ := List.mem_map.1 hx
 exact ⟨rfl, fun y hy => ⟨_, List.mem_singleton.1 hy⟩⟩
def ordF (f : Func) (b : List Int) : List Int := ord f.stmts.length (kids f.stmts) b
open Go.Eng
theorem all_no {α : Type} {p : α → Bool} {l : List α} {k : Int} (h0 : 0 ≤ k) (h1 : k < l.length) (h : p (l[k.toNat]'(by omega)) = false) : l.all p = false :=
 List.all_eq_false.2 ⟨_, List.getElem_mem _, by simpa using h⟩
theorem all_tk {α : Type} {p : α → Bool} {l : List α} {k : Int} (h0 : 0 ≤ k) (h1 : k < l.length) (h : (l.take k.toNat).all p = true) (h2 : p (l[k.toNat]'(by omega)) = true) : (l.take (k + 1).toNat).all p = true := by
 rw [take_at h0 h1, List.all_append, h]; simpa using h2
theorem all_fl {α : Type} {p : α → Bool} {l : List α} {k : Int} (h1 : (l.length : Int) ≤ k) (h : (l.take k.toNat).all p = true) : l.all p = true := by
 rwa [take_end h1] at h
open Go.Eng
def okNum (f : Func) : Bool := decide (0 ≤ f.params ∧ f.params ≤ 2) && (decide (f.params ≤ f.vars ∧ f.vars ≤ 6) && decide ((f.stmts.length : Int) ≤ 16))
def siteB (f : Func) : Bool := decide (((sitesF f.stmts 0).length : Int) ≤ 4)
def kindAt (f : Func) (n : Int) : Int := match f.stmts[n.toNat]? with
 | some s => s.kind
 | none => 0
def noDef (f : Func) (b : List Int) : Bool := (ordF f b).all fun n => decide (¬ kindAt f n = 3)
def whileOk (f : Func) (s : Stmt) : Bool := if s.kind = 8 then noDef f s.thn else true
def whileB (f : Func) : Bool := f.stmts.all (whileOk f)
def shapeF (f : Func) : Bool := okNum f && (siteB f && (shapeB f.stmts f.body && whileB f))
open Go.Eng
def lens (s : Stmt) : Int := (s.thn.length : Int) + s.els.length
def stmtW (vars : Int) (ps : List Int) (s : Stmt) : Bool :=
 if s.kind = 1 then goodE vars ps s.ex && (decide (0 ≤ s.n ∧ s.n ≤ vars - 1) && decide (lens s = 0))
 else if s.kind = 2 ∨ s.kind = 4 ∨ s.kind = 5 ∨ s.kind = 9 then goodE vars ps s.ex && (decide (s.n = 0) && decide (lens s = 0))
 else if s.kind = 3 then decide ((s.ex.length : Int) = 0) && (decide (0 ≤ s.n ∧ s.n ≤ (ps.length : Int) - 1) && decide (lens s = 0))
 else if s.kind = 6 then decide ((s.ex.length : Int) = 0) && (decide (s.n = 0) && decide (lens s = 0))
 else if s.kind = 7 then goodE vars ps s.ex && decide (s.n = 0)
 else if s.kind = 8 then goodE vars ps s.ex && (decide (s.n = 0) && decide ((s.els.length : Int) = 0))
 else false
def stmtG (vars : Int) (ps : List Int) (s : Stmt) : Bool := stmtW vars ps s && (if s.kind = 3 then decide (atI ps s.n = 0) else true)
def paramsL (p : Prog) : List Int := p.funcs.map (·.params)
def goodF (ps : List Int) (f : Func) : Bool := shapeF f && f.stmts.all (stmtG f.vars ps)
def goodP (p : Prog) : Bool := decide ((1 : Int) ≤ p.funcs.length ∧ (p.funcs.length : Int) ≤ 5) && (paramsB (paramsL p) && (decide (atI (paramsL p) 0 = 0) && p.funcs.all (goodF (paramsL p))))
open Go.Eng
def stmtAt (f : Func) (n : Int) : Stmt := (f.stmts[n.toNat]?).getD ⟨0, 0, [], [], []⟩
def funcAt (p : Prog) (n : Int) : Func := (p.funcs[n.toNat]?).getD ⟨0, 0, [], []⟩
def op0 (l : List Tok) : Int := (l[(0 : Int).toNat]?.map (·.op)).getD 0
def guard1 (f : Func) : Bool := decide ((f.stmts.length : Int) = 2) && (decide ((stmtAt f 0).kind = 3) && (decide ((stmtAt f 1).kind = 9) && (decide (((stmtAt f 1).ex.length : Int) = 1) && decide (op0 (stmtAt f 1).ex = 11))))
def guard2 (f : Func) : Bool := decide ((f.stmts.length : Int) = 1) && (decide ((stmtAt f 0).kind = 2) && (decide (((stmtAt f 0).ex.length : Int) = 1) && decide (op0 (stmtAt f 0).ex = 10)))
def guarded (p : Prog) : Bool := goodP p && (guard1 (funcAt p 0) && guard2 (funcAt p (stmtAt (funcAt p 0) 0).n))
open Go.Eng
def d3 (s : Stmt) : List Int := if s.kind = 3 then [s.n] else []
theorem readTD (l : List Int) (i j : Nat) : ∀ x, x ∈ ((l.map T.int).drop i).take j → (T.cells x).length = 1 ∧ ∀ y, y ∈ T.cells x → ∃ v, y = .v v :=
 fun x hx => readI l x (List.mem_of_mem_drop (List.mem_of_mem_take hx))
theorem take_app {α : Type} (x y : List α) : List.take (x.length + y.length) (x ++ y) = x ++ y := by
 rw [← List.length_append, List.take_length]
theorem retTI {xs : List T} {b : List Int} (h : xs = b.map T.int) : [D.t (.list 1 xs)] = [D.t (T.ints b)] := by subst h; rfl
end Go.Proofs.YtimpganophnehaaGreat
