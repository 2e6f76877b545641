/- Walks and laws of the claim. -/
import Derived.Test.YtbkamkmmljbedaaTy
import Derived.Test.YtbkamkmmljbedaaRows
import Derived.Test.YtbkamkmmljbedaaMb
import Derived.Test.YtbkamkmmljbedaaRows
set_option linter.unusedVariables false
set_option linter.unusedSimpArgs false
set_option maxRecDepth 10000
namespace Go.Proofs.Ytbkamkmmljbedaa
open Go.Eng
open Go.Eng
theorem l1In_fun (n lo hi : Int) : Fun Try.prog 76 [.t (.int n), .t (.int lo), .t (.int hi)] (tupD [.t (.bool (decide (lo ≤ n ∧ n ≤ hi)))]) := by
 refine Fun.begin tys Try.func76 Z Z (N := 15) [(0, .t (.int n)), (1, .t (.int lo)), (2, .t (.int hi))] Z Z (fun w0 G F0 => ?_)
 refine sQ (rG (eZ Z (oN (tN (sQ (rG (eK 4 Z ?_)))))))
 refine WO_guard Z Z Z Z (lt_of Z) (fun h1 => ?_) (fun h1 => ?_)
 rotate_left
 ·
  simp only [HS] at h1
  refine gM Z (gM Z (eK 2 Z (kZ [6] Z (oN (tN (rT (eR ?_)))))))
  ·(simp_all <;> omega)
 simp only [HS] at h1
 refine eZ Z (gY Z (eZ Z (gY Z (eK 2 Z (kZ [6,14] Z (eZ Z (oN (tN (rT (eR ?_))))))))))
 ·(simp_all <;> omega)
theorem within_fun (n lo hi : Int) : Fun Try.prog 68 [.t (.int n), .t (.int lo), .t (.int hi)] (tupD [.t (.bool (decide (lo ≤ n ∧ n ≤ hi)))]) := by
 refine Fun.begin tys Try.func68 Z Z (N := 15) [(0, .t (.int n)), (1, .t (.int lo)), (2, .t (.int hi))] Z Z (fun w0 G F0 => ?_)
 refine sQ (rG (eZ Z (oN (tN (sQ (rG (eK 4 Z ?_)))))))
 refine WO_guard Z Z Z Z (lt_of Z) (fun h1 => ?_) (fun h1 => ?_)
 rotate_left
 ·
  simp only [HS] at h1
  refine gM Z (gM Z (eK 2 Z (kZ [6] Z (oN (tN (rT (eR ?_)))))))
  ·(simp_all <;> omega)
 simp only [HS] at h1
 refine eZ Z (gY Z (eZ Z (gY Z (eK 2 Z (kZ [6,14] Z (eZ Z (oN (tN (rT (eR ?_))))))))))
 ·(simp_all <;> omega)
def allIn (l : List Int) (lo hi : Int) : Bool := l.all fun n => decide (lo ≤ n ∧ n ≤ hi)
theorem allIn_step {l : List Int} {lo hi k : Int} (h0 : 0 ≤ k) (h1 : k < l.length) (h : allIn (l.take k.toNat) lo hi = true) (h2 : lo ≤ l[k.toNat]'(by omega) ∧ l[k.toNat]'(by omega) ≤ hi) : allIn (l.take (k + 1).toNat) lo hi = true := by
 rw [show (k + 1).toNat = k.toNat + 1 from by omega, List.take_add_one, List.getElem?_eq_getElem (by omega)]
 unfold allIn at *
 rw [List.all_append, h]
 simpa using h2
theorem allIn_no {l : List Int} {lo hi k : Int} (h0 : 0 ≤ k) (h1 : k < l.length) (h2 : ¬ (lo ≤ l[k.toNat]'(by omega) ∧ l[k.toNat]'(by omega) ≤ hi)) : allIn l lo hi = false := by
 unfold allIn
 rw [List.all_eq_false]
 exact ⟨l[k.toNat]'(by omega), List.getElem_mem _, by simpa using h2⟩
theorem allIn_yes {l : List Int} {lo hi k : Int} (h : allIn (l.take k.toNat) lo hi = true) (h0 : 0 ≤ k) (h1 : (l.length : Int) ≤ k) : allIn l lo hi = true := by
 rwa [List.take_of_length_le (by omega)] at h
theorem l1All_fun (l : List Int) (lo hi : Int) (hl : l.length ≤ 1073741824) : Fun Try.prog 64 [.t (T.ints l), .t (.int lo), .t (.int hi)] (tupD [.t (.bool (allIn l lo hi))]) := by
 refine Fun.begin tys Try.func64 Z Z (N := 21) [(0, .t (T.ints l)), (1, .t (.int lo)), (2, .t (.int hi))] Z Z (fun w0 G F0 => ?_)
 refine sQ (rG (eZ Z (oN (tN (sQ (sQ (rG (eZ Z (evE ?_)))))))))
 refine eZ Z (oN (tN (W_block ?_)))
 refine lK (α := Int) [9, 10, 1, 2] [] (fun x => [(11, .t (.int x))]) (fun x => []) (fun x => 0 ≤ x ∧ x ≤ l.length ∧ allIn (l.take x.toNat) lo hi = true) (fun x => Int.toNat (l.length - x)) 0 ?_ (fun k hx => ?_)
 ·refine ⟨?_, ?_, ?_⟩ <;> simp [allIn]
 obtain ⟨hk0, hk1, hk2⟩ := hx
 refine nY Z (sQ (rG (eZ Z (oN (tN (sQ ?_))))))
 refine W_cond Z (fun h1 => ?_) (fun h1 => ?_)
 ·
  simp only [HS] at h1
  refine W_skip (tN (sQ (W_block (sQ (rG (WO_idxT tys Z Z (lt_of Z) Z Z Z Z Z Z Z (by omega) _ (getT _ _ (by omega) (by omega)) (eK 2 Z (oN (tN (sQ (rG (eK 3 Z (callB ?_)))))))))))))
  refine ⟨_, l1In_fun _ _ _, rfl, ?_⟩
  refine eZ Z (kZ [1,2,8,9,10,11,12,13,14,15,16,17,18,19] Z (oN (tN ?_)))
  refine W_cond Z (fun h2 => ?_) (fun h2 => ?_)
  ·
   simp only [HS] at h2
   refine sQ (rG (eZ Z (oN (tN (rT (bR (tR (loopQ_r (bR (tR (eR ?_)))))))))))
   ·rw [allIn_no hk0 (by omega) (by simpa using h2)]
  simp only [HS] at h2
  refine W_skip (bN (tN (rG (evI ?_))))
  refine eZ Z (oN ?_)
  refine lQ _ ?_ ?_
  ·skip
   exact ⟨by omega, by omega, allIn_step hk0 (by omega) hk2 (by simpa using h2)⟩
  ·(show Int.toNat _ < Int.toNat _); omega
 simp only [HS] at h1
 refine W_exit (tE (loopQ_e (inBlk_y (tN (sQ (rG (eZ Z (oN (tN (rT (eR ?_)))))))))))
 ·rw [allIn_yes hk2 hk0 (by omega)]
open Go.Eng
def szN (n : Nat) (left : Int) : Int := if left - n < 0 then -1 else left - n
def szGo {α : Type} (f : α → Int → Int) : List α → Int → Int
 | [], left => left
 | x :: xs, left => if f x left < 0 then -1 else szGo f xs (f x left)
def szL {α : Type} (f : α → Int → Int) (l : List α) (left : Int) : Int := if left - l.length < 0 then -1 else szGo f l (left - l.length)
theorem drop_at {α : Type} {l : List α} {k : Int} (h0 : 0 ≤ k) (h1 : k < l.length) : l.drop k.toNat = l[k.toNat]'(by omega) :: l.drop (k + 1).toNat := by
 rw [show (k + 1).toNat = k.toNat + 1 from by omega]
 exact List.drop_eq_getElem_cons (by omega)
theorem drop_end {α : Type} {l : List α} {k : Int} (h1 : (l.length : Int) ≤ k) : l.drop k.toNat = [] := List.drop_of_length_le (by omega)
theorem fill_step {α : Type} {xs : List T} {l : List α} {g : α → T} {k : Int} (h0 : 0 ≤ k) (h1 : k < l.length) (hl : xs.length = l.length) (h : xs.take k.toNat = (l.take k.toNat).map g) :
  (xs.set k.toNat (g (l[k.toNat]'(by omega)))).take (k + 1).toNat = (l.take (k + 1).toNat).map g := by
 rw [show (k + 1).toNat = k.toNat + 1 from by omega, List.take_add_one, List.take_add_one, List.getElem?_set_self (by omega), List.getElem?_eq_getElem (by omega)]
 simp only [Option.toList_some, List.map_append, List.map_cons, List.map_nil, ← h]
 rw [List.take_set_of_le (Nat.le_refl _)]
theorem fill_end {α : Type} {xs : List T} {l : List α} {g : α → T} {k : Int} (h1 : (l.length : Int) ≤ k) (hl : xs.length = l.length) (h : xs.take k.toNat = (l.take k.toNat).map g) : xs = l.map g := by
 rwa [List.take_of_length_le (by omega), List.take_of_length_le (by omega)] at h
theorem szIntS_fun (l : List Int) (left : Int) (hl : l.length ≤ 9223372036854775807) (h0 : 0 ≤ left) (hh : left ≤ 1048576) : Fun Try.prog 36 [.t (T.ints l), .t (.int left)] (tupD [.t (.int (szN l.length left))]) := by
 refine Fun.begin tys Try.func36 Z Z (N := 12) [(0, .t (T.ints l)), (1, .t (.int left))] Z Z (fun w0 G F0 => ?_)
 refine sQ (rG (eZ Z (oN (tN (sQ (rG (eK 2 Z (evE ?_))))))))
 refine evI ?_
 refine eZ Z (oN (tN (sQ (sQ (rG (eK 2 Z (oN (tN ?_))))))))
 refine W_cond Z (fun h1 => ?_) (fun h1 => ?_)
 ·
  simp only [HS] at h1
  refine sQ (kY [1,4] Z (rG (eZ Z (oN (tN (rT (tR (eR ?_))))))))
  ·(simp only [szN]; simp_all <;> omega)
 simp only [HS] at h1
 refine W_skip (tN (sQ (kY [1,4] Z (rG (eK 2 Z (oN (tN (rT (eR ?_)))))))))
 ·(simp only [szN]; simp_all <;> omega)
theorem szN_bound {n : Nat} {left : Int} (h0 : 0 ≤ left) (h1 : left ≤ 1048576) : szN n left ≤ 1048576 ∧ -1 ≤ szN n left := by
 unfold szN; split <;> omega
theorem szIntSS_fun (l : List (List Int)) (left : Int) (hl : l.length ≤ 9223372036854775807) (hll : ∀ x, x ∈ l → x.length ≤ 9223372036854775807) (h0 : 0 ≤ left) (hh : left ≤ 1048576) : Fun Try.prog 37 [.t (.list 1 (l.map T.ints)), .t (.int left)] (tupD [.t (.int (szL (fun x => szN x.length) l left))]) := by
 refine Fun.begin tys Try.func37 Z Z (N := 27) [(0, .t (.list 1 (l.map T.ints))), (1, .t (.int left))] Z Z (fun w0 G F0 => ?_)
 refine sQ (rG (eZ Z (oN (tN (sQ (rG (eK 2 Z (evE ?_))))))))
 refine evI ?_
 refine eZ Z (oN (tN (sQ (sQ (rG (eK 2 Z (oN (tN ?_))))))))
 refine W_cond Z (fun h1 => ?_) (fun h1 => ?_)
 ·
  simp only [HS] at h1
  refine sQ (kY [0,1,4] Z (rG (eZ Z (oN (tN (rT (tR (eR ?_))))))))
  ·rw [szL, if_pos h1]
   done
 simp only [HS] at h1
 refine W_skip (tN (sQ (sQ (kY [0,1,4] Z (rG (eZ Z (oN (tN (W_block ?_)))))))))
 refine lK (α := Int × Int) [0] [] (fun x => [(5, .t (.int (x.1))), (1, .t (.int (x.2)))]) (fun x => []) (fun x => 0 ≤ (x.1) ∧ (x.1) ≤ l.length ∧ 0 ≤ (x.2) ∧ (x.2) ≤ 1048576 ∧ szGo (fun x => szN x.length) l (left - l.length) = szGo (fun x => szN x.length) (l.drop (x.1).toNat) (x.2)) (fun x => Int.toNat (l.length - (x.1))) (0, left - l.length) ?_ (fun x hx => ?_)
 ·exact ⟨by omega, by omega, by omega, by omega, by simp⟩
 obtain ⟨k, lf⟩ := x
 obtain ⟨hk0, hk1, hk2, hk3, hk4⟩ := hx
 dsimp only at hk0 hk1 hk2 hk3 hk4 ⊢
 refine nY Z (sQ (sQ (rG (eK 2 Z (evE ?_)))))
 refine eZ Z (oN (tN ?_))
 refine W_cond Z (fun h2 => ?_) (fun h2 => ?_)
 ·
  simp only [HS] at h2
  refine W_skip (tN (sQ (W_block (sQ (rG (eK 2 Z (WO_idxT tys Z Z (lt_of Z) Z Z Z Z Z Z Z (by omega) _ (getT _ _ (by omega) (by omega)) (eK 2 Z (kZ [0,1,5,12,13,14,15,18,19,20,21,22] Z (callB ?_))))))))))
  refine ⟨_, szIntS_fun _ _ (hll _ (List.getElem_mem _)) (by omega) (by omega), rfl, ?_⟩
  refine eZ Z (oN (tN (sQ (rG (eK 2 Z (oN (tN ?_)))))))
  refine W_cond Z (fun h3 => ?_) (fun h3 => ?_)
  ·
   simp only [HS] at h3
   refine sQ (rG (eZ Z (oN (tN (rT (bR (tR (loopQ_r (bR (tR (eR ?_)))))))))))
   ·(rw [szL, if_neg (by omega), hk4, drop_at hk0 (by omega), szGo, if_pos h3]; done)
  simp only [HS] at h3
  refine W_skip (bN (tN (rG (eZ Z (evI ?_)))))
  refine eZ Z (oN ?_)
  refine lQ (_, _) ?_ ?_
  ·dsimp only
   (have hb := szN_bound (n := (l[k.toNat]'(by omega)).length) hk2 hk3; refine ⟨by omega, by omega, by omega, by omega, ?_⟩; rw [hk4, drop_at hk0 (by omega), szGo, if_neg (by omega)])
  ·(show Int.toNat _ < Int.toNat _); omega
 simp only [HS] at h2
 refine W_exit (tE (loopQ_e (inBlk_y (tN (sQ (rG (eK 2 Z (oN (tN (rT (eR ?_)))))))))))
 ·(rw [szL, if_neg (by omega), hk4, drop_end (by omega), szGo]; done)
theorem toIntS_fun (l : List Int) (hl : l.length ≤ 1048576) : Fun Try.prog 18 [.t (T.ints l)] (tupD [.own (T.ints l)]) := by
 refine Fun.begin tys Try.func18 Z Z (N := 22) [(0, .t (T.ints l))] Z Z (fun w0 G F0 => ?_)
 refine sQ (rG (eZ Z (oN (tN (sQ (rG (eZ Z (evE ?_))))))))
 refine WO_make tys (.v (.int .i64 0)) _ Z Z (lt_of Z) Z Z Z Z Z (by repeat (first | exact AbsL.nil' | refine AbsL.v' ?_ | refine AbsL.none' ?_)) Z (by omega) (by decide) ?_
 refine nZ Z (eZ Z (oN (tN (sQ (sQ (rG (eZ Z (oN (tN (W_block ?_))))))))))
 refine lK (α := Int × List T) [0, 3] [] (fun x => [(4, .t (.int (x.1)))]) (fun x => [(7, .L 1 (x.2))]) (fun x => 0 ≤ (x.1) ∧ (x.1) ≤ l.length ∧ (x.2).length = l.length ∧ (x.2).take (x.1).toNat = (l.take (x.1).toNat).map T.int) (fun x => Int.toNat (l.length - (x.1))) (0, List.replicate l.length (.v (.int .i64 0))) ?_ (fun x hx => ?_)
 ·exact ⟨by omega, by omega, by simp, by simp⟩
 obtain ⟨k, xs⟩ := x
 obtain ⟨hk0, hk1, hk2, hk3⟩ := hx
 dsimp only at hk0 hk1 hk2 hk3 ⊢
 refine nY Z (sQ (sQ (rG (eK 2 Z (evE ?_)))))
 refine eZ Z (oN (tN ?_))
 refine W_cond Z (fun h1 => ?_) (fun h1 => ?_)
 ·
  simp only [HS] at h1
  refine W_skip (tN (sQ (W_block (rG (eK 4 Z (WO_idxT tys Z Z (lt_of Z) Z Z Z Z Z Z Z (by omega) _ (getT _ _ (by omega) (by omega)) (kZ [0,3,4,8,9,10,11,14,15,16,17,18] Z (eZ Z (WO_idxS tys Z Z (lt_of Z) Z Z Z Z Z Z Z Z (by omega) (by omega) ?_)))))))))
  refine WO_storeE tys (.v (.int .i64 _)) Z Z Z Z Z Z (by first | exact Nat.zero_add _ | rfl) (by omega) Z (by repeat (first | exact AbsL.nil' | refine AbsL.v' ?_ | refine AbsL.own' ?_)) Z Z Z ?_
  refine nZ Z (oN (bN (tN (rG (eZ Z (evI ?_))))))
  refine eZ Z (oN ?_)
  refine lQ (_, _) ?_ ?_
  ·dsimp only
   exact ⟨by omega, by omega, by simpa using hk2, fill_step hk0 (by omega) hk2 hk3⟩
  ·(show Int.toNat _ < Int.toNat _); omega
 simp only [HS] at h1
 refine W_exit (tE (loopQ_e (inBlk_y (tN (sQ (rG (eK 2 Z (oN (tN (W_le (Le.gather (u := 2) (id := 7) Z Z (by omega)) (rT (eR ?_))))))))))))
 ·rw [List.take_of_length_le (by omega), fill_end (by omega) hk2 hk3]; rfl
abbrev intss (l : List (List Int)) : T := .list 1 (l.map T.ints)
theorem toIntSS_fun (l : List (List Int)) (hl : l.length ≤ 1048576) (hll : ∀ x, x ∈ l → x.length ≤ 1048576) : Fun Try.prog 41 [.t (intss l)] (tupD [.own (intss l)]) := by
 refine Fun.begin tys Try.func41 Z Z (N := 23) [(0, .t (intss l))] Z Z (fun w0 G F0 => ?_)
 refine sQ (rG (eZ Z (oN (tN (sQ (rG (eZ Z (evE ?_))))))))
 refine WO_make tys (.list 1 []) _ Z Z (lt_of Z) Z Z Z Z Z (by repeat (first | exact AbsL.nil' | refine AbsL.v' ?_ | refine AbsL.none' ?_)) Z (by omega) (by decide) ?_
 refine nZ Z (eZ Z (oN (tN (sQ (sQ (rG (eZ Z (oN (tN (W_block ?_))))))))))
 refine lK (α := Int × List T) [0, 3] [] (fun x => [(4, .t (.int (x.1)))]) (fun x => [(7, .L 1 (x.2))]) (fun x => 0 ≤ (x.1) ∧ (x.1) ≤ l.length ∧ (x.2).length = l.length ∧ (x.2).take (x.1).toNat = (l.take (x.1).toNat).map T.ints) (fun x => Int.toNat (l.length - (x.1))) (0, List.replicate l.length (.list 1 [])) ?_ (fun x hx => ?_)
 ·exact ⟨by omega, by omega, by simp, by simp⟩
 obtain ⟨k, xs⟩ := x
 obtain ⟨hk0, hk1, hk2, hk3⟩ := hx
 dsimp only at hk0 hk1 hk2 hk3 ⊢
 refine nY Z (sQ (sQ (rG (eK 2 Z (evE ?_)))))
 refine eZ Z (oN (tN ?_))
 refine W_cond Z (fun h1 => ?_) (fun h1 => ?_)
 ·
  simp only [HS] at h1
  refine W_skip (tN (sQ (W_block (rG (eK 4 Z (WO_idxT tys Z Z (lt_of Z) Z Z Z Z Z Z Z (by omega) _ (getT _ _ (by omega) (by omega)) (kZ [0,3,4,8,9,10,11,14,15,16,17,18] Z (eZ Z (callB ?_)))))))))
  refine ⟨_, toIntS_fun _ (hll _ (List.getElem_mem _)), rfl, ?_⟩
  refine WO_idxS tys Z Z (lt_of Z) Z Z Z Z Z Z Z Z (by omega) (by omega) ?_
  refine WO_storeE tys (T.ints _) Z Z Z Z Z Z (by first | exact Nat.zero_add _ | rfl) (by omega) Z (by repeat (first | exact AbsL.nil' | refine AbsL.v' ?_ | refine AbsL.own' ?_)) Z Z Z ?_
  refine nZ Z (oN (bN (tN (rG (eZ Z (evI ?_))))))
  refine eZ Z (oN ?_)
  refine lQ (_, _) ?_ ?_
  ·dsimp only
   exact ⟨by omega, by omega, by simpa using hk2, fill_step hk0 (by omega) hk2 hk3⟩
  ·(show Int.toNat _ < Int.toNat _); omega
 simp only [HS] at h1
 refine W_exit (tE (loopQ_e (inBlk_y (tN (sQ (rG (eK 2 Z (oN (tN (W_le (Le.gather (u := 2) (id := 7) Z Z (by omega)) (rT (eR ?_))))))))))))
 ·rw [List.take_of_length_le (by omega), fill_end (by omega) hk2 hk3]
def eqGo {α : Type} (f : α → α → Bool) : List α → List α → Bool
 | x :: xs, y :: ys => f x y && eqGo f xs ys
 | _, _ => true
def eqL {α : Type} (f : α → α → Bool) (a b : List α) : Bool := a.length == b.length && eqGo f a b
theorem eqGo_refl {α : Type} {f : α → α → Bool} (h : ∀ x, f x x = true) : ∀ l : List α, eqGo f l l = true
 | [] => rfl
 | x :: l => by rw [eqGo, h, eqGo_refl h l]; rfl
theorem eqL_refl {α : Type} {f : α → α → Bool} (h : ∀ x, f x x = true) (l : List α) : eqL f l l = true := by
 unfold eqL; rw [eqGo_refl h]; simp
def eqI (a b : Int) : Bool := decide (a = b)
theorem eqL_len {α : Type} {f : α → α → Bool} {a b : List α} (h : ¬ (a.length : Int) = b.length) : eqL f a b = false := by
 unfold eqL
 have : (a.length == b.length) = false := by simpa using fun e => h (by omega)
 rw [this]; rfl
theorem eqGo_at {α : Type} {f : α → α → Bool} {a b : List α} {k : Int} (h0 : 0 ≤ k) (h1 : k < a.length) (h : (a.length : Int) = b.length) :
  eqGo f (a.drop k.toNat) (b.drop k.toNat) = (f (a[k.toNat]'(by omega)) (b[k.toNat]'(by omega)) && eqGo f (a.drop (k + 1).toNat) (b.drop (k + 1).toNat)) := by
 rw [drop_at h0 (by omega), drop_at (l := b) h0 (by omega), eqGo]
theorem eqL_eq {α : Type} {f : α → α → Bool} {a b : List α} (h : (a.length : Int) = b.length) : eqL f a b = eqGo f a b := by
 unfold eqL
 have : (a.length == b.length) = true := by simp; omega
 rw [this]; rfl
theorem eqIntS_fun (a b : List Int) (ha : a.length ≤ 9223372036854775807) (hb : b.length ≤ 9223372036854775807) : Fun Try.prog 21 [.t (T.ints a), .t (T.ints b)] (tupD [.t (.bool (eqL eqI a b))]) := by
 refine Fun.begin tys Try.func21 Z Z (N := 26) [(0, .t (T.ints a)), (1, .t (T.ints b))] Z Z (fun w0 G F0 => ?_)
 refine sQ (rG (eZ Z (oN (tN (sQ (sQ (rG (eZ Z (evE ?_)))))))))
 refine eZ Z (evE ?_)
 refine eZ Z (oN (tN ?_))
 refine W_cond Z (fun h1 => ?_) (fun h1 => ?_)
 ·
  simp only [HS] at h1
  refine sQ (rG (eZ Z (oN (tN (rT (tR (eR ?_)))))))
  ·rw [eqL_len h1]
   done
 simp only [HS] at h1
 refine W_skip (tN (sQ (sQ (rG (eZ Z (oN (tN (W_block ?_))))))))
 refine lK (α := Int) [0, 1] [] (fun x => [(5, .t (.int x))]) (fun x => []) (fun x => 0 ≤ x ∧ x ≤ a.length ∧ eqGo eqI a b = eqGo eqI (a.drop x.toNat) (b.drop x.toNat)) (fun x => Int.toNat (a.length - x)) 0 ?_ (fun k hx => ?_)
 ·exact ⟨by omega, by omega, rfl⟩
 obtain ⟨hk0, hk1, hk2⟩ := hx
 refine nY Z (sQ (sQ (rG (eK 2 Z (evE ?_)))))
 refine eZ Z (oN (tN ?_))
 refine W_cond Z (fun h2 => ?_) (fun h2 => ?_)
 ·
  simp only [HS] at h2
  refine W_skip (tN (sQ (W_block (sQ (W_regionD mixed (by kernel_rfl) (evQ ?_))))))
  refine evQ ?_
  refine QL_norm Z (QL_idxT tys Z Z (lt_of Z) Z Z Z Z Z Z Z (by omega) _ (getT _ _ (by omega) (by omega)) (evQ ?_))
  refine evQ ?_
  refine evQ ?_
  refine QL_idxT tys Z Z (lt_of Z) Z Z Z Z Z Z Z (by omega) _ (getT _ _ (by omega) (by omega)) (evQ ?_)
  refine QL_norm Z (evQ ?_)
  refine QL_nil (tN ?_)
  refine W_cond Z (fun h3 => ?_) (fun h3 => ?_)
  ·
   simp only [HS] at h3
   refine sQ (rG (eZ Z (oN (tN (rT (bR (tR (loopQ_r (bR (tR (eR ?_)))))))))))
   ·rw [eqL_eq h1, hk2, eqGo_at hk0 h2 h1]
    simp [eqI, h3]
    done
  simp only [HS] at h3
  refine W_skip (bN (tN (rG (eZ Z (evI ?_)))))
  refine eZ Z (oN ?_)
  refine lQ _ ?_ ?_
  ·skip
   refine ⟨by omega, by omega, ?_⟩; rw [hk2, eqGo_at hk0 h2 h1]; simp [eqI, h3]
  ·(show Int.toNat _ < Int.toNat _); omega
 simp only [HS] at h2
 refine W_exit (tE (loopQ_e (inBlk_y (tN (sQ (rG (eZ Z (oN (tN (rT (eR ?_)))))))))))
 ·rw [eqL_eq h1, hk2, drop_end h2]
  rfl
theorem eqIntSS_fun (a b : List (List Int)) (ha : a.length ≤ 9223372036854775807) (hb : b.length ≤ 9223372036854775807) (hxa : ∀ x, x ∈ a → x.length ≤ 9223372036854775807) (hxb : ∀ x, x ∈ b → x.length ≤ 9223372036854775807) : Fun Try.prog 29 [.t (intss a), .t (intss b)] (tupD [.t (.bool (eqL (eqL eqI) a b))]) := by
 refine Fun.begin tys Try.func29 Z Z (N := 27) [(0, .t (intss a)), (1, .t (intss b))] Z Z (fun w0 G F0 => ?_)
 refine sQ (rG (eZ Z (oN (tN (sQ (sQ (rG (eZ Z (evE ?_)))))))))
 refine eZ Z (evE ?_)
 refine eZ Z (oN (tN ?_))
 refine W_cond Z (fun h1 => ?_) (fun h1 => ?_)
 ·
  simp only [HS] at h1
  refine sQ (rG (eZ Z (oN (tN (rT (tR (eR ?_)))))))
  ·rw [eqL_len h1]
   done
 simp only [HS] at h1
 refine W_skip (tN (sQ (sQ (rG (eZ Z (oN (tN (W_block ?_))))))))
 refine lK (α := Int) [0, 1] [] (fun x => [(5, .t (.int x))]) (fun x => []) (fun x => 0 ≤ x ∧ x ≤ a.length ∧ eqGo (eqL eqI) a b = eqGo (eqL eqI) (a.drop x.toNat) (b.drop x.toNat)) (fun x => Int.toNat (a.length - x)) 0 ?_ (fun k hx => ?_)
 ·exact ⟨by omega, by omega, rfl⟩
 obtain ⟨hk0, hk1, hk2⟩ := hx
 refine nY Z (sQ (sQ (rG (eK 2 Z (evE ?_)))))
 refine eZ Z (oN (tN ?_))
 refine W_cond Z (fun h2 => ?_) (fun h2 => ?_)
 ·
  simp only [HS] at h2
  refine W_skip (tN (sQ (W_block (sQ (W_regionD mixed (by kernel_rfl) (evQ ?_))))))
  refine evQ ?_
  refine QL_norm Z (QL_idxT tys Z Z (lt_of Z) Z Z Z Z Z Z Z (by omega) _ (getT _ _ (by omega) (by omega)) (evQ ?_))
  refine evQ ?_
  refine evQ ?_
  refine QL_idxT tys Z Z (lt_of Z) Z Z Z Z Z Z Z (by omega) _ (getT _ _ (by omega) (by omega)) (evQ ?_)
  refine QL_norm Z (callBQ ?_)
  refine ⟨_, eqIntS_fun _ _ (hxa _ (List.getElem_mem _)) (hxb _ (List.getElem_mem _)), rfl, ?_⟩
  refine evQ ?_
  refine QL_nil (tN ?_)
  refine W_cond Z (fun h3 => ?_) (fun h3 => ?_)
  ·
   simp only [HS] at h3
   refine sQ (rG (eZ Z (oN (tN (rT (bR (tR (loopQ_r (bR (tR (eR ?_)))))))))))
   ·rw [eqL_eq h1, hk2, eqGo_at hk0 h2 h1]
    simp [h3]
    done
  simp only [HS] at h3
  refine W_skip (bN (tN (rG (eZ Z (evI ?_)))))
  refine eZ Z (oN ?_)
  refine lQ _ ?_ ?_
  ·skip
   refine ⟨by omega, by omega, ?_⟩; rw [hk2, eqGo_at hk0 h2 h1]; simp [h3]
  ·(show Int.toNat _ < Int.toNat _); omega
 simp only [HS] at h2
 refine W_exit (tE (loopQ_e (inBlk_y (tN (sQ (rG (eZ Z (oN (tN (rT (eR ?_)))))))))))
 ·rw [eqL_eq h1, hk2, drop_end h2]
  rfl
def idxGo {α : Type} (p : α → Bool) : List α → Int → Int
 | [], _ => -1
 | x :: xs, k => if p x then k else idxGo p xs (k + 1)
theorem idxGo_any {α : Type} {p : α → Bool} : ∀ {l : List α} {k : Int}, 0 ≤ k → decide (0 ≤ idxGo p l k) = l.any p
 | [], _, _ => rfl
 | x :: l, k, h => by
  rw [idxGo, List.any_cons]
  cases hp : p x
  ·simpa using idxGo_any (l := l) (k := k + 1) (by omega)
  ·simpa using h
theorem idx_at {α : Type} {p : α → Bool} {l : List α} {k : Int} (h0 : 0 ≤ k) (h1 : k < l.length) : idxGo p (l.drop k.toNat) k = if p (l[k.toNat]'(by omega)) then k else idxGo p (l.drop (k + 1).toNat) (k + 1) := by
 rw [drop_at h0 h1, idxGo]
theorem idxS_fun (l : List Int) (p : Int → Bool) (f : Nat) (caps : List D) (hcaps : caps.all D.imm = true) (hl : l.length ≤ 9223372036854775807) (hf : ∀ x, x ∈ l → Fun Try.prog f (.t (T.int x) :: caps) (.t (.bool (p x)))) : Fun Try.prog 105 [.t (T.ints l), .clo f caps] (tupD [.t (.int (idxGo p l 0))]) := by
 refine Fun.begin tys Try.func105 Z Z (N := 19) [(0, .t (T.ints l)), (1, .clo f caps)] Z Z (fun w0 G F0 => ?_)
 refine sQ (rG (eZ Z (oN (tN (sQ (sQ (rG (eZ Z (evE ?_)))))))))
 refine eZ Z (oN (tN (W_block ?_)))
 refine lK (α := Int) [0, 1, 7] [] (fun x => [(8, .t (.int x))]) (fun x => []) (fun x => 0 ≤ x ∧ x ≤ l.length ∧ idxGo p l 0 = idxGo p (l.drop x.toNat) x) (fun x => Int.toNat (l.length - x)) 0 ?_ (fun k hx => ?_)
 ·exact ⟨by omega, by omega, rfl⟩
 obtain ⟨hk0, hk1, hk2⟩ := hx
 refine nY Z (sQ (rG (eZ Z (oN (tN (sQ ?_))))))
 refine W_cond Z (fun h1 => ?_) (fun h1 => ?_)
 ·
  simp only [HS] at h1
  refine W_skip (tN (sQ (W_block (sQ (rG (eK 2 Z (oN (tN (sQ (rG (WO_moveClo tys Z Z (lt_of Z) Z Z (by assumption) ?_)))))))))))
  refine eK 2 Z (WO_idxT tys Z Z (lt_of Z) Z Z Z Z Z Z Z (by omega) _ (getT _ _ (by omega) (by omega)) (eZ Z ?_))
  refine WO_call Z Z (lt_of Z) Z Z (by repeat (first | exact ResL.done | exact ResL.imms (by first | rfl | assumption) | refine ResL.t ?_ | refine ResL.own ?_ | refine ResL.slA Z (by first | rfl | (simp; done) | (simp; omega)) ?_ | refine ResL.sl Z (by first | omega | (simp; done) | (simp; omega)) ?_ | refine ResL.rp ?_ | refine ResL.clo ?_ ?_ | refine ResL.aggT ?_ ?_ | refine ResL.ref Z ?_ ?_ | refine ResL.nil' ?_ | refine ResL.nil 1 ?_)) (hf _ (List.getElem_mem _)) Z ?_
  refine kZ [0,1,5,7,8,9,10,11,12,13,14,15,16] Z (oN (tN ?_))
  refine W_cond Z (fun h2 => ?_) (fun h2 => ?_)
  ·
   refine sQ (rG (eK 2 Z (oN (tN (rT (bR (tR (loopQ_r (bR (tR (eR ?_)))))))))))
   ·rw [hk2, idx_at hk0 h1]
    simp [h2]
    done
  refine W_skip (bN (tN (rG (evI ?_))))
  refine eZ Z (oN ?_)
  refine lQ _ ?_ ?_
  ·skip
   refine ⟨by omega, by omega, ?_⟩; rw [hk2, idx_at hk0 h1]; simp [h2]
  ·(show Int.toNat _ < Int.toNat _); omega
 simp only [HS] at h1
 refine W_exit (tE (loopQ_e (inBlk_y (tN (sQ (rG (eZ Z (oN (tN (rT (eR ?_)))))))))))
 ·rw [hk2, drop_end h1]
  rfl
theorem hasS_fun (l : List Int) (p : Int → Bool) (f : Nat) (caps : List D) (hcaps : caps.all D.imm = true) (hl : l.length ≤ 9223372036854775807) (hf : ∀ x, x ∈ l → Fun Try.prog f (.t (T.int x) :: caps) (.t (.bool (p x)))) : Fun Try.prog 66 [.t (T.ints l), .clo f caps] (tupD [.t (.bool (l.any p))]) := by
 refine Fun.begin tys Try.func66 Z Z (N := 9) [(0, .t (T.ints l)), (1, .clo f caps)] Z Z (fun w0 G F0 => ?_)
 refine sQ (rG (eZ Z (oN (tN (sQ (rG (eZ Z (WO_moveClo tys Z Z (lt_of Z) Z Z (by assumption) ?_))))))))
 refine WO_call Z Z (lt_of Z) Z Z (by repeat (first | exact ResL.done | exact ResL.imms (by first | rfl | assumption) | refine ResL.t ?_ | refine ResL.own ?_ | refine ResL.slA Z (by first | rfl | (simp; done) | (simp; omega)) ?_ | refine ResL.sl Z (by first | omega | (simp; done) | (simp; omega)) ?_ | refine ResL.rp ?_ | refine ResL.clo ?_ ?_ | refine ResL.aggT ?_ ?_ | refine ResL.ref Z ?_ ?_ | refine ResL.nil' ?_ | refine ResL.nil 1 ?_)) (idxS_fun l p f caps hcaps hl hf) Z ?_
 refine eK 2 Z (oN (tN (rT (eR ?_))))
 ·rw [← idxGo_any (Int.le_refl 0)]
open Go.ChangeShapes Go.WideShapes Go.ChangeAt Go.RowKit Go.Eng
theorem Try.own : ownKnob Try.prog.godebug = none := by kernel_rfl
theorem Try.laidOut : laidOutB Try.prog = true := by kernel_rfl
theorem rd_i {x : T} (h : Rd Try.prog 3 x) : ∃ n : Int, x = T.int n ∧ True := by
 obtain ⟨n, rfl, _⟩ := rd_int (k := .i64) (by kernel_rfl) h
 exact ⟨n, rfl, trivial⟩
theorem rd_b {x : T} (h : Rd Try.prog 4 x) : ∃ b : Bool, x = T.bool b ∧ True := by
 obtain ⟨n, rfl⟩ := rd_bool (by kernel_rfl) h
 exact ⟨n, rfl, trivial⟩
theorem rd_ints {x : T} (h : Rd Try.prog 22 x) : ∃ l : List Int, x = T.ints l ∧ l.length ≤ 9223372036854775807 := by
 obtain ⟨l, rfl, h1, h2⟩ := rd_list (e := 3) (n := 1) (by kernel_rfl) (by kernel_rfl) (fun y hy => rd_i hy) h
 exact ⟨l, rfl, h1⟩
theorem rd_intss {x : T} (h : Rd Try.prog 23 x) : ∃ l : List (List Int), x = intss l ∧ l.length ≤ 9223372036854775807 ∧ ∀ y, y ∈ l → y.length ≤ 9223372036854775807 :=
 rd_list (e := 22) (n := 1) (by kernel_rfl) (by kernel_rfl) (fun y hy => rd_ints hy) h
open Go.Eng
def okN {α : Type} (B : Nat) (l : List α) : Prop := l.length ≤ B
def okL {α : Type} (B : Nat) (ok : α → Prop) (l : List α) : Prop := l.length ≤ B ∧ ∀ x, x ∈ l → ok x
theorem flat_at {α : Type} {l : List (List α)} {k : Int} (h0 : 0 ≤ k) (h1 : k < l.length) : (l.drop k.toNat).flatten = l[k.toNat]'(by omega) ++ (l.drop (k + 1).toNat).flatten := by
 rw [drop_at h0 h1, List.flatten_cons]
theorem take_at {α : Type} {l : List α} {k : Int} (h0 : 0 ≤ k) (h1 : k < l.length) : l.take (k + 1).toNat = l.take k.toNat ++ [l[k.toNat]'(by omega)] := by
 rw [show (k + 1).toNat = k.toNat + 1 from by omega, List.take_add_one, List.getElem?_eq_getElem (by omega)]
 rfl
theorem take_end {α : Type} {l : List α} {k : Int} (h1 : (l.length : Int) ≤ k) : l.take k.toNat = l := List.take_of_length_le (by omega)
def szSeq : List (Int → Int) → Int → Int
 | [], left => left
 | f :: fs, left => if f left < 0 then -1 else szSeq fs (f left)
def szLen {α : Type} (l : List α) (left : Int) : Int := szN l.length left
def szIntS (l : List Int) (left : Int) : Int := szN l.length left
def szIntSS (l : List (List Int)) (left : Int) : Int := szL (fun x => szN x.length) l left
def SzA (f : Int → Int) (p : Prop) : Prop := ∀ left : Int, 0 ≤ left → left ≤ 1048576 → f left ≤ left ∧ -1 ≤ f left ∧ (0 ≤ f left → p)
def SzG {α : Type} (f : α → Int → Int) (ok : α → Prop) : Prop := ∀ x, SzA (f x) (ok x)
theorem szN_g {α : Type} : SzG (fun (l : List α) => szN l.length) (okN 1048576) := by
 intro l left h0 hh
 unfold szN okN
 dsimp only
 split <;> refine ⟨by omega, by omega, fun h => by omega⟩
theorem szIntS_g (l : List Int) : SzA (szIntS l) (okN 1048576 l) := szN_g l
theorem szBoolS_g (l : List Bool) : SzA (szLen l) (okN 1048576 l) := szN_g l
theorem szGo_g {α : Type} {f : α → Int → Int} {ok : α → Prop} : ∀ {l : List α}, (∀ x, x ∈ l → SzA (f x) (ok x)) → SzA (szGo f l) (∀ x, x ∈ l → ok x)
 | [], _, left, h0, hh => ⟨by simp [szGo], by simp [szGo]; omega, fun _ x hx => by cases hx⟩
 | x :: l, h, left, h0, hh => by
  have h1 := h x (List.mem_cons_self ..) left h0 hh
  rw [szGo]
  split
  ·exact ⟨by omega, by omega, fun h => by omega⟩
  ·have h2 := szGo_g (fun y hy => h y (List.mem_cons_of_mem _ hy)) (f x left) (by omega) (by omega)
   refine ⟨by omega, by omega, fun h3 y hy => ?_⟩
   rcases List.mem_cons.1 hy with rfl | hy
   ·exact h1.2.2 (by omega)
   ·exact h2.2.2 h3 y hy
theorem szL_a {α : Type} {f : α → Int → Int} {ok : α → Prop} {l : List α} (h : ∀ x, x ∈ l → SzA (f x) (ok x)) : SzA (szL f l) (okL 1048576 ok l) := by
 intro left h0 hh
 unfold szL okL
 split
 ·exact ⟨by omega, by omega, fun h => by omega⟩
 ·have h2 := szGo_g h (left - l.length) (by omega) (by omega)
  exact ⟨by omega, by omega, fun h3 => ⟨by omega, h2.2.2 h3⟩⟩
theorem szL_g {α : Type} {f : α → Int → Int} {ok : α → Prop} (h : SzG f ok) : SzG (szL f) (okL 1048576 ok) := fun l => szL_a fun x _ => h x
theorem szIntSS_g (l : List (List Int)) : SzA (szIntSS l) (okL 1048576 (okN 1048576) l) := szL_g szN_g l
theorem szSeq_nil : SzA (szSeq []) True := fun left h0 hh => ⟨by simp [szSeq], by simp [szSeq]; omega, fun _ => trivial⟩
theorem szSeq_step {f : Int → Int} {fs : List (Int → Int)} {p q : Prop} (h1 : SzA f p) (h2 : SzA (szSeq fs) q) : SzA (szSeq (f :: fs)) (p ∧ q) := by
 intro left h0 hh
 have g1 := h1 left h0 hh
 rw [szSeq]
 split
 ·exact ⟨by omega, by omega, fun h => by omega⟩
 ·have g2 := h2 (f left) (by omega) (by omega)
  exact ⟨by omega, by omega, fun h => ⟨g1.2.2 (by omega), g2.2.2 h⟩⟩
def eqB (a b : Bool) : Bool := a == b
theorem eqI_refl : ∀ x, eqI x x = true := fun x => by simp [eqI]
theorem eqB_refl : ∀ x, eqB x x = true := fun x => by simp [eqB]
theorem szIntSo_fun (l : List Int) (left : Int) (hl : okN 9223372036854775807 l) (h0 : 0 ≤ left) (hh : left ≤ 1048576) : Fun Try.prog 36 [.t (T.ints l), .t (.int left)] (.t (.int (szIntS l left))) := szIntS_fun l left hl h0 hh
theorem toIntSo_fun (l : List Int) (hl : okN 1048576 l) : Fun Try.prog 18 [.t (T.ints l)] (.own (T.ints l)) := toIntS_fun l hl
theorem eqIntSo_fun (a b : List Int) (ha : okN 9223372036854775807 a) (hb : okN 9223372036854775807 b) : Fun Try.prog 21 [.t (T.ints a), .t (T.ints b)] (.t (.bool (eqL eqI a b))) := eqIntS_fun a b ha hb
theorem szIntSSo_fun (l : List (List Int)) (left : Int) (hl : okL 9223372036854775807 (okN 9223372036854775807) l) (h0 : 0 ≤ left) (hh : left ≤ 1048576) :
  Fun Try.prog 37 [.t (intss l), .t (.int left)] (.t (.int (szIntSS l left))) := szIntSS_fun l left hl.1 hl.2 h0 hh
theorem toIntSSo_fun (l : List (List Int)) (hl : okL 1048576 (okN 1048576) l) : Fun Try.prog 41 [.t (intss l)] (.own (intss l)) := toIntSS_fun l hl.1 hl.2
theorem eqIntSSo_fun (a b : List (List Int)) (ha : okL 9223372036854775807 (okN 9223372036854775807) a) (hb : okL 9223372036854775807 (okN 9223372036854775807) b) :
  Fun Try.prog 29 [.t (intss a), .t (intss b)] (.t (.bool (eqL (eqL eqI) a b))) := eqIntSS_fun a b ha.1 hb.1 ha.2 hb.2
open Go.Eng
abbrev T.bools (l : List Bool) : T := .list 1 (l.map T.bool)
theorem szBoolS_fun (l : List Bool) (left : Int) (hl : okN 9223372036854775807 l) (h0 : 0 ≤ left) (hh : left ≤ 1048576) : Fun Try.prog 38 [.t (T.bools l), .t (.int left)] (tupD [.t (.int (szLen l left))]) := by
 unfold okN at hl
 refine Fun.begin tys Try.func38 Z Z (N := 12) [(0, .t (T.bools l)), (1, .t (.int left))] Z Z (fun w0 G F0 => ?_)
 refine sQ (rG (eZ Z (oN (tN (sQ (rG (eK 2 Z (evE ?_))))))))
 refine evI ?_
 refine eZ Z (oN (tN (sQ (sQ (rG (eK 2 Z (oN (tN ?_))))))))
 refine W_cond Z (fun h1 => ?_) (fun h1 => ?_)
 ·
  simp only [HS] at h1
  refine sQ (kY [1,4] Z (rG (eZ Z (oN (tN (rT (tR (eR ?_))))))))
  ·(simp only [szLen, szN]; simp_all <;> omega)
 simp only [HS] at h1
 refine W_skip (tN (sQ (kY [1,4] Z (rG (eK 2 Z (oN (tN (rT (eR ?_)))))))))
 ·(simp only [szLen, szN]; simp_all <;> omega)
theorem toBoolS_fun (l : List Bool) (hl : okN 1048576 l) : Fun Try.prog 42 [.t (T.bools l)] (tupD [.own (T.bools l)]) := by
 unfold okN at hl
 refine Fun.begin tys Try.func42 Z Z (N := 22) [(0, .t (T.bools l))] Z Z (fun w0 G F0 => ?_)
 refine sQ (rG (eZ Z (oN (tN (sQ (rG (eZ Z (evE ?_))))))))
 refine WO_make tys (.v (.bool false)) _ Z Z (lt_of Z) Z Z Z Z Z (by repeat (first | exact AbsL.nil' | refine AbsL.v' ?_ | refine AbsL.none' ?_)) Z (by omega) (by decide) ?_
 refine nZ Z (eZ Z (oN (tN (sQ (sQ (rG (eZ Z (oN (tN (W_block ?_))))))))))
 refine lK (α := Int × List T) [0, 3] [] (fun x => [(4, .t (.int (x.1)))]) (fun x => [(7, .L 1 (x.2))]) (fun x => 0 ≤ (x.1) ∧ (x.1) ≤ l.length ∧ (x.2).length = l.length ∧ (x.2).take (x.1).toNat = (l.take (x.1).toNat).map T.bool) (fun x => Int.toNat (l.length - (x.1))) (0, List.replicate l.length (T.bool false)) ?_ (fun x hx => ?_)
 ·exact ⟨by omega, by omega, by simp, by simp⟩
 obtain ⟨k, xs⟩ := x
 obtain ⟨hk0, hk1, hk2, hk3⟩ := hx
 dsimp only at hk0 hk1 hk2 hk3 ⊢
 refine nY Z (sQ (sQ (rG (eK 2 Z (evE ?_)))))
 refine eZ Z (oN (tN ?_))
 refine W_cond Z (fun h1 => ?_) (fun h1 => ?_)
 ·
  simp only [HS] at h1
  refine W_skip (tN (sQ (W_block (rG (eK 4 Z (WO_idxT tys Z Z (lt_of Z) Z Z Z Z Z Z Z (by omega) _ (getT _ _ (by omega) (by omega)) (kZ [0,3,4,8,9,10,11,14,15,16,17,18] Z (eZ Z (WO_idxS tys Z Z (lt_of Z) Z Z Z Z Z Z Z Z (by omega) (by omega) ?_)))))))))
  refine WO_storeE tys (T.bool _) Z Z Z Z Z Z (by first | exact Nat.zero_add _ | rfl) (by omega) Z (by repeat (first | exact AbsL.nil' | refine AbsL.v' ?_ | refine AbsL.own' ?_)) Z Z Z ?_
  refine nZ Z (oN (bN (tN (rG (eZ Z (evI ?_))))))
  refine eZ Z (oN ?_)
  refine lQ (_, _) ?_ ?_
  ·dsimp only
   exact ⟨by omega, by omega, by simpa using hk2, fill_step hk0 (by omega) hk2 hk3⟩
  ·(show Int.toNat _ < Int.toNat _); omega
 simp only [HS] at h1
 refine W_exit (tE (loopQ_e (inBlk_y (tN (sQ (rG (eK 2 Z (oN (tN (W_le (Le.gather (u := 2) (id := 7) Z Z (by omega)) (rT (eR ?_))))))))))))
 ·rw [List.take_of_length_le (by omega), fill_end (by omega) hk2 hk3]
theorem eqBoolS_fun (a b : List Bool) (ha : okN 9223372036854775807 a) (hb : okN 9223372036854775807 b) : Fun Try.prog 46 [.t (T.bools a), .t (T.bools b)] (tupD [.t (.bool (eqL eqB a b))]) := by
 unfold okN at ha hb
 refine Fun.begin tys Try.func46 Z Z (N := 26) [(0, .t (T.bools a)), (1, .t (T.bools b))] Z Z (fun w0 G F0 => ?_)
 refine sQ (rG (eZ Z (oN (tN (sQ (sQ (rG (eZ Z (evE ?_)))))))))
 refine eZ Z (evE ?_)
 refine eZ Z (oN (tN ?_))
 refine W_cond Z (fun h1 => ?_) (fun h1 => ?_)
 ·
  simp only [HS] at h1
  refine sQ (rG (eZ Z (oN (tN (rT (tR (eR ?_)))))))
  ·rw [eqL_len h1]
   done
 simp only [HS] at h1
 refine W_skip (tN (sQ (sQ (rG (eZ Z (oN (tN (W_block ?_))))))))
 refine lK (α := Int) [0, 1] [] (fun x => [(5, .t (.int x))]) (fun x => []) (fun x => 0 ≤ x ∧ x ≤ a.length ∧ eqGo eqB a b = eqGo eqB (a.drop x.toNat) (b.drop x.toNat)) (fun x => Int.toNat (a.length - x)) 0 ?_ (fun k hx => ?_)
 ·exact ⟨by omega, by omega, rfl⟩
 obtain ⟨hk0, hk1, hk2⟩ := hx
 refine nY Z (sQ (sQ (rG (eK 2 Z (evE ?_)))))
 refine eZ Z (oN (tN ?_))
 refine W_cond Z (fun h2 => ?_) (fun h2 => ?_)
 ·
  simp only [HS] at h2
  refine W_skip (tN (sQ (W_block (sQ (W_regionD mixed (by kernel_rfl) (evQ ?_))))))
  refine evQ ?_
  refine QL_norm Z (QL_idxT tys Z Z (lt_of Z) Z Z Z Z Z Z Z (by omega) _ (getT _ _ (by omega) (by omega)) (evQ ?_))
  refine evQ ?_
  refine evQ ?_
  refine QL_idxT tys Z Z (lt_of Z) Z Z Z Z Z Z Z (by omega) _ (getT _ _ (by omega) (by omega)) (evQ ?_)
  refine QL_norm Z (evQ ?_)
  refine QL_nil (tN ?_)
  refine W_cond Z (fun h3 => ?_) (fun h3 => ?_)
  ·
   simp only [HS] at h3
   refine sQ (rG (eZ Z (oN (tN (rT (bR (tR (loopQ_r (bR (tR (eR ?_)))))))))))
   ·rw [eqL_eq h1, hk2, eqGo_at hk0 h2 h1]
    simp [eqB, h3]
    done
  simp only [HS] at h3
  refine W_skip (bN (tN (rG (eZ Z (evI ?_)))))
  refine eZ Z (oN ?_)
  refine lQ _ ?_ ?_
  ·skip
   refine ⟨by omega, by omega, ?_⟩; rw [hk2, eqGo_at hk0 h2 h1]; simp [eqB, h3]
  ·(show Int.toNat _ < Int.toNat _); omega
 simp only [HS] at h2
 refine W_exit (tE (loopQ_e (inBlk_y (tN (sQ (rG (eZ Z (oN (tN (rT (eR ?_)))))))))))
 ·rw [eqL_eq h1, hk2, drop_end h2]
  rfl
inductive Act where
 | mk (kind chan n : Int) (cases : List Act)
def Act.kind : Act → Int | .mk k _ _ _ => k
def Act.chan : Act → Int | .mk _ c _ _ => c
def Act.n : Act → Int | .mk _ _ n _ => n
def Act.cases : Act → List Act | .mk _ _ _ l => l
theorem Act.eta (a : Act) : Act.mk a.kind a.chan a.n a.cases = a := by cases a; rfl
theorem Act.lt {a b : Act} (h : b ∈ a.cases) : SizeOf.sizeOf b < SizeOf.sizeOf a := by
 cases a with
 | mk k c n l => have := List.sizeOf_lt_of_mem h; simp [Act.cases] at this ⊢; omega
theorem Act.ind {p : Act → Prop} (h : ∀ a, (∀ b, b ∈ a.cases → p b) → p a) (a : Act) : p a := h a fun b hb => Act.ind h b
termination_by SizeOf.sizeOf a
decreasing_by exact Act.lt hb
mutual
def Act.toT : Act → T
 | .mk k c n l => .agg [T.int k, T.int c, T.int n, .list 4 (Act.toTs l)]
def Act.toTs : List Act → List T
 | [] => []
 | a :: l => Act.toT a :: Act.toTs l
end
theorem Act.toTs_eq : ∀ l, Act.toTs l = l.map Act.toT
 | [] => by simp [Act.toTs]
 | a :: l => by rw [Act.toTs, Act.toTs_eq l]; rfl
def Act.tt (a : Act) : T := .agg [T.int a.kind, T.int a.chan, T.int a.n, .list 4 (a.cases.map Act.toT)]
theorem Act.toT_eq (a : Act) : a.toT = a.tt := by
 cases a with
 | mk k c n l => rw [Act.toT, Act.toTs_eq]; rfl
theorem getAct (l : List Act) {i : Int} (h0 : 0 ≤ i) (h1 : i < l.length) : (l.map Act.toT)[i.toNat]? = some ((l[i.toNat]'(by omega)).tt) := by
 rw [getT _ _ h0 h1, Act.toT_eq]
inductive Act.ok (B : Nat) : Act → Prop
 | mk {k c n : Int} {l : List Act} : l.length ≤ B → (∀ a, a ∈ l → Act.ok B a) → Act.ok B (.mk k c n l)
theorem Act.ok.cases' {B : Nat} {a : Act} (h : a.ok B) : okL B (Act.ok B) a.cases := by
 cases h with
 | mk h1 h2 => exact ⟨h1, h2⟩
theorem Act.ok.of {B : Nat} {a : Act} (h : okL B (Act.ok B) a.cases) : a.ok B := by
 rw [← Act.eta a]; exact .mk h.1 h.2
mutual
def szAct : Act → Int → Int
 | .mk _ _ _ l, left => if (if left - l.length < 0 then -1 else szActG l (left - l.length)) < 0 then -1 else (if left - l.length < 0 then -1 else szActG l (left - l.length))
def szActG : List Act → Int → Int
 | [], left => left
 | a :: l, left => if szAct a left < 0 then -1 else szActG l (szAct a left)
end
theorem szActG_eq : ∀ l left, szActG l left = szGo szAct l left
 | [], left => by simp [szActG, szGo]
 | a :: l, left => by rw [szActG, szGo, szActG_eq l]
theorem szAct_eq (a : Act) (left : Int) : szAct a left = szSeq [szL szAct a.cases] left := by
 cases a with
 | mk k c n l => rw [szAct, szActG_eq]; rfl
theorem szAct_g : SzG szAct (Act.ok 1048576) := fun a => Act.ind (p := fun a => SzA (szAct a) (Act.ok 1048576 a)) (fun a ih left h0 hh => by
 rw [szAct_eq]
 have h := szSeq_step (szL_a ih) szSeq_nil left h0 hh
 exact ⟨h.1, h.2.1, fun h' => .of (h.2.2 h').1⟩) a
mutual
def eqAct : Act → Act → Bool
 | .mk k c n l, .mk k' c' n' l' => eqI k k' && (eqI c c' && (eqI n n' && (l.length == l'.length && eqActG l l')))
def eqActG : List Act → List Act → Bool
 | a :: l, b :: l' => eqAct a b && eqActG l l'
 | [], _ => true
 | _, [] => true
end
theorem eqActG_eq : ∀ l l', eqActG l l' = eqGo eqAct l l'
 | [], _ => by simp [eqActG, eqGo]
 | a :: l, [] => by simp [eqActG, eqGo]
 | a :: l, b :: l' => by rw [eqActG, eqGo, eqActG_eq l]
theorem eqAct_eq (a b : Act) : eqAct a b = (eqI a.kind b.kind && (eqI a.chan b.chan && (eqI a.n b.n && eqL eqAct a.cases b.cases))) := by
 cases a; cases b; rw [eqAct, eqActG_eq]; rfl
theorem eqL_refl' {α : Type} {f : α → α → Bool} {l : List α} (h : ∀ x, x ∈ l → f x x = true) : eqL f l l = true := by
 unfold eqL
 rw [Bool.and_eq_true]
 refine ⟨by simp, ?_⟩
 induction l with
 | nil => rfl
 | cons x l ih => rw [eqGo, h x (List.mem_cons_self ..), ih fun y hy => h y (List.mem_cons_of_mem _ hy)]; rfl
theorem eqAct_refl (a : Act) : eqAct a a = true := Act.ind (p := fun a => eqAct a a = true) (fun a ih => by rw [eqAct_eq, eqL_refl' ih]; simp [eqI]) a
abbrev Act.dd (a : Act) : D := .agg [.t (T.int a.kind), .t (T.int a.chan), .t (T.int a.n), .own (.list 4 (a.cases.map Act.toT))]
abbrev T.Acts (l : List (Act)) : T := .list 4 (l.map Act.toT)
theorem szActS_g : SzG (szL szAct) (okL 1048576 (Act.ok 1048576)) := szL_g szAct_g
theorem szActS_fun (l : List (Act)) (left : Int) (hl : okL 9223372036854775807 (Act.ok 9223372036854775807) l) (h0 : 0 ≤ left) (hh : left ≤ 1048576) (hf : ∀ y, y ∈ l → ∀ left : Int, 0 ≤ left → left ≤ 1048576 → Fun Try.prog 93 [.t (Act.tt y), .t (.int left)] (.t (.int (szAct y left)))) : Fun Try.prog 52 [.t (T.Acts l), .t (.int left)] (tupD [.t (.int (szL szAct l left))]) := by
 have hl1 := hl.1
 refine Fun.begin tys Try.func52 Z Z (N := 27) [(0, .t (T.Acts l)), (1, .t (.int left))] Z Z (fun w0 G F0 => ?_)
 refine sQ (rG (eZ Z (oN (tN (sQ (rG (eK 2 Z (evE ?_))))))))
 refine evI ?_
 refine eZ Z (oN (tN (sQ (sQ (rG (eK 2 Z (oN (tN ?_))))))))
 refine W_cond Z (fun h1 => ?_) (fun h1 => ?_)
 ·
  simp only [HS] at h1
  refine sQ (kY [0,1,4] Z (rG (eZ Z (oN (tN (rT (tR (eR ?_))))))))
  ·rw [szL, if_pos h1]
   done
 simp only [HS] at h1
 refine W_skip (tN (sQ (sQ (kY [0,1,4] Z (rG (eZ Z (oN (tN (W_block ?_)))))))))
 refine lK (α := Int × Int) [0] [] (fun x => [(5, .t (.int (x.1))), (1, .t (.int (x.2)))]) (fun x => []) (fun x => 0 ≤ (x.1) ∧ (x.1) ≤ l.length ∧ 0 ≤ (x.2) ∧ (x.2) ≤ 1048576 ∧ szGo szAct l (left - l.length) = szGo szAct (l.drop (x.1).toNat) (x.2)) (fun x => Int.toNat (l.length - (x.1))) (0, left - l.length) ?_ (fun x hx => ?_)
 ·exact ⟨by omega, by omega, by omega, by omega, by simp⟩
 obtain ⟨k, lf⟩ := x
 obtain ⟨hk0, hk1, hk2, hk3, hk4⟩ := hx
 dsimp only at hk0 hk1 hk2 hk3 hk4 ⊢
 refine nY Z (sQ (sQ (rG (eK 2 Z (evE ?_)))))
 refine eZ Z (oN (tN ?_))
 refine W_cond Z (fun h2 => ?_) (fun h2 => ?_)
 ·
  simp only [HS] at h2
  refine W_skip (tN (sQ (W_block (sQ (rG (eK 2 Z (WO_idxT tys Z Z (lt_of Z) Z Z Z Z Z Z Z (by omega) _ (getAct _ (by omega) (by omega)) (eZ Z ?_))))))))
  try refine WO_le (Le.freeze (u := 21) rfl) ?_
  refine nZ Z (eZ Z (kZ [0,1,5,12,13,14,15,18,19,20,21,22] Z (callB ?_)))
  refine ⟨_, hf _ (List.getElem_mem _) _ (by omega) (by omega), rfl, ?_⟩
  refine eZ Z (oN (tN (sQ (rG (eK 2 Z (oN (tN ?_)))))))
  refine W_cond Z (fun h3 => ?_) (fun h3 => ?_)
  ·
   simp only [HS] at h3
   refine sQ (rG (eZ Z (oN (tN (rT (bR (tR (loopQ_r (bR (tR (eR ?_)))))))))))
   ·(rw [szL, if_neg (by omega), hk4, drop_at hk0 (by omega), szGo, if_pos h3]; done)
  simp only [HS] at h3
  refine W_skip (bN (tN (rG (eZ Z (evI ?_)))))
  refine eZ Z (oN ?_)
  refine lQ (_, _) ?_ ?_
  ·dsimp only
   (have hb := szAct_g (l[k.toNat]'(by omega)) lf hk2 hk3; refine ⟨by omega, by omega, by omega, by omega, ?_⟩; rw [hk4, drop_at hk0 (by omega), szGo, if_neg (by omega)])
  ·(show Int.toNat _ < Int.toNat _); omega
 simp only [HS] at h2
 refine W_exit (tE (loopQ_e (inBlk_y (tN (sQ (rG (eK 2 Z (oN (tN (rT (eR ?_)))))))))))
 ·(rw [szL, if_neg (by omega), hk4, drop_end (by omega), szGo]; done)
theorem toActS_fun (l : List (Act)) (hl : okL 1048576 (Act.ok 1048576) l) (hf : ∀ y, y ∈ l → Fun Try.prog 96 [.t (Act.tt y)] (Act.dd y)) : Fun Try.prog 55 [.t (T.Acts l)] (tupD [.own (T.Acts l)]) := by
 have hl1 := hl.1
 refine Fun.begin tys Try.func55 Z Z (N := 23) [(0, .t (T.Acts l))] Z Z (fun w0 G F0 => ?_)
 refine sQ (rG (eZ Z (oN (tN (sQ (rG (eZ Z (evE ?_))))))))
 refine WO_make tys (.agg [.v (.int .i64 0), .v (.int .i64 0), .v (.int .i64 0), .list 4 []]) _ Z Z (lt_of Z) Z Z Z Z Z (by repeat (first | exact AbsL.nil' | refine AbsL.v' ?_ | refine AbsL.none' ?_)) Z (by omega) (by decide) ?_
 refine nZ Z (eZ Z (oN (tN (sQ (sQ (rG (eZ Z (oN (tN (W_block ?_))))))))))
 refine lK (α := Int × List T) [0, 3] [] (fun x => [(4, .t (.int (x.1)))]) (fun x => [(7, .L 4 (x.2))]) (fun x => 0 ≤ (x.1) ∧ (x.1) ≤ l.length ∧ (x.2).length = l.length ∧ (x.2).take (x.1).toNat = (l.take (x.1).toNat).map Act.toT) (fun x => Int.toNat (l.length - (x.1))) (0, List.replicate l.length (.agg [.v (.int .i64 0), .v (.int .i64 0), .v (.int .i64 0), .list 4 []])) ?_ (fun x hx => ?_)
 ·exact ⟨by omega, by omega, by simp, by simp⟩
 obtain ⟨k, xs⟩ := x
 obtain ⟨hk0, hk1, hk2, hk3⟩ := hx
 dsimp only at hk0 hk1 hk2 hk3 ⊢
 refine nY Z (sQ (sQ (rG (eK 2 Z (evE ?_)))))
 refine eZ Z (oN (tN ?_))
 refine W_cond Z (fun h1 => ?_) (fun h1 => ?_)
 ·
  simp only [HS] at h1
  refine W_skip (tN (sQ (W_block (rG (eK 4 Z (WO_idxT tys Z Z (lt_of Z) Z Z Z Z Z Z Z (by omega) _ (getAct _ (by omega) (by omega)) (kZ [0,3,4,8,9,10,11,14,15,16,17,18] Z (eZ Z ?_))))))))
  try refine WO_le (Le.freeze (u := 19) rfl) ?_
  refine nZ Z (callB ?_)
  refine ⟨_, hf _ (List.getElem_mem _), rfl, ?_⟩
  refine WO_idxS tys Z Z (lt_of Z) Z Z Z Z Z Z Z Z (by omega) (by omega) ?_
  refine WO_storeE tys (Act.tt _) Z Z Z Z Z Z (by first | exact Nat.zero_add _ | rfl) (by omega) Z (by repeat (first | exact AbsL.nil' | refine AbsL.v' ?_ | refine AbsL.own' ?_)) Z Z Z ?_
  refine nZ Z (oN (bN (tN (rG (eZ Z (evI ?_))))))
  refine eZ Z (oN ?_)
  refine lQ (_, _) ?_ ?_
  ·dsimp only
   exact ⟨by omega, by omega, by simpa using hk2, by rw [← Act.toT_eq]; exact fill_step hk0 (by omega) hk2 hk3⟩
  ·(show Int.toNat _ < Int.toNat _); omega
 simp only [HS] at h1
 refine W_exit (tE (loopQ_e (inBlk_y (tN (sQ (rG (eK 2 Z (oN (tN (W_le (Le.gather (u := 2) (id := 7) Z Z (by omega)) (rT (eR ?_))))))))))))
 ·rw [List.take_of_length_le (by omega), fill_end (by omega) hk2 hk3]
theorem eqActS_fun (a b : List (Act)) (ha : okL 9223372036854775807 (Act.ok 9223372036854775807) a) (hb : okL 9223372036854775807 (Act.ok 9223372036854775807) b) (hf : ∀ y, y ∈ a → ∀ z, Act.ok 9223372036854775807 z → Fun Try.prog 102 [.t (Act.tt y), .t (Act.tt z)] (.t (.bool (eqAct y z)))) : Fun Try.prog 57 [.t (T.Acts a), .t (T.Acts b)] (tupD [.t (.bool (eqL eqAct a b))]) := by
 have ha1 := ha.1
 have hb1 := hb.1
 refine Fun.begin tys Try.func57 Z Z (N := 27) [(0, .t (T.Acts a)), (1, .t (T.Acts b))] Z Z (fun w0 G F0 => ?_)
 refine sQ (rG (eZ Z (oN (tN (sQ (sQ (rG (eZ Z (evE ?_)))))))))
 refine eZ Z (evE ?_)
 refine eZ Z (oN (tN ?_))
 refine W_cond Z (fun h1 => ?_) (fun h1 => ?_)
 ·
  simp only [HS] at h1
  refine sQ (rG (eZ Z (oN (tN (rT (tR (eR ?_)))))))
  ·rw [eqL_len h1]
   done
 simp only [HS] at h1
 refine W_skip (tN (sQ (sQ (rG (eZ Z (oN (tN (W_block ?_))))))))
 refine lK (α := Int) [0, 1] [] (fun x => [(5, .t (.int x))]) (fun x => []) (fun x => 0 ≤ x ∧ x ≤ a.length ∧ eqGo eqAct a b = eqGo eqAct (a.drop x.toNat) (b.drop x.toNat)) (fun x => Int.toNat (a.length - x)) 0 ?_ (fun k hx => ?_)
 ·exact ⟨by omega, by omega, rfl⟩
 obtain ⟨hk0, hk1, hk2⟩ := hx
 refine nY Z (sQ (sQ (rG (eK 2 Z (evE ?_)))))
 refine eZ Z (oN (tN ?_))
 refine W_cond Z (fun h2 => ?_) (fun h2 => ?_)
 ·
  simp only [HS] at h2
  refine W_skip (tN (sQ (W_block (sQ (W_regionD mixed (by kernel_rfl) (evQ ?_))))))
  refine evQ ?_
  refine QL_norm Z (QL_idxT tys Z Z (lt_of Z) Z Z Z Z Z Z Z (by omega) _ (getAct _ (by omega) (by omega)) (evQ ?_))
  refine evQ ?_
  refine evQ ?_
  refine QL_idxT tys Z Z (lt_of Z) Z Z Z Z Z Z Z (by omega) _ (getAct _ (by omega) (by omega)) (evQ ?_)
  refine QL_norm Z (callBQ ?_)
  refine ⟨_, hf _ (List.getElem_mem _) _ (hb.2 _ (List.getElem_mem _)), rfl, ?_⟩
  refine evQ ?_
  refine QL_nil (tN ?_)
  refine W_cond Z (fun h3 => ?_) (fun h3 => ?_)
  ·
   simp only [HS] at h3
   refine sQ (rG (eZ Z (oN (tN (rT (bR (tR (loopQ_r (bR (tR (eR ?_)))))))))))
   ·rw [eqL_eq h1, hk2, eqGo_at hk0 h2 h1]
    simp [h3]
    done
  simp only [HS] at h3
  refine W_skip (bN (tN (rG (eZ Z (evI ?_)))))
  refine eZ Z (oN ?_)
  refine lQ _ ?_ ?_
  ·skip
   refine ⟨by omega, by omega, ?_⟩; rw [hk2, eqGo_at hk0 h2 h1]; simp [h3]
  ·(show Int.toNat _ < Int.toNat _); omega
 simp only [HS] at h2
 refine W_exit (tE (loopQ_e (inBlk_y (tN (sQ (rG (eZ Z (oN (tN (rT (eR ?_)))))))))))
 ·rw [eqL_eq h1, hk2, drop_end h2]
  rfl
theorem szAct_fun0 (x : Act) (left : Int) (h0 : 0 ≤ left) (hh : left ≤ 1048576) (hs : Fun Try.prog 52 [.t (T.Acts x.cases), .t (.int left)] (.t (.int (szL szAct x.cases left)))) : Fun Try.prog 93 [.t x.tt, .t (.int left)] (tupD [.t (.int (szAct x left))]) := by
 refine Fun.begin tys Try.func93 Z Z (N := 12) [(0, .t x.tt), (1, .t (.int left))] Z Z (fun w0 G F0 => ?_)
 refine sQ (rG (WO_box Z Z (lt_of Z) Z Z (nZ Z (eZ Z (oN (tN (sQ (rG (eK 3 Z (callB ?_))))))))))
 refine ⟨_, hs, rfl, ?_⟩
 refine eZ Z (oN (tN (sQ (sQ (kY [1,4] Z (rG (eK 2 Z (oN (tN ?_)))))))))
 refine W_cond Z (fun h1 => ?_) (fun h1 => ?_)
 ·
  simp only [HS] at h1
  refine sQ (rG (eZ Z (oN (tN (rT (tR (eR ?_)))))))
  ·(rw [szAct_eq]; simp only [szSeq]; repeat (first | rw [if_neg (by omega)] | rw [if_pos (by omega)]))
 simp only [HS] at h1
 refine W_skip (tN (sQ (rG (eK 2 Z (oN (tN (rT (eR ?_))))))))
 ·(rw [szAct_eq]; simp only [szSeq]; repeat (first | rw [if_neg (by omega)] | rw [if_pos (by omega)]))
theorem szAct_fun (x : Act) (left : Int) (hx : x.ok 9223372036854775807) (h0 : 0 ≤ left) (hh : left ≤ 1048576) : Fun Try.prog 93 [.t x.tt, .t (.int left)] (.t (.int (szAct x left))) :=
 Act.ind (p := fun x => ∀ left : Int, x.ok 9223372036854775807 → 0 ≤ left → left ≤ 1048576 → Fun Try.prog 93 [.t x.tt, .t (.int left)] (.t (.int (szAct x left))))
  (fun x ih left hx h0 hh => szAct_fun0 x left h0 hh (szActS_fun x.cases left hx.cases' h0 hh fun y hy left h0 hh => ih y hy left (hx.cases'.2 y hy) h0 hh)) x left hx h0 hh
theorem toAct_fun0 (x : Act) (hs : Fun Try.prog 55 [.t (T.Acts x.cases)] (.own (T.Acts x.cases))) : Fun Try.prog 96 [.t x.tt] (tupD [x.dd]) := by
 refine Fun.begin tys Try.func96 Z Z (N := 18) [(0, .t x.tt)] Z Z (fun w0 G F0 => ?_)
 refine sQ (rG (WO_box Z Z (lt_of Z) Z Z (nZ Z (WO_alloc tys Z Z (lt_of Z) Z Z Z (nZ Z (oN (tN (sQ (rG (WO_alloc tys Z Z (lt_of Z) Z Z Z (nZ Z (oN (tN (sQ (rG ?_)))))))))))))))
 refine eK 3 Z (sT Z (nZ Z (oN (tN (sQ (kY [1,2,3] Z (rG (eK 3 Z (sT Z (nZ Z (oN (tN (sQ (rG (eK 3 Z ?_)))))))))))))))
 refine sT Z (nZ Z (oN (tN (sQ (kY [1,2,3] Z (rG (eK 2 Z (callB ?_))))))))
 refine ⟨_, hs, rfl, ?_⟩
 refine eZ Z (sT Z (nZ Z (oN (tN (sQ (rG (WO_loadMove tys Z Z (lt_of Z) Z Z Z Z Z Z (nZ Z (sT Z (nZ Z (oN (tN (rT (eR ?_))))))))))))))
 ·rfl
theorem toAct_fun (x : Act) (hx : x.ok 1048576) : Fun Try.prog 96 [.t x.tt] x.dd :=
 Act.ind (p := fun x => x.ok 1048576 → Fun Try.prog 96 [.t x.tt] x.dd)
  (fun x ih hx => toAct_fun0 x (toActS_fun x.cases hx.cases' fun y hy => ih y hy (hx.cases'.2 y hy))) x hx
theorem eqAct_fun0 (a b : Act) (hs : Fun Try.prog 57 [.t (T.Acts a.cases), .t (T.Acts b.cases)] (.t (.bool (eqL eqAct a.cases b.cases)))) : Fun Try.prog 102 [.t a.tt, .t b.tt] (tupD [.t (.bool (eqAct a b))]) := by
 refine Fun.begin tys Try.func102 Z Z (N := 26) [(0, .t a.tt), (1, .t b.tt)] Z Z (fun w0 G F0 => ?_)
 refine sQ (rG (WO_box Z Z (lt_of Z) Z Z (nZ Z (WO_box Z Z (lt_of Z) Z Z (nZ Z (eZ Z (oN (tN (sQ (sQ (rG (eK 5 Z (oN (tN ?_))))))))))))))
 refine W_cond Z (fun h1 => ?_) (fun h1 => ?_)
 ·
  simp only [HS] at h1
  refine sQ (kY [2,3,4] Z (rG (eZ Z (oN (tN (rT (tR (eR ?_))))))))
  ·(rw [eqAct_eq]; simp_all [eqI])
 simp only [HS] at h1
 refine W_skip (tN (sQ (sQ (kY [2,3,4] Z (rG (eK 5 Z (oN (tN ?_))))))))
 refine W_cond Z (fun h2 => ?_) (fun h2 => ?_)
 ·
  simp only [HS] at h2
  refine sQ (rG (eZ Z (oN (tN (rT (tR (eR ?_)))))))
  ·(rw [eqAct_eq]; simp_all [eqI])
 simp only [HS] at h2
 refine W_skip (tN (sQ (sQ (rG (eK 4 Z (kZ [2,3,4,16,18] Z (eZ Z (oN (tN ?_)))))))))
 refine W_cond Z (fun h3 => ?_) (fun h3 => ?_)
 ·
  simp only [HS] at h3
  refine sQ (rG (eZ Z (oN (tN (rT (tR (eR ?_)))))))
  ·(rw [eqAct_eq]; simp_all [eqI])
 simp only [HS] at h3
 refine W_skip (tN (sQ (sQ (rG (eK 4 Z (callB ?_))))))
 refine ⟨_, hs, rfl, ?_⟩
 refine eZ Z (oN (tN ?_))
 refine W_cond Z (fun h4 => ?_) (fun h4 => ?_)
 ·
  simp only [HS] at h4
  refine sQ (kY [4] Z (rG (eZ Z (oN (tN (rT (tR (eR ?_))))))))
  ·(rw [eqAct_eq]; simp_all [eqI])
 simp only [HS] at h4
 refine W_skip (tN (sQ (kY [4] Z (rG (eZ Z (oN (tN (rT (eR ?_)))))))))
 ·(rw [eqAct_eq]; simp_all [eqI])
theorem eqAct_fun (a b : Act) (ha : a.ok 9223372036854775807) (hb : b.ok 9223372036854775807) : Fun Try.prog 102 [.t a.tt, .t b.tt] (.t (.bool (eqAct a b))) :=
 Act.ind (p := fun a => ∀ b, a.ok 9223372036854775807 → b.ok 9223372036854775807 → Fun Try.prog 102 [.t a.tt, .t b.tt] (.t (.bool (eqAct a b))))
  (fun a ih b ha hb => eqAct_fun0 a b (eqActS_fun a.cases b.cases ha.cases' hb.cases' fun y hy z hz => ih y hy z (ha.cases'.2 y hy) hz)) a b ha hb
theorem szActSo_fun (l : List Act) (left : Int) (hl : okL 9223372036854775807 (Act.ok 9223372036854775807) l) (h0 : 0 ≤ left) (hh : left ≤ 1048576) : Fun Try.prog 52 [.t (T.Acts l), .t (.int left)] (.t (.int (szL szAct l left))) :=
 szActS_fun l left hl h0 hh fun y hy left h0 hh => szAct_fun y left (hl.2 y hy) h0 hh
theorem toActSo_fun (l : List Act) (hl : okL 1048576 (Act.ok 1048576) l) : Fun Try.prog 55 [.t (T.Acts l)] (.own (T.Acts l)) := toActS_fun l hl fun y hy => toAct_fun y (hl.2 y hy)
theorem eqActSo_fun (a b : List Act) (ha : okL 9223372036854775807 (Act.ok 9223372036854775807) a) (hb : okL 9223372036854775807 (Act.ok 9223372036854775807) b) : Fun Try.prog 57 [.t (T.Acts a), .t (T.Acts b)] (.t (.bool (eqL eqAct a b))) :=
 eqActS_fun a b ha hb fun y hy z hz => eqAct_fun y z (ha.2 y hy) hz
structure Task where
 acts : List (Act)
 pos : Int
 state : Int
 last : Int
def Task.tt (x : Task) : T := .agg [T.Acts x.acts, T.int x.pos, T.int x.state, T.int x.last]
def Task.ok (B : Nat) (x : Task) : Prop := okL B (Act.ok B) x.acts ∧ True
def szTask (x : Task) : Int → Int := szSeq [(szL szAct) x.acts]
theorem szTask_g : SzG szTask (Task.ok 1048576) := fun x left h0 hh => by
 have := szSeq_step (szActS_g x.acts) (szSeq_nil)
 exact this left h0 hh
def eqTask (a b : Task) : Bool := (eqL eqAct) a.acts b.acts && eqI a.pos b.pos && eqI a.state b.state && eqI a.last b.last && true
theorem eqTask_refl (a : Task) : eqTask a a = true := by
 unfold eqTask; simp only [eqI_refl, eqL_refl eqAct_refl, Bool.and_self]
theorem szTask_fun (x : Task) (left : Int) (hx : Task.ok 9223372036854775807 x) (h0 : 0 ≤ left) (hh : left ≤ 1048576) : Fun Try.prog 75 [.t (Task.tt x), .t (.int left)] (tupD [.t (.int (szTask x left))]) := by
 refine Fun.begin tys Try.func75 Z Z (N := 12) [(0, .t (Task.tt x)), (1, .t (.int left))] Z Z (fun w0 G F0 => ?_)
 refine sQ (rG (WO_box Z Z (lt_of Z) Z Z (nZ Z (eZ Z (oN (tN (sQ (rG (eK 3 Z (callB ?_))))))))))
 refine ⟨_, szActSo_fun _ _ (hx.1) (by omega) (by  omega), rfl, ?_⟩
 refine eZ Z (oN (tN (sQ (sQ (kY [1,4] Z (rG (eK 2 Z (oN (tN ?_)))))))))
 refine W_cond Z (fun h1 => ?_) (fun h1 => ?_)
 ·
  simp only [HS] at h1
  refine sQ (rG (eZ Z (oN (tN (rT (tR (eR ?_)))))))
  ·(simp only [szTask, szSeq]; repeat (first | rw [if_neg (by omega)] | rw [if_pos (by omega)]))
 simp only [HS] at h1
 refine W_skip (tN (sQ (rG (eK 2 Z (oN (tN (rT (eR ?_))))))))
 ·(simp only [szTask, szSeq]; repeat (first | rw [if_neg (by omega)] | rw [if_pos (by omega)]))
theorem toTask_fun (x : Task) (hx : Task.ok 1048576 x) : Fun Try.prog 79 [.t (Task.tt x)] (tupD [.agg [.own (T.Acts x.acts), .t (T.int x.pos), .t (T.int x.state), .t (T.int x.last)]]) := by
 refine Fun.begin tys Try.func79 Z Z (N := 18) [(0, .t (Task.tt x))] Z Z (fun w0 G F0 => ?_)
 refine sQ (rG (WO_box Z Z (lt_of Z) Z Z (nZ Z (WO_alloc tys Z Z (lt_of Z) Z Z Z (nZ Z (oN (tN (sQ (rG (WO_alloc tys Z Z (lt_of Z) Z Z Z (nZ Z (oN (tN (sQ (rG ?_)))))))))))))))
 refine eK 2 Z (callB ?_)
 refine ⟨_, toActSo_fun _ (by first | exact hx.1), rfl, ?_⟩
 refine eZ Z (sT Z (nZ Z (oN (tN (sQ (kY [1,2,3] Z (rG (eK 3 Z (sT Z (nZ Z (oN (tN (sQ (rG (eK 3 Z ?_)))))))))))))))
 refine sT Z (nZ Z (oN (tN (sQ (kY [1,2,3] Z (rG (eK 3 Z (sT Z (nZ Z (oN (tN (sQ (rG (WO_loadMove tys Z Z (lt_of Z) Z Z Z Z Z Z (nZ Z ?_)))))))))))))))
 refine sT Z (nZ Z (oN (tN (rT (eR ?_)))))
 ·rfl
theorem eqTask_fun (a b : Task) (ha : Task.ok 9223372036854775807 a) (hb : Task.ok 9223372036854775807 b) : Fun Try.prog 87 [.t (Task.tt a), .t (Task.tt b)] (tupD [.t (.bool (eqTask a b))]) := by
 refine Fun.begin tys Try.func87 Z Z (N := 26) [(0, .t (Task.tt a)), (1, .t (Task.tt b))] Z Z (fun w0 G F0 => ?_)
 refine sQ (rG (WO_box Z Z (lt_of Z) Z Z (nZ Z (WO_box Z Z (lt_of Z) Z Z (nZ Z (eZ Z (oN (tN (sQ (sQ (rG (eK 4 Z (callB ?_)))))))))))))
 refine ⟨_, eqActSo_fun _ _ (by first | exact ha.1) (by first | exact hb.1), rfl, ?_⟩
 refine eZ Z (kZ [2,3,4,10] Z (oN (tN ?_)))
 refine W_cond Z (fun h1 => ?_) (fun h1 => ?_)
 ·
  simp only [HS] at h1
  refine sQ (rG (eZ Z (oN (tN (rT (tR (eR ?_)))))))
  ·simp_all [eqTask, eqI, eqB]
 simp only [HS] at h1
 refine W_skip (tN (sQ (sQ (rG (eK 5 Z (oN (tN ?_)))))))
 refine W_cond Z (fun h2 => ?_) (fun h2 => ?_)
 ·
  simp only [HS] at h2
  refine sQ (rG (eZ Z (oN (tN (rT (tR (eR ?_)))))))
  ·simp_all [eqTask, eqI, eqB]
 simp only [HS] at h2
 refine W_skip (tN (sQ (sQ (rG (eK 4 Z (kZ [2,3,4,17,19] Z (eZ Z (oN (tN ?_)))))))))
 refine W_cond Z (fun h3 => ?_) (fun h3 => ?_)
 ·
  simp only [HS] at h3
  refine sQ (rG (eZ Z (oN (tN (rT (tR (eR ?_)))))))
  ·simp_all [eqTask, eqI, eqB]
 simp only [HS] at h3
 refine W_skip (tN (sQ (sQ (rG (eK 5 Z (oN (tN ?_)))))))
 refine W_cond Z (fun h4 => ?_) (fun h4 => ?_)
 ·
  simp only [HS] at h4
  refine sQ (rG (eZ Z (oN (tN (rT (tR (eR ?_)))))))
  ·simp_all [eqTask, eqI, eqB]
 simp only [HS] at h4
 refine W_skip (tN (sQ (rG (eZ Z (oN (tN (rT (eR ?_))))))))
 ·simp_all [eqTask, eqI, eqB]
abbrev T.Tasks (l : List (Task)) : T := .list 4 (l.map Task.tt)
theorem szTaskS_g : SzG (szL szTask) (okL 1048576 (Task.ok 1048576)) := szL_g szTask_g
theorem szTaskS_fun (l : List (Task)) (left : Int) (hl : okL 9223372036854775807 (Task.ok 9223372036854775807) l) (h0 : 0 ≤ left) (hh : left ≤ 1048576) : Fun Try.prog 39 [.t (T.Tasks l), .t (.int left)] (tupD [.t (.int (szL szTask l left))]) := by
 have hl1 := hl.1
 refine Fun.begin tys Try.func39 Z Z (N := 27) [(0, .t (T.Tasks l)), (1, .t (.int left))] Z Z (fun w0 G F0 => ?_)
 refine sQ (rG (eZ Z (oN (tN (sQ (rG (eK 2 Z (evE ?_))))))))
 refine evI ?_
 refine eZ Z (oN (tN (sQ (sQ (rG (eK 2 Z (oN (tN ?_))))))))
 refine W_cond Z (fun h1 => ?_) (fun h1 => ?_)
 ·
  simp only [HS] at h1
  refine sQ (kY [0,1,4] Z (rG (eZ Z (oN (tN (rT (tR (eR ?_))))))))
  ·rw [szL, if_pos h1]
   done
 simp only [HS] at h1
 refine W_skip (tN (sQ (sQ (kY [0,1,4] Z (rG (eZ Z (oN (tN (W_block ?_)))))))))
 refine lK (α := Int × Int) [0] [] (fun x => [(5, .t (.int (x.1))), (1, .t (.int (x.2)))]) (fun x => []) (fun x => 0 ≤ (x.1) ∧ (x.1) ≤ l.length ∧ 0 ≤ (x.2) ∧ (x.2) ≤ 1048576 ∧ szGo szTask l (left - l.length) = szGo szTask (l.drop (x.1).toNat) (x.2)) (fun x => Int.toNat (l.length - (x.1))) (0, left - l.length) ?_ (fun x hx => ?_)
 ·exact ⟨by omega, by omega, by omega, by omega, by simp⟩
 obtain ⟨k, lf⟩ := x
 obtain ⟨hk0, hk1, hk2, hk3, hk4⟩ := hx
 dsimp only at hk0 hk1 hk2 hk3 hk4 ⊢
 refine nY Z (sQ (sQ (rG (eK 2 Z (evE ?_)))))
 refine eZ Z (oN (tN ?_))
 refine W_cond Z (fun h2 => ?_) (fun h2 => ?_)
 ·
  simp only [HS] at h2
  refine W_skip (tN (sQ (W_block (sQ (rG (eK 2 Z (WO_idxT tys Z Z (lt_of Z) Z Z Z Z Z Z Z (by omega) _ (getT _ _ (by omega) (by omega)) (eZ Z ?_))))))))
  try refine WO_le (Le.freeze (u := 21) rfl) ?_
  refine nZ Z (eZ Z (kZ [0,1,5,12,13,14,15,18,19,20,21,22] Z (callB ?_)))
  refine ⟨_, szTask_fun _ _ (hl.2 _ (List.getElem_mem _)) (by omega) (by omega), rfl, ?_⟩
  refine eZ Z (oN (tN (sQ (rG (eK 2 Z (oN (tN ?_)))))))
  refine W_cond Z (fun h3 => ?_) (fun h3 => ?_)
  ·
   simp only [HS] at h3
   refine sQ (rG (eZ Z (oN (tN (rT (bR (tR (loopQ_r (bR (tR (eR ?_)))))))))))
   ·(rw [szL, if_neg (by omega), hk4, drop_at hk0 (by omega), szGo, if_pos h3]; done)
  simp only [HS] at h3
  refine W_skip (bN (tN (rG (eZ Z (evI ?_)))))
  refine eZ Z (oN ?_)
  refine lQ (_, _) ?_ ?_
  ·dsimp only
   (have hb := szTask_g (l[k.toNat]'(by omega)) lf hk2 hk3; refine ⟨by omega, by omega, by omega, by omega, ?_⟩; rw [hk4, drop_at hk0 (by omega), szGo, if_neg (by omega)])
  ·(show Int.toNat _ < Int.toNat _); omega
 simp only [HS] at h2
 refine W_exit (tE (loopQ_e (inBlk_y (tN (sQ (rG (eK 2 Z (oN (tN (rT (eR ?_)))))))))))
 ·(rw [szL, if_neg (by omega), hk4, drop_end (by omega), szGo]; done)
theorem toTaskS_fun (l : List (Task)) (hl : okL 1048576 (Task.ok 1048576) l) : Fun Try.prog 43 [.t (T.Tasks l)] (tupD [.own (T.Tasks l)]) := by
 have hl1 := hl.1
 refine Fun.begin tys Try.func43 Z Z (N := 23) [(0, .t (T.Tasks l))] Z Z (fun w0 G F0 => ?_)
 refine sQ (rG (eZ Z (oN (tN (sQ (rG (eZ Z (evE ?_))))))))
 refine WO_make tys (.agg [.list 4 [], .v (.int .i64 0), .v (.int .i64 0), .v (.int .i64 0)]) _ Z Z (lt_of Z) Z Z Z Z Z (by repeat (first | exact AbsL.nil' | refine AbsL.v' ?_ | refine AbsL.none' ?_)) Z (by omega) (by decide) ?_
 refine nZ Z (eZ Z (oN (tN (sQ (sQ (rG (eZ Z (oN (tN (W_block ?_))))))))))
 refine lK (α := Int × List T) [0, 3] [] (fun x => [(4, .t (.int (x.1)))]) (fun x => [(7, .L 4 (x.2))]) (fun x => 0 ≤ (x.1) ∧ (x.1) ≤ l.length ∧ (x.2).length = l.length ∧ (x.2).take (x.1).toNat = (l.take (x.1).toNat).map Task.tt) (fun x => Int.toNat (l.length - (x.1))) (0, List.replicate l.length (.agg [.list 4 [], .v (.int .i64 0), .v (.int .i64 0), .v (.int .i64 0)])) ?_ (fun x hx => ?_)
 ·exact ⟨by omega, by omega, by simp, by simp⟩
 obtain ⟨k, xs⟩ := x
 obtain ⟨hk0, hk1, hk2, hk3⟩ := hx
 dsimp only at hk0 hk1 hk2 hk3 ⊢
 refine nY Z (sQ (sQ (rG (eK 2 Z (evE ?_)))))
 refine eZ Z (oN (tN ?_))
 refine W_cond Z (fun h1 => ?_) (fun h1 => ?_)
 ·
  simp only [HS] at h1
  refine W_skip (tN (sQ (W_block (rG (eK 4 Z (WO_idxT tys Z Z (lt_of Z) Z Z Z Z Z Z Z (by omega) _ (getT _ _ (by omega) (by omega)) (kZ [0,3,4,8,9,10,11,14,15,16,17,18] Z (eZ Z ?_))))))))
  try refine WO_le (Le.freeze (u := 19) rfl) ?_
  refine nZ Z (callB ?_)
  refine ⟨_, toTask_fun _ (hl.2 _ (List.getElem_mem _)), rfl, ?_⟩
  refine WO_idxS tys Z Z (lt_of Z) Z Z Z Z Z Z Z Z (by omega) (by omega) ?_
  refine WO_storeE tys (Task.tt _) Z Z Z Z Z Z (by first | exact Nat.zero_add _ | rfl) (by omega) Z (by repeat (first | exact AbsL.nil' | refine AbsL.v' ?_ | refine AbsL.own' ?_)) Z Z Z ?_
  refine nZ Z (oN (bN (tN (rG (eZ Z (evI ?_))))))
  refine eZ Z (oN ?_)
  refine lQ (_, _) ?_ ?_
  ·dsimp only
   exact ⟨by omega, by omega, by simpa using hk2, by exact fill_step hk0 (by omega) hk2 hk3⟩
  ·(show Int.toNat _ < Int.toNat _); omega
 simp only [HS] at h1
 refine W_exit (tE (loopQ_e (inBlk_y (tN (sQ (rG (eK 2 Z (oN (tN (W_le (Le.gather (u := 2) (id := 7) Z Z (by omega)) (rT (eR ?_))))))))))))
 ·rw [List.take_of_length_le (by omega), fill_end (by omega) hk2 hk3]
theorem eqTaskS_fun (a b : List (Task)) (ha : okL 9223372036854775807 (Task.ok 9223372036854775807) a) (hb : okL 9223372036854775807 (Task.ok 9223372036854775807) b) : Fun Try.prog 47 [.t (T.Tasks a), .t (T.Tasks b)] (tupD [.t (.bool (eqL eqTask a b))]) := by
 have ha1 := ha.1
 have hb1 := hb.1
 refine Fun.begin tys Try.func47 Z Z (N := 27) [(0, .t (T.Tasks a)), (1, .t (T.Tasks b))] Z Z (fun w0 G F0 => ?_)
 refine sQ (rG (eZ Z (oN (tN (sQ (sQ (rG (eZ Z (evE ?_)))))))))
 refine eZ Z (evE ?_)
 refine eZ Z (oN (tN ?_))
 refine W_cond Z (fun h1 => ?_) (fun h1 => ?_)
 ·
  simp only [HS] at h1
  refine sQ (rG (eZ Z (oN (tN (rT (tR (eR ?_)))))))
  ·rw [eqL_len h1]
   done
 simp only [HS] at h1
 refine W_skip (tN (sQ (sQ (rG (eZ Z (oN (tN (W_block ?_))))))))
 refine lK (α := Int) [0, 1] [] (fun x => [(5, .t (.int x))]) (fun x => []) (fun x => 0 ≤ x ∧ x ≤ a.length ∧ eqGo eqTask a b = eqGo eqTask (a.drop x.toNat) (b.drop x.toNat)) (fun x => Int.toNat (a.length - x)) 0 ?_ (fun k hx => ?_)
 ·exact ⟨by omega, by omega, rfl⟩
 obtain ⟨hk0, hk1, hk2⟩ := hx
 refine nY Z (sQ (sQ (rG (eK 2 Z (evE ?_)))))
 refine eZ Z (oN (tN ?_))
 refine W_cond Z (fun h2 => ?_) (fun h2 => ?_)
 ·
  simp only [HS] at h2
  refine W_skip (tN (sQ (W_block (sQ (W_regionD mixed (by kernel_rfl) (evQ ?_))))))
  refine evQ ?_
  refine QL_norm Z (QL_idxT tys Z Z (lt_of Z) Z Z Z Z Z Z Z (by omega) _ (getT _ _ (by omega) (by omega)) (evQ ?_))
  refine evQ ?_
  refine evQ ?_
  refine QL_idxT tys Z Z (lt_of Z) Z Z Z Z Z Z Z (by omega) _ (getT _ _ (by omega) (by omega)) (evQ ?_)
  refine QL_norm Z (callBQ ?_)
  refine ⟨_, eqTask_fun _ _ (ha.2 _ (List.getElem_mem _)) (hb.2 _ (List.getElem_mem _)), rfl, ?_⟩
  refine evQ ?_
  refine QL_nil (tN ?_)
  refine W_cond Z (fun h3 => ?_) (fun h3 => ?_)
  ·
   simp only [HS] at h3
   refine sQ (rG (eZ Z (oN (tN (rT (bR (tR (loopQ_r (bR (tR (eR ?_)))))))))))
   ·rw [eqL_eq h1, hk2, eqGo_at hk0 h2 h1]
    simp [h3]
    done
  simp only [HS] at h3
  refine W_skip (bN (tN (rG (eZ Z (evI ?_)))))
  refine eZ Z (oN ?_)
  refine lQ _ ?_ ?_
  ·skip
   refine ⟨by omega, by omega, ?_⟩; rw [hk2, eqGo_at hk0 h2 h1]; simp [h3]
  ·(show Int.toNat _ < Int.toNat _); omega
 simp only [HS] at h2
 refine W_exit (tE (loopQ_e (inBlk_y (tN (sQ (rG (eZ Z (oN (tN (rT (eR ?_)))))))))))
 ·rw [eqL_eq h1, hk2, drop_end h2]
  rfl
structure World where
 room : List Int
 held : List (List Int)
 shut : List Bool
 tasks : List (Task)
 trace : List Int
def World.tt (x : World) : T := .agg [T.ints x.room, intss x.held, T.bools x.shut, T.Tasks x.tasks, T.ints x.trace]
def World.ok (B : Nat) (x : World) : Prop := okN B x.room ∧ okL B (okN B) x.held ∧ okN B x.shut ∧ okL B (Task.ok B) x.tasks ∧ okN B x.trace ∧ True
def szWorld (x : World) : Int → Int := szSeq [szIntS x.room, szIntSS x.held, szLen x.shut, (szL szTask) x.tasks, szIntS x.trace]
theorem szWorld_g : SzG szWorld (World.ok 1048576) := fun x left h0 hh => by
 have := szSeq_step (szIntS_g x.room) (szSeq_step (szIntSS_g x.held) (szSeq_step (szBoolS_g x.shut) (szSeq_step (szTaskS_g x.tasks) (szSeq_step (szIntS_g x.trace) (szSeq_nil)))))
 exact this left h0 hh
def eqWorld (a b : World) : Bool := (eqL eqI) a.room b.room && (eqL (eqL eqI)) a.held b.held && (eqL eqB) a.shut b.shut && (eqL eqTask) a.tasks b.tasks && (eqL eqI) a.trace b.trace && true
theorem eqWorld_refl (a : World) : eqWorld a a = true := by
 unfold eqWorld; simp only [eqL_refl (eqL_refl eqI_refl), eqL_refl eqB_refl, eqL_refl eqI_refl, eqL_refl eqTask_refl, Bool.and_self]
theorem szWorld_fun (x : World) (left : Int) (hx : World.ok 9223372036854775807 x) (h0 : 0 ≤ left) (hh : left ≤ 1048576) : Fun Try.prog 9 [.t (World.tt x), .t (.int left)] (tupD [.t (.int (szWorld x left))]) := by
 refine Fun.begin tys Try.func9 Z Z (N := 36) [(0, .t (World.tt x)), (1, .t (.int left))] Z Z (fun w0 G F0 => ?_)
 refine sQ (rG (WO_box Z Z (lt_of Z) Z Z (nZ Z (eZ Z (oN (tN (sQ (rG (eK 3 Z (callB ?_))))))))))
 refine ⟨_, szIntSo_fun _ _ (hx.1) (by omega) (by  omega), rfl, ?_⟩
 refine eZ Z (oN (tN (sQ (sQ (kY [1,2,4] Z (rG (eK 2 Z (oN (tN ?_)))))))))
 refine W_cond Z (fun h1 => ?_) (fun h1 => ?_)
 ·
  simp only [HS] at h1
  refine sQ (rG (eZ Z (oN (tN (rT (tR (eR ?_)))))))
  ·(simp only [szWorld, szSeq]; repeat (first | rw [if_neg (by omega)] | rw [if_pos (by omega)]))
 simp only [HS] at h1
 refine W_skip (tN (sQ (rG (eK 3 Z (callB ?_)))))
 refine ⟨_, szIntSSo_fun _ _ (hx.2.1) (by omega) (by have g0 := szIntS_g x.room left (by omega) (by omega); omega), rfl, ?_⟩
 refine eZ Z (oN (tN (sQ (sQ (kY [1,2,4] Z (rG (eK 2 Z (oN (tN ?_)))))))))
 refine W_cond Z (fun h2 => ?_) (fun h2 => ?_)
 ·
  simp only [HS] at h2
  refine sQ (rG (eZ Z (oN (tN (rT (tR (eR ?_)))))))
  ·(simp only [szWorld, szSeq]; repeat (first | rw [if_neg (by omega)] | rw [if_pos (by omega)]))
 simp only [HS] at h2
 refine W_skip (tN (sQ (rG (eK 3 Z (callB ?_)))))
 refine ⟨_, szBoolS_fun _ _ (hx.2.2.1) (by omega) (by have g0 := szIntS_g x.room left (by omega) (by omega); have g1 := szIntSS_g x.held (szIntS x.room left) (by omega) (by omega); omega), rfl, ?_⟩
 refine eZ Z (oN (tN (sQ (sQ (kY [1,2,4] Z (rG (eK 2 Z (oN (tN ?_)))))))))
 refine W_cond Z (fun h3 => ?_) (fun h3 => ?_)
 ·
  simp only [HS] at h3
  refine sQ (rG (eZ Z (oN (tN (rT (tR (eR ?_)))))))
  ·(simp only [szWorld, szSeq]; repeat (first | rw [if_neg (by omega)] | rw [if_pos (by omega)]))
 simp only [HS] at h3
 refine W_skip (tN (sQ (rG (eK 3 Z (callB ?_)))))
 refine ⟨_, szTaskS_fun _ _ (hx.2.2.2.1) (by omega) (by have g0 := szIntS_g x.room left (by omega) (by omega); have g1 := szIntSS_g x.held (szIntS x.room left) (by omega) (by omega); have g2 := szBoolS_g x.shut (szIntSS x.held (szIntS x.room left)) (by omega) (by omega); omega), rfl, ?_⟩
 refine eZ Z (oN (tN (sQ (sQ (kY [1,2,4] Z (rG (eK 2 Z (oN (tN ?_)))))))))
 refine W_cond Z (fun h4 => ?_) (fun h4 => ?_)
 ·
  simp only [HS] at h4
  refine sQ (rG (eZ Z (oN (tN (rT (tR (eR ?_)))))))
  ·(simp only [szWorld, szSeq]; repeat (first | rw [if_neg (by omega)] | rw [if_pos (by omega)]))
 simp only [HS] at h4
 refine W_skip (tN (sQ (rG (eK 3 Z (callB ?_)))))
 refine ⟨_, szIntSo_fun _ _ (hx.2.2.2.2.1) (by omega) (by have g0 := szIntS_g x.room left (by omega) (by omega); have g1 := szIntSS_g x.held (szIntS x.room left) (by omega) (by omega); have g2 := szBoolS_g x.shut (szIntSS x.held (szIntS x.room left)) (by omega) (by omega); have g3 := szTaskS_g x.tasks (szLen x.shut (szIntSS x.held (szIntS x.room left))) (by omega) (by omega); omega), rfl, ?_⟩
 refine eZ Z (oN (tN (sQ (sQ (kY [1,4] Z (rG (eK 2 Z (oN (tN ?_)))))))))
 refine W_cond Z (fun h5 => ?_) (fun h5 => ?_)
 ·
  simp only [HS] at h5
  refine sQ (rG (eZ Z (oN (tN (rT (tR (eR ?_)))))))
  ·(simp only [szWorld, szSeq]; repeat (first | rw [if_neg (by omega)] | rw [if_pos (by omega)]))
 simp only [HS] at h5
 refine W_skip (tN (sQ (rG (eK 2 Z (oN (tN (rT (eR ?_))))))))
 ·(simp only [szWorld, szSeq]; repeat (first | rw [if_neg (by omega)] | rw [if_pos (by omega)]))
theorem toWorld_fun (x : World) (hx : World.ok 1048576 x) : Fun Try.prog 11 [.t (World.tt x)] (tupD [.agg [.own (T.ints x.room), .own (intss x.held), .own (T.bools x.shut), .own (T.Tasks x.tasks), .own (T.ints x.trace)]]) := by
 refine Fun.begin tys Try.func11 Z Z (N := 25) [(0, .t (World.tt x))] Z Z (fun w0 G F0 => ?_)
 refine sQ (rG (WO_box Z Z (lt_of Z) Z Z (nZ Z (WO_alloc tys Z Z (lt_of Z) Z Z Z (nZ Z (oN (tN (sQ (rG (WO_alloc tys Z Z (lt_of Z) Z Z Z (nZ Z (oN (tN (sQ (rG ?_)))))))))))))))
 refine eK 2 Z (callB ?_)
 refine ⟨_, toIntSo_fun _ (by first | exact hx.1 | exact hx.2.2.2.2.1), rfl, ?_⟩
 refine eZ Z (sT Z (nZ Z (oN (tN (sQ (kY [1,2,3] Z (rG (eK 2 Z (callB ?_)))))))))
 refine ⟨_, toIntSSo_fun _ (by first | exact hx.2.1), rfl, ?_⟩
 refine eZ Z (sT Z (nZ Z (oN (tN (sQ (rG (eK 2 Z (callB ?_))))))))
 refine ⟨_, toBoolS_fun _ (by first | exact hx.2.2.1), rfl, ?_⟩
 refine eZ Z (kZ [1,2,3,14,15] Z (sT Z (nZ Z (oN (tN (sQ (rG (eK 2 Z (callB ?_)))))))))
 refine ⟨_, toTaskS_fun _ (by first | exact hx.2.2.2.1), rfl, ?_⟩
 refine eZ Z (sT Z (nZ Z (oN (tN (sQ (rG (eK 2 Z (callB ?_))))))))
 refine ⟨_, toIntSo_fun _ (by first | exact hx.1 | exact hx.2.2.2.2.1), rfl, ?_⟩
 refine kZ [2,3,22] Z (eZ Z (sT Z (nZ Z (oN (tN (sQ (rG (WO_loadMove tys Z Z (lt_of Z) Z Z Z Z Z Z (nZ Z (sT Z (nZ Z (oN (tN (rT (eR ?_)))))))))))))))
 ·rfl
theorem eqWorld_fun (a b : World) (ha : World.ok 9223372036854775807 a) (hb : World.ok 9223372036854775807 b) : Fun Try.prog 13 [.t (World.tt a), .t (World.tt b)] (tupD [.t (.bool (eqWorld a b))]) := by
 refine Fun.begin tys Try.func13 Z Z (N := 35) [(0, .t (World.tt a)), (1, .t (World.tt b))] Z Z (fun w0 G F0 => ?_)
 refine sQ (rG (WO_box Z Z (lt_of Z) Z Z (nZ Z (WO_box Z Z (lt_of Z) Z Z (nZ Z (eZ Z (oN (tN (sQ (sQ (rG (eK 4 Z (callB ?_)))))))))))))
 refine ⟨_, eqIntSo_fun _ _ (by first | exact ha.1 | exact ha.2.2.2.2.1) (by first | exact hb.1 | exact hb.2.2.2.2.1), rfl, ?_⟩
 refine eZ Z (kZ [2,3,4,10] Z (oN (tN ?_)))
 refine W_cond Z (fun h1 => ?_) (fun h1 => ?_)
 ·
  simp only [HS] at h1
  refine sQ (rG (eZ Z (oN (tN (rT (tR (eR ?_)))))))
  ·simp_all [eqWorld, eqI, eqB]
 simp only [HS] at h1
 refine W_skip (tN (sQ (sQ (rG (eK 4 Z (callB ?_))))))
 refine ⟨_, eqIntSSo_fun _ _ (by first | exact ha.2.1) (by first | exact hb.2.1), rfl, ?_⟩
 refine eZ Z (oN (tN ?_))
 refine W_cond Z (fun h2 => ?_) (fun h2 => ?_)
 ·
  simp only [HS] at h2
  refine sQ (rG (eZ Z (oN (tN (rT (tR (eR ?_)))))))
  ·simp_all [eqWorld, eqI, eqB]
 simp only [HS] at h2
 refine W_skip (tN (sQ (sQ (rG (eK 3 Z (kZ [2,3,4,18,19] Z (eZ Z (callB ?_))))))))
 refine ⟨_, eqBoolS_fun _ _ (by first | exact ha.2.2.1) (by first | exact hb.2.2.1), rfl, ?_⟩
 refine eZ Z (oN (tN ?_))
 refine W_cond Z (fun h3 => ?_) (fun h3 => ?_)
 ·
  simp only [HS] at h3
  refine sQ (rG (eZ Z (oN (tN (rT (tR (eR ?_)))))))
  ·simp_all [eqWorld, eqI, eqB]
 simp only [HS] at h3
 refine W_skip (tN (sQ (sQ (rG (eK 4 Z (callB ?_))))))
 refine ⟨_, eqTaskS_fun _ _ (by first | exact ha.2.2.2.1) (by first | exact hb.2.2.2.1), rfl, ?_⟩
 refine eZ Z (kZ [2,3,4,28] Z (oN (tN ?_)))
 refine W_cond Z (fun h4 => ?_) (fun h4 => ?_)
 ·
  simp only [HS] at h4
  refine sQ (rG (eZ Z (oN (tN (rT (tR (eR ?_)))))))
  ·simp_all [eqWorld, eqI, eqB]
 simp only [HS] at h4
 refine W_skip (tN (sQ (sQ (rG (eK 4 Z (callB ?_))))))
 refine ⟨_, eqIntSo_fun _ _ (by first | exact ha.1 | exact ha.2.2.2.2.1) (by first | exact hb.1 | exact hb.2.2.2.2.1), rfl, ?_⟩
 refine eZ Z (oN (tN ?_))
 refine W_cond Z (fun h5 => ?_) (fun h5 => ?_)
 ·
  simp only [HS] at h5
  refine sQ (rG (eZ Z (oN (tN (rT (tR (eR ?_)))))))
  ·simp_all [eqWorld, eqI, eqB]
 simp only [HS] at h5
 refine W_skip (tN (sQ (rG (eZ Z (oN (tN (rT (eR ?_))))))))
 ·simp_all [eqWorld, eqI, eqB]
open Go.Eng
theorem rd_bools {x : T} (h : Rd Try.prog 24 x) : ∃ l : List Bool, x = T.bools l ∧ okN 9223372036854775807 l := by
 obtain ⟨l, rfl, h1, h2⟩ := rd_list (e := 4) (n := 1) (by kernel_rfl) (by kernel_rfl) (fun y hy => rd_b hy) h
 exact ⟨l, rfl, h1⟩
theorem rd_act_n : ∀ (n : Nat) {x : T}, SizeOf.sizeOf x < n → Rd Try.prog 109 x → ∃ a : Act, x = a.tt ∧ a.ok 9223372036854775807
 | 0, _, h, _ => by omega
 | n + 1, x, hn, h => by
  obtain ⟨xs, rfl, h1⟩ := rd_struct (ts := [3, 3, 3, 77]) (by kernel_rfl) h
  match xs, h1 with
  | [x1, x2, x3, x4], ⟨h1, h2, h3, h4, _⟩ =>
   obtain ⟨k, rfl, _⟩ := rd_i h1
   obtain ⟨c, rfl, _⟩ := rd_i h2
   obtain ⟨m, rfl, _⟩ := rd_i h3
   obtain ⟨l, rfl, h5, h6⟩ := rd_slice (e := 109) (n := 4) (by kernel_rfl) (by kernel_rfl) h4
   obtain ⟨l', rfl, h7⟩ := map_of (q := Act.ok 9223372036854775807) (g := Act.toT) h6 fun y hl hy => by
    have := List.sizeOf_lt_of_mem hl
    simp [T.cells, List.flatMap] at hn
    obtain ⟨a, h8, h9⟩ := rd_act_n n (x := y) (by omega) hy
    exact ⟨a, by rw [h8, Act.toT_eq], h9⟩
   exact ⟨.mk k c m l', rfl, .mk (by simpa using h5) h7⟩
theorem rd_act {x : T} (h : Rd Try.prog 109 x) : ∃ a : Act, x = a.tt ∧ a.ok 9223372036854775807 := rd_act_n _ (Nat.lt_succ_self _) h
theorem rd_acts {x : T} (h : Rd Try.prog 77 x) : ∃ l : List Act, x = T.Acts l ∧ okL 9223372036854775807 (Act.ok 9223372036854775807) l :=
 rd_list (e := 109) (n := 4) (by kernel_rfl) (by kernel_rfl) (fun y hy => by obtain ⟨a, h1, h2⟩ := rd_act hy; exact ⟨a, by rw [h1, Act.toT_eq], h2⟩) h
theorem rd_task {x : T} (h : Rd Try.prog 93 x) : ∃ a : Task, x = a.tt ∧ a.ok 9223372036854775807 := by
 obtain ⟨xs, rfl, h1⟩ := rd_struct (ts := [77, 3, 3, 3]) (by kernel_rfl) h
 match xs, h1 with
 | [x1, x2, x3, x4], ⟨h1, h2, h3, h4, _⟩ =>
  obtain ⟨a, rfl, q⟩ := rd_acts h1
  obtain ⟨k, rfl, _⟩ := rd_i h2
  obtain ⟨c, rfl, _⟩ := rd_i h3
  obtain ⟨m, rfl, _⟩ := rd_i h4
  exact ⟨⟨a, k, c, m⟩, rfl, q, trivial⟩
theorem rd_tasks {x : T} (h : Rd Try.prog 25 x) : ∃ l : List Task, x = T.Tasks l ∧ okL 9223372036854775807 (Task.ok 9223372036854775807) l :=
 rd_list (e := 93) (n := 4) (by kernel_rfl) (by kernel_rfl) (fun y hy => rd_task hy) h
theorem rd_world {x : T} (h : Rd Try.prog 27 x) : ∃ w : World, x = w.tt ∧ w.ok 9223372036854775807 := by
 obtain ⟨xs, rfl, h1⟩ := rd_struct (ts := [22, 23, 24, 25, 22]) (by kernel_rfl) h
 match xs, h1 with
 | [x1, x2, x3, x4, x5], ⟨h1, h2, h3, h4, h5, _⟩ =>
  obtain ⟨a, rfl, q1⟩ := rd_ints h1
  obtain ⟨b, rfl, q2⟩ := rd_intss h2
  obtain ⟨c, rfl, q3⟩ := rd_bools h3
  obtain ⟨d, rfl, q4⟩ := rd_tasks h4
  obtain ⟨e, rfl, q5⟩ := rd_ints h5
  exact ⟨⟨a, b, c, d, e⟩, rfl, q1, q2, q3, q4, q5, trivial⟩
end Go.Proofs.Ytbkamkmmljbedaa
