/- Walks and laws of the claim. -/
import Derived.Test.YtimpganophnehaaGreatTy
import Derived.Test.YtimpganophnehaaGreatRows
import Derived.Test.YtimpganophnehaaGreatMb
import Derived.Test.YtimpganophnehaaGreatRows
import Derived.Test.YtimpganophnehaaGreatMc
set_option linter.unusedVariables false
set_option linter.unusedSimpArgs false
set_option maxRecDepth 10000
set_option maxHeartbeats 1000000
namespace Go.Proofs.YtimpganophnehaaGreat
open Go.Eng
open Go.Eng
theorem l1In_fun (n lo hi : Int) : Fun Tryz.prog 44 [.t (.int n), .t (.int lo), .t (.int hi)] (tupD [.t (.bool (decide (lo ≤ n ∧ n ≤ hi)))]) := by
 refine Fun.begin tys Tryz.func44 Z Z (N := 15) [(0, .t (.int n)), (1, .t (.int lo)), (2, .t (.int hi))] Z Z (fun w0 G F0 => ?_)
 refine sQ (rG (eZ Z (oN (tN (sQ (rG (eK 4 Z ?_)))))))
 refine WO_guard Z Z Z Z (lt_of Z) (fun h1 => ?_) (fun h1 => ?_)
 rotate_left
 ·
  simp only [HS] at h1
  refine gM Z (gM Z (eK 2 Z (kZ [6] Z (oN (tN (rT (eR ?_)))))))
  ·(simp_all <;> omega)
 simp only [HS] at h1
 refine eZ Z (gY Z (eZ Z (gY Z (eK 2 Z (kZ [6,14] Z (eZ Z (oN (tN (rT (eR ?_))))))))))
 ·(simp_all <;> omega)
theorem within_fun (n lo hi : Int) : Fun Tryz.prog 60 [.t (.int n), .t (.int lo), .t (.int hi)] (tupD [.t (.bool (decide (lo ≤ n ∧ n ≤ hi)))]) := by
 refine Fun.begin tys Tryz.func60 Z Z (N := 15) [(0, .t (.int n)), (1, .t (.int lo)), (2, .t (.int hi))] Z Z (fun w0 G F0 => ?_)
 refine sQ (rG (eZ Z (oN (tN (sQ (rG (eK 4 Z ?_)))))))
 refine WO_guard Z Z Z Z (lt_of Z) (fun h1 => ?_) (fun h1 => ?_)
 rotate_left
 ·
  simp only [HS] at h1
  refine gM Z (gM Z (eK 2 Z (kZ [6] Z (oN (tN (rT (eR ?_)))))))
  ·(simp_all <;> omega)
 simp only [HS] at h1
 refine eZ Z (gY Z (eZ Z (gY Z (eK 2 Z (kZ [6,14] Z (eZ Z (oN (tN (rT (eR ?_))))))))))
 ·(simp_all <;> omega)
def allIn (l : List Int) (lo hi : Int) : Bool := l.all fun n => decide (lo ≤ n ∧ n ≤ hi)
theorem allIn_step {l : List Int} {lo hi k : Int} (h0 : 0 ≤ k) (h1 : k < l.length) (h : allIn (l.take k.toNat) lo hi = true) (h2 : lo ≤ l[k.toNat]'(by omega) ∧ l[k.toNat]'(by omega) ≤ hi) : allIn (l.take (k + 1).toNat) lo hi = true := by
 rw [show (k + 1).toNat = k.toNat + 1 from by omega, List.take_add_one, List.getElem?_eq_getElem (by omega)]
 unfold allIn at *
 rw [List.all_append, h]
 simpa using h2
theorem allIn_no {l : List Int} {lo hi k : Int} (h0 : 0 ≤ k) (h1 : k < l.length) (h2 : ¬ (lo ≤ l[k.toNat]'(by omega) ∧ l[k.toNat]'(by omega) ≤ hi)) : allIn l lo hi = false := by
 unfold allIn
 rw [List.all_eq_false]
 exact ⟨l[k.toNat]'(by omega), List.getElem_mem _, by simpa using h2⟩
theorem allIn_yes {l : List Int} {lo hi k : Int} (h : allIn (l.take k.toNat) lo hi = true) (h0 : 0 ≤ k) (h1 : (l.length : Int) ≤ k) : allIn l lo hi = true := by
 rwa [List.take_of_length_le (by omega)] at h
theorem l1All_fun (l : List Int) (lo hi : Int) (hl : l.length ≤ 1073741824) : Fun Tryz.prog 119 [.t (T.ints l), .t (.int lo), .t (.int hi)] (tupD [.t (.bool (allIn l lo hi))]) := by
 refine Fun.begin tys Tryz.func119 Z Z (N := 21) [(0, .t (T.ints l)), (1, .t (.int lo)), (2, .t (.int hi))] Z Z (fun w0 G F0 => ?_)
 refine sQ (rG (eZ Z (oN (tN (sQ (sQ (rG (eZ Z (evE ?_)))))))))
 refine eZ Z (oN (tN (W_block ?_)))
 refine lK (α := Int) [9, 10, 1, 2] [] (fun x => [(11, .t (.int x))]) (fun x => []) (fun x => 0 ≤ x ∧ x ≤ l.length ∧ allIn (l.take x.toNat) lo hi = true) (fun x => Int.toNat (l.length - x)) 0 ?_ (fun k hx => ?_)
 ·refine ⟨?_, ?_, ?_⟩ <;> simp [allIn]
 obtain ⟨hk0, hk1, hk2⟩ := hx
 refine nY Z (sQ (rG (eZ Z (oN (tN (sQ ?_))))))
 refine W_cond Z (fun h1 => ?_) (fun h1 => ?_)
 ·
  simp only [HS] at h1
  refine W_skip (tN (sQ (W_block (sQ (rG (WO_idxT tys Z Z (lt_of Z) Z Z Z Z Z Z Z (by omega) _ (getT _ _ (by omega) (by omega)) (eK 2 Z (oN (tN (sQ (rG (eK 3 Z (callB ?_)))))))))))))
  refine ⟨_, l1In_fun _ _ _, rfl, ?_⟩
  refine eZ Z (kZ [1,2,8,9,10,11,12,13,14,15,16,17,18,19] Z (oN (tN ?_)))
  refine W_cond Z (fun h2 => ?_) (fun h2 => ?_)
  ·
   simp only [HS] at h2
   refine sQ (rG (eZ Z (oN (tN (rT (bR (tR (loopQ_r (bR (tR (eR ?_)))))))))))
   ·rw [allIn_no hk0 (by omega) (by simpa using h2)]
  simp only [HS] at h2
  refine W_skip (bN (tN (rG (evI ?_))))
  refine eZ Z (oN ?_)
  refine lQ _ ?_ ?_
  ·skip
   exact ⟨by omega, by omega, allIn_step hk0 (by omega) hk2 (by simpa using h2)⟩
  ·(show Int.toNat _ < Int.toNat _); omega
 simp only [HS] at h1
 refine W_exit (tE (loopQ_e (inBlk_y (tN (sQ (rG (eZ Z (oN (tN (rT (eR ?_)))))))))))
 ·rw [allIn_yes hk2 hk0 (by omega)]
open Go.Eng
def szN (n : Nat) (left : Int) : Int := if left - n < 0 then -1 else left - n
def szGo {α : Type} (f : α → Int → Int) : List α → Int → Int
 | [], left => left
 | x :: xs, left => if f x left < 0 then -1 else szGo f xs (f x left)
def szL {α : Type} (f : α → Int → Int) (l : List α) (left : Int) : Int := if left - l.length < 0 then -1 else szGo f l (left - l.length)
theorem drop_at {α : Type} {l : List α} {k : Int} (h0 : 0 ≤ k) (h1 : k < l.length) : l.drop k.toNat = l[k.toNat]'(by omega) :: l.drop (k + 1).toNat := by
 rw [show (k + 1).toNat = k.toNat + 1 from by omega]
 exact List.drop_eq_getElem_cons (by omega)
theorem drop_end {α : Type} {l : List α} {k : Int} (h1 : (l.length : Int) ≤ k) : l.drop k.toNat = [] := List.drop_of_length_le (by omega)
theorem fill_step {α : Type} {xs : List T} {l : List α} {g : α → T} {k : Int} (h0 : 0 ≤ k) (h1 : k < l.length) (hl : xs.length = l.length) (h : xs.take k.toNat = (l.take k.toNat).map g) :
  (xs.set k.toNat (g (l[k.toNat]'(by omega)))).take (k + 1).toNat = (l.take (k + 1).toNat).map g := by
 rw [show (k + 1).toNat = k.toNat + 1 from by omega, List.take_add_one, List.take_add_one, List.getElem?_set_self (by omega), List.getElem?_eq_getElem (by omega)]
 simp only [Option.toList_some, List.map_append, List.map_cons, List.map_nil, ← h]
 rw [List.take_set_of_le (Nat.le_refl _)]
theorem fill_end {α : Type} {xs : List T} {l : List α} {g : α → T} {k : Int} (h1 : (l.length : Int) ≤ k) (hl : xs.length = l.length) (h : xs.take k.toNat = (l.take k.toNat).map g) : xs = l.map g := by
 rwa [List.take_of_length_le (by omega), List.take_of_length_le (by omega)] at h
theorem szIntS_fun (l : List Int) (left : Int) (hl : l.length ≤ 9223372036854775807) (h0 : 0 ≤ left) (hh : left ≤ 1048576) : Fun Tryz.prog 42 [.t (T.ints l), .t (.int left)] (tupD [.t (.int (szN l.length left))]) := by
 refine Fun.begin tys Tryz.func42 Z Z (N := 12) [(0, .t (T.ints l)), (1, .t (.int left))] Z Z (fun w0 G F0 => ?_)
 refine sQ (rG (eZ Z (oN (tN (sQ (rG (eK 2 Z (evE ?_))))))))
 refine evI ?_
 refine eZ Z (oN (tN (sQ (sQ (rG (eK 2 Z (oN (tN ?_))))))))
 refine W_cond Z (fun h1 => ?_) (fun h1 => ?_)
 ·
  simp only [HS] at h1
  refine sQ (kY [1,4] Z (rG (eZ Z (oN (tN (rT (tR (eR ?_))))))))
  ·(simp only [szN]; simp_all <;> omega)
 simp only [HS] at h1
 refine W_skip (tN (sQ (kY [1,4] Z (rG (eK 2 Z (oN (tN (rT (eR ?_)))))))))
 ·(simp only [szN]; simp_all <;> omega)
theorem toIntS_fun (l : List Int) (hl : l.length ≤ 1048576) : Fun Tryz.prog 10 [.t (T.ints l)] (tupD [.own (T.ints l)]) := by
 refine Fun.begin tys Tryz.func10 Z Z (N := 22) [(0, .t (T.ints l))] Z Z (fun w0 G F0 => ?_)
 refine sQ (rG (eZ Z (oN (tN (sQ (rG (eZ Z (evE ?_))))))))
 refine WO_make tys (.v (.int .i64 0)) _ Z Z (lt_of Z) Z Z Z Z Z (by repeat (first | exact AbsL.nil' | refine AbsL.v' ?_ | refine AbsL.none' ?_)) Z (by omega) (by decide) ?_
 refine nZ Z (eZ Z (oN (tN (sQ (sQ (rG (eZ Z (oN (tN (W_block ?_))))))))))
 refine lK (α := Int × List T) [0, 3] [] (fun x => [(4, .t (.int (x.1)))]) (fun x => [(7, .L 1 (x.2))]) (fun x => 0 ≤ (x.1) ∧ (x.1) ≤ l.length ∧ (x.2).length = l.length ∧ (x.2).take (x.1).toNat = (l.take (x.1).toNat).map T.int) (fun x => Int.toNat (l.length - (x.1))) (0, List.replicate l.length (.v (.int .i64 0))) ?_ (fun x hx => ?_)
 ·exact ⟨by omega, by omega, by simp, by simp⟩
 obtain ⟨k, xs⟩ := x
 obtain ⟨hk0, hk1, hk2, hk3⟩ := hx
 dsimp only at hk0 hk1 hk2 hk3 ⊢
 refine nY Z (sQ (sQ (rG (eK 2 Z (evE ?_)))))
 refine eZ Z (oN (tN ?_))
 refine W_cond Z (fun h1 => ?_) (fun h1 => ?_)
 ·
  simp only [HS] at h1
  refine W_skip (tN (sQ (W_block (rG (eK 4 Z (WO_idxT tys Z Z (lt_of Z) Z Z Z Z Z Z Z (by omega) _ (getT _ _ (by omega) (by omega)) (kZ [0,3,4,8,9,10,11,14,15,16,17,18] Z (eZ Z (WO_idxS tys Z Z (lt_of Z) Z Z Z Z Z Z Z Z (by omega) (by omega) ?_)))))))))
  refine WO_storeE tys (.v (.int .i64 _)) Z Z Z Z Z Z (by first | exact Nat.zero_add _ | rfl) (by omega) Z (by repeat (first | exact AbsL.nil' | refine AbsL.v' ?_ | refine AbsL.own' ?_)) Z Z Z ?_
  refine nZ Z (oN (bN (tN (rG (eZ Z (evI ?_))))))
  refine eZ Z (oN ?_)
  refine lQ (_, _) ?_ ?_
  ·dsimp only
   exact ⟨by omega, by omega, by simpa using hk2, fill_step hk0 (by omega) hk2 hk3⟩
  ·(show Int.toNat _ < Int.toNat _); omega
 simp only [HS] at h1
 refine W_exit (tE (loopQ_e (inBlk_y (tN (sQ (rG (eK 2 Z (oN (tN (W_le (Le.gather (u := 2) (id := 7) Z Z (by omega)) (rT (eR ?_))))))))))))
 ·rw [List.take_of_length_le (by omega), fill_end (by omega) hk2 hk3]; rfl
def eqGo {α : Type} (f : α → α → Bool) : List α → List α → Bool
 | x :: xs, y :: ys => f x y && eqGo f xs ys
 | _, _ => true
def eqL {α : Type} (f : α → α → Bool) (a b : List α) : Bool := a.length == b.length && eqGo f a b
theorem eqGo_refl {α : Type} {f : α → α → Bool} (h : ∀ x, f x x = true) : ∀ l : List α, eqGo f l l = true
 | [] => rfl
 | x :: l => by rw [eqGo, h, eqGo_refl h l]; rfl
theorem eqL_refl {α : Type} {f : α → α → Bool} (h : ∀ x, f x x = true) (l : List α) : eqL f l l = true := by
 unfold eqL; rw [eqGo_refl h]; simp
def eqI (a b : Int) : Bool := decide (a = b)
theorem eqL_len {α : Type} {f : α → α → Bool} {a b : List α} (h : ¬ (a.length : Int) = b.length) : eqL f a b = false := by
 unfold eqL
 have : (a.length == b.length) = false := by simpa using fun e => h (by omega)
 rw [this]; rfl
theorem eqGo_at {α : Type} {f : α → α → Bool} {a b : List α} {k : Int} (h0 : 0 ≤ k) (h1 : k < a.length) (h : (a.length : Int) = b.length) :
  eqGo f (a.drop k.toNat) (b.drop k.toNat) = (f (a[k.toNat]'(by omega)) (b[k.toNat]'(by omega)) && eqGo f (a.drop (k + 1).toNat) (b.drop (k + 1).toNat)) := by
 rw [drop_at h0 (by omega), drop_at (l := b) h0 (by omega), eqGo]
theorem eqL_eq {α : Type} {f : α → α → Bool} {a b : List α} (h : (a.length : Int) = b.length) : eqL f a b = eqGo f a b := by
 unfold eqL
 have : (a.length == b.length) = true := by simp; omega
 rw [this]; rfl
theorem eqIntS_fun (a b : List Int) (ha : a.length ≤ 9223372036854775807) (hb : b.length ≤ 9223372036854775807) : Fun Tryz.prog 13 [.t (T.ints a), .t (T.ints b)] (tupD [.t (.bool (eqL eqI a b))]) := by
 refine Fun.begin tys Tryz.func13 Z Z (N := 26) [(0, .t (T.ints a)), (1, .t (T.ints b))] Z Z (fun w0 G F0 => ?_)
 refine sQ (rG (eZ Z (oN (tN (sQ (sQ (rG (eZ Z (evE ?_)))))))))
 refine eZ Z (evE ?_)
 refine eZ Z (oN (tN ?_))
 refine W_cond Z (fun h1 => ?_) (fun h1 => ?_)
 ·
  simp only [HS] at h1
  refine sQ (rG (eZ Z (oN (tN (rT (tR (eR ?_)))))))
  ·rw [eqL_len h1]
   done
 simp only [HS] at h1
 refine W_skip (tN (sQ (sQ (rG (eZ Z (oN (tN (W_block ?_))))))))
 refine lK (α := Int) [0, 1] [] (fun x => [(5, .t (.int x))]) (fun x => []) (fun x => 0 ≤ x ∧ x ≤ a.length ∧ eqGo eqI a b = eqGo eqI (a.drop x.toNat) (b.drop x.toNat)) (fun x => Int.toNat (a.length - x)) 0 ?_ (fun k hx => ?_)
 ·exact ⟨by omega, by omega, rfl⟩
 obtain ⟨hk0, hk1, hk2⟩ := hx
 refine nY Z (sQ (sQ (rG (eK 2 Z (evE ?_)))))
 refine eZ Z (oN (tN ?_))
 refine W_cond Z (fun h2 => ?_) (fun h2 => ?_)
 ·
  simp only [HS] at h2
  refine W_skip (tN (sQ (W_block (sQ (W_regionD mixed (by kernel_rfl) (evQ ?_))))))
  refine evQ ?_
  refine QL_norm Z (QL_idxT tys Z Z (lt_of Z) Z Z Z Z Z Z Z (by omega) _ (getT _ _ (by omega) (by omega)) (evQ ?_))
  refine evQ ?_
  refine evQ ?_
  refine QL_idxT tys Z Z (lt_of Z) Z Z Z Z Z Z Z (by omega) _ (getT _ _ (by omega) (by omega)) (evQ ?_)
  refine QL_norm Z (evQ ?_)
  refine QL_nil (tN ?_)
  refine W_cond Z (fun h3 => ?_) (fun h3 => ?_)
  ·
   simp only [HS] at h3
   refine sQ (rG (eZ Z (oN (tN (rT (bR (tR (loopQ_r (bR (tR (eR ?_)))))))))))
   ·rw [eqL_eq h1, hk2, eqGo_at hk0 h2 h1]
    simp [eqI, h3]
    done
  simp only [HS] at h3
  refine W_skip (bN (tN (rG (eZ Z (evI ?_)))))
  refine eZ Z (oN ?_)
  refine lQ _ ?_ ?_
  ·skip
   refine ⟨by omega, by omega, ?_⟩; rw [hk2, eqGo_at hk0 h2 h1]; simp [eqI, h3]
  ·(show Int.toNat _ < Int.toNat _); omega
 simp only [HS] at h2
 refine W_exit (tE (loopQ_e (inBlk_y (tN (sQ (rG (eZ Z (oN (tN (rT (eR ?_)))))))))))
 ·rw [eqL_eq h1, hk2, drop_end h2]
  rfl
def cnt (ll : List (List Int)) : Bool := decide ((ll.length : Int) ≤ 5) && ll.all fun l => decide ((l.length : Int) ≤ 300) && allIn l 0 1000000
def idxGo {α : Type} (p : α → Bool) : List α → Int → Int
 | [], _ => -1
 | x :: xs, k => if p x then k else idxGo p xs (k + 1)
theorem idxGo_any {α : Type} {p : α → Bool} : ∀ {l : List α} {k : Int}, 0 ≤ k → decide (0 ≤ idxGo p l k) = l.any p
 | [], _, _ => rfl
 | x :: l, k, h => by
  rw [idxGo, List.any_cons]
  cases hp : p x
  ·simpa using idxGo_any (l := l) (k := k + 1) (by omega)
  ·simpa using h
theorem idx_at {α : Type} {p : α → Bool} {l : List α} {k : Int} (h0 : 0 ≤ k) (h1 : k < l.length) : idxGo p (l.drop k.toNat) k = if p (l[k.toNat]'(by omega)) then k else idxGo p (l.drop (k + 1).toNat) (k + 1) := by
 rw [drop_at h0 h1, idxGo]
theorem idxS_fun (l : List Int) (p : Int → Bool) (f : Nat) (caps : List D) (hcaps : caps.all D.imm = true) (hl : l.length ≤ 9223372036854775807) (hf : ∀ x, x ∈ l → Fun Tryz.prog f (.t (T.int x) :: caps) (.t (.bool (p x)))) : Fun Tryz.prog 148 [.t (T.ints l), .clo f caps] (tupD [.t (.int (idxGo p l 0))]) := by
 refine Fun.begin tys Tryz.func148 Z Z (N := 19) [(0, .t (T.ints l)), (1, .clo f caps)] Z Z (fun w0 G F0 => ?_)
 refine sQ (rG (eZ Z (oN (tN (sQ (sQ (rG (eZ Z (evE ?_)))))))))
 refine eZ Z (oN (tN (W_block ?_)))
 refine lK (α := Int) [0, 1, 7] [] (fun x => [(8, .t (.int x))]) (fun x => []) (fun x => 0 ≤ x ∧ x ≤ l.length ∧ idxGo p l 0 = idxGo p (l.drop x.toNat) x) (fun x => Int.toNat (l.length - x)) 0 ?_ (fun k hx => ?_)
 ·exact ⟨by omega, by omega, rfl⟩
 obtain ⟨hk0, hk1, hk2⟩ := hx
 refine nY Z (sQ (rG (eZ Z (oN (tN (sQ ?_))))))
 refine W_cond Z (fun h1 => ?_) (fun h1 => ?_)
 ·
  simp only [HS] at h1
  refine W_skip (tN (sQ (W_block (sQ (rG (eK 2 Z (oN (tN (sQ (rG (WO_moveClo tys Z Z (lt_of Z) Z Z (by assumption) ?_)))))))))))
  refine eK 2 Z (WO_idxT tys Z Z (lt_of Z) Z Z Z Z Z Z Z (by omega) _ (getT _ _ (by omega) (by omega)) (eZ Z ?_))
  refine WO_call Z Z (lt_of Z) Z Z (by repeat (first | exact ResL.done | exact ResL.imms (by first | rfl | assumption) | refine ResL.t ?_ | refine ResL.own ?_ | refine ResL.slA Z (by first | rfl | (simp; done) | (simp; omega)) ?_ | refine ResL.sl Z (by first | omega | (simp; done) | (simp; omega)) ?_ | refine ResL.rp ?_ | refine ResL.clo ?_ ?_ | refine ResL.aggT ?_ ?_ | refine ResL.ref Z ?_ ?_ | refine ResL.nil' ?_ | refine ResL.nil 1 ?_)) (hf _ (List.getElem_mem _)) Z ?_
  refine kZ [0,1,5,7,8,9,10,11,12,13,14,15,16] Z (oN (tN ?_))
  refine W_cond Z (fun h2 => ?_) (fun h2 => ?_)
  ·
   refine sQ (rG (eK 2 Z (oN (tN (rT (bR (tR (loopQ_r (bR (tR (eR ?_)))))))))))
   ·rw [hk2, idx_at hk0 h1]
    simp [h2]
    done
  refine W_skip (bN (tN (rG (evI ?_))))
  refine eZ Z (oN ?_)
  refine lQ _ ?_ ?_
  ·skip
   refine ⟨by omega, by omega, ?_⟩; rw [hk2, idx_at hk0 h1]; simp [h2]
  ·(show Int.toNat _ < Int.toNat _); omega
 simp only [HS] at h1
 refine W_exit (tE (loopQ_e (inBlk_y (tN (sQ (rG (eZ Z (oN (tN (rT (eR ?_)))))))))))
 ·rw [hk2, drop_end h1]
  rfl
theorem hasS_fun (l : List Int) (p : Int → Bool) (f : Nat) (caps : List D) (hcaps : caps.all D.imm = true) (hl : l.length ≤ 9223372036854775807) (hf : ∀ x, x ∈ l → Fun Tryz.prog f (.t (T.int x) :: caps) (.t (.bool (p x)))) : Fun Tryz.prog 85 [.t (T.ints l), .clo f caps] (tupD [.t (.bool (l.any p))]) := by
 refine Fun.begin tys Tryz.func85 Z Z (N := 9) [(0, .t (T.ints l)), (1, .clo f caps)] Z Z (fun w0 G F0 => ?_)
 refine sQ (rG (eZ Z (oN (tN (sQ (rG (eZ Z (WO_moveClo tys Z Z (lt_of Z) Z Z (by assumption) ?_))))))))
 refine WO_call Z Z (lt_of Z) Z Z (by repeat (first | exact ResL.done | exact ResL.imms (by first | rfl | assumption) | refine ResL.t ?_ | refine ResL.own ?_ | refine ResL.slA Z (by first | rfl | (simp; done) | (simp; omega)) ?_ | refine ResL.sl Z (by first | omega | (simp; done) | (simp; omega)) ?_ | refine ResL.rp ?_ | refine ResL.clo ?_ ?_ | refine ResL.aggT ?_ ?_ | refine ResL.ref Z ?_ ?_ | refine ResL.nil' ?_ | refine ResL.nil 1 ?_)) (idxS_fun l p f caps hcaps hl hf) Z ?_
 refine eK 2 Z (oN (tN (rT (eR ?_))))
 ·rw [← idxGo_any (Int.le_refl 0)]
def hot1 (k : Int) : List Int → Int → Int × Int × Int → Int × Int × Int
 | [], _, s => s
 | n :: l, i, s => hot1 k l (i + 1) (if s.2.2 < n then (k, i, n) else s)
def hotGo : List (List Int) → Int → Int × Int × Int → Int × Int × Int
 | [], _, s => s
 | l :: ll, k, s => hotGo ll (k + 1) (hot1 k l 0 s)
def hot (ll : List (List Int)) : Int × Int × Int := if cnt ll then hotGo ll 0 (0, 0, 0) else (0, 0, 0)
open Go.ChangeShapes Go.WideShapes Go.ChangeAt Go.RowKit Go.Eng
theorem Tryz.own : ownKnob Tryz.prog.godebug = none := by kernel_rfl
theorem Tryz.laidOut : laidOutB Tryz.prog = true := by kernel_rfl
theorem rd_i {x : T} (h : Rd Tryz.prog 3 x) : ∃ n : Int, x = T.int n ∧ True := by
 obtain ⟨n, rfl, _⟩ := rd_int (k := .i64) (by kernel_rfl) h
 exact ⟨n, rfl, trivial⟩
theorem rd_ints {x : T} (h : Rd Tryz.prog 25 x) : ∃ l : List Int, x = T.ints l ∧ l.length ≤ 9223372036854775807 := by
 obtain ⟨l, rfl, h1, h2⟩ := rd_list (e := 3) (n := 1) (by kernel_rfl) (by kernel_rfl) (fun y hy => rd_i hy) h
 exact ⟨l, rfl, h1⟩
open Go.Eng
def okN {α : Type} (B : Nat) (l : List α) : Prop := l.length ≤ B
def okL {α : Type} (B : Nat) (ok : α → Prop) (l : List α) : Prop := l.length ≤ B ∧ ∀ x, x ∈ l → ok x
theorem take_at {α : Type} {l : List α} {k : Int} (h0 : 0 ≤ k) (h1 : k < l.length) : l.take (k + 1).toNat = l.take k.toNat ++ [l[k.toNat]'(by omega)] := by
 rw [show (k + 1).toNat = k.toNat + 1 from by omega, List.take_add_one, List.getElem?_eq_getElem (by omega)]
 rfl
theorem take_end {α : Type} {l : List α} {k : Int} (h1 : (l.length : Int) ≤ k) : l.take k.toNat = l := List.take_of_length_le (by omega)
def szSeq : List (Int → Int) → Int → Int
 | [], left => left
 | f :: fs, left => if f left < 0 then -1 else szSeq fs (f left)
def szLen {α : Type} (l : List α) (left : Int) : Int := szN l.length left
def szIntS (l : List Int) (left : Int) : Int := szN l.length left
def SzA (f : Int → Int) (p : Prop) : Prop := ∀ left : Int, 0 ≤ left → left ≤ 1048576 → f left ≤ left ∧ -1 ≤ f left ∧ (0 ≤ f left → p)
def SzG {α : Type} (f : α → Int → Int) (ok : α → Prop) : Prop := ∀ x, SzA (f x) (ok x)
theorem szN_g {α : Type} : SzG (fun (l : List α) => szN l.length) (okN 1048576) := by
 intro l left h0 hh
 unfold szN okN
 dsimp only
 split <;> refine ⟨by omega, by omega, fun h => by omega⟩
theorem szLen_g {α : Type} (l : List α) : SzA (szLen l) (okN 1048576 l) := szN_g l
theorem szIntS_g (l : List Int) : SzA (szIntS l) (okN 1048576 l) := szN_g l
theorem szGo_g {α : Type} {f : α → Int → Int} {ok : α → Prop} : ∀ {l : List α}, (∀ x, x ∈ l → SzA (f x) (ok x)) → SzA (szGo f l) (∀ x, x ∈ l → ok x)
 | [], _, left, h0, hh => ⟨by simp [szGo], by simp [szGo]; omega, fun _ x hx => by cases hx⟩
 | x :: l, h, left, h0, hh => by
  have h1 := h x (List.mem_cons_self ..) left h0 hh
  rw [szGo]
  split
  ·exact ⟨by omega, by omega, fun h => by omega⟩
  ·have h2 := szGo_g (fun y hy => h y (List.mem_cons_of_mem _ hy)) (f x left) (by omega) (by omega)
   refine ⟨by omega, by omega, fun h3 y hy => ?_⟩
   rcases List.mem_cons.1 hy with rfl | hy
   ·exact h1.2.2 (by omega)
   ·exact h2.2.2 h3 y hy
theorem szL_a {α : Type} {f : α → Int → Int} {ok : α → Prop} {l : List α} (h : ∀ x, x ∈ l → SzA (f x) (ok x)) : SzA (szL f l) (okL 1048576 ok l) := by
 intro left h0 hh
 unfold szL okL
 split
 ·exact ⟨by omega, by omega, fun h => by omega⟩
 ·have h2 := szGo_g h (left - l.length) (by omega) (by omega)
  exact ⟨by omega, by omega, fun h3 => ⟨by omega, h2.2.2 h3⟩⟩
theorem szL_g {α : Type} {f : α → Int → Int} {ok : α → Prop} (h : SzG f ok) : SzG (szL f) (okL 1048576 ok) := fun l => szL_a fun x _ => h x
theorem szSeq_nil : SzA (szSeq []) True := fun left h0 hh => ⟨by simp [szSeq], by simp [szSeq]; omega, fun _ => trivial⟩
theorem szSeq_step {f : Int → Int} {fs : List (Int → Int)} {p q : Prop} (h1 : SzA f p) (h2 : SzA (szSeq fs) q) : SzA (szSeq (f :: fs)) (p ∧ q) := by
 intro left h0 hh
 have g1 := h1 left h0 hh
 rw [szSeq]
 split
 ·exact ⟨by omega, by omega, fun h => by omega⟩
 ·have g2 := h2 (f left) (by omega) (by omega)
  exact ⟨by omega, by omega, fun h => ⟨g1.2.2 (by omega), g2.2.2 h⟩⟩
def eqB (a b : Bool) : Bool := a == b
theorem eqI_refl : ∀ x, eqI x x = true := fun x => by simp [eqI]
theorem szIntSo_fun (l : List Int) (left : Int) (hl : okN 9223372036854775807 l) (h0 : 0 ≤ left) (hh : left ≤ 1048576) : Fun Tryz.prog 42 [.t (T.ints l), .t (.int left)] (.t (.int (szIntS l left))) := szIntS_fun l left hl h0 hh
theorem toIntSo_fun (l : List Int) (hl : okN 1048576 l) : Fun Tryz.prog 10 [.t (T.ints l)] (.own (T.ints l)) := toIntS_fun l hl
theorem eqIntSo_fun (a b : List Int) (ha : okN 9223372036854775807 a) (hb : okN 9223372036854775807 b) : Fun Tryz.prog 13 [.t (T.ints a), .t (T.ints b)] (.t (.bool (eqL eqI a b))) := eqIntS_fun a b ha hb
open Go.Eng
structure Tok where
 op : Int
 n : Int
def Tok.tt (x : Tok) : T := .agg [T.int x.op, T.int x.n]
def eqTok (a b : Tok) : Bool := eqI a.op b.op && eqI a.n b.n && true
theorem eqTok_refl (a : Tok) : eqTok a a = true := by
 unfold eqTok; simp only [eqI_refl, Bool.and_self]
theorem toTok_fun (x : Tok) : Fun Tryz.prog 227 [.t (Tok.tt x)] (tupD [.agg [.t (T.int x.op), .t (T.int x.n)]]) := by
 refine Fun.begin tys Tryz.func227 Z Z (N := 11) [(0, .t (Tok.tt x))] Z Z (fun w0 G F0 => ?_)
 refine sQ (rG (WO_box Z Z (lt_of Z) Z Z (nZ Z (WO_alloc tys Z Z (lt_of Z) Z Z Z (nZ Z (oN (tN (sQ (rG (WO_alloc tys Z Z (lt_of Z) Z Z Z (nZ Z (oN (tN (sQ (rG ?_)))))))))))))))
 refine eK 3 Z (sT Z (nZ Z (oN (tN (sQ (kY [1,2,3] Z (rG (eK 3 Z (sT Z (nZ Z (oN (tN (sQ (rG (eZ Z ?_)))))))))))))))
 try refine WO_le (Le.freeze (u := 10) rfl) ?_
 refine nZ Z (sT Z (nZ Z (oN (tN (rT (eR ?_))))))
 ·rfl
theorem eqTok_fun (a b : Tok) : Fun Tryz.prog 231 [.t (Tok.tt a), .t (Tok.tt b)] (tupD [.t (.bool (eqTok a b))]) := by
 refine Fun.begin tys Tryz.func231 Z Z (N := 15) [(0, .t (Tok.tt a)), (1, .t (Tok.tt b))] Z Z (fun w0 G F0 => ?_)
 refine sQ (rG (WO_box Z Z (lt_of Z) Z Z (nZ Z (WO_box Z Z (lt_of Z) Z Z (nZ Z (eZ Z (oN (tN (sQ (sQ (rG (eK 5 Z (oN (tN ?_))))))))))))))
 refine W_cond Z (fun h1 => ?_) (fun h1 => ?_)
 ·
  simp only [HS] at h1
  refine sQ (kY [2,3,4] Z (rG (eZ Z (oN (tN (rT (tR (eR ?_))))))))
  ·simp_all [eqTok, eqI, eqB]
 simp only [HS] at h1
 refine W_skip (tN (sQ (sQ (kY [2,3,4] Z (rG (eK 5 Z (oN (tN ?_))))))))
 refine W_cond Z (fun h2 => ?_) (fun h2 => ?_)
 ·
  simp only [HS] at h2
  refine sQ (rG (eZ Z (oN (tN (rT (tR (eR ?_)))))))
  ·simp_all [eqTok, eqI, eqB]
 simp only [HS] at h2
 refine W_skip (tN (sQ (rG (eZ Z (oN (tN (rT (eR ?_))))))))
 ·simp_all [eqTok, eqI, eqB]
theorem szTokS_g (l : List Tok) : SzA (szLen l) (okN 1048576 l) := szLen_g l
abbrev T.Toks (l : List Tok) : T := .list 2 (l.map Tok.tt)
theorem szTokS_fun (l : List Tok) (left : Int) (hl : okN 9223372036854775807 l) (h0 : 0 ≤ left) (hh : left ≤ 1048576) : Fun Tryz.prog 204 [.t (T.Toks l), .t (.int left)] (tupD [.t (.int (szLen l left))]) := by
 unfold okN at hl
 refine Fun.begin tys Tryz.func204 Z Z (N := 12) [(0, .t (T.Toks l)), (1, .t (.int left))] Z Z (fun w0 G F0 => ?_)
 refine sQ (rG (eZ Z (oN (tN (sQ (rG (eK 2 Z (evE ?_))))))))
 refine evI ?_
 refine eZ Z (oN (tN (sQ (sQ (rG (eK 2 Z (oN (tN ?_))))))))
 refine W_cond Z (fun h1 => ?_) (fun h1 => ?_)
 ·
  simp only [HS] at h1
  refine sQ (kY [1,4] Z (rG (eZ Z (oN (tN (rT (tR (eR ?_))))))))
  ·(simp only [szLen, szN]; simp_all <;> omega)
 simp only [HS] at h1
 refine W_skip (tN (sQ (kY [1,4] Z (rG (eK 2 Z (oN (tN (rT (eR ?_)))))))))
 ·(simp only [szLen, szN]; simp_all <;> omega)
theorem toTokS_fun (l : List Tok) (hl : okN 1048576 l) : Fun Tryz.prog 207 [.t (T.Toks l)] (tupD [.own (T.Toks l)]) := by
 unfold okN at hl
 refine Fun.begin tys Tryz.func207 Z Z (N := 23) [(0, .t (T.Toks l))] Z Z (fun w0 G F0 => ?_)
 refine sQ (rG (eZ Z (oN (tN (sQ (rG (eZ Z (evE ?_))))))))
 refine WO_make tys (.agg [.v (.int .i64 0), .v (.int .i64 0)]) _ Z Z (lt_of Z) Z Z Z Z Z (by repeat (first | exact AbsL.nil' | refine AbsL.v' ?_ | refine AbsL.none' ?_)) Z (by omega) (by decide) ?_
 refine nZ Z (eZ Z (oN (tN (sQ (sQ (rG (eZ Z (oN (tN (W_block ?_))))))))))
 refine lK (α := Int × List T) [0, 3] [] (fun x => [(4, .t (.int (x.1)))]) (fun x => [(7, .L 2 (x.2))]) (fun x => 0 ≤ (x.1) ∧ (x.1) ≤ l.length ∧ (x.2).length = l.length ∧ (x.2).take (x.1).toNat = (l.take (x.1).toNat).map Tok.tt) (fun x => Int.toNat (l.length - (x.1))) (0, List.replicate l.length (.agg [.v (.int .i64 0), .v (.int .i64 0)])) ?_ (fun x hx => ?_)
 ·exact ⟨by omega, by omega, by simp, by simp⟩
 obtain ⟨k, xs⟩ := x
 obtain ⟨hk0, hk1, hk2, hk3⟩ := hx
 dsimp only at hk0 hk1 hk2 hk3 ⊢
 refine nY Z (sQ (sQ (rG (eK 2 Z (evE ?_)))))
 refine eZ Z (oN (tN ?_))
 refine W_cond Z (fun h1 => ?_) (fun h1 => ?_)
 ·
  simp only [HS] at h1
  refine W_skip (tN (sQ (W_block (rG (eK 4 Z (WO_idxT tys Z Z (lt_of Z) Z Z Z Z Z Z Z (by omega) _ (getT _ _ (by omega) (by omega)) (kZ [0,3,4,8,9,10,11,14,15,16,17,18] Z (eZ Z ?_))))))))
  try refine WO_le (Le.freeze (u := 19) rfl) ?_
  refine nZ Z (callB ?_)
  refine ⟨_, toTok_fun _, rfl, ?_⟩
  refine WO_idxS tys Z Z (lt_of Z) Z Z Z Z Z Z Z Z (by omega) (by omega) ?_
  refine WO_storeE tys (Tok.tt _) Z Z Z Z Z Z (by first | exact Nat.zero_add _ | rfl) (by omega) Z (by repeat (first | exact AbsL.nil' | refine AbsL.v' ?_ | refine AbsL.own' ?_)) Z Z Z ?_
  refine nZ Z (oN (bN (tN (rG (eZ Z (evI ?_))))))
  refine eZ Z (oN ?_)
  refine lQ (_, _) ?_ ?_
  ·dsimp only
   exact ⟨by omega, by omega, by simpa using hk2, fill_step hk0 (by omega) hk2 hk3⟩
  ·(show Int.toNat _ < Int.toNat _); omega
 simp only [HS] at h1
 refine W_exit (tE (loopQ_e (inBlk_y (tN (sQ (rG (eK 2 Z (oN (tN (W_le (Le.gather (u := 2) (id := 7) Z Z (by omega)) (rT (eR ?_))))))))))))
 ·rw [List.take_of_length_le (by omega), fill_end (by omega) hk2 hk3]
theorem eqTokS_fun (a b : List Tok) (ha : okN 9223372036854775807 a) (hb : okN 9223372036854775807 b) : Fun Tryz.prog 215 [.t (T.Toks a), .t (T.Toks b)] (tupD [.t (.bool (eqL eqTok a b))]) := by
 unfold okN at ha hb
 refine Fun.begin tys Tryz.func215 Z Z (N := 27) [(0, .t (T.Toks a)), (1, .t (T.Toks b))] Z Z (fun w0 G F0 => ?_)
 refine sQ (rG (eZ Z (oN (tN (sQ (sQ (rG (eZ Z (evE ?_)))))))))
 refine eZ Z (evE ?_)
 refine eZ Z (oN (tN ?_))
 refine W_cond Z (fun h1 => ?_) (fun h1 => ?_)
 ·
  simp only [HS] at h1
  refine sQ (rG (eZ Z (oN (tN (rT (tR (eR ?_)))))))
  ·rw [eqL_len h1]
   done
 simp only [HS] at h1
 refine W_skip (tN (sQ (sQ (rG (eZ Z (oN (tN (W_block ?_))))))))
 refine lK (α := Int) [0, 1] [] (fun x => [(5, .t (.int x))]) (fun x => []) (fun x => 0 ≤ x ∧ x ≤ a.length ∧ eqGo eqTok a b = eqGo eqTok (a.drop x.toNat) (b.drop x.toNat)) (fun x => Int.toNat (a.length - x)) 0 ?_ (fun k hx => ?_)
 ·exact ⟨by omega, by omega, rfl⟩
 obtain ⟨hk0, hk1, hk2⟩ := hx
 refine nY Z (sQ (sQ (rG (eK 2 Z (evE ?_)))))
 refine eZ Z (oN (tN ?_))
 refine W_cond Z (fun h2 => ?_) (fun h2 => ?_)
 ·
  simp only [HS] at h2
  refine W_skip (tN (sQ (W_block (sQ (W_regionD mixed (by kernel_rfl) (evQ ?_))))))
  refine evQ ?_
  refine QL_norm Z (QL_idxT tys Z Z (lt_of Z) Z Z Z Z Z Z Z (by omega) _ (getT _ _ (by omega) (by omega)) (evQ ?_))
  refine evQ ?_
  refine evQ ?_
  refine QL_idxT tys Z Z (lt_of Z) Z Z Z Z Z Z Z (by omega) _ (getT _ _ (by omega) (by omega)) (evQ ?_)
  refine QL_norm Z (callBQ ?_)
  refine ⟨_, eqTok_fun _ _, rfl, ?_⟩
  refine evQ ?_
  refine QL_nil (tN ?_)
  refine W_cond Z (fun h3 => ?_) (fun h3 => ?_)
  ·
   simp only [HS] at h3
   refine sQ (rG (eZ Z (oN (tN (rT (bR (tR (loopQ_r (bR (tR (eR ?_)))))))))))
   ·rw [eqL_eq h1, hk2, eqGo_at hk0 h2 h1]
    simp [h3]
    done
  simp only [HS] at h3
  refine W_skip (bN (tN (rG (eZ Z (evI ?_)))))
  refine eZ Z (oN ?_)
  refine lQ _ ?_ ?_
  ·skip
   refine ⟨by omega, by omega, ?_⟩; rw [hk2, eqGo_at hk0 h2 h1]; simp [h3]
  ·(show Int.toNat _ < Int.toNat _); omega
 simp only [HS] at h2
 refine W_exit (tE (loopQ_e (inBlk_y (tN (sQ (rG (eZ Z (oN (tN (rT (eR ?_)))))))))))
 ·rw [eqL_eq h1, hk2, drop_end h2]
  rfl
structure Stmt where
 kind : Int
 n : Int
 ex : List (Tok)
 thn : List Int
 els : List Int
def Stmt.tt (x : Stmt) : T := .agg [T.int x.kind, T.int x.n, T.Toks x.ex, T.ints x.thn, T.ints x.els]
def Stmt.ok (B : Nat) (x : Stmt) : Prop := okN B x.ex ∧ okN B x.thn ∧ okN B x.els ∧ True
def szStmt (x : Stmt) : Int → Int := szSeq [szLen x.ex, szIntS x.thn, szIntS x.els]
theorem szStmt_g : SzG szStmt (Stmt.ok 1048576) := fun x left h0 hh => by
 have := szSeq_step (szTokS_g x.ex) (szSeq_step (szIntS_g x.thn) (szSeq_step (szIntS_g x.els) (szSeq_nil)))
 exact this left h0 hh
def eqStmt (a b : Stmt) : Bool := eqI a.kind b.kind && eqI a.n b.n && (eqL eqTok) a.ex b.ex && (eqL eqI) a.thn b.thn && (eqL eqI) a.els b.els && true
theorem eqStmt_refl (a : Stmt) : eqStmt a a = true := by
 unfold eqStmt; simp only [eqI_refl, eqL_refl eqI_refl, eqL_refl eqTok_refl, Bool.and_self]
theorem szStmt_fun (x : Stmt) (left : Int) (hx : Stmt.ok 9223372036854775807 x) (h0 : 0 ≤ left) (hh : left ≤ 1048576) : Fun Tryz.prog 166 [.t (Stmt.tt x), .t (.int left)] (tupD [.t (.int (szStmt x left))]) := by
 refine Fun.begin tys Tryz.func166 Z Z (N := 24) [(0, .t (Stmt.tt x)), (1, .t (.int left))] Z Z (fun w0 G F0 => ?_)
 refine sQ (rG (WO_box Z Z (lt_of Z) Z Z (nZ Z (eZ Z (oN (tN (sQ (rG (eK 3 Z (callB ?_))))))))))
 refine ⟨_, szTokS_fun _ _ (hx.1) (by omega) (by  omega), rfl, ?_⟩
 refine eZ Z (oN (tN (sQ (sQ (kY [1,2,4] Z (rG (eK 2 Z (oN (tN ?_)))))))))
 refine W_cond Z (fun h1 => ?_) (fun h1 => ?_)
 ·
  simp only [HS] at h1
  refine sQ (rG (eZ Z (oN (tN (rT (tR (eR ?_)))))))
  ·(simp only [szStmt, szSeq]; repeat (first | rw [if_neg (by omega)] | rw [if_pos (by omega)]))
 simp only [HS] at h1
 refine W_skip (tN (sQ (rG (eK 3 Z (callB ?_)))))
 refine ⟨_, szIntSo_fun _ _ (hx.2.1) (by omega) (by have g0 := szTokS_g x.ex left (by omega) (by omega); omega), rfl, ?_⟩
 refine eZ Z (oN (tN (sQ (sQ (kY [1,2,4] Z (rG (eK 2 Z (oN (tN ?_)))))))))
 refine W_cond Z (fun h2 => ?_) (fun h2 => ?_)
 ·
  simp only [HS] at h2
  refine sQ (rG (eZ Z (oN (tN (rT (tR (eR ?_)))))))
  ·(simp only [szStmt, szSeq]; repeat (first | rw [if_neg (by omega)] | rw [if_pos (by omega)]))
 simp only [HS] at h2
 refine W_skip (tN (sQ (rG (eK 3 Z (callB ?_)))))
 refine ⟨_, szIntSo_fun _ _ (hx.2.2.1) (by omega) (by have g0 := szTokS_g x.ex left (by omega) (by omega); have g1 := szIntS_g x.thn (szLen x.ex left) (by omega) (by omega); omega), rfl, ?_⟩
 refine eZ Z (oN (tN (sQ (sQ (kY [1,4] Z (rG (eK 2 Z (oN (tN ?_)))))))))
 refine W_cond Z (fun h3 => ?_) (fun h3 => ?_)
 ·
  simp only [HS] at h3
  refine sQ (rG (eZ Z (oN (tN (rT (tR (eR ?_)))))))
  ·(simp only [szStmt, szSeq]; repeat (first | rw [if_neg (by omega)] | rw [if_pos (by omega)]))
 simp only [HS] at h3
 refine W_skip (tN (sQ (rG (eK 2 Z (oN (tN (rT (eR ?_))))))))
 ·(simp only [szStmt, szSeq]; repeat (first | rw [if_neg (by omega)] | rw [if_pos (by omega)]))
theorem toStmt_fun (x : Stmt) (hx : Stmt.ok 1048576 x) : Fun Tryz.prog 168 [.t (Stmt.tt x)] (tupD [.agg [.t (T.int x.kind), .t (T.int x.n), .own (T.Toks x.ex), .own (T.ints x.thn), .own (T.ints x.els)]]) := by
 refine Fun.begin tys Tryz.func168 Z Z (N := 23) [(0, .t (Stmt.tt x))] Z Z (fun w0 G F0 => ?_)
 refine sQ (rG (WO_box Z Z (lt_of Z) Z Z (nZ Z (WO_alloc tys Z Z (lt_of Z) Z Z Z (nZ Z (oN (tN (sQ (rG (WO_alloc tys Z Z (lt_of Z) Z Z Z (nZ Z (oN (tN (sQ (rG ?_)))))))))))))))
 refine eK 3 Z (sT Z (nZ Z (oN (tN (sQ (kY [1,2,3] Z (rG (eK 3 Z (sT Z (nZ Z (oN (tN (sQ (rG (eK 2 Z ?_)))))))))))))))
 refine callB ?_
 refine ⟨_, toTokS_fun _ (by first | exact hx.1), rfl, ?_⟩
 refine eZ Z (sT Z (nZ Z (kZ [1,2,3] Z (oN (tN (sQ (rG (eK 2 Z (callB ?_)))))))))
 refine ⟨_, toIntSo_fun _ (by first | exact hx.2.1 | exact hx.2.2.1), rfl, ?_⟩
 refine eZ Z (sT Z (nZ Z (oN (tN (sQ (rG (eK 2 Z (callB ?_))))))))
 refine ⟨_, toIntSo_fun _ (by first | exact hx.2.1 | exact hx.2.2.1), rfl, ?_⟩
 refine eZ Z (kZ [2,3,20,21] Z (sT Z (nZ Z (oN (tN (sQ (rG (WO_loadMove tys Z Z (lt_of Z) Z Z Z Z Z Z (nZ Z (sT Z (nZ Z (oN (tN (rT (eR ?_)))))))))))))))
 ·rfl
theorem eqStmt_fun (a b : Stmt) (ha : Stmt.ok 9223372036854775807 a) (hb : Stmt.ok 9223372036854775807 b) : Fun Tryz.prog 178 [.t (Stmt.tt a), .t (Stmt.tt b)] (tupD [.t (.bool (eqStmt a b))]) := by
 refine Fun.begin tys Tryz.func178 Z Z (N := 33) [(0, .t (Stmt.tt a)), (1, .t (Stmt.tt b))] Z Z (fun w0 G F0 => ?_)
 refine sQ (rG (WO_box Z Z (lt_of Z) Z Z (nZ Z (WO_box Z Z (lt_of Z) Z Z (nZ Z (eZ Z (oN (tN (sQ (sQ (rG (eK 5 Z (oN (tN ?_))))))))))))))
 refine W_cond Z (fun h1 => ?_) (fun h1 => ?_)
 ·
  simp only [HS] at h1
  refine sQ (kY [2,3,4] Z (rG (eZ Z (oN (tN (rT (tR (eR ?_))))))))
  ·simp_all [eqStmt, eqI, eqB]
 simp only [HS] at h1
 refine W_skip (tN (sQ (sQ (kY [2,3,4] Z (rG (eK 5 Z (oN (tN ?_))))))))
 refine W_cond Z (fun h2 => ?_) (fun h2 => ?_)
 ·
  simp only [HS] at h2
  refine sQ (rG (eZ Z (oN (tN (rT (tR (eR ?_)))))))
  ·simp_all [eqStmt, eqI, eqB]
 simp only [HS] at h2
 refine W_skip (tN (sQ (sQ (rG (eK 4 Z (kZ [2,3,4,16,18] Z (callB ?_)))))))
 refine ⟨_, eqTokS_fun _ _ (by first | exact ha.1) (by first | exact hb.1), rfl, ?_⟩
 refine eZ Z (oN (tN ?_))
 refine W_cond Z (fun h3 => ?_) (fun h3 => ?_)
 ·
  simp only [HS] at h3
  refine sQ (rG (eZ Z (oN (tN (rT (tR (eR ?_)))))))
  ·simp_all [eqStmt, eqI, eqB]
 simp only [HS] at h3
 refine W_skip (tN (sQ (sQ (rG (eK 4 Z (callB ?_))))))
 refine ⟨_, eqIntSo_fun _ _ (by first | exact ha.2.1 | exact ha.2.2.1) (by first | exact hb.2.1 | exact hb.2.2.1), rfl, ?_⟩
 refine eZ Z (oN (tN ?_))
 refine W_cond Z (fun h4 => ?_) (fun h4 => ?_)
 ·
  simp only [HS] at h4
  refine sQ (kY [2,3,4] Z (rG (eZ Z (oN (tN (rT (tR (eR ?_))))))))
  ·simp_all [eqStmt, eqI, eqB]
 simp only [HS] at h4
 refine W_skip (tN (sQ (sQ (kY [2,3,4] Z (rG (eK 4 Z (callB ?_)))))))
 refine ⟨_, eqIntSo_fun _ _ (by first | exact ha.2.1 | exact ha.2.2.1) (by first | exact hb.2.1 | exact hb.2.2.1), rfl, ?_⟩
 refine eZ Z (oN (tN ?_))
 refine W_cond Z (fun h5 => ?_) (fun h5 => ?_)
 ·
  simp only [HS] at h5
  refine sQ (rG (eZ Z (oN (tN (rT (tR (eR ?_)))))))
  ·simp_all [eqStmt, eqI, eqB]
 simp only [HS] at h5
 refine W_skip (tN (sQ (rG (eZ Z (oN (tN (rT (eR ?_))))))))
 ·simp_all [eqStmt, eqI, eqB]
abbrev T.Stmts (l : List (Stmt)) : T := .list 5 (l.map Stmt.tt)
theorem szStmtS_g : SzG (szL szStmt) (okL 1048576 (Stmt.ok 1048576)) := szL_g szStmt_g
theorem szStmtS_fun (l : List (Stmt)) (left : Int) (hl : okL 9223372036854775807 (Stmt.ok 9223372036854775807) l) (h0 : 0 ≤ left) (hh : left ≤ 1048576) : Fun Tryz.prog 118 [.t (T.Stmts l), .t (.int left)] (tupD [.t (.int (szL szStmt l left))]) := by
 have hl1 := hl.1
 refine Fun.begin tys Tryz.func118 Z Z (N := 27) [(0, .t (T.Stmts l)), (1, .t (.int left))] Z Z (fun w0 G F0 => ?_)
 refine sQ (rG (eZ Z (oN (tN (sQ (rG (eK 2 Z (evE ?_))))))))
 refine evI ?_
 refine eZ Z (oN (tN (sQ (sQ (rG (eK 2 Z (oN (tN ?_))))))))
 refine W_cond Z (fun h1 => ?_) (fun h1 => ?_)
 ·
  simp only [HS] at h1
  refine sQ (kY [0,1,4] Z (rG (eZ Z (oN (tN (rT (tR (eR ?_))))))))
  ·rw [szL, if_pos h1]
   done
 simp only [HS] at h1
 refine W_skip (tN (sQ (sQ (kY [0,1,4] Z (rG (eZ Z (oN (tN (W_block ?_)))))))))
 refine lK (α := Int × Int) [0] [] (fun x => [(5, .t (.int (x.1))), (1, .t (.int (x.2)))]) (fun x => []) (fun x => 0 ≤ (x.1) ∧ (x.1) ≤ l.length ∧ 0 ≤ (x.2) ∧ (x.2) ≤ 1048576 ∧ szGo szStmt l (left - l.length) = szGo szStmt (l.drop (x.1).toNat) (x.2)) (fun x => Int.toNat (l.length - (x.1))) (0, left - l.length) ?_ (fun x hx => ?_)
 ·exact ⟨by omega, by omega, by omega, by omega, by simp⟩
 obtain ⟨k, lf⟩ := x
 obtain ⟨hk0, hk1, hk2, hk3, hk4⟩ := hx
 dsimp only at hk0 hk1 hk2 hk3 hk4 ⊢
 refine nY Z (sQ (sQ (rG (eK 2 Z (evE ?_)))))
 refine eZ Z (oN (tN ?_))
 refine W_cond Z (fun h2 => ?_) (fun h2 => ?_)
 ·
  simp only [HS] at h2
  refine W_skip (tN (sQ (W_block (sQ (rG (eK 2 Z (WO_idxT tys Z Z (lt_of Z) Z Z Z Z Z Z Z (by omega) _ (getT _ _ (by omega) (by omega)) (eZ Z ?_))))))))
  try refine WO_le (Le.freeze (u := 21) rfl) ?_
  refine nZ Z (eZ Z (kZ [0,1,5,12,13,14,15,18,19,20,21,22] Z (callB ?_)))
  refine ⟨_, szStmt_fun _ _ (hl.2 _ (List.getElem_mem _)) (by omega) (by omega), rfl, ?_⟩
  refine eZ Z (oN (tN (sQ (rG (eK 2 Z (oN (tN ?_)))))))
  refine W_cond Z (fun h3 => ?_) (fun h3 => ?_)
  ·
   simp only [HS] at h3
   refine sQ (rG (eZ Z (oN (tN (rT (bR (tR (loopQ_r (bR (tR (eR ?_)))))))))))
   ·(rw [szL, if_neg (by omega), hk4, drop_at hk0 (by omega), szGo, if_pos h3]; done)
  simp only [HS] at h3
  refine W_skip (bN (tN (rG (eZ Z (evI ?_)))))
  refine eZ Z (oN ?_)
  refine lQ (_, _) ?_ ?_
  ·dsimp only
   (have hb := szStmt_g (l[k.toNat]'(by omega)) lf hk2 hk3; refine ⟨by omega, by omega, by omega, by omega, ?_⟩; rw [hk4, drop_at hk0 (by omega), szGo, if_neg (by omega)])
  ·(show Int.toNat _ < Int.toNat _); omega
 simp only [HS] at h2
 refine W_exit (tE (loopQ_e (inBlk_y (tN (sQ (rG (eK 2 Z (oN (tN (rT (eR ?_)))))))))))
 ·(rw [szL, if_neg (by omega), hk4, drop_end (by omega), szGo]; done)
theorem toStmtS_fun (l : List (Stmt)) (hl : okL 1048576 (Stmt.ok 1048576) l) : Fun Tryz.prog 124 [.t (T.Stmts l)] (tupD [.own (T.Stmts l)]) := by
 have hl1 := hl.1
 refine Fun.begin tys Tryz.func124 Z Z (N := 23) [(0, .t (T.Stmts l))] Z Z (fun w0 G F0 => ?_)
 refine sQ (rG (eZ Z (oN (tN (sQ (rG (eZ Z (evE ?_))))))))
 refine WO_make tys (.agg [.v (.int .i64 0), .v (.int .i64 0), .list 2 [], .list 1 [], .list 1 []]) _ Z Z (lt_of Z) Z Z Z Z Z (by repeat (first | exact AbsL.nil' | refine AbsL.v' ?_ | refine AbsL.none' ?_)) Z (by omega) (by decide) ?_
 refine nZ Z (eZ Z (oN (tN (sQ (sQ (rG (eZ Z (oN (tN (W_block ?_))))))))))
 refine lK (α := Int × List T) [0, 3] [] (fun x => [(4, .t (.int (x.1)))]) (fun x => [(7, .L 5 (x.2))]) (fun x => 0 ≤ (x.1) ∧ (x.1) ≤ l.length ∧ (x.2).length = l.length ∧ (x.2).take (x.1).toNat = (l.take (x.1).toNat).map Stmt.tt) (fun x => Int.toNat (l.length - (x.1))) (0, List.replicate l.length (.agg [.v (.int .i64 0), .v (.int .i64 0), .list 2 [], .list 1 [], .list 1 []])) ?_ (fun x hx => ?_)
 ·exact ⟨by omega, by omega, by simp, by simp⟩
 obtain ⟨k, xs⟩ := x
 obtain ⟨hk0, hk1, hk2, hk3⟩ := hx
 dsimp only at hk0 hk1 hk2 hk3 ⊢
 refine nY Z (sQ (sQ (rG (eK 2 Z (evE ?_)))))
 refine eZ Z (oN (tN ?_))
 refine W_cond Z (fun h1 => ?_) (fun h1 => ?_)
 ·
  simp only [HS] at h1
  refine W_skip (tN (sQ (W_block (rG (eK 4 Z (WO_idxT tys Z Z (lt_of Z) Z Z Z Z Z Z Z (by omega) _ (getT _ _ (by omega) (by omega)) (kZ [0,3,4,8,9,10,11,14,15,16,17,18] Z (eZ Z ?_))))))))
  try refine WO_le (Le.freeze (u := 19) rfl) ?_
  refine nZ Z (callB ?_)
  refine ⟨_, toStmt_fun _ (hl.2 _ (List.getElem_mem _)), rfl, ?_⟩
  refine WO_idxS tys Z Z (lt_of Z) Z Z Z Z Z Z Z Z (by omega) (by omega) ?_
  refine WO_storeE tys (Stmt.tt _) Z Z Z Z Z Z (by first | exact Nat.zero_add _ | rfl) (by omega) Z (by repeat (first | exact AbsL.nil' | refine AbsL.v' ?_ | refine AbsL.own' ?_)) Z Z Z ?_
  refine nZ Z (oN (bN (tN (rG (eZ Z (evI ?_))))))
  refine eZ Z (oN ?_)
  refine lQ (_, _) ?_ ?_
  ·dsimp only
   exact ⟨by omega, by omega, by simpa using hk2, by exact fill_step hk0 (by omega) hk2 hk3⟩
  ·(show Int.toNat _ < Int.toNat _); omega
 simp only [HS] at h1
 refine W_exit (tE (loopQ_e (inBlk_y (tN (sQ (rG (eK 2 Z (oN (tN (W_le (Le.gather (u := 2) (id := 7) Z Z (by omega)) (rT (eR ?_))))))))))))
 ·rw [List.take_of_length_le (by omega), fill_end (by omega) hk2 hk3]
theorem eqStmtS_fun (a b : List (Stmt)) (ha : okL 9223372036854775807 (Stmt.ok 9223372036854775807) a) (hb : okL 9223372036854775807 (Stmt.ok 9223372036854775807) b) : Fun Tryz.prog 131 [.t (T.Stmts a), .t (T.Stmts b)] (tupD [.t (.bool (eqL eqStmt a b))]) := by
 have ha1 := ha.1
 have hb1 := hb.1
 refine Fun.begin tys Tryz.func131 Z Z (N := 27) [(0, .t (T.Stmts a)), (1, .t (T.Stmts b))] Z Z (fun w0 G F0 => ?_)
 refine sQ (rG (eZ Z (oN (tN (sQ (sQ (rG (eZ Z (evE ?_)))))))))
 refine eZ Z (evE ?_)
 refine eZ Z (oN (tN ?_))
 refine W_cond Z (fun h1 => ?_) (fun h1 => ?_)
 ·
  simp only [HS] at h1
  refine sQ (rG (eZ Z (oN (tN (rT (tR (eR ?_)))))))
  ·rw [eqL_len h1]
   done
 simp only [HS] at h1
 refine W_skip (tN (sQ (sQ (rG (eZ Z (oN (tN (W_block ?_))))))))
 refine lK (α := Int) [0, 1] [] (fun x => [(5, .t (.int x))]) (fun x => []) (fun x => 0 ≤ x ∧ x ≤ a.length ∧ eqGo eqStmt a b = eqGo eqStmt (a.drop x.toNat) (b.drop x.toNat)) (fun x => Int.toNat (a.length - x)) 0 ?_ (fun k hx => ?_)
 ·exact ⟨by omega, by omega, rfl⟩
 obtain ⟨hk0, hk1, hk2⟩ := hx
 refine nY Z (sQ (sQ (rG (eK 2 Z (evE ?_)))))
 refine eZ Z (oN (tN ?_))
 refine W_cond Z (fun h2 => ?_) (fun h2 => ?_)
 ·
  simp only [HS] at h2
  refine W_skip (tN (sQ (W_block (sQ (W_regionD mixed (by kernel_rfl) (evQ ?_))))))
  refine evQ ?_
  refine QL_norm Z (QL_idxT tys Z Z (lt_of Z) Z Z Z Z Z Z Z (by omega) _ (getT _ _ (by omega) (by omega)) (evQ ?_))
  refine evQ ?_
  refine evQ ?_
  refine QL_idxT tys Z Z (lt_of Z) Z Z Z Z Z Z Z (by omega) _ (getT _ _ (by omega) (by omega)) (evQ ?_)
  refine QL_norm Z (callBQ ?_)
  refine ⟨_, eqStmt_fun _ _ (ha.2 _ (List.getElem_mem _)) (hb.2 _ (List.getElem_mem _)), rfl, ?_⟩
  refine evQ ?_
  refine QL_nil (tN ?_)
  refine W_cond Z (fun h3 => ?_) (fun h3 => ?_)
  ·
   simp only [HS] at h3
   refine sQ (rG (eZ Z (oN (tN (rT (bR (tR (loopQ_r (bR (tR (eR ?_)))))))))))
   ·rw [eqL_eq h1, hk2, eqGo_at hk0 h2 h1]
    simp [h3]
    done
  simp only [HS] at h3
  refine W_skip (bN (tN (rG (eZ Z (evI ?_)))))
  refine eZ Z (oN ?_)
  refine lQ _ ?_ ?_
  ·skip
   refine ⟨by omega, by omega, ?_⟩; rw [hk2, eqGo_at hk0 h2 h1]; simp [h3]
  ·(show Int.toNat _ < Int.toNat _); omega
 simp only [HS] at h2
 refine W_exit (tE (loopQ_e (inBlk_y (tN (sQ (rG (eZ Z (oN (tN (rT (eR ?_)))))))))))
 ·rw [eqL_eq h1, hk2, drop_end h2]
  rfl
structure Func where
 params : Int
 vars : Int
 body : List Int
 stmts : List (Stmt)
def Func.tt (x : Func) : T := .agg [T.int x.params, T.int x.vars, T.ints x.body, T.Stmts x.stmts]
def Func.ok (B : Nat) (x : Func) : Prop := okN B x.body ∧ okL B (Stmt.ok B) x.stmts ∧ True
def szFunc (x : Func) : Int → Int := szSeq [szIntS x.body, (szL szStmt) x.stmts]
theorem szFunc_g : SzG szFunc (Func.ok 1048576) := fun x left h0 hh => by
 have := szSeq_step (szIntS_g x.body) (szSeq_step (szStmtS_g x.stmts) (szSeq_nil))
 exact this left h0 hh
def eqFunc (a b : Func) : Bool := eqI a.params b.params && eqI a.vars b.vars && (eqL eqI) a.body b.body && (eqL eqStmt) a.stmts b.stmts && true
theorem eqFunc_refl (a : Func) : eqFunc a a = true := by
 unfold eqFunc; simp only [eqI_refl, eqL_refl eqI_refl, eqL_refl eqStmt_refl, Bool.and_self]
theorem szFunc_fun (x : Func) (left : Int) (hx : Func.ok 9223372036854775807 x) (h0 : 0 ≤ left) (hh : left ≤ 1048576) : Fun Tryz.prog 64 [.t (Func.tt x), .t (.int left)] (tupD [.t (.int (szFunc x left))]) := by
 refine Fun.begin tys Tryz.func64 Z Z (N := 18) [(0, .t (Func.tt x)), (1, .t (.int left))] Z Z (fun w0 G F0 => ?_)
 refine sQ (rG (WO_box Z Z (lt_of Z) Z Z (nZ Z (eZ Z (oN (tN (sQ (rG (eK 3 Z (callB ?_))))))))))
 refine ⟨_, szIntSo_fun _ _ (hx.1) (by omega) (by  omega), rfl, ?_⟩
 refine eZ Z (oN (tN (sQ (sQ (kY [1,2,4] Z (rG (eK 2 Z (oN (tN ?_)))))))))
 refine W_cond Z (fun h1 => ?_) (fun h1 => ?_)
 ·
  simp only [HS] at h1
  refine sQ (rG (eZ Z (oN (tN (rT (tR (eR ?_)))))))
  ·(simp only [szFunc, szSeq]; repeat (first | rw [if_neg (by omega)] | rw [if_pos (by omega)]))
 simp only [HS] at h1
 refine W_skip (tN (sQ (rG (eK 3 Z (callB ?_)))))
 refine ⟨_, szStmtS_fun _ _ (hx.2.1) (by omega) (by have g0 := szIntS_g x.body left (by omega) (by omega); omega), rfl, ?_⟩
 refine eZ Z (oN (tN (sQ (sQ (kY [1,4] Z (rG (eK 2 Z (oN (tN ?_)))))))))
 refine W_cond Z (fun h2 => ?_) (fun h2 => ?_)
 ·
  simp only [HS] at h2
  refine sQ (rG (eZ Z (oN (tN (rT (tR (eR ?_)))))))
  ·(simp only [szFunc, szSeq]; repeat (first | rw [if_neg (by omega)] | rw [if_pos (by omega)]))
 simp only [HS] at h2
 refine W_skip (tN (sQ (rG (eK 2 Z (oN (tN (rT (eR ?_))))))))
 ·(simp only [szFunc, szSeq]; repeat (first | rw [if_neg (by omega)] | rw [if_pos (by omega)]))
theorem toFunc_fun (x : Func) (hx : Func.ok 1048576 x) : Fun Tryz.prog 69 [.t (Func.tt x)] (tupD [.agg [.t (T.int x.params), .t (T.int x.vars), .own (T.ints x.body), .own (T.Stmts x.stmts)]]) := by
 refine Fun.begin tys Tryz.func69 Z Z (N := 19) [(0, .t (Func.tt x))] Z Z (fun w0 G F0 => ?_)
 refine sQ (rG (WO_box Z Z (lt_of Z) Z Z (nZ Z (WO_alloc tys Z Z (lt_of Z) Z Z Z (nZ Z (oN (tN (sQ (rG (WO_alloc tys Z Z (lt_of Z) Z Z Z (nZ Z (oN (tN (sQ (rG ?_)))))))))))))))
 refine eK 3 Z (sT Z (nZ Z (oN (tN (sQ (kY [1,2,3] Z (rG (eK 3 Z (sT Z (nZ Z (oN (tN (sQ (rG (eK 2 Z ?_)))))))))))))))
 refine callB ?_
 refine ⟨_, toIntSo_fun _ (by first | exact hx.1), rfl, ?_⟩
 refine eZ Z (sT Z (nZ Z (kZ [1,2,3] Z (oN (tN (sQ (rG (eK 2 Z (callB ?_)))))))))
 refine ⟨_, toStmtS_fun _ (by first | exact hx.2.1), rfl, ?_⟩
 refine eZ Z (sT Z (nZ Z (oN (tN (sQ (rG (WO_loadMove tys Z Z (lt_of Z) Z Z Z Z Z Z (nZ Z (sT Z (nZ Z (oN (tN (rT (eR ?_))))))))))))))
 ·rfl
theorem eqFunc_fun (a b : Func) (ha : Func.ok 9223372036854775807 a) (hb : Func.ok 9223372036854775807 b) : Fun Tryz.prog 74 [.t (Func.tt a), .t (Func.tt b)] (tupD [.t (.bool (eqFunc a b))]) := by
 refine Fun.begin tys Tryz.func74 Z Z (N := 27) [(0, .t (Func.tt a)), (1, .t (Func.tt b))] Z Z (fun w0 G F0 => ?_)
 refine sQ (rG (WO_box Z Z (lt_of Z) Z Z (nZ Z (WO_box Z Z (lt_of Z) Z Z (nZ Z (eZ Z (oN (tN (sQ (sQ (rG (eK 5 Z (oN (tN ?_))))))))))))))
 refine W_cond Z (fun h1 => ?_) (fun h1 => ?_)
 ·
  simp only [HS] at h1
  refine sQ (kY [2,3,4] Z (rG (eZ Z (oN (tN (rT (tR (eR ?_))))))))
  ·simp_all [eqFunc, eqI, eqB]
 simp only [HS] at h1
 refine W_skip (tN (sQ (sQ (kY [2,3,4] Z (rG (eK 5 Z (oN (tN ?_))))))))
 refine W_cond Z (fun h2 => ?_) (fun h2 => ?_)
 ·
  simp only [HS] at h2
  refine sQ (rG (eZ Z (oN (tN (rT (tR (eR ?_)))))))
  ·simp_all [eqFunc, eqI, eqB]
 simp only [HS] at h2
 refine W_skip (tN (sQ (sQ (rG (eK 4 Z (kZ [2,3,4,16,18] Z (callB ?_)))))))
 refine ⟨_, eqIntSo_fun _ _ (by first | exact ha.1) (by first | exact hb.1), rfl, ?_⟩
 refine eZ Z (oN (tN ?_))
 refine W_cond Z (fun h3 => ?_) (fun h3 => ?_)
 ·
  simp only [HS] at h3
  refine sQ (rG (eZ Z (oN (tN (rT (tR (eR ?_)))))))
  ·simp_all [eqFunc, eqI, eqB]
 simp only [HS] at h3
 refine W_skip (tN (sQ (sQ (rG (eK 4 Z (callB ?_))))))
 refine ⟨_, eqStmtS_fun _ _ (by first | exact ha.2.1) (by first | exact hb.2.1), rfl, ?_⟩
 refine eZ Z (oN (tN ?_))
 refine W_cond Z (fun h4 => ?_) (fun h4 => ?_)
 ·
  simp only [HS] at h4
  refine sQ (kY [4] Z (rG (eZ Z (oN (tN (rT (tR (eR ?_))))))))
  ·simp_all [eqFunc, eqI, eqB]
 simp only [HS] at h4
 refine W_skip (tN (sQ (kY [4] Z (rG (eZ Z (oN (tN (rT (eR ?_)))))))))
 ·simp_all [eqFunc, eqI, eqB]
abbrev T.Funcs (l : List (Func)) : T := .list 4 (l.map Func.tt)
theorem szFuncS_g : SzG (szL szFunc) (okL 1048576 (Func.ok 1048576)) := szL_g szFunc_g
theorem szFuncS_fun (l : List (Func)) (left : Int) (hl : okL 9223372036854775807 (Func.ok 9223372036854775807) l) (h0 : 0 ≤ left) (hh : left ≤ 1048576) : Fun Tryz.prog 33 [.t (T.Funcs l), .t (.int left)] (tupD [.t (.int (szL szFunc l left))]) := by
 have hl1 := hl.1
 refine Fun.begin tys Tryz.func33 Z Z (N := 27) [(0, .t (T.Funcs l)), (1, .t (.int left))] Z Z (fun w0 G F0 => ?_)
 refine sQ (rG (eZ Z (oN (tN (sQ (rG (eK 2 Z (evE ?_))))))))
 refine evI ?_
 refine eZ Z (oN (tN (sQ (sQ (rG (eK 2 Z (oN (tN ?_))))))))
 refine W_cond Z (fun h1 => ?_) (fun h1 => ?_)
 ·
  simp only [HS] at h1
  refine sQ (kY [0,1,4] Z (rG (eZ Z (oN (tN (rT (tR (eR ?_))))))))
  ·rw [szL, if_pos h1]
   done
 simp only [HS] at h1
 refine W_skip (tN (sQ (sQ (kY [0,1,4] Z (rG (eZ Z (oN (tN (W_block ?_)))))))))
 refine lK (α := Int × Int) [0] [] (fun x => [(5, .t (.int (x.1))), (1, .t (.int (x.2)))]) (fun x => []) (fun x => 0 ≤ (x.1) ∧ (x.1) ≤ l.length ∧ 0 ≤ (x.2) ∧ (x.2) ≤ 1048576 ∧ szGo szFunc l (left - l.length) = szGo szFunc (l.drop (x.1).toNat) (x.2)) (fun x => Int.toNat (l.length - (x.1))) (0, left - l.length) ?_ (fun x hx => ?_)
 ·exact ⟨by omega, by omega, by omega, by omega, by simp⟩
 obtain ⟨k, lf⟩ := x
 obtain ⟨hk0, hk1, hk2, hk3, hk4⟩ := hx
 dsimp only at hk0 hk1 hk2 hk3 hk4 ⊢
 refine nY Z (sQ (sQ (rG (eK 2 Z (evE ?_)))))
 refine eZ Z (oN (tN ?_))
 refine W_cond Z (fun h2 => ?_) (fun h2 => ?_)
 ·
  simp only [HS] at h2
  refine W_skip (tN (sQ (W_block (sQ (rG (eK 2 Z (WO_idxT tys Z Z (lt_of Z) Z Z Z Z Z Z Z (by omega) _ (getT _ _ (by omega) (by omega)) (eZ Z ?_))))))))
  try refine WO_le (Le.freeze (u := 21) rfl) ?_
  refine nZ Z (eZ Z (kZ [0,1,5,12,13,14,15,18,19,20,21,22] Z (callB ?_)))
  refine ⟨_, szFunc_fun _ _ (hl.2 _ (List.getElem_mem _)) (by omega) (by omega), rfl, ?_⟩
  refine eZ Z (oN (tN (sQ (rG (eK 2 Z (oN (tN ?_)))))))
  refine W_cond Z (fun h3 => ?_) (fun h3 => ?_)
  ·
   simp only [HS] at h3
   refine sQ (rG (eZ Z (oN (tN (rT (bR (tR (loopQ_r (bR (tR (eR ?_)))))))))))
   ·(rw [szL, if_neg (by omega), hk4, drop_at hk0 (by omega), szGo, if_pos h3]; done)
  simp only [HS] at h3
  refine W_skip (bN (tN (rG (eZ Z (evI ?_)))))
  refine eZ Z (oN ?_)
  refine lQ (_, _) ?_ ?_
  ·dsimp only
   (have hb := szFunc_g (l[k.toNat]'(by omega)) lf hk2 hk3; refine ⟨by omega, by omega, by omega, by omega, ?_⟩; rw [hk4, drop_at hk0 (by omega), szGo, if_neg (by omega)])
  ·(show Int.toNat _ < Int.toNat _); omega
 simp only [HS] at h2
 refine W_exit (tE (loopQ_e (inBlk_y (tN (sQ (rG (eK 2 Z (oN (tN (rT (eR ?_)))))))))))
 ·(rw [szL, if_neg (by omega), hk4, drop_end (by omega), szGo]; done)
theorem toFuncS_fun (l : List (Func)) (hl : okL 1048576 (Func.ok 1048576) l) : Fun Tryz.prog 36 [.t (T.Funcs l)] (tupD [.own (T.Funcs l)]) := by
 have hl1 := hl.1
 refine Fun.begin tys Tryz.func36 Z Z (N := 23) [(0, .t (T.Funcs l))] Z Z (fun w0 G F0 => ?_)
 refine sQ (rG (eZ Z (oN (tN (sQ (rG (eZ Z (evE ?_))))))))
 refine WO_make tys (.agg [.v (.int .i64 0), .v (.int .i64 0), .list 1 [], .list 5 []]) _ Z Z (lt_of Z) Z Z Z Z Z (by repeat (first | exact AbsL.nil' | refine AbsL.v' ?_ | refine AbsL.none' ?_)) Z (by omega) (by decide) ?_
 refine nZ Z (eZ Z (oN (tN (sQ (sQ (rG (eZ Z (oN (tN (W_block ?_))))))))))
 refine lK (α := Int × List T) [0, 3] [] (fun x => [(4, .t (.int (x.1)))]) (fun x => [(7, .L 4 (x.2))]) (fun x => 0 ≤ (x.1) ∧ (x.1) ≤ l.length ∧ (x.2).length = l.length ∧ (x.2).take (x.1).toNat = (l.take (x.1).toNat).map Func.tt) (fun x => Int.toNat (l.length - (x.1))) (0, List.replicate l.length (.agg [.v (.int .i64 0), .v (.int .i64 0), .list 1 [], .list 5 []])) ?_ (fun x hx => ?_)
 ·exact ⟨by omega, by omega, by simp, by simp⟩
 obtain ⟨k, xs⟩ := x
 obtain ⟨hk0, hk1, hk2, hk3⟩ := hx
 dsimp only at hk0 hk1 hk2 hk3 ⊢
 refine nY Z (sQ (sQ (rG (eK 2 Z (evE ?_)))))
 refine eZ Z (oN (tN ?_))
 refine W_cond Z (fun h1 => ?_) (fun h1 => ?_)
 ·
  simp only [HS] at h1
  refine W_skip (tN (sQ (W_block (rG (eK 4 Z (WO_idxT tys Z Z (lt_of Z) Z Z Z Z Z Z Z (by omega) _ (getT _ _ (by omega) (by omega)) (kZ [0,3,4,8,9,10,11,14,15,16,17,18] Z (eZ Z ?_))))))))
  try refine WO_le (Le.freeze (u := 19) rfl) ?_
  refine nZ Z (callB ?_)
  refine ⟨_, toFunc_fun _ (hl.2 _ (List.getElem_mem _)), rfl, ?_⟩
  refine WO_idxS tys Z Z (lt_of Z) Z Z Z Z Z Z Z Z (by omega) (by omega) ?_
  refine WO_storeE tys (Func.tt _) Z Z Z Z Z Z (by first | exact Nat.zero_add _ | rfl) (by omega) Z (by repeat (first | exact AbsL.nil' | refine AbsL.v' ?_ | refine AbsL.own' ?_)) Z Z Z ?_
  refine nZ Z (oN (bN (tN (rG (eZ Z (evI ?_))))))
  refine eZ Z (oN ?_)
  refine lQ (_, _) ?_ ?_
  ·dsimp only
   exact ⟨by omega, by omega, by simpa using hk2, by exact fill_step hk0 (by omega) hk2 hk3⟩
  ·(show Int.toNat _ < Int.toNat _); omega
 simp only [HS] at h1
 refine W_exit (tE (loopQ_e (inBlk_y (tN (sQ (rG (eK 2 Z (oN (tN (W_le (Le.gather (u := 2) (id := 7) Z Z (by omega)) (rT (eR ?_))))))))))))
 ·rw [List.take_of_length_le (by omega), fill_end (by omega) hk2 hk3]
theorem eqFuncS_fun (a b : List (Func)) (ha : okL 9223372036854775807 (Func.ok 9223372036854775807) a) (hb : okL 9223372036854775807 (Func.ok 9223372036854775807) b) : Fun Tryz.prog 40 [.t (T.Funcs a), .t (T.Funcs b)] (tupD [.t (.bool (eqL eqFunc a b))]) := by
 have ha1 := ha.1
 have hb1 := hb.1
 refine Fun.begin tys Tryz.func40 Z Z (N := 27) [(0, .t (T.Funcs a)), (1, .t (T.Funcs b))] Z Z (fun w0 G F0 => ?_)
 refine sQ (rG (eZ Z (oN (tN (sQ (sQ (rG (eZ Z (evE ?_)))))))))
 refine eZ Z (evE ?_)
 refine eZ Z (oN (tN ?_))
 refine W_cond Z (fun h1 => ?_) (fun h1 => ?_)
 ·
  simp only [HS] at h1
  refine sQ (rG (eZ Z (oN (tN (rT (tR (eR ?_)))))))
  ·rw [eqL_len h1]
   done
 simp only [HS] at h1
 refine W_skip (tN (sQ (sQ (rG (eZ Z (oN (tN (W_block ?_))))))))
 refine lK (α := Int) [0, 1] [] (fun x => [(5, .t (.int x))]) (fun x => []) (fun x => 0 ≤ x ∧ x ≤ a.length ∧ eqGo eqFunc a b = eqGo eqFunc (a.drop x.toNat) (b.drop x.toNat)) (fun x => Int.toNat (a.length - x)) 0 ?_ (fun k hx => ?_)
 ·exact ⟨by omega, by omega, rfl⟩
 obtain ⟨hk0, hk1, hk2⟩ := hx
 refine nY Z (sQ (sQ (rG (eK 2 Z (evE ?_)))))
 refine eZ Z (oN (tN ?_))
 refine W_cond Z (fun h2 => ?_) (fun h2 => ?_)
 ·
  simp only [HS] at h2
  refine W_skip (tN (sQ (W_block (sQ (W_regionD mixed (by kernel_rfl) (evQ ?_))))))
  refine evQ ?_
  refine QL_norm Z (QL_idxT tys Z Z (lt_of Z) Z Z Z Z Z Z Z (by omega) _ (getT _ _ (by omega) (by omega)) (evQ ?_))
  refine evQ ?_
  refine evQ ?_
  refine QL_idxT tys Z Z (lt_of Z) Z Z Z Z Z Z Z (by omega) _ (getT _ _ (by omega) (by omega)) (evQ ?_)
  refine QL_norm Z (callBQ ?_)
  refine ⟨_, eqFunc_fun _ _ (ha.2 _ (List.getElem_mem _)) (hb.2 _ (List.getElem_mem _)), rfl, ?_⟩
  refine evQ ?_
  refine QL_nil (tN ?_)
  refine W_cond Z (fun h3 => ?_) (fun h3 => ?_)
  ·
   simp only [HS] at h3
   refine sQ (rG (eZ Z (oN (tN (rT (bR (tR (loopQ_r (bR (tR (eR ?_)))))))))))
   ·rw [eqL_eq h1, hk2, eqGo_at hk0 h2 h1]
    simp [h3]
    done
  simp only [HS] at h3
  refine W_skip (bN (tN (rG (eZ Z (evI ?_)))))
  refine eZ Z (oN ?_)
  refine lQ _ ?_ ?_
  ·skip
   refine ⟨by omega, by omega, ?_⟩; rw [hk2, eqGo_at hk0 h2 h1]; simp [h3]
  ·(show Int.toNat _ < Int.toNat _); omega
 simp only [HS] at h2
 refine W_exit (tE (loopQ_e (inBlk_y (tN (sQ (rG (eZ Z (oN (tN (rT (eR ?_)))))))))))
 ·rw [eqL_eq h1, hk2, drop_end h2]
  rfl
structure Prog where
 funcs : List (Func)
def Prog.tt (x : Prog) : T := .agg [T.Funcs x.funcs]
def Prog.ok (B : Nat) (x : Prog) : Prop := okL B (Func.ok B) x.funcs ∧ True
def szProg (x : Prog) : Int → Int := szSeq [(szL szFunc) x.funcs]
theorem szProg_g : SzG szProg (Prog.ok 1048576) := fun x left h0 hh => by
 have := szSeq_step (szFuncS_g x.funcs) (szSeq_nil)
 exact this left h0 hh
def eqProg (a b : Prog) : Bool := (eqL eqFunc) a.funcs b.funcs && true
theorem eqProg_refl (a : Prog) : eqProg a a = true := by
 unfold eqProg; simp only [eqL_refl eqFunc_refl, Bool.and_self]
theorem szProg_fun (x : Prog) (left : Int) (hx : Prog.ok 9223372036854775807 x) (h0 : 0 ≤ left) (hh : left ≤ 1048576) : Fun Tryz.prog 7 [.t (Prog.tt x), .t (.int left)] (tupD [.t (.int (szProg x left))]) := by
 refine Fun.begin tys Tryz.func7 Z Z (N := 12) [(0, .t (Prog.tt x)), (1, .t (.int left))] Z Z (fun w0 G F0 => ?_)
 refine sQ (rG (WO_box Z Z (lt_of Z) Z Z (nZ Z (eZ Z (oN (tN (sQ (rG (eK 3 Z (callB ?_))))))))))
 refine ⟨_, szFuncS_fun _ _ (hx.1) (by omega) (by  omega), rfl, ?_⟩
 refine eZ Z (oN (tN (sQ (sQ (kY [1,4] Z (rG (eK 2 Z (oN (tN ?_)))))))))
 refine W_cond Z (fun h1 => ?_) (fun h1 => ?_)
 ·
  simp only [HS] at h1
  refine sQ (rG (eZ Z (oN (tN (rT (tR (eR ?_)))))))
  ·(simp only [szProg, szSeq]; repeat (first | rw [if_neg (by omega)] | rw [if_pos (by omega)]))
 simp only [HS] at h1
 refine W_skip (tN (sQ (rG (eK 2 Z (oN (tN (rT (eR ?_))))))))
 ·(simp only [szProg, szSeq]; repeat (first | rw [if_neg (by omega)] | rw [if_pos (by omega)]))
theorem toProg_fun (x : Prog) (hx : Prog.ok 1048576 x) : Fun Tryz.prog 9 [.t (Prog.tt x)] (tupD [.agg [.own (T.Funcs x.funcs)]]) := by
 refine Fun.begin tys Tryz.func9 Z Z (N := 9) [(0, .t (Prog.tt x))] Z Z (fun w0 G F0 => ?_)
 refine sQ (rG (WO_box Z Z (lt_of Z) Z Z (nZ Z (WO_alloc tys Z Z (lt_of Z) Z Z Z (nZ Z (oN (tN (sQ (rG (WO_alloc tys Z Z (lt_of Z) Z Z Z (nZ Z (oN (tN (sQ (rG ?_)))))))))))))))
 refine eK 2 Z (callB ?_)
 refine ⟨_, toFuncS_fun _ (by first | exact hx.1), rfl, ?_⟩
 refine eZ Z (sT Z (nZ Z (oN (tN (sQ (kY [2,3] Z (rG (WO_loadMove tys Z Z (lt_of Z) Z Z Z Z Z Z (nZ Z (sT Z (nZ Z (oN (tN (rT (eR ?_)))))))))))))))
 ·rfl
theorem eqProg_fun (a b : Prog) (ha : Prog.ok 9223372036854775807 a) (hb : Prog.ok 9223372036854775807 b) : Fun Tryz.prog 12 [.t (Prog.tt a), .t (Prog.tt b)] (tupD [.t (.bool (eqProg a b))]) := by
 refine Fun.begin tys Tryz.func12 Z Z (N := 11) [(0, .t (Prog.tt a)), (1, .t (Prog.tt b))] Z Z (fun w0 G F0 => ?_)
 refine sQ (rG (WO_box Z Z (lt_of Z) Z Z (nZ Z (WO_box Z Z (lt_of Z) Z Z (nZ Z (eZ Z (oN (tN (sQ (sQ (rG (eK 4 Z (callB ?_)))))))))))))
 refine ⟨_, eqFuncS_fun _ _ (by first | exact ha.1) (by first | exact hb.1), rfl, ?_⟩
 refine eZ Z (kZ [4,10] Z (oN (tN ?_)))
 refine W_cond Z (fun h1 => ?_) (fun h1 => ?_)
 ·
  simp only [HS] at h1
  refine sQ (rG (eZ Z (oN (tN (rT (tR (eR ?_)))))))
  ·simp_all [eqProg, eqI, eqB]
 simp only [HS] at h1
 refine W_skip (tN (sQ (rG (eZ Z (oN (tN (rT (eR ?_))))))))
 ·simp_all [eqProg, eqI, eqB]
open Go.Eng
theorem rd_tok {x : T} (h : Rd Tryz.prog 249 x) : ∃ a : Tok, x = a.tt ∧ True := by
 obtain ⟨xs, rfl, h1⟩ := rd_struct (ts := [3, 3]) (by kernel_rfl) h
 match xs, h1 with
 | [x1, x2], ⟨h1, h2, _⟩ =>
  obtain ⟨k, rfl, _⟩ := rd_i h1
  obtain ⟨c, rfl, _⟩ := rd_i h2
  exact ⟨⟨k, c⟩, rfl, trivial⟩
theorem rd_toks {x : T} (h : Rd Tryz.prog 193 x) : ∃ l : List Tok, x = T.Toks l ∧ okN 9223372036854775807 l := by
 obtain ⟨l, rfl, h1, _⟩ := rd_list (e := 249) (n := 2) (by kernel_rfl) (by kernel_rfl) (fun y hy => rd_tok hy) h
 exact ⟨l, rfl, h1⟩
theorem rd_stmt {x : T} (h : Rd Tryz.prog 195 x) : ∃ a : Stmt, x = a.tt ∧ a.ok 9223372036854775807 := by
 obtain ⟨xs, rfl, h1⟩ := rd_struct (ts := [3, 3, 193, 25, 25]) (by kernel_rfl) h
 match xs, h1 with
 | [x1, x2, x3, x4, x5], ⟨h1, h2, h3, h4, h5, _⟩ =>
  obtain ⟨k, rfl, _⟩ := rd_i h1
  obtain ⟨c, rfl, _⟩ := rd_i h2
  obtain ⟨a, rfl, q1⟩ := rd_toks h3
  obtain ⟨b, rfl, q2⟩ := rd_ints h4
  obtain ⟨d, rfl, q3⟩ := rd_ints h5
  exact ⟨⟨k, c, a, b, d⟩, rfl, q1, q2, q3, trivial⟩
theorem rd_stmts {x : T} (h : Rd Tryz.prog 106 x) : ∃ l : List Stmt, x = T.Stmts l ∧ okL 9223372036854775807 (Stmt.ok 9223372036854775807) l :=
 rd_list (e := 195) (n := 5) (by kernel_rfl) (by kernel_rfl) (fun y hy => rd_stmt hy) h
theorem rd_func {x : T} (h : Rd Tryz.prog 108 x) : ∃ a : Func, x = a.tt ∧ a.ok 9223372036854775807 := by
 obtain ⟨xs, rfl, h1⟩ := rd_struct (ts := [3, 3, 25, 106]) (by kernel_rfl) h
 match xs, h1 with
 | [x1, x2, x3, x4], ⟨h1, h2, h3, h4, _⟩ =>
  obtain ⟨k, rfl, _⟩ := rd_i h1
  obtain ⟨c, rfl, _⟩ := rd_i h2
  obtain ⟨a, rfl, q1⟩ := rd_ints h3
  obtain ⟨b, rfl, q2⟩ := rd_stmts h4
  exact ⟨⟨k, c, a, b⟩, rfl, q1, q2, trivial⟩
theorem rd_funcs {x : T} (h : Rd Tryz.prog 22 x) : ∃ l : List Func, x = T.Funcs l ∧ okL 9223372036854775807 (Func.ok 9223372036854775807) l :=
 rd_list (e := 108) (n := 4) (by kernel_rfl) (by kernel_rfl) (fun y hy => rd_func hy) h
theorem rd_prog {x : T} (h : Rd Tryz.prog 24 x) : ∃ a : Prog, x = a.tt ∧ a.ok 9223372036854775807 := by
 obtain ⟨xs, rfl, h1⟩ := rd_struct (ts := [22]) (by kernel_rfl) h
 match xs, h1 with
 | [x1], ⟨h1, _⟩ =>
  obtain ⟨b, rfl, q2⟩ := rd_funcs h1
  exact ⟨⟨b⟩, rfl, q2, trivial⟩
open Go.Eng
theorem retB {b b' : Bool} (h : b = b') : [D.t (T.v (Value.bool b))] = [D.t (T.bool b')] := by rw [h]
theorem retI {b b' : Int} (h : b = b') : [D.t (T.v (Value.int .i64 b))] = [D.t (T.int b')] := by rw [h]
def atI (l : List Int) (n : Int) : Int := (l[n.toNat]?).getD 0
theorem atI_at {l : List Int} {n : Int} (h0 : 0 ≤ n) (h1 : n < l.length) : atI l n = l[n.toNat]'(by omega) := by
 unfold atI; rw [List.getElem?_eq_getElem (by omega)]; rfl
def PsOk (ps : List Int) : Prop := ps.length ≤ 5 ∧ ∀ x, x ∈ ps → 0 ≤ x ∧ x ≤ 2
def paramsB (ps : List Int) : Bool := decide ((ps.length : Int) ≤ 5) && allIn ps 0 2
theorem paramsB_ok {ps : List Int} (h : paramsB ps = true) : PsOk ps := by
 unfold paramsB at h
 rw [Bool.and_eq_true] at h
 refine ⟨by have := h.1; simp at this; omega, fun x hx => ?_⟩
 have := h.2
 unfold allIn at this
 rw [List.all_eq_true] at this
 simpa using this x hx
theorem atI_bnd {ps : List Int} (h : PsOk ps) (n : Int) : 0 ≤ atI ps n ∧ atI ps n ≤ 2 := by
 unfold atI
 cases hx : ps[n.toNat]? with
 | none => simp
 | some x => simpa using h.2 x (List.mem_of_getElem? hx)
def knownT (vars m : Int) (t : Tok) : Bool :=
 if t.op = 1 then decide (-2147483648 ≤ t.n ∧ t.n ≤ 2147483647) else if t.op = 2 then decide (0 ≤ t.n ∧ t.n < vars) else if t.op = 11 then decide (0 ≤ t.n ∧ t.n < m) else decide (3 ≤ t.op ∧ t.op ≤ 10) && decide (t.n = 0)
def needsT (ps : List Int) (t : Tok) : Int := if 3 ≤ t.op ∧ t.op ≤ 8 then 2 else if t.op = 11 then atI ps t.n else 0
theorem needsT_bnd {ps : List Int} (h : PsOk ps) (t : Tok) : 0 ≤ needsT ps t ∧ needsT ps t ≤ 2 := by
 have := atI_bnd h t.n
 unfold needsT; split <;> (try split) <;> omega
theorem l2Bound_fun (n : Int) : Fun Tryz.prog 66 [.t (.int n)] (tupD [.t (.bool (decide (-2147483648 ≤ n ∧ n ≤ 2147483647)))]) := by
 refine Fun.begin tys Tryz.func66 Z Z (N := 5) [(0, .t (.int n))] Z Z (fun w0 G F0 => ?_)
 refine sQ (rG (eZ Z (oN (tN (sQ (rG (eZ Z (callB ?_))))))))
 refine ⟨_, l1In_fun _ _ _, rfl, ?_⟩
 refine eZ Z (oN (tN (rT (eR ?_))))
 ·rfl
def tokB (t : Tok) : Bool := if t.op = 1 then decide (-2147483648 ≤ t.n ∧ t.n ≤ 2147483647) else if t.op = 2 ∨ t.op = 11 then decide (0 ≤ t.n ∧ t.n ≤ 99) else decide (3 ≤ t.op ∧ t.op ≤ 10) && decide (t.n = 0)
theorem l2Token_fun (t : Tok) : Fun Tryz.prog 263 [.t t.tt] (tupD [.t (.bool (tokB t))]) := by
 refine Fun.begin tys Tryz.func263 Z Z (N := 24) [(0, .t t.tt)] Z Z (fun w0 G F0 => ?_)
 refine sQ (rG (WO_box Z Z (lt_of Z) Z Z (nZ Z (eZ Z (oN (tN (sQ (sQ (rG (eK 2 Z (oN (tN (W_block (sQ (rG ?_)))))))))))))))
 refine eK 2 Z (oN (tN ?_))
 refine W_cond Z (fun h1 => ?_) (fun h1 => ?_)
 ·
  simp only [HS] at h1
  refine sQ (rG (eK 2 Z (callB ?_)))
  refine ⟨_, l2Bound_fun _, rfl, ?_⟩
  refine kZ [1,2,9] Z (eZ Z (oN (tN (rT (bR (tR (eR ?_)))))))
  ·exact retB (by grind [tokB])
 simp only [HS] at h1
 refine sQ (sQ (rG (eK 2 Z (oN (tN ?_)))))
 refine W_cond Z (fun h2 => ?_) (fun h2 => ?_)
 ·
  simp only [HS] at h2
  refine W_skip (tN ?_)
  refine W_cond Z (fun h3 => ?_) (fun h3 => ?_)
  ·
   simp only [HS] at h3
   refine sQ (kY [1,2] Z (rG (eK 2 Z (callB ?_))))
   refine ⟨_, l1In_fun _ _ _, rfl, ?_⟩
   refine eZ Z (oN (tN (rT (bR (tR (eR ?_))))))
   ·exact retB (by grind [tokB])
  simp only [HS] at h3
  refine W_skip (bN (tN (sQ (kY [1,2] Z (rG (eK 2 Z (callB ?_)))))))
  refine ⟨_, l1In_fun _ _ _, rfl, ?_⟩
  refine eZ Z ?_
  refine WO_guard Z Z Z Z (lt_of Z) (fun h4 => ?_) (fun h4 => ?_)
  rotate_left
  ·
   simp only [HS] at h4
   refine gM Z (gM Z (eK 2 Z (oN (tN (rT (eR ?_))))))
   ·exact retB (by grind [tokB])
  simp only [HS] at h4
  refine eZ Z (gY Z (eZ Z (gY Z (eK 3 Z (kZ [2] Z (oN (tN (rT (eR ?_)))))))))
  ·exact retB (by grind [tokB])
 simp only [HS] at h2
 refine kY [1,2,4,10] Z (rG (eK 2 Z (oN (tN ?_))))
 refine W_cond Z (fun h3 => ?_) (fun h3 => ?_)
 ·
  simp only [HS] at h3
  refine sQ (rG (eK 2 Z (callB ?_)))
  refine ⟨_, l1In_fun _ _ _, rfl, ?_⟩
  refine eZ Z (oN (tN (rT (bR (tR (eR ?_))))))
  ·exact retB (by grind [tokB])
 simp only [HS] at h3
 refine W_skip (bN (tN (sQ (rG (eK 2 Z (callB ?_))))))
 refine ⟨_, l1In_fun _ _ _, rfl, ?_⟩
 refine eZ Z ?_
 refine WO_guard Z Z Z Z (lt_of Z) (fun h4 => ?_) (fun h4 => ?_)
 rotate_left
 ·
  simp only [HS] at h4
  refine gM Z (gM Z (eZ Z (kZ [2,23] Z (eZ Z (oN (tN (rT (eR ?_))))))))
  ·exact retB (by grind [tokB])
 simp only [HS] at h4
 refine eZ Z (gY Z (eZ Z (gY Z (eZ Z (kZ [2,19,22] Z (eK 2 Z (oN (tN (rT (eR ?_))))))))))
 ·exact retB (by grind [tokB])
theorem l2Known_fun (t : Tok) (vars : Int) (ps : List Int) (hv : vars ≤ 100) (hp : ps.length ≤ 100) : Fun Tryz.prog 252 [.t t.tt, .t (.int vars), .t (T.ints ps)] (tupD [.t (.bool (knownT vars ps.length t))]) := by
 refine Fun.begin tys Tryz.func252 Z Z (N := 32) [(0, .t t.tt), (1, .t (.int vars)), (2, .t (T.ints ps))] Z Z (fun w0 G F0 => ?_)
 refine sQ (rG (WO_box Z Z (lt_of Z) Z Z (nZ Z (eZ Z (oN (tN (sQ (rG (eZ Z ?_)))))))))
 try refine WO_le (Le.freeze (u := 7) rfl) ?_
 refine nZ Z (callB ?_)
 refine ⟨_, l2Token_fun _, rfl, ?_⟩
 refine eZ Z ?_
 refine WO_guard Z Z Z Z (lt_of Z) (fun h1 => ?_) (fun h1 => ?_)
 rotate_left
 ·
  simp only [HS] at h1
  refine gM Z (gM Z (gM Z (gM Z (kZ [1,2,3,6,9,13,14] Z (gM Z (gM Z (gM Z (gM Z (eK 2 Z (gM Z (gM Z (gM Z (kZ [2,3,6,20,23] Z (gM Z (gM Z ?_)))))))))))))))
  refine gM Z (gM Z (gM Z (gM Z (gM Z (eK 2 Z (kZ [6] Z (oN (tN (rT (eR ?_))))))))))
  ·exact retB (by grind [tokB, knownT])
 refine eZ Z (gY Z (eZ Z (gY Z (eZ Z (gY Z (eZ Z (kZ [1,2,3,6,9,13] Z ?_)))))))
 refine WO_guard Z Z Z Z (lt_of Z) (fun h2 => ?_) (fun h2 => ?_)
 rotate_left
 ·
  simp only [HS] at h2
  refine gM Z (gM Z (gM Z (gY Z (eK 3 Z (gY Z (eZ Z (gY Z (eZ Z (gY Z (eZ Z (kZ [2,3,6,20,23] Z (gY Z (eZ Z ?_)))))))))))))
  refine WO_guard Z Z Z Z (lt_of Z) (fun h3 => ?_) (fun h3 => ?_)
  rotate_left
  ·
   simp only [HS] at h3
   refine gM Z (gM Z (gM Z (gM Z (gY Z (eK 3 Z (oN (tN (rT (eR ?_)))))))))
   ·exact retB (by grind [tokB, knownT])
  simp only [HS] at h3
  refine eZ Z (gY Z (eZ Z (gY Z (eZ Z (gY Z (evE ?_))))))
  refine gY Z (eZ Z (gY Z (eK 3 Z (kZ [6] Z (oN (tN (rT (eR ?_))))))))
  ·exact retB (by grind [tokB, knownT])
 simp only [HS] at h2
 refine eZ Z (gY Z (eZ Z (gY Z (eZ Z (gY Z (eZ Z (gY Z (eK 3 Z ?_))))))))
 refine WO_guard Z Z Z Z (lt_of Z) (fun h3 => ?_) (fun h3 => ?_)
 rotate_left
 ·
  simp only [HS] at h3
  refine gM Z (gM Z (kZ [2,3,6,20,23] Z (gM Z (gM Z (gM Z (gM Z (gM Z (gM Z (gM Z (eK 2 Z (kZ [6] Z (oN (tN (rT (eR ?_)))))))))))))))
  ·exact retB (by grind [tokB, knownT])
 simp only [HS] at h3
 refine eZ Z (gY Z (eZ Z (kZ [2,3,6,20,22] Z (gY Z (eZ Z (gY Z (eZ Z ?_)))))))
 refine WO_guard Z Z Z Z (lt_of Z) (fun h4 => ?_) (fun h4 => ?_)
 rotate_left
 ·
  simp only [HS] at h4
  refine gM Z (gM Z (gM Z (gM Z (gY Z (eK 3 Z (kZ [6] Z (oN (tN (rT (eR ?_))))))))))
  ·exact retB (by grind [tokB, knownT])
 simp only [HS] at h4
 refine eZ Z (gY Z (eZ Z (gY Z (eZ Z (gY Z (evE ?_))))))
 refine gY Z (eZ Z (gY Z (eK 2 Z (kZ [6,31] Z (eZ Z (oN (tN (rT (eR ?_)))))))))
 ·exact retB (by grind [tokB, knownT])
theorem l2Needs_fun (t : Tok) (ps : List Int) (ht : t.op = 11 → 0 ≤ t.n ∧ t.n < ps.length) : Fun Tryz.prog 253 [.t t.tt, .t (T.ints ps)] (tupD [.t (.int (needsT ps t))]) := by
 refine Fun.begin tys Tryz.func253 Z Z (N := 18) [(0, .t t.tt), (1, .t (T.ints ps))] Z Z (fun w0 G F0 => ?_)
 refine sQ (rG (WO_box Z Z (lt_of Z) Z Z (nZ Z (eZ Z (oN (tN (sQ (W_block (sQ (rG (eK 2 Z (callB ?_))))))))))))
 refine ⟨_, l1In_fun _ _ _, rfl, ?_⟩
 refine eZ Z (oN (tN ?_))
 refine W_cond Z (fun h1 => ?_) (fun h1 => ?_)
 ·
  simp only [HS] at h1
  refine sQ (rG (eZ Z (oN (tN (rT (bR (tR (eR ?_))))))))
  ·exact retI (by grind [needsT, atI_at])
 simp only [HS] at h1
 refine sQ (rG (eK 3 Z (kZ [1,2,4,12] Z (eZ Z (oN (tN ?_))))))
 refine W_cond Z (fun h2 => ?_) (fun h2 => ?_)
 ·
  simp only [HS] at h2
  refine sQ (rG (eK 3 Z (WO_idxT tys Z Z (lt_of Z) Z Z Z Z Z Z Z (by omega) _ (getT _ _ (by omega) (by omega)) (eK 2 Z (oN (tN (rT (bR (tR (eR ?_))))))))))
  ·exact retI (by grind [needsT, atI_at])
 simp only [HS] at h2
 refine W_skip (bN (tN (sQ (rG (eZ Z (oN (tN (rT (eR ?_)))))))))
 ·exact retI (by grind [needsT, atI_at])
theorem l1Most_fun (a b : Int) : Fun Tryz.prog 254 [.t (.int a), .t (.int b)] (tupD [.t (.int (max a b))]) := by
 refine Fun.begin tys Tryz.func254 Z Z (N := 10) [(0, .t (.int a)), (1, .t (.int b))] Z Z (fun w0 G F0 => ?_)
 refine sQ (rG (eZ Z (oN (tN (sQ (sQ (rG (eK 3 Z (oN (tN ?_))))))))))
 refine W_cond Z (fun h1 => ?_) (fun h1 => ?_)
 ·
  simp only [HS] at h1
  refine sQ (rG (eK 2 Z (oN (tN (rT (tR (eR ?_)))))))
  ·exact retI (by grind)
 simp only [HS] at h1
 refine W_skip (tN (sQ (rG (eK 2 Z (oN (tN (rT (eR ?_))))))))
 ·exact retI (by grind)
def runE (vars : Int) (ps : List Int) : List Tok → Int → Int → Option (Int × Int)
 | [], h, m => some (h, m)
 | t :: l, h, m => if knownT vars ps.length t && decide (needsT ps t ≤ h) then runE vars ps l (h + (1 - needsT ps t)) (max m (h + (1 - needsT ps t))) else none
theorem runE_at {vars : Int} {ps : List Int} {l : List Tok} {h m k : Int} (h0 : 0 ≤ k) (h1 : k < l.length) : runE vars ps (l.drop k.toNat) h m = if knownT vars ps.length (l[k.toNat]'(by omega)) && decide (needsT ps (l[k.toNat]'(by omega)) ≤ h) then runE vars ps (l.drop (k + 1).toNat) (h + (1 - needsT ps (l[k.toNat]'(by omega)))) (max m (h + (1 - needsT ps (l[k.toNat]'(by omega))))) else none := by
 rw [drop_at h0 h1, runE]
def highS (vars : Int) (ps : List Int) (l : List Tok) : Int := match runE vars ps l 0 0 with
 | some (h, m) => if h = 1 ∧ (l.length : Int) ≤ 12 then m else -1
 | none => -1
def highI (vars : Int) (ps : List Int) (l : List Tok) : Int := if (1 : Int) ≤ l.length ∧ (l.length : Int) ≤ 12 then (match runE vars ps l 0 0 with
 | some (h, m) => if h = 1 then m else 0
 | none => 0) else 0
theorem known_op {vars m : Int} {t : Tok} (h : knownT vars m t = true) : t.op = 11 → 0 ≤ t.n ∧ t.n < m := by
 intro ho; unfold knownT at h; simp [ho] at h; omega
theorem l2High_fun (l : List Tok) (vars : Int) (ps : List Int) (hv : vars ≤ 100) (hp : PsOk ps) (hl : l.length ≤ 1048576) : Fun Tryz.prog 238 [.t (T.Toks l), .t (.int vars), .t (T.ints ps)] (tupD [.t (.int (highS vars ps l))]) := by
 have hp1 := hp.1
 refine Fun.begin tys Tryz.func238 Z Z (N := 47) [(0, .t (T.Toks l)), (1, .t (.int vars)), (2, .t (T.ints ps))] Z Z (fun w0 G F0 => ?_)
 refine sQ (rG (eZ Z (oN (tN (sQ (rG (eK 2 Z (oN (tN (sQ (sQ (rG (eZ Z (evE ?_))))))))))))))
 refine eZ Z (oN (tN (W_block ?_)))
 refine lK (α := Int × Int × Int) [0, 1, 2, 11, 12] [] (fun x => [(13, .t (.int (x.1))), (7, .t (.int (x.2.1))), (8, .t (.int (x.2.2)))]) (fun x => []) (fun x => 0 ≤ (x.1) ∧ (x.1) ≤ l.length ∧ 0 ≤ (x.2.1) ∧ (x.2.1) ≤ (x.1) ∧ runE vars ps l 0 0 = runE vars ps (l.drop (x.1).toNat) (x.2.1) (x.2.2)) (fun x => Int.toNat (l.length - (x.1))) (0, 0, 0) ?_ (fun x hx => ?_)
 ·exact ⟨by omega, by omega, Int.le_refl 0, Int.le_refl 0, rfl⟩
 obtain ⟨k, h, m⟩ := x
 obtain ⟨hk0, hk1, hh0, hh1, he⟩ := hx
 dsimp only at hk0 hk1 hh0 hh1 he ⊢
 refine nY Z (sQ (rG (eZ Z (oN (tN (sQ ?_))))))
 refine W_cond Z (fun h1 => ?_) (fun h1 => ?_)
 ·
  simp only [HS] at h1
  refine W_skip (tN (sQ (W_block (sQ (rG (WO_idxT tys Z Z (lt_of Z) Z Z Z Z Z Z Z (by omega) _ (getT _ _ (by omega) (by omega)) (eZ Z ?_)))))))
  try refine WO_le (Le.freeze (u := 16) rfl) ?_
  refine nZ Z (WO_alloc tys Z Z (lt_of Z) Z Z Z (nZ Z (sT Z (nZ Z (oN (tN (sQ (sQ (rG (eZ Z ?_))))))))))
  try refine WO_le (Le.freeze (u := 17) rfl) ?_
  refine nZ Z (eK 2 Z (callB ?_))
  refine ⟨_, l2Known_fun _ _ _ hv (by omega), rfl, ?_⟩
  refine kZ [0,1,2,7,8,10,11,12,13,14,15,16,17,18,19,20] Z (eK 2 Z ?_)
  refine WO_guard Z Z Z Z (lt_of Z) (fun h2 => ?_) (fun h2 => ?_)
  rotate_left
  ·
   simp only [HS] at h2
   refine gM Z (gM Z (gM Z (gM Z (eZ Z (oN (tN (W_condT Z (sQ (kY [0,1,2,7,8,10,11,12,13,14,15,16,17,18,19,20,21,22,23,24,25,26,27,28] Z (rG (eZ Z (oN (tN (rT (tR ?_)))))))))))))))
   refine bR (tR (loopQ_r (bR (tR (eR ?_)))))
   ·exact retI (by rw [highS, he, runE_at hk0 h1, if_neg (by simp [*]; done)])
  simp only [HS] at h2
  refine eZ Z (gY Z (eZ Z ?_))
  try refine WO_le (Le.freeze (u := 24) rfl) ?_
  refine nZ Z (gY Z (eZ Z (gY Z (callB ?_))))
  refine ⟨_, l2Needs_fun _ _ (known_op h2), rfl, ?_⟩
  refine gY Z (eK 2 Z (oN (tN ?_)))
  refine W_cond Z (fun h3 => ?_) (fun h3 => ?_)
  ·
   simp only [HS] at h3
   refine sQ (kY [0,1,2,7,8,10,11,12,13,14,15,16,17,18,19,20,21,22,23,24,25,26,27,28] Z (rG (eZ Z (oN (tN (rT (tR (bR (tR (loopQ_r (bR (tR (eR ?_)))))))))))))
   ·exact retI (by rw [highS, he, runE_at hk0 h1, if_neg (by simp [*]; done)])
  simp only [HS] at h3
  refine W_skip (tN (sQ (kY [0,1,2,7,8,10,11,12,13,14,15,16,17,18,19,20,21,22,23,24,25,26,27,28] Z (rG (eK 2 Z ?_)))))
  try refine WO_le (Le.freeze (u := 30) rfl) ?_
  refine nZ Z (eZ Z (callB ?_))
  refine ⟨_, l2Needs_fun _ _ (known_op h2), rfl, ?_⟩
  have q := needsT_bnd hp (l[k.toNat]'(by omega))
  refine evI ?_
  refine evI ?_
  refine eZ Z (oN (tN (kY [0,1,2,7,8,10,11,12,13,14,15,16,17,18,19,20,21,22,23,24,25,26,27,28,29,30,31,32,33,34] Z (rG (eK 2 Z (callB ?_))))))
  refine ⟨_, l1Most_fun _ _, rfl, ?_⟩
  refine eZ Z (oN (bN (tN (rG (evI ?_)))))
  refine eZ Z (oN ?_)
  refine lQ (_, _, _) ?_ ?_
  ·dsimp only
   have q := needsT_bnd hp (l[k.toNat]'(by omega)); exact ⟨by omega, by omega, by omega, by omega, by rw [he, runE_at hk0 h1, if_pos (by simp [h2]; omega)]⟩
  ·(show Int.toNat _ < Int.toNat _); omega
 simp only [HS] at h1
 refine W_exit (tE (loopQ_e (inBlk_y (tN (sQ (sQ (rG (eK 3 Z ?_))))))))
 refine WO_guard Z Z Z Z (lt_of Z) (fun h2 => ?_) (fun h2 => ?_)
 rotate_left
 ·
  simp only [HS] at h2
  refine gM Z (gM Z (eZ Z (oN (tN (W_condT Z (sQ (kY [8] Z (rG (eZ Z (oN (tN (rT (tR (eR ?_))))))))))))))
  ·exact retI (by rw [highS, he, drop_end h1]; simp only [runE]; grind)
 simp only [HS] at h2
 refine eZ Z (gY Z (evE ?_))
 refine gY Z (eK 2 Z (oN (tN ?_)))
 refine W_cond Z (fun h3 => ?_) (fun h3 => ?_)
 ·
  simp only [HS] at h3
  refine sQ (kY [8] Z (rG (eZ Z (oN (tN (rT (tR (eR ?_))))))))
  ·exact retI (by rw [highS, he, drop_end h1]; simp only [runE]; grind)
 simp only [HS] at h3
 refine W_skip (tN (sQ (kY [8] Z (rG (eK 2 Z (oN (tN (rT (eR ?_)))))))))
 ·exact retI (by rw [highS, he, drop_end h1]; simp only [runE]; grind)
def goodE (vars : Int) (ps : List Int) (l : List Tok) : Bool := match runE vars ps l 0 0 with
 | some (h, m) => decide (h = 1) && decide ((l.length : Int) ≤ 12)
 | none => false
theorem runE_high {vars : Int} {ps : List Int} : ∀ {l : List Tok} {h m h' m' : Int}, runE vars ps l h m = some (h', m') → (l = [] ∧ h' = h) ∨ h' ≤ m'
 | [], h, m, h', m', e => by rw [runE] at e; cases e; exact .inl ⟨rfl, rfl⟩
 | t :: l, h, m, h', m', e => by
  rw [runE] at e
  split at e
  ·have := runE_high e
   rcases this with ⟨rfl, rfl⟩ | h
   ·rw [runE] at e
    cases e
    exact .inr (by omega)
   ·exact .inr h
  ·cases e
theorem highS_pos (vars : Int) (ps : List Int) (l : List Tok) : (0 < highS vars ps l) = (goodE vars ps l = true) := by
 unfold highS goodE
 cases hr : runE vars ps l 0 0 with
 | none => simp
 | some x =>
  obtain ⟨h, m⟩ := x
  have := runE_high hr
  dsimp only
  split
  ·rename_i h1
   simp [h1]
   rcases this with ⟨_, h2⟩ | h2 <;> omega
  ·rename_i h1
   simp
   omega
theorem highI_pos (vars : Int) (ps : List Int) (l : List Tok) : (0 < highI vars ps l) = (goodE vars ps l = true) := by
 unfold highI goodE
 cases hr : runE vars ps l 0 0 with
 | none => simp
 | some x =>
  obtain ⟨h, m⟩ := x
  have := runE_high hr
  dsimp only
  by_cases hl : l = []
  ·subst hl
   rw [runE] at hr
   cases hr
   simp
  ·have h0 : 0 < l.length := List.length_pos_iff.2 hl
   simp only [Bool.and_eq_true, decide_eq_true_eq]
   have h2 := this.resolve_left fun h => hl h.1
   split
   ·split <;> simp <;> omega
   ·simp; omega
theorem l2Params_fun (ps : List Int) (hp : ps.length ≤ 1048576) : Fun Tryz.prog 151 [.t (T.ints ps)] (tupD [.t (.bool (paramsB ps))]) := by
 refine Fun.begin tys Tryz.func151 Z Z (N := 10) [(0, .t (T.ints ps))] Z Z (fun w0 G F0 => ?_)
 refine sQ (rG (eZ Z (oN (tN (sQ (rG (eZ Z (evE ?_))))))))
 refine eK 2 Z ?_
 refine WO_guard Z Z Z Z (lt_of Z) (fun h1 => ?_) (fun h1 => ?_)
 rotate_left
 ·
  simp only [HS] at h1
  refine gM Z (eK 2 Z (oN (tN (rT (eR ?_)))))
  ·exact retB (by grind [paramsB])
 simp only [HS] at h1
 refine eZ Z (gY Z (callB ?_))
 refine ⟨_, l1All_fun _ _ _ (by omega), rfl, ?_⟩
 refine eK 2 Z (kZ [2] Z (oN (tN (rT (eR ?_)))))
 ·exact retB (by grind [paramsB])
theorem goodExpr_fun (l : List Tok) (vars : Int) (ps : List Int) (hv : 0 ≤ vars ∧ vars ≤ 6) (hp : PsOk ps) (hpb : paramsB ps = true) (hl : l.length ≤ 1048576) : Fun Tryz.prog 225 [.t (T.Toks l), .t (.int vars), .t (T.ints ps)] (tupD [.t (.bool (goodE vars ps l))]) := by
 have hp1 := hp.1
 refine Fun.begin tys Tryz.func225 Z Z (N := 20) [(0, .t (T.Toks l)), (1, .t (.int vars)), (2, .t (T.ints ps))] Z Z (fun w0 G F0 => ?_)
 refine sQ (rG (eZ Z (oN (tN (sQ (rG (eZ Z (callB ?_))))))))
 refine ⟨_, l1In_fun _ _ _, rfl, ?_⟩
 refine WO_le (Le.known (t := 8) true Z (by simp; omega)) ?_
 refine eZ Z (gY Z (eZ Z (gY Z (callB ?_))))
 refine ⟨_, l2Params_fun _ (by omega), rfl, ?_⟩
 refine WO_le (Le.known (t := 11) true Z (hpb)) (eK 2 Z (gY Z (eZ Z (kZ [1,2,6,13,14] Z (gY Z (eZ Z (gY Z (eZ Z (gY Z (callB ?_))))))))))
 refine ⟨_, l2High_fun _ _ _ (by omega) hp hl, rfl, ?_⟩
 refine gY Z (eK 3 Z (oN (tN (rT (eR ?_)))))
 ·exact retB (by rw [Bool.eq_iff_iff, decide_eq_true_iff]; rw [← highS_pos])
theorem i32_small (n : Int) : (n = IntKind.i64.wrap (IntKind.i32.wrap n)) ↔ (-2147483648 ≤ n ∧ n ≤ 2147483647) := by
 have h1 : -2147483648 ≤ IntKind.i32.wrap n ∧ IntKind.i32.wrap n ≤ 2147483647 := by
  unfold IntKind.wrap; simp [IntKind.bits, IntKind.signed]; split <;> omega
 rw [wrap_id (by omega) (by omega)]
 constructor
 ·intro h; omega
 ·intro h; unfold IntKind.wrap; simp [IntKind.bits, IntKind.signed]; split <;> omega
theorem isSmall_fun (n : Int) : Fun Tryz.prog 71 [.t (.int n)] (tupD [.t (.bool (decide (-2147483648 ≤ n ∧ n ≤ 2147483647)))]) := by
 refine Fun.begin tys Tryz.func71 Z Z (N := 8) [(0, .t (.int n))] Z Z (fun w0 G F0 => ?_)
 refine sQ (rG (eZ Z (oN (tN (sQ (rG (eK 2 Z (WO_conv (td := .int .i64) (k := .i32) Z Z (lt_of Z) Z (by kernel_rfl) (by kernel_rfl) Z (WO_conv (td := .int .i32) (k := .i64) Z Z (lt_of Z) Z (by kernel_rfl) (by kernel_rfl) Z (eK 2 Z (oN (tN (rT (eR ?_))))))))))))))
 ·exact retB (by rw [Bool.eq_iff_iff, decide_eq_true_iff, decide_eq_true_iff, i32_small])
theorem isTok_fun (t : Tok) (vars m : Int) (hv : 0 ≤ vars ∧ vars ≤ 100) (hm : 0 ≤ m ∧ m ≤ 100) : Fun Tryz.prog 228 [.t t.tt, .t (.int vars), .t (.int m)] (tupD [.t (.bool (knownT vars m t))]) := by
 refine Fun.begin tys Tryz.func228 Z Z (N := 36) [(0, .t t.tt), (1, .t (.int vars)), (2, .t (.int m))] Z Z (fun w0 G F0 => ?_)
 refine sQ (rG (WO_box Z Z (lt_of Z) Z Z (nZ Z (eZ Z (oN (tN (sQ (sQ (rG (eK 2 Z (oN (tN (W_block (sQ (rG ?_)))))))))))))))
 refine eK 2 Z (oN (tN ?_))
 refine W_cond Z (fun h1 => ?_) (fun h1 => ?_)
 ·
  simp only [HS] at h1
  refine sQ (rG (eK 2 Z (callB ?_)))
  refine ⟨_, isSmall_fun _, rfl, ?_⟩
  refine kZ [3,6,13] Z (eZ Z (oN (tN (rT (bR (tR (eR ?_)))))))
  ·exact retB (by grind [knownT])
 simp only [HS] at h1
 refine sQ (rG (eK 2 Z (oN (tN ?_))))
 refine W_cond Z (fun h2 => ?_) (fun h2 => ?_)
 ·
  simp only [HS] at h2
  refine sQ (kY [1,3,6] Z (rG (eK 3 Z (evI ?_))))
  refine callB ?_
  refine ⟨_, within_fun _ _ _, rfl, ?_⟩
  refine eZ Z (oN (tN (rT (bR (tR (eR ?_))))))
  ·exact retB (by grind [knownT])
 simp only [HS] at h2
 refine sQ (kY [2,3,6,8] Z (rG (eK 2 Z (oN (tN ?_)))))
 refine W_cond Z (fun h3 => ?_) (fun h3 => ?_)
 ·
  simp only [HS] at h3
  refine sQ (rG (eK 3 Z (evI ?_)))
  refine callB ?_
  refine ⟨_, within_fun _ _ _, rfl, ?_⟩
  refine eZ Z (oN (tN (rT (bR (tR (eR ?_))))))
  ·exact retB (by grind [knownT])
 simp only [HS] at h3
 refine W_skip (bN (tN (sQ (rG (eK 2 Z (callB ?_))))))
 refine ⟨_, within_fun _ _ _, rfl, ?_⟩
 refine eZ Z ?_
 refine WO_guard Z Z Z Z (lt_of Z) (fun h4 => ?_) (fun h4 => ?_)
 rotate_left
 ·
  simp only [HS] at h4
  refine gM Z (gM Z (eZ Z (kZ [6,35] Z (eZ Z (oN (tN (rT (eR ?_))))))))
  ·exact retB (by grind [knownT])
 simp only [HS] at h4
 refine eZ Z (gY Z (eZ Z (gY Z (eZ Z (kZ [6,31,34] Z (eK 2 Z (oN (tN (rT (eR ?_))))))))))
 ·exact retB (by grind [knownT])
theorem isReckoned_fun (n : Int) : Fun Tryz.prog 232 [.t (.int n)] (tupD [.t (.bool (decide (3 ≤ n ∧ n ≤ 8)))]) := by
 refine Fun.begin tys Tryz.func232 Z Z (N := 5) [(0, .t (.int n))] Z Z (fun w0 G F0 => ?_)
 refine sQ (rG (eZ Z (oN (tN (sQ (rG (eZ Z (callB ?_))))))))
 refine ⟨_, within_fun _ _ _, rfl, ?_⟩
 refine eZ Z (oN (tN (rT (eR ?_))))
 ·rfl
theorem needs_fun (t : Tok) (ps : List Int) (ht : t.op = 11 → 0 ≤ t.n ∧ t.n < ps.length) : Fun Tryz.prog 229 [.t t.tt, .t (T.ints ps)] (tupD [.t (.int (needsT ps t))]) := by
 refine Fun.begin tys Tryz.func229 Z Z (N := 18) [(0, .t t.tt), (1, .t (T.ints ps))] Z Z (fun w0 G F0 => ?_)
 refine sQ (rG (WO_box Z Z (lt_of Z) Z Z (nZ Z (eZ Z (oN (tN (sQ (W_block (sQ (rG (eK 4 Z (oN (tN ?_)))))))))))))
 refine W_cond Z (fun h1 => ?_) (fun h1 => ?_)
 ·
  simp only [HS] at h1
  refine sQ (rG (eK 3 Z (kZ [4,9,11] Z (WO_idxT tys Z Z (lt_of Z) Z Z Z Z Z Z Z (by omega) _ (getT _ _ (by omega) (by omega)) (eK 2 Z (oN (tN (rT (bR (tR (eR ?_)))))))))))
  ·exact retI (by grind [needsT, atI_at])
 simp only [HS] at h1
 refine sQ (rG (eK 2 Z (callB ?_)))
 refine ⟨_, isReckoned_fun _, rfl, ?_⟩
 refine kZ [4,17] Z (eZ Z (oN (tN ?_)))
 refine W_cond Z (fun h2 => ?_) (fun h2 => ?_)
 ·
  simp only [HS] at h2
  refine sQ (rG (eZ Z (oN (tN (rT (bR (tR (eR ?_))))))))
  ·exact retI (by grind [needsT, atI_at])
 simp only [HS] at h2
 refine W_skip (bN (tN (sQ (rG (eZ Z (oN (tN (rT (eR ?_)))))))))
 ·exact retI (by grind [needsT, atI_at])
theorem maxIf (a b : Int) : (if a < b then b else a) = max a b := by split <;> omega
theorem highOf_fun (l : List Tok) (vars : Int) (ps : List Int) (hv : 0 ≤ vars ∧ vars ≤ 100) (hp : PsOk ps) (hl : l.length ≤ 1048576) : Fun Tryz.prog 213 [.t (T.Toks l), .t (.int vars), .t (T.ints ps)] (tupD [.t (.int (highI vars ps l))]) := by
 have hp1 := hp.1
 refine Fun.begin tys Tryz.func213 Z Z (N := 47) [(0, .t (T.Toks l)), (1, .t (.int vars)), (2, .t (T.ints ps))] Z Z (fun w0 G F0 => ?_)
 refine sQ (rG (eZ Z (oN (tN (sQ (sQ (rG (eZ Z (evE ?_)))))))))
 refine callB ?_
 refine ⟨_, within_fun _ _ _, rfl, ?_⟩
 refine eZ Z (oN (tN ?_))
 refine W_cond Z (fun h1 => ?_) (fun h1 => ?_)
 ·
  simp only [HS] at h1
  refine sQ (rG (eZ Z (oN (tN (rT (tR (eR ?_)))))))
  ·(exact retI (by rw [highI, if_neg (by omega)]); done)
 simp only [HS] at h1
 refine W_skip (tN (sQ (rG (eK 2 Z (oN (tN (sQ (sQ (kY [0,1,2,6,7,8] Z (rG (eZ Z (evE ?_))))))))))))
 refine eZ Z (oN (tN (W_block ?_)))
 refine lK (α := Int × Int × Int) [1, 2, 15, 16] [] (fun x => [(17, .t (.int (x.1))), (8, .t (.int (x.2.1))), (7, .t (.int (x.2.2)))]) (fun x => []) (fun x => 0 ≤ (x.1) ∧ (x.1) ≤ l.length ∧ 0 ≤ (x.2.1) ∧ (x.2.1) ≤ (x.1) ∧ (1 : Int) ≤ l.length ∧ (l.length : Int) ≤ 12 ∧ runE vars ps l 0 0 = runE vars ps (l.drop (x.1).toNat) (x.2.1) (x.2.2)) (fun x => Int.toNat (l.length - (x.1))) (0, 0, 0) ?_ (fun x hx => ?_)
 ·exact ⟨by omega, by omega, Int.le_refl 0, Int.le_refl 0, by omega, by omega, rfl⟩
 obtain ⟨k, h, m⟩ := x
 obtain ⟨hk0, hk1, hh0, hh1, hl0, hl1, he⟩ := hx
 dsimp only at hk0 hk1 hh0 hh1 hl0 hl1 he ⊢
 refine nY Z (sQ (rG (eZ Z (oN (tN (sQ ?_))))))
 refine W_cond Z (fun h2 => ?_) (fun h2 => ?_)
 ·
  simp only [HS] at h2
  refine W_skip (tN (sQ (W_block (sQ (rG (WO_idxT tys Z Z (lt_of Z) Z Z Z Z Z Z Z (by omega) _ (getT _ _ (by omega) (by omega)) (eZ Z ?_)))))))
  try refine WO_le (Le.freeze (u := 20) rfl) ?_
  refine nZ Z (WO_alloc tys Z Z (lt_of Z) Z Z Z (nZ Z (sT Z (nZ Z (oN (tN (sQ (sQ (rG (eZ Z ?_))))))))))
  try refine WO_le (Le.freeze (u := 21) rfl) ?_
  refine nZ Z (eK 2 Z (evE ?_))
  refine kZ [1,2,7,8,10,15,16,17,18,19,20,21,22,23,24] Z (callB ?_)
  refine ⟨_, isTok_fun _ _ _ hv (by omega), rfl, ?_⟩
  refine eK 2 Z ?_
  refine WO_guard Z Z Z Z (lt_of Z) (fun h3 => ?_) (fun h3 => ?_)
  rotate_left
  ·
   simp only [HS] at h3
   refine gM Z (gM Z (gM Z (gM Z (eZ Z (oN (tN (W_condT Z (sQ (kY [1,2,7,8,10,15,16,17,18,19,20,21,22,23,24,25,26,27,28,29,30,31,32,33] Z (rG (eZ Z (oN (tN (rT (tR ?_)))))))))))))))
   refine bR (tR (loopQ_r (bR (tR (eR ?_)))))
   ·exact retI (by rw [highI, if_pos ⟨hl0, hl1⟩, he, runE_at hk0 h2, if_neg (by simp [*]; done)])
  simp only [HS] at h3
  refine eZ Z ?_
  try refine WO_le (Le.freeze (u := 28) rfl) ?_
  refine nZ Z (gY Z (eZ Z (gY Z (callB ?_))))
  refine ⟨_, needs_fun _ _ (known_op h3), rfl, ?_⟩
  refine gY Z (eZ Z (gY Z (eK 2 Z (kZ [1,2,7,8,10,15,16,17,18,19,20,21,22,23,24,25,26,27,28,29,30,31,32,33] Z (oN (tN ?_))))))
  refine W_cond Z (fun h4 => ?_) (fun h4 => ?_)
  ·
   simp only [HS] at h4
   refine sQ (rG (eZ Z (oN (tN (rT (tR (bR (tR (loopQ_r (bR (tR (eR ?_))))))))))))
   ·exact retI (by rw [highI, if_pos ⟨hl0, hl1⟩, he, runE_at hk0 h2, if_neg (by simp [*]; done)])
  simp only [HS] at h4
  refine W_skip (tN (sQ (rG (eK 2 Z ?_))))
  try refine WO_le (Le.freeze (u := 35) rfl) ?_
  refine nZ Z (eZ Z (callB ?_))
  refine ⟨_, needs_fun _ _ (known_op h3), rfl, ?_⟩
  have q := needsT_bnd hp (l[k.toNat]'(by omega))
  refine evI ?_
  refine evI ?_
  refine eZ Z (oN (tN (kY [1,2,7,8,10,15,16,17,18,19,20,21,22,23,24,25,26,27,28,29,30,31,32,33,34,35,36,37,38,39] Z (rG (eK 4 Z (oN (bN (tN (rG (evI ?_))))))))))
  refine eZ Z (oN ?_)
  refine lQ (_, _, _) ?_ ?_
  ·dsimp only
   have q := needsT_bnd hp (l[k.toNat]'(by omega)); exact ⟨by omega, by omega, by omega, by omega, hl0, hl1, by rw [he, runE_at hk0 h2, if_pos (by simp [h3]; omega), maxIf]⟩
  ·(show Int.toNat _ < Int.toNat _); omega
 simp only [HS] at h2
 refine W_exit (tE (loopQ_e (inBlk_y (tN (sQ (sQ (rG (eK 2 Z (oN (tN ?_))))))))))
 refine W_cond Z (fun h3 => ?_) (fun h3 => ?_)
 ·
  simp only [HS] at h3
  refine sQ (rG (eZ Z (oN (tN (rT (tR (eR ?_)))))))
  ·exact retI (by rw [highI, if_pos ⟨hl0, hl1⟩, he, drop_end h2]; simp only [runE]; grind)
 simp only [HS] at h3
 refine W_skip (tN (sQ (rG (eK 2 Z (oN (tN (rT (eR ?_))))))))
 ·exact retI (by rw [highI, if_pos ⟨hl0, hl1⟩, he, drop_end h2]; simp only [runE]; grind)
def ordK (kids : Int → List Int × List Int) : Nat → List Int → List Int
 | 0, _ => []
 | k + 1, b => b.flatMap fun n => n :: (ordK kids k (kids n).1 ++ ordK kids k (kids n).2)
def inB (N i : Int) (b : List Int) : Prop := ∀ x, x ∈ b → i ≤ x ∧ x < N
def downB (N : Int) (kids : Int → List Int × List Int) : Prop := ∀ m, 0 ≤ m → m < N → inB N (m + 1) (kids m).1 ∧ inB N (m + 1) (kids m).2
theorem flatMap_congr' {α β : Type} {f g : α → List β} : ∀ {l : List α}, (∀ x, x ∈ l → f x = g x) → l.flatMap f = l.flatMap g
 | [], _ => rfl
 | x :: l, h => by rw [List.flatMap_cons, List.flatMap_cons, h x (List.mem_cons_self ..), flatMap_congr' fun y hy => h y (List.mem_cons_of_mem _ hy)]
theorem ordK_same {N : Int} {kids : Int → List Int × List Int} (hd : downB N kids) : ∀ (k k' : Nat) {i : Int} {b : List Int}, 0 ≤ i → inB N i b → N - i ≤ k → N - i ≤ k' → ordK kids k b = ordK kids k' b
 | 0, k', i, b, h0, hb, h1, h2 => by
  have : b = [] := by
   cases b with
   | nil => rfl
   | cons x b => have := hb x (List.mem_cons_self ..); omega
  subst this
  cases k' <;> simp [ordK]
 | k + 1, 0, i, b, h0, hb, h1, h2 => by
  have : b = [] := by
   cases b with
   | nil => rfl
   | cons x b => have := hb x (List.mem_cons_self ..); omega
  subst this
  simp [ordK]
 | k + 1, k' + 1, i, b, h0, hb, h1, h2 => by
  rw [ordK, ordK]
  refine flatMap_congr' fun n hn => ?_
  have h3 := hb n hn
  have h4 := hd n (by omega) h3.2
  rw [ordK_same hd k k' (by omega) h4.1 (by omega) (by omega), ordK_same hd k k' (by omega) h4.2 (by omega) (by omega)]
def ord (N : Int) (kids : Int → List Int × List Int) (b : List Int) : List Int := ordK kids N.toNat b
theorem ord_nil {N : Int} {kids : Int → List Int × List Int} : ord N kids [] = [] := by
 unfold ord; cases N.toNat <;> simp [ordK]
theorem ord_cons {N : Int} {kids : Int → List Int × List Int} (hd : downB N kids) {n : Int} {b : List Int} (hb : inB N 0 (n :: b)) : ord N kids (n :: b) = n :: (ord N kids (kids n).1 ++ ord N kids (kids n).2) ++ ord N kids b := by
 have h1 := hb n (List.mem_cons_self ..)
 have h2 := hd n h1.1 h1.2
 have h0 : inB N 0 b := fun x hx => hb x (List.mem_cons_of_mem _ hx)
 have up : ∀ {c : List Int}, inB N (n + 1) c → ordK kids N.toNat c = ord N kids c := fun h => rfl
 obtain ⟨k, hk⟩ : ∃ k, N.toNat = k + 1 := ⟨N.toNat - 1, by omega⟩
 unfold ord
 rw [hk, ordK, List.flatMap_cons]
 congr 1
 ·rw [ordK_same hd k (k + 1) (by omega) h2.1 (by omega) (by omega), ordK_same hd k (k + 1) (by omega) h2.2 (by omega) (by omega)]
theorem inB_lower {N i j : Int} {b : List Int} (h : inB N i b) (hj : j ≤ i) : inB N j b := fun x hx => by have := h x hx; omega
theorem ord_ind {N : Int} {kids : Int → List Int × List Int} (hd : downB N kids) {p : List Int → List Int → Prop} (h0 : p [] [])
  (h1 : ∀ n b, 0 ≤ n → n < N → inB N 0 b → p (kids n).1 (ord N kids (kids n).1) → p (kids n).2 (ord N kids (kids n).2) → p b (ord N kids b) → p (n :: b) (n :: (ord N kids (kids n).1 ++ ord N kids (kids n).2) ++ ord N kids b)) :
  ∀ (k : Nat) (i : Int) (b : List Int), 0 ≤ i → N - i ≤ k → inB N i b → p b (ord N kids b)
 | 0, i, b, hi, hk, hb => by
  have : b = [] := by
   cases b with
   | nil => rfl
   | cons x b => have := hb x (List.mem_cons_self ..); omega
  subst this
  rw [ord_nil]; exact h0
 | k + 1, i, [], hi, hk, hb => by rw [ord_nil]; exact h0
 | k + 1, i, n :: b, hi, hk, hb => by
  have h2 := hb n (List.mem_cons_self ..)
  have h3 := hd n (by omega) h2.2
  have hb' : inB N i b := fun x hx => hb x (List.mem_cons_of_mem _ hx)
  rw [ord_cons hd (inB_lower hb hi)]
  exact h1 n b (by omega) h2.2 (inB_lower hb' hi) (ord_ind hd h0 h1 k (n + 1) _ (by omega) (by omega) h3.1) (ord_ind hd h0 h1 k (n + 1) _ (by omega) (by omega) h3.2) (ord_ind hd h0 h1 (k + 1) i b hi hk hb')
termination_by k _ b => (k, b.length)
theorem ord_ind' {N : Int} {kids : Int → List Int × List Int} (hd : downB N kids) {p : List Int → List Int → Prop} (h0 : p [] [])
  (h1 : ∀ n b, 0 ≤ n → n < N → inB N 0 b → p (kids n).1 (ord N kids (kids n).1) → p (kids n).2 (ord N kids (kids n).2) → p b (ord N kids b) → p (n :: b) (n :: (ord N kids (kids n).1 ++ ord N kids (kids n).2) ++ ord N kids b))
  {b : List Int} (hb : inB N 0 b) : p b (ord N kids b) := ord_ind hd h0 h1 N.toNat 0 b (by omega) (by omega) hb
def both (kids : Int → List Int × List Int) (m : Int) : List Int := (kids m).1 ++ (kids m).2
theorem ord_range {N : Int} {kids : Int → List Int × List Int} (hd : downB N kids) {b : List Int} (hb : inB N 0 b) : inB N 0 (ord N kids b) :=
 ord_ind' hd (p := fun _ o => inB N 0 o) (fun x hx => by cases hx) (fun n b h1 h2 _ i1 i2 i3 x hx => by
  simp only [List.cons_append, List.mem_cons, List.mem_append] at hx
  rcases hx with rfl | (hx | hx) | hx
  ·exact ⟨h1, h2⟩
  ·exact i1 x hx
  ·exact i2 x hx
  ·exact i3 x hx) hb
theorem ord_count {N : Int} {kids : Int → List Int × List Int} (hd : downB N kids) {b : List Int} (hb : inB N 0 b) (x : Int) : (ord N kids b).count x = b.count x + ((ord N kids b).flatMap (both kids)).count x :=
 ord_ind' hd (p := fun b o => o.count x = b.count x + (o.flatMap (both kids)).count x) rfl (fun n b h1 h2 _ i1 i2 i3 => by
  simp only [List.cons_append, List.flatMap_cons, List.flatMap_append, List.count_cons, List.count_append, both] at *
  omega) hb
theorem ord_sub {N : Int} {kids : Int → List Int × List Int} (hd : downB N kids) {b : List Int} (hb : inB N 0 b) : b.Sublist (ord N kids b) :=
 ord_ind' hd (p := fun b o => b.Sublist o) (List.Sublist.refl _) (fun n b h1 h2 _ i1 i2 i3 => by
  rw [List.cons_append]
  exact (i3.trans (List.sublist_append_right _ _)).cons_cons n) hb
theorem ord_subs {N : Int} {kids : Int → List Int × List Int} (hd : downB N kids) {b : List Int} (hb : inB N 0 b) (m : Int) (hm : m ∈ ord N kids b) : (kids m).1.Sublist (ord N kids b) ∧ (kids m).2.Sublist (ord N kids b) :=
 ord_ind' hd (p := fun b o => m ∈ o → (kids m).1.Sublist o ∧ (kids m).2.Sublist o) (fun h => by cases h) (fun n b h1 h2 _ i1 i2 i3 hm => by
  have hk := hd n h1 h2
  simp only [List.cons_append, List.mem_cons, List.mem_append] at hm ⊢
  have s1 : (ord N kids (kids n).1).Sublist (n :: ((ord N kids (kids n).1 ++ ord N kids (kids n).2) ++ ord N kids b)) := ((List.sublist_append_left _ _).trans (List.sublist_append_left _ _)).cons n
  have s2 : (ord N kids (kids n).2).Sublist (n :: ((ord N kids (kids n).1 ++ ord N kids (kids n).2) ++ ord N kids b)) := ((List.sublist_append_right _ _).trans (List.sublist_append_left _ _)).cons n
  have s3 : (ord N kids b).Sublist (n :: ((ord N kids (kids n).1 ++ ord N kids (kids n).2) ++ ord N kids b)) := (List.sublist_append_right _ _).cons n
  rcases hm with rfl | (hm | hm) | hm
  ·exact ⟨(ord_sub hd (inB_lower hk.1 (by omega))).trans s1, (ord_sub hd (inB_lower hk.2 (by omega))).trans s2⟩
  ·have := i1 hm; exact ⟨this.1.trans s1, this.2.trans s1⟩
  ·have := i2 hm; exact ⟨this.1.trans s2, this.2.trans s2⟩
  ·have := i3 hm; exact ⟨this.1.trans s3, this.2.trans s3⟩) hb hm
def upto (N : Nat) : List Int := (List.range N).map fun (k : Nat) => (k : Int)
theorem mem_upto {N : Nat} {x : Int} : x ∈ upto N ↔ 0 ≤ x ∧ x < N := by
 unfold upto
 rw [List.mem_map]
 constructor
 ·rintro ⟨k, hk, rfl⟩; have := List.mem_range.1 hk; omega
 ·intro h; exact ⟨x.toNat, List.mem_range.2 (by omega), by omega⟩
theorem upto_lt (N : Nat) : (upto N).Pairwise (· < ·) := by
 unfold upto
 rw [List.pairwise_map]
 exact List.Pairwise.imp (fun h => by omega) List.pairwise_lt_range
theorem count_upto {N : Nat} {x : Int} (h : 0 ≤ x) (h' : x < N) : (upto N).count x = 1 := by
 have hn : (upto N).Nodup := (upto_lt N).imp fun h e => by omega
 have h2 := List.nodup_iff_count.1 hn x
 have h3 := List.count_pos_iff.2 (mem_upto.2 ⟨h, h'⟩)
 omega
def allB (N : Nat) (kids : Int → List Int × List Int) (body : List Int) : List Int := body ++ (upto N).flatMap (both kids)
theorem once_of_ord {N : Nat} {kids : Int → List Int × List Int} (hd : downB N kids) {body : List Int} (hb : inB N 0 body) (ho : ord N kids body = upto N) :
  (∀ x : Int, 0 ≤ x → x < N → (allB N kids body).count x = 1) ∧ body.Pairwise (· < ·) ∧ ∀ m : Int, 0 ≤ m → m < N → (kids m).1.Pairwise (· < ·) ∧ (kids m).2.Pairwise (· < ·) := by
 refine ⟨fun x h0 h1 => ?_, (ho ▸ upto_lt N : (ord N kids body).Pairwise (· < ·)).sublist (ord_sub hd hb), fun m h0 h1 => ?_⟩
 ·have := ord_count hd hb x
  rw [ho, count_upto h0 h1] at this
  unfold allB
  rw [List.count_append]
  omega
 ·have := ord_subs hd hb m (ho ▸ mem_upto.2 ⟨h0, h1⟩)
  rw [ho] at this
  exact ⟨(upto_lt N).sublist this.1, (upto_lt N).sublist this.2⟩
theorem count_flat_sub {f : Int → List Int} {x : Int} : ∀ {l : List Int}, (l.flatMap f).count x = ((l.filter fun m => decide (x ∈ f m)).flatMap f).count x
 | [] => rfl
 | m :: l => by
  rw [List.flatMap_cons, List.count_append, count_flat_sub (l := l), List.filter_cons]
  split
  ·rw [List.flatMap_cons, List.count_append]
  ·rename_i h
   have : x ∉ f m := by simpa using h
   rw [List.count_eq_zero_of_not_mem this]; omega
theorem ord_once {N : Nat} {kids : Int → List Int × List Int} (hd : downB N kids) {body : List Int} (hb : inB N 0 body) (ha : ∀ x : Int, 0 ≤ x → x < N → (allB N kids body).count x = 1) :
  ∀ (k : Nat) (x : Int), x < k → 0 ≤ x → x < N → (ord N kids body).count x = 1
 | 0, x, h, h0, _ => by omega
 | k + 1, x, h, h0, h1 => by
  have h2 := ord_count hd hb x
  have h3 := ha x h0 h1
  unfold allB at h3
  rw [List.count_append] at h3
  have hp : ((ord N kids body).filter fun m => decide (x ∈ both kids m)).Perm ((upto N).filter fun m => decide (x ∈ both kids m)) := by
   rw [List.perm_iff_count]
   intro m
   by_cases hx : x ∈ both kids m
   ·rw [List.count_filter (by simpa using hx), List.count_filter (by simpa using hx)]
    by_cases hm : 0 ≤ m ∧ m < N
    ·have hk := hd m hm.1 hm.2
     have hlt : m < x := by
      rcases List.mem_append.1 hx with hx | hx
      ·have := hk.1 x hx; omega
      ·have := hk.2 x hx; omega
     rw [ord_once hd hb ha k m (by omega) hm.1 hm.2, count_upto hm.1 hm.2]
    ·rw [List.count_eq_zero_of_not_mem fun h => hm (by have := ord_range hd hb m h; omega), List.count_eq_zero_of_not_mem fun h => hm (mem_upto.1 h)]
   ·rw [List.count_eq_zero_of_not_mem, List.count_eq_zero_of_not_mem]
    ·intro h; have := (List.mem_filter.1 h).2; exact hx (by simpa using this)
    ·intro h; have := (List.mem_filter.1 h).2; exact hx (by simpa using this)
  have h4 : ((ord N kids body).flatMap (both kids)).count x = ((upto N).flatMap (both kids)).count x := by
   rw [count_flat_sub, count_flat_sub (l := upto N)]
   exact (hp.flatMap_right _).count_eq x
  omega
theorem ord_len {N : Nat} {kids : Int → List Int × List Int} (hd : downB N kids) {body : List Int} (hb : inB N 0 body) (ha : ∀ x : Int, 0 ≤ x → x < N → (allB N kids body).count x = 1) : (ord N kids body).Perm (upto N) := by
 rw [List.perm_iff_count]
 intro x
 by_cases hx : 0 ≤ x ∧ x < N
 ·rw [ord_once hd hb ha N x hx.2 hx.1 hx.2, count_upto hx.1 hx.2]
 ·rw [List.count_eq_zero_of_not_mem fun h => hx (by have := ord_range hd hb x h; omega), List.count_eq_zero_of_not_mem fun h => hx (mem_upto.1 h)]
open Go.Eng
def sitesF : List Stmt → Int → List Int
 | [], _ => []
 | s :: l, k => if s.kind = 3 then k :: sitesF l (k + 1) else sitesF l (k + 1)
theorem sitesF_at {l : List Stmt} {k : Int} (h0 : 0 ≤ k) (h1 : k < l.length) : sitesF (l.drop k.toNat) k = if (l[k.toNat]'(by omega)).kind = 3 then k :: sitesF (l.drop (k + 1).toNat) (k + 1) else sitesF (l.drop (k + 1).toNat) (k + 1) := by
 rw [drop_at h0 h1, sitesF]
theorem l3Sites_fun (f : Func) (hf : f.ok 1048576) : Fun Tryz.prog 154 [.t f.tt] (tupD [.own (T.ints (sitesF f.stmts 0))]) := by
 have hl : f.stmts.length ≤ 1048576 := hf.2.1.1
 refine Fun.begin tys Tryz.func154 Z Z (N := 23) [(0, .t f.tt)] Z Z (fun w0 G F0 => ?_)
 refine sQ (rG (WO_box Z Z (lt_of Z) Z Z (nZ Z (eZ Z (oN (tN (sQ (rG (eZ Z (WO_le (Le.nilOwn (u := 3) 1 Z) (WO_le (Le.adoptE (u := 3) 3 Z Z) (nZ Z (oN (tN (sQ ?_)))))))))))))))
 refine sQ (rG (eK 2 Z (evE ?_)))
 refine eZ Z (oN (tN (W_block ?_)))
 refine lK (α := Int × Nat × List T) [7, 8] [] (fun x => [(9, .t (.int (x.1))), (3, .sl 3 0 (x.2.1))]) (fun x => [(3, .L 1 (x.2.2))]) (fun x => 0 ≤ (x.1) ∧ (x.1) ≤ f.stmts.length ∧ (x.2.1) = (x.2.2).length ∧ (x.2.2).length ≤ (x.1) ∧ ∃ done : List Int, (x.2.2) = done.map T.int ∧ sitesF f.stmts 0 = done ++ sitesF (f.stmts.drop (x.1).toNat) (x.1)) (fun x => Int.toNat (f.stmts.length - (x.1))) (0, 0, []) ?_ (fun x hx => ?_)
 ·exact ⟨by omega, by omega, rfl, Int.le_refl 0, [], rfl, rfl⟩
 obtain ⟨k, m, xs⟩ := x
 obtain ⟨hk0, hk1, hm, hx, done, hd, he⟩ := hx
 dsimp only at hk0 hk1 hm hx hd he ⊢
 refine nY Z (sQ (rG (eZ Z (oN (tN (sQ ?_))))))
 refine W_cond Z (fun h1 => ?_) (fun h1 => ?_)
 ·
  simp only [HS] at h1
  refine W_skip (tN (sQ (W_block (sQ (rG (eZ Z (WO_idxT tys Z Z (lt_of Z) Z Z Z Z Z Z Z (by omega) _ (getT _ _ (by omega) (by omega)) (eZ Z ?_))))))))
  try refine WO_le (Le.freeze (u := 13) rfl) ?_
  refine nZ Z (WO_alloc tys Z Z (lt_of Z) Z Z Z (nZ Z (eZ Z (sT Z (nZ Z (oN (tN (sQ (kY [3,4,5,7,8,9,10,11,12,13] Z (rG (eK 3 Z (oN (tN ?_)))))))))))))
  refine W_cond Z (fun h2 => ?_) (fun h2 => ?_)
  ·
   simp only [HS] at h2
   refine rG (eK 2 Z ?_)
   refine WO_buildSlice tys [T.int k] Z Z (lt_of Z) Z Z Z Z Z (lt_of Z) (by repeat (first | exact PartsOk.nil' | refine PartsOk.cons' rfl (by repeat (first | exact AbsL.nil' | refine AbsL.v' ?_ | refine AbsL.own' ?_ | refine AbsL.none' ?_)) Z ?_)) (by first | exact List.nodup_nil | exact nodup1 _ | decide | exact nodupB_sound Z) Z (by decide) ?_
   refine nZ Z (WO_append tys Z Z (lt_of Z) Z Z Z Z Z (.own Z (by first | omega | (simp only [List.length_append]; omega))) Z (.own Z (by first | decide | omega)) (by decide) (by simp only [List.length_take, List.length_cons, List.length_nil]; omega) (by decide) Z ?_)
   refine nZ Z (eZ Z (oN (bN (tN (kY [3,4,5,7,8,9,10,11,12,13,14,15,16,17,18,19,20] Z (rG (evI ?_)))))))
   refine eZ Z (oN ?_)
   refine lQ (_, _, _) ?_ ?_
   ·dsimp only
    rw [sitesF_at hk0 h1] at he
    subst hm
    first
    | (refine ⟨by omega, by omega, by simp, by simp; omega, done ++ [k], by rw [List.take_length, hd]; simp, ?_⟩; rw [he, if_pos (by assumption)]; simp; done)
   ·(show Int.toNat _ < Int.toNat _); omega
  simp only [HS] at h2
  refine W_skip (bN (tN (rG (evI ?_))))
  refine eZ Z (oN ?_)
  refine lQ (_, _, _) ?_ ?_
  ·dsimp only
   rw [sitesF_at hk0 h1] at he
   subst hm
   first
   | (refine ⟨by omega, by omega, rfl, by omega, done, hd, ?_⟩; rw [he, if_neg (by assumption)]; done)
  ·(show Int.toNat _ < Int.toNat _); omega
 simp only [HS] at h1
 refine W_exit (tE (loopQ_e (inBlk_y (tN (sQ (rG (eK 2 Z (oN (tN (W_le (Le.gather (u := 2) (id := 3) Z Z (by omega)) (rT (eR ?_))))))))))))
 ·(rw [he, drop_end h1, sitesF, List.append_nil, hm, List.take_length, hd]; rfl)
theorem sitesOf_fun (f : Func) (hf : f.ok 1048576) : Fun Tryz.prog 209 [.t f.tt] (tupD [.own (T.ints (sitesF f.stmts 0))]) := by
 have hl : f.stmts.length ≤ 1048576 := hf.2.1.1
 refine Fun.begin tys Tryz.func209 Z Z (N := 23) [(0, .t f.tt)] Z Z (fun w0 G F0 => ?_)
 refine sQ (rG (WO_box Z Z (lt_of Z) Z Z (nZ Z (eZ Z (oN (tN (sQ (rG (eZ Z (WO_le (Le.nilOwn (u := 3) 1 Z) (WO_le (Le.adoptE (u := 3) 3 Z Z) (nZ Z (oN (tN (sQ ?_)))))))))))))))
 refine sQ (rG (eK 2 Z (evE ?_)))
 refine eZ Z (oN (tN (W_block ?_)))
 refine lK (α := Int × Nat × List T) [7, 8] [] (fun x => [(9, .t (.int (x.1))), (3, .sl 3 0 (x.2.1))]) (fun x => [(3, .L 1 (x.2.2))]) (fun x => 0 ≤ (x.1) ∧ (x.1) ≤ f.stmts.length ∧ (x.2.1) = (x.2.2).length ∧ (x.2.2).length ≤ (x.1) ∧ ∃ done : List Int, (x.2.2) = done.map T.int ∧ sitesF f.stmts 0 = done ++ sitesF (f.stmts.drop (x.1).toNat) (x.1)) (fun x => Int.toNat (f.stmts.length - (x.1))) (0, 0, []) ?_ (fun x hx => ?_)
 ·exact ⟨by omega, by omega, rfl, Int.le_refl 0, [], rfl, rfl⟩
 obtain ⟨k, m, xs⟩ := x
 obtain ⟨hk0, hk1, hm, hx, done, hd, he⟩ := hx
 dsimp only at hk0 hk1 hm hx hd he ⊢
 refine nY Z (sQ (rG (eZ Z (oN (tN (sQ ?_))))))
 refine W_cond Z (fun h1 => ?_) (fun h1 => ?_)
 ·
  simp only [HS] at h1
  refine W_skip (tN (sQ (W_block (sQ (rG (eZ Z (WO_idxT tys Z Z (lt_of Z) Z Z Z Z Z Z Z (by omega) _ (getT _ _ (by omega) (by omega)) (eZ Z ?_))))))))
  try refine WO_le (Le.freeze (u := 13) rfl) ?_
  refine nZ Z (WO_alloc tys Z Z (lt_of Z) Z Z Z (nZ Z (eZ Z (sT Z (nZ Z (oN (tN (sQ (kY [3,4,5,7,8,9,10,11,12,13] Z (rG (eK 3 Z (oN (tN ?_)))))))))))))
  refine W_cond Z (fun h2 => ?_) (fun h2 => ?_)
  ·
   simp only [HS] at h2
   refine rG (eK 2 Z ?_)
   refine WO_buildSlice tys [T.int k] Z Z (lt_of Z) Z Z Z Z Z (lt_of Z) (by repeat (first | exact PartsOk.nil' | refine PartsOk.cons' rfl (by repeat (first | exact AbsL.nil' | refine AbsL.v' ?_ | refine AbsL.own' ?_ | refine AbsL.none' ?_)) Z ?_)) (by first | exact List.nodup_nil | exact nodup1 _ | decide | exact nodupB_sound Z) Z (by decide) ?_
   refine nZ Z (WO_append tys Z Z (lt_of Z) Z Z Z Z Z (.own Z (by first | omega | (simp only [List.length_append]; omega))) Z (.own Z (by first | decide | omega)) (by decide) (by simp only [List.length_take, List.length_cons, List.length_nil]; omega) (by decide) Z ?_)
   refine nZ Z (eZ Z (oN (bN (tN (kY [3,4,5,7,8,9,10,11,12,13,14,15,16,17,18,19,20] Z (rG (evI ?_)))))))
   refine eZ Z (oN ?_)
   refine lQ (_, _, _) ?_ ?_
   ·dsimp only
    rw [sitesF_at hk0 h1] at he
    subst hm
    first
    | (refine ⟨by omega, by omega, by simp, by simp; omega, done ++ [k], by rw [List.take_length, hd]; simp, ?_⟩; rw [he, if_pos (by assumption)]; simp; done)
   ·(show Int.toNat _ < Int.toNat _); omega
  simp only [HS] at h2
  refine W_skip (bN (tN (rG (evI ?_))))
  refine eZ Z (oN ?_)
  refine lQ (_, _, _) ?_ ?_
  ·dsimp only
   rw [sitesF_at hk0 h1] at he
   subst hm
   first
   | (refine ⟨by omega, by omega, rfl, by omega, done, hd, ?_⟩; rw [he, if_neg (by assumption)]; done)
  ·(show Int.toNat _ < Int.toNat _); omega
 simp only [HS] at h1
 refine W_exit (tE (loopQ_e (inBlk_y (tN (sQ (rG (eK 2 Z (oN (tN (W_le (Le.gather (u := 2) (id := 3) Z Z (by omega)) (rT (eR ?_))))))))))))
 ·(rw [he, drop_end h1, sitesF, List.append_nil, hm, List.take_length, hd]; rfl)
theorem l3Params_fun (p : Prog) (hp : p.ok 1048576) : Fun Tryz.prog 152 [.t p.tt] (tupD [.own (T.ints (p.funcs.map (·.params)))]) := by
 have hl : p.funcs.length ≤ 1048576 := hp.1.1
 refine Fun.begin tys Tryz.func152 Z Z (N := 20) [(0, .t p.tt)] Z Z (fun w0 G F0 => ?_)
 refine sQ (rG (WO_box Z Z (lt_of Z) Z Z (nZ Z (eZ Z (oN (tN (sQ (rG (eZ Z (WO_le (Le.nilOwn (u := 3) 1 Z) (WO_le (Le.adoptE (u := 3) 3 Z Z) (nZ Z (oN (tN (sQ ?_)))))))))))))))
 refine sQ (rG (eK 2 Z (evE ?_)))
 refine eZ Z (oN (tN (W_block ?_)))
 refine lK (α := Int × Nat × List T) [7, 8] [] (fun x => [(9, .t (.int (x.1))), (3, .sl 3 0 (x.2.1))]) (fun x => [(3, .L 1 (x.2.2))]) (fun x => 0 ≤ (x.1) ∧ (x.1) ≤ p.funcs.length ∧ (x.2.1) = (x.2.2).length ∧ (x.2.2).length ≤ (x.1) ∧ (x.2.2) = ((p.funcs.map (·.params)).take (x.1).toNat).map T.int) (fun x => Int.toNat (p.funcs.length - (x.1))) (0, 0, []) ?_ (fun x hx => ?_)
 ·exact ⟨by omega, by omega, rfl, Int.le_refl 0, rfl⟩
 obtain ⟨k, m, xs⟩ := x
 obtain ⟨hk0, hk1, hm, hx, hd⟩ := hx
 dsimp only at hk0 hk1 hm hx hd ⊢
 refine nY Z (sQ (rG (eZ Z (oN (tN (sQ ?_))))))
 refine W_cond Z (fun h1 => ?_) (fun h1 => ?_)
 ·
  simp only [HS] at h1
  refine W_skip (tN (sQ (W_block (sQ (rG (WO_idxT tys Z Z (lt_of Z) Z Z Z Z Z Z Z (by omega) _ (getT _ _ (by omega) (by omega)) (eZ Z ?_)))))))
  try refine WO_le (Le.freeze (u := 12) rfl) ?_
  refine nZ Z (WO_alloc tys Z Z (lt_of Z) Z Z Z (nZ Z (sT Z (nZ Z (oN (tN (rG (eK 3 Z ?_))))))))
  refine WO_buildSlice tys [T.int (p.funcs[k.toNat]'(by omega)).params] Z Z (lt_of Z) Z Z Z Z Z (lt_of Z) (by repeat (first | exact PartsOk.nil' | refine PartsOk.cons' rfl (by repeat (first | exact AbsL.nil' | refine AbsL.v' ?_ | refine AbsL.own' ?_ | refine AbsL.none' ?_)) Z ?_)) (by first | exact List.nodup_nil | exact nodup1 _ | decide | exact nodupB_sound Z) Z (by decide) ?_
  refine nZ Z (kZ [3,5,7,8,9,10,11,12,13,14,15,16] Z (WO_append tys Z Z (lt_of Z) Z Z Z Z Z (.own Z (by first | omega | (simp only [List.length_append]; omega))) Z (.own Z (by first | decide | omega)) (by decide) (by simp only [List.length_take, List.length_cons, List.length_nil]; omega) (by decide) Z ?_))
  refine nZ Z (eZ Z (oN (bN (tN (rG (evI ?_))))))
  refine eZ Z (oN ?_)
  refine lQ (_, _, _) ?_ ?_
  ·dsimp only
   subst hm
   refine ⟨by omega, by omega, by simp, by simp; omega, ?_⟩
   rw [List.take_length, hd, take_at hk0 (by simp; omega), List.map_append]; simp
  ·(show Int.toNat _ < Int.toNat _); omega
 simp only [HS] at h1
 refine W_exit (tE (loopQ_e (inBlk_y (tN (sQ (rG (eK 2 Z (oN (tN (W_le (Le.gather (u := 2) (id := 3) Z Z (by omega)) (rT (eR ?_))))))))))))
 ·(rw [hm, List.take_length, hd, take_end (by simp; omega)]; rfl)
theorem paramsOf_fun (p : Prog) (hp : p.ok 1048576) : Fun Tryz.prog 169 [.t p.tt] (tupD [.own (T.ints (p.funcs.map (·.params)))]) := by
 have hl : p.funcs.length ≤ 1048576 := hp.1.1
 refine Fun.begin tys Tryz.func169 Z Z (N := 25) [(0, .t p.tt)] Z Z (fun w0 G F0 => ?_)
 refine sQ (rG (WO_box Z Z (lt_of Z) Z Z (nZ Z (eZ Z (oN (tN (sQ (rG (eK 2 Z (evE ?_))))))))))
 refine WO_make tys (.v (.int .i64 0)) _ Z Z (lt_of Z) Z Z Z Z Z (by repeat (first | exact AbsL.nil' | refine AbsL.v' ?_ | refine AbsL.none' ?_)) Z (by omega) (by decide) ?_
 refine nZ Z (eZ Z (oN (tN (sQ (sQ (kY [1,2,3] Z (rG (eK 2 Z (evE ?_)))))))))
 refine eZ Z (oN (tN (W_block ?_)))
 refine lK (α := Int × List T) [11, 12] [] (fun x => [(13, .t (.int (x.1))), (3, .sl 9 0 p.funcs.length)]) (fun x => [(9, .L 1 (x.2))]) (fun x => 0 ≤ (x.1) ∧ (x.1) ≤ p.funcs.length ∧ (x.2).length = p.funcs.length ∧ (x.2).take (x.1).toNat = ((p.funcs.map (·.params)).take (x.1).toNat).map T.int) (fun x => Int.toNat (p.funcs.length - (x.1))) (0, List.replicate p.funcs.length (T.int 0)) ?_ (fun x hx => ?_)
 ·exact ⟨by omega, by omega, by simp, by simp⟩
 obtain ⟨k, xs⟩ := x
 obtain ⟨hk0, hk1, hm, hd⟩ := hx
 dsimp only at hk0 hk1 hm hd ⊢
 refine nY Z (sQ (rG (eZ Z (oN (tN (sQ ?_))))))
 refine W_cond Z (fun h1 => ?_) (fun h1 => ?_)
 ·
  simp only [HS] at h1
  refine W_skip (tN (sQ (W_block (sQ (rG (eZ Z (WO_idxT tys Z Z (lt_of Z) Z Z Z Z Z Z Z (by omega) _ (getT _ _ (by omega) (by omega)) (eZ Z ?_))))))))
  try refine WO_le (Le.freeze (u := 17) rfl) ?_
  refine nZ Z (WO_alloc tys Z Z (lt_of Z) Z Z Z (nZ Z (eZ Z (sT Z (nZ Z (oN (tN (kY [3,4,5,11,12,13,14,15,16,17] Z (rG (eK 4 Z (WO_idxS tys Z Z (lt_of Z) Z Z Z Z Z Z Z Z (by omega) (by omega) ?_)))))))))))
  refine WO_storeE tys (.v (.int .i64 _)) Z Z Z Z Z Z (by first | exact Nat.zero_add _ | rfl) (by omega) Z (by repeat (first | exact AbsL.nil' | refine AbsL.v' ?_ | refine AbsL.own' ?_)) Z Z Z ?_
  refine nZ Z (oN (bN (tN (rG (evI ?_)))))
  refine eZ Z (oN ?_)
  refine lQ (_, _) ?_ ?_
  ·dsimp only
   have q := fill_step (g := T.int) (l := p.funcs.map (·.params)) hk0 (by simp; omega) (by simpa using hm) hd
   exact ⟨by omega, by omega, by simpa using hm, by simpa using q⟩
  ·(show Int.toNat _ < Int.toNat _); omega
 simp only [HS] at h1
 refine W_exit (tE (loopQ_e (inBlk_y (tN (sQ (rG (eK 2 Z (oN (tN (W_le (Le.gather (u := 2) (id := 9) Z Z (by omega)) (rT (eR ?_))))))))))))
 ·(rw [List.take_of_length_le (by omega), fill_end (l := p.funcs.map (·.params)) (by simp; omega) (by simpa using hm) hd]; rfl)
end Go.Proofs.YtimpganophnehaaGreat
