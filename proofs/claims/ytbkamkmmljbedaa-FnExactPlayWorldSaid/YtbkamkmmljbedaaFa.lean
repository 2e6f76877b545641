/- Walks and laws of the claim. -/
import Derived.Test.YtbkamkmmljbedaaTy
import Derived.Test.YtbkamkmmljbedaaRows
import Derived.Test.YtbkamkmmljbedaaMb
import Derived.Test.YtbkamkmmljbedaaRows
set_option linter.unusedVariables false
set_option linter.unusedSimpArgs false
set_option maxRecDepth 10000
set_option maxHeartbeats 2000000
namespace Go.Proofs.Ytbkamkmmljbedaa
open Go.Eng
open Go.Eng
theorem l1In_fun (n lo hi : Int) : Fun Try.prog 76 [.t (.int n), .t (.int lo), .t (.int hi)] (tupD [.t (.bool (decide (lo ≤ n ∧ n ≤ hi)))]) := by
 refine Fun.begin tys Try.func76 Z Z (N := 15) [(0, .t (.int n)), (1, .t (.int lo)), (2, .t (.int hi))] Z Z (fun w0 G F0 => ?_)
 refine sQ (rG (eZ Z (oN (tN (sQ (rG (eK 4 Z ?_)))))))
 refine WO_guard Z Z Z Z (lt_of Z) (fun h1 => ?_) (fun h1 => ?_)
 rotate_left
 ·
  simp only [HS] at h1
  refine gM Z (gM Z (eK 2 Z (kZ [6] Z (oN (tN (rT (eR ?_)))))))
  ·(simp_all <;> omega)
 simp only [HS] at h1
 refine eZ Z (gY Z (eZ Z (gY Z (eK 2 Z (kZ [6,14] Z (eZ Z (oN (tN (rT (eR ?_))))))))))
 ·(simp_all <;> omega)
theorem within_fun (n lo hi : Int) : Fun Try.prog 68 [.t (.int n), .t (.int lo), .t (.int hi)] (tupD [.t (.bool (decide (lo ≤ n ∧ n ≤ hi)))]) := by
 refine Fun.begin tys Try.func68 Z Z (N := 15) [(0, .t (.int n)), (1, .t (.int lo)), (2, .t (.int hi))] Z Z (fun w0 G F0 => ?_)
 refine sQ (rG (eZ Z (oN (tN (sQ (rG (eK 4 Z ?_)))))))
 refine WO_guard Z Z Z Z (lt_of Z) (fun h1 => ?_) (fun h1 => ?_)
 rotate_left
 ·
  simp only [HS] at h1
  refine gM Z (gM Z (eK 2 Z (kZ [6] Z (oN (tN (rT (eR ?_)))))))
  ·(simp_all <;> omega)
 simp only [HS] at h1
 refine eZ Z (gY Z (eZ Z (gY Z (eK 2 Z (kZ [6,14] Z (eZ Z (oN (tN (rT (eR ?_))))))))))
 ·(simp_all <;> omega)
def allIn (l : List Int) (lo hi : Int) : Bool := l.all fun n => decide (lo ≤ n ∧ n ≤ hi)
theorem allIn_step {l : List Int} {lo hi k : Int} (h0 : 0 ≤ k) (h1 : k < l.length) (h : allIn (l.take k.toNat) lo hi = true) (h2 : lo ≤ l[k.toNat]'(by omega) ∧ l[k.toNat]'(by omega) ≤ hi) : allIn (l.take (k + 1).toNat) lo hi = true := by
 rw [show (k + 1).toNat = k.toNat + 1 from by omega, List.take_add_one, List.getElem?_eq_getElem (by omega)]
 unfold allIn at *
 rw [List.all_append, h]
 simpa using h2
theorem allIn_no {l : List Int} {lo hi k : Int} (h0 : 0 ≤ k) (h1 : k < l.length) (h2 : ¬ (lo ≤ l[k.toNat]'(by omega) ∧ l[k.toNat]'(by omega) ≤ hi)) : allIn l lo hi = false := by
 unfold allIn
 rw [List.all_eq_false]
 exact ⟨l[k.toNat]'(by omega), List.getElem_mem _, by simpa using h2⟩
theorem allIn_yes {l : List Int} {lo hi k : Int} (h : allIn (l.take k.toNat) lo hi = true) (h0 : 0 ≤ k) (h1 : (l.length : Int) ≤ k) : allIn l lo hi = true := by
 rwa [List.take_of_length_le (by omega)] at h
theorem l1All_fun (l : List Int) (lo hi : Int) (hl : l.length ≤ 1073741824) : Fun Try.prog 64 [.t (T.ints l), .t (.int lo), .t (.int hi)] (tupD [.t (.bool (allIn l lo hi))]) := by
 refine Fun.begin tys Try.func64 Z Z (N := 21) [(0, .t (T.ints l)), (1, .t (.int lo)), (2, .t (.int hi))] Z Z (fun w0 G F0 => ?_)
 refine sQ (rG (eZ Z (oN (tN (sQ (sQ (rG (eZ Z (evE ?_)))))))))
 refine eZ Z (oN (tN (W_block ?_)))
 refine lK (α := Int) [9, 10, 1, 2] [] (fun x => [(11, .t (.int x))]) (fun x => []) (fun x => 0 ≤ x ∧ x ≤ l.length ∧ allIn (l.take x.toNat) lo hi = true) (fun x => Int.toNat (l.length - x)) 0 ?_ (fun k hx => ?_)
 ·refine ⟨?_, ?_, ?_⟩ <;> simp [allIn]
 obtain ⟨hk0, hk1, hk2⟩ := hx
 refine nY Z (sQ (rG (eZ Z (oN (tN (sQ ?_))))))
 refine W_cond Z (fun h1 => ?_) (fun h1 => ?_)
 ·
  simp only [HS] at h1
  refine W_skip (tN (sQ (W_block (sQ (rG (WO_idxT tys Z Z (lt_of Z) Z Z Z Z Z Z Z (by omega) _ (getT _ _ (by omega) (by omega)) (eK 2 Z (oN (tN (sQ (rG (eK 3 Z (callB ?_)))))))))))))
  refine ⟨_, l1In_fun _ _ _, rfl, ?_⟩
  refine eZ Z (kZ [1,2,8,9,10,11,12,13,14,15,16,17,18,19] Z (oN (tN ?_)))
  refine W_cond Z (fun h2 => ?_) (fun h2 => ?_)
  ·
   simp only [HS] at h2
   refine sQ (rG (eZ Z (oN (tN (rT (bR (tR (loopQ_r (bR (tR (eR ?_)))))))))))
   ·rw [allIn_no hk0 (by omega) (by simpa using h2)]
  simp only [HS] at h2
  refine W_skip (bN (tN (rG (evI ?_))))
  refine eZ Z (oN ?_)
  refine lQ _ ?_ ?_
  ·skip
   exact ⟨by omega, by omega, allIn_step hk0 (by omega) hk2 (by simpa using h2)⟩
  ·(show Int.toNat _ < Int.toNat _); omega
 simp only [HS] at h1
 refine W_exit (tE (loopQ_e (inBlk_y (tN (sQ (rG (eZ Z (oN (tN (rT (eR ?_)))))))))))
 ·rw [allIn_yes hk2 hk0 (by omega)]
open Go.Eng
def szGo {α : Type} (f : α → Int → Int) : List α → Int → Int
 | [], left => left
 | x :: xs, left => if f x left < 0 then -1 else szGo f xs (f x left)
def szL {α : Type} (f : α → Int → Int) (l : List α) (left : Int) : Int := if left - l.length < 0 then -1 else szGo f l (left - l.length)
theorem drop_at {α : Type} {l : List α} {k : Int} (h0 : 0 ≤ k) (h1 : k < l.length) : l.drop k.toNat = l[k.toNat]'(by omega) :: l.drop (k + 1).toNat := by
 rw [show (k + 1).toNat = k.toNat + 1 from by omega]
 exact List.drop_eq_getElem_cons (by omega)
theorem drop_end {α : Type} {l : List α} {k : Int} (h1 : (l.length : Int) ≤ k) : l.drop k.toNat = [] := List.drop_of_length_le (by omega)
theorem fill_step {α : Type} {xs : List T} {l : List α} {g : α → T} {k : Int} (h0 : 0 ≤ k) (h1 : k < l.length) (hl : xs.length = l.length) (h : xs.take k.toNat = (l.take k.toNat).map g) :
  (xs.set k.toNat (g (l[k.toNat]'(by omega)))).take (k + 1).toNat = (l.take (k + 1).toNat).map g := by
 rw [show (k + 1).toNat = k.toNat + 1 from by omega, List.take_add_one, List.take_add_one, List.getElem?_set_self (by omega), List.getElem?_eq_getElem (by omega)]
 simp only [Option.toList_some, List.map_append, List.map_cons, List.map_nil, ← h]
 rw [List.take_set_of_le (Nat.le_refl _)]
theorem fill_end {α : Type} {xs : List T} {l : List α} {g : α → T} {k : Int} (h1 : (l.length : Int) ≤ k) (hl : xs.length = l.length) (h : xs.take k.toNat = (l.take k.toNat).map g) : xs = l.map g := by
 rwa [List.take_of_length_le (by omega), List.take_of_length_le (by omega)] at h
theorem toIntS_fun (l : List Int) (hl : l.length ≤ 1048576) : Fun Try.prog 18 [.t (T.ints l)] (tupD [.own (T.ints l)]) := by
 refine Fun.begin tys Try.func18 Z Z (N := 22) [(0, .t (T.ints l))] Z Z (fun w0 G F0 => ?_)
 refine sQ (rG (eZ Z (oN (tN (sQ (rG (eZ Z (evE ?_))))))))
 refine WO_make tys (.v (.int .i64 0)) _ Z Z (lt_of Z) Z Z Z Z Z (by repeat (first | exact AbsL.nil' | refine AbsL.v' ?_ | refine AbsL.none' ?_)) Z (by omega) (by decide) ?_
 refine nZ Z (eZ Z (oN (tN (sQ (sQ (rG (eZ Z (oN (tN (W_block ?_))))))))))
 refine lK (α := Int × List T) [0, 3] [] (fun x => [(4, .t (.int (x.1)))]) (fun x => [(7, .L 1 (x.2))]) (fun x => 0 ≤ (x.1) ∧ (x.1) ≤ l.length ∧ (x.2).length = l.length ∧ (x.2).take (x.1).toNat = (l.take (x.1).toNat).map T.int) (fun x => Int.toNat (l.length - (x.1))) (0, List.replicate l.length (.v (.int .i64 0))) ?_ (fun x hx => ?_)
 ·exact ⟨by omega, by omega, by simp, by simp⟩
 obtain ⟨k, xs⟩ := x
 obtain ⟨hk0, hk1, hk2, hk3⟩ := hx
 dsimp only at hk0 hk1 hk2 hk3 ⊢
 refine nY Z (sQ (sQ (rG (eK 2 Z (evE ?_)))))
 refine eZ Z (oN (tN ?_))
 refine W_cond Z (fun h1 => ?_) (fun h1 => ?_)
 ·
  simp only [HS] at h1
  refine W_skip (tN (sQ (W_block (rG (eK 4 Z (WO_idxT tys Z Z (lt_of Z) Z Z Z Z Z Z Z (by omega) _ (getT _ _ (by omega) (by omega)) (kZ [0,3,4,8,9,10,11,14,15,16,17,18] Z (eZ Z (WO_idxS tys Z Z (lt_of Z) Z Z Z Z Z Z Z Z (by omega) (by omega) ?_)))))))))
  refine WO_storeE tys (.v (.int .i64 _)) Z Z Z Z Z Z (by first | exact Nat.zero_add _ | rfl) (by omega) Z (by repeat (first | exact AbsL.nil' | refine AbsL.v' ?_ | refine AbsL.own' ?_)) Z Z Z ?_
  refine nZ Z (oN (bN (tN (rG (eZ Z (evI ?_))))))
  refine eZ Z (oN ?_)
  refine lQ (_, _) ?_ ?_
  ·dsimp only
   exact ⟨by omega, by omega, by simpa using hk2, fill_step hk0 (by omega) hk2 hk3⟩
  ·(show Int.toNat _ < Int.toNat _); omega
 simp only [HS] at h1
 refine W_exit (tE (loopQ_e (inBlk_y (tN (sQ (rG (eK 2 Z (oN (tN (W_le (Le.gather (u := 2) (id := 7) Z Z (by omega)) (rT (eR ?_))))))))))))
 ·rw [List.take_of_length_le (by omega), fill_end (by omega) hk2 hk3]; rfl
abbrev intss (l : List (List Int)) : T := .list 1 (l.map T.ints)
def eqGo {α : Type} (f : α → α → Bool) : List α → List α → Bool
 | x :: xs, y :: ys => f x y && eqGo f xs ys
 | _, _ => true
def eqL {α : Type} (f : α → α → Bool) (a b : List α) : Bool := a.length == b.length && eqGo f a b
theorem eqGo_refl {α : Type} {f : α → α → Bool} (h : ∀ x, f x x = true) : ∀ l : List α, eqGo f l l = true
 | [] => rfl
 | x :: l => by rw [eqGo, h, eqGo_refl h l]; rfl
theorem eqL_refl {α : Type} {f : α → α → Bool} (h : ∀ x, f x x = true) (l : List α) : eqL f l l = true := by
 unfold eqL; rw [eqGo_refl h]; simp
def eqI (a b : Int) : Bool := decide (a = b)
theorem eqL_len {α : Type} {f : α → α → Bool} {a b : List α} (h : ¬ (a.length : Int) = b.length) : eqL f a b = false := by
 unfold eqL
 have : (a.length == b.length) = false := by simpa using fun e => h (by omega)
 rw [this]; rfl
theorem eqGo_at {α : Type} {f : α → α → Bool} {a b : List α} {k : Int} (h0 : 0 ≤ k) (h1 : k < a.length) (h : (a.length : Int) = b.length) :
  eqGo f (a.drop k.toNat) (b.drop k.toNat) = (f (a[k.toNat]'(by omega)) (b[k.toNat]'(by omega)) && eqGo f (a.drop (k + 1).toNat) (b.drop (k + 1).toNat)) := by
 rw [drop_at h0 (by omega), drop_at (l := b) h0 (by omega), eqGo]
theorem eqL_eq {α : Type} {f : α → α → Bool} {a b : List α} (h : (a.length : Int) = b.length) : eqL f a b = eqGo f a b := by
 unfold eqL
 have : (a.length == b.length) = true := by simp; omega
 rw [this]; rfl
theorem eqIntS_fun (a b : List Int) (ha : a.length ≤ 9223372036854775807) (hb : b.length ≤ 9223372036854775807) : Fun Try.prog 21 [.t (T.ints a), .t (T.ints b)] (tupD [.t (.bool (eqL eqI a b))]) := by
 refine Fun.begin tys Try.func21 Z Z (N := 26) [(0, .t (T.ints a)), (1, .t (T.ints b))] Z Z (fun w0 G F0 => ?_)
 refine sQ (rG (eZ Z (oN (tN (sQ (sQ (rG (eZ Z (evE ?_)))))))))
 refine eZ Z (evE ?_)
 refine eZ Z (oN (tN ?_))
 refine W_cond Z (fun h1 => ?_) (fun h1 => ?_)
 ·
  simp only [HS] at h1
  refine sQ (rG (eZ Z (oN (tN (rT (tR (eR ?_)))))))
  ·rw [eqL_len h1]
   done
 simp only [HS] at h1
 refine W_skip (tN (sQ (sQ (rG (eZ Z (oN (tN (W_block ?_))))))))
 refine lK (α := Int) [0, 1] [] (fun x => [(5, .t (.int x))]) (fun x => []) (fun x => 0 ≤ x ∧ x ≤ a.length ∧ eqGo eqI a b = eqGo eqI (a.drop x.toNat) (b.drop x.toNat)) (fun x => Int.toNat (a.length - x)) 0 ?_ (fun k hx => ?_)
 ·exact ⟨by omega, by omega, rfl⟩
 obtain ⟨hk0, hk1, hk2⟩ := hx
 refine nY Z (sQ (sQ (rG (eK 2 Z (evE ?_)))))
 refine eZ Z (oN (tN ?_))
 refine W_cond Z (fun h2 => ?_) (fun h2 => ?_)
 ·
  simp only [HS] at h2
  refine W_skip (tN (sQ (W_block (sQ (W_regionD mixed (by kernel_rfl) (evQ ?_))))))
  refine evQ ?_
  refine QL_norm Z (QL_idxT tys Z Z (lt_of Z) Z Z Z Z Z Z Z (by omega) _ (getT _ _ (by omega) (by omega)) (evQ ?_))
  refine evQ ?_
  refine evQ ?_
  refine QL_idxT tys Z Z (lt_of Z) Z Z Z Z Z Z Z (by omega) _ (getT _ _ (by omega) (by omega)) (evQ ?_)
  refine QL_norm Z (evQ ?_)
  refine QL_nil (tN ?_)
  refine W_cond Z (fun h3 => ?_) (fun h3 => ?_)
  ·
   simp only [HS] at h3
   refine sQ (rG (eZ Z (oN (tN (rT (bR (tR (loopQ_r (bR (tR (eR ?_)))))))))))
   ·rw [eqL_eq h1, hk2, eqGo_at hk0 h2 h1]
    simp [eqI, h3]
    done
  simp only [HS] at h3
  refine W_skip (bN (tN (rG (eZ Z (evI ?_)))))
  refine eZ Z (oN ?_)
  refine lQ _ ?_ ?_
  ·skip
   refine ⟨by omega, by omega, ?_⟩; rw [hk2, eqGo_at hk0 h2 h1]; simp [eqI, h3]
  ·(show Int.toNat _ < Int.toNat _); omega
 simp only [HS] at h2
 refine W_exit (tE (loopQ_e (inBlk_y (tN (sQ (rG (eZ Z (oN (tN (rT (eR ?_)))))))))))
 ·rw [eqL_eq h1, hk2, drop_end h2]
  rfl
theorem eqIntSS_fun (a b : List (List Int)) (ha : a.length ≤ 9223372036854775807) (hb : b.length ≤ 9223372036854775807) (hxa : ∀ x, x ∈ a → x.length ≤ 9223372036854775807) (hxb : ∀ x, x ∈ b → x.length ≤ 9223372036854775807) : Fun Try.prog 29 [.t (intss a), .t (intss b)] (tupD [.t (.bool (eqL (eqL eqI) a b))]) := by
 refine Fun.begin tys Try.func29 Z Z (N := 27) [(0, .t (intss a)), (1, .t (intss b))] Z Z (fun w0 G F0 => ?_)
 refine sQ (rG (eZ Z (oN (tN (sQ (sQ (rG (eZ Z (evE ?_)))))))))
 refine eZ Z (evE ?_)
 refine eZ Z (oN (tN ?_))
 refine W_cond Z (fun h1 => ?_) (fun h1 => ?_)
 ·
  simp only [HS] at h1
  refine sQ (rG (eZ Z (oN (tN (rT (tR (eR ?_)))))))
  ·rw [eqL_len h1]
   done
 simp only [HS] at h1
 refine W_skip (tN (sQ (sQ (rG (eZ Z (oN (tN (W_block ?_))))))))
 refine lK (α := Int) [0, 1] [] (fun x => [(5, .t (.int x))]) (fun x => []) (fun x => 0 ≤ x ∧ x ≤ a.length ∧ eqGo (eqL eqI) a b = eqGo (eqL eqI) (a.drop x.toNat) (b.drop x.toNat)) (fun x => Int.toNat (a.length - x)) 0 ?_ (fun k hx => ?_)
 ·exact ⟨by omega, by omega, rfl⟩
 obtain ⟨hk0, hk1, hk2⟩ := hx
 refine nY Z (sQ (sQ (rG (eK 2 Z (evE ?_)))))
 refine eZ Z (oN (tN ?_))
 refine W_cond Z (fun h2 => ?_) (fun h2 => ?_)
 ·
  simp only [HS] at h2
  refine W_skip (tN (sQ (W_block (sQ (W_regionD mixed (by kernel_rfl) (evQ ?_))))))
  refine evQ ?_
  refine QL_norm Z (QL_idxT tys Z Z (lt_of Z) Z Z Z Z Z Z Z (by omega) _ (getT _ _ (by omega) (by omega)) (evQ ?_))
  refine evQ ?_
  refine evQ ?_
  refine QL_idxT tys Z Z (lt_of Z) Z Z Z Z Z Z Z (by omega) _ (getT _ _ (by omega) (by omega)) (evQ ?_)
  refine QL_norm Z (callBQ ?_)
  refine ⟨_, eqIntS_fun _ _ (hxa _ (List.getElem_mem _)) (hxb _ (List.getElem_mem _)), rfl, ?_⟩
  refine evQ ?_
  refine QL_nil (tN ?_)
  refine W_cond Z (fun h3 => ?_) (fun h3 => ?_)
  ·
   simp only [HS] at h3
   refine sQ (rG (eZ Z (oN (tN (rT (bR (tR (loopQ_r (bR (tR (eR ?_)))))))))))
   ·rw [eqL_eq h1, hk2, eqGo_at hk0 h2 h1]
    simp [h3]
    done
  simp only [HS] at h3
  refine W_skip (bN (tN (rG (eZ Z (evI ?_)))))
  refine eZ Z (oN ?_)
  refine lQ _ ?_ ?_
  ·skip
   refine ⟨by omega, by omega, ?_⟩; rw [hk2, eqGo_at hk0 h2 h1]; simp [h3]
  ·(show Int.toNat _ < Int.toNat _); omega
 simp only [HS] at h2
 refine W_exit (tE (loopQ_e (inBlk_y (tN (sQ (rG (eZ Z (oN (tN (rT (eR ?_)))))))))))
 ·rw [eqL_eq h1, hk2, drop_end h2]
  rfl
def idxGo {α : Type} (p : α → Bool) : List α → Int → Int
 | [], _ => -1
 | x :: xs, k => if p x then k else idxGo p xs (k + 1)
theorem idxGo_any {α : Type} {p : α → Bool} : ∀ {l : List α} {k : Int}, 0 ≤ k → decide (0 ≤ idxGo p l k) = l.any p
 | [], _, _ => rfl
 | x :: l, k, h => by
  rw [idxGo, List.any_cons]
  cases hp : p x
  ·simpa using idxGo_any (l := l) (k := k + 1) (by omega)
  ·simpa using h
theorem idx_at {α : Type} {p : α → Bool} {l : List α} {k : Int} (h0 : 0 ≤ k) (h1 : k < l.length) : idxGo p (l.drop k.toNat) k = if p (l[k.toNat]'(by omega)) then k else idxGo p (l.drop (k + 1).toNat) (k + 1) := by
 rw [drop_at h0 h1, idxGo]
theorem idxS_fun (l : List Int) (p : Int → Bool) (f : Nat) (caps : List D) (hcaps : caps.all D.imm = true) (hl : l.length ≤ 9223372036854775807) (hf : ∀ x, x ∈ l → Fun Try.prog f (.t (T.int x) :: caps) (.t (.bool (p x)))) : Fun Try.prog 105 [.t (T.ints l), .clo f caps] (tupD [.t (.int (idxGo p l 0))]) := by
 refine Fun.begin tys Try.func105 Z Z (N := 19) [(0, .t (T.ints l)), (1, .clo f caps)] Z Z (fun w0 G F0 => ?_)
 refine sQ (rG (eZ Z (oN (tN (sQ (sQ (rG (eZ Z (evE ?_)))))))))
 refine eZ Z (oN (tN (W_block ?_)))
 refine lK (α := Int) [0, 1, 7] [] (fun x => [(8, .t (.int x))]) (fun x => []) (fun x => 0 ≤ x ∧ x ≤ l.length ∧ idxGo p l 0 = idxGo p (l.drop x.toNat) x) (fun x => Int.toNat (l.length - x)) 0 ?_ (fun k hx => ?_)
 ·exact ⟨by omega, by omega, rfl⟩
 obtain ⟨hk0, hk1, hk2⟩ := hx
 refine nY Z (sQ (rG (eZ Z (oN (tN (sQ ?_))))))
 refine W_cond Z (fun h1 => ?_) (fun h1 => ?_)
 ·
  simp only [HS] at h1
  refine W_skip (tN (sQ (W_block (sQ (rG (eK 2 Z (oN (tN (sQ (rG (WO_moveClo tys Z Z (lt_of Z) Z Z (by assumption) ?_)))))))))))
  refine eK 2 Z (WO_idxT tys Z Z (lt_of Z) Z Z Z Z Z Z Z (by omega) _ (getT _ _ (by omega) (by omega)) (eZ Z ?_))
  refine WO_call Z Z (lt_of Z) Z Z (by repeat (first | exact ResL.done | exact ResL.imms (by first | rfl | assumption) | refine ResL.t ?_ | refine ResL.own ?_ | refine ResL.slA Z (by first | rfl | (simp; done) | (simp; omega)) ?_ | refine ResL.sl Z (by first | omega | (simp; done) | (simp; omega)) ?_ | refine ResL.rp ?_ | refine ResL.clo ?_ ?_ | refine ResL.aggT ?_ ?_ | refine ResL.ref Z ?_ ?_ | refine ResL.nil' ?_ | refine ResL.nil 1 ?_)) (hf _ (List.getElem_mem _)) Z ?_
  refine kZ [0,1,5,7,8,9,10,11,12,13,14,15,16] Z (oN (tN ?_))
  refine W_cond Z (fun h2 => ?_) (fun h2 => ?_)
  ·
   refine sQ (rG (eK 2 Z (oN (tN (rT (bR (tR (loopQ_r (bR (tR (eR ?_)))))))))))
   ·rw [hk2, idx_at hk0 h1]
    simp [h2]
    done
  refine W_skip (bN (tN (rG (evI ?_))))
  refine eZ Z (oN ?_)
  refine lQ _ ?_ ?_
  ·skip
   refine ⟨by omega, by omega, ?_⟩; rw [hk2, idx_at hk0 h1]; simp [h2]
  ·(show Int.toNat _ < Int.toNat _); omega
 simp only [HS] at h1
 refine W_exit (tE (loopQ_e (inBlk_y (tN (sQ (rG (eZ Z (oN (tN (rT (eR ?_)))))))))))
 ·rw [hk2, drop_end h1]
  rfl
theorem hasS_fun (l : List Int) (p : Int → Bool) (f : Nat) (caps : List D) (hcaps : caps.all D.imm = true) (hl : l.length ≤ 9223372036854775807) (hf : ∀ x, x ∈ l → Fun Try.prog f (.t (T.int x) :: caps) (.t (.bool (p x)))) : Fun Try.prog 66 [.t (T.ints l), .clo f caps] (tupD [.t (.bool (l.any p))]) := by
 refine Fun.begin tys Try.func66 Z Z (N := 9) [(0, .t (T.ints l)), (1, .clo f caps)] Z Z (fun w0 G F0 => ?_)
 refine sQ (rG (eZ Z (oN (tN (sQ (rG (eZ Z (WO_moveClo tys Z Z (lt_of Z) Z Z (by assumption) ?_))))))))
 refine WO_call Z Z (lt_of Z) Z Z (by repeat (first | exact ResL.done | exact ResL.imms (by first | rfl | assumption) | refine ResL.t ?_ | refine ResL.own ?_ | refine ResL.slA Z (by first | rfl | (simp; done) | (simp; omega)) ?_ | refine ResL.sl Z (by first | omega | (simp; done) | (simp; omega)) ?_ | refine ResL.rp ?_ | refine ResL.clo ?_ ?_ | refine ResL.aggT ?_ ?_ | refine ResL.ref Z ?_ ?_ | refine ResL.nil' ?_ | refine ResL.nil 1 ?_)) (idxS_fun l p f caps hcaps hl hf) Z ?_
 refine eK 2 Z (oN (tN (rT (eR ?_))))
 ·rw [← idxGo_any (Int.le_refl 0)]
open Go.ChangeShapes Go.WideShapes Go.ChangeAt Go.RowKit Go.Eng
theorem Try.own : ownKnob Try.prog.godebug = none := by kernel_rfl
theorem Try.laidOut : laidOutB Try.prog = true := by kernel_rfl
theorem rd_i {x : T} (h : Rd Try.prog 3 x) : ∃ n : Int, x = T.int n ∧ True := by
 obtain ⟨n, rfl, _⟩ := rd_int (k := .i64) (by kernel_rfl) h
 exact ⟨n, rfl, trivial⟩
theorem rd_ints {x : T} (h : Rd Try.prog 22 x) : ∃ l : List Int, x = T.ints l ∧ l.length ≤ 9223372036854775807 := by
 obtain ⟨l, rfl, h1, h2⟩ := rd_list (e := 3) (n := 1) (by kernel_rfl) (by kernel_rfl) (fun y hy => rd_i hy) h
 exact ⟨l, rfl, h1⟩
open Go.Eng
def okN {α : Type} (B : Nat) (l : List α) : Prop := l.length ≤ B
def okL {α : Type} (B : Nat) (ok : α → Prop) (l : List α) : Prop := l.length ≤ B ∧ ∀ x, x ∈ l → ok x
theorem flat_at {α : Type} {l : List (List α)} {k : Int} (h0 : 0 ≤ k) (h1 : k < l.length) : (l.drop k.toNat).flatten = l[k.toNat]'(by omega) ++ (l.drop (k + 1).toNat).flatten := by
 rw [drop_at h0 h1, List.flatten_cons]
theorem take_at {α : Type} {l : List α} {k : Int} (h0 : 0 ≤ k) (h1 : k < l.length) : l.take (k + 1).toNat = l.take k.toNat ++ [l[k.toNat]'(by omega)] := by
 rw [show (k + 1).toNat = k.toNat + 1 from by omega, List.take_add_one, List.getElem?_eq_getElem (by omega)]
 rfl
theorem take_end {α : Type} {l : List α} {k : Int} (h1 : (l.length : Int) ≤ k) : l.take k.toNat = l := List.take_of_length_le (by omega)
def szSeq : List (Int → Int) → Int → Int
 | [], left => left
 | f :: fs, left => if f left < 0 then -1 else szSeq fs (f left)
def SzA (f : Int → Int) (p : Prop) : Prop := ∀ left : Int, 0 ≤ left → left ≤ 1048576 → f left ≤ left ∧ -1 ≤ f left ∧ (0 ≤ f left → p)
def SzG {α : Type} (f : α → Int → Int) (ok : α → Prop) : Prop := ∀ x, SzA (f x) (ok x)
theorem szGo_g {α : Type} {f : α → Int → Int} {ok : α → Prop} : ∀ {l : List α}, (∀ x, x ∈ l → SzA (f x) (ok x)) → SzA (szGo f l) (∀ x, x ∈ l → ok x)
 | [], _, left, h0, hh => ⟨by simp [szGo], by simp [szGo]; omega, fun _ x hx => by cases hx⟩
 | x :: l, h, left, h0, hh => by
  have h1 := h x (List.mem_cons_self ..) left h0 hh
  rw [szGo]
  split
  ·exact ⟨by omega, by omega, fun h => by omega⟩
  ·have h2 := szGo_g (fun y hy => h y (List.mem_cons_of_mem _ hy)) (f x left) (by omega) (by omega)
   refine ⟨by omega, by omega, fun h3 y hy => ?_⟩
   rcases List.mem_cons.1 hy with rfl | hy
   ·exact h1.2.2 (by omega)
   ·exact h2.2.2 h3 y hy
theorem szL_a {α : Type} {f : α → Int → Int} {ok : α → Prop} {l : List α} (h : ∀ x, x ∈ l → SzA (f x) (ok x)) : SzA (szL f l) (okL 1048576 ok l) := by
 intro left h0 hh
 unfold szL okL
 split
 ·exact ⟨by omega, by omega, fun h => by omega⟩
 ·have h2 := szGo_g h (left - l.length) (by omega) (by omega)
  exact ⟨by omega, by omega, fun h3 => ⟨by omega, h2.2.2 h3⟩⟩
theorem szL_g {α : Type} {f : α → Int → Int} {ok : α → Prop} (h : SzG f ok) : SzG (szL f) (okL 1048576 ok) := fun l => szL_a fun x _ => h x
theorem szSeq_nil : SzA (szSeq []) True := fun left h0 hh => ⟨by simp [szSeq], by simp [szSeq]; omega, fun _ => trivial⟩
theorem szSeq_step {f : Int → Int} {fs : List (Int → Int)} {p q : Prop} (h1 : SzA f p) (h2 : SzA (szSeq fs) q) : SzA (szSeq (f :: fs)) (p ∧ q) := by
 intro left h0 hh
 have g1 := h1 left h0 hh
 rw [szSeq]
 split
 ·exact ⟨by omega, by omega, fun h => by omega⟩
 ·have g2 := h2 (f left) (by omega) (by omega)
  exact ⟨by omega, by omega, fun h => ⟨g1.2.2 (by omega), g2.2.2 h⟩⟩
def eqB (a b : Bool) : Bool := a == b
theorem eqI_refl : ∀ x, eqI x x = true := fun x => by simp [eqI]
theorem eqB_refl : ∀ x, eqB x x = true := fun x => by simp [eqB]
theorem eqIntSo_fun (a b : List Int) (ha : okN 9223372036854775807 a) (hb : okN 9223372036854775807 b) : Fun Try.prog 21 [.t (T.ints a), .t (T.ints b)] (.t (.bool (eqL eqI a b))) := eqIntS_fun a b ha hb
theorem eqIntSSo_fun (a b : List (List Int)) (ha : okL 9223372036854775807 (okN 9223372036854775807) a) (hb : okL 9223372036854775807 (okN 9223372036854775807) b) :
  Fun Try.prog 29 [.t (intss a), .t (intss b)] (.t (.bool (eqL (eqL eqI) a b))) := eqIntSS_fun a b ha.1 hb.1 ha.2 hb.2
open Go.Eng
abbrev T.bools (l : List Bool) : T := .list 1 (l.map T.bool)
theorem eqBoolS_fun (a b : List Bool) (ha : okN 9223372036854775807 a) (hb : okN 9223372036854775807 b) : Fun Try.prog 46 [.t (T.bools a), .t (T.bools b)] (tupD [.t (.bool (eqL eqB a b))]) := by
 unfold okN at ha hb
 refine Fun.begin tys Try.func46 Z Z (N := 26) [(0, .t (T.bools a)), (1, .t (T.bools b))] Z Z (fun w0 G F0 => ?_)
 refine sQ (rG (eZ Z (oN (tN (sQ (sQ (rG (eZ Z (evE ?_)))))))))
 refine eZ Z (evE ?_)
 refine eZ Z (oN (tN ?_))
 refine W_cond Z (fun h1 => ?_) (fun h1 => ?_)
 ·
  simp only [HS] at h1
  refine sQ (rG (eZ Z (oN (tN (rT (tR (eR ?_)))))))
  ·rw [eqL_len h1]
   done
 simp only [HS] at h1
 refine W_skip (tN (sQ (sQ (rG (eZ Z (oN (tN (W_block ?_))))))))
 refine lK (α := Int) [0, 1] [] (fun x => [(5, .t (.int x))]) (fun x => []) (fun x => 0 ≤ x ∧ x ≤ a.length ∧ eqGo eqB a b = eqGo eqB (a.drop x.toNat) (b.drop x.toNat)) (fun x => Int.toNat (a.length - x)) 0 ?_ (fun k hx => ?_)
 ·exact ⟨by omega, by omega, rfl⟩
 obtain ⟨hk0, hk1, hk2⟩ := hx
 refine nY Z (sQ (sQ (rG (eK 2 Z (evE ?_)))))
 refine eZ Z (oN (tN ?_))
 refine W_cond Z (fun h2 => ?_) (fun h2 => ?_)
 ·
  simp only [HS] at h2
  refine W_skip (tN (sQ (W_block (sQ (W_regionD mixed (by kernel_rfl) (evQ ?_))))))
  refine evQ ?_
  refine QL_norm Z (QL_idxT tys Z Z (lt_of Z) Z Z Z Z Z Z Z (by omega) _ (getT _ _ (by omega) (by omega)) (evQ ?_))
  refine evQ ?_
  refine evQ ?_
  refine QL_idxT tys Z Z (lt_of Z) Z Z Z Z Z Z Z (by omega) _ (getT _ _ (by omega) (by omega)) (evQ ?_)
  refine QL_norm Z (evQ ?_)
  refine QL_nil (tN ?_)
  refine W_cond Z (fun h3 => ?_) (fun h3 => ?_)
  ·
   simp only [HS] at h3
   refine sQ (rG (eZ Z (oN (tN (rT (bR (tR (loopQ_r (bR (tR (eR ?_)))))))))))
   ·rw [eqL_eq h1, hk2, eqGo_at hk0 h2 h1]
    simp [eqB, h3]
    done
  simp only [HS] at h3
  refine W_skip (bN (tN (rG (eZ Z (evI ?_)))))
  refine eZ Z (oN ?_)
  refine lQ _ ?_ ?_
  ·skip
   refine ⟨by omega, by omega, ?_⟩; rw [hk2, eqGo_at hk0 h2 h1]; simp [eqB, h3]
  ·(show Int.toNat _ < Int.toNat _); omega
 simp only [HS] at h2
 refine W_exit (tE (loopQ_e (inBlk_y (tN (sQ (rG (eZ Z (oN (tN (rT (eR ?_)))))))))))
 ·rw [eqL_eq h1, hk2, drop_end h2]
  rfl
inductive Act where
 | mk (kind chan n : Int) (cases : List Act)
def Act.kind : Act → Int | .mk k _ _ _ => k
def Act.chan : Act → Int | .mk _ c _ _ => c
def Act.n : Act → Int | .mk _ _ n _ => n
def Act.cases : Act → List Act | .mk _ _ _ l => l
theorem Act.eta (a : Act) : Act.mk a.kind a.chan a.n a.cases = a := by cases a; rfl
theorem Act.lt {a b : Act} (h : b ∈ a.cases) : SizeOf.sizeOf b < SizeOf.sizeOf a := by
 cases a with
 | mk k c n l => have := List.sizeOf_lt_of_mem h; simp [Act.cases] at this ⊢; omega
theorem Act.ind {p : Act → Prop} (h : ∀ a, (∀ b, b ∈ a.cases → p b) → p a) (a : Act) : p a := h a fun b hb => Act.ind h b
termination_by SizeOf.sizeOf a
decreasing_by exact Act.lt hb
mutual
def Act.toT : Act → T
 | .mk k c n l => .agg [T.int k, T.int c, T.int n, .list 4 (Act.toTs l)]
def Act.toTs : List Act → List T
 | [] => []
 | a :: l => Act.toT a :: Act.toTs l
end
theorem Act.toTs_eq : ∀ l, Act.toTs l = l.map Act.toT
 | [] => by simp [Act.toTs]
 | a :: l => by rw [Act.toTs, Act.toTs_eq l]; rfl
def Act.tt (a : Act) : T := .agg [T.int a.kind, T.int a.chan, T.int a.n, .list 4 (a.cases.map Act.toT)]
theorem Act.toT_eq (a : Act) : a.toT = a.tt := by
 cases a with
 | mk k c n l => rw [Act.toT, Act.toTs_eq]; rfl
theorem getAct (l : List Act) {i : Int} (h0 : 0 ≤ i) (h1 : i < l.length) : (l.map Act.toT)[i.toNat]? = some ((l[i.toNat]'(by omega)).tt) := by
 rw [getT _ _ h0 h1, Act.toT_eq]
inductive Act.ok (B : Nat) : Act → Prop
 | mk {k c n : Int} {l : List Act} : l.length ≤ B → (∀ a, a ∈ l → Act.ok B a) → Act.ok B (.mk k c n l)
theorem Act.ok.cases' {B : Nat} {a : Act} (h : a.ok B) : okL B (Act.ok B) a.cases := by
 cases h with
 | mk h1 h2 => exact ⟨h1, h2⟩
theorem Act.ok.of {B : Nat} {a : Act} (h : okL B (Act.ok B) a.cases) : a.ok B := by
 rw [← Act.eta a]; exact .mk h.1 h.2
mutual
def szAct : Act → Int → Int
 | .mk _ _ _ l, left => if (if left - l.length < 0 then -1 else szActG l (left - l.length)) < 0 then -1 else (if left - l.length < 0 then -1 else szActG l (left - l.length))
def szActG : List Act → Int → Int
 | [], left => left
 | a :: l, left => if szAct a left < 0 then -1 else szActG l (szAct a left)
end
theorem szActG_eq : ∀ l left, szActG l left = szGo szAct l left
 | [], left => by simp [szActG, szGo]
 | a :: l, left => by rw [szActG, szGo, szActG_eq l]
theorem szAct_eq (a : Act) (left : Int) : szAct a left = szSeq [szL szAct a.cases] left := by
 cases a with
 | mk k c n l => rw [szAct, szActG_eq]; rfl
theorem szAct_g : SzG szAct (Act.ok 1048576) := fun a => Act.ind (p := fun a => SzA (szAct a) (Act.ok 1048576 a)) (fun a ih left h0 hh => by
 rw [szAct_eq]
 have h := szSeq_step (szL_a ih) szSeq_nil left h0 hh
 exact ⟨h.1, h.2.1, fun h' => .of (h.2.2 h').1⟩) a
mutual
def eqAct : Act → Act → Bool
 | .mk k c n l, .mk k' c' n' l' => eqI k k' && (eqI c c' && (eqI n n' && (l.length == l'.length && eqActG l l')))
def eqActG : List Act → List Act → Bool
 | a :: l, b :: l' => eqAct a b && eqActG l l'
 | [], _ => true
 | _, [] => true
end
theorem eqActG_eq : ∀ l l', eqActG l l' = eqGo eqAct l l'
 | [], _ => by simp [eqActG, eqGo]
 | a :: l, [] => by simp [eqActG, eqGo]
 | a :: l, b :: l' => by rw [eqActG, eqGo, eqActG_eq l]
theorem eqAct_eq (a b : Act) : eqAct a b = (eqI a.kind b.kind && (eqI a.chan b.chan && (eqI a.n b.n && eqL eqAct a.cases b.cases))) := by
 cases a; cases b; rw [eqAct, eqActG_eq]; rfl
theorem eqL_refl' {α : Type} {f : α → α → Bool} {l : List α} (h : ∀ x, x ∈ l → f x x = true) : eqL f l l = true := by
 unfold eqL
 rw [Bool.and_eq_true]
 refine ⟨by simp, ?_⟩
 induction l with
 | nil => rfl
 | cons x l ih => rw [eqGo, h x (List.mem_cons_self ..), ih fun y hy => h y (List.mem_cons_of_mem _ hy)]; rfl
theorem eqAct_refl (a : Act) : eqAct a a = true := Act.ind (p := fun a => eqAct a a = true) (fun a ih => by rw [eqAct_eq, eqL_refl' ih]; simp [eqI]) a
abbrev Act.dd (a : Act) : D := .agg [.t (T.int a.kind), .t (T.int a.chan), .t (T.int a.n), .own (.list 4 (a.cases.map Act.toT))]
abbrev T.Acts (l : List (Act)) : T := .list 4 (l.map Act.toT)
theorem szActS_g : SzG (szL szAct) (okL 1048576 (Act.ok 1048576)) := szL_g szAct_g
theorem szActS_fun (l : List (Act)) (left : Int) (hl : okL 9223372036854775807 (Act.ok 9223372036854775807) l) (h0 : 0 ≤ left) (hh : left ≤ 1048576) (hf : ∀ y, y ∈ l → ∀ left : Int, 0 ≤ left → left ≤ 1048576 → Fun Try.prog 93 [.t (Act.tt y), .t (.int left)] (.t (.int (szAct y left)))) : Fun Try.prog 52 [.t (T.Acts l), .t (.int left)] (tupD [.t (.int (szL szAct l left))]) := by
 have hl1 := hl.1
 refine Fun.begin tys Try.func52 Z Z (N := 27) [(0, .t (T.Acts l)), (1, .t (.int left))] Z Z (fun w0 G F0 => ?_)
 refine sQ (rG (eZ Z (oN (tN (sQ (rG (eK 2 Z (evE ?_))))))))
 refine evI ?_
 refine eZ Z (oN (tN (sQ (sQ (rG (eK 2 Z (oN (tN ?_))))))))
 refine W_cond Z (fun h1 => ?_) (fun h1 => ?_)
 ·
  simp only [HS] at h1
  refine sQ (kY [0,1,4] Z (rG (eZ Z (oN (tN (rT (tR (eR ?_))))))))
  ·rw [szL, if_pos h1]
   done
 simp only [HS] at h1
 refine W_skip (tN (sQ (sQ (kY [0,1,4] Z (rG (eZ Z (oN (tN (W_block ?_)))))))))
 refine lK (α := Int × Int) [0] [] (fun x => [(5, .t (.int (x.1))), (1, .t (.int (x.2)))]) (fun x => []) (fun x => 0 ≤ (x.1) ∧ (x.1) ≤ l.length ∧ 0 ≤ (x.2) ∧ (x.2) ≤ 1048576 ∧ szGo szAct l (left - l.length) = szGo szAct (l.drop (x.1).toNat) (x.2)) (fun x => Int.toNat (l.length - (x.1))) (0, left - l.length) ?_ (fun x hx => ?_)
 ·exact ⟨by omega, by omega, by omega, by omega, by simp⟩
 obtain ⟨k, lf⟩ := x
 obtain ⟨hk0, hk1, hk2, hk3, hk4⟩ := hx
 dsimp only at hk0 hk1 hk2 hk3 hk4 ⊢
 refine nY Z (sQ (sQ (rG (eK 2 Z (evE ?_)))))
 refine eZ Z (oN (tN ?_))
 refine W_cond Z (fun h2 => ?_) (fun h2 => ?_)
 ·
  simp only [HS] at h2
  refine W_skip (tN (sQ (W_block (sQ (rG (eK 2 Z (WO_idxT tys Z Z (lt_of Z) Z Z Z Z Z Z Z (by omega) _ (getAct _ (by omega) (by omega)) (eZ Z ?_))))))))
  try refine WO_le (Le.freeze (u := 21) rfl) ?_
  refine nZ Z (eZ Z (kZ [0,1,5,12,13,14,15,18,19,20,21,22] Z (callB ?_)))
  refine ⟨_, hf _ (List.getElem_mem _) _ (by omega) (by omega), rfl, ?_⟩
  refine eZ Z (oN (tN (sQ (rG (eK 2 Z (oN (tN ?_)))))))
  refine W_cond Z (fun h3 => ?_) (fun h3 => ?_)
  ·
   simp only [HS] at h3
   refine sQ (rG (eZ Z (oN (tN (rT (bR (tR (loopQ_r (bR (tR (eR ?_)))))))))))
   ·(rw [szL, if_neg (by omega), hk4, drop_at hk0 (by omega), szGo, if_pos h3]; done)
  simp only [HS] at h3
  refine W_skip (bN (tN (rG (eZ Z (evI ?_)))))
  refine eZ Z (oN ?_)
  refine lQ (_, _) ?_ ?_
  ·dsimp only
   (have hb := szAct_g (l[k.toNat]'(by omega)) lf hk2 hk3; refine ⟨by omega, by omega, by omega, by omega, ?_⟩; rw [hk4, drop_at hk0 (by omega), szGo, if_neg (by omega)])
  ·(show Int.toNat _ < Int.toNat _); omega
 simp only [HS] at h2
 refine W_exit (tE (loopQ_e (inBlk_y (tN (sQ (rG (eK 2 Z (oN (tN (rT (eR ?_)))))))))))
 ·(rw [szL, if_neg (by omega), hk4, drop_end (by omega), szGo]; done)
theorem toActS_fun (l : List (Act)) (hl : okL 1048576 (Act.ok 1048576) l) (hf : ∀ y, y ∈ l → Fun Try.prog 96 [.t (Act.tt y)] (Act.dd y)) : Fun Try.prog 55 [.t (T.Acts l)] (tupD [.own (T.Acts l)]) := by
 have hl1 := hl.1
 refine Fun.begin tys Try.func55 Z Z (N := 23) [(0, .t (T.Acts l))] Z Z (fun w0 G F0 => ?_)
 refine sQ (rG (eZ Z (oN (tN (sQ (rG (eZ Z (evE ?_))))))))
 refine WO_make tys (.agg [.v (.int .i64 0), .v (.int .i64 0), .v (.int .i64 0), .list 4 []]) _ Z Z (lt_of Z) Z Z Z Z Z (by repeat (first | exact AbsL.nil' | refine AbsL.v' ?_ | refine AbsL.none' ?_)) Z (by omega) (by decide) ?_
 refine nZ Z (eZ Z (oN (tN (sQ (sQ (rG (eZ Z (oN (tN (W_block ?_))))))))))
 refine lK (α := Int × List T) [0, 3] [] (fun x => [(4, .t (.int (x.1)))]) (fun x => [(7, .L 4 (x.2))]) (fun x => 0 ≤ (x.1) ∧ (x.1) ≤ l.length ∧ (x.2).length = l.length ∧ (x.2).take (x.1).toNat = (l.take (x.1).toNat).map Act.toT) (fun x => Int.toNat (l.length - (x.1))) (0, List.replicate l.length (.agg [.v (.int .i64 0), .v (.int .i64 0), .v (.int .i64 0), .list 4 []])) ?_ (fun x hx => ?_)
 ·exact ⟨by omega, by omega, by simp, by simp⟩
 obtain ⟨k, xs⟩ := x
 obtain ⟨hk0, hk1, hk2, hk3⟩ := hx
 dsimp only at hk0 hk1 hk2 hk3 ⊢
 refine nY Z (sQ (sQ (rG (eK 2 Z (evE ?_)))))
 refine eZ Z (oN (tN ?_))
 refine W_cond Z (fun h1 => ?_) (fun h1 => ?_)
 ·
  simp only [HS] at h1
  refine W_skip (tN (sQ (W_block (rG (eK 4 Z (WO_idxT tys Z Z (lt_of Z) Z Z Z Z Z Z Z (by omega) _ (getAct _ (by omega) (by omega)) (kZ [0,3,4,8,9,10,11,14,15,16,17,18] Z (eZ Z ?_))))))))
  try refine WO_le (Le.freeze (u := 19) rfl) ?_
  refine nZ Z (callB ?_)
  refine ⟨_, hf _ (List.getElem_mem _), rfl, ?_⟩
  refine WO_idxS tys Z Z (lt_of Z) Z Z Z Z Z Z Z Z (by omega) (by omega) ?_
  refine WO_storeE tys (Act.tt _) Z Z Z Z Z Z (by first | exact Nat.zero_add _ | rfl) (by omega) Z (by repeat (first | exact AbsL.nil' | refine AbsL.v' ?_ | refine AbsL.own' ?_)) Z Z Z ?_
  refine nZ Z (oN (bN (tN (rG (eZ Z (evI ?_))))))
  refine eZ Z (oN ?_)
  refine lQ (_, _) ?_ ?_
  ·dsimp only
   exact ⟨by omega, by omega, by simpa using hk2, by rw [← Act.toT_eq]; exact fill_step hk0 (by omega) hk2 hk3⟩
  ·(show Int.toNat _ < Int.toNat _); omega
 simp only [HS] at h1
 refine W_exit (tE (loopQ_e (inBlk_y (tN (sQ (rG (eK 2 Z (oN (tN (W_le (Le.gather (u := 2) (id := 7) Z Z (by omega)) (rT (eR ?_))))))))))))
 ·rw [List.take_of_length_le (by omega), fill_end (by omega) hk2 hk3]
theorem eqActS_fun (a b : List (Act)) (ha : okL 9223372036854775807 (Act.ok 9223372036854775807) a) (hb : okL 9223372036854775807 (Act.ok 9223372036854775807) b) (hf : ∀ y, y ∈ a → ∀ z, Act.ok 9223372036854775807 z → Fun Try.prog 102 [.t (Act.tt y), .t (Act.tt z)] (.t (.bool (eqAct y z)))) : Fun Try.prog 57 [.t (T.Acts a), .t (T.Acts b)] (tupD [.t (.bool (eqL eqAct a b))]) := by
 have ha1 := ha.1
 have hb1 := hb.1
 refine Fun.begin tys Try.func57 Z Z (N := 27) [(0, .t (T.Acts a)), (1, .t (T.Acts b))] Z Z (fun w0 G F0 => ?_)
 refine sQ (rG (eZ Z (oN (tN (sQ (sQ (rG (eZ Z (evE ?_)))))))))
 refine eZ Z (evE ?_)
 refine eZ Z (oN (tN ?_))
 refine W_cond Z (fun h1 => ?_) (fun h1 => ?_)
 ·
  simp only [HS] at h1
  refine sQ (rG (eZ Z (oN (tN (rT (tR (eR ?_)))))))
  ·rw [eqL_len h1]
   done
 simp only [HS] at h1
 refine W_skip (tN (sQ (sQ (rG (eZ Z (oN (tN (W_block ?_))))))))
 refine lK (α := Int) [0, 1] [] (fun x => [(5, .t (.int x))]) (fun x => []) (fun x => 0 ≤ x ∧ x ≤ a.length ∧ eqGo eqAct a b = eqGo eqAct (a.drop x.toNat) (b.drop x.toNat)) (fun x => Int.toNat (a.length - x)) 0 ?_ (fun k hx => ?_)
 ·exact ⟨by omega, by omega, rfl⟩
 obtain ⟨hk0, hk1, hk2⟩ := hx
 refine nY Z (sQ (sQ (rG (eK 2 Z (evE ?_)))))
 refine eZ Z (oN (tN ?_))
 refine W_cond Z (fun h2 => ?_) (fun h2 => ?_)
 ·
  simp only [HS] at h2
  refine W_skip (tN (sQ (W_block (sQ (W_regionD mixed (by kernel_rfl) (evQ ?_))))))
  refine evQ ?_
  refine QL_norm Z (QL_idxT tys Z Z (lt_of Z) Z Z Z Z Z Z Z (by omega) _ (getAct _ (by omega) (by omega)) (evQ ?_))
  refine evQ ?_
  refine evQ ?_
  refine QL_idxT tys Z Z (lt_of Z) Z Z Z Z Z Z Z (by omega) _ (getAct _ (by omega) (by omega)) (evQ ?_)
  refine QL_norm Z (callBQ ?_)
  refine ⟨_, hf _ (List.getElem_mem _) _ (hb.2 _ (List.getElem_mem _)), rfl, ?_⟩
  refine evQ ?_
  refine QL_nil (tN ?_)
  refine W_cond Z (fun h3 => ?_) (fun h3 => ?_)
  ·
   simp only [HS] at h3
   refine sQ (rG (eZ Z (oN (tN (rT (bR (tR (loopQ_r (bR (tR (eR ?_)))))))))))
   ·rw [eqL_eq h1, hk2, eqGo_at hk0 h2 h1]
    simp [h3]
    done
  simp only [HS] at h3
  refine W_skip (bN (tN (rG (eZ Z (evI ?_)))))
  refine eZ Z (oN ?_)
  refine lQ _ ?_ ?_
  ·skip
   refine ⟨by omega, by omega, ?_⟩; rw [hk2, eqGo_at hk0 h2 h1]; simp [h3]
  ·(show Int.toNat _ < Int.toNat _); omega
 simp only [HS] at h2
 refine W_exit (tE (loopQ_e (inBlk_y (tN (sQ (rG (eZ Z (oN (tN (rT (eR ?_)))))))))))
 ·rw [eqL_eq h1, hk2, drop_end h2]
  rfl
theorem szAct_fun0 (x : Act) (left : Int) (h0 : 0 ≤ left) (hh : left ≤ 1048576) (hs : Fun Try.prog 52 [.t (T.Acts x.cases), .t (.int left)] (.t (.int (szL szAct x.cases left)))) : Fun Try.prog 93 [.t x.tt, .t (.int left)] (tupD [.t (.int (szAct x left))]) := by
 refine Fun.begin tys Try.func93 Z Z (N := 12) [(0, .t x.tt), (1, .t (.int left))] Z Z (fun w0 G F0 => ?_)
 refine sQ (rG (WO_box Z Z (lt_of Z) Z Z (nZ Z (eZ Z (oN (tN (sQ (rG (eK 3 Z (callB ?_))))))))))
 refine ⟨_, hs, rfl, ?_⟩
 refine eZ Z (oN (tN (sQ (sQ (kY [1,4] Z (rG (eK 2 Z (oN (tN ?_)))))))))
 refine W_cond Z (fun h1 => ?_) (fun h1 => ?_)
 ·
  simp only [HS] at h1
  refine sQ (rG (eZ Z (oN (tN (rT (tR (eR ?_)))))))
  ·(rw [szAct_eq]; simp only [szSeq]; repeat (first | rw [if_neg (by omega)] | rw [if_pos (by omega)]))
 simp only [HS] at h1
 refine W_skip (tN (sQ (rG (eK 2 Z (oN (tN (rT (eR ?_))))))))
 ·(rw [szAct_eq]; simp only [szSeq]; repeat (first | rw [if_neg (by omega)] | rw [if_pos (by omega)]))
theorem szAct_fun (x : Act) (left : Int) (hx : x.ok 9223372036854775807) (h0 : 0 ≤ left) (hh : left ≤ 1048576) : Fun Try.prog 93 [.t x.tt, .t (.int left)] (.t (.int (szAct x left))) :=
 Act.ind (p := fun x => ∀ left : Int, x.ok 9223372036854775807 → 0 ≤ left → left ≤ 1048576 → Fun Try.prog 93 [.t x.tt, .t (.int left)] (.t (.int (szAct x left))))
  (fun x ih left hx h0 hh => szAct_fun0 x left h0 hh (szActS_fun x.cases left hx.cases' h0 hh fun y hy left h0 hh => ih y hy left (hx.cases'.2 y hy) h0 hh)) x left hx h0 hh
theorem toAct_fun0 (x : Act) (hs : Fun Try.prog 55 [.t (T.Acts x.cases)] (.own (T.Acts x.cases))) : Fun Try.prog 96 [.t x.tt] (tupD [x.dd]) := by
 refine Fun.begin tys Try.func96 Z Z (N := 18) [(0, .t x.tt)] Z Z (fun w0 G F0 => ?_)
 refine sQ (rG (WO_box Z Z (lt_of Z) Z Z (nZ Z (WO_alloc tys Z Z (lt_of Z) Z Z Z (nZ Z (oN (tN (sQ (rG (WO_alloc tys Z Z (lt_of Z) Z Z Z (nZ Z (oN (tN (sQ (rG ?_)))))))))))))))
 refine eK 3 Z (sT Z (nZ Z (oN (tN (sQ (kY [1,2,3] Z (rG (eK 3 Z (sT Z (nZ Z (oN (tN (sQ (rG (eK 3 Z ?_)))))))))))))))
 refine sT Z (nZ Z (oN (tN (sQ (kY [1,2,3] Z (rG (eK 2 Z (callB ?_))))))))
 refine ⟨_, hs, rfl, ?_⟩
 refine eZ Z (sT Z (nZ Z (oN (tN (sQ (rG (WO_loadMove tys Z Z (lt_of Z) Z Z Z Z Z Z (nZ Z (sT Z (nZ Z (oN (tN (rT (eR ?_))))))))))))))
 ·rfl
theorem toAct_fun (x : Act) (hx : x.ok 1048576) : Fun Try.prog 96 [.t x.tt] x.dd :=
 Act.ind (p := fun x => x.ok 1048576 → Fun Try.prog 96 [.t x.tt] x.dd)
  (fun x ih hx => toAct_fun0 x (toActS_fun x.cases hx.cases' fun y hy => ih y hy (hx.cases'.2 y hy))) x hx
theorem eqAct_fun0 (a b : Act) (hs : Fun Try.prog 57 [.t (T.Acts a.cases), .t (T.Acts b.cases)] (.t (.bool (eqL eqAct a.cases b.cases)))) : Fun Try.prog 102 [.t a.tt, .t b.tt] (tupD [.t (.bool (eqAct a b))]) := by
 refine Fun.begin tys Try.func102 Z Z (N := 26) [(0, .t a.tt), (1, .t b.tt)] Z Z (fun w0 G F0 => ?_)
 refine sQ (rG (WO_box Z Z (lt_of Z) Z Z (nZ Z (WO_box Z Z (lt_of Z) Z Z (nZ Z (eZ Z (oN (tN (sQ (sQ (rG (eK 5 Z (oN (tN ?_))))))))))))))
 refine W_cond Z (fun h1 => ?_) (fun h1 => ?_)
 ·
  simp only [HS] at h1
  refine sQ (kY [2,3,4] Z (rG (eZ Z (oN (tN (rT (tR (eR ?_))))))))
  ·(rw [eqAct_eq]; simp_all [eqI])
 simp only [HS] at h1
 refine W_skip (tN (sQ (sQ (kY [2,3,4] Z (rG (eK 5 Z (oN (tN ?_))))))))
 refine W_cond Z (fun h2 => ?_) (fun h2 => ?_)
 ·
  simp only [HS] at h2
  refine sQ (rG (eZ Z (oN (tN (rT (tR (eR ?_)))))))
  ·(rw [eqAct_eq]; simp_all [eqI])
 simp only [HS] at h2
 refine W_skip (tN (sQ (sQ (rG (eK 4 Z (kZ [2,3,4,16,18] Z (eZ Z (oN (tN ?_)))))))))
 refine W_cond Z (fun h3 => ?_) (fun h3 => ?_)
 ·
  simp only [HS] at h3
  refine sQ (rG (eZ Z (oN (tN (rT (tR (eR ?_)))))))
  ·(rw [eqAct_eq]; simp_all [eqI])
 simp only [HS] at h3
 refine W_skip (tN (sQ (sQ (rG (eK 4 Z (callB ?_))))))
 refine ⟨_, hs, rfl, ?_⟩
 refine eZ Z (oN (tN ?_))
 refine W_cond Z (fun h4 => ?_) (fun h4 => ?_)
 ·
  simp only [HS] at h4
  refine sQ (kY [4] Z (rG (eZ Z (oN (tN (rT (tR (eR ?_))))))))
  ·(rw [eqAct_eq]; simp_all [eqI])
 simp only [HS] at h4
 refine W_skip (tN (sQ (kY [4] Z (rG (eZ Z (oN (tN (rT (eR ?_)))))))))
 ·(rw [eqAct_eq]; simp_all [eqI])
theorem eqAct_fun (a b : Act) (ha : a.ok 9223372036854775807) (hb : b.ok 9223372036854775807) : Fun Try.prog 102 [.t a.tt, .t b.tt] (.t (.bool (eqAct a b))) :=
 Act.ind (p := fun a => ∀ b, a.ok 9223372036854775807 → b.ok 9223372036854775807 → Fun Try.prog 102 [.t a.tt, .t b.tt] (.t (.bool (eqAct a b))))
  (fun a ih b ha hb => eqAct_fun0 a b (eqActS_fun a.cases b.cases ha.cases' hb.cases' fun y hy z hz => ih y hy z (ha.cases'.2 y hy) hz)) a b ha hb
theorem szActSo_fun (l : List Act) (left : Int) (hl : okL 9223372036854775807 (Act.ok 9223372036854775807) l) (h0 : 0 ≤ left) (hh : left ≤ 1048576) : Fun Try.prog 52 [.t (T.Acts l), .t (.int left)] (.t (.int (szL szAct l left))) :=
 szActS_fun l left hl h0 hh fun y hy left h0 hh => szAct_fun y left (hl.2 y hy) h0 hh
theorem toActSo_fun (l : List Act) (hl : okL 1048576 (Act.ok 1048576) l) : Fun Try.prog 55 [.t (T.Acts l)] (.own (T.Acts l)) := toActS_fun l hl fun y hy => toAct_fun y (hl.2 y hy)
theorem eqActSo_fun (a b : List Act) (ha : okL 9223372036854775807 (Act.ok 9223372036854775807) a) (hb : okL 9223372036854775807 (Act.ok 9223372036854775807) b) : Fun Try.prog 57 [.t (T.Acts a), .t (T.Acts b)] (.t (.bool (eqL eqAct a b))) :=
 eqActS_fun a b ha hb fun y hy z hz => eqAct_fun y z (ha.2 y hy) hz
structure Task where
 acts : List (Act)
 pos : Int
 state : Int
 last : Int
def Task.tt (x : Task) : T := .agg [T.Acts x.acts, T.int x.pos, T.int x.state, T.int x.last]
def Task.ok (B : Nat) (x : Task) : Prop := okL B (Act.ok B) x.acts ∧ True
def eqTask (a b : Task) : Bool := (eqL eqAct) a.acts b.acts && eqI a.pos b.pos && eqI a.state b.state && eqI a.last b.last && true
theorem eqTask_refl (a : Task) : eqTask a a = true := by
 unfold eqTask; simp only [eqI_refl, eqL_refl eqAct_refl, Bool.and_self]
theorem eqTask_fun (a b : Task) (ha : Task.ok 9223372036854775807 a) (hb : Task.ok 9223372036854775807 b) : Fun Try.prog 87 [.t (Task.tt a), .t (Task.tt b)] (tupD [.t (.bool (eqTask a b))]) := by
 refine Fun.begin tys Try.func87 Z Z (N := 26) [(0, .t (Task.tt a)), (1, .t (Task.tt b))] Z Z (fun w0 G F0 => ?_)
 refine sQ (rG (WO_box Z Z (lt_of Z) Z Z (nZ Z (WO_box Z Z (lt_of Z) Z Z (nZ Z (eZ Z (oN (tN (sQ (sQ (rG (eK 4 Z (callB ?_)))))))))))))
 refine ⟨_, eqActSo_fun _ _ (by first | exact ha.1) (by first | exact hb.1), rfl, ?_⟩
 refine eZ Z (kZ [2,3,4,10] Z (oN (tN ?_)))
 refine W_cond Z (fun h1 => ?_) (fun h1 => ?_)
 ·
  simp only [HS] at h1
  refine sQ (rG (eZ Z (oN (tN (rT (tR (eR ?_)))))))
  ·simp_all [eqTask, eqI, eqB]
 simp only [HS] at h1
 refine W_skip (tN (sQ (sQ (rG (eK 5 Z (oN (tN ?_)))))))
 refine W_cond Z (fun h2 => ?_) (fun h2 => ?_)
 ·
  simp only [HS] at h2
  refine sQ (rG (eZ Z (oN (tN (rT (tR (eR ?_)))))))
  ·simp_all [eqTask, eqI, eqB]
 simp only [HS] at h2
 refine W_skip (tN (sQ (sQ (rG (eK 4 Z (kZ [2,3,4,17,19] Z (eZ Z (oN (tN ?_)))))))))
 refine W_cond Z (fun h3 => ?_) (fun h3 => ?_)
 ·
  simp only [HS] at h3
  refine sQ (rG (eZ Z (oN (tN (rT (tR (eR ?_)))))))
  ·simp_all [eqTask, eqI, eqB]
 simp only [HS] at h3
 refine W_skip (tN (sQ (sQ (rG (eK 5 Z (oN (tN ?_)))))))
 refine W_cond Z (fun h4 => ?_) (fun h4 => ?_)
 ·
  simp only [HS] at h4
  refine sQ (rG (eZ Z (oN (tN (rT (tR (eR ?_)))))))
  ·simp_all [eqTask, eqI, eqB]
 simp only [HS] at h4
 refine W_skip (tN (sQ (rG (eZ Z (oN (tN (rT (eR ?_))))))))
 ·simp_all [eqTask, eqI, eqB]
abbrev T.Tasks (l : List (Task)) : T := .list 4 (l.map Task.tt)
theorem eqTaskS_fun (a b : List (Task)) (ha : okL 9223372036854775807 (Task.ok 9223372036854775807) a) (hb : okL 9223372036854775807 (Task.ok 9223372036854775807) b) : Fun Try.prog 47 [.t (T.Tasks a), .t (T.Tasks b)] (tupD [.t (.bool (eqL eqTask a b))]) := by
 have ha1 := ha.1
 have hb1 := hb.1
 refine Fun.begin tys Try.func47 Z Z (N := 27) [(0, .t (T.Tasks a)), (1, .t (T.Tasks b))] Z Z (fun w0 G F0 => ?_)
 refine sQ (rG (eZ Z (oN (tN (sQ (sQ (rG (eZ Z (evE ?_)))))))))
 refine eZ Z (evE ?_)
 refine eZ Z (oN (tN ?_))
 refine W_cond Z (fun h1 => ?_) (fun h1 => ?_)
 ·
  simp only [HS] at h1
  refine sQ (rG (eZ Z (oN (tN (rT (tR (eR ?_)))))))
  ·rw [eqL_len h1]
   done
 simp only [HS] at h1
 refine W_skip (tN (sQ (sQ (rG (eZ Z (oN (tN (W_block ?_))))))))
 refine lK (α := Int) [0, 1] [] (fun x => [(5, .t (.int x))]) (fun x => []) (fun x => 0 ≤ x ∧ x ≤ a.length ∧ eqGo eqTask a b = eqGo eqTask (a.drop x.toNat) (b.drop x.toNat)) (fun x => Int.toNat (a.length - x)) 0 ?_ (fun k hx => ?_)
 ·exact ⟨by omega, by omega, rfl⟩
 obtain ⟨hk0, hk1, hk2⟩ := hx
 refine nY Z (sQ (sQ (rG (eK 2 Z (evE ?_)))))
 refine eZ Z (oN (tN ?_))
 refine W_cond Z (fun h2 => ?_) (fun h2 => ?_)
 ·
  simp only [HS] at h2
  refine W_skip (tN (sQ (W_block (sQ (W_regionD mixed (by kernel_rfl) (evQ ?_))))))
  refine evQ ?_
  refine QL_norm Z (QL_idxT tys Z Z (lt_of Z) Z Z Z Z Z Z Z (by omega) _ (getT _ _ (by omega) (by omega)) (evQ ?_))
  refine evQ ?_
  refine evQ ?_
  refine QL_idxT tys Z Z (lt_of Z) Z Z Z Z Z Z Z (by omega) _ (getT _ _ (by omega) (by omega)) (evQ ?_)
  refine QL_norm Z (callBQ ?_)
  refine ⟨_, eqTask_fun _ _ (ha.2 _ (List.getElem_mem _)) (hb.2 _ (List.getElem_mem _)), rfl, ?_⟩
  refine evQ ?_
  refine QL_nil (tN ?_)
  refine W_cond Z (fun h3 => ?_) (fun h3 => ?_)
  ·
   simp only [HS] at h3
   refine sQ (rG (eZ Z (oN (tN (rT (bR (tR (loopQ_r (bR (tR (eR ?_)))))))))))
   ·rw [eqL_eq h1, hk2, eqGo_at hk0 h2 h1]
    simp [h3]
    done
  simp only [HS] at h3
  refine W_skip (bN (tN (rG (eZ Z (evI ?_)))))
  refine eZ Z (oN ?_)
  refine lQ _ ?_ ?_
  ·skip
   refine ⟨by omega, by omega, ?_⟩; rw [hk2, eqGo_at hk0 h2 h1]; simp [h3]
  ·(show Int.toNat _ < Int.toNat _); omega
 simp only [HS] at h2
 refine W_exit (tE (loopQ_e (inBlk_y (tN (sQ (rG (eZ Z (oN (tN (rT (eR ?_)))))))))))
 ·rw [eqL_eq h1, hk2, drop_end h2]
  rfl
structure World where
 room : List Int
 held : List (List Int)
 shut : List Bool
 tasks : List (Task)
 trace : List Int
def World.tt (x : World) : T := .agg [T.ints x.room, intss x.held, T.bools x.shut, T.Tasks x.tasks, T.ints x.trace]
def World.ok (B : Nat) (x : World) : Prop := okN B x.room ∧ okL B (okN B) x.held ∧ okN B x.shut ∧ okL B (Task.ok B) x.tasks ∧ okN B x.trace ∧ True
def eqWorld (a b : World) : Bool := (eqL eqI) a.room b.room && (eqL (eqL eqI)) a.held b.held && (eqL eqB) a.shut b.shut && (eqL eqTask) a.tasks b.tasks && (eqL eqI) a.trace b.trace && true
theorem eqWorld_refl (a : World) : eqWorld a a = true := by
 unfold eqWorld; simp only [eqL_refl (eqL_refl eqI_refl), eqL_refl eqB_refl, eqL_refl eqI_refl, eqL_refl eqTask_refl, Bool.and_self]
theorem eqWorld_fun (a b : World) (ha : World.ok 9223372036854775807 a) (hb : World.ok 9223372036854775807 b) : Fun Try.prog 13 [.t (World.tt a), .t (World.tt b)] (tupD [.t (.bool (eqWorld a b))]) := by
 refine Fun.begin tys Try.func13 Z Z (N := 35) [(0, .t (World.tt a)), (1, .t (World.tt b))] Z Z (fun w0 G F0 => ?_)
 refine sQ (rG (WO_box Z Z (lt_of Z) Z Z (nZ Z (WO_box Z Z (lt_of Z) Z Z (nZ Z (eZ Z (oN (tN (sQ (sQ (rG (eK 4 Z (callB ?_)))))))))))))
 refine ⟨_, eqIntSo_fun _ _ (by first | exact ha.1 | exact ha.2.2.2.2.1) (by first | exact hb.1 | exact hb.2.2.2.2.1), rfl, ?_⟩
 refine eZ Z (kZ [2,3,4,10] Z (oN (tN ?_)))
 refine W_cond Z (fun h1 => ?_) (fun h1 => ?_)
 ·
  simp only [HS] at h1
  refine sQ (rG (eZ Z (oN (tN (rT (tR (eR ?_)))))))
  ·simp_all [eqWorld, eqI, eqB]
 simp only [HS] at h1
 refine W_skip (tN (sQ (sQ (rG (eK 4 Z (callB ?_))))))
 refine ⟨_, eqIntSSo_fun _ _ (by first | exact ha.2.1) (by first | exact hb.2.1), rfl, ?_⟩
 refine eZ Z (oN (tN ?_))
 refine W_cond Z (fun h2 => ?_) (fun h2 => ?_)
 ·
  simp only [HS] at h2
  refine sQ (rG (eZ Z (oN (tN (rT (tR (eR ?_)))))))
  ·simp_all [eqWorld, eqI, eqB]
 simp only [HS] at h2
 refine W_skip (tN (sQ (sQ (rG (eK 3 Z (kZ [2,3,4,18,19] Z (eZ Z (callB ?_))))))))
 refine ⟨_, eqBoolS_fun _ _ (by first | exact ha.2.2.1) (by first | exact hb.2.2.1), rfl, ?_⟩
 refine eZ Z (oN (tN ?_))
 refine W_cond Z (fun h3 => ?_) (fun h3 => ?_)
 ·
  simp only [HS] at h3
  refine sQ (rG (eZ Z (oN (tN (rT (tR (eR ?_)))))))
  ·simp_all [eqWorld, eqI, eqB]
 simp only [HS] at h3
 refine W_skip (tN (sQ (sQ (rG (eK 4 Z (callB ?_))))))
 refine ⟨_, eqTaskS_fun _ _ (by first | exact ha.2.2.2.1) (by first | exact hb.2.2.2.1), rfl, ?_⟩
 refine eZ Z (kZ [2,3,4,28] Z (oN (tN ?_)))
 refine W_cond Z (fun h4 => ?_) (fun h4 => ?_)
 ·
  simp only [HS] at h4
  refine sQ (rG (eZ Z (oN (tN (rT (tR (eR ?_)))))))
  ·simp_all [eqWorld, eqI, eqB]
 simp only [HS] at h4
 refine W_skip (tN (sQ (sQ (rG (eK 4 Z (callB ?_))))))
 refine ⟨_, eqIntSo_fun _ _ (by first | exact ha.1 | exact ha.2.2.2.2.1) (by first | exact hb.1 | exact hb.2.2.2.2.1), rfl, ?_⟩
 refine eZ Z (oN (tN ?_))
 refine W_cond Z (fun h5 => ?_) (fun h5 => ?_)
 ·
  simp only [HS] at h5
  refine sQ (rG (eZ Z (oN (tN (rT (tR (eR ?_)))))))
  ·simp_all [eqWorld, eqI, eqB]
 simp only [HS] at h5
 refine W_skip (tN (sQ (rG (eZ Z (oN (tN (rT (eR ?_))))))))
 ·simp_all [eqWorld, eqI, eqB]
open Go.Eng
theorem rd_act_n : ∀ (n : Nat) {x : T}, SizeOf.sizeOf x < n → Rd Try.prog 109 x → ∃ a : Act, x = a.tt ∧ a.ok 9223372036854775807
 | 0, _, h, _ => by omega
 | n + 1, x, hn, h => by
  obtain ⟨xs, rfl, h1⟩ := rd_struct (ts := [3, 3, 3, 77]) (by kernel_rfl) h
  match xs, h1 with
  | [x1, x2, x3, x4], ⟨h1, h2, h3, h4, _⟩ =>
   obtain ⟨k, rfl, _⟩ := rd_i h1
   obtain ⟨c, rfl, _⟩ := rd_i h2
   obtain ⟨m, rfl, _⟩ := rd_i h3
   obtain ⟨l, rfl, h5, h6⟩ := rd_slice (e := 109) (n := 4) (by kernel_rfl) (by kernel_rfl) h4
   obtain ⟨l', rfl, h7⟩ := map_of (q := Act.ok 9223372036854775807) (g := Act.toT) h6 fun y hl hy => by
    have := List.sizeOf_lt_of_mem hl
    simp [T.cells, List.flatMap] at hn
    obtain ⟨a, h8, h9⟩ := rd_act_n n (x := y) (by omega) hy
    exact ⟨a, by rw [h8, Act.toT_eq], h9⟩
   exact ⟨.mk k c m l', rfl, .mk (by simpa using h5) h7⟩
theorem rd_act {x : T} (h : Rd Try.prog 109 x) : ∃ a : Act, x = a.tt ∧ a.ok 9223372036854775807 := rd_act_n _ (Nat.lt_succ_self _) h
theorem rd_acts {x : T} (h : Rd Try.prog 77 x) : ∃ l : List Act, x = T.Acts l ∧ okL 9223372036854775807 (Act.ok 9223372036854775807) l :=
 rd_list (e := 109) (n := 4) (by kernel_rfl) (by kernel_rfl) (fun y hy => by obtain ⟨a, h1, h2⟩ := rd_act hy; exact ⟨a, by rw [h1, Act.toT_eq], h2⟩) h
open Go.Eng
theorem retB {b b' : Bool} (h : b = b') : [D.t (T.v (Value.bool b))] = [D.t (T.bool b')] := by rw [h]
def inNum (n : Int) : Bool := decide (-1000 ≤ n ∧ n ≤ 1000)
def plainAct (a : Act) (c : Int) : Bool := decide ((a.cases.length : Int) ≤ 0) && decide (0 ≤ a.chan ∧ a.chan ≤ c - 1) &&
 (if a.kind = 1 then inNum a.n else if a.kind = 2 ∨ a.kind = 5 then decide (a.n = 0) else decide (a.kind = 3) && (decide (a.n = 0) && decide (a.chan = 0)))
def caseAct (c : Int) (a : Act) : Bool := decide (a.kind = 1 ∨ a.kind = 2) && plainAct a c
def goodAct (c : Int) (a : Act) : Bool := if a.kind = 4 then a.cases.all (caseAct c) && (decide ((1 : Int) ≤ a.cases.length ∧ (a.cases.length : Int) ≤ 3) && (decide (a.chan = 0) && decide (a.n = 0))) else plainAct a c
theorem l15Num_fun (n : Int) : Fun Try.prog 78 [.t (.int n)] (tupD [.t (.bool (inNum n))]) := by
 refine Fun.begin tys Try.func78 Z Z (N := 5) [(0, .t (.int n))] Z Z (fun w0 G F0 => ?_)
 refine sQ (rG (eZ Z (oN (tN (sQ (rG (eZ Z (callB ?_))))))))
 refine ⟨_, l1In_fun _ _ _, rfl, ?_⟩
 refine eZ Z (oN (tN (rT (eR ?_))))
 ·rfl
theorem l15Plain_fun (a : Act) (c : Int) (ha : a.cases.length ≤ 9223372036854775807) (hc0 : 1 ≤ c) (hc1 : c ≤ 1000) : Fun Try.prog 114 [.t a.tt, .t (.int c)] (tupD [.t (.bool (plainAct a c))]) := by
 refine Fun.begin tys Try.func114 Z Z (N := 43) [(0, .t a.tt), (1, .t (.int c))] Z Z (fun w0 G F0 => ?_)
 refine sQ (rG (WO_box Z Z (lt_of Z) Z Z (nZ Z (eZ Z (oN (tN (sQ (sQ (rG (eK 2 Z (evE ?_)))))))))))
 refine eK 2 Z ?_
 refine WO_guard Z Z Z Z (lt_of Z) (fun h1 => ?_) (fun h1 => ?_)
 rotate_left
 ·
  simp only [HS] at h1
  refine gM Z (gM Z (kZ [2,4,9,11,12] Z (gM Z (gM Z (gM Z (eZ Z (oN (tN (W_condT Z (sQ (rG (eZ Z (oN (tN (rT ?_)))))))))))))))
  refine tR (eR ?_)
  ·exact retB (by grind [plainAct])
 simp only [HS] at h1
 refine eZ Z (gY Z (eZ Z (kZ [1,2,4,9,11] Z (gY Z (eZ Z (gY Z (evI ?_)))))))
 refine gY Z (callB ?_)
 refine ⟨_, l1In_fun _ _ _, rfl, ?_⟩
 refine gY Z (eK 2 Z (oN (tN ?_)))
 refine W_cond Z (fun h2 => ?_) (fun h2 => ?_)
 ·
  simp only [HS] at h2
  refine sQ (rG (eZ Z (oN (tN (rT (tR (eR ?_)))))))
  ·exact retB (by grind [plainAct])
 simp only [HS] at h2
 refine W_skip (tN (sQ (sQ (rG (eK 2 Z (oN (tN (W_block (sQ (kY [2,4,18] Z (rG (eK 2 Z (oN (tN ?_))))))))))))))
 refine W_cond Z (fun h3 => ?_) (fun h3 => ?_)
 ·
  simp only [HS] at h3
  refine sQ (rG (eK 2 Z (callB ?_)))
  refine ⟨_, l15Num_fun _, rfl, ?_⟩
  refine eZ Z (oN (tN (rT (bR (tR (eR ?_))))))
  ·exact retB (by grind [plainAct])
 simp only [HS] at h3
 refine sQ (sQ (rG (eK 2 Z (oN (tN ?_)))))
 refine W_cond Z (fun h4 => ?_) (fun h4 => ?_)
 ·
  simp only [HS] at h4
  refine W_skip (tN ?_)
  refine W_cond Z (fun h5 => ?_) (fun h5 => ?_)
  ·
   simp only [HS] at h5
   refine sQ (rG (eK 4 Z (oN (tN (rT (bR (tR (eR ?_))))))))
   ·exact retB (by grind [plainAct])
  simp only [HS] at h5
  refine W_skip (bN (tN (sQ (rG (eK 4 Z ?_)))))
  refine WO_guard Z Z Z Z (lt_of Z) (fun h6 => ?_) (fun h6 => ?_)
  rotate_left
  ·
   simp only [HS] at h6
   refine gM Z (kZ [2,4,33,35] Z (gM Z (eK 2 Z (gM Z (gM Z (gM Z (eK 2 Z (oN (tN (rT (eR ?_)))))))))))
   ·exact retB (by grind [plainAct])
  simp only [HS] at h6
  refine eZ Z (gY Z (eZ Z (kZ [2,4,33,35] Z (gY Z (eK 3 Z ?_)))))
  refine WO_guard Z Z Z Z (lt_of Z) (fun h7 => ?_) (fun h7 => ?_)
  rotate_left
  ·
   simp only [HS] at h7
   refine gM Z (gM Z (eK 2 Z (oN (tN (rT (eR ?_))))))
   ·exact retB (by grind [plainAct])
  simp only [HS] at h7
  refine eZ Z (gY Z (eZ Z (gY Z (eK 3 Z (oN (tN (rT (eR ?_))))))))
  ·exact retB (by grind [plainAct])
 simp only [HS] at h4
 refine rG (eK 2 Z (oN (tN ?_)))
 refine W_cond Z (fun h5 => ?_) (fun h5 => ?_)
 ·
  simp only [HS] at h5
  refine sQ (rG (eK 3 Z (kZ [2,4,29] Z (eZ Z (oN (tN (rT (bR (tR (eR ?_))))))))))
  ·exact retB (by grind [plainAct])
 simp only [HS] at h5
 refine W_skip (bN (tN (sQ (rG (eK 3 Z (kZ [2,4,32] Z (eZ Z ?_)))))))
 refine WO_guard Z Z Z Z (lt_of Z) (fun h6 => ?_) (fun h6 => ?_)
 rotate_left
 ·
  simp only [HS] at h6
  refine gM Z (gM Z (eK 2 Z (gM Z (gM Z (gM Z (eZ Z (kZ [4,42] Z (eZ Z (oN (tN (rT (eR ?_))))))))))))
  ·exact retB (by grind [plainAct])
 simp only [HS] at h6
 refine eZ Z (gY Z (eZ Z (gY Z (eK 3 Z ?_))))
 refine WO_guard Z Z Z Z (lt_of Z) (fun h7 => ?_) (fun h7 => ?_)
 rotate_left
 ·
  simp only [HS] at h7
  refine gM Z (gM Z (eZ Z (kZ [4,42] Z (eZ Z (oN (tN (rT (eR ?_))))))))
  ·exact retB (by grind [plainAct])
 simp only [HS] at h7
 refine eZ Z (gY Z (eZ Z (gY Z (eZ Z (kZ [4,38,41] Z (eK 2 Z (oN (tN (rT (eR ?_))))))))))
 ·exact retB (by grind [plainAct])
theorem go_at {α : Type} {p : α → Bool} {l : List α} {k : Int} (h0 : 0 ≤ k) (h1 : k < l.length) (h : p (l[k.toNat]'(by omega)) = false) : l.all p = false :=
 List.all_eq_false.2 ⟨_, List.getElem_mem _, by simpa using h⟩
theorem all_take {α : Type} {p : α → Bool} {l : List α} {k : Int} (h0 : 0 ≤ k) (h1 : k < l.length) (h : (l.take k.toNat).all p = true) (h2 : p (l[k.toNat]'(by omega)) = true) : (l.take (k + 1).toNat).all p = true := by
 rw [show (k + 1).toNat = k.toNat + 1 from by omega, List.take_add_one, List.getElem?_eq_getElem (by omega), List.all_append, h]
 simpa using h2
theorem all_full {α : Type} {p : α → Bool} {l : List α} {k : Int} (h1 : (l.length : Int) ≤ k) (h : (l.take k.toNat).all p = true) : l.all p = true := by
 rwa [List.take_of_length_le (by omega)] at h
theorem l15Act_fun (a : Act) (c : Int) (ha : a.ok 1048576) (hc0 : 1 ≤ c) (hc1 : c ≤ 1000) : Fun Try.prog 110 [.t a.tt, .t (.int c)] (tupD [.t (.bool (goodAct c a))]) := by
 have ha1 := ha.cases'.1
 refine Fun.begin tys Try.func110 Z Z (N := 49) [(0, .t a.tt), (1, .t (.int c))] Z Z (fun w0 G F0 => ?_)
 refine sQ (rG (WO_box Z Z (lt_of Z) Z Z (nZ Z (eZ Z (oN (tN (sQ (sQ (rG (eK 3 Z (oN (tN ?_))))))))))))
 refine W_cond Z (fun h1 => ?_) (fun h1 => ?_)
 ·
  simp only [HS] at h1
  refine sQ (rG (eZ Z ?_))
  try refine WO_le (Le.freeze (u := 10) rfl) ?_
  refine nZ Z (eZ Z (callB ?_))
  refine ⟨_, l15Plain_fun _ _ (by omega) hc0 hc1, rfl, ?_⟩
  refine eZ Z (kZ [1,2,4] Z (oN (tN (rT (tR (eR ?_))))))
  ·exact retB (by grind [goodAct])
 simp only [HS] at h1
 refine W_skip (tN (sQ (sQ (rG (eK 2 Z (evE ?_))))))
 refine eZ Z (kZ [1,2,4,14,15,16] Z (oN (tN (W_block ?_))))
 refine lK (α := Int) [1, 2, 14, 15] [2] (fun x => [(16, .t (.int x))]) (fun x => []) (fun x => 0 ≤ x ∧ x ≤ a.cases.length ∧ (a.cases.take x.toNat).all (caseAct c) = true) (fun x => Int.toNat (a.cases.length - x)) 0 ?_ (fun k hx => ?_)
 ·exact ⟨by omega, by omega, by simp⟩
 obtain ⟨hk0, hk1, hk2⟩ := hx
 refine nY Z (sQ (rG (eZ Z (oN (tN (sQ ?_))))))
 refine W_cond Z (fun h2 => ?_) (fun h2 => ?_)
 ·
  simp only [HS] at h2
  refine W_skip (tN (sQ (W_block (sQ (rG (WO_idxT tys Z Z (lt_of Z) Z Z Z Z Z Z Z (by omega) _ (getAct _ (by omega) (by omega)) (eZ Z ?_)))))))
  try refine WO_le (Le.freeze (u := 19) rfl) ?_
  refine nZ Z (WO_alloc tys Z Z (lt_of Z) Z Z Z (nZ Z (sT Z (nZ Z (oN (tN (sQ (rG (eK 4 Z (kZ [1,2,6,14,15,16,17,18,19,20,21,22,23] Z ?_))))))))))
  refine WO_guard Z Z Z Z (lt_of Z) (fun h3 => ?_) (fun h3 => ?_)
  rotate_left
  ·
   simp only [HS] at h3
   refine gM Z (gM Z (eK 2 Z (gY Z (eZ Z ?_))))
   try refine WO_le (Le.freeze (u := 29) rfl) ?_
   refine nZ Z (gY Z (eZ Z (gY Z (callB ?_))))
   refine ⟨_, l15Plain_fun _ _ (by have := (ha.cases'.2 _ (List.getElem_mem (l := a.cases) (n := k.toNat) (by omega))).cases'.1; omega) hc0 hc1, rfl, ?_⟩
   refine gY Z (eK 2 Z (kZ [1,2,6,14,15,16,17,18,19,20,21,22,23,24,25,26,27,28,29,30,31,32,33] Z (oN (tN ?_))))
   refine W_cond Z (fun h4 => ?_) (fun h4 => ?_)
   ·
    simp only [HS] at h4
    refine sQ (rG (eZ Z (oN (tN (rT (bR (tR (loopQ_r (bR (tR (eR ?_)))))))))))
    ·(have hh := go_at (l := a.cases) (p := caseAct c) hk0 h2 (by grind [caseAct]); exact retB (by grind [goodAct]))
   simp only [HS] at h4
   refine W_skip (bN (tN (rG (evI ?_))))
   refine eZ Z (oN ?_)
   refine lQ _ ?_ ?_
   ·skip
    exact ⟨by omega, by omega, all_take hk0 (by omega) hk2 (by simp_all [caseAct])⟩
   ·(show Int.toNat _ < Int.toNat _); omega
  simp only [HS] at h3
  refine eZ Z (gY Z (eZ Z (gY Z (eK 3 Z ?_))))
  refine WO_guard Z Z Z Z (lt_of Z) (fun h4 => ?_) (fun h4 => ?_)
  rotate_left
  ·
   simp only [HS] at h4
   refine gM Z (gM Z (gM Z (eZ Z (kZ [1,2,6,14,15,16,17,18,19,20,21,22,23,24,25,26,27,28,29,30,31,32,33] Z (oN (tN (W_condT Z (sQ (rG (eZ Z (oN (tN (rT (bR (tR ?_)))))))))))))))
   refine loopQ_r (bR (tR (eR ?_)))
   ·(have hh := go_at (l := a.cases) (p := caseAct c) hk0 h2 (by grind [caseAct]); exact retB (by grind [goodAct]))
  simp only [HS] at h4
  refine eZ Z ?_
  try refine WO_le (Le.freeze (u := 29) rfl) ?_
  refine nZ Z (gY Z (eZ Z (gY Z (callB ?_))))
  refine ⟨_, l15Plain_fun _ _ (by have := (ha.cases'.2 _ (List.getElem_mem (l := a.cases) (n := k.toNat) (by omega))).cases'.1; omega) hc0 hc1, rfl, ?_⟩
  refine gY Z (eZ Z (kZ [1,2,6,14,15,16,17,18,19,20,21,22,23,24,25,26,27,28,29,30,31,32] Z (eZ Z (oN (tN ?_)))))
  refine W_cond Z (fun h5 => ?_) (fun h5 => ?_)
  ·
   simp only [HS] at h5
   refine sQ (rG (eZ Z (oN (tN (rT (bR (tR (loopQ_r (bR (tR (eR ?_)))))))))))
   ·(have hh := go_at (l := a.cases) (p := caseAct c) hk0 h2 (by grind [caseAct]); exact retB (by grind [goodAct]))
  simp only [HS] at h5
  refine W_skip (bN (tN (rG (evI ?_))))
  refine eZ Z (oN ?_)
  refine lQ _ ?_ ?_
  ·skip
   exact ⟨by omega, by omega, all_take hk0 (by omega) hk2 (by simp_all [caseAct])⟩
  ·(show Int.toNat _ < Int.toNat _); omega
 simp only [HS] at h2
 refine W_exit (tE (loopQ_e (inBlk_y (tN (sQ (rG (eK 2 Z (evE ?_))))))))
 refine callB ?_
 refine ⟨_, l1In_fun _ _ _, rfl, ?_⟩
 refine eZ Z ?_
 refine WO_guard Z Z Z Z (lt_of Z) (fun h3 => ?_) (fun h3 => ?_)
 rotate_left
 ·
  simp only [HS] at h3
  refine gM Z (gM Z (eZ Z (kZ [2,43] Z (eZ Z (gM Z (gM Z (gM Z (eK 2 Z (oN (tN (rT (eR ?_))))))))))))
  ·exact retB (by grind [goodAct])
 simp only [HS] at h3
 refine eZ Z (gY Z (eZ Z (gY Z (eZ Z (kZ [2,39,42] Z (eK 2 Z ?_))))))
 refine WO_guard Z Z Z Z (lt_of Z) (fun h4 => ?_) (fun h4 => ?_)
 rotate_left
 ·
  simp only [HS] at h4
  refine gM Z (gM Z (eK 2 Z (oN (tN (rT (eR ?_))))))
  ·exact retB (by grind [goodAct])
 simp only [HS] at h4
 refine eZ Z (gY Z (eZ Z (gY Z (eK 3 Z (oN (tN (rT (eR ?_))))))))
 ·(have hh := all_full (by assumption) hk2; exact retB (by grind [goodAct]))
def goodActs (c : Int) (l : List Act) : Bool := l.all (goodAct c) && decide ((l.length : Int) ≤ 6)
theorem l15Acts_fun (l : List Act) (c : Int) (ha : okL 1048576 (Act.ok 1048576) l) (hc0 : 1 ≤ c) (hc1 : c ≤ 1000) : Fun Try.prog 77 [.t (T.Acts l), .t (.int c)] (tupD [.t (.bool (goodActs c l))]) := by
 have ha1 := ha.1
 refine Fun.begin tys Try.func77 Z Z (N := 21) [(0, .t (T.Acts l)), (1, .t (.int c))] Z Z (fun w0 G F0 => ?_)
 refine sQ (rG (eZ Z (oN (tN (sQ (sQ (rG (eZ Z (evE ?_)))))))))
 refine eZ Z (oN (tN (W_block ?_)))
 refine lK (α := Int) [0, 1, 7, 8] [] (fun x => [(9, .t (.int x))]) (fun x => []) (fun x => 0 ≤ x ∧ x ≤ l.length ∧ (l.take x.toNat).all (goodAct c) = true) (fun x => Int.toNat (l.length - x)) 0 ?_ (fun k hx => ?_)
 ·exact ⟨by omega, by omega, by simp⟩
 obtain ⟨hk0, hk1, hk2⟩ := hx
 refine nY Z (sQ (rG (eZ Z (oN (tN (sQ ?_))))))
 refine W_cond Z (fun h1 => ?_) (fun h1 => ?_)
 ·
  simp only [HS] at h1
  refine W_skip (tN (sQ (W_block (sQ (rG (WO_idxT tys Z Z (lt_of Z) Z Z Z Z Z Z Z (by omega) _ (getAct _ (by omega) (by omega)) (eZ Z ?_)))))))
  try refine WO_le (Le.freeze (u := 12) rfl) ?_
  refine nZ Z (WO_alloc tys Z Z (lt_of Z) Z Z Z (nZ Z (sT Z (nZ Z (oN (tN (sQ (rG (eZ Z ?_)))))))))
  try refine WO_le (Le.freeze (u := 13) rfl) ?_
  refine nZ Z (eZ Z (callB ?_))
  refine ⟨_, l15Act_fun _ _ (ha.2 _ (List.getElem_mem _)) hc0 hc1, rfl, ?_⟩
  refine eZ Z (kZ [0,1,6,7,8,9,10,11,12,13,14,15,16] Z (oN (tN ?_)))
  refine W_cond Z (fun h2 => ?_) (fun h2 => ?_)
  ·
   simp only [HS] at h2
   refine sQ (rG (eZ Z (oN (tN (rT (bR (tR (loopQ_r (bR (tR (eR ?_)))))))))))
   ·(have hh := go_at (l := l) (p := goodAct c) hk0 h1 (by assumption); rw [goodActs, hh]; rfl)
  simp only [HS] at h2
  refine W_skip (bN (tN (rG (evI ?_))))
  refine eZ Z (oN ?_)
  refine lQ _ ?_ ?_
  ·skip
   exact ⟨by omega, by omega, all_take hk0 (by omega) hk2 (by assumption)⟩
  ·(show Int.toNat _ < Int.toNat _); omega
 simp only [HS] at h1
 refine W_exit (tE (loopQ_e (inBlk_y (tN (sQ (rG (eZ Z (evE ?_))))))))
 refine eK 2 Z (oN (tN (rT (eR ?_))))
 ·(have hh := all_full (by assumption) hk2; rw [goodActs, hh]; rfl)
def heldGo : List (List Int) → List Int → Bool
 | l :: hs, r :: rs => decide ((l.length : Int) ≤ r) && (allIn l (-1000) 1000 && heldGo hs rs)
 | _, _ => true
def goodTask (c : Int) (t : Task) : Bool := goodActs c t.acts && (decide (0 ≤ t.pos ∧ t.pos ≤ t.acts.length) && (decide (0 ≤ t.state ∧ t.state ≤ 2) && (inNum t.last && decide (t.state = 1 ↔ t.pos = t.acts.length))))
def goodWorld (w : World) : Bool :=
 decide ((1 : Int) ≤ w.room.length ∧ (w.room.length : Int) ≤ 3) && (decide ((w.held.length : Int) = w.room.length) && (decide ((w.shut.length : Int) = w.room.length) && (allIn w.room 0 3 &&
  (decide ((1 : Int) ≤ w.tasks.length ∧ (w.tasks.length : Int) ≤ 4) && (decide ((w.trace.length : Int) ≤ 120) && (allIn w.trace (-1000) 1000 && (heldGo w.held w.room && w.tasks.all (goodTask w.room.length))))))))
theorem heldGo_at {hs : List (List Int)} {rs : List Int} {k : Int} (h0 : 0 ≤ k) (h1 : k < hs.length) (h2 : k < rs.length) :
  heldGo (hs.drop k.toNat) (rs.drop k.toNat) = (decide (((hs[k.toNat]'(by omega)).length : Int) ≤ rs[k.toNat]'(by omega)) && (allIn (hs[k.toNat]'(by omega)) (-1000) 1000 && heldGo (hs.drop (k + 1).toNat) (rs.drop (k + 1).toNat))) := by
 rw [drop_at h0 h1, drop_at (l := rs) h0 h2, heldGo]
theorem specGoodWorld_fun (w : World) (hw : w.ok 1048576) : Fun Try.prog 40 [.t w.tt] (tupD [.t (.bool (goodWorld w))]) := by
 have hw1 : w.room.length ≤ 1048576 := hw.1
 have hw2 : w.held.length ≤ 1048576 := hw.2.1.1
 have hw3 : w.shut.length ≤ 1048576 := hw.2.2.1
 have hw4 : w.tasks.length ≤ 1048576 := hw.2.2.2.1.1
 have hw5 : w.trace.length ≤ 1048576 := hw.2.2.2.2.1
 refine Fun.begin tys Try.func40 Z Z (N := 137) [(0, .t w.tt)] Z Z (fun w0 G F0 => ?_)
 refine sQ (rG (WO_box Z Z (lt_of Z) Z Z (nZ Z (eZ Z (oN (tN (sQ (rG (eK 2 Z (evE ?_))))))))))
 refine eZ Z (oN (tN (sQ (sQ (rG (eZ Z (callB ?_)))))))
 refine ⟨_, l1In_fun _ _ _, rfl, ?_⟩
 refine eZ Z (kZ [1,2,3,13] Z (eZ Z ?_))
 refine WO_guard Z Z Z Z (lt_of Z) (fun h1 => ?_) (fun h1 => ?_)
 rotate_left
 ·
  simp only [HS] at h1
  refine gM Z (gM Z (gM Z (gM Z (eK 2 Z (gM Z (gM Z (kZ [1,2,3,21,23] Z (gM Z (gM Z (gM Z (eK 2 Z (gM Z (gM Z (gM Z (gM Z ?_)))))))))))))))
  refine kZ [1,2,3,28,32] Z (eK 2 Z (gM Z (gM Z (gM Z (gM Z (gM Z (eK 2 Z (kZ [1,2,3,41] Z (gM Z (gM Z (gM Z (gM Z (eK 2 Z (gM Z (gM Z ?_)))))))))))))))
  refine gM Z (kZ [1,2,3,47,50] Z (gM Z (eZ Z (oN (tN (W_condT Z (sQ (rG (eZ Z (oN (tN (rT (tR (eR ?_))))))))))))))
  ·exact retB (by grind [goodWorld])
 simp only [HS] at h1
 refine eZ Z (gY Z (eZ Z (gY Z (evE ?_))))
 refine gY Z (eZ Z (gY Z (eK 3 Z ?_)))
 refine WO_guard Z Z Z Z (lt_of Z) (fun h2 => ?_) (fun h2 => ?_)
 rotate_left
 ·
  simp only [HS] at h2
  refine gM Z (kZ [1,2,3,21,23] Z (gM Z (gM Z (gM Z (eK 2 Z (gM Z (gM Z (gM Z (gM Z (kZ [1,2,3,28,32] Z (eK 2 Z (gM Z (gM Z (gM Z (gM Z ?_)))))))))))))))
  refine gM Z (eK 2 Z (kZ [1,2,3,41] Z (gM Z (gM Z (gM Z (gM Z (eK 2 Z (gM Z (gM Z (gM Z (kZ [1,2,3,47,50] Z (gM Z (eZ Z (oN (tN ?_)))))))))))))))
  refine W_condT Z (sQ (rG (eZ Z (oN (tN (rT (tR (eR ?_))))))))
  ·exact retB (by grind [goodWorld])
 simp only [HS] at h2
 refine eZ Z (gY Z (eZ Z (kZ [1,2,3,21,23] Z (gY Z (evE ?_)))))
 refine gY Z (eZ Z (gY Z (eK 3 Z ?_)))
 refine WO_guard Z Z Z Z (lt_of Z) (fun h3 => ?_) (fun h3 => ?_)
 rotate_left
 ·
  simp only [HS] at h3
  refine gM Z (gM Z (gM Z (eZ Z (kZ [1,2,3,33] Z (eZ Z (gM Z (gM Z (gM Z (gM Z (gM Z (eK 2 Z (gM Z (kZ [1,2,3,41,42] Z (gM Z (gM Z ?_)))))))))))))))
  refine gM Z (eK 2 Z (gM Z (gM Z (gM Z (gM Z (kZ [1,2,3,47,51] Z (eZ Z (oN (tN (W_condT Z (sQ (rG (eZ Z (oN (tN ?_)))))))))))))))
  refine rT (tR (eR ?_))
  ·exact retB (by grind [goodWorld])
 simp only [HS] at h3
 refine eZ Z (gY Z (eZ Z (gY Z (callB ?_))))
 refine ⟨_, l1All_fun _ _ _ (by first | omega | (have : (w.held[k.toNat]'(by omega)).length ≤ 1048576 := hw.2.1.2 _ (List.getElem_mem _); omega)), rfl, ?_⟩
 refine gY Z (eZ Z (kZ [1,2,3,28,32] Z (eK 2 Z ?_)))
 refine WO_guard Z Z Z Z (lt_of Z) (fun h4 => ?_) (fun h4 => ?_)
 rotate_left
 ·
  simp only [HS] at h4
  refine gM Z (gM Z (gM Z (gM Z (eK 2 Z (gM Z (kZ [1,2,3,41,42] Z (gM Z (gM Z (gM Z (eK 2 Z (gM Z (gM Z (gM Z (gM Z (kZ [1,2,3,47,51] Z ?_)))))))))))))))
  refine eZ Z (oN (tN (W_condT Z (sQ (rG (eZ Z (oN (tN (rT (tR (eR ?_)))))))))))
  ·exact retB (by grind [goodWorld])
 simp only [HS] at h4
 refine eZ Z (gY Z (eZ Z (gY Z (evE ?_))))
 refine gY Z (callB ?_)
 refine ⟨_, l1In_fun _ _ _, rfl, ?_⟩
 refine gY Z (eK 3 Z (kZ [1,2,3,41] Z ?_))
 refine WO_guard Z Z Z Z (lt_of Z) (fun h5 => ?_) (fun h5 => ?_)
 rotate_left
 ·
  simp only [HS] at h5
  refine gM Z (gM Z (gM Z (eK 2 Z (gM Z (gM Z (gM Z (gM Z (kZ [1,2,3,47,51] Z (eZ Z (oN (tN (W_condT Z (sQ (rG (eZ Z ?_)))))))))))))))
  refine oN (tN (rT (tR (eR ?_))))
  ·exact retB (by grind [goodWorld])
 simp only [HS] at h5
 refine eZ Z (gY Z (eZ Z (gY Z (evE ?_))))
 refine gY Z (eK 3 Z ?_)
 refine WO_guard Z Z Z Z (lt_of Z) (fun h6 => ?_) (fun h6 => ?_)
 rotate_left
 ·
  simp only [HS] at h6
  refine gM Z (gM Z (gM Z (kZ [1,2,3,47,51] Z (eZ Z (oN (tN (W_condT Z (sQ (rG (eZ Z (oN (tN (rT (tR (eR ?_)))))))))))))))
  ·exact retB (by grind [goodWorld])
 simp only [HS] at h6
 refine eZ Z (gY Z (eZ Z (gY Z (callB ?_))))
 refine ⟨_, l1All_fun _ _ _ (by first | omega | (have : (w.held[k.toNat]'(by omega)).length ≤ 1048576 := hw.2.1.2 _ (List.getElem_mem _); omega)), rfl, ?_⟩
 refine kZ [1,2,3,47,50] Z (gY Z (eK 2 Z (oN (tN ?_))))
 refine W_cond Z (fun h7 => ?_) (fun h7 => ?_)
 ·
  simp only [HS] at h7
  refine sQ (rG (eZ Z (oN (tN (rT (tR (eR ?_)))))))
  ·exact retB (by grind [goodWorld])
 simp only [HS] at h7
 refine W_skip (tN (sQ (sQ (rG (eK 2 Z (evE ?_))))))
 refine eZ Z (oN (tN (W_block ?_)))
 refine lK (α := Int) [1, 3, 54, 55] [1] (fun x => [(56, .t (.int x))]) (fun x => []) (fun x => 0 ≤ x ∧ x ≤ w.held.length ∧ (w.held.length : Int) = w.room.length ∧ heldGo w.held w.room = heldGo (w.held.drop x.toNat) (w.room.drop x.toNat)) (fun x => Int.toNat (w.held.length - x)) 0 ?_ (fun k hx => ?_)
 ·exact ⟨by omega, by omega, by assumption, rfl⟩
 obtain ⟨hk0, hk1, hk3, hk2⟩ := hx
 refine nY Z (sQ (rG (eZ Z (oN (tN (sQ ?_))))))
 refine W_cond Z (fun h8 => ?_) (fun h8 => ?_)
 ·
  simp only [HS] at h8
  refine W_skip (tN (sQ (W_block (sQ (rG (eZ Z (WO_idxT tys Z Z (lt_of Z) Z Z Z Z Z Z Z (by omega) _ (getT _ _ (by omega) (by omega)) (eK 3 Z (oN (tN (sQ (rG (eZ Z (evE ?_))))))))))))))
  refine eZ Z (kZ [1,3,4,5,54,55,56,57,58,59,60,61,62,63] Z (eK 2 Z (WO_idxT tys Z Z (lt_of Z) Z Z Z Z Z Z Z (by omega) _ (getT _ _ (by omega) (by omega)) (eK 3 Z ?_))))
  refine WO_guard Z Z Z Z (lt_of Z) (fun h9 => ?_) (fun h9 => ?_)
  rotate_left
  ·
   simp only [HS] at h9
   refine gM Z (gM Z (eZ Z (kZ [1,3,4,5,54,55,56,57,58,59,60,61,62,63,64,65,66,67,68,69,70,71,72,73] Z (oN (tN (W_condT Z (sQ (rG (eZ Z (oN (tN (rT (bR (tR (loopQ_r ?_)))))))))))))))
   refine bR (tR (eR ?_))
   ·(have hh : heldGo w.held w.room = false := (by rw [hk2, heldGo_at hk0 (by omega) (by omega)]; grind); exact retB (by grind [goodWorld]))
  simp only [HS] at h9
  refine eZ Z (gY Z (callB ?_))
  refine ⟨_, l1All_fun _ _ _ (by first | omega | (have : (w.held[k.toNat]'(by omega)).length ≤ 1048576 := hw.2.1.2 _ (List.getElem_mem _); omega)), rfl, ?_⟩
  refine gY Z (eZ Z (kZ [1,3,4,5,54,55,56,57,58,59,60,61,62,63,64,65,66,67,68,69,70,71,72] Z (eZ Z (oN (tN ?_)))))
  refine W_cond Z (fun h10 => ?_) (fun h10 => ?_)
  ·
   simp only [HS] at h10
   refine sQ (rG (eZ Z (oN (tN (rT (bR (tR (loopQ_r (bR (tR (eR ?_)))))))))))
   ·(have hh : heldGo w.held w.room = false := (by rw [hk2, heldGo_at hk0 (by omega) (by omega)]; grind); exact retB (by grind [goodWorld]))
  simp only [HS] at h10
  refine W_skip (bN (tN (rG (evI ?_))))
  refine eZ Z (oN ?_)
  refine lQ _ ?_ ?_
  ·skip
   exact ⟨by omega, by omega, hk3, by rw [hk2, heldGo_at hk0 (by omega) (by omega)]; simp [*]⟩
  ·(show Int.toNat _ < Int.toNat _); omega
 simp only [HS] at h8
 refine W_exit (tE (loopQ_e (inBlk_y (tN (sQ (sQ (rG (eK 2 Z (evE ?_)))))))))
 refine eZ Z (oN (tN (W_block ?_)))
 refine lK (α := Int) [1, 3, 76, 77] [1] (fun x => [(78, .t (.int x))]) (fun x => []) (fun x => 0 ≤ x ∧ x ≤ w.tasks.length ∧ (w.tasks.take x.toNat).all (goodTask w.room.length) = true) (fun x => Int.toNat (w.tasks.length - x)) 0 ?_ (fun k' hx => ?_)
 ·exact ⟨by omega, by omega, by simp⟩
 obtain ⟨hj0, hj1, hj2⟩ := hx
 refine nY Z (sQ (rG (eZ Z (oN (tN (sQ ?_))))))
 refine W_cond Z (fun h9 => ?_) (fun h9 => ?_)
 ·
  simp only [HS] at h9
  refine W_skip (tN (sQ (W_block (sQ (rG (WO_idxT tys Z Z (lt_of Z) Z Z Z Z Z Z Z (by omega) _ (getT _ _ (by omega) (by omega)) (eZ Z ?_)))))))
  try refine WO_le (Le.freeze (u := 81) rfl) ?_
  refine nZ Z (WO_alloc tys Z Z (lt_of Z) Z Z Z (nZ Z (sT Z (nZ Z (oN (tN (sQ (sQ (rG (eK 3 Z (callB ?_)))))))))))
  refine ⟨_, l15Acts_fun _ _ (hw.2.2.2.1.2 _ (List.getElem_mem _)).1 (by omega) (by omega), rfl, ?_⟩
  refine kZ [1,3,7,76,77,78,79,80,81,82,83,84,85] Z (eK 2 Z ?_)
  refine WO_guard Z Z Z Z (lt_of Z) (fun h10 => ?_) (fun h10 => ?_)
  rotate_left
  ·
   simp only [HS] at h10
   refine gM Z (gM Z (gM Z (gM Z (gM Z (gM Z (eZ Z (kZ [1,3,7,76,77,78,79,80,81,82,83,84,85,86,87,88,89,90,91,92,93,94,95] Z (eZ Z (gM Z (gM Z (gM Z (gM Z (eK 2 Z (gM Z (gM Z ?_)))))))))))))))
   refine kZ [1,3,7,76,77,78,79,80,81,82,83,84,85,86,87,88,89,90,91,92,93,94,95,96,97,98,99,100,101,102,103,104] Z (gM Z (gM Z (eZ Z (oN (tN (W_condT Z (sQ (rG (eZ Z (oN (tN (rT (tR (bR (tR ?_)))))))))))))))
   refine loopQ_r (bR (tR (eR ?_)))
   ·(have hh := go_at (l := w.tasks) (p := goodTask w.room.length) hj0 (by omega) (by grind [goodTask]); exact retB (by grind [goodWorld]))
  simp only [HS] at h10
  refine eZ Z (gY Z (eZ Z (gY Z (eZ Z (gY Z (eZ Z (gY Z (evE ?_))))))))
  refine gY Z (callB ?_)
  refine ⟨_, l1In_fun _ _ _, rfl, ?_⟩
  refine gY Z (eZ Z (kZ [1,3,7,76,77,78,79,80,81,82,83,84,85,86,87,88,89,90,91,92,93,94] Z (eK 2 Z ?_)))
  refine WO_guard Z Z Z Z (lt_of Z) (fun h11 => ?_) (fun h11 => ?_)
  rotate_left
  ·
   simp only [HS] at h11
   refine gM Z (gM Z (gM Z (eK 2 Z (gM Z (gM Z (kZ [1,3,7,76,77,78,79,80,81,82,83,84,85,86,87,88,89,90,91,92,93,94,95,96,97,98,99,100,101,102,103,104] Z (gM Z (gM Z (eZ Z (oN (tN (W_condT Z (sQ (rG (eZ Z ?_)))))))))))))))
   refine oN (tN (rT (tR (bR (tR (loopQ_r (bR (tR (eR ?_)))))))))
   ·(have hh := go_at (l := w.tasks) (p := goodTask w.room.length) hj0 (by omega) (by grind [goodTask]); exact retB (by grind [goodWorld]))
  simp only [HS] at h11
  refine eZ Z (gY Z (eZ Z (gY Z (callB ?_))))
  refine ⟨_, l1In_fun _ _ _, rfl, ?_⟩
  refine gY Z (eK 3 Z ?_)
  refine WO_guard Z Z Z Z (lt_of Z) (fun h12 => ?_) (fun h12 => ?_)
  rotate_left
  ·
   simp only [HS] at h12
   refine gM Z (kZ [1,3,7,76,77,78,79,80,81,82,83,84,85,86,87,88,89,90,91,92,93,94,95,96,97,98,99,100,101,102,103,104] Z (gM Z (gM Z (eZ Z (oN (tN (W_condT Z (sQ (rG (eZ Z (oN (tN (rT (tR (bR ?_)))))))))))))))
   refine tR (loopQ_r (bR (tR (eR ?_))))
   ·(have hh := go_at (l := w.tasks) (p := goodTask w.room.length) hj0 (by omega) (by grind [goodTask]); exact retB (by grind [goodWorld]))
  simp only [HS] at h12
  refine eZ Z (gY Z (eZ Z (kZ [1,3,7,76,77,78,79,80,81,82,83,84,85,86,87,88,89,90,91,92,93,94,95,96,97,98,99,100,101,102,103,104] Z (gY Z (callB ?_)))))
  refine ⟨_, l15Num_fun _, rfl, ?_⟩
  refine gY Z (eK 2 Z (oN (tN ?_)))
  refine W_cond Z (fun h13 => ?_) (fun h13 => ?_)
  ·
   simp only [HS] at h13
   refine sQ (rG (eZ Z (oN (tN (rT (tR (bR (tR (loopQ_r (bR (tR (eR ?_))))))))))))
   ·(have hh := go_at (l := w.tasks) (p := goodTask w.room.length) hj0 (by omega) (by grind [goodTask]); exact retB (by grind [goodWorld]))
  simp only [HS] at h13
  refine W_skip (tN (sQ (rG (eK 4 Z ?_))))
  refine WO_guard Z Z Z Z (lt_of Z) (fun h14 => ?_) (fun h14 => ?_)
  rotate_left
  ·
   simp only [HS] at h14
   refine gM Z (gM Z (kZ [1,3,7,76,77,78,79,80,81,82,83,84,85,86,87,88,89,90,91,92,93,94,95,96,97,98,99,100,101,102,103,104,105,106,107,108,109,110,111,112,113,114] Z (gM Z (gM Z (gM Z (gM Z (gM Z (gM Z (gM Z (eK 2 Z (kZ [1,3,7,76,77,78,79,80,81,82,83,84,85,86,87,88,89,90,91,92,93,94,95,96,97,98,99,100,101,102,103,104,105,106,107,108,109,110,111,112,113,114,115,116,117,118,119,120,121,122,123] Z (gY Z (eZ Z (gY Z (eZ Z ?_)))))))))))))))
   refine gY Z (eZ Z (gY Z (eZ Z ?_)))
   refine WO_guard Z Z Z Z (lt_of Z) (fun h15 => ?_) (fun h15 => ?_)
   rotate_left
   ·
    simp only [HS] at h15
    refine gM Z (gM Z (gM Z (gM Z (gM Z (kZ [1,3,7,76,77,78,79,80,81,82,83,84,85,86,87,88,89,90,91,92,93,94,95,96,97,98,99,100,101,102,103,104,105,106,107,108,109,110,111,112,113,114,115,116,117,118,119,120,121,122,123,124,125,126,127,128,129,130,131,132,133] Z (gY Z (eK 2 Z (oN (tN (W_condF Z (W_skip (bN (tN (rG (evI ?_)))))))))))))))
    refine eZ Z (oN ?_)
    refine lQ _ ?_ ?_
    ·skip
     exact ⟨by omega, by omega, all_take hj0 (by omega) hj2 (by grind [goodTask])⟩
    ·(show Int.toNat _ < Int.toNat _); omega
   simp only [HS] at h15
   refine eZ Z (gY Z (eZ Z (gY Z (eZ Z (gY Z (eZ Z (gY Z (evE ?_))))))))
   refine kZ [1,3,7,76,77,78,79,80,81,82,83,84,85,86,87,88,89,90,91,92,93,94,95,96,97,98,99,100,101,102,103,104,105,106,107,108,109,110,111,112,113,114,115,116,117,118,119,120,121,122,123,124,125,126,127,128,129,130,131,132] Z (gY Z (eZ Z (gY Z (eK 2 Z (oN (tN ?_))))))
   refine W_cond Z (fun h16 => ?_) (fun h16 => ?_)
   ·
    simp only [HS] at h16
    refine sQ (rG (eZ Z (oN (tN (rT (bR (tR (loopQ_r (bR (tR (eR ?_)))))))))))
    ·(have hh := go_at (l := w.tasks) (p := goodTask w.room.length) hj0 (by omega) (by grind [goodTask]); exact retB (by grind [goodWorld]))
   simp only [HS] at h16
   refine W_skip (bN (tN (rG (evI ?_))))
   refine eZ Z (oN ?_)
   refine lQ _ ?_ ?_
   ·skip
    exact ⟨by omega, by omega, all_take hj0 (by omega) hj2 (by grind [goodTask])⟩
   ·(show Int.toNat _ < Int.toNat _); omega
  simp only [HS] at h14
  refine eZ Z (gY Z (eZ Z (kZ [1,3,7,76,77,78,79,80,81,82,83,84,85,86,87,88,89,90,91,92,93,94,95,96,97,98,99,100,101,102,103,104,105,106,107,108,109,110,111,112,113] Z (gY Z (eZ Z (gY Z (eZ Z (gY Z (eZ Z (gY Z (eZ Z (gY Z (eZ Z (gY Z (evE ?_)))))))))))))))
  refine gY Z (eZ Z (gY Z (eK 2 Z (kZ [1,3,7,76,77,78,79,80,81,82,83,84,85,86,87,88,89,90,91,92,93,94,95,96,97,98,99,100,101,102,103,104,105,106,107,108,109,110,111,112,113,114,115,116,117,118,119,120,121,122] Z (eZ Z ?_)))))
  refine WO_guard Z Z Z Z (lt_of Z) (fun h15 => ?_) (fun h15 => ?_)
  rotate_left
  ·
   simp only [HS] at h15
   refine gM Z (gM Z (gM Z (gM Z (gM Z (gM Z (gM Z (gM Z (kZ [1,3,7,76,77,78,79,80,81,82,83,84,85,86,87,88,89,90,91,92,93,94,95,96,97,98,99,100,101,102,103,104,105,106,107,108,109,110,111,112,113,114,115,116,117,118,119,120,121,122,123,124,125,126,127,128,129,130,131,132] Z (gM Z (gM Z (eZ Z (oN (tN (W_condT Z (sQ ?_)))))))))))))))
   refine rG (eZ Z (oN (tN (rT (bR (tR (loopQ_r (bR (tR (eR ?_))))))))))
   ·(have hh := go_at (l := w.tasks) (p := goodTask w.room.length) hj0 (by omega) (by grind [goodTask]); exact retB (by grind [goodWorld]))
  simp only [HS] at h15
  refine eZ Z (gY Z (eZ Z (gY Z (eZ Z (gY Z (eZ Z ?_))))))
  refine WO_guard Z Z Z Z (lt_of Z) (fun h16 => ?_) (fun h16 => ?_)
  rotate_left
  ·
   simp only [HS] at h16
   refine gM Z (gM Z (gM Z (gM Z (kZ [1,3,7,76,77,78,79,80,81,82,83,84,85,86,87,88,89,90,91,92,93,94,95,96,97,98,99,100,101,102,103,104,105,106,107,108,109,110,111,112,113,114,115,116,117,118,119,120,121,122,123,124,125,126,127,128,129,130,131,132] Z (gM Z (gY Z (eK 2 Z (oN (tN (W_condF Z (W_skip (bN (tN (rG (evI ?_)))))))))))))))
   refine eZ Z (oN ?_)
   refine lQ _ ?_ ?_
   ·skip
    exact ⟨by omega, by omega, all_take hj0 (by omega) hj2 (by grind [goodTask])⟩
   ·(show Int.toNat _ < Int.toNat _); omega
  simp only [HS] at h16
  refine eZ Z (gY Z (eZ Z (gY Z (eZ Z (gY Z (eZ Z (kZ [1,3,7,76,77,78,79,80,81,82,83,84,85,86,87,88,89,90,91,92,93,94,95,96,97,98,99,100,101,102,103,104,105,106,107,108,109,110,111,112,113,114,115,116,117,118,119,120,121,122,123,124,125,126,127,128,129,130,131] Z (gY Z (evE ?_)))))))))
  refine gY Z (eZ Z (gY Z (eK 2 Z (oN (tN ?_)))))
  refine W_cond Z (fun h17 => ?_) (fun h17 => ?_)
  ·
   simp only [HS] at h17
   refine sQ (rG (eZ Z (oN (tN (rT (bR (tR (loopQ_r (bR (tR (eR ?_)))))))))))
   ·exact retB (by grind [goodWorld])
  simp only [HS] at h17
  refine W_skip (bN (tN (rG (evI ?_))))
  refine eZ Z (oN ?_)
  refine lQ _ ?_ ?_
  ·skip
   exact ⟨by omega, by omega, all_take hj0 (by omega) hj2 (by grind [goodTask])⟩
  ·(show Int.toNat _ < Int.toNat _); omega
 simp only [HS] at h9
 refine W_exit (tE (loopQ_e (inBlk_y (tN (sQ (rG (eZ Z (oN (tN (rT (eR ?_)))))))))))
 ·(have hh := all_full (l := w.tasks) (by omega) hj2; have h0 : heldGo w.held w.room = true := (by rw [hk2, drop_end h8]; simp [heldGo]); exact retB (by grind [goodWorld]))
theorem isTaskNumber_fun (n : Int) : Fun Try.prog 81 [.t (.int n)] (tupD [.t (.bool (inNum n))]) := by
 refine Fun.begin tys Try.func81 Z Z (N := 5) [(0, .t (.int n))] Z Z (fun w0 G F0 => ?_)
 refine sQ (rG (eZ Z (oN (tN (sQ (rG (eZ Z (callB ?_))))))))
 refine ⟨_, within_fun _ _ _, rfl, ?_⟩
 refine eZ Z (oN (tN (rT (eR ?_))))
 ·rfl
theorem isWorld1_fun (n : Int) : Fun Try.prog 80 [.t (.int n)] (tupD [.t (.bool (!inNum n))]) := by
 refine Fun.begin tys Try.func80 Z Z (N := 6) [(0, .t (.int n))] Z Z (fun w0 G F0 => ?_)
 refine sQ (rG (eZ Z (oN (tN (sQ (rG (eZ Z (callB ?_))))))))
 refine ⟨_, isTaskNumber_fun _, rfl, ?_⟩
 refine eK 2 Z (oN (tN (rT (eR ?_))))
 ·rfl
theorem isWorld2_fun (n : Int) : Fun Try.prog 82 [.t (.int n)] (tupD [.t (.bool (!inNum n))]) := by
 refine Fun.begin tys Try.func82 Z Z (N := 6) [(0, .t (.int n))] Z Z (fun w0 G F0 => ?_)
 refine sQ (rG (eZ Z (oN (tN (sQ (rG (eZ Z (callB ?_))))))))
 refine ⟨_, isTaskNumber_fun _, rfl, ?_⟩
 refine eK 2 Z (oN (tN (rT (eR ?_))))
 ·rfl
theorem idxAct_fun (l : List Act) (p : Act → Bool) (f : Nat) (caps : List D) (hcaps : caps.all D.imm = true) (hl : l.length ≤ 9223372036854775807) (hf : ∀ x, x ∈ l → Fun Try.prog f (.t x.tt :: caps) (.t (.bool (p x)))) : Fun Try.prog 111 [.t (T.Acts l), .clo f caps] (tupD [.t (.int (idxGo p l 0))]) := by
 refine Fun.begin tys Try.func111 Z Z (N := 19) [(0, .t (T.Acts l)), (1, .clo f caps)] Z Z (fun w0 G F0 => ?_)
 refine sQ (rG (eZ Z (oN (tN (sQ (sQ (rG (eZ Z (evE ?_)))))))))
 refine eZ Z (oN (tN (W_block ?_)))
 refine lK (α := Int) [0, 1, 7] [] (fun x => [(8, .t (.int x))]) (fun x => []) (fun x => 0 ≤ x ∧ x ≤ l.length ∧ idxGo p l 0 = idxGo p (l.drop x.toNat) x) (fun x => Int.toNat (l.length - x)) 0 ?_ (fun k hx => ?_)
 ·exact ⟨by omega, by omega, rfl⟩
 obtain ⟨hk0, hk1, hk2⟩ := hx
 refine nY Z (sQ (rG (eZ Z (oN (tN (sQ ?_))))))
 refine W_cond Z (fun h1 => ?_) (fun h1 => ?_)
 ·
  simp only [HS] at h1
  refine W_skip (tN (sQ (W_block (sQ (rG (eK 2 Z (oN (tN (sQ (rG (WO_moveClo tys Z Z (lt_of Z) Z Z (by assumption) ?_)))))))))))
  refine eK 2 Z (WO_idxT tys Z Z (lt_of Z) Z Z Z Z Z Z Z (by omega) _ (getAct _ (by omega) (by omega)) (eZ Z ?_))
  try refine WO_le (Le.freeze (u := 15) rfl) ?_
  refine nZ Z ?_
  refine WO_call Z Z (lt_of Z) Z Z (by repeat (first | exact ResL.done | exact ResL.imms (by first | rfl | assumption) | refine ResL.t ?_ | refine ResL.own ?_ | refine ResL.slA Z (by first | rfl | (simp; done) | (simp; omega)) ?_ | refine ResL.sl Z (by first | omega | (simp; done) | (simp; omega)) ?_ | refine ResL.rp ?_ | refine ResL.clo ?_ ?_ | refine ResL.aggT ?_ ?_ | refine ResL.ref Z ?_ ?_ | refine ResL.nil' ?_ | refine ResL.nil 1 ?_)) (hf _ (List.getElem_mem _)) Z ?_
  refine kZ [0,1,5,7,8,9,10,11,12,13,14,15,16] Z (oN (tN ?_))
  refine W_cond Z (fun h2 => ?_) (fun h2 => ?_)
  ·
   refine sQ (rG (eK 2 Z (oN (tN (rT (bR (tR (loopQ_r (bR (tR (eR ?_)))))))))))
   ·rw [hk2, idx_at hk0 h1]
    simp [h2]
    done
  refine W_skip (bN (tN (rG (evI ?_))))
  refine eZ Z (oN ?_)
  refine lQ _ ?_ ?_
  ·skip
   refine ⟨by omega, by omega, ?_⟩; rw [hk2, idx_at hk0 h1]; simp [h2]
  ·(show Int.toNat _ < Int.toNat _); omega
 simp only [HS] at h1
 refine W_exit (tE (loopQ_e (inBlk_y (tN (sQ (rG (eZ Z (oN (tN (rT (eR ?_)))))))))))
 ·rw [hk2, drop_end h1]
  rfl
theorem hasAct_fun (l : List Act) (p : Act → Bool) (f : Nat) (caps : List D) (hcaps : caps.all D.imm = true) (hl : l.length ≤ 9223372036854775807) (hf : ∀ x, x ∈ l → Fun Try.prog f (.t x.tt :: caps) (.t (.bool (p x)))) : Fun Try.prog 83 [.t (T.Acts l), .clo f caps] (tupD [.t (.bool (l.any p))]) := by
 refine Fun.begin tys Try.func83 Z Z (N := 9) [(0, .t (T.Acts l)), (1, .clo f caps)] Z Z (fun w0 G F0 => ?_)
 refine sQ (rG (eZ Z (oN (tN (sQ (rG (eZ Z (WO_moveClo tys Z Z (lt_of Z) Z Z (by assumption) ?_))))))))
 refine WO_call Z Z (lt_of Z) Z Z (by repeat (first | exact ResL.done | exact ResL.imms (by first | rfl | assumption) | refine ResL.t ?_ | refine ResL.own ?_ | refine ResL.slA Z (by first | rfl | (simp; done) | (simp; omega)) ?_ | refine ResL.sl Z (by first | omega | (simp; done) | (simp; omega)) ?_ | refine ResL.rp ?_ | refine ResL.clo ?_ ?_ | refine ResL.aggT ?_ ?_ | refine ResL.ref Z ?_ ?_ | refine ResL.nil' ?_ | refine ResL.nil 1 ?_)) (idxAct_fun l p f caps hcaps hl hf) Z ?_
 refine eK 2 Z (oN (tN (rT (eR ?_))))
 ·rw [← idxGo_any (Int.le_refl 0)]
theorem any_nots {α : Type} {p : α → Bool} {l : List α} : (l.any fun b => !p b) = !l.all p := by rw [List.not_all_eq_any_not]
theorem any_num {l : List Int} : (l.any fun n => !inNum n) = !allIn l (-1000) 1000 := any_nots
theorem isAct1_fun (b : Act) (c : Int) (hs : Fun Try.prog 85 [.t b.tt, .t (.int c)] (.t (.bool (goodAct c b)))) : Fun Try.prog 112 [.t b.tt, .rp (.agg [T.int c]) 0] (tupD [.t (.bool (!caseAct c b))]) := by
 refine Fun.begin tys Try.func112 Z Z (N := 18) [(0, .t b.tt), (1, .rp (.agg [T.int c]) 0)] Z Z (fun w0 G F0 => ?_)
 refine sQ (rG (WO_box Z Z (lt_of Z) Z Z (nZ Z (eZ Z (oN (tN (sQ (rG (eK 4 Z ?_)))))))))
 refine WO_guard Z Z Z Z (lt_of Z) (fun h1 => ?_) (fun h1 => ?_)
 rotate_left
 ·
  simp only [HS] at h1
  refine gM Z (gM Z (eZ Z (kZ [1,2,3,11] Z (eZ Z (gY Z (eZ Z ?_))))))
  try refine WO_le (Le.freeze (u := 13) rfl) ?_
  refine nZ Z (gY Z (eZ Z (gY Z (callB ?_))))
  refine ⟨_, hs, rfl, ?_⟩
  refine gY Z (eK 3 Z (oN (tN (rT (eR ?_)))))
  ·exact retB (by grind [caseAct, goodAct])
 simp only [HS] at h1
 refine eZ Z (gY Z (eZ Z (gY Z (eZ Z (kZ [1,2,3,7,10] Z (eK 2 Z ?_))))))
 refine WO_guard Z Z Z Z (lt_of Z) (fun h2 => ?_) (fun h2 => ?_)
 rotate_left
 ·
  simp only [HS] at h2
  refine gM Z (gM Z (gM Z (eK 2 Z (oN (tN (rT (eR ?_)))))))
  ·exact retB (by grind [caseAct, goodAct])
 simp only [HS] at h2
 refine eZ Z ?_
 try refine WO_le (Le.freeze (u := 13) rfl) ?_
 refine nZ Z (gY Z (eZ Z (gY Z (callB ?_))))
 refine ⟨_, hs, rfl, ?_⟩
 refine gY Z (eK 3 Z (oN (tN (rT (eR ?_)))))
 ·exact retB (by grind [caseAct, goodAct])
theorem isAct_fun0 (a : Act) (c : Int) (ha : a.cases.length ≤ 9223372036854775807) (hc0 : 1 ≤ c) (hc1 : c ≤ 1000) (ih : ∀ b, b ∈ a.cases → Fun Try.prog 85 [.t b.tt, .t (.int c)] (.t (.bool (goodAct c b)))) : Fun Try.prog 85 [.t a.tt, .t (.int c)] (tupD [.t (.bool (goodAct c a))]) := by
 refine Fun.begin tys Try.func85 Z Z (N := 81) [(0, .t a.tt), (1, .t (.int c))] Z Z (fun w0 G F0 => ?_)
 refine sQ (rG (WO_box Z Z (lt_of Z) Z Z (nZ Z (WO_box Z Z (lt_of Z) Z Z (nZ Z (eZ Z (oN (tN (sQ (rG (eK 3 Z (evI ?_))))))))))))
 refine callB ?_
 refine ⟨_, within_fun _ _ _, rfl, ?_⟩
 refine eZ Z (kZ [2,3,4,5] Z (oN (tN (sQ (sQ (rG (eK 2 Z (oN (tN (W_block (sQ (rG (eK 2 Z (oN (tN ?_)))))))))))))))
 refine W_cond Z (fun h1 => ?_) (fun h1 => ?_)
 ·
  simp only [HS] at h1
  refine sQ (rG (eK 2 Z ?_))
  refine WO_guard Z Z Z Z (lt_of Z) (fun h2 => ?_) (fun h2 => ?_)
  rotate_left
  ·
   simp only [HS] at h2
   refine gM Z (gM Z (eZ Z (kZ [2,4,20] Z (eZ Z (gM Z (gM Z (gM Z (gM Z (eK 2 Z (oN (tN (rT (bR (tR (eR ?_)))))))))))))))
   ·clear ih; first | exact retB (by grind [goodAct, plainAct]) | (have e := any_nots (p := caseAct c) (l := a.cases); exact retB (by grind [goodAct, plainAct]))
  simp only [HS] at h2
  refine eZ Z (gY Z (eZ Z (gY Z (callB ?_))))
  refine ⟨_, isTaskNumber_fun _, rfl, ?_⟩
  refine kZ [2,4,16,19] Z (eK 2 Z ?_)
  refine WO_guard Z Z Z Z (lt_of Z) (fun h3 => ?_) (fun h3 => ?_)
  rotate_left
  ·
   simp only [HS] at h3
   refine gM Z (gM Z (gM Z (eK 2 Z (oN (tN (rT (bR (tR (eR ?_)))))))))
   ·clear ih; first | exact retB (by grind [goodAct, plainAct]) | (have e := any_nots (p := caseAct c) (l := a.cases); exact retB (by grind [goodAct, plainAct]))
  refine eZ Z (gY Z (eZ Z (gY Z (evE ?_))))
  refine gY Z (eK 3 Z (oN (tN (rT (bR (tR (eR ?_)))))))
  ·clear ih; first | exact retB (by grind [goodAct, plainAct]) | (have e := any_nots (p := caseAct c) (l := a.cases); exact retB (by grind [goodAct, plainAct]))
 simp only [HS] at h1
 refine sQ (sQ (rG (eK 2 Z (oN (tN ?_)))))
 refine W_cond Z (fun h2 => ?_) (fun h2 => ?_)
 ·
  simp only [HS] at h2
  refine W_skip (tN ?_)
  refine W_cond Z (fun h3 => ?_) (fun h3 => ?_)
  ·
   simp only [HS] at h3
   refine sQ (rG (eK 2 Z ?_))
   refine WO_guard Z Z Z Z (lt_of Z) (fun h4 => ?_) (fun h4 => ?_)
   rotate_left
   ·
    simp only [HS] at h4
    refine gM Z (kZ [2,4,31,33] Z (gM Z (eK 2 Z (gM Z (gM Z (gM Z (gM Z (eK 2 Z (kZ [4] Z (oN (tN (rT (bR (tR (eR ?_)))))))))))))))
    ·clear ih; first | exact retB (by grind [goodAct, plainAct]) | (have e := any_nots (p := caseAct c) (l := a.cases); exact retB (by grind [goodAct, plainAct]))
   simp only [HS] at h4
   refine eZ Z (gY Z (eZ Z (kZ [2,4,31,33] Z (gY Z (eK 3 Z ?_)))))
   refine WO_guard Z Z Z Z (lt_of Z) (fun h5 => ?_) (fun h5 => ?_)
   rotate_left
   ·
    simp only [HS] at h5
    refine gM Z (gM Z (gM Z (eK 2 Z (oN (tN (rT (bR (tR (eR ?_)))))))))
    ·clear ih; first | exact retB (by grind [goodAct, plainAct]) | (have e := any_nots (p := caseAct c) (l := a.cases); exact retB (by grind [goodAct, plainAct]))
   simp only [HS] at h5
   refine eZ Z (gY Z (eZ Z (gY Z (evE ?_))))
   refine gY Z (eK 3 Z (kZ [4] Z (oN (tN (rT (bR (tR (eR ?_))))))))
   ·clear ih; first | exact retB (by grind [goodAct, plainAct]) | (have e := any_nots (p := caseAct c) (l := a.cases); exact retB (by grind [goodAct, plainAct]))
  simp only [HS] at h3
  refine sQ (rG (eK 2 Z (oN (tN ?_))))
  refine W_cond Z (fun h4 => ?_) (fun h4 => ?_)
  ·
   simp only [HS] at h4
   refine sQ (kY [2,4] Z (rG (eK 4 Z ?_)))
   refine WO_guard Z Z Z Z (lt_of Z) (fun h5 => ?_) (fun h5 => ?_)
   rotate_left
   ·
    simp only [HS] at h5
    refine gM Z (gM Z (eK 2 Z (gM Z (kZ [4,52,53] Z (gM Z (gM Z (gM Z (eK 2 Z (oN (tN (rT (bR (tR (eR ?_))))))))))))))
    ·clear ih; first | exact retB (by grind [goodAct, plainAct]) | (have e := any_nots (p := caseAct c) (l := a.cases); exact retB (by grind [goodAct, plainAct]))
   simp only [HS] at h5
   refine eZ Z (gY Z (eZ Z (gY Z (eK 3 Z (kZ [2,4,52] Z ?_)))))
   refine WO_guard Z Z Z Z (lt_of Z) (fun h6 => ?_) (fun h6 => ?_)
   rotate_left
   ·
    simp only [HS] at h6
    refine gM Z (gM Z (gM Z (eK 2 Z (oN (tN (rT (bR (tR (eR ?_)))))))))
    ·clear ih; first | exact retB (by grind [goodAct, plainAct]) | (have e := any_nots (p := caseAct c) (l := a.cases); exact retB (by grind [goodAct, plainAct]))
   simp only [HS] at h6
   refine eZ Z (gY Z (eZ Z (gY Z (evE ?_))))
   refine gY Z (eK 3 Z (oN (tN (rT (bR (tR (eR ?_)))))))
   ·clear ih; first | exact retB (by grind [goodAct, plainAct]) | (have e := any_nots (p := caseAct c) (l := a.cases); exact retB (by grind [goodAct, plainAct]))
  simp only [HS] at h4
  refine sQ (kY [2,3,4,12] Z (rG (eK 2 Z (oN (tN ?_)))))
  refine W_cond Z (fun h5 => ?_) (fun h5 => ?_)
  ·
   simp only [HS] at h5
   refine sQ (rG (eK 4 Z ?_))
   refine WO_guard Z Z Z Z (lt_of Z) (fun h6 => ?_) (fun h6 => ?_)
   rotate_left
   ·
    simp only [HS] at h6
    refine gM Z (gM Z (eZ Z (kZ [2,3,4,67] Z (eZ Z (gM Z (gM Z (gM Z (gM Z (eK 2 Z (gM Z (gM Z (kZ [3,4,74,76] Z (gM Z (gM Z (gM Z ?_)))))))))))))))
    refine eK 2 Z (oN (tN (rT (bR (tR (eR ?_))))))
    ·clear ih; first | exact retB (by grind [goodAct, plainAct]) | (have e := any_nots (p := caseAct c) (l := a.cases); exact retB (by grind [goodAct, plainAct]))
   simp only [HS] at h6
   refine eZ Z (gY Z (eZ Z (gY Z (eZ Z (kZ [2,3,4,63,66] Z (eK 2 Z ?_))))))
   refine WO_guard Z Z Z Z (lt_of Z) (fun h7 => ?_) (fun h7 => ?_)
   rotate_left
   ·
    simp only [HS] at h7
    refine gM Z (gM Z (gM Z (eK 2 Z (gM Z (gM Z (kZ [3,4,74,76] Z (gM Z (gM Z (gM Z (eK 2 Z (oN (tN (rT (bR (tR ?_)))))))))))))))
    refine eR ?_
    ·clear ih; first | exact retB (by grind [goodAct, plainAct]) | (have e := any_nots (p := caseAct c) (l := a.cases); exact retB (by grind [goodAct, plainAct]))
   simp only [HS] at h7
   refine eZ Z (gY Z (eZ Z (gY Z (evE ?_))))
   refine gY Z (callB ?_)
   refine ⟨_, within_fun _ _ _, rfl, ?_⟩
   refine eK 2 Z ?_
   refine WO_guard Z Z Z Z (lt_of Z) (fun h8 => ?_) (fun h8 => ?_)
   rotate_left
   ·
    simp only [HS] at h8
    refine gM Z (kZ [3,4,74,76] Z (gM Z (gM Z (gM Z (eK 2 Z (oN (tN (rT (bR (tR (eR ?_)))))))))))
    ·clear ih; first | exact retB (by grind [goodAct, plainAct]) | (have e := any_nots (p := caseAct c) (l := a.cases); exact retB (by grind [goodAct, plainAct]))
   simp only [HS] at h8
   refine eZ Z (gY Z (eZ Z (kZ [3,4,74,76] Z (gY Z (eZ Z (gY Z (callB ?_)))))))
   refine ⟨_, hasAct_fun a.cases (fun b => !caseAct c b) _ [.rp (.agg [T.int c]) 0] Z ha (fun b hb => isAct1_fun b c (ih b hb)), rfl, ?_⟩
   refine gY Z (eK 3 Z (oN (tN (rT (bR (tR (eR ?_)))))))
   ·clear ih; first | exact retB (by grind [goodAct, plainAct]) | (have e := any_nots (p := caseAct c) (l := a.cases); exact retB (by grind [goodAct, plainAct]))
  simp only [HS] at h5
  refine W_skip (bN (tN (sQ (rG (eZ Z (oN (tN (rT (eR ?_)))))))))
  ·clear ih; first | exact retB (by grind [goodAct, plainAct]) | (have e := any_nots (p := caseAct c) (l := a.cases); exact retB (by grind [goodAct, plainAct]))
 simp only [HS] at h2
 refine rG (eK 2 Z (oN (tN ?_)))
 refine W_cond Z (fun h3 => ?_) (fun h3 => ?_)
 ·
  simp only [HS] at h3
  refine sQ (kY [2,4,5] Z (rG (eK 2 Z ?_)))
  refine WO_guard Z Z Z Z (lt_of Z) (fun h4 => ?_) (fun h4 => ?_)
  rotate_left
  ·
   simp only [HS] at h4
   refine gM Z (gM Z (eK 2 Z (gM Z (gM Z (gM Z (kZ [4,36,39] Z (gM Z (eK 2 Z (oN (tN (rT (bR (tR (eR ?_))))))))))))))
   ·clear ih; first | exact retB (by grind [goodAct, plainAct]) | (have e := any_nots (p := caseAct c) (l := a.cases); exact retB (by grind [goodAct, plainAct]))
  simp only [HS] at h4
  refine eZ Z (gY Z (eZ Z (gY Z (eK 3 Z ?_))))
  refine WO_guard Z Z Z Z (lt_of Z) (fun h5 => ?_) (fun h5 => ?_)
  rotate_left
  ·
   simp only [HS] at h5
   refine gM Z (gM Z (kZ [4,36,39] Z (gM Z (eK 2 Z (oN (tN (rT (bR (tR (eR ?_))))))))))
   ·clear ih; first | exact retB (by grind [goodAct, plainAct]) | (have e := any_nots (p := caseAct c) (l := a.cases); exact retB (by grind [goodAct, plainAct]))
  simp only [HS] at h5
  refine eZ Z (gY Z (eZ Z (kZ [4,36,38] Z (gY Z (evE ?_)))))
  refine gY Z (eK 3 Z (oN (tN (rT (bR (tR (eR ?_)))))))
  ·clear ih; first | exact retB (by grind [goodAct, plainAct]) | (have e := any_nots (p := caseAct c) (l := a.cases); exact retB (by grind [goodAct, plainAct]))
 simp only [HS] at h3
 refine sQ (kY [2,3,4,12] Z (rG (eK 2 Z (oN (tN ?_)))))
 refine W_cond Z (fun h4 => ?_) (fun h4 => ?_)
 ·
  simp only [HS] at h4
  refine sQ (rG (eK 4 Z ?_))
  refine WO_guard Z Z Z Z (lt_of Z) (fun h5 => ?_) (fun h5 => ?_)
  rotate_left
  ·
   simp only [HS] at h5
   refine gM Z (gM Z (eZ Z (kZ [2,4,51] Z (eZ Z (gM Z (gM Z (gM Z (gM Z (eK 2 Z (oN (tN (rT (bR (tR (eR ?_)))))))))))))))
   ·clear ih; first | exact retB (by grind [goodAct, plainAct]) | (have e := any_nots (p := caseAct c) (l := a.cases); exact retB (by grind [goodAct, plainAct]))
  simp only [HS] at h5
  refine eZ Z (gY Z (eZ Z (gY Z (eZ Z (kZ [2,4,47,50] Z (eK 2 Z ?_))))))
  refine WO_guard Z Z Z Z (lt_of Z) (fun h6 => ?_) (fun h6 => ?_)
  rotate_left
  ·
   simp only [HS] at h6
   refine gM Z (gM Z (gM Z (eK 2 Z (oN (tN (rT (bR (tR (eR ?_)))))))))
   ·clear ih; first | exact retB (by grind [goodAct, plainAct]) | (have e := any_nots (p := caseAct c) (l := a.cases); exact retB (by grind [goodAct, plainAct]))
  simp only [HS] at h6
  refine eZ Z (gY Z (eZ Z (gY Z (evE ?_))))
  refine gY Z (eK 3 Z (oN (tN (rT (bR (tR (eR ?_)))))))
  ·clear ih; first | exact retB (by grind [goodAct, plainAct]) | (have e := any_nots (p := caseAct c) (l := a.cases); exact retB (by grind [goodAct, plainAct]))
 simp only [HS] at h4
 refine sQ (rG (eK 2 Z (oN (tN ?_))))
 refine W_cond Z (fun h5 => ?_) (fun h5 => ?_)
 ·
  simp only [HS] at h5
  refine sQ (rG (eK 4 Z ?_))
  refine WO_guard Z Z Z Z (lt_of Z) (fun h6 => ?_) (fun h6 => ?_)
  rotate_left
  ·
   simp only [HS] at h6
   refine gM Z (kZ [2,3,4,63,65] Z (gM Z (eK 2 Z (gM Z (gM Z (gM Z (gM Z (eK 2 Z (kZ [2,3,4,74] Z (gM Z (gM Z (gM Z (gM Z (gM Z (eK 2 Z ?_)))))))))))))))
   refine oN (tN (rT (bR (tR (eR ?_)))))
   ·clear ih; first | exact retB (by grind [goodAct, plainAct]) | (have e := any_nots (p := caseAct c) (l := a.cases); exact retB (by grind [goodAct, plainAct]))
  simp only [HS] at h6
  refine eZ Z (gY Z (eZ Z (kZ [2,3,4,63,65] Z (gY Z (eK 3 Z ?_)))))
  refine WO_guard Z Z Z Z (lt_of Z) (fun h7 => ?_) (fun h7 => ?_)
  rotate_left
  ·
   simp only [HS] at h7
   refine gM Z (gM Z (gM Z (eK 2 Z (gM Z (kZ [3,4,74,75] Z (gM Z (gM Z (gM Z (gM Z (eK 2 Z (oN (tN (rT (bR (tR ?_)))))))))))))))
   refine eR ?_
   ·clear ih; first | exact retB (by grind [goodAct, plainAct]) | (have e := any_nots (p := caseAct c) (l := a.cases); exact retB (by grind [goodAct, plainAct]))
  simp only [HS] at h7
  refine eZ Z (gY Z (eZ Z (gY Z (evE ?_))))
  refine gY Z (callB ?_)
  refine ⟨_, within_fun _ _ _, rfl, ?_⟩
  refine eK 2 Z (kZ [2,3,4,74] Z ?_)
  refine WO_guard Z Z Z Z (lt_of Z) (fun h8 => ?_) (fun h8 => ?_)
  rotate_left
  ·
   simp only [HS] at h8
   refine gM Z (gM Z (gM Z (gM Z (eK 2 Z (oN (tN (rT (bR (tR (eR ?_))))))))))
   ·clear ih; first | exact retB (by grind [goodAct, plainAct]) | (have e := any_nots (p := caseAct c) (l := a.cases); exact retB (by grind [goodAct, plainAct]))
  simp only [HS] at h8
  refine eZ Z (gY Z (eZ Z (gY Z (eZ Z (gY Z (callB ?_))))))
  refine ⟨_, hasAct_fun a.cases (fun b => !caseAct c b) _ [.rp (.agg [T.int c]) 0] Z ha (fun b hb => isAct1_fun b c (ih b hb)), rfl, ?_⟩
  refine gY Z (eK 3 Z (oN (tN (rT (bR (tR (eR ?_)))))))
  ·clear ih; first | exact retB (by grind [goodAct, plainAct]) | (have e := any_nots (p := caseAct c) (l := a.cases); exact retB (by grind [goodAct, plainAct]))
 simp only [HS] at h5
 refine W_skip (bN (tN (sQ (rG (eZ Z (oN (tN (rT (eR ?_)))))))))
 ·clear ih; first | exact retB (by grind [goodAct, plainAct]) | (have e := any_nots (p := caseAct c) (l := a.cases); exact retB (by grind [goodAct, plainAct]))
theorem isAct_fun (a : Act) (c : Int) (ha : a.ok 9223372036854775807) (hc0 : 1 ≤ c) (hc1 : c ≤ 1000) : Fun Try.prog 85 [.t a.tt, .t (.int c)] (.t (.bool (goodAct c a))) :=
 Act.ind (p := fun a => a.ok 9223372036854775807 → Fun Try.prog 85 [.t a.tt, .t (.int c)] (.t (.bool (goodAct c a)))) (fun a ih ha => isAct_fun0 a c ha.cases'.1 hc0 hc1 fun b hb => ih b hb (ha.cases'.2 b hb)) a ha
theorem isWorld3_fun (a : Act) (c : Int) (ha : a.ok 9223372036854775807) (hc0 : 1 ≤ c) (hc1 : c ≤ 1000) : Fun Try.prog 84 [.t a.tt, .rp (.agg [T.int c]) 0] (tupD [.t (.bool (!goodAct c a))]) := by
 refine Fun.begin tys Try.func84 Z Z (N := 8) [(0, .t a.tt), (1, .rp (.agg [T.int c]) 0)] Z Z (fun w0 G F0 => ?_)
 refine sQ (rG (WO_box Z Z (lt_of Z) Z Z (nZ Z (eZ Z (oN (tN (sQ (rG (eZ Z ?_)))))))))
 try refine WO_le (Le.freeze (u := 4) rfl) ?_
 refine nZ Z (eZ Z (callB ?_))
 refine ⟨_, isAct_fun _ _ ha hc0 hc1, rfl, ?_⟩
 refine eK 2 Z (oN (tN (rT (eR ?_))))
 ·rfl
theorem isWorld_fun (w : World) (hw : w.ok 1048576) (hw' : w.ok 9223372036854775807) : Fun Try.prog 44 [.t w.tt] (tupD [.t (.bool (goodWorld w))]) := by
 have hw1 : w.room.length ≤ 1048576 := hw.1
 have hw2 : w.held.length ≤ 1048576 := hw.2.1.1
 have hw3 : w.shut.length ≤ 1048576 := hw.2.2.1
 have hw4 : w.tasks.length ≤ 1048576 := hw.2.2.2.1.1
 have hw5 : w.trace.length ≤ 1048576 := hw.2.2.2.2.1
 refine Fun.begin tys Try.func44 Z Z (N := 127) [(0, .t w.tt)] Z Z (fun w0 G F0 => ?_)
 refine sQ (rG (WO_box Z Z (lt_of Z) Z Z (nZ Z (eZ Z (oN (tN (sQ (rG (eK 2 Z (evE ?_))))))))))
 refine WO_alloc tys Z Z (lt_of Z) Z Z Z (nZ Z (sT Z (nZ Z (oN (tN (sQ (sQ (kY [1,2,3] Z (rG (eZ Z (callB ?_)))))))))))
 refine ⟨_, within_fun _ _ _, rfl, ?_⟩
 refine eK 2 Z ?_
 refine WO_guard Z Z Z Z (lt_of Z) (fun h1 => ?_) (fun h1 => ?_)
 rotate_left
 ·
  simp only [HS] at h1
  refine gM Z (gM Z (gM Z (gM Z (eZ Z (kZ [1,2,3,20] Z (eZ Z (gM Z (gM Z (gM Z (gM Z (gM Z (eK 2 Z (gM Z (kZ [1,2,3,28,29] Z (gM Z ?_)))))))))))))))
  refine gM Z (gM Z (gM Z (eK 2 Z (gM Z (gM Z (gM Z (kZ [1,2,3,35,38] Z (gM Z (eK 2 Z (gM Z (gM Z (gM Z (eZ Z (oN (tN ?_)))))))))))))))
  refine W_condT Z (sQ (kY [1,2,3] Z (rG (eZ Z (oN (tN (rT (tR (eR ?_)))))))))
  ·have e0 := any_num (l := w.trace)
   first
   | exact retB (by grind [goodWorld])
 simp only [HS] at h1
 refine eZ Z (gY Z (eZ Z (gY Z (evE ?_))))
 refine gY Z (eZ Z (gY Z (eZ Z (kZ [1,2,3,14,19] Z (eK 2 Z ?_)))))
 refine WO_guard Z Z Z Z (lt_of Z) (fun h2 => ?_) (fun h2 => ?_)
 rotate_left
 ·
  simp only [HS] at h2
  refine gM Z (gM Z (gM Z (gM Z (eK 2 Z (gM Z (kZ [1,2,3,28,29] Z (gM Z (gM Z (gM Z (gM Z (eK 2 Z (gM Z (gM Z (gM Z (kZ [1,2,3,35,38] Z ?_)))))))))))))))
  refine gM Z (eK 2 Z (gM Z (gM Z (gM Z (eZ Z (oN (tN (W_condT Z (sQ (kY [1,2,3] Z (rG (eZ Z (oN (tN (rT ?_)))))))))))))))
  refine tR (eR ?_)
  ·have e0 := any_num (l := w.trace)
   first
   | exact retB (by grind [goodWorld])
 simp only [HS] at h2
 refine eZ Z (gY Z (eZ Z (gY Z (evE ?_))))
 refine gY Z (eZ Z (gY Z (eK 3 Z (kZ [1,2,3,28] Z ?_))))
 refine WO_guard Z Z Z Z (lt_of Z) (fun h3 => ?_) (fun h3 => ?_)
 rotate_left
 ·
  simp only [HS] at h3
  refine gM Z (gM Z (gM Z (gM Z (eK 2 Z (gM Z (gM Z (gM Z (kZ [1,2,3,35,38] Z (gM Z (eK 2 Z (gM Z (gM Z (gM Z (eZ Z (oN ?_)))))))))))))))
  refine tN (W_condT Z (sQ (kY [1,2,3] Z (rG (eZ Z (oN (tN (rT (tR (eR ?_))))))))))
  ·have e0 := any_num (l := w.trace)
   first
   | exact retB (by grind [goodWorld])
 simp only [HS] at h3
 refine eZ Z (gY Z (eZ Z (gY Z (evE ?_))))
 refine gY Z (callB ?_)
 refine ⟨_, within_fun _ _ _, rfl, ?_⟩
 refine gY Z (eK 3 Z ?_)
 refine WO_guard Z Z Z Z (lt_of Z) (fun h4 => ?_) (fun h4 => ?_)
 rotate_left
 ·
  simp only [HS] at h4
  refine gM Z (gM Z (kZ [1,2,3,35,38] Z (gM Z (eK 2 Z (gM Z (gM Z (gM Z (eZ Z (oN (tN (W_condT Z (sQ (kY [1,2,3] Z (rG (eZ Z ?_)))))))))))))))
  refine oN (tN (rT (tR (eR ?_))))
  ·have e0 := any_num (l := w.trace)
   first
   | exact retB (by grind [goodWorld])
 simp only [HS] at h4
 refine eZ Z (gY Z (eZ Z (kZ [1,2,3,35,37] Z (gY Z (evE ?_)))))
 refine gY Z (eK 3 Z ?_)
 refine WO_guard Z Z Z Z (lt_of Z) (fun h5 => ?_) (fun h5 => ?_)
 rotate_left
 ·
  simp only [HS] at h5
  refine gM Z (gM Z (eZ Z (oN (tN (W_condT Z (sQ (kY [1,2,3] Z (rG (eZ Z (oN (tN (rT (tR (eR ?_))))))))))))))
  ·have e0 := any_num (l := w.trace)
   first
   | exact retB (by grind [goodWorld])
 simp only [HS] at h5
 refine eZ Z (gY Z (eZ Z (gY Z (callB ?_))))
 refine ⟨_, hasS_fun w.trace (fun n => !inNum n) _ [] Z (by omega) (fun x _ => isWorld1_fun x), rfl, ?_⟩
 refine eZ Z (oN (tN ?_))
 refine W_cond Z (fun h6 => ?_) (fun h6 => ?_)
 ·
  refine sQ (kY [1,2,3] Z (rG (eZ Z (oN (tN (rT (tR (eR ?_))))))))
  ·have e0 := any_num (l := w.trace)
   first
   | exact retB (by grind [goodWorld])
 refine W_skip (tN (sQ (sQ (kY [1,2,3] Z (rG (eK 2 Z (evE ?_)))))))
 refine eZ Z (oN (tN (W_block ?_)))
 refine lK (α := Int) [1, 3, 47, 48] [1, 3] (fun x => [(49, .t (.int x))]) (fun x => []) (fun x => 0 ≤ x ∧ x ≤ w.room.length ∧ (w.held.length : Int) = w.room.length ∧ allIn (w.room.take x.toNat) 0 3 = true ∧ heldGo w.held w.room = heldGo (w.held.drop x.toNat) (w.room.drop x.toNat)) (fun x => Int.toNat (w.room.length - x)) 0 ?_ (fun k hx => ?_)
 ·exact ⟨by omega, by omega, by assumption, by simp [allIn], rfl⟩
 obtain ⟨hk0, hk1, hk3, hk4, hk2⟩ := hx
 refine nY Z (sQ (rG (eZ Z (oN (tN (sQ ?_))))))
 refine W_cond Z (fun h7 => ?_) (fun h7 => ?_)
 ·
  simp only [HS] at h7
  refine W_skip (tN (sQ (W_block (sQ (rG (eZ Z (WO_idxT tys Z Z (lt_of Z) Z Z Z Z Z Z Z (by omega) _ (getT _ _ (by omega) (by omega)) (eK 3 Z (oN (tN (sQ (rG (eZ Z (callB ?_))))))))))))))
  refine ⟨_, within_fun _ _ _, rfl, ?_⟩
  refine eZ Z (kZ [1,3,4,5,47,48,49,50,51,52,53,54,55,56] Z (eZ Z ?_))
  refine WO_guard Z Z Z Z (lt_of Z) (fun h8 => ?_) (fun h8 => ?_)
  rotate_left
  ·
   simp only [HS] at h8
   refine gM Z (gM Z (gM Z (gM Z (gM Z (gM Z (gM Z (eZ Z (kZ [1,3,4,5,47,48,49,50,51,52,53,54,55,56,57,58,59,60,61,62,63,64,65,66] Z (eZ Z (gM Z (gM Z (gM Z (gM Z (gM Z (gM Z ?_)))))))))))))))
   refine eZ Z (oN (tN (W_condT Z (sQ (kY [1,3,4,5,47,48,49,50,51,52,53,54,55,56,57,58,59,60,61,62,63,64,65,66,67,68,69,70,71,72,73,74] Z (rG (eZ Z (oN (tN (rT (bR (tR (loopQ_r (bR (tR ?_)))))))))))))))
   refine eR ?_
   ·have e0 := any_num (l := w.trace)
    first
    | (have hh := allIn_no (l := w.room) (lo := 0) (hi := 3) hk0 (by omega) (by assumption); exact retB (by grind [goodWorld]))
  simp only [HS] at h8
  refine eZ Z (gY Z (eZ Z (gY Z (eZ Z (gY Z (WO_idxT tys Z Z (lt_of Z) Z Z Z Z Z Z Z (by omega) _ (getT _ _ (by omega) (by omega)) (gY Z (eZ Z (gY Z (evE ?_))))))))))
  refine gY Z (eZ Z (gY Z (eZ Z (kZ [1,3,4,5,47,48,49,50,51,52,53,54,55,56,57,58,59,60,61,62,63,64,65] Z (eK 2 Z ?_)))))
  refine WO_guard Z Z Z Z (lt_of Z) (fun h9 => ?_) (fun h9 => ?_)
  rotate_left
  ·
   simp only [HS] at h9
   refine gM Z (gM Z (gM Z (gM Z (gM Z (eZ Z (oN (tN (W_condT Z (sQ (kY [1,3,4,5,47,48,49,50,51,52,53,54,55,56,57,58,59,60,61,62,63,64,65,66,67,68,69,70,71,72,73,74] Z (rG (eZ Z (oN (tN (rT ?_)))))))))))))))
   refine bR (tR (loopQ_r (bR (tR (eR ?_)))))
   ·have e0 := any_num (l := w.trace)
    first
    | (have hh : heldGo w.held w.room = false := (by have e := any_num (l := w.held[k.toNat]'(by omega)); rw [hk2, heldGo_at hk0 (by omega) (by omega)]; grind); exact retB (by grind [goodWorld]))
  simp only [HS] at h9
  refine eZ Z (gY Z (eZ Z (gY Z (eZ Z (gY Z (WO_idxT tys Z Z (lt_of Z) Z Z Z Z Z Z Z (by omega) _ (getT _ _ (by omega) (by omega)) (gY Z (eZ Z (gY Z (callB ?_))))))))))
  refine ⟨_, hasS_fun _ (fun n => !inNum n) _ [] Z (by have := hw'.2.1.2 _ (List.getElem_mem (l := w.held) (n := k.toNat) (by omega)); exact this) (fun x _ => isWorld2_fun x), rfl, ?_⟩
  refine eZ Z (kZ [1,3,4,5,47,48,49,50,51,52,53,54,55,56,57,58,59,60,61,62,63,64,65,66,67,68,69,70,71,72,73,74] Z (oN (tN ?_)))
  refine W_cond Z (fun h10 => ?_) (fun h10 => ?_)
  ·
   refine sQ (rG (eZ Z (oN (tN (rT (bR (tR (loopQ_r (bR (tR (eR ?_)))))))))))
   ·have e0 := any_num (l := w.trace)
    first
    | (have hh : heldGo w.held w.room = false := (by have e := any_num (l := w.held[k.toNat]'(by omega)); rw [hk2, heldGo_at hk0 (by omega) (by omega)]; grind); exact retB (by grind [goodWorld]))
  refine W_skip (bN (tN (rG (evI ?_))))
  refine eZ Z (oN ?_)
  refine lQ _ ?_ ?_
  ·skip
   exact ⟨by omega, by omega, hk3, allIn_step hk0 (by omega) hk4 (by assumption), by rw [hk2, heldGo_at hk0 (by omega) (by omega)]; grind [any_num]⟩
  ·(show Int.toNat _ < Int.toNat _); omega
 simp only [HS] at h7
 refine W_exit (tE (loopQ_e (inBlk_y (tN (sQ (sQ (rG (eK 2 Z (evE ?_)))))))))
 refine eZ Z (oN (tN (W_block ?_)))
 refine lK (α := Int) [1, 3, 77, 78] [1, 3] (fun x => [(79, .t (.int x))]) (fun x => []) (fun x => 0 ≤ x ∧ x ≤ w.tasks.length ∧ (w.tasks.take x.toNat).all (goodTask w.room.length) = true) (fun x => Int.toNat (w.tasks.length - x)) 0 ?_ (fun k' hx => ?_)
 ·exact ⟨by omega, by omega, by simp⟩
 obtain ⟨hj0, hj1, hj2⟩ := hx
 refine nY Z (sQ (rG (eZ Z (oN (tN (sQ ?_))))))
 refine W_cond Z (fun h8 => ?_) (fun h8 => ?_)
 ·
  simp only [HS] at h8
  refine W_skip (tN (sQ (W_block (sQ (rG (WO_idxT tys Z Z (lt_of Z) Z Z Z Z Z Z Z (by omega) _ (getT _ _ (by omega) (by omega)) (eZ Z ?_)))))))
  try refine WO_le (Le.freeze (u := 82) rfl) ?_
  refine nZ Z (WO_alloc tys Z Z (lt_of Z) Z Z Z (nZ Z (sT Z (nZ Z (oN (tN (sQ (rG (eK 2 Z (evE ?_))))))))))
  refine eZ Z (kZ [1,3,7,77,78,79,80,81,82,83,84,85,86] Z (eZ Z ?_))
  refine WO_guard Z Z Z Z (lt_of Z) (fun h9 => ?_) (fun h9 => ?_)
  rotate_left
  ·
   simp only [HS] at h9
   refine gM Z (gM Z (gM Z (gM Z (gM Z (gM Z (eK 2 Z (kZ [1,3,7,77,78,79,80,81,82,83,84,85,86,87,88,89,90,91,92,93,94,95,96] Z (gM Z (gM Z (gM Z (gM Z (eK 2 Z (gM Z (gM Z (gM Z ?_)))))))))))))))
   refine kZ [1,3,7,77,78,79,80,81,82,83,84,85,86,87,88,89,90,91,92,93,94,95,96,97,98,99,100,101,102,103,104,105] Z (gM Z (gM Z (gM Z (gM Z (gM Z (gM Z (gM Z (eK 2 Z (kZ [1,3,7,77,78,79,80,81,82,83,84,85,86,87,88,89,90,91,92,93,94,95,96,97,98,99,100,101,102,103,104,105,106,107,108,109,110,111,112,113,114] Z (gM Z (gM Z (gM Z (gM Z (eK 2 Z (gM Z ?_)))))))))))))))
   refine gM Z (gM Z (kZ [1,3,7,77,78,79,80,81,82,83,84,85,86,87,88,89,90,91,92,93,94,95,96,97,98,99,100,101,102,103,104,105,106,107,108,109,110,111,112,113,114,115,116,117,118,119,120,121,122,123] Z (gM Z (eZ Z (oN (tN (W_condT Z (sQ (rG (eZ Z (oN (tN (rT (bR (tR ?_)))))))))))))))
   refine loopQ_r (bR (tR (eR ?_)))
   ·have e0 := any_num (l := w.trace)
    first
    | (have e := any_nots (p := goodAct w.room.length) (l := (w.tasks[k'.toNat]'(by omega)).acts); have hh := go_at (l := w.tasks) (p := goodTask w.room.length) hj0 (by omega) (by grind [goodTask, goodActs]); exact retB (by grind [goodWorld]))
  simp only [HS] at h9
  refine eZ Z (gY Z (eZ Z (gY Z (eZ Z (gY Z (eZ Z (gY Z (evE ?_))))))))
  refine gY Z (callB ?_)
  refine ⟨_, within_fun _ _ _, rfl, ?_⟩
  refine gY Z (eK 2 Z (kZ [1,3,7,77,78,79,80,81,82,83,84,85,86,87,88,89,90,91,92,93,94,95] Z (eZ Z ?_)))
  refine WO_guard Z Z Z Z (lt_of Z) (fun h10 => ?_) (fun h10 => ?_)
  rotate_left
  ·
   simp only [HS] at h10
   refine gM Z (gM Z (gM Z (eK 2 Z (gM Z (gM Z (gM Z (kZ [1,3,7,77,78,79,80,81,82,83,84,85,86,87,88,89,90,91,92,93,94,95,96,97,98,99,100,101,102,103,104,105] Z (gM Z (gM Z (gM Z (gM Z (gM Z (gM Z (gM Z (eK 2 Z ?_)))))))))))))))
   refine kZ [1,3,7,77,78,79,80,81,82,83,84,85,86,87,88,89,90,91,92,93,94,95,96,97,98,99,100,101,102,103,104,105,106,107,108,109,110,111,112,113,114] Z (gM Z (gM Z (gM Z (gM Z (eK 2 Z (gM Z (gM Z (gM Z (kZ [1,3,7,77,78,79,80,81,82,83,84,85,86,87,88,89,90,91,92,93,94,95,96,97,98,99,100,101,102,103,104,105,106,107,108,109,110,111,112,113,114,115,116,117,118,119,120,121,122,123] Z (gM Z (eZ Z (oN (tN (W_condT Z (sQ ?_)))))))))))))))
   refine rG (eZ Z (oN (tN (rT (bR (tR (loopQ_r (bR (tR (eR ?_))))))))))
   ·have e0 := any_num (l := w.trace)
    first
    | (have e := any_nots (p := goodAct w.room.length) (l := (w.tasks[k'.toNat]'(by omega)).acts); have hh := go_at (l := w.tasks) (p := goodTask w.room.length) hj0 (by omega) (by grind [goodTask, goodActs]); exact retB (by grind [goodWorld]))
  simp only [HS] at h10
  refine eZ Z (gY Z (eZ Z (gY Z (callB ?_))))
  refine ⟨_, within_fun _ _ _, rfl, ?_⟩
  refine gY Z (eK 3 Z ?_)
  refine WO_guard Z Z Z Z (lt_of Z) (fun h11 => ?_) (fun h11 => ?_)
  rotate_left
  ·
   simp only [HS] at h11
   refine gM Z (gM Z (kZ [1,3,7,77,78,79,80,81,82,83,84,85,86,87,88,89,90,91,92,93,94,95,96,97,98,99,100,101,102,103,104,105] Z (gM Z (gM Z (gM Z (gM Z (gM Z (gM Z (gM Z (eK 2 Z (kZ [1,3,7,77,78,79,80,81,82,83,84,85,86,87,88,89,90,91,92,93,94,95,96,97,98,99,100,101,102,103,104,105,106,107,108,109,110,111,112,113,114] Z (gM Z (gM Z (gM Z (gM Z ?_)))))))))))))))
   refine eK 2 Z (gM Z (gM Z (gM Z (kZ [1,3,7,77,78,79,80,81,82,83,84,85,86,87,88,89,90,91,92,93,94,95,96,97,98,99,100,101,102,103,104,105,106,107,108,109,110,111,112,113,114,115,116,117,118,119,120,121,122,123] Z (gM Z (eZ Z (oN (tN (W_condT Z (sQ (rG (eZ Z (oN (tN (rT ?_)))))))))))))))
   refine bR (tR (loopQ_r (bR (tR (eR ?_)))))
   ·have e0 := any_num (l := w.trace)
    first
    | (have e := any_nots (p := goodAct w.room.length) (l := (w.tasks[k'.toNat]'(by omega)).acts); have hh := go_at (l := w.tasks) (p := goodTask w.room.length) hj0 (by omega) (by grind [goodTask, goodActs]); exact retB (by grind [goodWorld]))
  simp only [HS] at h11
  refine eZ Z (gY Z (eZ Z (kZ [1,3,7,77,78,79,80,81,82,83,84,85,86,87,88,89,90,91,92,93,94,95,96,97,98,99,100,101,102,103,104] Z (gY Z (eZ Z (gY Z (eZ Z (gY Z (eZ Z (gY Z (eZ Z (gY Z (eZ Z (gY Z (evE ?_)))))))))))))))
  refine gY Z (eZ Z (gY Z (eK 2 Z (kZ [1,3,7,77,78,79,80,81,82,83,84,85,86,87,88,89,90,91,92,93,94,95,96,97,98,99,100,101,102,103,104,105,106,107,108,109,110,111,112,113] Z (eZ Z ?_)))))
  refine WO_guard Z Z Z Z (lt_of Z) (fun h12 => ?_) (fun h12 => ?_)
  rotate_left
  ·
   simp only [HS] at h12
   refine gM Z (gM Z (gM Z (eK 2 Z (gM Z (gM Z (gM Z (kZ [1,3,7,77,78,79,80,81,82,83,84,85,86,87,88,89,90,91,92,93,94,95,96,97,98,99,100,101,102,103,104,105,106,107,108,109,110,111,112,113,114,115,116,117,118,119,120,121,122,123] Z (gM Z (eZ Z (oN (tN (W_condT Z (sQ (rG (eZ Z ?_)))))))))))))))
   refine oN (tN (rT (bR (tR (loopQ_r (bR (tR (eR ?_))))))))
   ·have e0 := any_num (l := w.trace)
    first
    | (have e := any_nots (p := goodAct w.room.length) (l := (w.tasks[k'.toNat]'(by omega)).acts); have hh := go_at (l := w.tasks) (p := goodTask w.room.length) hj0 (by omega) (by grind [goodTask, goodActs]); exact retB (by grind [goodWorld]))
  simp only [HS] at h12
  refine eZ Z (gY Z (eZ Z (gY Z (callB ?_))))
  refine ⟨_, isTaskNumber_fun _, rfl, ?_⟩
  refine gY Z (eK 3 Z ?_)
  refine WO_guard Z Z Z Z (lt_of Z) (fun h13 => ?_) (fun h13 => ?_)
  rotate_left
  ·
   simp only [HS] at h13
   refine gM Z (gM Z (kZ [1,3,7,77,78,79,80,81,82,83,84,85,86,87,88,89,90,91,92,93,94,95,96,97,98,99,100,101,102,103,104,105,106,107,108,109,110,111,112,113,114,115,116,117,118,119,120,121,122,123] Z (gM Z (eZ Z (oN (tN (W_condT Z (sQ (rG (eZ Z (oN (tN (rT (bR (tR ?_)))))))))))))))
   refine loopQ_r (bR (tR (eR ?_)))
   ·have e0 := any_num (l := w.trace)
    first
    | (have e := any_nots (p := goodAct w.room.length) (l := (w.tasks[k'.toNat]'(by omega)).acts); have hh := go_at (l := w.tasks) (p := goodTask w.room.length) hj0 (by omega) (by grind [goodTask, goodActs]); exact retB (by grind [goodWorld]))
  simp only [HS] at h13
  refine eZ Z (gY Z (eZ Z (kZ [1,3,7,77,78,79,80,81,82,83,84,85,86,87,88,89,90,91,92,93,94,95,96,97,98,99,100,101,102,103,104,105,106,107,108,109,110,111,112,113,114,115,116,117,118,119,120,121,122] Z (gY Z (eZ Z (gY Z (callB ?_)))))))
  refine ⟨_, hasAct_fun _ (fun b => !goodAct w.room.length b) _ [.rp (.agg [T.int w.room.length]) 0] Z (by have := (hw'.2.2.2.1.2 _ (List.getElem_mem (l := w.tasks) (n := k'.toNat) (by omega))).1.1; exact this) (fun b hb => isWorld3_fun b _ ((hw'.2.2.2.1.2 _ (List.getElem_mem (l := w.tasks) (n := k'.toNat) (by omega))).1.2 b hb) (by omega) (by omega)), rfl, ?_⟩
  refine eZ Z (oN (tN ?_))
  refine W_cond Z (fun h14 => ?_) (fun h14 => ?_)
  ·
   refine sQ (rG (eZ Z (oN (tN (rT (bR (tR (loopQ_r (bR (tR (eR ?_)))))))))))
   ·have e0 := any_num (l := w.trace)
    first
    | (have e := any_nots (p := goodAct w.room.length) (l := (w.tasks[k'.toNat]'(by omega)).acts); have hh := go_at (l := w.tasks) (p := goodTask w.room.length) hj0 (by omega) (by grind [goodTask, goodActs]); exact retB (by grind [goodWorld]))
  refine W_skip (bN (tN (rG (evI ?_))))
  refine eZ Z (oN ?_)
  refine lQ _ ?_ ?_
  ·skip
   exact ⟨by omega, by omega, all_take hj0 (by omega) hj2 (by have e := any_nots (p := goodAct w.room.length) (l := (w.tasks[k'.toNat]'(by omega)).acts); grind [goodTask, goodActs])⟩
  ·(show Int.toNat _ < Int.toNat _); omega
 simp only [HS] at h8
 refine W_exit (tE (loopQ_e (inBlk_y (tN (sQ (rG (eZ Z (oN (tN (rT (eR ?_)))))))))))
 ·have e0 := any_num (l := w.trace)
  first
  | (have hh := all_full (l := w.tasks) (by omega) hj2; have h4 := allIn_yes hk4 hk0 (by omega); have h0 : heldGo w.held w.room = true := (by rw [hk2, drop_end (by omega)]; simp [heldGo]); exact retB (by grind [goodWorld]))
end Go.Proofs.Ytbkamkmmljbedaa
