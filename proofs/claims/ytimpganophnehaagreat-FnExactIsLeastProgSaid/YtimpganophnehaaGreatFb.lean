/- Walks of the functions that lay a list of lists anew and hold two such against each other. -/
import Derived.Test.YtimpganophnehaaGreatFa
set_option linter.unusedVariables false
set_option linter.unusedSimpArgs false
set_option maxRecDepth 10000
namespace Go.Proofs.YtimpganophnehaaGreat
open Go.Eng

def szN (n : Nat) (left : Int) : Int := if left - n < 0 then -1 else left - n
def szGo {α : Type} (f : α → Int → Int) : List α → Int → Int
 | [], left => left
 | x :: xs, left => if f x left < 0 then -1 else szGo f xs (f x left)
def szL {α : Type} (f : α → Int → Int) (l : List α) (left : Int) : Int := if left - l.length < 0 then -1 else szGo f l (left - l.length)

theorem drop_at {α : Type} {l : List α} {k : Int} (h0 : 0 ≤ k) (h1 : k < l.length) : l.drop k.toNat = l[k.toNat]'(by omega) :: l.drop (k + 1).toNat := by
 rw [show (k + 1).toNat = k.toNat + 1 from by omega]
 exact List.drop_eq_getElem_cons (by omega)
theorem drop_end {α : Type} {l : List α} {k : Int} (h1 : (l.length : Int) ≤ k) : l.drop k.toNat = [] := List.drop_of_length_le (by omega)

theorem fill_step {α : Type} {xs : List T} {l : List α} {g : α → T} {k : Int} (h0 : 0 ≤ k) (h1 : k < l.length) (hl : xs.length = l.length) (h : xs.take k.toNat = (l.take k.toNat).map g) :
  (xs.set k.toNat (g (l[k.toNat]'(by omega)))).take (k + 1).toNat = (l.take (k + 1).toNat).map g := by
 rw [show (k + 1).toNat = k.toNat + 1 from by omega, List.take_add_one, List.take_add_one, List.getElem?_set_self (by omega), List.getElem?_eq_getElem (by omega)]
 simp only [Option.toList_some, List.map_append, List.map_cons, List.map_nil, ← h]
 rw [List.take_set_of_le (Nat.le_refl _)]
theorem fill_end {α : Type} {xs : List T} {l : List α} {g : α → T} {k : Int} (h1 : (l.length : Int) ≤ k) (hl : xs.length = l.length) (h : xs.take k.toNat = (l.take k.toNat).map g) : xs = l.map g := by
 rwa [List.take_of_length_le (by omega), List.take_of_length_le (by omega)] at h

theorem szIntS_fun (l : List Int) (left : Int) (hl : l.length ≤ 9223372036854775807) (h0 : 0 ≤ left) (hh : left ≤ 1048576) : Fun Tryz.prog 42 [.t (T.ints l), .t (.int left)] (tupD [.t (.int (szN l.length left))]) := by
 refine Fun.begin tys Tryz.func42 rfl rfl (N := 12) [(0, .t (T.ints l)), (1, .t (.int left))] rfl rfl (fun w0 G F0 => ?_)
 refine sQ (rG (eZ rfl (oN (tN (sQ (rG (eK 2 rfl (evE ?_))))))))
 refine evI ?_
 refine eZ rfl (oN (tN (sQ (sQ (rG (eK 2 rfl (oN (tN ?_))))))))
 refine W_cond rfl (fun h1 => ?_) (fun h1 => ?_)
 ·
  simp only [HS] at h1
  refine sQ (kY [1,4] rfl (rG (eZ rfl (oN (tN (rT (tR (eR ?_))))))))
  ·(simp only [szN]; simp_all <;> omega)
 simp only [HS] at h1
 refine W_skip (tN (sQ (kY [1,4] rfl (rG (eK 2 rfl (oN (tN (rT (eR ?_)))))))))
 ·(simp only [szN]; simp_all <;> omega)

theorem toIntS_fun (l : List Int) (hl : l.length ≤ 1048576) : Fun Tryz.prog 10 [.t (T.ints l)] (tupD [.own (T.ints l)]) := by
 refine Fun.begin tys Tryz.func10 rfl rfl (N := 22) [(0, .t (T.ints l))] rfl rfl (fun w0 G F0 => ?_)
 refine sQ (rG (eZ rfl (oN (tN (sQ (rG (eZ rfl (evE ?_))))))))
 refine WO_make tys (.v (.int .i64 0)) _ rfl rfl (lt_of rfl) rfl rfl rfl rfl rfl (by repeat (first | exact AbsL.nil' | refine AbsL.v' ?_ | refine AbsL.none' ?_)) rfl (by omega) (by decide) ?_
 refine nZ rfl (eZ rfl (oN (tN (sQ (sQ (rG (eZ rfl (oN (tN (W_block ?_))))))))))
 refine lK (α := Int × List T) [0, 3] [] (fun x => [(4, .t (.int (x.1)))]) (fun x => [(7, .L 1 (x.2))]) (fun x => 0 ≤ (x.1) ∧ (x.1) ≤ l.length ∧ (x.2).length = l.length ∧ (x.2).take (x.1).toNat = (l.take (x.1).toNat).map T.int) (fun x => Int.toNat (l.length - (x.1))) (0, List.replicate l.length (.v (.int .i64 0))) ?_ (fun x hx => ?_)
 ·exact ⟨by omega, by omega, by simp, by simp⟩
 obtain ⟨k, xs⟩ := x
 obtain ⟨hk0, hk1, hk2, hk3⟩ := hx
 dsimp only at hk0 hk1 hk2 hk3 ⊢
 refine nY rfl (sQ (sQ (rG (eK 2 rfl (evE ?_)))))
 refine eZ rfl (oN (tN ?_))
 refine W_cond rfl (fun h1 => ?_) (fun h1 => ?_)
 ·
  simp only [HS] at h1
  refine W_skip (tN (sQ (W_block (rG (eK 4 rfl (WO_idxT tys rfl rfl (lt_of rfl) rfl rfl rfl rfl rfl rfl rfl (by omega) _ (getT _ _ (by omega) (by omega)) (kZ [0,3,4,8,9,10,11,14,15,16,17,18] rfl (eZ rfl (WO_idxS tys rfl rfl (lt_of rfl) rfl rfl rfl rfl rfl rfl rfl rfl (by omega) (by omega) ?_)))))))))
  refine WO_storeE tys (.v (.int .i64 _)) rfl rfl rfl rfl rfl rfl (by first | exact Nat.zero_add _ | rfl) (by omega) rfl (by repeat (first | exact AbsL.nil' | refine AbsL.v' ?_ | refine AbsL.own' ?_)) rfl rfl rfl ?_
  refine nZ rfl (oN (bN (tN (rG (eZ rfl (evI ?_))))))
  refine eZ rfl (oN ?_)
  refine lQ (_, _) ?_ ?_
  ·dsimp only
   exact ⟨by omega, by omega, by simpa using hk2, fill_step hk0 (by omega) hk2 hk3⟩
  ·(show Int.toNat _ < Int.toNat _); omega
 simp only [HS] at h1
 refine W_exit (tE (loopQ_e (inBlk_y (tN (sQ (rG (eK 2 rfl (oN (tN (W_le (Le.gather (u := 2) (id := 7) rfl rfl (by omega)) (rT (eR ?_))))))))))))
 ·rw [List.take_of_length_le (by omega), fill_end (by omega) hk2 hk3]; rfl

def eqGo {α : Type} (f : α → α → Bool) : List α → List α → Bool
 | x :: xs, y :: ys => f x y && eqGo f xs ys
 | _, _ => true
def eqL {α : Type} (f : α → α → Bool) (a b : List α) : Bool := a.length == b.length && eqGo f a b
theorem eqGo_refl {α : Type} {f : α → α → Bool} (h : ∀ x, f x x = true) : ∀ l : List α, eqGo f l l = true
 | [] => rfl
 | x :: l => by rw [eqGo, h, eqGo_refl h l]; rfl
theorem eqL_refl {α : Type} {f : α → α → Bool} (h : ∀ x, f x x = true) (l : List α) : eqL f l l = true := by
 unfold eqL; rw [eqGo_refl h]; simp
def eqI (a b : Int) : Bool := decide (a = b)

theorem eqL_len {α : Type} {f : α → α → Bool} {a b : List α} (h : ¬ (a.length : Int) = b.length) : eqL f a b = false := by
 unfold eqL
 have : (a.length == b.length) = false := by simpa using fun e => h (by omega)
 rw [this]; rfl
theorem eqGo_at {α : Type} {f : α → α → Bool} {a b : List α} {k : Int} (h0 : 0 ≤ k) (h1 : k < a.length) (h : (a.length : Int) = b.length) :
  eqGo f (a.drop k.toNat) (b.drop k.toNat) = (f (a[k.toNat]'(by omega)) (b[k.toNat]'(by omega)) && eqGo f (a.drop (k + 1).toNat) (b.drop (k + 1).toNat)) := by
 rw [drop_at h0 (by omega), drop_at (l := b) h0 (by omega), eqGo]
theorem eqL_eq {α : Type} {f : α → α → Bool} {a b : List α} (h : (a.length : Int) = b.length) : eqL f a b = eqGo f a b := by
 unfold eqL
 have : (a.length == b.length) = true := by simp; omega
 rw [this]; rfl

theorem eqIntS_fun (a b : List Int) (ha : a.length ≤ 9223372036854775807) (hb : b.length ≤ 9223372036854775807) : Fun Tryz.prog 13 [.t (T.ints a), .t (T.ints b)] (tupD [.t (.bool (eqL eqI a b))]) := by
 refine Fun.begin tys Tryz.func13 rfl rfl (N := 26) [(0, .t (T.ints a)), (1, .t (T.ints b))] rfl rfl (fun w0 G F0 => ?_)
 refine sQ (rG (eZ rfl (oN (tN (sQ (sQ (rG (eZ rfl (evE ?_)))))))))
 refine eZ rfl (evE ?_)
 refine eZ rfl (oN (tN ?_))
 refine W_cond rfl (fun h1 => ?_) (fun h1 => ?_)
 ·
  simp only [HS] at h1
  refine sQ (rG (eZ rfl (oN (tN (rT (tR (eR ?_)))))))
  ·rw [eqL_len h1]
   done
 simp only [HS] at h1
 refine W_skip (tN (sQ (sQ (rG (eZ rfl (oN (tN (W_block ?_))))))))
 refine lK (α := Int) [0, 1] [] (fun x => [(5, .t (.int x))]) (fun x => []) (fun x => 0 ≤ x ∧ x ≤ a.length ∧ eqGo eqI a b = eqGo eqI (a.drop x.toNat) (b.drop x.toNat)) (fun x => Int.toNat (a.length - x)) 0 ?_ (fun k hx => ?_)
 ·exact ⟨by omega, by omega, rfl⟩
 obtain ⟨hk0, hk1, hk2⟩ := hx
 refine nY rfl (sQ (sQ (rG (eK 2 rfl (evE ?_)))))
 refine eZ rfl (oN (tN ?_))
 refine W_cond rfl (fun h2 => ?_) (fun h2 => ?_)
 ·
  simp only [HS] at h2
  refine W_skip (tN (sQ (W_block (sQ (W_regionD mixed (by kernel_rfl) (evQ ?_))))))
  refine evQ ?_
  refine QL_norm rfl (QL_idxT tys rfl rfl (lt_of rfl) rfl rfl rfl rfl rfl rfl rfl (by omega) _ (getT _ _ (by omega) (by omega)) (evQ ?_))
  refine evQ ?_
  refine evQ ?_
  refine QL_idxT tys rfl rfl (lt_of rfl) rfl rfl rfl rfl rfl rfl rfl (by omega) _ (getT _ _ (by omega) (by omega)) (evQ ?_)
  refine QL_norm rfl (evQ ?_)
  refine QL_nil (tN ?_)
  refine W_cond rfl (fun h3 => ?_) (fun h3 => ?_)
  ·
   simp only [HS] at h3
   refine sQ (rG (eZ rfl (oN (tN (rT (bR (tR (loopQ_r (bR (tR (eR ?_)))))))))))
   ·rw [eqL_eq h1, hk2, eqGo_at hk0 h2 h1]
    simp [eqI, h3]
    done
  simp only [HS] at h3
  refine W_skip (bN (tN (rG (eZ rfl (evI ?_)))))
  refine eZ rfl (oN ?_)
  refine lQ _ ?_ ?_
  ·skip
   refine ⟨by omega, by omega, ?_⟩; rw [hk2, eqGo_at hk0 h2 h1]; simp [eqI, h3]
  ·(show Int.toNat _ < Int.toNat _); omega
 simp only [HS] at h2
 refine W_exit (tE (loopQ_e (inBlk_y (tN (sQ (rG (eZ rfl (oN (tN (rT (eR ?_)))))))))))
 ·rw [eqL_eq h1, hk2, drop_end h2]
  rfl

def cnt (ll : List (List Int)) : Bool := decide ((ll.length : Int) ≤ 5) && ll.all fun l => decide ((l.length : Int) ≤ 300) && allIn l 0 1000000

def idxGo {α : Type} (p : α → Bool) : List α → Int → Int
 | [], _ => -1
 | x :: xs, k => if p x then k else idxGo p xs (k + 1)
theorem idxGo_any {α : Type} {p : α → Bool} : ∀ {l : List α} {k : Int}, 0 ≤ k → decide (0 ≤ idxGo p l k) = l.any p
 | [], _, _ => rfl
 | x :: l, k, h => by
  rw [idxGo, List.any_cons]
  cases hp : p x
  ·simpa using idxGo_any (l := l) (k := k + 1) (by omega)
  ·simpa using h
theorem idx_at {α : Type} {p : α → Bool} {l : List α} {k : Int} (h0 : 0 ≤ k) (h1 : k < l.length) : idxGo p (l.drop k.toNat) k = if p (l[k.toNat]'(by omega)) then k else idxGo p (l.drop (k + 1).toNat) (k + 1) := by
 rw [drop_at h0 h1, idxGo]

theorem idxS_fun (l : List Int) (p : Int → Bool) (f : Nat) (caps : List D) (hcaps : caps.all D.imm = true) (hl : l.length ≤ 9223372036854775807) (hf : ∀ x, x ∈ l → Fun Tryz.prog f (.t (T.int x) :: caps) (.t (.bool (p x)))) : Fun Tryz.prog 148 [.t (T.ints l), .clo f caps] (tupD [.t (.int (idxGo p l 0))]) := by
 refine Fun.begin tys Tryz.func148 rfl rfl (N := 19) [(0, .t (T.ints l)), (1, .clo f caps)] rfl rfl (fun w0 G F0 => ?_)
 refine sQ (rG (eZ rfl (oN (tN (sQ (sQ (rG (eZ rfl (evE ?_)))))))))
 refine eZ rfl (oN (tN (W_block ?_)))
 refine lK (α := Int) [0, 1, 7] [] (fun x => [(8, .t (.int x))]) (fun x => []) (fun x => 0 ≤ x ∧ x ≤ l.length ∧ idxGo p l 0 = idxGo p (l.drop x.toNat) x) (fun x => Int.toNat (l.length - x)) 0 ?_ (fun k hx => ?_)
 ·exact ⟨by omega, by omega, rfl⟩
 obtain ⟨hk0, hk1, hk2⟩ := hx
 refine nY rfl (sQ (rG (eZ rfl (oN (tN (sQ ?_))))))
 refine W_cond rfl (fun h1 => ?_) (fun h1 => ?_)
 ·
  simp only [HS] at h1
  refine W_skip (tN (sQ (W_block (sQ (rG (eK 2 rfl (oN (tN (sQ (rG (WO_moveClo tys rfl rfl (lt_of rfl) rfl rfl (by assumption) ?_)))))))))))
  refine eK 2 rfl (WO_idxT tys rfl rfl (lt_of rfl) rfl rfl rfl rfl rfl rfl rfl (by omega) _ (getT _ _ (by omega) (by omega)) (eZ rfl ?_))
  refine WO_call rfl rfl (lt_of rfl) rfl rfl (by repeat (first | exact ResL.done | exact ResL.imms (by first | rfl | assumption) | refine ResL.t ?_ | refine ResL.own ?_ | refine ResL.slA rfl (by first | rfl | (simp; done) | (simp; omega)) ?_ | refine ResL.sl rfl (by first | omega | (simp; done) | (simp; omega)) ?_ | refine ResL.rp ?_ | refine ResL.clo ?_ ?_ | refine ResL.aggT ?_ ?_ | refine ResL.ref rfl ?_ ?_ | refine ResL.nil' ?_ | refine ResL.nil 1 ?_)) (hf _ (List.getElem_mem _)) rfl ?_
  refine kZ [0,1,5,7,8,9,10,11,12,13,14,15,16] rfl (oN (tN ?_))
  refine W_cond rfl (fun h2 => ?_) (fun h2 => ?_)
  ·
   refine sQ (rG (eK 2 rfl (oN (tN (rT (bR (tR (loopQ_r (bR (tR (eR ?_)))))))))))
   ·rw [hk2, idx_at hk0 h1]
    simp [h2]
    done
  refine W_skip (bN (tN (rG (evI ?_))))
  refine eZ rfl (oN ?_)
  refine lQ _ ?_ ?_
  ·skip
   refine ⟨by omega, by omega, ?_⟩; rw [hk2, idx_at hk0 h1]; simp [h2]
  ·(show Int.toNat _ < Int.toNat _); omega
 simp only [HS] at h1
 refine W_exit (tE (loopQ_e (inBlk_y (tN (sQ (rG (eZ rfl (oN (tN (rT (eR ?_)))))))))))
 ·rw [hk2, drop_end h1]
  rfl

theorem hasS_fun (l : List Int) (p : Int → Bool) (f : Nat) (caps : List D) (hcaps : caps.all D.imm = true) (hl : l.length ≤ 9223372036854775807) (hf : ∀ x, x ∈ l → Fun Tryz.prog f (.t (T.int x) :: caps) (.t (.bool (p x)))) : Fun Tryz.prog 85 [.t (T.ints l), .clo f caps] (tupD [.t (.bool (l.any p))]) := by
 refine Fun.begin tys Tryz.func85 rfl rfl (N := 9) [(0, .t (T.ints l)), (1, .clo f caps)] rfl rfl (fun w0 G F0 => ?_)
 refine sQ (rG (eZ rfl (oN (tN (sQ (rG (eZ rfl (WO_moveClo tys rfl rfl (lt_of rfl) rfl rfl (by assumption) ?_))))))))
 refine WO_call rfl rfl (lt_of rfl) rfl rfl (by repeat (first | exact ResL.done | exact ResL.imms (by first | rfl | assumption) | refine ResL.t ?_ | refine ResL.own ?_ | refine ResL.slA rfl (by first | rfl | (simp; done) | (simp; omega)) ?_ | refine ResL.sl rfl (by first | omega | (simp; done) | (simp; omega)) ?_ | refine ResL.rp ?_ | refine ResL.clo ?_ ?_ | refine ResL.aggT ?_ ?_ | refine ResL.ref rfl ?_ ?_ | refine ResL.nil' ?_ | refine ResL.nil 1 ?_)) (idxS_fun l p f caps hcaps hl hf) rfl ?_
 refine eK 2 rfl (oN (tN (rT (eR ?_))))
 ·rw [← idxGo_any (Int.le_refl 0)]

def hot1 (k : Int) : List Int → Int → Int × Int × Int → Int × Int × Int
 | [], _, s => s
 | n :: l, i, s => hot1 k l (i + 1) (if s.2.2 < n then (k, i, n) else s)
def hotGo : List (List Int) → Int → Int × Int × Int → Int × Int × Int
 | [], _, s => s
 | l :: ll, k, s => hotGo ll (k + 1) (hot1 k l 0 s)
def hot (ll : List (List Int)) : Int × Int × Int := if cnt ll then hotGo ll 0 (0, 0, 0) else (0, 0, 0)
end Go.Proofs.YtimpganophnehaaGreat
