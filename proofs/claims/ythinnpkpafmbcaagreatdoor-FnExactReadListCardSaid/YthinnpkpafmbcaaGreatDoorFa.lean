/- Walks and laws of the claim. -/
import Derived.Test.YthinnpkpafmbcaaGreatDoorTy
import Derived.Test.YthinnpkpafmbcaaGreatDoorMc
import Derived.Test.YthinnpkpafmbcaaGreatDoorMe
set_option linter.unusedVariables false
set_option linter.unusedSimpArgs false
set_option maxRecDepth 10000
set_option maxHeartbeats 1000000
namespace Go.Proofs.YthinnpkpafmbcaaGreatDoor
open Go.Eng
open Go.Eng
theorem Ar (n lo hi : Int) : Fun Tryz.prog 42 [.t (.int n), .t (.int lo), .t (.int hi)] (Aq [.t (.bool (decide (lo ≤ n ∧ n ≤ hi)))]) := by
 refine Fun.begin tys Tryz.func42 Z Z (N := 15) [(0, .t (.int n)), (1, .t (.int lo)), (2, .t (.int hi))] Z Z (fun w0 G F0 => ?_);refine sG (eZ Z (nA (eK 4 Z ?_)));refine gB (fun h1 => ?_) (fun h1 => ?_)
 ·
  simp only [HS] at h1;refine xK 4 Z (kZ [6] Z (nB (rT (eR ?_))))
  ·(simp_all <;> omega)
 simp only [HS] at h1;refine xK 4 Z (kZ [6,14] Z (eZ Z (nB (rT (eR ?_)))))
 ·(simp_all <;> omega)
theorem BE (n lo hi : Int) : Fun Tryz.prog 53 [.t (.int n), .t (.int lo), .t (.int hi)] (Aq [.t (.bool (decide (lo ≤ n ∧ n ≤ hi)))]) := by
 refine Fun.begin tys Tryz.func53 Z Z (N := 15) [(0, .t (.int n)), (1, .t (.int lo)), (2, .t (.int hi))] Z Z (fun w0 G F0 => ?_);refine sG (eZ Z (nA (eK 4 Z ?_)));refine gB (fun h1 => ?_) (fun h1 => ?_)
 ·
  simp only [HS] at h1;refine xK 4 Z (kZ [6] Z (nB (rT (eR ?_))))
  ·(simp_all <;> omega)
 simp only [HS] at h1;refine xK 4 Z (kZ [6,14] Z (eZ Z (nB (rT (eR ?_)))))
 ·(simp_all <;> omega)
def Ck (l : List Int) (lo hi : Int) : Bool := l.all fun n => decide (lo ≤ n ∧ n ≤ hi)
theorem KL {l : List Int} {lo hi k : Int} (h0 : 0 ≤ k) (h1 : k < l.length) (h : Ck (l.take k.toNat) lo hi = true) (h2 : lo ≤ l[k.toNat]'(by omega) ∧ l[k.toNat]'(by omega) ≤ hi) : Ck (l.take (k + 1).toNat) lo hi = true := by
 rw [show (k + 1).toNat = k.toNat + 1 from by omega, List.take_add_one, List.getElem?_eq_getElem (by omega)];unfold Ck at *;rw [List.all_append, h]
 simpa using h2
theorem MU {l : List Int} {lo hi k : Int} (h0 : 0 ≤ k) (h1 : k < l.length) (h2 : ¬ (lo ≤ l[k.toNat]'(by omega) ∧ l[k.toNat]'(by omega) ≤ hi)) : Ck l lo hi = false := by
 unfold Ck;rw [List.all_eq_false];exact ⟨l[k.toNat]'(by omega), N9 _, by simpa using h2⟩
theorem LL {l : List Int} {lo hi k : Int} (h : Ck (l.take k.toNat) lo hi = true) (h0 : 0 ≤ k) (h1 : (l.length : Int) ≤ k) : Ck l lo hi = true := by
 rwa [Nw (by omega)] at h
theorem Kt (l : List Int) (lo hi : Int) (hl : l.length ≤ 1073741824) : Fun Tryz.prog 105 [.t (T.ints l), .t (.int lo), .t (.int hi)] (Aq [.t (.bool (Ck l lo hi))]) := by
 refine Fun.begin tys Tryz.func105 Z Z (N := 21) [(0, .t (T.ints l)), (1, .t (.int lo)), (2, .t (.int hi))] Z Z (fun w0 G F0 => ?_);refine sG (eZ Z (nB (sQ (sG (eZ Z (evE ?_))))));refine eZ Z (nB (AD ?_));refine lK (α := Int) [9, 10, 1, 2] [] (fun x => [(11, .t (.int x))]) (fun x => []) (fun x => 0 ≤ x ∧ x ≤ l.length ∧ Ck (l.take x.toNat) lo hi = true) (fun x => Int.toNat (l.length - x)) 0 ?_ (fun k hx => ?_)
 ·refine ⟨?_, ?_, ?_⟩ <;> simp [Ck]
 obtain ⟨hk0, hk1, hk2⟩ := hx
 refine nY Z (sG (eZ Z (nB (sQ ?_))));refine AC Z (fun h1 => ?_) (fun h1 => ?_)
 ·
  simp only [HS] at h1;refine AB (tN (sQ (AD (sG ?_))));refine iY (k := ?_);refine eK 2 Z (nA (eK 3 Z (AJ ?_)));refine ⟨_, Ar _ _ _, rfl, ?_⟩;refine eZ Z (kZ [1,2,8,9,10,11,12,13,14,15,16,17,18,19] Z (nB ?_));refine AC Z (fun h2 => ?_) (fun h2 => ?_)
  ·
   simp only [HS] at h2;refine sG (eZ Z (nB (rT (bR (tR (AO (bR (tR (eR ?_)))))))))
   ·rw [MU hk0 (by omega) (by simpa using h2)]
  simp only [HS] at h2;refine AB (bN (tN (rG (evI ?_))));refine eZ Z (oN ?_);refine lQ _ ?_ ?_
  ·skip
   exact ⟨by omega, by omega, KL hk0 (by omega) hk2 (by simpa using h2)⟩
  ·(show Int.toNat _ < Int.toNat _); omega
 simp only [HS] at h1;refine AU (tE (AP (AK (tN (sG (eZ Z (nB (rT (eR ?_)))))))))
 ·rw [LL hk2 hk0 (by omega)]
open Go.Eng
def szGo {α : Type} (f : α → Int → Int) : List α → Int → Int
 | [], left => left
 | x :: xs, left => if f x left < 0 then -1 else szGo f xs (f x left)
theorem AX {α : Type} {l : List α} {k : Int} (h0 : 0 ≤ k) (h1 : k < l.length) : l.drop k.toNat = l[k.toNat]'(by omega) :: l.drop (k + 1).toNat := by
 rw [show (k + 1).toNat = k.toNat + 1 from by omega];exact List.drop_eq_getElem_cons (by omega)
theorem AQ {α : Type} {l : List α} {k : Int} (h1 : (l.length : Int) ≤ k) : l.drop k.toNat = [] := List.drop_of_length_le (by omega)
def JK {α : Type} (f : α → α → Bool) : List α → List α → Bool
 | x :: xs, y :: ys => f x y && JK f xs ys
 | _, _ => true
def eqL {α : Type} (f : α → α → Bool) (a b : List α) : Bool := a.length == b.length && JK f a b
theorem Hd {α : Type} {f : α → α → Bool} (h : ∀ x, f x x = true) : ∀ l : List α, JK f l l = true
 | [] => rfl
 | x :: l => by rw [JK, h, Hd h l]; rfl
theorem Ga {α : Type} {f : α → α → Bool} (h : ∀ x, f x x = true) (l : List α) : eqL f l l = true := by
 unfold eqL; rw [Hd h]; simp
def eqI (a b : Int) : Bool := decide (a = b)
theorem IM {α : Type} {f : α → α → Bool} {a b : List α} (h : ¬ (a.length : Int) = b.length) : eqL f a b = false := by
 unfold eqL
 have : (a.length == b.length) = false := by simpa using fun e => h (by omega)
 rw [this]; rfl
theorem D3 {α : Type} {f : α → α → Bool} {a b : List α} {k : Int} (h0 : 0 ≤ k) (h1 : k < a.length) (h : (a.length : Int) = b.length) :
  JK f (a.drop k.toNat) (b.drop k.toNat) = (f (a[k.toNat]'(by omega)) (b[k.toNat]'(by omega)) && JK f (a.drop (k + 1).toNat) (b.drop (k + 1).toNat)) := by
 rw [AX h0 (by omega), AX (l := b) h0 (by omega), JK]
theorem Fv {α : Type} {f : α → α → Bool} {a b : List α} (h : (a.length : Int) = b.length) : eqL f a b = JK f a b := by
 unfold eqL
 have : (a.length == b.length) = true := by simp; omega
 rw [this]; rfl
theorem J9 (a b : List Int) (ha : a.length ≤ 9223372036854775807) (hb : b.length ≤ 9223372036854775807) : Fun Tryz.prog 25 [.t (T.ints a), .t (T.ints b)] (Aq [.t (.bool (eqL eqI a b))]) := by
 refine Fun.begin tys Tryz.func25 Z Z (N := 26) [(0, .t (T.ints a)), (1, .t (T.ints b))] Z Z (fun w0 G F0 => ?_);refine sG (eZ Z (nB (sQ (sG (eZ Z (evE ?_))))));refine eZ Z (evE ?_);refine eZ Z (nB ?_);refine AC Z (fun h1 => ?_) (fun h1 => ?_)
 ·
  simp only [HS] at h1;refine sG (eZ Z (nB (rT (tR (eR ?_)))))
  ·rw [IM h1]
   done
 simp only [HS] at h1;refine AB (tN (sQ (sG (eZ Z (nB (AD ?_))))));refine lK (α := Int) [0, 1] [] (fun x => [(5, .t (.int x))]) (fun x => []) (fun x => 0 ≤ x ∧ x ≤ a.length ∧ JK eqI a b = JK eqI (a.drop x.toNat) (b.drop x.toNat)) (fun x => Int.toNat (a.length - x)) 0 ?_ (fun k hx => ?_)
 ·exact ⟨by omega, by omega, rfl⟩
 obtain ⟨hk0, hk1, hk2⟩ := hx
 refine nY Z (sQ (sG (eK 2 Z (evE ?_))));refine eZ Z (nB ?_);refine AC Z (fun h2 => ?_) (fun h2 => ?_)
 ·
  simp only [HS] at h2;refine AB (tN (sQ (AD (sQ (A4 mixed (by kernel_rfl) (evQ ?_))))));refine evQ ?_;refine AS Z (Co tys Z Z (AA Z) Z Z Z Z Z Z Z (by omega) _ (FW _ _ (by omega) (by omega)) (evQ ?_));refine evQ ?_;refine evQ ?_;refine Co tys Z Z (AA Z) Z Z Z Z Z Z Z (by omega) _ (FW _ _ (by omega) (by omega)) (evQ ?_);refine AS Z (evQ ?_);refine Bo (tN ?_);refine AC Z (fun h3 => ?_) (fun h3 => ?_)
  ·
   simp only [HS] at h3;refine sG (eZ Z (nB (rT (bR (tR (AO (bR (tR (eR ?_)))))))))
   ·rw [Fv h1, hk2, D3 hk0 h2 h1]
    simp [eqI, h3]
    done
  simp only [HS] at h3;refine AB (bN (tN (rG (eZ Z (evI ?_)))));refine eZ Z (oN ?_);refine lQ _ ?_ ?_
  ·skip
   refine ⟨by omega, by omega, ?_⟩; rw [hk2, D3 hk0 h2 h1]; simp [eqI, h3]
  ·(show Int.toNat _ < Int.toNat _); omega
 simp only [HS] at h2;refine AU (tE (AP (AK (tN (sG (eZ Z (nB (rT (eR ?_)))))))))
 ·rw [Fv h1, hk2, AQ h2]
  rfl
def EM {α : Type} (p : α → Bool) : List α → Int → Int
 | [], _ => -1
 | x :: xs, k => if p x then k else EM p xs (k + 1)
theorem E8 {α : Type} {p : α → Bool} : ∀ {l : List α} {k : Int}, 0 ≤ k → decide (0 ≤ EM p l k) = l.any p
 | [], _, _ => rfl
 | x :: l, k, h => by
  rw [EM, List.any_cons];cases hp : p x
  ·simpa using E8 (l := l) (k := k + 1) (by omega)
  ·simpa using h
theorem I8 {α : Type} {p : α → Bool} {l : List α} {k : Int} (h0 : 0 ≤ k) (h1 : k < l.length) : EM p (l.drop k.toNat) k = if p (l[k.toNat]'(by omega)) then k else EM p (l.drop (k + 1).toNat) (k + 1) := by
 rw [AX h0 h1, EM]
theorem MD (l : List Int) (p : Int → Bool) (f : Nat) (caps : List D) (hcaps : caps.all D.imm = true) (hl : l.length ≤ 9223372036854775807) (hf : ∀ x, x ∈ l → Fun Tryz.prog f (.t (T.int x) :: caps) (.t (.bool (p x)))) : Fun Tryz.prog 99 [.t (T.ints l), .clo f caps] (Aq [.t (.int (EM p l 0))]) := by
 refine Fun.begin tys Tryz.func99 Z Z (N := 19) [(0, .t (T.ints l)), (1, .clo f caps)] Z Z (fun w0 G F0 => ?_);refine sG (eZ Z (nB (sQ (sG (eZ Z (evE ?_))))));refine eZ Z (nB (AD ?_));refine lK (α := Int) [0, 1, 7] [] (fun x => [(8, .t (.int x))]) (fun x => []) (fun x => 0 ≤ x ∧ x ≤ l.length ∧ EM p l 0 = EM p (l.drop x.toNat) x) (fun x => Int.toNat (l.length - x)) 0 ?_ (fun k hx => ?_)
 ·exact ⟨by omega, by omega, rfl⟩
 obtain ⟨hk0, hk1, hk2⟩ := hx
 refine nY Z (sG (eZ Z (nB (sQ ?_))));refine AC Z (fun h1 => ?_) (fun h1 => ?_)
 ·
  simp only [HS] at h1;refine AB (tN (sQ (AD (sG (eK 2 Z (nA (C1 tys Z Z (AA Z) Z Z (by assumption) ?_)))))));refine eK 2 Z ?_;refine iY (k := ?_);refine eZ Z ?_;refine Ba Z Z (AA Z) Z Z (by repeat (first | exact ResL.done | exact ResL.imms (by first | rfl | assumption) | refine ResL.t ?_ | refine ResL.own ?_ | refine ResL.slA Z (by first | rfl | (simp; done) | (simp; omega)) ?_ | refine ResL.sl Z (by first | omega | (simp; done) | (simp; omega)) ?_ | refine ResL.rp ?_ | refine ResL.clo ?_ ?_ | refine ResL.aggT ?_ ?_ | refine ResL.ref Z ?_ ?_ | refine ResL.nil' ?_ | refine ResL.nil 1 ?_)) (hf _ (N9 _)) Z ?_;refine kZ [0,1,5,7,8,9,10,11,12,13,14,15,16] Z (nB ?_);refine AC Z (fun h2 => ?_) (fun h2 => ?_)
  ·
   refine sG (eK 2 Z (nB (rT (bR (tR (AO (bR (tR (eR ?_)))))))))
   ·rw [hk2, I8 hk0 h1]
    simp [h2]
    done
  refine AB (bN (tN (rG (evI ?_))));refine eZ Z (oN ?_);refine lQ _ ?_ ?_
  ·skip
   refine ⟨by omega, by omega, ?_⟩; rw [hk2, I8 hk0 h1]; simp [h2]
  ·(show Int.toNat _ < Int.toNat _); omega
 simp only [HS] at h1;refine AU (tE (AP (AK (tN (sG (eZ Z (nB (rT (eR ?_)))))))))
 ·rw [hk2, AQ h1]
  rfl
theorem JD (l : List Int) (p : Int → Bool) (f : Nat) (caps : List D) (hcaps : caps.all D.imm = true) (hl : l.length ≤ 9223372036854775807) (hf : ∀ x, x ∈ l → Fun Tryz.prog f (.t (T.int x) :: caps) (.t (.bool (p x)))) : Fun Tryz.prog 51 [.t (T.ints l), .clo f caps] (Aq [.t (.bool (l.any p))]) := by
 refine Fun.begin tys Tryz.func51 Z Z (N := 9) [(0, .t (T.ints l)), (1, .clo f caps)] Z Z (fun w0 G F0 => ?_);refine sG (eZ Z (nA (eZ Z (C1 tys Z Z (AA Z) Z Z (by assumption) ?_))));refine Ba Z Z (AA Z) Z Z (by repeat (first | exact ResL.done | exact ResL.imms (by first | rfl | assumption) | refine ResL.t ?_ | refine ResL.own ?_ | refine ResL.slA Z (by first | rfl | (simp; done) | (simp; omega)) ?_ | refine ResL.sl Z (by first | omega | (simp; done) | (simp; omega)) ?_ | refine ResL.rp ?_ | refine ResL.clo ?_ ?_ | refine ResL.aggT ?_ ?_ | refine ResL.ref Z ?_ ?_ | refine ResL.nil' ?_ | refine ResL.nil 1 ?_)) (MD l p f caps hcaps hl hf) Z ?_;refine eK 2 Z (nB (rT (eR ?_)))
 ·rw [← E8 (OC 0)]
theorem CX {l : List Int} : (l.any fun n => !decide ((0 : Int) ≤ n ∧ n ≤ 1000000)) = !Ck l 0 1000000 := by
 rw [Ck, List.not_all_eq_any_not]
open Go.Eng
def okN {α : Type} (B : Nat) (l : List α) : Prop := l.length ≤ B
def okL {α : Type} (B : Nat) (ok : α → Prop) (l : List α) : Prop := l.length ≤ B ∧ ∀ x, x ∈ l → ok x
theorem Eh {α : Type} {l : List α} {k : Int} (h0 : 0 ≤ k) (h1 : k < l.length) : l.take (k + 1).toNat = l.take k.toNat ++ [l[k.toNat]'(by omega)] := by
 rw [show (k + 1).toNat = k.toNat + 1 from by omega, List.take_add_one, List.getElem?_eq_getElem (by omega)];rfl
theorem Lp {α : Type} {l : List α} {k : Int} (h1 : (l.length : Int) ≤ k) : l.take k.toNat = l := Nw (by omega)
def eqB (a b : Bool) : Bool := a == b
theorem Eb : ∀ x, eqI x x = true := fun x => by simp [eqI]
theorem IP (a b : List Int) (ha : okN 9223372036854775807 a) (hb : okN 9223372036854775807 b) : Fun Tryz.prog 25 [.t (T.ints a), .t (T.ints b)] (.t (.bool (eqL eqI a b))) := J9 a b ha hb
open Go.Eng
structure Ins where
 op : Int
 n : Int
def Ins.tt (x : Ins) : T := .agg [T.int x.op, T.int x.n]
def Fc (a b : Ins) : Bool := eqI a.op b.op && eqI a.n b.n && true
theorem KA (a : Ins) : Fc a a = true := by
 unfold Fc; simp only [Eb, Bool.and_self]
theorem K9 (a b : Ins) : Fun Tryz.prog 64 [.t (Ins.tt a), .t (Ins.tt b)] (Aq [.t (.bool (Fc a b))]) := by
 refine Fun.begin tys Tryz.func64 Z Z (N := 15) [(0, .t (Ins.tt a)), (1, .t (Ins.tt b))] Z Z (fun w0 G F0 => ?_);refine sG (BD Z Z (AA Z) Z Z (nZ Z (BD Z Z (AA Z) Z Z (nZ Z (eZ Z (nB (sQ (sG (eK 5 Z (nB ?_))))))))));refine AC Z (fun h1 => ?_) (fun h1 => ?_)
 ·
  simp only [HS] at h1;refine sQ (kY [2,3,4] Z (rG (eZ Z (nB (rT (tR (eR ?_)))))))
  ·simp_all [Fc, eqI, eqB]
 simp only [HS] at h1;refine AB (tN (sQ (sQ (kY [2,3,4] Z (rG (eK 5 Z (nB ?_)))))));refine AC Z (fun h2 => ?_) (fun h2 => ?_)
 ·
  simp only [HS] at h2;refine sG (eZ Z (nB (rT (tR (eR ?_)))))
  ·simp_all [Fc, eqI, eqB]
 simp only [HS] at h2;refine AB (tN (sG (eZ Z (nB (rT (eR ?_))))))
 ·simp_all [Fc, eqI, eqB]
abbrev T.Inss (l : List Ins) : T := .list 2 (l.map Ins.tt)
theorem KB (a b : List Ins) (ha : okN 9223372036854775807 a) (hb : okN 9223372036854775807 b) : Fun Tryz.prog 26 [.t (T.Inss a), .t (T.Inss b)] (Aq [.t (.bool (eqL Fc a b))]) := by
 unfold okN at ha hb;refine Fun.begin tys Tryz.func26 Z Z (N := 27) [(0, .t (T.Inss a)), (1, .t (T.Inss b))] Z Z (fun w0 G F0 => ?_);refine sG (eZ Z (nB (sQ (sG (eZ Z (evE ?_))))));refine eZ Z (evE ?_);refine eZ Z (nB ?_);refine AC Z (fun h1 => ?_) (fun h1 => ?_)
 ·
  simp only [HS] at h1;refine sG (eZ Z (nB (rT (tR (eR ?_)))))
  ·rw [IM h1]
   done
 simp only [HS] at h1;refine AB (tN (sQ (sG (eZ Z (nB (AD ?_))))));refine lK (α := Int) [0, 1] [] (fun x => [(5, .t (.int x))]) (fun x => []) (fun x => 0 ≤ x ∧ x ≤ a.length ∧ JK Fc a b = JK Fc (a.drop x.toNat) (b.drop x.toNat)) (fun x => Int.toNat (a.length - x)) 0 ?_ (fun k hx => ?_)
 ·exact ⟨by omega, by omega, rfl⟩
 obtain ⟨hk0, hk1, hk2⟩ := hx
 refine nY Z (sQ (sG (eK 2 Z (evE ?_))));refine eZ Z (nB ?_);refine AC Z (fun h2 => ?_) (fun h2 => ?_)
 ·
  simp only [HS] at h2;refine AB (tN (sQ (AD (sQ (A4 mixed (by kernel_rfl) (evQ ?_))))));refine evQ ?_;refine AS Z (Co tys Z Z (AA Z) Z Z Z Z Z Z Z (by omega) _ (FW _ _ (by omega) (by omega)) (evQ ?_));refine evQ ?_;refine evQ ?_;refine Co tys Z Z (AA Z) Z Z Z Z Z Z Z (by omega) _ (FW _ _ (by omega) (by omega)) (evQ ?_);refine AS Z (BU ?_);refine ⟨_, K9 _ _, rfl, ?_⟩;refine evQ ?_;refine Bo (tN ?_);refine AC Z (fun h3 => ?_) (fun h3 => ?_)
  ·
   simp only [HS] at h3;refine sG (eZ Z (nB (rT (bR (tR (AO (bR (tR (eR ?_)))))))))
   ·rw [Fv h1, hk2, D3 hk0 h2 h1]
    simp [h3]
    done
  simp only [HS] at h3;refine AB (bN (tN (rG (eZ Z (evI ?_)))));refine eZ Z (oN ?_);refine lQ _ ?_ ?_
  ·skip
   refine ⟨by omega, by omega, ?_⟩; rw [hk2, D3 hk0 h2 h1]; simp [h3]
  ·(show Int.toNat _ < Int.toNat _); omega
 simp only [HS] at h2;refine AU (tE (AP (AK (tN (sG (eZ Z (nB (rT (eR ?_)))))))))
 ·rw [Fv h1, hk2, AQ h2]
  rfl
structure Row where
 lo : Int
 hi : Int
 pad : Int
def Row.tt (x : Row) : T := .agg [T.int x.lo, T.int x.hi, T.int x.pad]
def FH (a b : Row) : Bool := eqI a.lo b.lo && eqI a.hi b.hi && eqI a.pad b.pad && true
theorem J7 (a : Row) : FH a a = true := by
 unfold FH; simp only [Eb, Bool.and_self]
theorem K8 (a b : Row) : Fun Tryz.prog 65 [.t (Row.tt a), .t (Row.tt b)] (Aq [.t (.bool (FH a b))]) := by
 refine Fun.begin tys Tryz.func65 Z Z (N := 20) [(0, .t (Row.tt a)), (1, .t (Row.tt b))] Z Z (fun w0 G F0 => ?_);refine sG (BD Z Z (AA Z) Z Z (nZ Z (BD Z Z (AA Z) Z Z (nZ Z (eZ Z (nB (sQ (sG (eK 5 Z (nB ?_))))))))));refine AC Z (fun h1 => ?_) (fun h1 => ?_)
 ·
  simp only [HS] at h1;refine sQ (kY [2,3,4] Z (rG (eZ Z (nB (rT (tR (eR ?_)))))))
  ·simp_all [FH, eqI, eqB]
 simp only [HS] at h1;refine AB (tN (sQ (sQ (kY [2,3,4] Z (rG (eK 5 Z (nB ?_)))))));refine AC Z (fun h2 => ?_) (fun h2 => ?_)
 ·
  simp only [HS] at h2;refine sG (eZ Z (nB (rT (tR (eR ?_)))))
  ·simp_all [FH, eqI, eqB]
 simp only [HS] at h2;refine AB (tN (sQ (sG (eK 4 Z (kZ [4,16,18] Z (eZ Z (nB ?_)))))));refine AC Z (fun h3 => ?_) (fun h3 => ?_)
 ·
  simp only [HS] at h3;refine sG (eZ Z (nB (rT (tR (eR ?_)))))
  ·simp_all [FH, eqI, eqB]
 simp only [HS] at h3;refine AB (tN (sG (eZ Z (nB (rT (eR ?_))))))
 ·simp_all [FH, eqI, eqB]
abbrev T.Rows (l : List Row) : T := .list 3 (l.map Row.tt)
theorem J8 (a b : List Row) (ha : okN 9223372036854775807 a) (hb : okN 9223372036854775807 b) : Fun Tryz.prog 27 [.t (T.Rows a), .t (T.Rows b)] (Aq [.t (.bool (eqL FH a b))]) := by
 unfold okN at ha hb;refine Fun.begin tys Tryz.func27 Z Z (N := 27) [(0, .t (T.Rows a)), (1, .t (T.Rows b))] Z Z (fun w0 G F0 => ?_);refine sG (eZ Z (nB (sQ (sG (eZ Z (evE ?_))))));refine eZ Z (evE ?_);refine eZ Z (nB ?_);refine AC Z (fun h1 => ?_) (fun h1 => ?_)
 ·
  simp only [HS] at h1;refine sG (eZ Z (nB (rT (tR (eR ?_)))))
  ·rw [IM h1]
   done
 simp only [HS] at h1;refine AB (tN (sQ (sG (eZ Z (nB (AD ?_))))));refine lK (α := Int) [0, 1] [] (fun x => [(5, .t (.int x))]) (fun x => []) (fun x => 0 ≤ x ∧ x ≤ a.length ∧ JK FH a b = JK FH (a.drop x.toNat) (b.drop x.toNat)) (fun x => Int.toNat (a.length - x)) 0 ?_ (fun k hx => ?_)
 ·exact ⟨by omega, by omega, rfl⟩
 obtain ⟨hk0, hk1, hk2⟩ := hx
 refine nY Z (sQ (sG (eK 2 Z (evE ?_))));refine eZ Z (nB ?_);refine AC Z (fun h2 => ?_) (fun h2 => ?_)
 ·
  simp only [HS] at h2;refine AB (tN (sQ (AD (sQ (A4 mixed (by kernel_rfl) (evQ ?_))))));refine evQ ?_;refine AS Z (Co tys Z Z (AA Z) Z Z Z Z Z Z Z (by omega) _ (FW _ _ (by omega) (by omega)) (evQ ?_));refine evQ ?_;refine evQ ?_;refine Co tys Z Z (AA Z) Z Z Z Z Z Z Z (by omega) _ (FW _ _ (by omega) (by omega)) (evQ ?_);refine AS Z (BU ?_);refine ⟨_, K8 _ _, rfl, ?_⟩;refine evQ ?_;refine Bo (tN ?_);refine AC Z (fun h3 => ?_) (fun h3 => ?_)
  ·
   simp only [HS] at h3;refine sG (eZ Z (nB (rT (bR (tR (AO (bR (tR (eR ?_)))))))))
   ·rw [Fv h1, hk2, D3 hk0 h2 h1]
    simp [h3]
    done
  simp only [HS] at h3;refine AB (bN (tN (rG (eZ Z (evI ?_)))));refine eZ Z (oN ?_);refine lQ _ ?_ ?_
  ·skip
   refine ⟨by omega, by omega, ?_⟩; rw [hk2, D3 hk0 h2 h1]; simp [h3]
  ·(show Int.toNat _ < Int.toNat _); omega
 simp only [HS] at h2;refine AU (tE (AP (AK (tN (sG (eZ Z (nB (rT (eR ?_)))))))))
 ·rw [Fv h1, hk2, AQ h2]
  rfl
structure Code where
 params : Int
 vars : Int
 sites : List Int
 ins : List (Ins)
 rows : List (Row)
def Code.tt (x : Code) : T := .agg [T.int x.params, T.int x.vars, T.ints x.sites, T.Inss x.ins, T.Rows x.rows]
def Code.ok (B : Nat) (x : Code) : Prop := okN B x.sites ∧ okN B x.ins ∧ okN B x.rows ∧ True
def Dc (a b : Code) : Bool := eqI a.params b.params && eqI a.vars b.vars && (eqL eqI) a.sites b.sites && (eqL Fc) a.ins b.ins && (eqL FH) a.rows b.rows && true
theorem FI (a : Code) : Dc a a = true := by
 unfold Dc; simp only [Eb, Ga Eb, Ga KA, Ga J7, Bool.and_self]
theorem Fw (a b : Code) (ha : Code.ok 9223372036854775807 a) (hb : Code.ok 9223372036854775807 b) : Fun Tryz.prog 7 [.t (Code.tt a), .t (Code.tt b)] (Aq [.t (.bool (Dc a b))]) := by
 refine Fun.begin tys Tryz.func7 Z Z (N := 33) [(0, .t (Code.tt a)), (1, .t (Code.tt b))] Z Z (fun w0 G F0 => ?_);refine sG (BD Z Z (AA Z) Z Z (nZ Z (BD Z Z (AA Z) Z Z (nZ Z (eZ Z (nB (sQ (sG (eK 5 Z (nB ?_))))))))));refine AC Z (fun h1 => ?_) (fun h1 => ?_)
 ·
  simp only [HS] at h1;refine sQ (kY [2,3,4] Z (rG (eZ Z (nB (rT (tR (eR ?_)))))))
  ·simp_all [Dc, eqI, eqB]
 simp only [HS] at h1;refine AB (tN (sQ (sQ (kY [2,3,4] Z (rG (eK 5 Z (nB ?_)))))));refine AC Z (fun h2 => ?_) (fun h2 => ?_)
 ·
  simp only [HS] at h2;refine sG (eZ Z (nB (rT (tR (eR ?_)))))
  ·simp_all [Dc, eqI, eqB]
 simp only [HS] at h2;refine AB (tN (sQ (sG (eK 4 Z (kZ [2,3,4,16,18] Z (AJ ?_))))));refine ⟨_, IP _ _ (by first | exact ha.1) (by first | exact hb.1), rfl, ?_⟩;refine eZ Z (nB ?_);refine AC Z (fun h3 => ?_) (fun h3 => ?_)
 ·
  simp only [HS] at h3;refine sG (eZ Z (nB (rT (tR (eR ?_)))))
  ·simp_all [Dc, eqI, eqB]
 simp only [HS] at h3;refine AB (tN (sQ (sG (eK 4 Z (AJ ?_)))));refine ⟨_, KB _ _ (by first | exact ha.2.1) (by first | exact hb.2.1), rfl, ?_⟩;refine eZ Z (nB ?_);refine AC Z (fun h4 => ?_) (fun h4 => ?_)
 ·
  simp only [HS] at h4;refine sQ (kY [2,3,4] Z (rG (eZ Z (nB (rT (tR (eR ?_)))))))
  ·simp_all [Dc, eqI, eqB]
 simp only [HS] at h4;refine AB (tN (sQ (sQ (kY [2,3,4] Z (rG (eK 4 Z (AJ ?_)))))));refine ⟨_, J8 _ _ (by first | exact ha.2.2.1) (by first | exact hb.2.2.1), rfl, ?_⟩;refine eZ Z (nB ?_);refine AC Z (fun h5 => ?_) (fun h5 => ?_)
 ·
  simp only [HS] at h5;refine sG (eZ Z (nB (rT (tR (eR ?_)))))
  ·simp_all [Dc, eqI, eqB]
 simp only [HS] at h5;refine AB (tN (sG (eZ Z (nB (rT (eR ?_))))))
 ·simp_all [Dc, eqI, eqB]
abbrev T.Codes (l : List (Code)) : T := .list 5 (l.map Code.tt)
structure Image where
 codes : List (Code)
def Image.tt (x : Image) : T := .agg [T.Codes x.codes]
def Image.ok (B : Nat) (x : Image) : Prop := okL B (Code.ok B) x.codes ∧ True
open Go.Eng
structure Tok where
 op : Int
 n : Int
def Tok.tt (x : Tok) : T := .agg [T.int x.op, T.int x.n]
structure LY where
 kind : Int
 n : Int
 ex : List (Tok)
 thn : List Int
 els : List Int
structure Func where
 params : Int
 vars : Int
 body : List Int
 stmts : List (LY)
structure Prog where
 funcs : List (Func)
open Go.Eng
theorem BK {b b' : Bool} (h : b = b') : [D.t (T.v (Value.bool b))] = [D.t (T.bool b')] := by rw [h]
theorem retI {b b' : Int} (h : b = b') : [D.t (T.v (Value.int .i64 b))] = [D.t (T.int b')] := by rw [h]
def atI (l : List Int) (n : Int) : Int := (l[n.toNat]?).getD 0
def NB (ps : List Int) : Bool := decide ((ps.length : Int) ≤ 5) && Ck ps 0 2
def knownT (vars m : Int) (t : Tok) : Bool :=
 if t.op = 1 then decide (-2147483648 ≤ t.n ∧ t.n ≤ 2147483647) else if t.op = 2 then decide (0 ≤ t.n ∧ t.n < vars) else if t.op = 11 then decide (0 ≤ t.n ∧ t.n < m) else decide (3 ≤ t.op ∧ t.op ≤ 10) && decide (t.n = 0)
def Km (ps : List Int) (t : Tok) : Int := if 3 ≤ t.op ∧ t.op ≤ 8 then 2 else if t.op = 11 then atI ps t.n else 0
theorem E0 (n : Int) : Fun Tryz.prog 121 [.t (.int n)] (Aq [.t (.bool (decide (-2147483648 ≤ n ∧ n ≤ 2147483647)))]) := by
 refine Fun.begin tys Tryz.func121 Z Z (N := 5) [(0, .t (.int n))] Z Z (fun w0 G F0 => ?_);refine sG (eZ Z (nA (eZ Z (AJ ?_))));refine ⟨_, Ar _ _ _, rfl, ?_⟩;refine eZ Z (nB (rT (eR ?_)))
 ·rfl
def Gs (t : Tok) : Bool := if t.op = 1 then decide (-2147483648 ≤ t.n ∧ t.n ≤ 2147483647) else if t.op = 2 ∨ t.op = 11 then decide (0 ≤ t.n ∧ t.n ≤ 99) else decide (3 ≤ t.op ∧ t.op ≤ 10) && decide (t.n = 0)
theorem Ez (t : Tok) : Fun Tryz.prog 153 [.t t.tt] (Aq [.t (.bool (Gs t))]) := by
 refine Fun.begin tys Tryz.func153 Z Z (N := 24) [(0, .t t.tt)] Z Z (fun w0 G F0 => ?_);refine sG (BD Z Z (AA Z) Z Z (nZ Z (eZ Z (nB (sQ (sG (eK 2 Z (nB (AD (sG (eK 2 Z (nB ?_))))))))))));refine AC Z (fun h1 => ?_) (fun h1 => ?_)
 ·
  simp only [HS] at h1;refine sG (eK 2 Z (AJ ?_));refine ⟨_, E0 _, rfl, ?_⟩;refine kZ [1,2,9] Z (eZ Z (nB (rT (bR (tR (eR ?_))))))
  ·exact BK (by grind [Gs])
 simp only [HS] at h1;refine sQ (sG (eK 2 Z (nB ?_)));refine AC Z (fun h2 => ?_) (fun h2 => ?_)
 ·
  simp only [HS] at h2;refine AB (tN ?_);refine AC Z (fun h3 => ?_) (fun h3 => ?_)
  ·
   simp only [HS] at h3;refine sQ (kY [1,2] Z (rG (eK 2 Z (AJ ?_))));refine ⟨_, Ar _ _ _, rfl, ?_⟩;refine eZ Z (nB (rT (bR (tR (eR ?_)))))
   ·exact BK (by grind [Gs])
  simp only [HS] at h3;refine AB (bN (tN (sQ (kY [1,2] Z (rG (eK 2 Z (AJ ?_)))))));refine ⟨_, Ar _ _ _, rfl, ?_⟩;refine eZ Z ?_;refine gB (fun h4 => ?_) (fun h4 => ?_)
  ·
   simp only [HS] at h4;refine xK 4 Z (nB (rT (eR ?_)))
   ·exact BK (by grind [Gs])
  simp only [HS] at h4;refine xK 5 Z (kZ [2] Z (nB (rT (eR ?_))))
  ·exact BK (by grind [Gs])
 simp only [HS] at h2;refine kY [1,2,4,10] Z (rG (eK 2 Z (nB ?_)));refine AC Z (fun h3 => ?_) (fun h3 => ?_)
 ·
  simp only [HS] at h3;refine sG (eK 2 Z (AJ ?_));refine ⟨_, Ar _ _ _, rfl, ?_⟩;refine eZ Z (nB (rT (bR (tR (eR ?_)))))
  ·exact BK (by grind [Gs])
 simp only [HS] at h3;refine AB (bN (tN (sG (eK 2 Z (AJ ?_)))));refine ⟨_, Ar _ _ _, rfl, ?_⟩;refine eZ Z ?_;refine gB (fun h4 => ?_) (fun h4 => ?_)
 ·
  simp only [HS] at h4;refine xK 3 Z (kZ [2,23] Z (eZ Z (nB (rT (eR ?_)))))
  ·exact BK (by grind [Gs])
 simp only [HS] at h4;refine xK 3 Z (kZ [2,19,22] Z (eK 2 Z (nB (rT (eR ?_)))))
 ·exact BK (by grind [Gs])
def runE (vars : Int) (ps : List Int) : List Tok → Int → Int → Option (Int × Int)
 | [], h, m => some (h, m)
 | t :: l, h, m => if knownT vars ps.length t && decide (Km ps t ≤ h) then runE vars ps l (h + (1 - Km ps t)) (max m (h + (1 - Km ps t))) else none
def MJ (vars : Int) (ps : List Int) (l : List Tok) : Bool := match runE vars ps l 0 0 with
 | some (h, m) => decide (h = 1) && decide ((l.length : Int) ≤ 12)
 | none => false
theorem Ky (n : Int) : (n = IntKind.i64.wrap (IntKind.i32.wrap n)) ↔ (-2147483648 ≤ n ∧ n ≤ 2147483647) := by
 have h1 : -2147483648 ≤ IntKind.i32.wrap n ∧ IntKind.i32.wrap n ≤ 2147483647 := by
  unfold IntKind.wrap; simp [IntKind.bits, IntKind.signed]; split <;> omega
 rw [C8 (by omega) (by omega)]
 constructor
 ·intro h; omega
 ·intro h; unfold IntKind.wrap; simp [IntKind.bits, IntKind.signed]; split <;> omega
theorem E3 (n : Int) : Fun Tryz.prog 132 [.t (.int n)] (Aq [.t (.bool (decide (-2147483648 ≤ n ∧ n ≤ 2147483647)))]) := by
 refine Fun.begin tys Tryz.func132 Z Z (N := 8) [(0, .t (.int n))] Z Z (fun w0 G F0 => ?_);refine sG (eZ Z (nA (eK 2 Z (WO_conv (td := .int .i64) (k := .i32) Z Z (AA Z) Z (by kernel_rfl) (by kernel_rfl) Z (WO_conv (td := .int .i32) (k := .i64) Z Z (AA Z) Z (by kernel_rfl) (by kernel_rfl) Z (eK 2 Z (nB (rT (eR ?_)))))))))
 ·exact BK (by rw [Bool.eq_iff_iff, decide_eq_true_iff, decide_eq_true_iff, Ky])
theorem Fa (n : Int) : Fun Tryz.prog 136 [.t (.int n)] (Aq [.t (.bool (decide (3 ≤ n ∧ n ≤ 8)))]) := by
 refine Fun.begin tys Tryz.func136 Z Z (N := 5) [(0, .t (.int n))] Z Z (fun w0 G F0 => ?_);refine sG (eZ Z (nA (eZ Z (AJ ?_))));refine ⟨_, BE _ _ _, rfl, ?_⟩;refine eZ Z (nB (rT (eR ?_)))
 ·rfl
open Go.Eng
def Aw (op : Int) : Bool := decide (op = 1 ∨ op = 2 ∨ op = 3 ∨ op = 4 ∨ op = 7 ∨ op = 10 ∨ op = 11 ∨ op = 12 ∨ op = 17)
def Ca (i : Ins) : Bool :=
 if i.op = 1 then decide (-2147483648 ≤ i.n ∧ i.n ≤ 2147483647) else if i.op = 4 then decide (3 ≤ i.n ∧ i.n ≤ 8)
 else if Aw i.op then decide (0 ≤ i.n ∧ i.n ≤ 1000000) else decide (1 ≤ i.op ∧ i.op ≤ 18) && decide (i.n = 0)
def A2 (c : Code) : Bool := decide (0 ≤ c.params ∧ c.params ≤ 2) && decide (c.params ≤ c.vars ∧ c.vars ≤ 6) && decide (c.sites.length ≤ 4) && decide (1 ≤ c.ins.length ∧ c.ins.length ≤ 300) && decide (c.rows.length ≤ 300) && c.ins.all Ca
def BP (x : Image) : Bool := decide (1 ≤ x.codes.length ∧ x.codes.length ≤ 5) && x.codes.all A2
def NP (c : Code) (k : Int) : Ins := (c.ins[k.toNat]?).getD ⟨0, 0⟩
def Kl (i : Ins) (at' : Int) : List Int :=
 if i.op = 10 then [i.n] else if i.op = 11 then (if at' + 1 < i.n then [at' + 1, i.n] else if at' + 1 = i.n then [at' + 1] else [i.n, at' + 1])
 else if i.op = 13 ∨ i.op = 14 ∨ i.op = 16 ∨ i.op = 18 then [] else [at' + 1]
def Mi (x : Image) (c : Code) (i : Ins) : Bool :=
 if i.op = 2 ∨ i.op = 3 then decide (i.n < c.vars) else if i.op = 12 ∨ i.op = 17 then decide (i.n < c.sites.length) else if i.op = 7 then decide (i.n < x.codes.length) else true
def Mj (x : Image) (c : Code) : Bool := c.ins.all (Mi x c)
def HX (N : Int) : List Ins → Int → Bool
 | [], _ => true
 | i :: l, k => (Kl i k).all (fun n => decide (n < N)) && HX N l (k + 1)
def goesB (c : Code) : Bool := HX c.ins.length c.ins 0
def Az (many : Int) : List Row → Int → Bool
 | [], _ => true
 | r :: l, k => decide (k ≤ r.lo) && (decide (r.lo < r.hi) && (decide (r.hi ≤ many) && (decide (0 ≤ r.pad ∧ r.pad < many) && Az many l r.hi)))
def Eo (rows : List Row) (many : Int) : Bool := Az many rows 0
theorem L9 {c : Code} {k : Int} (h0 : 0 ≤ k) (h1 : k < c.ins.length) : NP c k = c.ins[k.toNat]'(by omega) := by
 rw [NP, List.getElem?_eq_getElem (by omega)]; rfl
theorem Mo {i : Ins} (h : Ca i = true) : -2147483648 ≤ i.n ∧ i.n ≤ 2147483647 ∧ (i.op ≠ 1 → 0 ≤ i.n ∧ i.n ≤ 1000000) := by
 unfold Ca at h;split at h
 ·rename_i h1
  have := of_decide_eq_true h
  exact ⟨this.1, this.2, fun h => absurd h1 h⟩
 ·split at h
  ·have := of_decide_eq_true h; exact ⟨by omega, by omega, fun _ => by omega⟩
  ·split at h
   ·have := of_decide_eq_true h; exact ⟨by omega, by omega, fun _ => by omega⟩
   ·rw [Nv, decide_eq_true_eq, decide_eq_true_eq] at h
    exact ⟨by omega, by omega, fun _ => by omega⟩
theorem L3 {i : Ins} (h : Ca i = true) {k : Int} (hk : 0 ≤ k) : ∀ n, n ∈ Kl i k → 0 ≤ n := by
 have hn := (Mo h).2.2
 intro n hm;unfold Kl at hm;split at hm
 ·rename_i h1; rw [Oe] at hm; have := hn (by omega); omega
 ·split at hm
  ·rename_i h1
   have := hn (by omega)
   split at hm
   ·simp at hm; omega
   ·split at hm
    ·simp at hm; omega
    ·simp at hm; omega
  ·split at hm
   ·simp at hm
   ·simp at hm; omega
/-! ### Heights -/
section
variable {x : Image} {c : Code} {h open' done : List Int} {k0 n : Int}
end
section
variable {x : Image} {c : Code} {h : List Int}
end
structure RdyX (x : Image) (c : Code) : Prop where
 xl : x.codes.length ≤ 5
 par : ∀ d, d ∈ x.codes → 0 ≤ d.params ∧ d.params ≤ 2
 n1 : 1 ≤ c.ins.length
 n2 : c.ins.length ≤ 300
 rl : c.rows.length ≤ 300
 ins : ∀ i, i ∈ c.ins → Ca i = true
 call : ∀ i, i ∈ c.ins → i.op = 7 → 0 ≤ i.n ∧ i.n < x.codes.length
 next : ∀ k : Int, 0 ≤ k → k < c.ins.length → ∀ n, n ∈ Kl (NP c k) k → 0 ≤ n ∧ n < c.ins.length
 pads : ∀ r, r ∈ c.rows → 0 ≤ r.pad ∧ r.pad < c.ins.length
 his : ∀ r, r ∈ c.rows → 0 ≤ r.hi ∧ r.hi ≤ c.ins.length
theorem K0 {N : Int} : ∀ {l : List Ins} {k : Int}, HX N l k = true → ∀ j (hj : j < l.length), ∀ n, n ∈ Kl (l[j]) (k + j) → n < N
 | [], _, _, j, hj, _, _ => by simp at hj
 | i :: l, k, h, 0, _, n, hn => by
  rw [HX, Nv, N1] at h
  have := h.1 n (by simpa using hn)
  exact of_decide_eq_true this
 | i :: l, k, h, j + 1, hj, n, hn => by
  rw [HX, Nv] at h;refine K0 h.2 j (by simpa using hj) n ?_;rw [List.getElem_cons_succ] at hn;rw [show k + 1 + (j : Int) = k + ((j + 1 : Nat) : Int) from by omega];exact hn
theorem H3 {many : Int} : ∀ {l : List Row} {k : Int}, 0 ≤ k → Az many l k = true → ∀ r, r ∈ l → 0 ≤ r.lo ∧ r.lo < r.hi ∧ r.hi ≤ many ∧ 0 ≤ r.pad ∧ r.pad < many
 | [], _, _, _, r, hr => by cases hr
 | r0 :: l, k, hk, h, r, hr => by
  rw [Az] at h;simp only [Nv, decide_eq_true_eq] at h
  rcases N6.1 hr with rfl | hr
  ·omega
  ·exact H3 (by omega) h.2.2.2.2 r hr
theorem AV {c : Code} (h : A2 c = true) : (0 ≤ c.params ∧ c.params ≤ 2) ∧ (c.params ≤ c.vars ∧ c.vars ≤ 6) ∧ c.sites.length ≤ 4 ∧ (1 ≤ c.ins.length ∧ c.ins.length ≤ 300) ∧ c.rows.length ≤ 300 ∧ ∀ i, i ∈ c.ins → Ca i = true := by
 unfold A2 at h;simp only [Nv, decide_eq_true_eq, N1] at h
 obtain ⟨⟨⟨⟨⟨a, b⟩, d⟩, e⟩, f⟩, g⟩ := h
 exact ⟨a, b, d, e, f, g⟩
theorem KW {x : Image} (h : BP x = true) : (1 ≤ x.codes.length ∧ x.codes.length ≤ 5) ∧ ∀ c, c ∈ x.codes → A2 c = true := by
 unfold BP at h;simp only [Nv, decide_eq_true_eq, N1] at h;exact h
theorem ready {x : Image} {c : Code} (hx : BP x = true) (hc : c ∈ x.codes) (h1 : Mj x c = true) (h3 : goesB c = true) (h4 : Eo c.rows c.ins.length = true) : RdyX x c := by
 obtain ⟨a1, a2⟩ := KW hx
 obtain ⟨b1, b2, b3, b4, b5, b6⟩ := AV (a2 c hc)
 unfold Mj at h1;rw [N1] at h1;refine ⟨a1.2, fun d hd => (AV (a2 d hd)).1, b4.1, b4.2, b5, b6, fun i hi h7 => ?_, fun k h0 h1' n hn => ?_, fun r hr => ?_, fun r hr => ?_⟩
 ·have := h1 i hi
  unfold Mi at this;rw [if_neg (by omega), if_neg (by omega), if_pos h7] at this
  have g := (Mo (b6 i hi)).2.2 (by omega)
  exact ⟨g.1, of_decide_eq_true this⟩
 ·rw [L9 h0 h1'] at hn
  have g := K0 h3 k.toNat (by omega) n (by rw [show (0 : Int) + (k.toNat : Nat) = k from by omega]; exact hn)
  exact ⟨L3 (b6 _ (N9 _)) h0 n hn, g⟩
 ·have := H3 (by omega) h4 r hr; omega
 ·have := H3 (by omega) h4 r hr; omega
def ordK (kids : Int → List Int × List Int) : Nat → List Int → List Int
 | 0, _ => []
 | k + 1, b => b.flatMap fun n => n :: (ordK kids k (kids n).1 ++ ordK kids k (kids n).2)
def ord (N : Int) (kids : Int → List Int × List Int) (b : List Int) : List Int := ordK kids N.toNat b
def both (kids : Int → List Int × List Int) (m : Int) : List Int := (kids m).1 ++ (kids m).2
def upto (N : Nat) : List Int := (List.range N).map fun (k : Nat) => (k : Int)
open Go.Eng
def KX : List LY → Int → List Int
 | [], _ => []
 | s :: l, k => if s.kind = 3 then k :: KX l (k + 1) else KX l (k + 1)
open Go.Eng
def kids (l : List LY) (m : Int) : List Int × List Int := match l[m.toNat]? with
 | some s => (s.thn, s.els)
 | none => ([], [])
def inBB (N i : Int) (b : List Int) : Bool := b.all fun x => decide (i ≤ x ∧ x < N)
def downBB (l : List LY) : Bool := (upto l.length).all fun m => inBB l.length (m + 1) (kids l m).1 && inBB l.length (m + 1) (kids l m).2
def shapeB (l : List LY) (body : List Int) : Bool := downBB l && (inBB l.length 0 body && (ord l.length (kids l) body == upto l.length))
def riseP (l : List Int) (lo hi : Int) : Prop := (∀ x, x ∈ l → lo ≤ x ∧ x ≤ hi) ∧ l.Pairwise (· < ·)
instance (l : List Int) (lo hi : Int) : Decidable (riseP l lo hi) := by unfold riseP; infer_instance
open Go.Eng
theorem readI (l : List Int) : ∀ x, x ∈ l.map T.int → (T.cells x).length = 1 ∧ ∀ y, y ∈ T.cells x → ∃ v, y = .v v := by
 intro x hx
 obtain ⟨a, _, rfl⟩ := List.mem_map.1 hx
 exact ⟨rfl, fun y hy => ⟨_, Oe.1 hy⟩⟩
def ordF (f : Func) (b : List Int) : List Int := ord f.stmts.length (kids f.stmts) b
open Go.Eng
theorem FO {α : Type} {p : α → Bool} {l : List α} {k : Int} (h0 : 0 ≤ k) (h1 : k < l.length) (h : p (l[k.toNat]'(by omega)) = false) : l.all p = false :=
 List.all_eq_false.2 ⟨_, N9 _, by simpa using h⟩
theorem Mv {α : Type} {p : α → Bool} {l : List α} {k : Int} (h0 : 0 ≤ k) (h1 : k < l.length) (h : (l.take k.toNat).all p = true) (h2 : p (l[k.toNat]'(by omega)) = true) : (l.take (k + 1).toNat).all p = true := by
 rw [Eh h0 h1, List.all_append, h]; simpa using h2
theorem EE {α : Type} {p : α → Bool} {l : List α} {k : Int} (h1 : (l.length : Int) ≤ k) (h : (l.take k.toNat).all p = true) : l.all p = true := by
 rwa [Lp h1] at h
open Go.Eng
def okNum (f : Func) : Bool := decide (0 ≤ f.params ∧ f.params ≤ 2) && (decide (f.params ≤ f.vars ∧ f.vars ≤ 6) && decide ((f.stmts.length : Int) ≤ 16))
def siteB (f : Func) : Bool := decide (((KX f.stmts 0).length : Int) ≤ 4)
def kindAt (f : Func) (n : Int) : Int := match f.stmts[n.toNat]? with
 | some s => s.kind
 | none => 0
def noDef (f : Func) (b : List Int) : Bool := (ordF f b).all fun n => decide (¬ kindAt f n = 3)
def My (f : Func) (s : LY) : Bool := if s.kind = 8 then noDef f s.thn else true
def whileB (f : Func) : Bool := f.stmts.all (My f)
def shapeF (f : Func) : Bool := okNum f && (siteB f && (shapeB f.stmts f.body && whileB f))
open Go.Eng
def lens (s : LY) : Int := (s.thn.length : Int) + s.els.length
def stmtW (vars : Int) (ps : List Int) (s : LY) : Bool :=
 if s.kind = 1 then MJ vars ps s.ex && (decide (0 ≤ s.n ∧ s.n ≤ vars - 1) && decide (lens s = 0))
 else if s.kind = 2 ∨ s.kind = 4 ∨ s.kind = 5 ∨ s.kind = 9 then MJ vars ps s.ex && (decide (s.n = 0) && decide (lens s = 0))
 else if s.kind = 3 then decide ((s.ex.length : Int) = 0) && (decide (0 ≤ s.n ∧ s.n ≤ (ps.length : Int) - 1) && decide (lens s = 0))
 else if s.kind = 6 then decide ((s.ex.length : Int) = 0) && (decide (s.n = 0) && decide (lens s = 0))
 else if s.kind = 7 then MJ vars ps s.ex && decide (s.n = 0)
 else if s.kind = 8 then MJ vars ps s.ex && (decide (s.n = 0) && decide ((s.els.length : Int) = 0))
 else false
def stmtG (vars : Int) (ps : List Int) (s : LY) : Bool := stmtW vars ps s && (if s.kind = 3 then decide (atI ps s.n = 0) else true)
def H4 (p : Prog) : List Int := p.funcs.map (·.params)
def goodF (ps : List Int) (f : Func) : Bool := shapeF f && f.stmts.all (stmtG f.vars ps)
def goodP (p : Prog) : Bool := decide ((1 : Int) ≤ p.funcs.length ∧ (p.funcs.length : Int) ≤ 5) && (NB (H4 p) && (decide (atI (H4 p) 0 = 0) && p.funcs.all (goodF (H4 p))))
open Go.Eng
def EB (f : Func) (n : Int) : LY := (f.stmts[n.toNat]?).getD ⟨0, 0, [], [], []⟩
def K3 (p : Prog) (n : Int) : Func := (p.funcs[n.toNat]?).getD ⟨0, 0, [], []⟩
def op0 (l : List Tok) : Int := (l[(0 : Int).toNat]?.map (·.op)).getD 0
def guard1 (f : Func) : Bool := decide ((f.stmts.length : Int) = 2) && (decide ((EB f 0).kind = 3) && (decide ((EB f 1).kind = 9) && (decide (((EB f 1).ex.length : Int) = 1) && decide (op0 (EB f 1).ex = 11))))
def guard2 (f : Func) : Bool := decide ((f.stmts.length : Int) = 1) && (decide ((EB f 0).kind = 2) && (decide (((EB f 0).ex.length : Int) = 1) && decide (op0 (EB f 0).ex = 10)))
def guarded (p : Prog) : Bool := goodP p && (guard1 (K3 p 0) && guard2 (K3 p (EB (K3 p 0) 0).n))
open Go.Eng
def d3 (s : LY) : List Int := if s.kind = 3 then [s.n] else []
theorem Lq {α : Type} (x y : List α) : List.take (x.length + y.length) (x ++ y) = x ++ y := by
 rw [← Nu, OH]
inductive Lead (calls : Int → List Int) (a : Int) : Int → Prop
 | refl : Lead calls a a
 | step {b c : Int} : Lead calls a b → c ∈ calls b → Lead calls a c
def grow (N : Nat) (calls : Int → List Int) (S : Int → Bool) (b : Int) : Bool := S b || (upto N).any fun c => S c && decide (b ∈ calls c)
section
variable {N : Nat} {calls : Int → List Int} {a : Int}
end
def put (l : List Int) (n : Int) : List Int := if n ∈ l then l else l.takeWhile (fun x => decide (x < n)) ++ n :: l.dropWhile (fun x => decide (x < n))
open Go.Eng
structure Met (N : Nat) (calls : Int → List Int) (fn : Int) (met : List Int) (k : Nat) : Prop where
 nodup : met.Nodup
 lead : ∀ x, x ∈ met → Lead calls fn x
 first : fn ∈ met
 closed : ∀ (i : Nat) (h : i < met.length), i < k → ∀ c, c ∈ calls met[i] → c ∈ met
section
variable {N : Nat} {calls : Int → List Int} {fn : Int} {met : List Int} {k : Nat}
end
structure Dfs (calls : Int → List Int) (fn : Int) (S ol : List Int) : Prop where
 leadS : ∀ x, x ∈ S → Lead calls fn x
 leadO : ∀ x, x ∈ ol → Lead calls fn x
 first : fn ∈ S ∨ fn ∈ ol
 closed : ∀ x, x ∈ S → ∀ c, c ∈ calls x → c ∈ S ∨ c ∈ ol
section
variable {N : Nat} {calls : Int → List Int} {fn x : Int} {S ol : List Int}
end
open Go.Eng
theorem EY (op : Int) : Fun Tryz.prog 81 [.t (.int op)] (Aq [.t (.bool (Aw op))]) := by
 refine Fun.begin tys Tryz.func81 Z Z (N := 14) [(0, .t (.int op))] Z Z (fun w0 G F0 => ?_);refine sG (eZ Z (nB (sQ (sG (eZ Z (nB (AD (sQ (sG (eK 2 Z (nB ?_)))))))))));refine FQ (α := Bool) [2] [] (fun x => [(4, .t (.bool x))]) (fun x => []) (fun x => x = Aw op) ?_ (fun b hx => ?_)
 ·
  refine AC Z (fun h1 => ?_) (fun h1 => ?_)
  ·
   try simp only [HS] at h1
   refine AB (jQ _ ?_)
   try dsimp only
   grind [Aw]
  try simp only [HS] at h1
  refine sG (eK 2 Z (nB ?_));refine AC Z (fun h2 => ?_) (fun h2 => ?_)
  ·
   try simp only [HS] at h2
   refine AB (jQ _ ?_)
   try dsimp only
   grind [Aw]
  try simp only [HS] at h2
  refine sG (eK 2 Z (nB ?_));refine AC Z (fun h3 => ?_) (fun h3 => ?_)
  ·
   try simp only [HS] at h3
   refine AB (jQ _ ?_)
   try dsimp only
   grind [Aw]
  try simp only [HS] at h3
  refine sQ (kY [2,3,4] Z (rG (eK 2 Z (nB ?_))));refine AC Z (fun h4 => ?_) (fun h4 => ?_)
  ·
   try simp only [HS] at h4
   refine AB (jQ _ ?_)
   try dsimp only
   grind [Aw]
  try simp only [HS] at h4
  refine sG (eK 2 Z (nB ?_));refine AC Z (fun h5 => ?_) (fun h5 => ?_)
  ·
   try simp only [HS] at h5
   refine AB (jQ _ ?_)
   try dsimp only
   grind [Aw]
  try simp only [HS] at h5
  refine sG (eK 2 Z (nB ?_));refine AC Z (fun h6 => ?_) (fun h6 => ?_)
  ·
   try simp only [HS] at h6
   refine AB (jQ _ ?_)
   try dsimp only
   grind [Aw]
  try simp only [HS] at h6
  refine sG (eK 2 Z (nB ?_));refine AC Z (fun h7 => ?_) (fun h7 => ?_)
  ·
   try simp only [HS] at h7
   refine AB (jQ _ ?_)
   try dsimp only
   grind [Aw]
  try simp only [HS] at h7
  refine sQ (kY [2,3,4] Z (rG (eK 2 Z (nB ?_))));refine AC Z (fun h8 => ?_) (fun h8 => ?_)
  ·
   try simp only [HS] at h8
   refine AB (jQ _ ?_)
   try dsimp only
   grind [Aw]
  try simp only [HS] at h8
  refine rG (eK 2 Z (oN (jQ _ ?_)))
  try dsimp only
  grind [Aw]
 have hb := hx
 refine tN ?_;refine AC Z (fun h1 => ?_) (fun h1 => ?_)
 ·
  try simp only [HS] at h1
  refine sQ (kY [2] Z (rG (eZ Z (nB (rT (bR (tR (eR ?_))))))))
  ·exact BK (by simp_all)
 try simp only [HS] at h1
 refine AB (bN (tN (sQ (kY [2] Z (rG (eZ Z (nB (rT (eR ?_)))))))))
 ·exact BK (by simp_all)
theorem Ey (i : Ins) : Fun Tryz.prog 83 [.t i.tt] (Aq [.t (.bool (Ca i))]) := by
 refine Fun.begin tys Tryz.func83 Z Z (N := 32) [(0, .t i.tt)] Z Z (fun w0 G F0 => ?_);refine sG (BD Z Z (AA Z) Z Z (nZ Z (eZ Z (nB (sQ (AD (sG (eK 4 Z (nB ?_)))))))));refine AC Z (fun h1 => ?_) (fun h1 => ?_)
 ·
  try simp only [HS] at h1
  refine sG (eK 2 Z (AJ ?_));refine ⟨_, E0 _, rfl, ?_⟩;refine kZ [1,2,9] Z (eZ Z (nB (rT (bR (tR (eR ?_))))))
  ·exact BK (by grind [Ca])
 try simp only [HS] at h1
 refine sG (eK 3 Z (kZ [1,2,13] Z (eZ Z (nB ?_))));refine AC Z (fun h2 => ?_) (fun h2 => ?_)
 ·
  try simp only [HS] at h2
  refine sG (eK 2 Z (AJ ?_));refine ⟨_, Ar _ _ _, rfl, ?_⟩;refine eZ Z (nB (rT (bR (tR (eR ?_)))))
  ·exact BK (by grind [Ca])
 try simp only [HS] at h2
 refine sG (eK 2 Z (AJ ?_));refine ⟨_, EY _, rfl, ?_⟩;refine eZ Z (nB ?_);refine AC Z (fun h3 => ?_) (fun h3 => ?_)
 ·
  try simp only [HS] at h3
  refine sG (eK 2 Z (AJ ?_));refine ⟨_, Ar _ _ _, rfl, ?_⟩;refine eZ Z (kZ [1,2] Z (nB (rT (bR (tR (eR ?_))))))
  ·exact BK (by grind [Ca])
 try simp only [HS] at h3
 refine AB (bN (tN (sG (eK 2 Z (AJ ?_)))));refine ⟨_, Ar _ _ _, rfl, ?_⟩;refine eZ Z (kZ [1,2,27] Z ?_);refine gB (fun h4 => ?_) (fun h4 => ?_)
 ·
  try simp only [HS] at h4
  refine xK 4 Z (nB (rT (eR ?_)))
  ·exact BK (by grind [Ca])
 try simp only [HS] at h4
 refine xK 5 Z (nB (rT (eR ?_)))
 ·exact BK (by grind [Ca])
theorem IA (im : Image) (hx : im.ok 1048576) : Fun Tryz.prog 122 [.t im.tt] (Aq [.t (.bool (BP im))]) := by
  have hxl : im.codes.length ≤ 1048576 := hx.1.1
  refine Fun.begin tys Tryz.func122 Z Z (N := 61) [(0, .t im.tt)] Z Z (fun w0 G F0 => ?_);refine sG (BD Z Z (AA Z) Z Z (nZ Z (eZ Z (nB (sQ (sG (eK 2 Z (evE ?_))))))));refine eZ Z (nB (AD ?_));refine lK (α := Int) [1, 8, 9] [1] (fun x => [(10, .t (.int x))]) (fun x => []) (fun x => 0 ≤ x ∧ x ≤ im.codes.length ∧ (im.codes.take x.toNat).all A2 = true) (fun x => Int.toNat (im.codes.length - x)) 0 ?_ (fun k hx => ?_)
  · exact ⟨by omega, by omega, by simp⟩
  obtain ⟨hk0, hk1, hk2⟩ := hx
  refine nY Z (sG (eZ Z (nB (sQ ?_))));refine AC Z (fun h1 => ?_) (fun h1 => ?_)
  ·
    try simp only [HS] at h1
    refine AB (tN (sQ (AD (sG ?_))))
    have hc := hx.1.2 _ (N9 (l := im.codes) (n := k.toNat) (by omega))
    have hc1 : (im.codes[k.toNat]'(by omega)).sites.length ≤ 1048576 := hc.1
    have hc2 : (im.codes[k.toNat]'(by omega)).ins.length ≤ 1048576 := hc.2.1
    have hc3 : (im.codes[k.toNat]'(by omega)).rows.length ≤ 1048576 := hc.2.2.1
    first | refine Bi tys rfl rfl (AA rfl) rfl rfl rfl rfl rfl rfl rfl (by omega) _ (FW _ _ (by omega) (by omega)) ?_ | refine Gn tys rfl rfl (AA rfl) rfl rfl rfl rfl rfl rfl rfl rfl (by omega) (by omega) ?_
    first | (refine ev ?_; try refine AI (Le.freeze (u := 13) rfl) ?_) | refine CY tys rfl rfl (AA rfl) rfl rfl rfl rfl (FW _ _ (by omega) (by omega)) rfl ?_ | refine CY tys rfl rfl (AA rfl) rfl rfl rfl rfl (K1 _ _ (by omega) (by omega)) rfl ?_
    refine nZ Z (AR tys Z Z (AA Z) Z Z Z (nZ Z (sT Z (nZ Z (nB (sQ (sG (eK 2 Z (AJ ?_)))))))));refine ⟨_, Ar _ _ _, rfl, ?_⟩;refine eZ Z (kZ [1,4,8,9,10,11,12,13,14,15,16,17] Z (eZ Z ?_));refine gB (fun h2 => ?_) (fun h2 => ?_)
    ·
      try simp only [HS] at h2
      refine xK 8 Z (kZ [1,4,8,9,10,11,12,13,14,15,16,17,18,19,20,21,22,23,24,25,26,27] Z (xK 9 Z (kZ [1,4,8,9,10,11,12,13,14,15,16,17,18,19,20,21,22,23,24,25,26,27,28,29,30,31,32,33,34,35,36] Z (xK 8 Z (nB (AW Z (sQ (kY [1,4,8,9,10,11,12,13,14,15,16,17,18,19,20,21,22,23,24,25,26,27,28,29,30,31,32,33,34,35,36,37,38,39,40,41,42,43,44] Z (rG (eZ Z (nB (rT (tR (bR (tR ?_)))))))))))))));refine AO (bR (tR (eR ?_)))
      · first
        | (have hno : A2 (im.codes[k.toNat]'(by omega)) = false := (by rw [← OQ]; intro h; obtain ⟨a, b, d, e, f, g⟩ := AV h; first | omega | (have := g _ (N9 (l := (im.codes[k.toNat]'(by omega)).ins) (n := j.toNat) (by omega)); simp_all; done))
           exact BK (by rw [BP, FO hk0 (by omega) hno, Og]))
        | exact BK (by rw [BP, EE (by omega) hk2, Bool.and_true]; exact decide_eq_decide.2 (by omega))
    try simp only [HS] at h2
    refine xK 4 Z (gY Z (AJ ?_));refine ⟨_, Ar _ _ _, rfl, ?_⟩;refine xK 3 Z (kZ [1,4,8,9,10,11,12,13,14,15,16,17,18,19,20,21,22,23,24,25,26] Z ?_);refine gB (fun h3 => ?_) (fun h3 => ?_)
    ·
      try simp only [HS] at h3
      refine xK 9 Z (kZ [1,4,8,9,10,11,12,13,14,15,16,17,18,19,20,21,22,23,24,25,26,27,28,29,30,31,32,33,34,35,36] Z (xK 8 Z (nB (AW Z (sQ (kY [1,4,8,9,10,11,12,13,14,15,16,17,18,19,20,21,22,23,24,25,26,27,28,29,30,31,32,33,34,35,36,37,38,39,40,41,42,43,44] Z (rG (eZ Z (nB (rT (tR (bR (tR (AO (bR ?_)))))))))))))));refine tR (eR ?_)
      · first
        | (have hno : A2 (im.codes[k.toNat]'(by omega)) = false := (by rw [← OQ]; intro h; obtain ⟨a, b, d, e, f, g⟩ := AV h; first | omega | (have := g _ (N9 (l := (im.codes[k.toNat]'(by omega)).ins) (n := j.toNat) (by omega)); simp_all; done))
           exact BK (by rw [BP, FO hk0 (by omega) hno, Og]))
        | exact BK (by rw [BP, EE (by omega) hk2, Bool.and_true]; exact decide_eq_decide.2 (by omega))
    try simp only [HS] at h3
    refine xK 2 Z (gY Z (evE ?_));refine xK 3 Z ?_;refine gB (fun h4 => ?_) (fun h4 => ?_)
    ·
      try simp only [HS] at h4
      refine xK 3 Z (kZ [1,4,8,9,10,11,12,13,14,15,16,17,18,19,20,21,22,23,24,25,26,27,28,29,30,31,32,33,34,35,36] Z (xK 8 Z (nB (AW Z (sQ (kY [1,4,8,9,10,11,12,13,14,15,16,17,18,19,20,21,22,23,24,25,26,27,28,29,30,31,32,33,34,35,36,37,38,39,40,41,42,43,44] Z (rG (eZ Z (nB (rT (tR (bR (tR (AO (bR ?_)))))))))))))));refine tR (eR ?_)
      · first
        | (have hno : A2 (im.codes[k.toNat]'(by omega)) = false := (by rw [← OQ]; intro h; obtain ⟨a, b, d, e, f, g⟩ := AV h; first | omega | (have := g _ (N9 (l := (im.codes[k.toNat]'(by omega)).ins) (n := j.toNat) (by omega)); simp_all; done))
           exact BK (by rw [BP, FO hk0 (by omega) hno, Og]))
        | exact BK (by rw [BP, EE (by omega) hk2, Bool.and_true]; exact decide_eq_decide.2 (by omega))
    try simp only [HS] at h4
    refine xK 2 Z (gY Z (evE ?_));refine kZ [1,4,8,9,10,11,12,13,14,15,16,17,18,19,20,21,22,23,24,25,26,27,28,29,30,31,32,33,34,35] Z (gY Z (AJ ?_));refine ⟨_, Ar _ _ _, rfl, ?_⟩;refine xK 3 Z ?_;refine gB (fun h5 => ?_) (fun h5 => ?_)
    ·
      try simp only [HS] at h5
      refine xK 4 Z (nB (AW Z (sQ (kY [1,4,8,9,10,11,12,13,14,15,16,17,18,19,20,21,22,23,24,25,26,27,28,29,30,31,32,33,34,35,36,37,38,39,40,41,42,43,44] Z (rG (eZ Z (nB (rT (tR (bR (tR (AO (bR (tR (eR ?_)))))))))))))))
      · first
        | (have hno : A2 (im.codes[k.toNat]'(by omega)) = false := (by rw [← OQ]; intro h; obtain ⟨a, b, d, e, f, g⟩ := AV h; first | omega | (have := g _ (N9 (l := (im.codes[k.toNat]'(by omega)).ins) (n := j.toNat) (by omega)); simp_all; done))
           exact BK (by rw [BP, FO hk0 (by omega) hno, Og]))
        | exact BK (by rw [BP, EE (by omega) hk2, Bool.and_true]; exact decide_eq_decide.2 (by omega))
    try simp only [HS] at h5
    refine xK 2 Z (gY Z (evE ?_));refine xK 2 Z (kZ [1,4,8,9,10,11,12,13,14,15,16,17,18,19,20,21,22,23,24,25,26,27,28,29,30,31,32,33,34,35,36,37,38,39,40,41,42,43,44] Z (nB ?_));refine AC Z (fun h6 => ?_) (fun h6 => ?_)
    ·
      try simp only [HS] at h6
      refine sG (eZ Z (nB (rT (tR (bR (tR (AO (bR (tR (eR ?_))))))))))
      · first
        | (have hno : A2 (im.codes[k.toNat]'(by omega)) = false := (by rw [← OQ]; intro h; obtain ⟨a, b, d, e, f, g⟩ := AV h; first | omega | (have := g _ (N9 (l := (im.codes[k.toNat]'(by omega)).ins) (n := j.toNat) (by omega)); simp_all; done))
           exact BK (by rw [BP, FO hk0 (by omega) hno, Og]))
        | exact BK (by rw [BP, EE (by omega) hk2, Bool.and_true]; exact decide_eq_decide.2 (by omega))
    try simp only [HS] at h6
    refine AB (tN (sG (eK 2 Z (evE ?_))));refine eZ Z (nB (AD ?_));refine lK (α := Int) [1, 8, 9, 10, 46, 47] [1] (fun x => [(48, .t (.int x))]) (fun x => []) (fun x => 0 ≤ x ∧ x ≤ (im.codes[k.toNat]'(by omega)).ins.length ∧ ((im.codes[k.toNat]'(by omega)).ins.take x.toNat).all Ca = true) (fun x => Int.toNat ((im.codes[k.toNat]'(by omega)).ins.length - x)) 0 ?_ (fun j hx => ?_)
    · exact ⟨by omega, by omega, by simp⟩
    obtain ⟨hj0, hj1, hj2⟩ := hx
    refine nY Z (sG (eZ Z (nB (sQ ?_))));refine AC Z (fun h7 => ?_) (fun h7 => ?_)
    ·
      try simp only [HS] at h7
      refine AB (tN (sQ (AD (sG ?_))))
      first | refine Bi tys rfl rfl (AA rfl) rfl rfl rfl rfl rfl rfl rfl (by omega) _ (FW _ _ (by omega) (by omega)) ?_ | refine Gn tys rfl rfl (AA rfl) rfl rfl rfl rfl rfl rfl rfl rfl (by omega) (by omega) ?_
      first | (refine ev ?_; try refine AI (Le.freeze (u := 51) rfl) ?_) | refine CY tys rfl rfl (AA rfl) rfl rfl rfl rfl (FW _ _ (by omega) (by omega)) rfl ?_ | refine CY tys rfl rfl (AA rfl) rfl rfl rfl rfl (K1 _ _ (by omega) (by omega)) rfl ?_
      refine nZ Z (AR tys Z Z (AA Z) Z Z Z (nZ Z (sT Z (nZ Z (nA ?_)))))
      first | (refine ev ?_; try refine AI (Le.freeze (u := 52) rfl) ?_) | refine DJ tys rfl rfl (AA rfl) rfl rfl rfl rfl rfl rfl ?_
      refine nZ Z (AJ ?_);refine ⟨_, Ey _, rfl, ?_⟩;refine eZ Z (nB ?_);refine AC Z (fun h8 => ?_) (fun h8 => ?_)
      ·
        try simp only [HS] at h8
        refine sQ (kY [1,6,8,9,10,46,47,48,49,50,51,52,53,54] Z (rG (eZ Z (nB (rT (bR (tR (AO (bR (bR (tR (AO (bR (tR (eR ?_)))))))))))))))
        · first
          | (have hno : A2 (im.codes[k.toNat]'(by omega)) = false := (by rw [← OQ]; intro h; obtain ⟨a, b, d, e, f, g⟩ := AV h; first | omega | (have := g _ (N9 (l := (im.codes[k.toNat]'(by omega)).ins) (n := j.toNat) (by omega)); simp_all; done))
             exact BK (by rw [BP, FO hk0 (by omega) hno, Og]))
          | exact BK (by rw [BP, EE (by omega) hk2, Bool.and_true]; exact decide_eq_decide.2 (by omega))
      try simp only [HS] at h8
      refine AB (bN (tN (kY [1,6,8,9,10,46,47,48,49,50,51,52,53,54] Z (rG (evI ?_)))));refine eZ Z (oN ?_);refine lQ _ ?_ ?_
      · try dsimp only
        exact ⟨by omega, by omega, Mv hj0 (by omega) hj2 (by assumption)⟩
      · (show Int.toNat _ < Int.toNat _); omega
    try simp only [HS] at h7
    refine AU (tE (AP (AK (bN (tN (rG (evI ?_)))))));refine eZ Z (oN ?_);refine lQ _ ?_ ?_
    · try dsimp only
      refine ⟨by omega, by omega, Mv hk0 (by omega) hk2 ?_⟩
      have hall := EE (by omega) hj2
      unfold A2;rw [hall]
      simp_all <;> omega
    · (show Int.toNat _ < Int.toNat _); omega
  try simp only [HS] at h1
  refine AU (tE (AP (AK (tN (sG (eK 2 Z (evE ?_)))))));refine AJ ?_;refine ⟨_, Ar _ _ _, rfl, ?_⟩;refine eZ Z (nB (rT (eR ?_)))
  · first
    | (have hno : A2 (im.codes[k.toNat]'(by omega)) = false := (by rw [← OQ]; intro h; obtain ⟨a, b, d, e, f, g⟩ := AV h; first | omega | (have := g _ (N9 (l := (im.codes[k.toNat]'(by omega)).ins) (n := j.toNat) (by omega)); simp_all; done))
       exact BK (by rw [BP, FO hk0 (by omega) hno, Og]))
    | exact BK (by rw [BP, EE (by omega) hk2, Bool.and_true]; exact decide_eq_decide.2 (by omega))
theorem Jw (rows : List Row) (many : Int) (hl : rows.length ≤ 1048576) (hm : 0 ≤ many ∧ many ≤ 1048576) : Fun Tryz.prog 154 [.t (T.Rows rows), .t (.int many)] (Aq [.t (.bool (Eo rows many))]) := by
 refine Fun.begin tys Tryz.func154 Z Z (N := 42) [(0, .t (T.Rows rows)), (1, .t (.int many))] Z Z (fun w0 G F0 => ?_);refine sG (eZ Z (nA (eZ Z (nB (sQ (sG (eZ Z (evE ?_))))))));refine eZ Z (nB (AD ?_));refine lK (α := Int × Int) [0, 1, 8, 9] [] (fun x => [(10, .t (.int (x.1))), (5, .t (.int (x.2)))]) (fun x => []) (fun x => 0 ≤ (x.1) ∧ (x.1) ≤ rows.length ∧ Eo rows many = Az many (rows.drop (x.1).toNat) (x.2)) (fun x => Int.toNat (rows.length - (x.1))) (0, 0) ?_ (fun x hx => ?_)
 ·exact ⟨by omega, by omega, rfl⟩
 obtain ⟨k, e⟩ := x
 obtain ⟨hk0, hk1, hk2⟩ := hx
 try dsimp only at hk0 hk1 hk2 ⊢
 refine nY Z (sG (eZ Z (nB (sQ ?_))));refine AC Z (fun h1 => ?_) (fun h1 => ?_)
 ·
  try simp only [HS] at h1
  refine AB (tN (sQ (AD (sG ?_))))
  first | refine Bi tys rfl rfl (AA rfl) rfl rfl rfl rfl rfl rfl rfl (by omega) _ (FW _ _ (by omega) (by omega)) ?_ | refine Gn tys rfl rfl (AA rfl) rfl rfl rfl rfl rfl rfl rfl rfl (by omega) (by omega) ?_
  first | (refine ev ?_; try refine AI (Le.freeze (u := 13) rfl) ?_) | refine CY tys rfl rfl (AA rfl) rfl rfl rfl rfl (FW _ _ (by omega) (by omega)) rfl ?_ | refine CY tys rfl rfl (AA rfl) rfl rfl rfl rfl (K1 _ _ (by omega) (by omega)) rfl ?_
  refine nZ Z (AR tys Z Z (AA Z) Z Z Z (nZ Z (sT Z (nZ Z (nB (sQ (sG (eK 4 Z (kZ [0,1,5,7,8,9,10,11,12,13,14,15,16,17] Z (eZ Z ?_))))))))));refine gB (fun h2 => ?_) (fun h2 => ?_)
  ·
   try simp only [HS] at h2
   refine xK 8 Z (kZ [0,1,5,7,8,9,10,11,12,13,14,15,16,17,18,19,20,21,22,23,24,25,26,27] Z (xK 9 Z (kZ [0,1,5,7,8,9,10,11,12,13,14,15,16,17,18,19,20,21,22,23,24,25,26,27,28,29,30,31,32,33,34,35,36] Z (xK 2 Z (nB (AW Z (sG (eZ Z (nB (rT (tR (bR (tR (AO (bR ?_)))))))))))))));refine tR (eR ?_)
   ·first
    | exact BK (by rw [hk2, AQ (by omega)]; rfl)
    | exact BK (by rw [hk2, AX hk0 (by omega), Az]; simp_all <;> omega)
  try simp only [HS] at h2
  refine xK 7 Z ?_;refine gB (fun h3 => ?_) (fun h3 => ?_)
  ·
   try simp only [HS] at h3
   refine xZ Z (kZ [0,1,5,7,8,9,10,11,12,13,14,15,16,17,18,19,20,21,22,23,24,25,26,27] Z (xK 9 Z (kZ [0,1,5,7,8,9,10,11,12,13,14,15,16,17,18,19,20,21,22,23,24,25,26,27,28,29,30,31,32,33,34,35,36] Z (xK 2 Z (nB (AW Z (sG (eZ Z (nB (rT (tR (bR (tR (AO (bR ?_)))))))))))))));refine tR (eR ?_)
   ·first
    | exact BK (by rw [hk2, AQ (by omega)]; rfl)
    | exact BK (by rw [hk2, AX hk0 (by omega), Az]; simp_all <;> omega)
  try simp only [HS] at h3
  refine xK 2 Z (kZ [0,1,5,7,8,9,10,11,12,13,14,15,16,17,18,19,20,21,22,23,24,25,26,27] Z (xK 4 Z ?_));refine gB (fun h4 => ?_) (fun h4 => ?_)
  ·
   try simp only [HS] at h4
   refine xK 5 Z (kZ [0,1,5,7,8,9,10,11,12,13,14,15,16,17,18,19,20,21,22,23,24,25,26,27,28,29,30,31,32,33,34,35,36,37] Z (eZ Z (nB (AW Z (sG (eZ Z (nB (rT (tR (bR (tR (AO (bR (tR (eR ?_)))))))))))))))
   ·first
    | exact BK (by rw [hk2, AQ (by omega)]; rfl)
    | exact BK (by rw [hk2, AX hk0 (by omega), Az]; simp_all <;> omega)
  try simp only [HS] at h4
  refine xK 3 Z (gY Z (evI ?_));refine gY Z (AJ ?_);refine ⟨_, Ar _ _ _, rfl, ?_⟩;refine kZ [0,1,5,7,8,9,10,11,12,13,14,15,16,17,18,19,20,21,22,23,24,25,26,27,28,29,30,31,32,33,34,35,36] Z (xK 2 Z (nB ?_));refine AC Z (fun h5 => ?_) (fun h5 => ?_)
  ·
   try simp only [HS] at h5
   refine sG (eZ Z (nB (rT (tR (bR (tR (AO (bR (tR (eR ?_))))))))))
   ·first
    | exact BK (by rw [hk2, AQ (by omega)]; rfl)
    | exact BK (by rw [hk2, AX hk0 (by omega), Az]; simp_all <;> omega)
  try simp only [HS] at h5
  refine AB (tN (rG (eK 3 Z (oN (bN (tN (rG (evI ?_))))))));refine eZ Z (oN ?_);refine lQ (_, _) ?_ ?_
  ·try dsimp only
   refine ⟨by omega, by omega, ?_⟩;rw [hk2, AX hk0 (by omega), Az]
   simp_all <;> omega
  ·(show Int.toNat _ < Int.toNat _); omega
 try simp only [HS] at h1
 refine AU (tE (AP (AK (tN (sG (eZ Z (nB (rT (eR ?_)))))))))
 ·first
  | exact BK (by rw [hk2, AQ (by omega)]; rfl)
  | exact BK (by rw [hk2, AX hk0 (by omega), Az]; simp_all <;> omega)
open Go.Eng
theorem FD (op : Int) : Fun Tryz.prog 56 [.t (.int op)] (Aq [.t (.bool (Aw op))]) := by
 refine Fun.begin tys Tryz.func56 Z Z (N := 14) [(0, .t (.int op))] Z Z (fun w0 G F0 => ?_);refine sG (eZ Z (nB (sQ (sG (eZ Z (nB (AD (sQ (sG (eK 2 Z (nB ?_)))))))))));refine FQ (α := Bool) [2] [] (fun x => [(4, .t (.bool x))]) (fun x => []) (fun x => x = Aw op) ?_ (fun b hx => ?_)
 ·
  refine AC Z (fun h1 => ?_) (fun h1 => ?_)
  ·
   simp only [HS] at h1;refine AB (jQ _ ?_)
   grind [Aw]
  simp only [HS] at h1;refine sG (eK 2 Z (nB ?_));refine AC Z (fun h2 => ?_) (fun h2 => ?_)
  ·
   simp only [HS] at h2;refine AB (jQ _ ?_)
   grind [Aw]
  simp only [HS] at h2;refine sG (eK 2 Z (nB ?_));refine AC Z (fun h3 => ?_) (fun h3 => ?_)
  ·
   simp only [HS] at h3;refine AB (jQ _ ?_)
   grind [Aw]
  simp only [HS] at h3;refine sQ (kY [2,3,4] Z (rG (eK 2 Z (nB ?_))));refine AC Z (fun h4 => ?_) (fun h4 => ?_)
  ·
   simp only [HS] at h4;refine AB (jQ _ ?_)
   grind [Aw]
  simp only [HS] at h4;refine sG (eK 2 Z (nB ?_));refine AC Z (fun h5 => ?_) (fun h5 => ?_)
  ·
   simp only [HS] at h5;refine AB (jQ _ ?_)
   grind [Aw]
  simp only [HS] at h5;refine sG (eK 2 Z (nB ?_));refine AC Z (fun h6 => ?_) (fun h6 => ?_)
  ·
   simp only [HS] at h6;refine AB (jQ _ ?_)
   grind [Aw]
  simp only [HS] at h6;refine sG (eK 2 Z (nB ?_));refine AC Z (fun h7 => ?_) (fun h7 => ?_)
  ·
   simp only [HS] at h7;refine AB (jQ _ ?_)
   grind [Aw]
  simp only [HS] at h7;refine sQ (kY [2,3,4] Z (rG (eK 2 Z (nB ?_))));refine AC Z (fun h8 => ?_) (fun h8 => ?_)
  ·
   simp only [HS] at h8;refine AB (jQ _ ?_)
   grind [Aw]
  simp only [HS] at h8;refine rG (eK 2 Z (oN (jQ _ ?_)))
  grind [Aw]
 have hb := hx
 refine tN ?_;refine AC Z (fun h1 => ?_) (fun h1 => ?_)
 ·
  refine sQ (kY [2] Z (rG (eZ Z (nB (rT (bR (tR (eR ?_))))))))
  ·exact BK (by simp_all <;> omega)
 refine AB (bN (tN (sQ (kY [2] Z (rG (eZ Z (nB (rT (eR ?_)))))))))
 ·exact BK (by simp_all <;> omega)
theorem HT (i : Ins) : Fun Tryz.prog 96 [.t i.tt] (Aq [.t (.bool (Ca i))]) := by
 refine Fun.begin tys Tryz.func96 Z Z (N := 32) [(0, .t i.tt)] Z Z (fun w0 G F0 => ?_);refine sG (BD Z Z (AA Z) Z Z (nZ Z (eZ Z (nB (sQ (AD (sG (eK 2 Z (AJ ?_)))))))));refine ⟨_, BE _ _ _, rfl, ?_⟩;refine eK 2 Z (nB ?_);refine AC Z (fun h1 => ?_) (fun h1 => ?_)
 ·
  simp only [HS] at h1;refine sQ (kY [1,2] Z (rG (eZ Z (nB (rT (bR (tR (eR ?_))))))))
  ·exact BK (by grind [Ca, Aw])
 simp only [HS] at h1;refine sQ (kY [1,2] Z (rG (eK 4 Z (nB ?_))));refine AC Z (fun h2 => ?_) (fun h2 => ?_)
 ·
  simp only [HS] at h2;refine sG (eK 2 Z (AJ ?_));refine ⟨_, E3 _, rfl, ?_⟩;refine eZ Z (nB (rT (bR (tR (eR ?_)))))
  ·exact BK (by grind [Ca, Aw])
 simp only [HS] at h2;refine sG (eK 4 Z (nB ?_));refine AC Z (fun h3 => ?_) (fun h3 => ?_)
 ·
  simp only [HS] at h3;refine sQ (kY [1,2] Z (rG (eK 2 Z (AJ ?_))));refine ⟨_, Fa _, rfl, ?_⟩;refine eZ Z (nB (rT (bR (tR (eR ?_)))))
  ·exact BK (by grind [Ca, Aw])
 simp only [HS] at h3;refine sQ (kY [1,2] Z (rG (eK 2 Z (AJ ?_))));refine ⟨_, FD _, rfl, ?_⟩;refine eZ Z (nB ?_);refine AC Z (fun h4 => ?_) (fun h4 => ?_)
 ·
  refine sG (eK 2 Z (AJ ?_));refine ⟨_, BE _ _ _, rfl, ?_⟩;refine eZ Z (nB (rT (bR (tR (eR ?_)))))
  ·exact BK (by grind [Ca, Aw])
 refine AB (bN (tN (sG (eK 4 Z (nB (rT (eR ?_)))))))
 ·exact BK (by grind [Ca, Aw])
theorem EK (i : Ins) : Fun Tryz.prog 98 [.t i.tt] (Aq [.t (.bool (!Ca i))]) := by
 refine Fun.begin tys Tryz.func98 Z Z (N := 6) [(0, .t i.tt)] Z Z (fun w0 G F0 => ?_);refine sG (BD Z Z (AA Z) Z Z (nZ Z (eZ Z (nA (eZ Z ?_)))))
 try refine AI (Le.freeze (u := 3) rfl) ?_
 refine nZ Z (AJ ?_);refine ⟨_, HT _, rfl, ?_⟩;refine eK 2 Z (nB (rT (eR ?_)))
 ·rfl
theorem J2 (l : List Ins) (p : Ins → Bool) (f : Nat) (caps : List D) (hcaps : caps.all D.imm = true) (hl : l.length ≤ 9223372036854775807) (hf : ∀ x, x ∈ l → Fun Tryz.prog f (.t x.tt :: caps) (.t (.bool (p x)))) : Fun Tryz.prog 137 [.t (T.Inss l), .clo f caps] (Aq [.t (.int (EM p l 0))]) := by
 refine Fun.begin tys Tryz.func137 Z Z (N := 19) [(0, .t (T.Inss l)), (1, .clo f caps)] Z Z (fun w0 G F0 => ?_);refine sG (eZ Z (nB (sQ (sG (eZ Z (evE ?_))))));refine eZ Z (nB (AD ?_));refine lK (α := Int) [0, 1, 7] [] (fun x => [(8, .t (.int x))]) (fun x => []) (fun x => 0 ≤ x ∧ x ≤ l.length ∧ EM p l 0 = EM p (l.drop x.toNat) x) (fun x => Int.toNat (l.length - x)) 0 ?_ (fun k hx => ?_)
 ·exact ⟨by omega, by omega, rfl⟩
 obtain ⟨hk0, hk1, hk2⟩ := hx
 refine nY Z (sG (eZ Z (nB (sQ ?_))));refine AC Z (fun h1 => ?_) (fun h1 => ?_)
 ·
  simp only [HS] at h1;refine AB (tN (sQ (AD (sG (eK 2 Z (nA (C1 tys Z Z (AA Z) Z Z (by assumption) ?_)))))));refine eK 2 Z ?_;refine iY (k := ?_);refine eZ Z ?_
  try refine AI (Le.freeze (u := 15) rfl) ?_
  refine nZ Z ?_;refine Ba Z Z (AA Z) Z Z (by repeat (first | exact ResL.done | exact ResL.imms (by first | rfl | assumption) | refine ResL.t ?_ | refine ResL.own ?_ | refine ResL.slA Z (by first | rfl | (simp; done) | (simp; omega)) ?_ | refine ResL.sl Z (by first | omega | (simp; done) | (simp; omega)) ?_ | refine ResL.rp ?_ | refine ResL.clo ?_ ?_ | refine ResL.aggT ?_ ?_ | refine ResL.ref Z ?_ ?_ | refine ResL.nil' ?_ | refine ResL.nil 1 ?_)) (hf _ (N9 _)) Z ?_;refine kZ [0,1,5,7,8,9,10,11,12,13,14,15,16] Z (nB ?_);refine AC Z (fun h2 => ?_) (fun h2 => ?_)
  ·
   refine sG (eK 2 Z (nB (rT (bR (tR (AO (bR (tR (eR ?_)))))))))
   ·rw [hk2, I8 hk0 h1]
    simp [h2]
    done
  refine AB (bN (tN (rG (evI ?_))));refine eZ Z (oN ?_);refine lQ _ ?_ ?_
  ·skip
   refine ⟨by omega, by omega, ?_⟩; rw [hk2, I8 hk0 h1]; simp [h2]
  ·(show Int.toNat _ < Int.toNat _); omega
 simp only [HS] at h1;refine AU (tE (AP (AK (tN (sG (eZ Z (nB (rT (eR ?_)))))))))
 ·rw [hk2, AQ h1]
  rfl
theorem J3 (l : List Ins) (p : Ins → Bool) (f : Nat) (caps : List D) (hcaps : caps.all D.imm = true) (hl : l.length ≤ 9223372036854775807) (hf : ∀ x, x ∈ l → Fun Tryz.prog f (.t x.tt :: caps) (.t (.bool (p x)))) : Fun Tryz.prog 97 [.t (T.Inss l), .clo f caps] (Aq [.t (.bool (l.any p))]) := by
 refine Fun.begin tys Tryz.func97 Z Z (N := 9) [(0, .t (T.Inss l)), (1, .clo f caps)] Z Z (fun w0 G F0 => ?_);refine sG (eZ Z (nA (eZ Z (C1 tys Z Z (AA Z) Z Z (by assumption) ?_))));refine Ba Z Z (AA Z) Z Z (by repeat (first | exact ResL.done | exact ResL.imms (by first | rfl | assumption) | refine ResL.t ?_ | refine ResL.own ?_ | refine ResL.slA Z (by first | rfl | (simp; done) | (simp; omega)) ?_ | refine ResL.sl Z (by first | omega | (simp; done) | (simp; omega)) ?_ | refine ResL.rp ?_ | refine ResL.clo ?_ ?_ | refine ResL.aggT ?_ ?_ | refine ResL.ref Z ?_ ?_ | refine ResL.nil' ?_ | refine ResL.nil 1 ?_)) (J2 l p f caps hcaps hl hf) Z ?_;refine eK 2 Z (nB (rT (eR ?_)))
 ·rw [← E8 (OC 0)]
theorem MS {α : Type} {p : α → Bool} {l : List α} : (l.any fun n => !p n) = !l.all p := by rw [List.not_all_eq_any_not]
theorem Jk {c : Code} (h : (0 ≤ c.params ∧ c.params ≤ 2) ∧ (c.params ≤ c.vars ∧ c.vars ≤ 6) ∧ c.sites.length ≤ 4 ∧ (1 ≤ c.ins.length ∧ c.ins.length ≤ 300) ∧ c.rows.length ≤ 300) : A2 c = c.ins.all Ca := by
 unfold A2;rw [decide_eq_true h.1, decide_eq_true h.2.1, decide_eq_true h.2.2.1, decide_eq_true h.2.2.2.1, decide_eq_true h.2.2.2.2]
 simp
theorem E4 (c : Code) (hc : c.ok 1048576) : Fun Tryz.prog 49 [.t c.tt] (Aq [.t (.bool (A2 c))]) := by
 have hc1 : c.sites.length ≤ 1048576 := hc.1
 have hc2 : c.ins.length ≤ 1048576 := hc.2.1
 have hc3 : c.rows.length ≤ 1048576 := hc.2.2.1
 refine Fun.begin tys Tryz.func49 Z Z (N := 37) [(0, .t c.tt)] Z Z (fun w0 G F0 => ?_);refine sG (BD Z Z (AA Z) Z Z (nZ Z (eZ Z (nA (eK 2 Z (AJ ?_))))));refine ⟨_, BE _ _ _, rfl, ?_⟩;refine eZ Z ?_;refine gB (fun h1 => ?_) (fun h1 => ?_)
 ·
  simp only [HS] at h1;refine xK 3 Z (kZ [1,2,6,8,10] Z (xK 9 Z (kZ [1,2,19] Z (xK 9 Z (kZ [1,2,25,28] Z (xK 9 Z (kZ [2] Z (nB (rT (eR ?_))))))))))
  ·first
   | exact BK (by symm; rw [← OQ]; intro h; obtain ⟨a, b, d, e, f, g⟩ := AV h; omega)
 simp only [HS] at h1;refine xK 3 Z (kZ [1,2,6,8,9] Z (xZ Z (gY Z (AJ ?_))));refine ⟨_, BE _ _ _, rfl, ?_⟩;refine eK 2 Z ?_;refine gB (fun h2 => ?_) (fun h2 => ?_)
 ·
  simp only [HS] at h2;refine xK 5 Z (kZ [1,2,19] Z (xK 9 Z (kZ [1,2,25,28] Z (xK 9 Z (kZ [2] Z (nB (rT (eR ?_))))))))
  ·first
   | exact BK (by symm; rw [← OQ]; intro h; obtain ⟨a, b, d, e, f, g⟩ := AV h; omega)
 simp only [HS] at h2;refine xK 2 Z (gY Z (evE ?_));refine xK 2 Z (kZ [1,2,18] Z (eZ Z ?_));refine gB (fun h3 => ?_) (fun h3 => ?_)
 ·
  simp only [HS] at h3;refine xK 8 Z (kZ [1,2,25,28] Z (xK 9 Z (kZ [2] Z (nB (rT (eR ?_))))))
  ·first
   | exact BK (by symm; rw [← OQ]; intro h; obtain ⟨a, b, d, e, f, g⟩ := AV h; omega)
 simp only [HS] at h3;refine xK 2 Z (gY Z (evE ?_));refine gY Z (AJ ?_);refine ⟨_, BE _ _ _, rfl, ?_⟩;refine eK 2 Z ?_;refine gB (fun h4 => ?_) (fun h4 => ?_)
 ·
  simp only [HS] at h4;refine xK 2 Z (kZ [1,2,25,28] Z (xK 9 Z (kZ [2] Z (nB (rT (eR ?_))))))
  ·first
   | exact BK (by symm; rw [← OQ]; intro h; obtain ⟨a, b, d, e, f, g⟩ := AV h; omega)
 simp only [HS] at h4;refine xK 2 Z (kZ [1,2,25,27] Z (gY Z (evE ?_)));refine xK 3 Z ?_;refine gB (fun h5 => ?_) (fun h5 => ?_)
 ·
  simp only [HS] at h5;refine xK 5 Z (kZ [2] Z (nB (rT (eR ?_))))
  ·first
   | exact BK (by symm; rw [← OQ]; intro h; obtain ⟨a, b, d, e, f, g⟩ := AV h; omega)
 simp only [HS] at h5;refine xK 2 Z (gY Z (AJ ?_));refine ⟨_, J3 c.ins (fun i => !Ca i) _ [] Z (by omega) (fun i _ => EK i), rfl, ?_⟩;refine xK 2 Z (kZ [2,36] Z (eZ Z (nB (rT (eR ?_)))))
 ·first
  | exact BK (by rw [MS, Bool.not_not, Jk (by omega)])
theorem Ib (rows : List Row) (many : Int) (hl : rows.length ≤ 1048576) (hm : 0 ≤ many ∧ many ≤ 1048576) : Fun Tryz.prog 50 [.t (T.Rows rows), .t (.int many)] (Aq [.t (.bool (Eo rows many))]) := by
 refine Fun.begin tys Tryz.func50 Z Z (N := 42) [(0, .t (T.Rows rows)), (1, .t (.int many))] Z Z (fun w0 G F0 => ?_);refine sG (eZ Z (nA (eZ Z (nB (sQ (sG (eZ Z (evE ?_))))))));refine eZ Z (nB (AD ?_));refine lK (α := Int × Int) [0, 1, 8, 9] [] (fun x => [(10, .t (.int (x.1))), (5, .t (.int (x.2)))]) (fun x => []) (fun x => 0 ≤ (x.1) ∧ (x.1) ≤ rows.length ∧ Eo rows many = Az many (rows.drop (x.1).toNat) (x.2)) (fun x => Int.toNat (rows.length - (x.1))) (0, 0) ?_ (fun x hx => ?_)
 ·exact ⟨by omega, by omega, rfl⟩
 obtain ⟨k, e⟩ := x
 obtain ⟨hk0, hk1, hk2⟩ := hx
 dsimp only at hk0 hk1 hk2 ⊢;refine nY Z (sG (eZ Z (nB (sQ ?_))));refine AC Z (fun h1 => ?_) (fun h1 => ?_)
 ·
  simp only [HS] at h1;refine AB (tN (sQ (AD (sG ?_))));refine iY (k := ?_);refine eZ Z ?_
  try refine AI (Le.freeze (u := 13) rfl) ?_
  refine nZ Z (AR tys Z Z (AA Z) Z Z Z (nZ Z (sT Z (nZ Z (nB (sQ (sG (eK 4 Z (kZ [0,1,5,7,8,9,10,11,12,13,14,15,16,17] Z (eZ Z ?_))))))))));refine gB (fun h2 => ?_) (fun h2 => ?_)
  ·
   simp only [HS] at h2;refine xK 8 Z (kZ [0,1,5,7,8,9,10,11,12,13,14,15,16,17,18,19,20,21,22,23,24,25,26,27] Z (xK 9 Z (kZ [0,1,5,7,8,9,10,11,12,13,14,15,16,17,18,19,20,21,22,23,24,25,26,27,28,29,30,31,32,33,34,35,36] Z (xK 2 Z (nB (AW Z (sG (eZ Z (nB (rT (tR (bR (tR (AO (bR ?_)))))))))))))));refine tR (eR ?_)
   ·first
    | exact BK (by rw [hk2, AX hk0 (by omega), Az]; simp_all <;> omega)
  simp only [HS] at h2;refine xK 7 Z ?_;refine gB (fun h3 => ?_) (fun h3 => ?_)
  ·
   simp only [HS] at h3;refine xZ Z (kZ [0,1,5,7,8,9,10,11,12,13,14,15,16,17,18,19,20,21,22,23,24,25,26,27] Z (xK 9 Z (kZ [0,1,5,7,8,9,10,11,12,13,14,15,16,17,18,19,20,21,22,23,24,25,26,27,28,29,30,31,32,33,34,35,36] Z (xK 2 Z (nB (AW Z (sG (eZ Z (nB (rT (tR (bR (tR (AO (bR ?_)))))))))))))));refine tR (eR ?_)
   ·first
    | exact BK (by rw [hk2, AX hk0 (by omega), Az]; simp_all <;> omega)
  simp only [HS] at h3;refine xK 2 Z (kZ [0,1,5,7,8,9,10,11,12,13,14,15,16,17,18,19,20,21,22,23,24,25,26,27] Z (xK 4 Z ?_));refine gB (fun h4 => ?_) (fun h4 => ?_)
  ·
   simp only [HS] at h4;refine xK 5 Z (kZ [0,1,5,7,8,9,10,11,12,13,14,15,16,17,18,19,20,21,22,23,24,25,26,27,28,29,30,31,32,33,34,35,36,37] Z (eZ Z (nB (AW Z (sG (eZ Z (nB (rT (tR (bR (tR (AO (bR (tR (eR ?_)))))))))))))))
   ·first
    | exact BK (by rw [hk2, AX hk0 (by omega), Az]; simp_all <;> omega)
  simp only [HS] at h4;refine xK 3 Z (gY Z (evI ?_));refine gY Z (AJ ?_);refine ⟨_, BE _ _ _, rfl, ?_⟩;refine kZ [0,1,5,7,8,9,10,11,12,13,14,15,16,17,18,19,20,21,22,23,24,25,26,27,28,29,30,31,32,33,34,35,36] Z (xK 2 Z (nB ?_));refine AC Z (fun h5 => ?_) (fun h5 => ?_)
  ·
   simp only [HS] at h5;refine sG (eZ Z (nB (rT (tR (bR (tR (AO (bR (tR (eR ?_))))))))))
   ·first
    | exact BK (by rw [hk2, AX hk0 (by omega), Az]; simp_all <;> omega)
  simp only [HS] at h5;refine AB (tN (rG (eK 3 Z (oN (bN (tN (rG (evI ?_))))))));refine eZ Z (oN ?_);refine lQ (_, _) ?_ ?_
  ·dsimp only
   refine ⟨by omega, by omega, ?_⟩;rw [hk2, AX hk0 (by omega), Az]
   simp_all <;> omega
  ·(show Int.toNat _ < Int.toNat _); omega
 simp only [HS] at h1;refine AU (tE (AP (AK (tN (sG (eZ Z (nB (rT (eR ?_)))))))))
 ·first
  | exact BK (by rw [hk2, AQ (by omega)]; rfl)
open Go.Eng
abbrev Tx := List UInt8
def T.strs (l : List Tx) : T := .list 1 (l.map T.str)
def AH (c : UInt8) : Tx → Tx → List Tx
 | pre, [] => [pre]
 | pre, x :: l => if x = c then pre :: AH c [] l else AH c (pre ++ [x]) l
theorem byteI {a b : UInt8} : ((a.toNat : Int) = (b.toNat : Int)) ↔ a = b :=
 ⟨fun h => UInt8.toNat_inj.1 (by omega), fun h => by rw [h]⟩
theorem Gz {c : UInt8} {s : Tx} {f i : Int} (h0 : 0 ≤ f) (h1 : f ≤ i) (h2 : i < s.length) :
  AH c ((s.drop f.toNat).take (i.toNat - f.toNat)) (s.drop i.toNat) = if (s[i.toNat]'(by omega)) = c then ((s.drop f.toNat).take (i.toNat - f.toNat)) :: AH c ((s.drop (i + 1).toNat).take ((i + 1).toNat - (i + 1).toNat)) (s.drop (i + 1).toNat)
   else AH c ((s.drop f.toNat).take ((i + 1).toNat - f.toNat)) (s.drop (i + 1).toNat) := by
 have e1 : (i + 1).toNat = i.toNat + 1 := by omega
 have e2 : s.drop i.toNat = (s[i.toNat]'(by omega)) :: s.drop (i + 1).toNat := by rw [e1]; exact List.drop_eq_getElem_cons (by omega)
 rw [e2, AH, Nat.sub_self, List.take_zero];split
 ·rfl
 ·congr 1
  have e3 : (i + 1).toNat - f.toNat = (i.toNat - f.toNat) + 1 := by omega
  rw [e3, List.take_add_one, List.getElem?_drop]
  have e4 : f.toNat + (i.toNat - f.toNat) = i.toNat := by omega
  rw [e4, List.getElem?_eq_getElem (by omega)];rfl
theorem Ji {c : UInt8} {s : Tx} {f i : Int} (h2 : ¬ i < s.length) (hi : i ≤ s.length) :
  AH c ((s.drop f.toNat).take (i.toNat - f.toNat)) (s.drop i.toNat) = [s.drop f.toNat] := by
 rw [List.drop_eq_nil_of_le (show s.length ≤ i.toNat by omega), AH, Nw (by rw [OT]; omega)]
def FX : Tx → Int → Int
 | [], n => n
 | b :: l, n => if b.toNat < 48 ∨ 57 < b.toNat then -1 else FX l (10 * n + (b.toNat - 48))
def Fe (s : Tx) : Int := if s.length = 0 ∨ 10 < s.length ∨ (s.head? = some 48 ∧ 1 < s.length) then -1 else FX s 0
theorem digEx : ∃ f : Tx → Int, ∀ s, f s = Fe s := ⟨Fe, fun _ => rfl⟩
noncomputable def digS (s : Tx) : Int := Classical.choose digEx s
theorem DH (s : Tx) : digS s = Fe s := Classical.choose_spec digEx s
theorem LD {s : Tx} {i n : Int} (h0 : 0 ≤ i) (h1 : i < s.length) : FX (s.drop i.toNat) n = if (s[i.toNat]'(by omega)).toNat < 48 ∨ 57 < (s[i.toNat]'(by omega)).toNat then -1 else FX (s.drop (i + 1).toNat) (10 * n + ((s[i.toNat]'(by omega)).toNat - 48)) := by
 have e1 : (i + 1).toNat = i.toNat + 1 := by omega
 have e2 : s.drop i.toNat = (s[i.toNat]'(by omega)) :: s.drop (i + 1).toNat := by rw [e1]; exact List.drop_eq_getElem_cons (by omega)
 rw [e2, FX]
theorem digB {i n d : Int} (h0 : 0 ≤ i) (h : n < 10 ^ i.toNat) (hd : d ≤ 9) : 10 * n + d < 10 ^ (i + 1).toNat := by
 have e1 : (i + 1).toNat = i.toNat + 1 := by omega
 rw [e1, Int.pow_succ]; omega
theorem GH {i : Int} (h : i ≤ 10) : (10 : Int) ^ i.toNat ≤ 10000000000 := by
 have h2 : i.toNat ≤ 10 := by omega
 generalize i.toNat = k at h2
 match k, h2 with
 | 0, _ | 1, _ | 2, _ | 3, _ | 4, _ | 5, _ | 6, _ | 7, _ | 8, _ | 9, _ | 10, _ => decide
 | k + 11, h => omega
theorem Nd {a b : UInt8} (h : b.toNat ≤ a.toNat) {P : Program} : Bj P .sub (.int .u8 (a.toNat : Int)) (.int .u8 (b.toNat : Int)) (.int .u8 ((a.toNat : Int) - b.toNat)) := fun ty ox oy w => by
 have h1 := a.toNat_lt
 have h2 : IntKind.u8.wrap ((a.toNat : Int) - b.toNat) = (a.toNat : Int) - b.toNat := by
  have h3 : ((a.toNat : Int) - b.toNat) % 256 = (a.toNat : Int) - b.toNat := by omega
  simp [IntKind.wrap, IntKind.bits, IntKind.signed, h3]
 simp only [eqGuard, binOp, Op.intArith]
 simp [h2]
theorem JU {a : UInt8} (h : 48 ≤ (a.toNat : Int)) {P : Program} : Bj P .sub (.int .u8 (a.toNat : Int)) (.int .u8 48) (.int .u8 ((a.toNat : Int) - 48)) := by
 have h1 : (48 : UInt8).toNat = 48 := rfl
 have := Nd (P := P) (a := a) (b := 48) (by rw [h1]; omega)
 rw [h1] at this;exact this
theorem MN {s : Tx} (h : (s.length : Int) = 0) : digS s = -1 := by
 rw [DH]; unfold Fe; rw [if_pos (.inl (by omega))]
theorem LB {s : Tx} (h : (10 : Int) < s.length) : digS s = -1 := by
 rw [DH]; unfold Fe; rw [if_pos (.inr (.inl (by omega)))]
theorem I0 {s : Tx} (h : ¬ (s.length : Int) = 0) : s.head? = some 48 ↔ (((s[(0 : Int).toNat]'(by show 0 < s.length; omega)).toNat : Int) = 48) := by
 cases s with
 | nil => exact absurd rfl h
 | cons x l =>
  show some x = some 48 ↔ ((x.toNat : Int) = ((48 : UInt8).toNat : Int));rw [byteI]
  simp
theorem digS_z {s : Tx} (h : ¬ (s.length : Int) = 0) (h1 : ((s[(0 : Int).toNat]'(by show 0 < s.length; omega)).toNat : Int) = 48) (h2 : (1 : Int) < s.length) : digS s = -1 := by
 rw [DH]; unfold Fe; rw [if_pos (.inr (.inr ⟨(I0 h).2 h1, by omega⟩))]
theorem D4 {s : Tx} (h : ¬ (s.length : Int) = 0) (h1 : ¬ (10 : Int) < s.length) (h2 : ¬ (((s[(0 : Int).toNat]'(by show 0 < s.length; omega)).toNat : Int) = 48 ∧ (1 : Int) < s.length)) : digS s = FX s 0 := by
 rw [DH]; unfold Fe; rw [if_neg]
 rintro (h3 | h3 | ⟨h3, h4⟩)
 ·omega
 ·omega
 ·exact h2 ⟨(I0 h).1 h3, by omega⟩
theorem LC : ∀ (l : Tx) (n : Int) (k : Nat), 0 ≤ n → n < 10 ^ k → l.length + k ≤ 10 → -1 ≤ FX l n ∧ FX l n < 10000000000
 | [], n, k, h0, h1, h2 => by
  have := GH (i := (k : Int)) (by simp at h2; omega)
  rw [Int.toNat_natCast] at this;simp only [FX]; omega
 | b :: l, n, k, h0, h1, h2 => by
  rw [FX];split
  ·omega
  ·refine LC l _ (k + 1) (by omega) ?_ (by simp at h2; omega)
   rw [Int.pow_succ]; omega
theorem NY (s : Tx) : -1 ≤ digS s ∧ digS s < 10000000000 := by
 rw [DH]; unfold Fe;split
 ·omega
 ·rename_i h
  exact LC s 0 0 (by omega) (by decide) (by omega)
theorem Gd {s : Tx} {i n : Int} (h0 : 0 ≤ i) (h1 : i < s.length) (h : ((s[i.toNat]'(by omega)).toNat : Int) < 48 ∨ 57 < ((s[i.toNat]'(by omega)).toNat : Int)) : FX (s.drop i.toNat) n = -1 := by
 rw [LD h0 h1, if_pos (by omega)]
theorem JL {s : Tx} {i n : Int} (h0 : 0 ≤ i) (h1 : i < s.length) (h : ¬ ((s[i.toNat]'(by omega)).toNat : Int) < 48) (h' : ¬ 57 < ((s[i.toNat]'(by omega)).toNat : Int)) : FX (s.drop i.toNat) n = FX (s.drop (i + 1).toNat) (10 * n + (((s[i.toNat]'(by omega)).toNat : Int) - 48)) := by
 rw [LD h0 h1, if_neg (by omega)]
theorem JN {s : Tx} {i n : Int} (h1 : (s.length : Int) ≤ i) : FX (s.drop i.toNat) n = n := by
 rw [List.drop_of_length_le (by omega)]; rfl
open Go.Eng
theorem CV (s : Tx) (c : UInt8) (hs : s.length ≤ 1048576) : Fun Tryz.prog 15 [.t (T.str s), .t (T.byte c)] (Aq [.own (T.strs (AH c [] s))]) := by
 refine Fun.begin tys Tryz.func15 Z Z (N := 34) [(0, .t (T.str s)), (1, .t (T.byte c))] Z Z (fun w0 G F0 => ?_);refine sG (eZ Z (nA (eZ Z (AI (Le.nilOwn (u := 5) 1 Z) (AI (Le.adoptE (u := 5) 5 Z Z) (nZ Z (nA (eZ Z (nB (sQ (sG (eZ Z (nB (AD ?_))))))))))))));refine lK (α := Int × Int × Nat × List T) [0, 1] [] (fun x => [(6, .t (.int (x.2.1))), (7, .t (.int (x.1))), (5, .sl 5 0 (x.2.2.1))]) (fun x => [(5, .L 1 (x.2.2.2))]) (fun x => 0 ≤ (x.2.1) ∧ (x.2.1) ≤ (x.1) ∧ (x.1) ≤ s.length ∧ (x.2.2.1) = (x.2.2.2).length ∧ (x.2.2.2).length ≤ (x.1) ∧ ∃ done : List Tx, (x.2.2.2) = done.map T.str ∧ AH c [] s = done ++ AH c ((s.drop (x.2.1).toNat).take ((x.1).toNat - (x.2.1).toNat)) (s.drop (x.1).toNat)) (fun x => Int.toNat (s.length - (x.1))) (0, 0, 0, []) ?_ (fun x hx => ?_)
 ·exact ⟨OC 0, OC 0, Int.natCast_nonneg _, rfl, OC 0, [], rfl, rfl⟩
 obtain ⟨i, f, m, xs⟩ := x
 obtain ⟨hf0, hfi, hi1, hm, hx, done, hd, he⟩ := hx
 dsimp only at hf0 hfi hi1 hm hx hd he ⊢;refine nY Z (sQ (sG (eK 2 Z (A5 Z Z (AA Z) Z (by kernel_rfl) Z (eZ Z (nB ?_))))));refine AC Z (fun h1 => ?_) (fun h1 => ?_)
 ·
  simp only [HS] at h1;refine AB (tN (sQ (AD (sG (eK 2 Z (BH Z Z (AA Z) Z (by kernel_rfl) Z Z (by omega) (by omega) (eZ Z (AG Z Z (AA Z) Z Z Z FN Z (kZ [0,1,5,6,7,8,9,10,11,14,15,16,17,18] Z (nB ?_))))))))));refine AC Z (fun h2 => ?_) (fun h2 => ?_)
  ·
   simp only [HS] at h2;refine sG (eK 4 Z (BZ Z Z (AA Z) Z (by kernel_rfl) Z Z Z (by omega) (by omega) (by omega) (bZ [T.str ((s.drop f.toNat).take (i.toNat - f.toNat))] ?_)));refine nZ Z (Ac tys Z Z (AA Z) Z Z Z Z Z (.own Z (by first | omega | (simp only [Nu]; omega))) Z (.own Z (by first | decide | omega)) (by decide) (by simp only [OO, Nx, N4]; omega) (by decide) Z ?_);refine nZ Z (eZ Z (nB (kY [0,1,5,6,7,8,9,10,11,14,15,16,17,18,19,20,21,22,23,24,25] Z (rG (eZ Z (evI ?_))))));refine eZ Z (oN (bN (tN (rG (eZ Z (evI ?_))))));refine eZ Z (oN ?_);refine lQ (_, _, _, _) ?_ ?_
   ·dsimp only
    rw [Gz hf0 hfi h1] at he;subst hm
    first
    | (refine ⟨by omega, by omega, by omega, by simp, by simp; omega, done ++ [(s.drop f.toNat).take (i.toNat - f.toNat)], by rw [OH, hd]; simp, ?_⟩; rw [he, if_pos (byteI.1 (by assumption))]; simp; done)
   ·(show Int.toNat _ < Int.toNat _); omega
  simp only [HS] at h2;refine AB (bN (tN (rG (eZ Z (evI ?_)))));refine eZ Z (oN ?_);refine lQ (_, _, _, _) ?_ ?_
  ·dsimp only
   rw [Gz hf0 hfi h1] at he;subst hm
   first
   | (refine ⟨by omega, by omega, by omega, rfl, by omega, done, hd, ?_⟩; rw [he, if_neg (mt byteI.2 (by assumption))]; done)
  ·(show Int.toNat _ < Int.toNat _); omega
 simp only [HS] at h1;refine AU (tE (AP (AK (tN (sG (eK 3 Z (BZ Z Z (AA Z) Z (by kernel_rfl) Z Z Z (by omega) (by omega) (by omega) (bZ [T.str ((s.drop f.toNat).take ((s.length : Int).toNat - f.toNat))] ?_))))))));refine nZ Z (kZ [28,32] Z (Ac tys Z Z (AA Z) Z Z Z Z Z (.own Z (by first | omega | (simp only [Nu]; omega))) Z (.own Z (by first | decide | omega)) (by decide) (by simp only [OO, Nx, N4]; omega) (by decide) Z ?_));refine nZ Z (eZ Z (nB (Ay (Le.gather (u := 4) (id := 5) Z Z (by first | (simp; done) | (simp; omega) | omega)) ?_)));refine rT (eR ?_)
 ·(rw [he, Ji (by omega) hi1, hm, hd, Nw (show (s.drop f.toNat).length ≤ (s.length : Int).toNat - f.toNat by rw [OT]; omega)]; simp only [T.strs]; simp [Nw])
def wordsL : List Tx := [[], [110, 117, 109], [118, 97, 114], [115, 101, 116], [114, 101, 99, 107, 111, 110], [105, 110, 112, 117, 116], [114, 101, 99, 111, 118, 101, 114], [99, 97, 108, 108], [112, 114, 105, 110, 116], [100, 114, 111, 112], [106, 117, 109, 112], [117, 110, 108, 101, 115, 115], [112, 117, 116], [112, 97, 110, 105, 99], [101, 120, 105, 116], [114, 101, 115, 117, 108, 116], [108, 101, 97, 118, 101], [111, 102, 102], [101, 110, 100]]
def wordsT : List Tx := [[], [], [], [43], [45], [42], [47], [60], [61], [105, 110], [114, 101, 99]]
theorem DG  : Fun Tryz.prog 80 [] (Aq [.own (T.strs wordsL)]) := by
 refine Fun.begin tys Tryz.func80 Z Z (N := 2) [] Z Z (fun w0 G F0 => ?_);refine sG (eZ Z (nA (bZ [T.str [], T.str [110, 117, 109], T.str [118, 97, 114], T.str [115, 101, 116], T.str [114, 101, 99, 107, 111, 110], T.str [105, 110, 112, 117, 116], T.str [114, 101, 99, 111, 118, 101, 114], T.str [99, 97, 108, 108], T.str [112, 114, 105, 110, 116], T.str [100, 114, 111, 112], T.str [106, 117, 109, 112], T.str [117, 110, 108, 101, 115, 115], T.str [112, 117, 116], T.str [112, 97, 110, 105, 99], T.str [101, 120, 105, 116], T.str [114, 101, 115, 117, 108, 116], T.str [108, 101, 97, 118, 101], T.str [111, 102, 102], T.str [101, 110, 100]] ?_)));refine nZ Z (eZ Z (nB (Ay (Le.gather (u := 0) (id := 1) Z Z (by decide)) (rT (eR ?_)))))
 ·rfl
theorem IB  : Fun Tryz.prog 152 [] (Aq [.own (T.strs wordsT)]) := by
 refine Fun.begin tys Tryz.func152 Z Z (N := 2) [] Z Z (fun w0 G F0 => ?_);refine sG (eZ Z (nA (bZ [T.str [], T.str [], T.str [], T.str [43], T.str [45], T.str [42], T.str [47], T.str [60], T.str [61], T.str [105, 110], T.str [114, 101, 99]] ?_)));refine nZ Z (eZ Z (nB (Ay (Le.gather (u := 0) (id := 1) Z Z (by decide)) (rT (eR ?_)))))
 ·rfl
theorem Bc (s : Tx) (hs : s.length ≤ 1048576) : Fun Tryz.prog 41 [.t (T.str s)] (Aq [.t (.int (digS s))]) := by
 refine Fun.begin tys Tryz.func41 Z Z (N := 48) [(0, .t (T.str s))] Z Z (fun w0 G F0 => ?_);refine sG (eZ Z (nB (sQ (sG (eZ Z (A5 Z Z (AA Z) Z (by kernel_rfl) Z (eK 2 Z ?_)))))));refine gB (fun h1 => ?_) (fun h1 => ?_)
 ·
  simp only [HS] at h1;refine xK 4 Z (kZ [0,2,13] Z (xK 9 Z (kZ [0,2,22] Z (nB (AW Z (sG (eZ Z (nB (rT (tR (eR ?_)))))))))))
  ·first
   | exact retI (MN (by omega)).symm
 simp only [HS] at h1;refine eZ Z (gY Z (A5 Z Z (AA Z) Z (by kernel_rfl) Z (xK 2 Z (kZ [0,2,12] Z (eZ Z ?_)))));refine gB (fun h2 => ?_) (fun h2 => ?_)
 ·
  simp only [HS] at h2;refine xK 8 Z (kZ [0,2,22] Z (nB (AW Z (sG (eZ Z (nB (rT (tR (eR ?_)))))))))
  ·first
   | exact retI (LB (by omega)).symm
 simp only [HS] at h2;refine eZ Z (gY Z (BH Z Z (AA Z) Z (by kernel_rfl) Z Z (by omega) (by omega) (gY Z (AG Z Z (AA Z) Z Z Z FN Z (xZ Z ?_)))));refine gB (fun h3 => ?_) (fun h3 => ?_)
 ·
  simp only [HS] at h3;refine xK 4 Z (kZ [0,2,22] Z (nB (Ax Z (AB (tN (sG (eZ Z (nB (sQ (sG (eZ Z (nB (AD ?_)))))))))))));refine lK (α := Int × Int) [0] [] (fun x => [(4, .t (.int (x.1))), (3, .t (.int (x.2)))]) (fun x => []) (fun x => 0 ≤ (x.1) ∧ (x.1) ≤ s.length ∧ 0 ≤ (x.2) ∧ (x.2) ≤ 10000000000 ∧ (x.2) < 10 ^ (x.1).toNat ∧ FX s 0 = FX (s.drop (x.1).toNat) (x.2)) (fun x => Int.toNat (s.length - (x.1))) (0, 0) ?_ (fun x hx => ?_)
  ·exact ⟨OC 0, Int.natCast_nonneg _, OC 0, by decide, by decide, rfl⟩
  obtain ⟨i, n⟩ := x
  obtain ⟨hi0, hi1, hn0, hn2, hn1, he⟩ := hx
  dsimp only at hi0 hi1 hn0 hn2 hn1 he ⊢;refine nY Z (sQ (sG (eK 2 Z (A5 Z Z (AA Z) Z (by kernel_rfl) Z (eZ Z (nB ?_))))));refine AC Z (fun h4 => ?_) (fun h4 => ?_)
  ·
   simp only [HS] at h4;refine AB (tN (sQ (AD (sQ (sG (eK 2 Z (BH Z Z (AA Z) Z (by kernel_rfl) Z Z (by omega) (by omega) (AG Z Z (AA Z) Z Z Z IX Z (eZ Z (kZ [0,3,4,23,24,25,26,29,30,31,32,33] Z ?_))))))))));refine gB (fun h5 => ?_) (fun h5 => ?_)
   ·
    simp only [HS] at h5;refine xK 4 Z (nB (AW Z (sG (eZ Z (nB (rT (tR (bR (tR (AO (bR (tR (eR ?_)))))))))))))
    ·first
     | exact retI ((D4 (by omega) (by omega) (by omega)).trans (he.trans (Gd hi0 (by omega) (by omega)))).symm
   simp only [HS] at h5;refine xK 2 Z (gY Z (BH Z Z (AA Z) Z (by kernel_rfl) Z Z (by omega) (by omega) (gY Z (AG Z Z (AA Z) Z Z Z IY Z (eZ Z (nB ?_))))));refine AC Z (fun h6 => ?_) (fun h6 => ?_)
   ·
    simp only [HS] at h6;refine sG (eZ Z (nB (rT (tR (bR (tR (AO (bR (tR (eR ?_))))))))))
    ·first
     | exact retI ((D4 (by omega) (by omega) (by omega)).trans (he.trans (Gd hi0 (by omega) (by omega)))).symm
   simp only [HS] at h6;refine AB (tN (rG (eZ Z (evI ?_))));refine eK 2 Z (kZ [0,3,4,23,24,25,26,29,30,31,32,33,34,35,36,37,38,39,40,41,42] Z (BH Z Z (AA Z) Z (by kernel_rfl) Z Z (by omega) (by omega) (AG Z Z (AA Z) Z Z Z (JU (by omega)) Z (AZ (td := .int .u8) (k := .i64) Z Z (AA Z) Z (by kernel_rfl) (by kernel_rfl) Z (C8 (by omega) (by omega)) (evI ?_)))));refine eZ Z (oN (bN (tN (rG (eZ Z (evI ?_))))));refine eZ Z (oN ?_);refine lQ (_, _) ?_ ?_
   ·dsimp only
    have q := digB hi0 hn1 (show ((s[i.toNat]'(by omega)).toNat : Int) - 48 ≤ 9 by omega)
    have q2 := GH (i := i + 1) (by omega)
    exact ⟨by omega, by omega, by omega, Int.le_of_lt (Int.lt_of_lt_of_le q q2), q, he.trans (JL hi0 (by omega) (by omega) (by omega))⟩
   ·(show Int.toNat _ < Int.toNat _); omega
  simp only [HS] at h4;refine AU (tE (AP (AK (tN (sG (eK 2 Z (nB (rT (eR ?_)))))))))
  ·first
   | exact retI ((D4 (by omega) (by omega) (by omega)).trans (he.trans (JN (by omega)))).symm
 simp only [HS] at h3;refine eZ Z (gY Z (A5 Z Z (AA Z) Z (by kernel_rfl) Z (xK 2 Z (kZ [0,2,13,21] Z (eZ Z (nB ?_))))));refine AC Z (fun h4 => ?_) (fun h4 => ?_)
 ·
  simp only [HS] at h4;refine sG (eZ Z (nB (rT (tR (eR ?_)))))
  ·first
   | exact retI (digS_z (by omega) (by omega) (by omega)).symm
 simp only [HS] at h4;refine AB (tN (sG (eZ Z (nB (sQ (sG (eZ Z (nB (AD ?_)))))))));refine lK (α := Int × Int) [0] [] (fun x => [(4, .t (.int (x.1))), (3, .t (.int (x.2)))]) (fun x => []) (fun x => 0 ≤ (x.1) ∧ (x.1) ≤ s.length ∧ 0 ≤ (x.2) ∧ (x.2) ≤ 10000000000 ∧ (x.2) < 10 ^ (x.1).toNat ∧ FX s 0 = FX (s.drop (x.1).toNat) (x.2)) (fun x => Int.toNat (s.length - (x.1))) (0, 0) ?_ (fun x hx => ?_)
 ·exact ⟨OC 0, Int.natCast_nonneg _, OC 0, by decide, by decide, rfl⟩
 obtain ⟨i, n⟩ := x
 obtain ⟨hi0, hi1, hn0, hn2, hn1, he⟩ := hx
 dsimp only at hi0 hi1 hn0 hn2 hn1 he ⊢;refine nY Z (sQ (sG (eK 2 Z (A5 Z Z (AA Z) Z (by kernel_rfl) Z (eZ Z (nB ?_))))));refine AC Z (fun h5 => ?_) (fun h5 => ?_)
 ·
  simp only [HS] at h5;refine AB (tN (sQ (AD (sQ (sG (eK 2 Z (BH Z Z (AA Z) Z (by kernel_rfl) Z Z (by omega) (by omega) (AG Z Z (AA Z) Z Z Z IX Z (eZ Z (kZ [0,3,4,23,24,25,26,29,30,31,32,33] Z ?_))))))))));refine gB (fun h6 => ?_) (fun h6 => ?_)
  ·
   simp only [HS] at h6;refine xK 4 Z (nB (AW Z (sG (eZ Z (nB (rT (tR (bR (tR (AO (bR (tR (eR ?_)))))))))))))
   ·first
    | exact retI ((D4 (by omega) (by omega) (by omega)).trans (he.trans (Gd hi0 (by omega) (by omega)))).symm
  simp only [HS] at h6;refine xK 2 Z (gY Z (BH Z Z (AA Z) Z (by kernel_rfl) Z Z (by omega) (by omega) (gY Z (AG Z Z (AA Z) Z Z Z IY Z (eZ Z (nB ?_))))));refine AC Z (fun h7 => ?_) (fun h7 => ?_)
  ·
   simp only [HS] at h7;refine sG (eZ Z (nB (rT (tR (bR (tR (AO (bR (tR (eR ?_))))))))))
   ·first
    | exact retI ((D4 (by omega) (by omega) (by omega)).trans (he.trans (Gd hi0 (by omega) (by omega)))).symm
  simp only [HS] at h7;refine AB (tN (rG (eZ Z (evI ?_))));refine eK 2 Z (kZ [0,3,4,23,24,25,26,29,30,31,32,33,34,35,36,37,38,39,40,41,42] Z (BH Z Z (AA Z) Z (by kernel_rfl) Z Z (by omega) (by omega) (AG Z Z (AA Z) Z Z Z (JU (by omega)) Z (AZ (td := .int .u8) (k := .i64) Z Z (AA Z) Z (by kernel_rfl) (by kernel_rfl) Z (C8 (by omega) (by omega)) (evI ?_)))));refine eZ Z (oN (bN (tN (rG (eZ Z (evI ?_))))));refine eZ Z (oN ?_);refine lQ (_, _) ?_ ?_
  ·dsimp only
   have q := digB hi0 hn1 (show ((s[i.toNat]'(by omega)).toNat : Int) - 48 ≤ 9 by omega)
   have q2 := GH (i := i + 1) (by omega)
   exact ⟨by omega, by omega, by omega, Int.le_of_lt (Int.lt_of_lt_of_le q q2), q, he.trans (JL hi0 (by omega) (by omega) (by omega))⟩
  ·(show Int.toNat _ < Int.toNat _); omega
 simp only [HS] at h5;refine AU (tE (AP (AK (tN (sG (eK 2 Z (nB (rT (eR ?_)))))))))
 ·first
  | exact retI ((D4 (by omega) (by omega) (by omega)).trans (he.trans (JN (by omega)))).symm
open Go.Eng
def BM (w : Tx) : List Tx → Int → Int
 | [], _ => -1
 | x :: l, k => if w = x then k else BM w l (k + 1)
theorem Bh {w : Tx} {l : List Tx} {k : Int} (h0 : 0 ≤ k) (h1 : k < l.length) : BM w (l.drop k.toNat) k = if w = (l[k.toNat]'(by omega)) then k else BM w (l.drop (k + 1).toNat) (k + 1) := by
 rw [AX h0 h1, BM]
theorem MC (l : List Tx) (w : Tx) (hl : l.length ≤ 1048577) : Fun Tryz.prog 94 [.t (T.strs l), .t (T.str w)] (Aq [.t (.int (BM w l 0))]) := by
 refine Fun.begin tys Tryz.func94 Z Z (N := 19) [(0, .t (T.strs l)), (1, .t (T.str w))] Z Z (fun w0 G F0 => ?_);refine sG (eZ Z (nB (sQ (sG (eZ Z (evE ?_))))));refine eZ Z (nB (AD ?_));refine lK (α := Int) [0, 1, 7] [] (fun x => [(8, .t (.int x))]) (fun x => []) (fun x => 0 ≤ x ∧ x ≤ l.length ∧ BM w l 0 = BM w (l.drop x.toNat) x) (fun x => Int.toNat (l.length - x)) 0 ?_ (fun k hx => ?_)
 ·exact ⟨OC 0, Int.natCast_nonneg _, rfl⟩
 obtain ⟨hk0, hk1, he⟩ := hx
 refine nY Z (sG (eZ Z (nB (sQ ?_))));refine AC Z (fun h1 => ?_) (fun h1 => ?_)
 ·
  simp only [HS] at h1;refine AB (tN (sQ (AD (sG (eK 2 Z (nA (eK 3 Z ?_)))))));refine iY (k := ?_);refine eZ Z (AG Z Z (AA Z) Z Z Z Dh Z (kZ [0,1,5,7,8,9,10,11,12,13,14,15,16] Z (nB ?_)));refine AC Z (fun h2 => ?_) (fun h2 => ?_)
  ·
   simp only [HS] at h2;refine sG (eK 2 Z (nB (rT (bR (tR (AO (bR (tR (eR ?_)))))))))
   ·(rw [Bh hk0 h1, if_pos (by assumption)] at he; exact retI he.symm)
  simp only [HS] at h2;refine AB (bN (tN (rG (evI ?_))));refine eZ Z (oN ?_);refine lQ _ ?_ ?_
  ·skip
   rw [Bh hk0 h1, if_neg (by assumption)] at he; exact ⟨by omega, by omega, he⟩
  ·(show Int.toNat _ < Int.toNat _); omega
 simp only [HS] at h1;refine AU (tE (AP (AK (tN (sG (eZ Z (nB (rT (eR ?_)))))))))
 ·(rw [AQ (by omega)] at he; exact retI he.symm)
theorem GR {s : Tx} {b : UInt8} (h : s ≠ []) : s.head? = some b ↔ (((s[(0 : Int).toNat]'(by show 0 < s.length; exact OW.2 h)).toNat : Int) = (b.toNat : Int)) := by
 cases s with
 | nil => exact absurd rfl h
 | cons x l =>
  show some x = some b ↔ ((x.toNat : Int) = (b.toNat : Int));rw [byteI]
  simp
theorem FB {s : Tx} (h : s ≠ []) : s.head? = some 118 ↔ (((s[(0 : Int).toNat]'(by show 0 < s.length; exact OW.2 h)).toNat : Int) = 118) := GR h
theorem FC {s : Tx} (h : s ≠ []) : s.head? = some 102 ↔ (((s[(0 : Int).toNat]'(by show 0 < s.length; exact OW.2 h)).toNat : Int) = 102) := GR h
theorem HW {s : Tx} (h : s ≠ []) : s.head? = some 45 ↔ (((s[(0 : Int).toNat]'(by show 0 < s.length; exact OW.2 h)).toNat : Int) = 45) := GR h
theorem KT {s : Tx} : (s.drop (1 : Int).toNat).take ((s.length : Int).toNat - (1 : Int).toNat) = s.drop 1 := by
 rw [Nw (by rw [OT]; omega)]; rfl
noncomputable def readTok (s : Tx) : Tok × Bool :=
 if 0 ≤ BM s (wordsT.drop 3) 3 then (⟨BM s (wordsT.drop 3) 3, 0⟩, true)
 else if s = [] then (⟨0, 0⟩, false)
 else if s.head? = some 118 then (⟨2, digS (s.drop 1)⟩, decide (0 ≤ digS (s.drop 1)) && Gs ⟨2, digS (s.drop 1)⟩)
 else if s.head? = some 102 then (⟨11, digS (s.drop 1)⟩, decide (0 ≤ digS (s.drop 1)) && Gs ⟨11, digS (s.drop 1)⟩)
 else if s.head? = some 45 then (⟨1, 0 - digS (s.drop 1)⟩, decide (0 - digS (s.drop 1) < 0) && Gs ⟨1, 0 - digS (s.drop 1)⟩)
 else (⟨1, digS s⟩, decide (0 ≤ digS s) && Gs ⟨1, digS s⟩)
theorem GO (s : Tx) (hs : s.length ≤ 1048576) : Fun Tryz.prog 120 [.t (T.str s)] (Aq [.agg [.t (T.int (readTok s).1.op), .t (T.int (readTok s).1.n)], .t (.bool (readTok s).2)]) := by
 have hw : wordsT.length = 11 := rfl
 refine Fun.begin tys Tryz.func120 Z Z (N := 67) [(0, .t (T.str s))] Z Z (fun w0 G F0 => ?_);refine sG (AR tys Z Z (AA Z) Z Z Z (nZ Z (eZ Z (nB (sQ (sG (AJ ?_)))))));refine ⟨_, IB, rfl, ?_⟩;refine AI (Le.freeze (u := 7) Z) (nZ Z (evE ?_));refine eZ Z (nB (AD ?_));refine lK (α := Int) [0, 2, 3, 7, 8] [] (fun x => [(9, .t (.int x))]) (fun x => [(2, .box [.t (.int 0), .t (.int 0)])]) (fun x => 0 ≤ x ∧ x ≤ 11 ∧ (3 ≤ x → BM s (wordsT.drop 3) 3 = BM s (wordsT.drop x.toNat) x)) (fun x => Int.toNat (11 - x)) 0 ?_ (fun k hx => ?_)
 ·exact ⟨OC 0, by decide, fun h => absurd h (by decide)⟩
 obtain ⟨hk0, hk1, he⟩ := hx
 refine nY Z (sG (eZ Z (nB (sQ ?_))));refine AC Z (fun h1 => ?_) (fun h1 => ?_)
 ·
  simp only [HS] at h1;refine AB (tN (sQ (AD (sG (eZ Z ?_)))));refine iY (k := ?_);refine eK 3 Z (nA (eK 3 Z (kZ [0,2,3,4,5,7,8,9,10,11,12,13,14,15,16] Z ?_)));refine gB (fun h2 => ?_) (fun h2 => ?_)
  ·
   simp only [HS] at h2;refine xK 3 Z (nB (Ax Z (AB (bN (tN (rG (evI ?_)))))));refine eZ Z (oN ?_);refine lQ _ ?_ ?_
   ·skip
    refine ⟨by omega, by omega, fun h => ?_⟩
    by_cases hk : k = 2
    ·subst hk; rfl
    ·have hq := he (by omega)
     rw [Bh hk0 (by omega), if_neg (fun e => by first | omega | exact (by assumption : ¬ _ = _) e.symm)] at hq;exact hq
   ·(show Int.toNat _ < Int.toNat _); omega
  simp only [HS] at h2;refine xK 2 Z (gY Z (AG Z Z (AA Z) Z Z Z Dh Z (eZ Z (nB ?_))));refine AC Z (fun h3 => ?_) (fun h3 => ?_)
  ·
   simp only [HS] at h3;refine sG (eZ Z (AN tys Z Z (AA Z) Z Z Z (by kernel_rfl) Z Z Z Z Z Z (sT Z (nZ Z (eZ Z (nB (rT (bR (tR (AO (bR (tR (eR ?_)))))))))))))
   ·first
    | (have hq := he (by omega); rw [Bh hk0 (by omega), if_pos (Eq.symm (by assumption))] at hq; simp only [readTok, hq, if_pos hk0]; done)
  simp only [HS] at h3;refine AB (bN (tN (rG (evI ?_))));refine eZ Z (oN ?_);refine lQ _ ?_ ?_
  ·skip
   refine ⟨by omega, by omega, fun h => ?_⟩
   by_cases hk : k = 2
   ·subst hk; rfl
   ·have hq := he (by omega)
    rw [Bh hk0 (by omega), if_neg (fun e => by first | omega | exact (by assumption : ¬ _ = _) e.symm)] at hq;exact hq
  ·(show Int.toNat _ < Int.toNat _); omega
 simp only [HS] at h1;refine AU (tE (AP (AK (tN (sQ (sG (eZ Z (AG Z Z (AA Z) Z Z Z Dh Z (nB ?_)))))))));refine AC Z (fun h2 => ?_) (fun h2 => ?_)
 ·
  simp only [HS] at h2;refine sG (AN tys Z Z (AA Z) Z Z Z (by kernel_rfl) Z Z Z Z Z Z (sT Z (nZ Z (eZ Z (nB (rT (tR (eR ?_))))))))
  ·first
   | (have hno : BM s (wordsT.drop 3) 3 = -1 := (he (by omega)).trans (by simp only [AQ (show ((wordsT.length : Nat) : Int) ≤ k by omega), BM]); have hn2 : ¬ (0 : Int) ≤ -1 := (by omega); simp only [readTok, hno, if_neg hn2, if_pos (show s = [] by assumption)])
 simp only [HS] at h2;refine AB (tN (sG (eZ Z (AJ ?_))));refine ⟨_, Bc _ (by first | assumption | (simp; omega)), rfl, ?_⟩;refine AN tys Z Z (AA Z) Z Z Z (by kernel_rfl) Z Z Z Z Z Z (AR tys Z Z (AA Z) Z Z Z (nZ Z (sT Z (nZ Z (nB (sQ (sQ (kY [0,2,3,6] Z (rG (eZ Z (BH Z Z (AA Z) Z (by kernel_rfl) Z Z (by omega) (by have := OW.2 (show s ≠ [] by assumption); omega) ?_)))))))))));refine nB (AD (sG (AG Z Z (AA Z) Z Z Z FN Z (eZ Z (nB ?_)))));refine FQ (α := Int × Int) [2, 3, 6] [2] (fun x => []) (fun x => [(6, .box [.t (.int (x.1)), .t (.int (x.2))])]) (fun x => readTok s = (⟨(x.1), (x.2)⟩, decide (0 ≤ (x.2)) && Gs ⟨(x.1), (x.2)⟩)) ?_ (fun x hx => ?_)
 ·
  refine AC Z (fun h3 => ?_) (fun h3 => ?_)
  ·
   simp only [HS] at h3;refine rG (eZ Z (BZ Z Z (AA Z) Z (by kernel_rfl) Z Z Z (by omega) (by have := OW.2 (show s ≠ [] by assumption); omega) (by omega) ?_));refine AJ ?_;refine ⟨_, Bc _ (by first | assumption | (simp; omega)), rfl, ?_⟩;refine AN tys Z Z (AA Z) Z Z Z (by kernel_rfl) Z Z Z Z Z Z (sT Z (nZ Z (kZ [2,3,6] Z (oN (jQ (_, _) ?_)))));dsimp only
   have hno : BM s (wordsT.drop 3) 3 = -1 := (he (by omega)).trans (by simp only [AQ (show ((wordsT.length : Nat) : Int) ≤ k by omega), BM])
   have hn2 : ¬ (0 : Int) ≤ -1 := by omega
   have hne : s ≠ [] := by assumption
   (try simp only [KT] at *)
   simp_all [readTok, FB hne, FC hne, HW hne]
  simp only [HS] at h3;refine sG (AG Z Z (AA Z) Z Z Z FN Z (eZ Z (nB ?_)));refine AC Z (fun h4 => ?_) (fun h4 => ?_)
  ·
   simp only [HS] at h4;refine rG (eZ Z (BZ Z Z (AA Z) Z (by kernel_rfl) Z Z Z (by omega) (by have := OW.2 (show s ≠ [] by assumption); omega) (by omega) ?_));refine AJ ?_;refine ⟨_, Bc _ (by first | assumption | (simp; omega)), rfl, ?_⟩;refine kZ [2,3,6,42] Z (AN tys Z Z (AA Z) Z Z Z (by kernel_rfl) Z Z Z Z Z Z (sT Z (nZ Z (oN (jQ (_, _) ?_)))));dsimp only
   have hno : BM s (wordsT.drop 3) 3 = -1 := (he (by omega)).trans (by simp only [AQ (show ((wordsT.length : Nat) : Int) ≤ k by omega), BM])
   have hn2 : ¬ (0 : Int) ≤ -1 := by omega
   have hne : s ≠ [] := by assumption
   (try simp only [KT] at *)
   simp_all [readTok, FB hne, FC hne, HW hne]
  simp only [HS] at h4;refine sG (AG Z Z (AA Z) Z Z Z FN Z (eZ Z (nB ?_)));refine AC Z (fun h5 => ?_) (fun h5 => ?_)
  ·
   simp only [HS] at h5;refine sQ (kY [0,2,3,6] Z (rG (eZ Z (BZ Z Z (AA Z) Z (by kernel_rfl) Z Z Z (by omega) (by have := OW.2 (show s ≠ [] by assumption); omega) (by omega) ?_))));refine AJ ?_;refine ⟨_, Bc _ (by first | assumption | (simp; omega)), rfl, ?_⟩
   have hb := NY ((s.drop (1 : Int).toNat).take ((s.length : Int).toNat - (1 : Int).toNat))
   refine evI ?_;refine eZ Z (sT Z (nZ Z (nB ?_)))
   rcases Decidable.em ((0 : Int) - digS ((s.drop (1 : Int).toNat).take ((s.length : Int).toNat - (1 : Int).toNat)) < 0) with hE | hE
   ·
    refine sQ (Di [[], [], [], [], [], [], [], [2], [], []] mixed (by kernel_rfl) (Ab (Dp tys Z Z (AA Z) Z Z (AE (Ab (Ad tys Z Z (AA Z) Z (AE (Ab (Ad tys Z Z (AA Z) Z (AE (Ab (Ad tys Z Z (AA Z) Z (Ec (v := true) (decide_eq_true hE) (AE (Aj Z ?_)))))))))))))));refine Ab (Ad tys Z Z (AA Z) Z (AE (Ab (Dm Z Z Z Z (AA Z) (Dp tys Z Z (AA Z) Z Z (AE (Ab (Dm Z Z Z Z (AA Z) (LH ?_)))))))));refine ⟨_, Ez ⟨_, _⟩, rfl, ?_⟩;refine AE (CL (Ad tys Z Z (AA Z) Z (AE (Aj Z (C2 tys 10008 Z Z Z Z Z Z Z Z Z (Nat.le_of_ble_eq_true Z) (Ab (Ad tys Z Z (AA Z) Z (AE (C7 ?_)))))))));refine ⟨by kernel_rfl, ?_⟩;refine nZ Z (nB (rT (D1 (bR (tR (eR ?_))))))
    ·first
     | (have hno : BM s (wordsT.drop 3) 3 = -1 := (he (by omega)).trans (by simp only [AQ (show ((wordsT.length : Nat) : Int) ≤ k by omega), BM]); have hn2 : ¬ (0 : Int) ≤ -1 := (by omega); have hne : s ≠ [] := (by assumption); simp only [KT] at *; have hv : 0 - digS (s.drop 1) < 0 := hE; simp_all [readTok, FB hne, FC hne, HW hne]; done)
   ·
    refine sQ (Di [[], [], [], [], [], [], [], [2], [], []] mixed (by kernel_rfl) (Ab (Dp tys Z Z (AA Z) Z Z (AE (Ab (Ad tys Z Z (AA Z) Z (AE (Ab (Ad tys Z Z (AA Z) Z (AE (Ab (Ad tys Z Z (AA Z) Z (Ec (v := false) (decide_eq_false hE) (AE (Aj Z ?_)))))))))))))));refine Ab (Ad tys Z Z (AA Z) Z (AE (Ab (Dn Z Z Z Z Z (AA Z) (AE (Ab (Dn Z Z Z Z Z (AA Z) (AE (CL (Ad tys Z Z (AA Z) Z (AE (Aj Z (C2 tys 10008 Z Z Z Z Z Z Z Z Z (Nat.le_of_ble_eq_true Z) (Ab (Ad tys Z Z (AA Z) Z ?_)))))))))))))));refine AE (C7 ?_);refine ⟨by kernel_rfl, ?_⟩;refine nZ Z (nB (rT (D1 (bR (tR (eR ?_))))))
    ·first
     | (have hno : BM s (wordsT.drop 3) 3 = -1 := (he (by omega)).trans (by simp only [AQ (show ((wordsT.length : Nat) : Int) ≤ k by omega), BM]); have hn2 : ¬ (0 : Int) ≤ -1 := (by omega); have hne : s ≠ [] := (by assumption); simp only [KT] at *; have hv : ¬ 0 - digS (s.drop 1) < 0 := hE; simp_all [readTok, FB hne, FC hne, HW hne]; intro hz; exfalso; omega)
  simp only [HS] at h5;refine AB (jQ (_, _) ?_);dsimp only
  have hno : BM s (wordsT.drop 3) 3 = -1 := (he (by omega)).trans (by simp only [AQ (show ((wordsT.length : Nat) : Int) ≤ k by omega), BM])
  have hn2 : ¬ (0 : Int) ≤ -1 := by omega
  have hne : s ≠ [] := by assumption
  (try simp only [KT] at *)
  simp_all [readTok, FB hne, FC hne, HW hne]
 obtain ⟨op, n⟩ := x
 have hrd := hx
 dsimp only at hrd ⊢;refine bN (tN ?_)
 rcases Decidable.em (0 ≤ n) with hE | hE
 ·
  refine sQ (kY [2,3,6] Z (Di [[], [], [], [], [], [], [], [2], [], []] mixed (by kernel_rfl) (Ab (Dp tys Z Z (AA Z) Z Z (AE (Ab (Ad tys Z Z (AA Z) Z (AE (Ab (Ad tys Z Z (AA Z) Z (AE (Ab (Ad tys Z Z (AA Z) Z (Ec (v := true) (decide_eq_true hE) (AE ?_)))))))))))))));refine Aj Z (Ab (Ad tys Z Z (AA Z) Z (AE (Ab (Dm Z Z Z Z (AA Z) (Dp tys Z Z (AA Z) Z Z (AE (Ab (Dm Z Z Z Z (AA Z) (LH ?_))))))))));refine ⟨_, Ez ⟨_, _⟩, rfl, ?_⟩;refine AE (CL (Ad tys Z Z (AA Z) Z (AE (Aj Z (C2 tys 10008 Z Z Z Z Z Z Z Z Z (Nat.le_of_ble_eq_true Z) (Ab (Ad tys Z Z (AA Z) Z (AE (C7 ?_)))))))));refine ⟨by kernel_rfl, ?_⟩;refine nZ Z (nB (rT (eR ?_)))
  ·first
   | (rw [hrd]; simp [hE])
 ·
  refine sQ (kY [2,3,6] Z (Di [[], [], [], [], [], [], [], [2], [], []] mixed (by kernel_rfl) (Ab (Dp tys Z Z (AA Z) Z Z (AE (Ab (Ad tys Z Z (AA Z) Z (AE (Ab (Ad tys Z Z (AA Z) Z (AE (Ab (Ad tys Z Z (AA Z) Z (Ec (v := false) (decide_eq_false hE) (AE ?_)))))))))))))));refine Aj Z (Ab (Ad tys Z Z (AA Z) Z (AE (Ab (Dn Z Z Z Z Z (AA Z) (AE (Ab (Dn Z Z Z Z Z (AA Z) (AE (CL (Ad tys Z Z (AA Z) Z (AE (Aj Z (C2 tys 10008 Z Z Z Z Z Z Z Z Z (Nat.le_of_ble_eq_true Z) (Ab ?_)))))))))))))));refine Ad tys Z Z (AA Z) Z (AE (C7 ?_));refine ⟨by kernel_rfl, ?_⟩;refine nZ Z (nB (rT (eR ?_)))
  ·first
   | (rw [hrd]; simp [hE])
end Go.Proofs.YthinnpkpafmbcaaGreatDoor
