/- Walks and laws of the claim. -/
import Derived.Test.YtkllmdolplcklaaTy
import Derived.Test.YtkllmdolplcklaaRows
import Derived.Test.YtkllmdolplcklaaMb
import Derived.Test.YtkllmdolplcklaaRows
set_option linter.unusedVariables false
set_option linter.unusedSimpArgs false
set_option maxRecDepth 10000
set_option maxHeartbeats 2000000
namespace Go.Proofs.Ytkllmdolplcklaa
open Go.Eng
open Go.Eng
theorem CW (n lo hi : Int) : Fun Try.prog 39 [.t (.int n), .t (.int lo), .t (.int hi)] (tupD [.t (.bool (decide (lo ≤ n ∧ n ≤ hi)))]) := by
 refine Fun.begin tys Try.func39 Z Z (N := 15) [(0, .t (.int n)), (1, .t (.int lo)), (2, .t (.int hi))] Z Z (fun w0 G F0 => ?_);refine sG (eZ Z (nA (eK 4 Z ?_)));refine gB (fun h1 => ?_) (fun h1 => ?_)
 ·
  simp only [HS] at h1;refine xK 4 Z (kZ [6] Z (nB (rT (eR ?_))))
  ·(simp_all <;> omega)
 simp only [HS] at h1;refine xK 4 Z (kZ [6,14] Z (eZ Z (nB (rT (eR ?_)))))
 ·(simp_all <;> omega)
theorem BX (n lo hi : Int) : Fun Try.prog 61 [.t (.int n), .t (.int lo), .t (.int hi)] (tupD [.t (.bool (decide (lo ≤ n ∧ n ≤ hi)))]) := by
 refine Fun.begin tys Try.func61 Z Z (N := 15) [(0, .t (.int n)), (1, .t (.int lo)), (2, .t (.int hi))] Z Z (fun w0 G F0 => ?_);refine sG (eZ Z (nA (eK 4 Z ?_)));refine gB (fun h1 => ?_) (fun h1 => ?_)
 ·
  simp only [HS] at h1;refine xK 4 Z (kZ [6] Z (nB (rT (eR ?_))))
  ·(simp_all <;> omega)
 simp only [HS] at h1;refine xK 4 Z (kZ [6,14] Z (eZ Z (nB (rT (eR ?_)))))
 ·(simp_all <;> omega)
def BD (l : List Int) (lo hi : Int) : Bool := l.all fun n => decide (lo ≤ n ∧ n ≤ hi)
theorem GC {l : List Int} {lo hi k : Int} (h0 : 0 ≤ k) (h1 : k < l.length) (h : BD (l.take k.toNat) lo hi = true) (h2 : lo ≤ l[k.toNat]'(by omega) ∧ l[k.toNat]'(by omega) ≤ hi) : BD (l.take (k + 1).toNat) lo hi = true := by
 rw [show (k + 1).toNat = k.toNat + 1 from by omega, List.take_add_one, List.getElem?_eq_getElem (by omega)];unfold BD at *;rw [List.all_append, h]
 simpa using h2
theorem Jf {l : List Int} {lo hi k : Int} (h0 : 0 ≤ k) (h1 : k < l.length) (h2 : ¬ (lo ≤ l[k.toNat]'(by omega) ∧ l[k.toNat]'(by omega) ≤ hi)) : BD l lo hi = false := by
 unfold BD;rw [List.all_eq_false];exact ⟨l[k.toNat]'(by omega), Nl _, by simpa using h2⟩
theorem Hz {l : List Int} {lo hi k : Int} (h : BD (l.take k.toNat) lo hi = true) (h0 : 0 ≤ k) (h1 : (l.length : Int) ≤ k) : BD l lo hi = true := by
 rwa [Ni (by omega)] at h
theorem EG (l : List Int) (lo hi : Int) (hl : l.length ≤ 1073741824) : Fun Try.prog 40 [.t (T.ints l), .t (.int lo), .t (.int hi)] (tupD [.t (.bool (BD l lo hi))]) := by
 refine Fun.begin tys Try.func40 Z Z (N := 21) [(0, .t (T.ints l)), (1, .t (.int lo)), (2, .t (.int hi))] Z Z (fun w0 G F0 => ?_);refine sG (eZ Z (nB (sQ (sG (eZ Z (evE ?_))))));refine eZ Z (nB (AG ?_));refine lK (α := Int) [9, 10, 1, 2] [] (fun x => [(11, .t (.int x))]) (fun x => []) (fun x => 0 ≤ x ∧ x ≤ l.length ∧ BD (l.take x.toNat) lo hi = true) (fun x => Int.toNat (l.length - x)) 0 ?_ (fun k hx => ?_)
 ·refine ⟨?_, ?_, ?_⟩ <;> simp [BD]
 obtain ⟨hk0, hk1, hk2⟩ := hx
 refine nY Z (sG (eZ Z (nB (sQ ?_))));refine AD Z (fun h1 => ?_) (fun h1 => ?_)
 ·
  simp only [HS] at h1;refine AE (tN (sQ (AG (sG ?_))));refine iY (k := ?_);refine eK 2 Z (nA (eK 3 Z (AQ ?_)));refine ⟨_, CW _ _ _, rfl, ?_⟩;refine eZ Z (kZ [1,2,8,9,10,11,12,13,14,15,16,17,18,19] Z (nB ?_));refine AD Z (fun h2 => ?_) (fun h2 => ?_)
  ·
   simp only [HS] at h2;refine sG (eZ Z (nB (rT (bR (tR (AU (bR (tR (eR ?_)))))))))
   ·rw [Jf hk0 (by omega) (by simpa using h2)]
  simp only [HS] at h2;refine AE (bN (tN (rG (evI ?_))));refine eZ Z (oN ?_);refine lQ _ ?_ ?_
  ·skip
   exact ⟨by omega, by omega, GC hk0 (by omega) hk2 (by simpa using h2)⟩
  ·(show Int.toNat _ < Int.toNat _); omega
 simp only [HS] at h1;refine AR (tE (AO (AN (tN (sG (eZ Z (nB (rT (eR ?_)))))))))
 ·rw [Hz hk2 hk0 (by omega)]
open Go.Eng
theorem Bg {α : Type} {l : List α} {k : Int} (h0 : 0 ≤ k) (h1 : k < l.length) : l.drop k.toNat = l[k.toNat]'(by omega) :: l.drop (k + 1).toNat := by
 rw [show (k + 1).toNat = k.toNat + 1 from by omega];exact List.drop_eq_getElem_cons (by omega)
theorem BB {α : Type} {l : List α} {k : Int} (h1 : (l.length : Int) ≤ k) : l.drop k.toNat = [] := List.drop_of_length_le (by omega)
abbrev Af (l : List (List Int)) : T := .list 1 (l.map T.ints)
def Dy {α : Type} (f : α → α → Bool) : List α → List α → Bool
 | x :: xs, y :: ys => f x y && Dy f xs ys
 | _, _ => true
def eqL {α : Type} (f : α → α → Bool) (a b : List α) : Bool := a.length == b.length && Dy f a b
def eqI (a b : Int) : Bool := decide (a = b)
def at0 {α : Type} (d : α) (l : List α) (i : Int) : α := (l[i.toNat]?).getD d
theorem AL {α : Type} {d : α} {l : List α} {i : Int} (h0 : 0 ≤ i) (h1 : i < l.length) : at0 d l i = l[i.toNat]'(by omega) := by
 unfold at0; rw [List.getElem?_eq_getElem (by omega)]; rfl
theorem C2 {α : Type} {f : α → α → Bool} {a b : List α} (h : ¬ (a.length : Int) = b.length) : eqL f a b = false := by
 unfold eqL
 have : (a.length == b.length) = false := by simpa using fun e => h (by omega)
 rw [this]; rfl
theorem BI {α : Type} {f : α → α → Bool} {a b : List α} {k : Int} (h0 : 0 ≤ k) (h1 : k < a.length) (h : (a.length : Int) = b.length) :
  Dy f (a.drop k.toNat) (b.drop k.toNat) = (f (a[k.toNat]'(by omega)) (b[k.toNat]'(by omega)) && Dy f (a.drop (k + 1).toNat) (b.drop (k + 1).toNat)) := by
 rw [Bg h0 (by omega), Bg (l := b) h0 (by omega), Dy]
theorem Bi {α : Type} {f : α → α → Bool} {a b : List α} (h : (a.length : Int) = b.length) : eqL f a b = Dy f a b := by
 unfold eqL
 have : (a.length == b.length) = true := by simp; omega
 rw [this]; rfl
def C6 {α : Type} (p : α → Bool) : List α → Int → Int
 | [], _ => -1
 | x :: xs, k => if p x then k else C6 p xs (k + 1)
theorem DL {α : Type} {p : α → Bool} : ∀ {l : List α} {k : Int}, 0 ≤ k → decide (0 ≤ C6 p l k) = l.any p
 | [], _, _ => rfl
 | x :: l, k, h => by
  rw [C6, List.any_cons];cases hp : p x
  ·simpa using DL (l := l) (k := k + 1) (by omega)
  ·simpa using h
theorem Ef {α : Type} {p : α → Bool} {l : List α} {k : Int} (h0 : 0 ≤ k) (h1 : k < l.length) : C6 p (l.drop k.toNat) k = if p (l[k.toNat]'(by omega)) then k else C6 p (l.drop (k + 1).toNat) (k + 1) := by
 rw [Bg h0 h1, C6]
theorem L6 (l : List Int) (p : Int → Bool) (f : Nat) (caps : List D) (hcaps : caps.all D.imm = true) (hl : l.length ≤ 9223372036854775807) (hf : ∀ x, x ∈ l → Fun Try.prog f (.t (T.int x) :: caps) (.t (.bool (p x)))) : Fun Try.prog 88 [.t (T.ints l), .clo f caps] (tupD [.t (.int (C6 p l 0))]) := by
 refine Fun.begin tys Try.func88 Z Z (N := 19) [(0, .t (T.ints l)), (1, .clo f caps)] Z Z (fun w0 G F0 => ?_);refine sG (eZ Z (nB (sQ (sG (eZ Z (evE ?_))))));refine eZ Z (nB (AG ?_));refine lK (α := Int) [0, 1, 7] [] (fun x => [(8, .t (.int x))]) (fun x => []) (fun x => 0 ≤ x ∧ x ≤ l.length ∧ C6 p l 0 = C6 p (l.drop x.toNat) x) (fun x => Int.toNat (l.length - x)) 0 ?_ (fun k hx => ?_)
 ·exact ⟨by omega, by omega, rfl⟩
 obtain ⟨hk0, hk1, hk2⟩ := hx
 refine nY Z (sG (eZ Z (nB (sQ ?_))));refine AD Z (fun h1 => ?_) (fun h1 => ?_)
 ·
  simp only [HS] at h1;refine AE (tN (sQ (AG (sG (eK 2 Z (nA (BJ tys Z Z (AA Z) Z Z (by assumption) ?_)))))));refine eK 2 Z ?_;refine iY (k := ?_);refine eZ Z ?_;refine CK Z Z (AA Z) Z Z (by repeat (first | exact ResL.done | exact ResL.imms (by first | rfl | assumption) | refine ResL.t ?_ | refine ResL.own ?_ | refine ResL.slA Z (by first | rfl | (simp; done) | (simp; omega)) ?_ | refine ResL.sl Z (by first | omega | (simp; done) | (simp; omega)) ?_ | refine ResL.rp ?_ | refine ResL.clo ?_ ?_ | refine ResL.aggT ?_ ?_ | refine ResL.ref Z ?_ ?_ | refine ResL.nil' ?_ | refine ResL.nil 1 ?_)) (hf _ (Nl _)) Z ?_;refine kZ [0,1,5,7,8,9,10,11,12,13,14,15,16] Z (nB ?_);refine AD Z (fun h2 => ?_) (fun h2 => ?_)
  ·
   refine sG (eK 2 Z (nB (rT (bR (tR (AU (bR (tR (eR ?_)))))))))
   ·rw [hk2, Ef hk0 h1]
    simp [h2]
    done
  refine AE (bN (tN (rG (evI ?_))));refine eZ Z (oN ?_);refine lQ _ ?_ ?_
  ·skip
   refine ⟨by omega, by omega, ?_⟩; rw [hk2, Ef hk0 h1]; simp [h2]
  ·(show Int.toNat _ < Int.toNat _); omega
 simp only [HS] at h1;refine AR (tE (AO (AN (tN (sG (eZ Z (nB (rT (eR ?_)))))))))
 ·rw [hk2, BB h1]
  rfl
theorem JT (l : List Int) (p : Int → Bool) (f : Nat) (caps : List D) (hcaps : caps.all D.imm = true) (hl : l.length ≤ 9223372036854775807) (hf : ∀ x, x ∈ l → Fun Try.prog f (.t (T.int x) :: caps) (.t (.bool (p x)))) : Fun Try.prog 62 [.t (T.ints l), .clo f caps] (tupD [.t (.bool (l.any p))]) := by
 refine Fun.begin tys Try.func62 Z Z (N := 9) [(0, .t (T.ints l)), (1, .clo f caps)] Z Z (fun w0 G F0 => ?_);refine sG (eZ Z (nA (eZ Z (BJ tys Z Z (AA Z) Z Z (by assumption) ?_))));refine CK Z Z (AA Z) Z Z (by repeat (first | exact ResL.done | exact ResL.imms (by first | rfl | assumption) | refine ResL.t ?_ | refine ResL.own ?_ | refine ResL.slA Z (by first | rfl | (simp; done) | (simp; omega)) ?_ | refine ResL.sl Z (by first | omega | (simp; done) | (simp; omega)) ?_ | refine ResL.rp ?_ | refine ResL.clo ?_ ?_ | refine ResL.aggT ?_ ?_ | refine ResL.ref Z ?_ ?_ | refine ResL.nil' ?_ | refine ResL.nil 1 ?_)) (L6 l p f caps hcaps hl hf) Z ?_;refine eK 2 Z (nB (rT (eR ?_)))
 ·rw [← DL (OZ 0)]
open Go.ChangeShapes Go.WideShapes Go.ChangeAt Go.RowKit Go.Eng
theorem Try.own : ownKnob Try.prog.godebug = none := by kernel_rfl
theorem Try.laidOut : laidOutB Try.prog = true := by kernel_rfl
open Go.Eng
def okN {α : Type} (B : Nat) (l : List α) : Prop := l.length ≤ B
def okL {α : Type} (B : Nat) (ok : α → Prop) (l : List α) : Prop := l.length ≤ B ∧ ∀ x, x ∈ l → ok x
theorem LD {α : Type} {l : List (List α)} {k : Int} (h0 : 0 ≤ k) (h1 : k < l.length) : (l.drop k.toNat).flatten = l[k.toNat]'(by omega) ++ (l.drop (k + 1).toNat).flatten := by
 rw [Bg h0 h1, List.flatten_cons]
theorem Bf {α : Type} {l : List α} {k : Int} (h0 : 0 ≤ k) (h1 : k < l.length) : l.take (k + 1).toNat = l.take k.toNat ++ [l[k.toNat]'(by omega)] := by
 rw [show (k + 1).toNat = k.toNat + 1 from by omega, List.take_add_one, List.getElem?_eq_getElem (by omega)];rfl
theorem BF {α : Type} {l : List α} {k : Int} (h1 : (l.length : Int) ≤ k) : l.take k.toNat = l := Ni (by omega)
theorem Hp {α : Type} {l : List (List α)} {k : Int} (h0 : 0 ≤ k) (h1 : k < l.length) : (l.take (k + 1).toNat).flatten = (l.take k.toNat).flatten ++ l[k.toNat]'(by omega) := by
 rw [Bf h0 h1, List.flatten_append]; simp
theorem Gm {α : Type} {l : List (List α)} (k : Nat) : (l.take k).flatten.length + (l.drop k).flatten.length = l.flatten.length := by
 rw [← Nu, ← List.flatten_append, Oi]
def eqB (a b : Bool) : Bool := a == b
open Go.Eng
abbrev T.bools (l : List Bool) : T := .list 1 (l.map T.bool)
inductive Act where
 | mk (kind chan n : Int) (cases : List Act)
def Act.kind : Act → Int | .mk k _ _ _ => k
def Act.chan : Act → Int | .mk _ c _ _ => c
def Act.n : Act → Int | .mk _ _ n _ => n
def Act.cases : Act → List Act | .mk _ _ _ l => l
theorem Act.eta (a : Act) : Act.mk a.kind a.chan a.n a.cases = a := by cases a; rfl
theorem Act.lt {a b : Act} (h : b ∈ a.cases) : SizeOf.sizeOf b < SizeOf.sizeOf a := by
 cases a with
 | mk k c n l => have := List.sizeOf_lt_of_mem h; simp [Act.cases] at this ⊢; omega
theorem Act.ind {p : Act → Prop} (h : ∀ a, (∀ b, b ∈ a.cases → p b) → p a) (a : Act) : p a := h a fun b hb => Act.ind h b
termination_by SizeOf.sizeOf a
decreasing_by exact Act.lt hb
mutual
def Act.toT : Act → T
 | .mk k c n l => .agg [T.int k, T.int c, T.int n, .list 4 (Act.toTs l)]
def Act.toTs : List Act → List T
 | [] => []
 | a :: l => Act.toT a :: Act.toTs l
end
theorem Act.toTs_eq : ∀ l, Act.toTs l = l.map Act.toT
 | [] => by simp [Act.toTs]
 | a :: l => by rw [Act.toTs, Act.toTs_eq l]; rfl
def Act.tt (a : Act) : T := .agg [T.int a.kind, T.int a.chan, T.int a.n, .list 4 (a.cases.map Act.toT)]
theorem Act.toT_eq (a : Act) : a.toT = a.tt := by
 cases a with
 | mk k c n l => rw [Act.toT, Act.toTs_eq]; rfl
theorem Az (l : List Act) {i : Int} (h0 : 0 ≤ i) (h1 : i < l.length) : (l.map Act.toT)[i.toNat]? = some ((l[i.toNat]'(by omega)).tt) := by
 rw [CM _ _ h0 h1, Act.toT_eq]
inductive Act.ok (B : Nat) : Act → Prop
 | mk {k c n : Int} {l : List Act} : l.length ≤ B → (∀ a, a ∈ l → Act.ok B a) → Act.ok B (.mk k c n l)
theorem Act.ok.cases' {B : Nat} {a : Act} (h : a.ok B) : okL B (Act.ok B) a.cases := by
 cases h with
 | mk h1 h2 => exact ⟨h1, h2⟩
theorem Act.ok.of {B : Nat} {a : Act} (h : okL B (Act.ok B) a.cases) : a.ok B := by
 rw [← Act.eta a]; exact .mk h.1 h.2
mutual
def eqAct : Act → Act → Bool
 | .mk k c n l, .mk k' c' n' l' => eqI k k' && (eqI c c' && (eqI n n' && (l.length == l'.length && F9 l l')))
def F9 : List Act → List Act → Bool
 | a :: l, b :: l' => eqAct a b && F9 l l'
 | [], _ => true
 | _, [] => true
end
theorem Ht : ∀ l l', F9 l l' = Dy eqAct l l'
 | [], _ => by simp [F9, Dy]
 | a :: l, [] => by simp [F9, Dy]
 | a :: l, b :: l' => by rw [F9, Dy, Ht l]
theorem BA (a b : Act) : eqAct a b = (eqI a.kind b.kind && (eqI a.chan b.chan && (eqI a.n b.n && eqL eqAct a.cases b.cases))) := by
 cases a; cases b; rw [eqAct, Ht]; rfl
abbrev Act.dd (a : Act) : D := .agg [.t (T.int a.kind), .t (T.int a.chan), .t (T.int a.n), .own (.list 4 (a.cases.map Act.toT))]
abbrev T.Acts (l : List (Act)) : T := .list 4 (l.map Act.toT)
structure Task where
 acts : List (Act)
 pos : Int
 state : Int
 last : Int
def Task.tt (x : Task) : T := .agg [T.Acts x.acts, T.int x.pos, T.int x.state, T.int x.last]
def Task.ok (B : Nat) (x : Task) : Prop := okL B (Act.ok B) x.acts ∧ True
abbrev T.Tasks (l : List (Task)) : T := .list 4 (l.map Task.tt)
structure World where
 room : List Int
 held : List (List Int)
 shut : List Bool
 tasks : List (Task)
 trace : List Int
def World.tt (x : World) : T := .agg [T.ints x.room, Af x.held, T.bools x.shut, T.Tasks x.tasks, T.ints x.trace]
def World.ok (B : Nat) (x : World) : Prop := okN B x.room ∧ okL B (okN B) x.held ∧ okN B x.shut ∧ okL B (Task.ok B) x.tasks ∧ okN B x.trace ∧ True
open Go.Eng
theorem Am {b b' : Bool} (h : b = b') : [D.t (T.v (Value.bool b))] = [D.t (T.bool b')] := by rw [h]
def DJ (n : Int) : Bool := decide (-1000 ≤ n ∧ n ≤ 1000)
def AI (a : Act) (c : Int) : Bool := decide ((a.cases.length : Int) ≤ 0) && decide (0 ≤ a.chan ∧ a.chan ≤ c - 1) &&
 (if a.kind = 1 then DJ a.n else if a.kind = 2 ∨ a.kind = 5 then decide (a.n = 0) else decide (a.kind = 3) && (decide (a.n = 0) && decide (a.chan = 0)))
def caseAct (c : Int) (a : Act) : Bool := decide (a.kind = 1 ∨ a.kind = 2) && AI a c
def AJ (c : Int) (a : Act) : Bool := if a.kind = 4 then a.cases.all (caseAct c) && (decide ((1 : Int) ≤ a.cases.length ∧ (a.cases.length : Int) ≤ 3) && (decide (a.chan = 0) && decide (a.n = 0))) else AI a c
theorem F4 (n : Int) : Fun Try.prog 42 [.t (.int n)] (tupD [.t (.bool (DJ n))]) := by
 refine Fun.begin tys Try.func42 Z Z (N := 5) [(0, .t (.int n))] Z Z (fun w0 G F0 => ?_);refine sG (eZ Z (nA (eZ Z (AQ ?_))));refine ⟨_, CW _ _ _, rfl, ?_⟩;refine eZ Z (nB (rT (eR ?_)))
 ·rfl
theorem DI (a : Act) (c : Int) (ha : a.cases.length ≤ 9223372036854775807) (hc0 : 1 ≤ c) (hc1 : c ≤ 1000) : Fun Try.prog 92 [.t a.tt, .t (.int c)] (tupD [.t (.bool (AI a c))]) := by
 refine Fun.begin tys Try.func92 Z Z (N := 43) [(0, .t a.tt), (1, .t (.int c))] Z Z (fun w0 G F0 => ?_);refine sG (Aa Z Z (AA Z) Z Z (nZ Z (eZ Z (nB (sQ (sG (eK 2 Z (evE ?_))))))));refine eK 2 Z ?_;refine gB (fun h1 => ?_) (fun h1 => ?_)
 ·
  simp only [HS] at h1;refine xK 2 Z (kZ [2,4,9,11,12] Z (xK 4 Z (nB (AS Z (sG (eZ Z (nB (rT (tR (eR ?_))))))))))
  ·exact Am (by grind [AI])
 simp only [HS] at h1;refine xK 2 Z (kZ [1,2,4,9,11] Z (xZ Z (gY Z (evI ?_))));refine gY Z (AQ ?_);refine ⟨_, CW _ _ _, rfl, ?_⟩;refine xK 2 Z (nB ?_);refine AD Z (fun h2 => ?_) (fun h2 => ?_)
 ·
  simp only [HS] at h2;refine sG (eZ Z (nB (rT (tR (eR ?_)))))
  ·exact Am (by grind [AI])
 simp only [HS] at h2;refine AE (tN (sQ (sG (eK 2 Z (nB (AG (sQ (kY [2,4,18] Z (rG (eK 2 Z (nB ?_)))))))))));refine AD Z (fun h3 => ?_) (fun h3 => ?_)
 ·
  simp only [HS] at h3;refine sG (eK 2 Z (AQ ?_));refine ⟨_, F4 _, rfl, ?_⟩;refine eZ Z (nB (rT (bR (tR (eR ?_)))))
  ·exact Am (by grind [AI])
 simp only [HS] at h3;refine sQ (sG (eK 2 Z (nB ?_)));refine AD Z (fun h4 => ?_) (fun h4 => ?_)
 ·
  simp only [HS] at h4;refine AE (tN ?_);refine AD Z (fun h5 => ?_) (fun h5 => ?_)
  ·
   simp only [HS] at h5;refine sG (eK 4 Z (nB (rT (bR (tR (eR ?_))))))
   ·exact Am (by grind [AI])
  simp only [HS] at h5;refine AE (bN (tN (sG (eK 4 Z ?_))));refine gB (fun h6 => ?_) (fun h6 => ?_)
  ·
   simp only [HS] at h6;refine xZ Z (kZ [2,4,33,35] Z (xK 8 Z (nB (rT (eR ?_)))))
   ·exact Am (by grind [AI])
  simp only [HS] at h6;refine xK 2 Z (kZ [2,4,33,35] Z (xK 3 Z ?_));refine gB (fun h7 => ?_) (fun h7 => ?_)
  ·
   simp only [HS] at h7;refine xK 4 Z (nB (rT (eR ?_)))
   ·exact Am (by grind [AI])
  simp only [HS] at h7;refine xK 5 Z (nB (rT (eR ?_)))
  ·exact Am (by grind [AI])
 simp only [HS] at h4;refine rG (eK 2 Z (nB ?_));refine AD Z (fun h5 => ?_) (fun h5 => ?_)
 ·
  simp only [HS] at h5;refine sG (eK 3 Z (kZ [2,4,29] Z (eZ Z (nB (rT (bR (tR (eR ?_))))))))
  ·exact Am (by grind [AI])
 simp only [HS] at h5;refine AE (bN (tN (sG (eK 3 Z (kZ [2,4,32] Z (eZ Z ?_))))));refine gB (fun h6 => ?_) (fun h6 => ?_)
 ·
  simp only [HS] at h6;refine xK 8 Z (kZ [4,42] Z (eZ Z (nB (rT (eR ?_)))))
  ·exact Am (by grind [AI])
 simp only [HS] at h6;refine xK 5 Z ?_;refine gB (fun h7 => ?_) (fun h7 => ?_)
 ·
  simp only [HS] at h7;refine xK 3 Z (kZ [4,42] Z (eZ Z (nB (rT (eR ?_)))))
  ·exact Am (by grind [AI])
 simp only [HS] at h7;refine xK 3 Z (kZ [4,38,41] Z (eK 2 Z (nB (rT (eR ?_)))))
 ·exact Am (by grind [AI])
theorem Db {α : Type} {p : α → Bool} {l : List α} {k : Int} (h0 : 0 ≤ k) (h1 : k < l.length) (h : p (l[k.toNat]'(by omega)) = false) : l.all p = false :=
 List.all_eq_false.2 ⟨_, Nl _, by simpa using h⟩
theorem Cc {α : Type} {p : α → Bool} {l : List α} {k : Int} (h0 : 0 ≤ k) (h1 : k < l.length) (h : (l.take k.toNat).all p = true) (h2 : p (l[k.toNat]'(by omega)) = true) : (l.take (k + 1).toNat).all p = true := by
 rw [show (k + 1).toNat = k.toNat + 1 from by omega, List.take_add_one, List.getElem?_eq_getElem (by omega), List.all_append, h]
 simpa using h2
theorem Et {α : Type} {p : α → Bool} {l : List α} {k : Int} (h1 : (l.length : Int) ≤ k) (h : (l.take k.toNat).all p = true) : l.all p = true := by
 rwa [Ni (by omega)] at h
theorem J1 (a : Act) (c : Int) (ha : a.ok 1048576) (hc0 : 1 ≤ c) (hc1 : c ≤ 1000) : Fun Try.prog 80 [.t a.tt, .t (.int c)] (tupD [.t (.bool (AJ c a))]) := by
 have ha1 := ha.cases'.1
 refine Fun.begin tys Try.func80 Z Z (N := 49) [(0, .t a.tt), (1, .t (.int c))] Z Z (fun w0 G F0 => ?_);refine sG (Aa Z Z (AA Z) Z Z (nZ Z (eZ Z (nB (sQ (sG (eK 3 Z (nB ?_))))))));refine AD Z (fun h1 => ?_) (fun h1 => ?_)
 ·
  simp only [HS] at h1;refine sG (eZ Z ?_)
  try refine WO_le (Le.freeze (u := 10) rfl) ?_
  refine nZ Z (eZ Z (AQ ?_));refine ⟨_, DI _ _ (by omega) hc0 hc1, rfl, ?_⟩;refine eZ Z (kZ [1,2,4] Z (nB (rT (tR (eR ?_)))))
  ·exact Am (by grind [AJ])
 simp only [HS] at h1;refine AE (tN (sQ (sG (eK 2 Z (evE ?_)))));refine eZ Z (kZ [1,2,4,14,15,16] Z (nB (AG ?_)));refine lK (α := Int) [1, 2, 14, 15] [2] (fun x => [(16, .t (.int x))]) (fun x => []) (fun x => 0 ≤ x ∧ x ≤ a.cases.length ∧ (a.cases.take x.toNat).all (caseAct c) = true) (fun x => Int.toNat (a.cases.length - x)) 0 ?_ (fun k hx => ?_)
 ·exact ⟨by omega, by omega, by simp⟩
 obtain ⟨hk0, hk1, hk2⟩ := hx
 refine nY Z (sG (eZ Z (nB (sQ ?_))));refine AD Z (fun h2 => ?_) (fun h2 => ?_)
 ·
  simp only [HS] at h2;refine AE (tN (sQ (AG (sG (BU tys Z Z (AA Z) Z Z Z Z Z Z Z (by omega) _ (Az _ (by omega) (by omega)) (eZ Z ?_))))))
  try refine WO_le (Le.freeze (u := 19) rfl) ?_
  refine nZ Z (AK tys Z Z (AA Z) Z Z Z (nZ Z (sT Z (nZ Z (nA (eK 4 Z (kZ [1,2,6,14,15,16,17,18,19,20,21,22,23] Z ?_)))))));refine gB (fun h3 => ?_) (fun h3 => ?_)
  ·
   simp only [HS] at h3;refine xK 5 Z ?_
   try refine WO_le (Le.freeze (u := 29) rfl) ?_
   refine nZ Z (xZ Z (gY Z (AQ ?_)));refine ⟨_, DI _ _ (by have := (ha.cases'.2 _ (Nl (l := a.cases) (n := k.toNat) (by omega))).cases'.1; omega) hc0 hc1, rfl, ?_⟩;refine xK 2 Z (kZ [1,2,6,14,15,16,17,18,19,20,21,22,23,24,25,26,27,28,29,30,31,32,33] Z (nB ?_));refine AD Z (fun h4 => ?_) (fun h4 => ?_)
   ·
    simp only [HS] at h4;refine sG (eZ Z (nB (rT (bR (tR (AU (bR (tR (eR ?_)))))))))
    ·(have hh := Db (l := a.cases) (p := caseAct c) hk0 h2 (by grind [caseAct]); exact Am (by grind [AJ]))
   simp only [HS] at h4;refine AE (bN (tN (rG (evI ?_))));refine eZ Z (oN ?_);refine lQ _ ?_ ?_
   ·skip
    exact ⟨by omega, by omega, Cc hk0 (by omega) hk2 (by simp_all [caseAct])⟩
   ·(show Int.toNat _ < Int.toNat _); omega
  simp only [HS] at h3;refine xK 5 Z ?_;refine gB (fun h4 => ?_) (fun h4 => ?_)
  ·
   simp only [HS] at h4;refine xK 4 Z (kZ [1,2,6,14,15,16,17,18,19,20,21,22,23,24,25,26,27,28,29,30,31,32,33] Z (nB (AS Z (sG (eZ Z (nB (rT (bR (tR (AU (bR (tR (eR ?_)))))))))))))
   ·(have hh := Db (l := a.cases) (p := caseAct c) hk0 h2 (by grind [caseAct]); exact Am (by grind [AJ]))
  simp only [HS] at h4;refine eZ Z ?_
  try refine WO_le (Le.freeze (u := 29) rfl) ?_
  refine nZ Z (xZ Z (gY Z (AQ ?_)));refine ⟨_, DI _ _ (by have := (ha.cases'.2 _ (Nl (l := a.cases) (n := k.toNat) (by omega))).cases'.1; omega) hc0 hc1, rfl, ?_⟩;refine xZ Z (kZ [1,2,6,14,15,16,17,18,19,20,21,22,23,24,25,26,27,28,29,30,31,32] Z (eZ Z (nB ?_)));refine AD Z (fun h5 => ?_) (fun h5 => ?_)
  ·
   simp only [HS] at h5;refine sG (eZ Z (nB (rT (bR (tR (AU (bR (tR (eR ?_)))))))))
   ·(have hh := Db (l := a.cases) (p := caseAct c) hk0 h2 (by grind [caseAct]); exact Am (by grind [AJ]))
  simp only [HS] at h5;refine AE (bN (tN (rG (evI ?_))));refine eZ Z (oN ?_);refine lQ _ ?_ ?_
  ·skip
   exact ⟨by omega, by omega, Cc hk0 (by omega) hk2 (by simp_all [caseAct])⟩
  ·(show Int.toNat _ < Int.toNat _); omega
 simp only [HS] at h2;refine AR (tE (AO (AN (tN (sG (eK 2 Z (evE ?_)))))));refine AQ ?_;refine ⟨_, CW _ _ _, rfl, ?_⟩;refine eZ Z ?_;refine gB (fun h3 => ?_) (fun h3 => ?_)
 ·
  simp only [HS] at h3;refine xK 3 Z (kZ [2,43] Z (xK 6 Z (nB (rT (eR ?_)))))
  ·exact Am (by grind [AJ])
 simp only [HS] at h3;refine xK 3 Z (kZ [2,39,42] Z (eK 2 Z ?_));refine gB (fun h4 => ?_) (fun h4 => ?_)
 ·
  simp only [HS] at h4;refine xK 4 Z (nB (rT (eR ?_)))
  ·exact Am (by grind [AJ])
 simp only [HS] at h4;refine xK 5 Z (nB (rT (eR ?_)))
 ·(have hh := Et (by assumption) hk2; exact Am (by grind [AJ]))
def BK (c : Int) (l : List Act) : Bool := l.all (AJ c) && decide ((l.length : Int) ≤ 6)
theorem IW (l : List Act) (c : Int) (ha : okL 1048576 (Act.ok 1048576) l) (hc0 : 1 ≤ c) (hc1 : c ≤ 1000) : Fun Try.prog 41 [.t (T.Acts l), .t (.int c)] (tupD [.t (.bool (BK c l))]) := by
 have ha1 := ha.1
 refine Fun.begin tys Try.func41 Z Z (N := 21) [(0, .t (T.Acts l)), (1, .t (.int c))] Z Z (fun w0 G F0 => ?_);refine sG (eZ Z (nB (sQ (sG (eZ Z (evE ?_))))));refine eZ Z (nB (AG ?_));refine lK (α := Int) [0, 1, 7, 8] [] (fun x => [(9, .t (.int x))]) (fun x => []) (fun x => 0 ≤ x ∧ x ≤ l.length ∧ (l.take x.toNat).all (AJ c) = true) (fun x => Int.toNat (l.length - x)) 0 ?_ (fun k hx => ?_)
 ·exact ⟨by omega, by omega, by simp⟩
 obtain ⟨hk0, hk1, hk2⟩ := hx
 refine nY Z (sG (eZ Z (nB (sQ ?_))));refine AD Z (fun h1 => ?_) (fun h1 => ?_)
 ·
  simp only [HS] at h1;refine AE (tN (sQ (AG (sG (BU tys Z Z (AA Z) Z Z Z Z Z Z Z (by omega) _ (Az _ (by omega) (by omega)) (eZ Z ?_))))))
  try refine WO_le (Le.freeze (u := 12) rfl) ?_
  refine nZ Z (AK tys Z Z (AA Z) Z Z Z (nZ Z (sT Z (nZ Z (nA (eZ Z ?_))))))
  try refine WO_le (Le.freeze (u := 13) rfl) ?_
  refine nZ Z (eZ Z (AQ ?_));refine ⟨_, J1 _ _ (ha.2 _ (Nl _)) hc0 hc1, rfl, ?_⟩;refine eZ Z (kZ [0,1,6,7,8,9,10,11,12,13,14,15,16] Z (nB ?_));refine AD Z (fun h2 => ?_) (fun h2 => ?_)
  ·
   simp only [HS] at h2;refine sG (eZ Z (nB (rT (bR (tR (AU (bR (tR (eR ?_)))))))))
   ·(have hh := Db (l := l) (p := AJ c) hk0 h1 (by assumption); rw [BK, hh]; rfl)
  simp only [HS] at h2;refine AE (bN (tN (rG (evI ?_))));refine eZ Z (oN ?_);refine lQ _ ?_ ?_
  ·skip
   exact ⟨by omega, by omega, Cc hk0 (by omega) hk2 (by assumption)⟩
  ·(show Int.toNat _ < Int.toNat _); omega
 simp only [HS] at h1;refine AR (tE (AO (AN (tN (sG (eZ Z (evE ?_)))))));refine eK 2 Z (nB (rT (eR ?_)))
 ·(have hh := Et (by assumption) hk2; rw [BK, hh]; rfl)
def BT : List (List Int) → List Int → Bool
 | l :: hs, r :: rs => decide ((l.length : Int) ≤ r) && (BD l (-1000) 1000 && BT hs rs)
 | _, _ => true
def AM (c : Int) (t : Task) : Bool := BK c t.acts && (decide (0 ≤ t.pos ∧ t.pos ≤ t.acts.length) && (decide (0 ≤ t.state ∧ t.state ≤ 2) && (DJ t.last && decide (t.state = 1 ↔ t.pos = t.acts.length))))
def AC (w : World) : Bool :=
 decide ((1 : Int) ≤ w.room.length ∧ (w.room.length : Int) ≤ 3) && (decide ((w.held.length : Int) = w.room.length) && (decide ((w.shut.length : Int) = w.room.length) && (BD w.room 0 3 &&
  (decide ((1 : Int) ≤ w.tasks.length ∧ (w.tasks.length : Int) ≤ 4) && (decide ((w.trace.length : Int) ≤ 120) && (BD w.trace (-1000) 1000 && (BT w.held w.room && w.tasks.all (AM w.room.length))))))))
theorem Co {hs : List (List Int)} {rs : List Int} {k : Int} (h0 : 0 ≤ k) (h1 : k < hs.length) (h2 : k < rs.length) :
  BT (hs.drop k.toNat) (rs.drop k.toNat) = (decide (((hs[k.toNat]'(by omega)).length : Int) ≤ rs[k.toNat]'(by omega)) && (BD (hs[k.toNat]'(by omega)) (-1000) 1000 && BT (hs.drop (k + 1).toNat) (rs.drop (k + 1).toNat))) := by
 rw [Bg h0 h1, Bg (l := rs) h0 h2, BT]
theorem A2 (w : World) (hw : w.ok 1048576) : Fun Try.prog 13 [.t w.tt] (tupD [.t (.bool (AC w))]) := by
 have hw1 : w.room.length ≤ 1048576 := hw.1
 have hw2 : w.held.length ≤ 1048576 := hw.2.1.1
 have hw3 : w.shut.length ≤ 1048576 := hw.2.2.1
 have hw4 : w.tasks.length ≤ 1048576 := hw.2.2.2.1.1
 have hw5 : w.trace.length ≤ 1048576 := hw.2.2.2.2.1
 refine Fun.begin tys Try.func13 Z Z (N := 137) [(0, .t w.tt)] Z Z (fun w0 G F0 => ?_);refine sG (Aa Z Z (AA Z) Z Z (nZ Z (eZ Z (nA (eK 2 Z (evE ?_))))));refine eZ Z (nB (sQ (sG (eZ Z (AQ ?_)))));refine ⟨_, CW _ _ _, rfl, ?_⟩;refine eZ Z (kZ [1,2,3,13] Z (eZ Z ?_));refine gB (fun h1 => ?_) (fun h1 => ?_)
 ·
  simp only [HS] at h1;refine xK 8 Z (kZ [1,2,3,21,23] Z (xK 9 Z (kZ [1,2,3,28,32] Z (xK 9 Z (kZ [1,2,3,41] Z (xK 9 Z (kZ [1,2,3,47,50] Z (xK 2 Z (nB (AS Z (sG (eZ Z (nB (rT (tR ?_)))))))))))))));refine eR ?_
  ·exact Am (by grind [AC])
 simp only [HS] at h1;refine xK 2 Z (gY Z (evE ?_));refine xK 4 Z ?_;refine gB (fun h2 => ?_) (fun h2 => ?_)
 ·
  simp only [HS] at h2;refine xZ Z (kZ [1,2,3,21,23] Z (xK 9 Z (kZ [1,2,3,28,32] Z (xK 9 Z (kZ [1,2,3,41] Z (xK 9 Z (kZ [1,2,3,47,50] Z (xK 2 Z (nB (AS Z (sG (eZ Z (nB (rT (tR ?_)))))))))))))));refine eR ?_
  ·exact Am (by grind [AC])
 simp only [HS] at h2;refine xK 2 Z (kZ [1,2,3,21,23] Z (gY Z (evE ?_)));refine xK 4 Z ?_;refine gB (fun h3 => ?_) (fun h3 => ?_)
 ·
  simp only [HS] at h3;refine xK 4 Z (kZ [1,2,3,33] Z (xK 9 Z (kZ [1,2,3,41,42] Z (xK 9 Z (kZ [1,2,3,47,51] Z (eZ Z (nB (AS Z (sG (eZ Z (nB (rT (tR (eR ?_))))))))))))))
  ·exact Am (by grind [AC])
 simp only [HS] at h3;refine xK 2 Z (gY Z (AQ ?_));refine ⟨_, EG _ _ _ (by first | omega | (have : (w.held[k.toNat]'(by omega)).length ≤ 1048576 := hw.2.1.2 _ (Nl _); omega)), rfl, ?_⟩;refine xZ Z (kZ [1,2,3,28,32] Z (eK 2 Z ?_));refine gB (fun h4 => ?_) (fun h4 => ?_)
 ·
  simp only [HS] at h4;refine xK 7 Z (kZ [1,2,3,41,42] Z (xK 9 Z (kZ [1,2,3,47,51] Z (eZ Z (nB (AS Z (sG (eZ Z (nB (rT (tR (eR ?_))))))))))))
  ·exact Am (by grind [AC])
 simp only [HS] at h4;refine xK 2 Z (gY Z (evE ?_));refine gY Z (AQ ?_);refine ⟨_, CW _ _ _, rfl, ?_⟩;refine xK 3 Z (kZ [1,2,3,41] Z ?_);refine gB (fun h5 => ?_) (fun h5 => ?_)
 ·
  simp only [HS] at h5;refine xK 9 Z (kZ [1,2,3,47,51] Z (eZ Z (nB (AS Z (sG (eZ Z (nB (rT (tR (eR ?_))))))))))
  ·exact Am (by grind [AC])
 simp only [HS] at h5;refine xK 2 Z (gY Z (evE ?_));refine xK 3 Z ?_;refine gB (fun h6 => ?_) (fun h6 => ?_)
 ·
  simp only [HS] at h6;refine xK 3 Z (kZ [1,2,3,47,51] Z (eZ Z (nB (AS Z (sG (eZ Z (nB (rT (tR (eR ?_))))))))))
  ·exact Am (by grind [AC])
 simp only [HS] at h6;refine xK 2 Z (gY Z (AQ ?_));refine ⟨_, EG _ _ _ (by first | omega | (have : (w.held[k.toNat]'(by omega)).length ≤ 1048576 := hw.2.1.2 _ (Nl _); omega)), rfl, ?_⟩;refine kZ [1,2,3,47,50] Z (xK 2 Z (nB ?_));refine AD Z (fun h7 => ?_) (fun h7 => ?_)
 ·
  simp only [HS] at h7;refine sG (eZ Z (nB (rT (tR (eR ?_)))))
  ·exact Am (by grind [AC])
 simp only [HS] at h7;refine AE (tN (sQ (sG (eK 2 Z (evE ?_)))));refine eZ Z (nB (AG ?_));refine lK (α := Int) [1, 3, 54, 55] [1] (fun x => [(56, .t (.int x))]) (fun x => []) (fun x => 0 ≤ x ∧ x ≤ w.held.length ∧ (w.held.length : Int) = w.room.length ∧ BT w.held w.room = BT (w.held.drop x.toNat) (w.room.drop x.toNat)) (fun x => Int.toNat (w.held.length - x)) 0 ?_ (fun k hx => ?_)
 ·exact ⟨by omega, by omega, by assumption, rfl⟩
 obtain ⟨hk0, hk1, hk3, hk2⟩ := hx
 refine nY Z (sG (eZ Z (nB (sQ ?_))));refine AD Z (fun h8 => ?_) (fun h8 => ?_)
 ·
  simp only [HS] at h8;refine AE (tN (sQ (AG (sG (eZ Z ?_)))));refine iY (k := ?_);refine eK 3 Z (nA (eZ Z (evE ?_)));refine eZ Z (kZ [1,3,4,5,54,55,56,57,58,59,60,61,62,63] Z (eK 2 Z ?_));refine iY (k := ?_);refine eK 3 Z ?_;refine gB (fun h9 => ?_) (fun h9 => ?_)
  ·
   simp only [HS] at h9;refine xK 3 Z (kZ [1,3,4,5,54,55,56,57,58,59,60,61,62,63,64,65,66,67,68,69,70,71,72,73] Z (nB (AS Z (sG (eZ Z (nB (rT (bR (tR (AU (bR (tR (eR ?_)))))))))))))
   ·(have hh : BT w.held w.room = false := (by rw [hk2, Co hk0 (by omega) (by omega)]; grind); exact Am (by grind [AC]))
  simp only [HS] at h9;refine eZ Z (gY Z (AQ ?_));refine ⟨_, EG _ _ _ (by first | omega | (have : (w.held[k.toNat]'(by omega)).length ≤ 1048576 := hw.2.1.2 _ (Nl _); omega)), rfl, ?_⟩;refine xZ Z (kZ [1,3,4,5,54,55,56,57,58,59,60,61,62,63,64,65,66,67,68,69,70,71,72] Z (eZ Z (nB ?_)));refine AD Z (fun h10 => ?_) (fun h10 => ?_)
  ·
   simp only [HS] at h10;refine sG (eZ Z (nB (rT (bR (tR (AU (bR (tR (eR ?_)))))))))
   ·(have hh : BT w.held w.room = false := (by rw [hk2, Co hk0 (by omega) (by omega)]; grind); exact Am (by grind [AC]))
  simp only [HS] at h10;refine AE (bN (tN (rG (evI ?_))));refine eZ Z (oN ?_);refine lQ _ ?_ ?_
  ·skip
   exact ⟨by omega, by omega, hk3, by rw [hk2, Co hk0 (by omega) (by omega)]; simp [*]⟩
  ·(show Int.toNat _ < Int.toNat _); omega
 simp only [HS] at h8;refine AR (tE (AO (AN (tN (sQ (sG (eK 2 Z (evE ?_))))))));refine eZ Z (nB (AG ?_));refine lK (α := Int) [1, 3, 76, 77] [1] (fun x => [(78, .t (.int x))]) (fun x => []) (fun x => 0 ≤ x ∧ x ≤ w.tasks.length ∧ (w.tasks.take x.toNat).all (AM w.room.length) = true) (fun x => Int.toNat (w.tasks.length - x)) 0 ?_ (fun k' hx => ?_)
 ·exact ⟨by omega, by omega, by simp⟩
 obtain ⟨hj0, hj1, hj2⟩ := hx
 refine nY Z (sG (eZ Z (nB (sQ ?_))));refine AD Z (fun h9 => ?_) (fun h9 => ?_)
 ·
  simp only [HS] at h9;refine AE (tN (sQ (AG (sG ?_))));refine iY (k := ?_);refine eZ Z ?_
  try refine WO_le (Le.freeze (u := 81) rfl) ?_
  refine nZ Z (AK tys Z Z (AA Z) Z Z Z (nZ Z (sT Z (nZ Z (nB (sQ (sG (eK 3 Z (AQ ?_)))))))));refine ⟨_, IW _ _ (hw.2.2.2.1.2 _ (Nl _)).1 (by omega) (by omega), rfl, ?_⟩;refine kZ [1,3,7,76,77,78,79,80,81,82,83,84,85] Z (eK 2 Z ?_);refine gB (fun h10 => ?_) (fun h10 => ?_)
  ·
   simp only [HS] at h10;refine xK 7 Z (kZ [1,3,7,76,77,78,79,80,81,82,83,84,85,86,87,88,89,90,91,92,93,94,95] Z (xK 9 Z (kZ [1,3,7,76,77,78,79,80,81,82,83,84,85,86,87,88,89,90,91,92,93,94,95,96,97,98,99,100,101,102,103,104] Z (xK 3 Z (nB (AS Z (sG (eZ Z (nB (rT (tR (bR (tR (AU (bR ?_)))))))))))))));refine tR (eR ?_)
   ·(have hh := Db (l := w.tasks) (p := AM w.room.length) hj0 (by omega) (by grind [AM]); exact Am (by grind [AC]))
  simp only [HS] at h10;refine xK 4 Z (gY Z (evE ?_));refine gY Z (AQ ?_);refine ⟨_, CW _ _ _, rfl, ?_⟩;refine xZ Z (kZ [1,3,7,76,77,78,79,80,81,82,83,84,85,86,87,88,89,90,91,92,93,94] Z (eK 2 Z ?_));refine gB (fun h11 => ?_) (fun h11 => ?_)
  ·
   simp only [HS] at h11;refine xK 7 Z (kZ [1,3,7,76,77,78,79,80,81,82,83,84,85,86,87,88,89,90,91,92,93,94,95,96,97,98,99,100,101,102,103,104] Z (xK 3 Z (nB (AS Z (sG (eZ Z (nB (rT (tR (bR (tR (AU (bR (tR (eR ?_)))))))))))))))
   ·(have hh := Db (l := w.tasks) (p := AM w.room.length) hj0 (by omega) (by grind [AM]); exact Am (by grind [AC]))
  simp only [HS] at h11;refine xK 2 Z (gY Z (AQ ?_));refine ⟨_, CW _ _ _, rfl, ?_⟩;refine xK 3 Z ?_;refine gB (fun h12 => ?_) (fun h12 => ?_)
  ·
   simp only [HS] at h12;refine xZ Z (kZ [1,3,7,76,77,78,79,80,81,82,83,84,85,86,87,88,89,90,91,92,93,94,95,96,97,98,99,100,101,102,103,104] Z (xK 3 Z (nB (AS Z (sG (eZ Z (nB (rT (tR (bR (tR (AU (bR (tR (eR ?_)))))))))))))))
   ·(have hh := Db (l := w.tasks) (p := AM w.room.length) hj0 (by omega) (by grind [AM]); exact Am (by grind [AC]))
  simp only [HS] at h12;refine xK 2 Z (kZ [1,3,7,76,77,78,79,80,81,82,83,84,85,86,87,88,89,90,91,92,93,94,95,96,97,98,99,100,101,102,103,104] Z (gY Z (AQ ?_)));refine ⟨_, F4 _, rfl, ?_⟩;refine xK 2 Z (nB ?_);refine AD Z (fun h13 => ?_) (fun h13 => ?_)
  ·
   simp only [HS] at h13;refine sG (eZ Z (nB (rT (tR (bR (tR (AU (bR (tR (eR ?_))))))))))
   ·(have hh := Db (l := w.tasks) (p := AM w.room.length) hj0 (by omega) (by grind [AM]); exact Am (by grind [AC]))
  simp only [HS] at h13;refine AE (tN (sG (eK 4 Z ?_)));refine gB (fun h14 => ?_) (fun h14 => ?_)
  ·
   simp only [HS] at h14;refine xK 2 Z (kZ [1,3,7,76,77,78,79,80,81,82,83,84,85,86,87,88,89,90,91,92,93,94,95,96,97,98,99,100,101,102,103,104,105,106,107,108,109,110,111,112,113,114] Z (xK 9 Z (kZ [1,3,7,76,77,78,79,80,81,82,83,84,85,86,87,88,89,90,91,92,93,94,95,96,97,98,99,100,101,102,103,104,105,106,107,108,109,110,111,112,113,114,115,116,117,118,119,120,121,122,123] Z (xK 4 Z ?_))));refine gB (fun h15 => ?_) (fun h15 => ?_)
   ·
    simp only [HS] at h15;refine xK 5 Z (kZ [1,3,7,76,77,78,79,80,81,82,83,84,85,86,87,88,89,90,91,92,93,94,95,96,97,98,99,100,101,102,103,104,105,106,107,108,109,110,111,112,113,114,115,116,117,118,119,120,121,122,123,124,125,126,127,128,129,130,131,132,133] Z (xK 2 Z (nB (A0 Z (AE (bN (tN (rG (evI ?_)))))))));refine eZ Z (oN ?_);refine lQ _ ?_ ?_
    ·skip
     exact ⟨by omega, by omega, Cc hj0 (by omega) hj2 (by grind [AM])⟩
    ·(show Int.toNat _ < Int.toNat _); omega
   simp only [HS] at h15;refine xK 4 Z (gY Z (evE ?_));refine kZ [1,3,7,76,77,78,79,80,81,82,83,84,85,86,87,88,89,90,91,92,93,94,95,96,97,98,99,100,101,102,103,104,105,106,107,108,109,110,111,112,113,114,115,116,117,118,119,120,121,122,123,124,125,126,127,128,129,130,131,132] Z (xK 3 Z (nB ?_));refine AD Z (fun h16 => ?_) (fun h16 => ?_)
   ·
    simp only [HS] at h16;refine sG (eZ Z (nB (rT (bR (tR (AU (bR (tR (eR ?_)))))))))
    ·(have hh := Db (l := w.tasks) (p := AM w.room.length) hj0 (by omega) (by grind [AM]); exact Am (by grind [AC]))
   simp only [HS] at h16;refine AE (bN (tN (rG (evI ?_))));refine eZ Z (oN ?_);refine lQ _ ?_ ?_
   ·skip
    exact ⟨by omega, by omega, Cc hj0 (by omega) hj2 (by grind [AM])⟩
   ·(show Int.toNat _ < Int.toNat _); omega
  simp only [HS] at h14;refine xK 2 Z (kZ [1,3,7,76,77,78,79,80,81,82,83,84,85,86,87,88,89,90,91,92,93,94,95,96,97,98,99,100,101,102,103,104,105,106,107,108,109,110,111,112,113] Z (xK 5 Z (gY Z (evE ?_))));refine xK 3 Z (kZ [1,3,7,76,77,78,79,80,81,82,83,84,85,86,87,88,89,90,91,92,93,94,95,96,97,98,99,100,101,102,103,104,105,106,107,108,109,110,111,112,113,114,115,116,117,118,119,120,121,122] Z (eZ Z ?_));refine gB (fun h15 => ?_) (fun h15 => ?_)
  ·
   simp only [HS] at h15;refine xK 8 Z (kZ [1,3,7,76,77,78,79,80,81,82,83,84,85,86,87,88,89,90,91,92,93,94,95,96,97,98,99,100,101,102,103,104,105,106,107,108,109,110,111,112,113,114,115,116,117,118,119,120,121,122,123,124,125,126,127,128,129,130,131,132] Z (xK 3 Z (nB (AS Z (sG (eZ Z (nB (rT (bR (tR (AU (bR (tR (eR ?_))))))))))))))
   ·(have hh := Db (l := w.tasks) (p := AM w.room.length) hj0 (by omega) (by grind [AM]); exact Am (by grind [AC]))
  simp only [HS] at h15;refine xK 4 Z ?_;refine gB (fun h16 => ?_) (fun h16 => ?_)
  ·
   simp only [HS] at h16;refine xK 4 Z (kZ [1,3,7,76,77,78,79,80,81,82,83,84,85,86,87,88,89,90,91,92,93,94,95,96,97,98,99,100,101,102,103,104,105,106,107,108,109,110,111,112,113,114,115,116,117,118,119,120,121,122,123,124,125,126,127,128,129,130,131,132] Z (xK 3 Z (nB (A0 Z (AE (bN (tN (rG (evI ?_)))))))));refine eZ Z (oN ?_);refine lQ _ ?_ ?_
   ·skip
    exact ⟨by omega, by omega, Cc hj0 (by omega) hj2 (by grind [AM])⟩
   ·(show Int.toNat _ < Int.toNat _); omega
  simp only [HS] at h16;refine xK 4 Z (kZ [1,3,7,76,77,78,79,80,81,82,83,84,85,86,87,88,89,90,91,92,93,94,95,96,97,98,99,100,101,102,103,104,105,106,107,108,109,110,111,112,113,114,115,116,117,118,119,120,121,122,123,124,125,126,127,128,129,130,131] Z (gY Z (evE ?_)));refine xK 3 Z (nB ?_);refine AD Z (fun h17 => ?_) (fun h17 => ?_)
  ·
   simp only [HS] at h17;refine sG (eZ Z (nB (rT (bR (tR (AU (bR (tR (eR ?_)))))))))
   ·exact Am (by grind [AC])
  simp only [HS] at h17;refine AE (bN (tN (rG (evI ?_))));refine eZ Z (oN ?_);refine lQ _ ?_ ?_
  ·skip
   exact ⟨by omega, by omega, Cc hj0 (by omega) hj2 (by grind [AM])⟩
  ·(show Int.toNat _ < Int.toNat _); omega
 simp only [HS] at h9;refine AR (tE (AO (AN (tN (sG (eZ Z (nB (rT (eR ?_)))))))))
 ·(have hh := Et (l := w.tasks) (by omega) hj2; have h0 : BT w.held w.room = true := (by rw [hk2, BB h8]; simp [BT]); exact Am (by grind [AC]))
theorem Bk (n : Int) : Fun Try.prog 64 [.t (.int n)] (tupD [.t (.bool (DJ n))]) := by
 refine Fun.begin tys Try.func64 Z Z (N := 5) [(0, .t (.int n))] Z Z (fun w0 G F0 => ?_);refine sG (eZ Z (nA (eZ Z (AQ ?_))));refine ⟨_, BX _ _ _, rfl, ?_⟩;refine eZ Z (nB (rT (eR ?_)))
 ·rfl
theorem Hj (n : Int) : Fun Try.prog 63 [.t (.int n)] (tupD [.t (.bool (!DJ n))]) := by
 refine Fun.begin tys Try.func63 Z Z (N := 6) [(0, .t (.int n))] Z Z (fun w0 G F0 => ?_);refine sG (eZ Z (nA (eZ Z (AQ ?_))));refine ⟨_, Bk _, rfl, ?_⟩;refine eK 2 Z (nB (rT (eR ?_)))
 ·rfl
theorem Hi (n : Int) : Fun Try.prog 65 [.t (.int n)] (tupD [.t (.bool (!DJ n))]) := by
 refine Fun.begin tys Try.func65 Z Z (N := 6) [(0, .t (.int n))] Z Z (fun w0 G F0 => ?_);refine sG (eZ Z (nA (eZ Z (AQ ?_))));refine ⟨_, Bk _, rfl, ?_⟩;refine eK 2 Z (nB (rT (eR ?_)))
 ·rfl
theorem J4 (l : List Act) (p : Act → Bool) (f : Nat) (caps : List D) (hcaps : caps.all D.imm = true) (hl : l.length ≤ 9223372036854775807) (hf : ∀ x, x ∈ l → Fun Try.prog f (.t x.tt :: caps) (.t (.bool (p x)))) : Fun Try.prog 89 [.t (T.Acts l), .clo f caps] (tupD [.t (.int (C6 p l 0))]) := by
 refine Fun.begin tys Try.func89 Z Z (N := 19) [(0, .t (T.Acts l)), (1, .clo f caps)] Z Z (fun w0 G F0 => ?_);refine sG (eZ Z (nB (sQ (sG (eZ Z (evE ?_))))));refine eZ Z (nB (AG ?_));refine lK (α := Int) [0, 1, 7] [] (fun x => [(8, .t (.int x))]) (fun x => []) (fun x => 0 ≤ x ∧ x ≤ l.length ∧ C6 p l 0 = C6 p (l.drop x.toNat) x) (fun x => Int.toNat (l.length - x)) 0 ?_ (fun k hx => ?_)
 ·exact ⟨by omega, by omega, rfl⟩
 obtain ⟨hk0, hk1, hk2⟩ := hx
 refine nY Z (sG (eZ Z (nB (sQ ?_))));refine AD Z (fun h1 => ?_) (fun h1 => ?_)
 ·
  simp only [HS] at h1;refine AE (tN (sQ (AG (sG (eK 2 Z (nA (BJ tys Z Z (AA Z) Z Z (by assumption) ?_)))))));refine eK 2 Z (BU tys Z Z (AA Z) Z Z Z Z Z Z Z (by omega) _ (Az _ (by omega) (by omega)) (eZ Z ?_))
  try refine WO_le (Le.freeze (u := 15) rfl) ?_
  refine nZ Z ?_;refine CK Z Z (AA Z) Z Z (by repeat (first | exact ResL.done | exact ResL.imms (by first | rfl | assumption) | refine ResL.t ?_ | refine ResL.own ?_ | refine ResL.slA Z (by first | rfl | (simp; done) | (simp; omega)) ?_ | refine ResL.sl Z (by first | omega | (simp; done) | (simp; omega)) ?_ | refine ResL.rp ?_ | refine ResL.clo ?_ ?_ | refine ResL.aggT ?_ ?_ | refine ResL.ref Z ?_ ?_ | refine ResL.nil' ?_ | refine ResL.nil 1 ?_)) (hf _ (Nl _)) Z ?_;refine kZ [0,1,5,7,8,9,10,11,12,13,14,15,16] Z (nB ?_);refine AD Z (fun h2 => ?_) (fun h2 => ?_)
  ·
   refine sG (eK 2 Z (nB (rT (bR (tR (AU (bR (tR (eR ?_)))))))))
   ·rw [hk2, Ef hk0 h1]
    simp [h2]
    done
  refine AE (bN (tN (rG (evI ?_))));refine eZ Z (oN ?_);refine lQ _ ?_ ?_
  ·skip
   refine ⟨by omega, by omega, ?_⟩; rw [hk2, Ef hk0 h1]; simp [h2]
  ·(show Int.toNat _ < Int.toNat _); omega
 simp only [HS] at h1;refine AR (tE (AO (AN (tN (sG (eZ Z (nB (rT (eR ?_)))))))))
 ·rw [hk2, BB h1]
  rfl
theorem EY (l : List Act) (p : Act → Bool) (f : Nat) (caps : List D) (hcaps : caps.all D.imm = true) (hl : l.length ≤ 9223372036854775807) (hf : ∀ x, x ∈ l → Fun Try.prog f (.t x.tt :: caps) (.t (.bool (p x)))) : Fun Try.prog 66 [.t (T.Acts l), .clo f caps] (tupD [.t (.bool (l.any p))]) := by
 refine Fun.begin tys Try.func66 Z Z (N := 9) [(0, .t (T.Acts l)), (1, .clo f caps)] Z Z (fun w0 G F0 => ?_);refine sG (eZ Z (nA (eZ Z (BJ tys Z Z (AA Z) Z Z (by assumption) ?_))));refine CK Z Z (AA Z) Z Z (by repeat (first | exact ResL.done | exact ResL.imms (by first | rfl | assumption) | refine ResL.t ?_ | refine ResL.own ?_ | refine ResL.slA Z (by first | rfl | (simp; done) | (simp; omega)) ?_ | refine ResL.sl Z (by first | omega | (simp; done) | (simp; omega)) ?_ | refine ResL.rp ?_ | refine ResL.clo ?_ ?_ | refine ResL.aggT ?_ ?_ | refine ResL.ref Z ?_ ?_ | refine ResL.nil' ?_ | refine ResL.nil 1 ?_)) (J4 l p f caps hcaps hl hf) Z ?_;refine eK 2 Z (nB (rT (eR ?_)))
 ·rw [← DL (OZ 0)]
theorem AX {α : Type} {p : α → Bool} {l : List α} : (l.any fun b => !p b) = !l.all p := by rw [List.not_all_eq_any_not]
theorem BL {l : List Int} : (l.any fun n => !DJ n) = !BD l (-1000) 1000 := AX
theorem isAct1_fun (b : Act) (c : Int) (hs : Fun Try.prog 68 [.t b.tt, .t (.int c)] (.t (.bool (AJ c b)))) : Fun Try.prog 90 [.t b.tt, .rp (.agg [T.int c]) 0] (tupD [.t (.bool (!caseAct c b))]) := by
 refine Fun.begin tys Try.func90 Z Z (N := 18) [(0, .t b.tt), (1, .rp (.agg [T.int c]) 0)] Z Z (fun w0 G F0 => ?_);refine sG (Aa Z Z (AA Z) Z Z (nZ Z (eZ Z (nA (eK 4 Z ?_)))));refine gB (fun h1 => ?_) (fun h1 => ?_)
 ·
  simp only [HS] at h1;refine xK 3 Z (kZ [1,2,3,11] Z (xK 2 Z ?_))
  try refine WO_le (Le.freeze (u := 13) rfl) ?_
  refine nZ Z (xZ Z (gY Z (AQ ?_)));refine ⟨_, hs, rfl, ?_⟩;refine xK 3 Z (nB (rT (eR ?_)))
  ·exact Am (by grind [caseAct, AJ])
 simp only [HS] at h1;refine xK 3 Z (kZ [1,2,3,7,10] Z (eK 2 Z ?_));refine gB (fun h2 => ?_) (fun h2 => ?_)
 ·
  simp only [HS] at h2;refine xK 5 Z (nB (rT (eR ?_)))
  ·exact Am (by grind [caseAct, AJ])
 simp only [HS] at h2;refine eZ Z ?_
 try refine WO_le (Le.freeze (u := 13) rfl) ?_
 refine nZ Z (xZ Z (gY Z (AQ ?_)));refine ⟨_, hs, rfl, ?_⟩;refine xK 3 Z (nB (rT (eR ?_)))
 ·exact Am (by grind [caseAct, AJ])
theorem J2 (a : Act) (c : Int) (ha : a.cases.length ≤ 9223372036854775807) (hc0 : 1 ≤ c) (hc1 : c ≤ 1000) (ih : ∀ b, b ∈ a.cases → Fun Try.prog 68 [.t b.tt, .t (.int c)] (.t (.bool (AJ c b)))) : Fun Try.prog 68 [.t a.tt, .t (.int c)] (tupD [.t (.bool (AJ c a))]) := by
 refine Fun.begin tys Try.func68 Z Z (N := 81) [(0, .t a.tt), (1, .t (.int c))] Z Z (fun w0 G F0 => ?_);refine sG (Aa Z Z (AA Z) Z Z (nZ Z (Aa Z Z (AA Z) Z Z (nZ Z (eZ Z (nA (eK 3 Z (evI ?_))))))));refine AQ ?_;refine ⟨_, BX _ _ _, rfl, ?_⟩;refine eZ Z (kZ [2,3,4,5] Z (nB (sQ (sG (eK 2 Z (nB (AG (sG (eK 2 Z (nB ?_))))))))));refine AD Z (fun h1 => ?_) (fun h1 => ?_)
 ·
  simp only [HS] at h1;refine sG (eK 2 Z ?_);refine gB (fun h2 => ?_) (fun h2 => ?_)
  ·
   simp only [HS] at h2;refine xK 3 Z (kZ [2,4,20] Z (xK 7 Z (nB (rT (bR (tR (eR ?_)))))))
   ·clear ih; first | exact Am (by grind [AJ, AI]) | (have e := AX (p := caseAct c) (l := a.cases); exact Am (by grind [AJ, AI]))
  simp only [HS] at h2;refine xK 2 Z (gY Z (AQ ?_));refine ⟨_, Bk _, rfl, ?_⟩;refine kZ [2,4,16,19] Z (eK 2 Z ?_);refine gB (fun h3 => ?_) (fun h3 => ?_)
  ·
   simp only [HS] at h3;refine xK 5 Z (nB (rT (bR (tR (eR ?_)))))
   ·clear ih; first | exact Am (by grind [AJ, AI]) | (have e := AX (p := caseAct c) (l := a.cases); exact Am (by grind [AJ, AI]))
  refine xK 2 Z (gY Z (evE ?_));refine xK 3 Z (nB (rT (bR (tR (eR ?_)))))
  ·clear ih; first | exact Am (by grind [AJ, AI]) | (have e := AX (p := caseAct c) (l := a.cases); exact Am (by grind [AJ, AI]))
 simp only [HS] at h1;refine sQ (sG (eK 2 Z (nB ?_)));refine AD Z (fun h2 => ?_) (fun h2 => ?_)
 ·
  simp only [HS] at h2;refine AE (tN ?_);refine AD Z (fun h3 => ?_) (fun h3 => ?_)
  ·
   simp only [HS] at h3;refine sG (eK 2 Z ?_);refine gB (fun h4 => ?_) (fun h4 => ?_)
   ·
    simp only [HS] at h4;refine xZ Z (kZ [2,4,31,33] Z (xK 9 Z (kZ [4] Z (nB (rT (bR (tR (eR ?_))))))))
    ·clear ih; first | exact Am (by grind [AJ, AI]) | (have e := AX (p := caseAct c) (l := a.cases); exact Am (by grind [AJ, AI]))
   simp only [HS] at h4;refine xK 2 Z (kZ [2,4,31,33] Z (xK 3 Z ?_));refine gB (fun h5 => ?_) (fun h5 => ?_)
   ·
    simp only [HS] at h5;refine xK 5 Z (nB (rT (bR (tR (eR ?_)))))
    ·clear ih; first | exact Am (by grind [AJ, AI]) | (have e := AX (p := caseAct c) (l := a.cases); exact Am (by grind [AJ, AI]))
   simp only [HS] at h5;refine xK 2 Z (gY Z (evE ?_));refine xK 3 Z (kZ [4] Z (nB (rT (bR (tR (eR ?_))))))
   ·clear ih; first | exact Am (by grind [AJ, AI]) | (have e := AX (p := caseAct c) (l := a.cases); exact Am (by grind [AJ, AI]))
  simp only [HS] at h3;refine sG (eK 2 Z (nB ?_));refine AD Z (fun h4 => ?_) (fun h4 => ?_)
  ·
   simp only [HS] at h4;refine sQ (kY [2,4] Z (rG (eK 4 Z ?_)));refine gB (fun h5 => ?_) (fun h5 => ?_)
   ·
    simp only [HS] at h5;refine xK 5 Z (kZ [4,52,53] Z (xK 5 Z (nB (rT (bR (tR (eR ?_)))))))
    ·clear ih; first | exact Am (by grind [AJ, AI]) | (have e := AX (p := caseAct c) (l := a.cases); exact Am (by grind [AJ, AI]))
   simp only [HS] at h5;refine xK 5 Z (kZ [2,4,52] Z ?_);refine gB (fun h6 => ?_) (fun h6 => ?_)
   ·
    simp only [HS] at h6;refine xK 5 Z (nB (rT (bR (tR (eR ?_)))))
    ·clear ih; first | exact Am (by grind [AJ, AI]) | (have e := AX (p := caseAct c) (l := a.cases); exact Am (by grind [AJ, AI]))
   simp only [HS] at h6;refine xK 2 Z (gY Z (evE ?_));refine xK 3 Z (nB (rT (bR (tR (eR ?_)))))
   ·clear ih; first | exact Am (by grind [AJ, AI]) | (have e := AX (p := caseAct c) (l := a.cases); exact Am (by grind [AJ, AI]))
  simp only [HS] at h4;refine sQ (kY [2,3,4,12] Z (rG (eK 2 Z (nB ?_))));refine AD Z (fun h5 => ?_) (fun h5 => ?_)
  ·
   simp only [HS] at h5;refine sG (eK 4 Z ?_);refine gB (fun h6 => ?_) (fun h6 => ?_)
   ·
    simp only [HS] at h6;refine xK 3 Z (kZ [2,3,4,67] Z (xK 9 Z (kZ [3,4,74,76] Z (xK 5 Z (nB (rT (bR (tR (eR ?_)))))))))
    ·clear ih; first | exact Am (by grind [AJ, AI]) | (have e := AX (p := caseAct c) (l := a.cases); exact Am (by grind [AJ, AI]))
   simp only [HS] at h6;refine xK 3 Z (kZ [2,3,4,63,66] Z (eK 2 Z ?_));refine gB (fun h7 => ?_) (fun h7 => ?_)
   ·
    simp only [HS] at h7;refine xK 7 Z (kZ [3,4,74,76] Z (xK 5 Z (nB (rT (bR (tR (eR ?_)))))))
    ·clear ih; first | exact Am (by grind [AJ, AI]) | (have e := AX (p := caseAct c) (l := a.cases); exact Am (by grind [AJ, AI]))
   simp only [HS] at h7;refine xK 2 Z (gY Z (evE ?_));refine gY Z (AQ ?_);refine ⟨_, BX _ _ _, rfl, ?_⟩;refine eK 2 Z ?_;refine gB (fun h8 => ?_) (fun h8 => ?_)
   ·
    simp only [HS] at h8;refine xZ Z (kZ [3,4,74,76] Z (xK 5 Z (nB (rT (bR (tR (eR ?_)))))))
    ·clear ih; first | exact Am (by grind [AJ, AI]) | (have e := AX (p := caseAct c) (l := a.cases); exact Am (by grind [AJ, AI]))
   simp only [HS] at h8;refine xK 2 Z (kZ [3,4,74,76] Z (xZ Z (gY Z (AQ ?_))));refine ⟨_, EY a.cases (fun b => !caseAct c b) _ [.rp (.agg [T.int c]) 0] Z ha (fun b hb => isAct1_fun b c (ih b hb)), rfl, ?_⟩;refine xK 3 Z (nB (rT (bR (tR (eR ?_)))))
   ·clear ih; first | exact Am (by grind [AJ, AI]) | (have e := AX (p := caseAct c) (l := a.cases); exact Am (by grind [AJ, AI]))
  simp only [HS] at h5;refine AE (bN (tN (sG (eZ Z (nB (rT (eR ?_)))))))
  ·clear ih; first | exact Am (by grind [AJ, AI]) | (have e := AX (p := caseAct c) (l := a.cases); exact Am (by grind [AJ, AI]))
 simp only [HS] at h2;refine rG (eK 2 Z (nB ?_));refine AD Z (fun h3 => ?_) (fun h3 => ?_)
 ·
  simp only [HS] at h3;refine sQ (kY [2,4,5] Z (rG (eK 2 Z ?_)));refine gB (fun h4 => ?_) (fun h4 => ?_)
  ·
   simp only [HS] at h4;refine xK 7 Z (kZ [4,36,39] Z (xK 3 Z (nB (rT (bR (tR (eR ?_)))))))
   ·clear ih; first | exact Am (by grind [AJ, AI]) | (have e := AX (p := caseAct c) (l := a.cases); exact Am (by grind [AJ, AI]))
  simp only [HS] at h4;refine xK 5 Z ?_;refine gB (fun h5 => ?_) (fun h5 => ?_)
  ·
   simp only [HS] at h5;refine xK 2 Z (kZ [4,36,39] Z (xK 3 Z (nB (rT (bR (tR (eR ?_)))))))
   ·clear ih; first | exact Am (by grind [AJ, AI]) | (have e := AX (p := caseAct c) (l := a.cases); exact Am (by grind [AJ, AI]))
  simp only [HS] at h5;refine xK 2 Z (kZ [4,36,38] Z (gY Z (evE ?_)));refine xK 3 Z (nB (rT (bR (tR (eR ?_)))))
  ·clear ih; first | exact Am (by grind [AJ, AI]) | (have e := AX (p := caseAct c) (l := a.cases); exact Am (by grind [AJ, AI]))
 simp only [HS] at h3;refine sQ (kY [2,3,4,12] Z (rG (eK 2 Z (nB ?_))));refine AD Z (fun h4 => ?_) (fun h4 => ?_)
 ·
  simp only [HS] at h4;refine sG (eK 4 Z ?_);refine gB (fun h5 => ?_) (fun h5 => ?_)
  ·
   simp only [HS] at h5;refine xK 3 Z (kZ [2,4,51] Z (xK 7 Z (nB (rT (bR (tR (eR ?_)))))))
   ·clear ih; first | exact Am (by grind [AJ, AI]) | (have e := AX (p := caseAct c) (l := a.cases); exact Am (by grind [AJ, AI]))
  simp only [HS] at h5;refine xK 3 Z (kZ [2,4,47,50] Z (eK 2 Z ?_));refine gB (fun h6 => ?_) (fun h6 => ?_)
  ·
   simp only [HS] at h6;refine xK 5 Z (nB (rT (bR (tR (eR ?_)))))
   ·clear ih; first | exact Am (by grind [AJ, AI]) | (have e := AX (p := caseAct c) (l := a.cases); exact Am (by grind [AJ, AI]))
  simp only [HS] at h6;refine xK 2 Z (gY Z (evE ?_));refine xK 3 Z (nB (rT (bR (tR (eR ?_)))))
  ·clear ih; first | exact Am (by grind [AJ, AI]) | (have e := AX (p := caseAct c) (l := a.cases); exact Am (by grind [AJ, AI]))
 simp only [HS] at h4;refine sG (eK 2 Z (nB ?_));refine AD Z (fun h5 => ?_) (fun h5 => ?_)
 ·
  simp only [HS] at h5;refine sG (eK 4 Z ?_);refine gB (fun h6 => ?_) (fun h6 => ?_)
  ·
   simp only [HS] at h6;refine xZ Z (kZ [2,3,4,63,65] Z (xK 9 Z (kZ [2,3,4,74] Z (xK 7 Z (nB (rT (bR (tR (eR ?_)))))))))
   ·clear ih; first | exact Am (by grind [AJ, AI]) | (have e := AX (p := caseAct c) (l := a.cases); exact Am (by grind [AJ, AI]))
  simp only [HS] at h6;refine xK 2 Z (kZ [2,3,4,63,65] Z (xK 3 Z ?_));refine gB (fun h7 => ?_) (fun h7 => ?_)
  ·
   simp only [HS] at h7;refine xK 6 Z (kZ [3,4,74,75] Z (xK 6 Z (nB (rT (bR (tR (eR ?_)))))))
   ·clear ih; first | exact Am (by grind [AJ, AI]) | (have e := AX (p := caseAct c) (l := a.cases); exact Am (by grind [AJ, AI]))
  simp only [HS] at h7;refine xK 2 Z (gY Z (evE ?_));refine gY Z (AQ ?_);refine ⟨_, BX _ _ _, rfl, ?_⟩;refine eK 2 Z (kZ [2,3,4,74] Z ?_);refine gB (fun h8 => ?_) (fun h8 => ?_)
  ·
   simp only [HS] at h8;refine xK 6 Z (nB (rT (bR (tR (eR ?_)))))
   ·clear ih; first | exact Am (by grind [AJ, AI]) | (have e := AX (p := caseAct c) (l := a.cases); exact Am (by grind [AJ, AI]))
  simp only [HS] at h8;refine xK 3 Z (gY Z (AQ ?_));refine ⟨_, EY a.cases (fun b => !caseAct c b) _ [.rp (.agg [T.int c]) 0] Z ha (fun b hb => isAct1_fun b c (ih b hb)), rfl, ?_⟩;refine xK 3 Z (nB (rT (bR (tR (eR ?_)))))
  ·clear ih; first | exact Am (by grind [AJ, AI]) | (have e := AX (p := caseAct c) (l := a.cases); exact Am (by grind [AJ, AI]))
 simp only [HS] at h5;refine AE (bN (tN (sG (eZ Z (nB (rT (eR ?_)))))))
 ·clear ih; first | exact Am (by grind [AJ, AI]) | (have e := AX (p := caseAct c) (l := a.cases); exact Am (by grind [AJ, AI]))
theorem K4 (a : Act) (c : Int) (ha : a.ok 9223372036854775807) (hc0 : 1 ≤ c) (hc1 : c ≤ 1000) : Fun Try.prog 68 [.t a.tt, .t (.int c)] (.t (.bool (AJ c a))) :=
 Act.ind (p := fun a => a.ok 9223372036854775807 → Fun Try.prog 68 [.t a.tt, .t (.int c)] (.t (.bool (AJ c a)))) (fun a ih ha => J2 a c ha.cases'.1 hc0 hc1 fun b hb => ih b hb (ha.cases'.2 b hb)) a ha
theorem Hh (a : Act) (c : Int) (ha : a.ok 9223372036854775807) (hc0 : 1 ≤ c) (hc1 : c ≤ 1000) : Fun Try.prog 67 [.t a.tt, .rp (.agg [T.int c]) 0] (tupD [.t (.bool (!AJ c a))]) := by
 refine Fun.begin tys Try.func67 Z Z (N := 8) [(0, .t a.tt), (1, .rp (.agg [T.int c]) 0)] Z Z (fun w0 G F0 => ?_);refine sG (Aa Z Z (AA Z) Z Z (nZ Z (eZ Z (nA (eZ Z ?_)))))
 try refine WO_le (Le.freeze (u := 4) rfl) ?_
 refine nZ Z (eZ Z (AQ ?_));refine ⟨_, K4 _ _ ha hc0 hc1, rfl, ?_⟩;refine eK 2 Z (nB (rT (eR ?_)))
 ·rfl
theorem CR (w : World) (hw : w.ok 1048576) (hw' : w.ok 9223372036854775807) : Fun Try.prog 26 [.t w.tt] (tupD [.t (.bool (AC w))]) := by
 have hw1 : w.room.length ≤ 1048576 := hw.1
 have hw2 : w.held.length ≤ 1048576 := hw.2.1.1
 have hw3 : w.shut.length ≤ 1048576 := hw.2.2.1
 have hw4 : w.tasks.length ≤ 1048576 := hw.2.2.2.1.1
 have hw5 : w.trace.length ≤ 1048576 := hw.2.2.2.2.1
 refine Fun.begin tys Try.func26 Z Z (N := 127) [(0, .t w.tt)] Z Z (fun w0 G F0 => ?_);refine sG (Aa Z Z (AA Z) Z Z (nZ Z (eZ Z (nA (eK 2 Z (evE ?_))))));refine AK tys Z Z (AA Z) Z Z Z (nZ Z (sT Z (nZ Z (nB (sQ (sQ (kY [1,2,3] Z (rG (eZ Z (AQ ?_))))))))));refine ⟨_, BX _ _ _, rfl, ?_⟩;refine eK 2 Z ?_;refine gB (fun h1 => ?_) (fun h1 => ?_)
 ·
  simp only [HS] at h1;refine xK 5 Z (kZ [1,2,3,20] Z (xK 9 Z (kZ [1,2,3,28,29] Z (xK 9 Z (kZ [1,2,3,35,38] Z (xK 7 Z (nB (AS Z (sQ (kY [1,2,3] Z (rG (eZ Z (nB (rT (tR ?_)))))))))))))));refine eR ?_
  ·have e0 := BL (l := w.trace)
   first
   | exact Am (by grind [AC])
 simp only [HS] at h1;refine xK 2 Z (gY Z (evE ?_));refine xK 2 Z (kZ [1,2,3,14,19] Z (eK 2 Z ?_));refine gB (fun h2 => ?_) (fun h2 => ?_)
 ·
  simp only [HS] at h2;refine xK 7 Z (kZ [1,2,3,28,29] Z (xK 9 Z (kZ [1,2,3,35,38] Z (xK 7 Z (nB (AS Z (sQ (kY [1,2,3] Z (rG (eZ Z (nB (rT (tR (eR ?_))))))))))))))
  ·have e0 := BL (l := w.trace)
   first
   | exact Am (by grind [AC])
 simp only [HS] at h2;refine xK 2 Z (gY Z (evE ?_));refine xK 4 Z (kZ [1,2,3,28] Z ?_);refine gB (fun h3 => ?_) (fun h3 => ?_)
 ·
  simp only [HS] at h3;refine xK 9 Z (kZ [1,2,3,35,38] Z (xK 7 Z (nB (AS Z (sQ (kY [1,2,3] Z (rG (eZ Z (nB (rT (tR (eR ?_))))))))))))
  ·have e0 := BL (l := w.trace)
   first
   | exact Am (by grind [AC])
 simp only [HS] at h3;refine xK 2 Z (gY Z (evE ?_));refine gY Z (AQ ?_);refine ⟨_, BX _ _ _, rfl, ?_⟩;refine xK 3 Z ?_;refine gB (fun h4 => ?_) (fun h4 => ?_)
 ·
  simp only [HS] at h4;refine xK 2 Z (kZ [1,2,3,35,38] Z (xK 7 Z (nB (AS Z (sQ (kY [1,2,3] Z (rG (eZ Z (nB (rT (tR (eR ?_))))))))))))
  ·have e0 := BL (l := w.trace)
   first
   | exact Am (by grind [AC])
 simp only [HS] at h4;refine xK 2 Z (kZ [1,2,3,35,37] Z (gY Z (evE ?_)));refine xK 3 Z ?_;refine gB (fun h5 => ?_) (fun h5 => ?_)
 ·
  simp only [HS] at h5;refine xK 3 Z (nB (AS Z (sQ (kY [1,2,3] Z (rG (eZ Z (nB (rT (tR (eR ?_))))))))))
  ·have e0 := BL (l := w.trace)
   first
   | exact Am (by grind [AC])
 simp only [HS] at h5;refine xK 2 Z (gY Z (AQ ?_));refine ⟨_, JT w.trace (fun n => !DJ n) _ [] Z (by omega) (fun x _ => Hj x), rfl, ?_⟩;refine eZ Z (nB ?_);refine AD Z (fun h6 => ?_) (fun h6 => ?_)
 ·
  refine sQ (kY [1,2,3] Z (rG (eZ Z (nB (rT (tR (eR ?_)))))))
  ·have e0 := BL (l := w.trace)
   first
   | exact Am (by grind [AC])
 refine AE (tN (sQ (sQ (kY [1,2,3] Z (rG (eK 2 Z (evE ?_)))))));refine eZ Z (nB (AG ?_));refine lK (α := Int) [1, 3, 47, 48] [1, 3] (fun x => [(49, .t (.int x))]) (fun x => []) (fun x => 0 ≤ x ∧ x ≤ w.room.length ∧ (w.held.length : Int) = w.room.length ∧ BD (w.room.take x.toNat) 0 3 = true ∧ BT w.held w.room = BT (w.held.drop x.toNat) (w.room.drop x.toNat)) (fun x => Int.toNat (w.room.length - x)) 0 ?_ (fun k hx => ?_)
 ·exact ⟨by omega, by omega, by assumption, by simp [BD], rfl⟩
 obtain ⟨hk0, hk1, hk3, hk4, hk2⟩ := hx
 refine nY Z (sG (eZ Z (nB (sQ ?_))));refine AD Z (fun h7 => ?_) (fun h7 => ?_)
 ·
  simp only [HS] at h7;refine AE (tN (sQ (AG (sG (eZ Z ?_)))));refine iY (k := ?_);refine eK 3 Z (nA (eZ Z (AQ ?_)));refine ⟨_, BX _ _ _, rfl, ?_⟩;refine eZ Z (kZ [1,3,4,5,47,48,49,50,51,52,53,54,55,56] Z (eZ Z ?_));refine gB (fun h8 => ?_) (fun h8 => ?_)
  ·
   simp only [HS] at h8;refine xK 8 Z (kZ [1,3,4,5,47,48,49,50,51,52,53,54,55,56,57,58,59,60,61,62,63,64,65,66] Z (xK 8 Z (nB (AS Z (sQ (kY [1,3,4,5,47,48,49,50,51,52,53,54,55,56,57,58,59,60,61,62,63,64,65,66,67,68,69,70,71,72,73,74] Z (rG (eZ Z (nB (rT (bR (tR (AU (bR (tR ?_)))))))))))))));refine eR ?_
   ·have e0 := BL (l := w.trace)
    first
    | (have hh := Jf (l := w.room) (lo := 0) (hi := 3) hk0 (by omega) (by assumption); exact Am (by grind [AC]))
  simp only [HS] at h8;refine xK 3 Z (gY Z ?_);refine iY (k := ?_);refine xZ Z (gY Z (evE ?_));refine xK 2 Z (kZ [1,3,4,5,47,48,49,50,51,52,53,54,55,56,57,58,59,60,61,62,63,64,65] Z (eK 2 Z ?_));refine gB (fun h9 => ?_) (fun h9 => ?_)
  ·
   simp only [HS] at h9;refine xK 6 Z (nB (AS Z (sQ (kY [1,3,4,5,47,48,49,50,51,52,53,54,55,56,57,58,59,60,61,62,63,64,65,66,67,68,69,70,71,72,73,74] Z (rG (eZ Z (nB (rT (bR (tR (AU (bR (tR (eR ?_))))))))))))))
   ·have e0 := BL (l := w.trace)
    first
    | (have hh : BT w.held w.room = false := (by have e := BL (l := w.held[k.toNat]'(by omega)); rw [hk2, Co hk0 (by omega) (by omega)]; grind); exact Am (by grind [AC]))
  simp only [HS] at h9;refine xK 3 Z (gY Z ?_);refine iY (k := ?_);refine xZ Z (gY Z (AQ ?_));refine ⟨_, JT _ (fun n => !DJ n) _ [] Z (by have := hw'.2.1.2 _ (Nl (l := w.held) (n := k.toNat) (by omega)); exact this) (fun x _ => Hi x), rfl, ?_⟩;refine eZ Z (kZ [1,3,4,5,47,48,49,50,51,52,53,54,55,56,57,58,59,60,61,62,63,64,65,66,67,68,69,70,71,72,73,74] Z (nB ?_));refine AD Z (fun h10 => ?_) (fun h10 => ?_)
  ·
   refine sG (eZ Z (nB (rT (bR (tR (AU (bR (tR (eR ?_)))))))))
   ·have e0 := BL (l := w.trace)
    first
    | (have hh : BT w.held w.room = false := (by have e := BL (l := w.held[k.toNat]'(by omega)); rw [hk2, Co hk0 (by omega) (by omega)]; grind); exact Am (by grind [AC]))
  refine AE (bN (tN (rG (evI ?_))));refine eZ Z (oN ?_);refine lQ _ ?_ ?_
  ·skip
   exact ⟨by omega, by omega, hk3, GC hk0 (by omega) hk4 (by assumption), by rw [hk2, Co hk0 (by omega) (by omega)]; grind [BL]⟩
  ·(show Int.toNat _ < Int.toNat _); omega
 simp only [HS] at h7;refine AR (tE (AO (AN (tN (sQ (sG (eK 2 Z (evE ?_))))))));refine eZ Z (nB (AG ?_));refine lK (α := Int) [1, 3, 77, 78] [1, 3] (fun x => [(79, .t (.int x))]) (fun x => []) (fun x => 0 ≤ x ∧ x ≤ w.tasks.length ∧ (w.tasks.take x.toNat).all (AM w.room.length) = true) (fun x => Int.toNat (w.tasks.length - x)) 0 ?_ (fun k' hx => ?_)
 ·exact ⟨by omega, by omega, by simp⟩
 obtain ⟨hj0, hj1, hj2⟩ := hx
 refine nY Z (sG (eZ Z (nB (sQ ?_))));refine AD Z (fun h8 => ?_) (fun h8 => ?_)
 ·
  simp only [HS] at h8;refine AE (tN (sQ (AG (sG ?_))));refine iY (k := ?_);refine eZ Z ?_
  try refine WO_le (Le.freeze (u := 82) rfl) ?_
  refine nZ Z (AK tys Z Z (AA Z) Z Z Z (nZ Z (sT Z (nZ Z (nA (eK 2 Z (evE ?_)))))));refine eZ Z (kZ [1,3,7,77,78,79,80,81,82,83,84,85,86] Z (eZ Z ?_));refine gB (fun h9 => ?_) (fun h9 => ?_)
  ·
   simp only [HS] at h9;refine xK 8 Z (kZ [1,3,7,77,78,79,80,81,82,83,84,85,86,87,88,89,90,91,92,93,94,95,96] Z (xK 9 Z (kZ [1,3,7,77,78,79,80,81,82,83,84,85,86,87,88,89,90,91,92,93,94,95,96,97,98,99,100,101,102,103,104,105] Z (xK 9 Z (kZ [1,3,7,77,78,79,80,81,82,83,84,85,86,87,88,89,90,91,92,93,94,95,96,97,98,99,100,101,102,103,104,105,106,107,108,109,110,111,112,113,114] Z (xK 9 Z (kZ [1,3,7,77,78,79,80,81,82,83,84,85,86,87,88,89,90,91,92,93,94,95,96,97,98,99,100,101,102,103,104,105,106,107,108,109,110,111,112,113,114,115,116,117,118,119,120,121,122,123] Z (xK 2 Z (nB (AS Z (sG (eZ Z (nB (rT (bR ?_)))))))))))))));refine tR (AU (bR (tR (eR ?_))))
   ·have e0 := BL (l := w.trace)
    first
    | (have e := AX (p := AJ w.room.length) (l := (w.tasks[k'.toNat]'(by omega)).acts); have hh := Db (l := w.tasks) (p := AM w.room.length) hj0 (by omega) (by grind [AM, BK]); exact Am (by grind [AC]))
  simp only [HS] at h9;refine xK 4 Z (gY Z (evE ?_));refine gY Z (AQ ?_);refine ⟨_, BX _ _ _, rfl, ?_⟩;refine xK 2 Z (kZ [1,3,7,77,78,79,80,81,82,83,84,85,86,87,88,89,90,91,92,93,94,95] Z (eZ Z ?_));refine gB (fun h10 => ?_) (fun h10 => ?_)
  ·
   simp only [HS] at h10;refine xK 8 Z (kZ [1,3,7,77,78,79,80,81,82,83,84,85,86,87,88,89,90,91,92,93,94,95,96,97,98,99,100,101,102,103,104,105] Z (xK 9 Z (kZ [1,3,7,77,78,79,80,81,82,83,84,85,86,87,88,89,90,91,92,93,94,95,96,97,98,99,100,101,102,103,104,105,106,107,108,109,110,111,112,113,114] Z (xK 9 Z (kZ [1,3,7,77,78,79,80,81,82,83,84,85,86,87,88,89,90,91,92,93,94,95,96,97,98,99,100,101,102,103,104,105,106,107,108,109,110,111,112,113,114,115,116,117,118,119,120,121,122,123] Z (xK 2 Z (nB (AS Z (sG (eZ Z (nB (rT (bR (tR (AU ?_)))))))))))))));refine bR (tR (eR ?_))
   ·have e0 := BL (l := w.trace)
    first
    | (have e := AX (p := AJ w.room.length) (l := (w.tasks[k'.toNat]'(by omega)).acts); have hh := Db (l := w.tasks) (p := AM w.room.length) hj0 (by omega) (by grind [AM, BK]); exact Am (by grind [AC]))
  simp only [HS] at h10;refine xK 2 Z (gY Z (AQ ?_));refine ⟨_, BX _ _ _, rfl, ?_⟩;refine xK 3 Z ?_;refine gB (fun h11 => ?_) (fun h11 => ?_)
  ·
   simp only [HS] at h11;refine xK 2 Z (kZ [1,3,7,77,78,79,80,81,82,83,84,85,86,87,88,89,90,91,92,93,94,95,96,97,98,99,100,101,102,103,104,105] Z (xK 9 Z (kZ [1,3,7,77,78,79,80,81,82,83,84,85,86,87,88,89,90,91,92,93,94,95,96,97,98,99,100,101,102,103,104,105,106,107,108,109,110,111,112,113,114] Z (xK 9 Z (kZ [1,3,7,77,78,79,80,81,82,83,84,85,86,87,88,89,90,91,92,93,94,95,96,97,98,99,100,101,102,103,104,105,106,107,108,109,110,111,112,113,114,115,116,117,118,119,120,121,122,123] Z (xK 2 Z (nB (AS Z (sG (eZ Z (nB (rT (bR (tR (AU ?_)))))))))))))));refine bR (tR (eR ?_))
   ·have e0 := BL (l := w.trace)
    first
    | (have e := AX (p := AJ w.room.length) (l := (w.tasks[k'.toNat]'(by omega)).acts); have hh := Db (l := w.tasks) (p := AM w.room.length) hj0 (by omega) (by grind [AM, BK]); exact Am (by grind [AC]))
  simp only [HS] at h11;refine xK 2 Z (kZ [1,3,7,77,78,79,80,81,82,83,84,85,86,87,88,89,90,91,92,93,94,95,96,97,98,99,100,101,102,103,104] Z (xK 5 Z (gY Z (evE ?_))));refine xK 3 Z (kZ [1,3,7,77,78,79,80,81,82,83,84,85,86,87,88,89,90,91,92,93,94,95,96,97,98,99,100,101,102,103,104,105,106,107,108,109,110,111,112,113] Z (eZ Z ?_));refine gB (fun h12 => ?_) (fun h12 => ?_)
  ·
   simp only [HS] at h12;refine xK 8 Z (kZ [1,3,7,77,78,79,80,81,82,83,84,85,86,87,88,89,90,91,92,93,94,95,96,97,98,99,100,101,102,103,104,105,106,107,108,109,110,111,112,113,114,115,116,117,118,119,120,121,122,123] Z (xK 2 Z (nB (AS Z (sG (eZ Z (nB (rT (bR (tR (AU (bR (tR (eR ?_))))))))))))))
   ·have e0 := BL (l := w.trace)
    first
    | (have e := AX (p := AJ w.room.length) (l := (w.tasks[k'.toNat]'(by omega)).acts); have hh := Db (l := w.tasks) (p := AM w.room.length) hj0 (by omega) (by grind [AM, BK]); exact Am (by grind [AC]))
  simp only [HS] at h12;refine xK 2 Z (gY Z (AQ ?_));refine ⟨_, Bk _, rfl, ?_⟩;refine xK 3 Z ?_;refine gB (fun h13 => ?_) (fun h13 => ?_)
  ·
   simp only [HS] at h13;refine xK 2 Z (kZ [1,3,7,77,78,79,80,81,82,83,84,85,86,87,88,89,90,91,92,93,94,95,96,97,98,99,100,101,102,103,104,105,106,107,108,109,110,111,112,113,114,115,116,117,118,119,120,121,122,123] Z (xK 2 Z (nB (AS Z (sG (eZ Z (nB (rT (bR (tR (AU (bR (tR (eR ?_))))))))))))))
   ·have e0 := BL (l := w.trace)
    first
    | (have e := AX (p := AJ w.room.length) (l := (w.tasks[k'.toNat]'(by omega)).acts); have hh := Db (l := w.tasks) (p := AM w.room.length) hj0 (by omega) (by grind [AM, BK]); exact Am (by grind [AC]))
  simp only [HS] at h13;refine xK 2 Z (kZ [1,3,7,77,78,79,80,81,82,83,84,85,86,87,88,89,90,91,92,93,94,95,96,97,98,99,100,101,102,103,104,105,106,107,108,109,110,111,112,113,114,115,116,117,118,119,120,121,122] Z (xZ Z (gY Z (AQ ?_))));refine ⟨_, EY _ (fun b => !AJ w.room.length b) _ [.rp (.agg [T.int w.room.length]) 0] Z (by have := (hw'.2.2.2.1.2 _ (Nl (l := w.tasks) (n := k'.toNat) (by omega))).1.1; exact this) (fun b hb => Hh b _ ((hw'.2.2.2.1.2 _ (Nl (l := w.tasks) (n := k'.toNat) (by omega))).1.2 b hb) (by omega) (by omega)), rfl, ?_⟩;refine eZ Z (nB ?_);refine AD Z (fun h14 => ?_) (fun h14 => ?_)
  ·
   refine sG (eZ Z (nB (rT (bR (tR (AU (bR (tR (eR ?_)))))))))
   ·have e0 := BL (l := w.trace)
    first
    | (have e := AX (p := AJ w.room.length) (l := (w.tasks[k'.toNat]'(by omega)).acts); have hh := Db (l := w.tasks) (p := AM w.room.length) hj0 (by omega) (by grind [AM, BK]); exact Am (by grind [AC]))
  refine AE (bN (tN (rG (evI ?_))));refine eZ Z (oN ?_);refine lQ _ ?_ ?_
  ·skip
   exact ⟨by omega, by omega, Cc hj0 (by omega) hj2 (by have e := AX (p := AJ w.room.length) (l := (w.tasks[k'.toNat]'(by omega)).acts); grind [AM, BK])⟩
  ·(show Int.toNat _ < Int.toNat _); omega
 simp only [HS] at h8;refine AR (tE (AO (AN (tN (sG (eZ Z (nB (rT (eR ?_)))))))))
 ·have e0 := BL (l := w.trace)
  first
  | (have hh := Et (l := w.tasks) (by omega) hj2; have h4 := Hz hk4 hk0 (by omega); have h0 : BT w.held w.room = true := (by rw [hk2, BB (by omega)]; simp [BT]); exact Am (by grind [AC]))
theorem B6 (w : World) (hw : w.ok 1048576) (hw' : w.ok 9223372036854775807) : Fun Try.prog 12 [.t w.tt] (tupD [.t (.bool (AC w))]) := by
 refine Fun.begin tys Try.func12 Z Z (N := 5) [(0, .t w.tt)] Z Z (fun w0 G F0 => ?_);refine sG (Aa Z Z (AA Z) Z Z (nZ Z (eZ Z (nA (eZ Z ?_)))))
 try refine WO_le (Le.freeze (u := 3) rfl) ?_
 refine nZ Z (AQ ?_);refine ⟨_, CR _ hw hw', rfl, ?_⟩;refine eZ Z (nB (rT (eR ?_)))
 ·rfl
open Go.Eng
def ways (t : Task) : List Act := if t.state = 0 then (match t.acts[t.pos.toNat]? with | some a => if a.kind = 4 then a.cases else [a] | none => []) else []
theorem EU {t : Task} (h : t.state = 0) (h0 : 0 ≤ t.pos) (h1 : t.pos < t.acts.length) : ways t = if (t.acts[t.pos.toNat]'(by omega)).kind = 4 then (t.acts[t.pos.toNat]'(by omega)).cases else [t.acts[t.pos.toNat]'(by omega)] := by
 unfold ways;rw [if_pos h, List.getElem?_eq_getElem (by omega)]
theorem L1 {α : Type} {l : List α} {i : Int} (h0 : 0 ≤ i) (h1 : i < l.length) : (l.drop i.toNat).take ((i + 1).toNat - i.toNat) = [l[i.toNat]'(by omega)] := by
 rw [Bg h0 h1, show (i + 1).toNat - i.toNat = 1 from by omega];rfl
theorem Dp (t : Task) (h0 : 0 ≤ t.pos) (h1' : t.state = 0 → t.pos < t.acts.length) : Fun Try.prog 76 [.t t.tt] (tupD [.t (T.Acts (ways t))]) := by
 refine Fun.begin tys Try.func76 Z Z (N := 28) [(0, .t t.tt)] Z Z (fun w0 G F0 => ?_);refine sG (Aa Z Z (AA Z) Z Z (nZ Z (eZ Z (nB (sQ (sG (eK 3 Z (nB ?_))))))));refine AD Z (fun h1 => ?_) (fun h1 => ?_)
 ·
  simp only [HS] at h1;refine sG (eZ Z (nB (W_le (Le.nilT (u := 2) 4 Z) (rT (tR (eR ?_))))))
  ·first
   | (rw [ways, if_neg h1]; rfl)
 simp only [HS] at h1;refine AE (tN (sQ (sG (eK 4 Z (kZ [1,2,7,9] Z (BU tys Z Z (AA Z) Z Z Z Z Z Z Z (by omega) _ (Az _ (by omega) (by omega)) (eK 3 Z (nB ?_))))))));refine AD Z (fun h2 => ?_) (fun h2 => ?_)
 ·
  simp only [HS] at h2;refine sG (eK 4 Z (BU tys Z Z (AA Z) Z Z Z Z Z Z Z (by omega) _ (Az _ (by omega) (by omega)) (kZ [1,2,18] Z (eK 3 Z (nB ?_)))))
  skip
  refine rT (tR (eR ?_))
  ·first
   | (rw [EU h1 h0 (h1' h1), if_pos h2]; done)
 simp only [HS] at h2;refine AE (tN (sG (eK 4 Z (BU tys Z Z (AA Z) Z Z Z Z Z Z Z (by omega) _ (Az _ (by omega) (by omega)) (kZ [2,25] Z (eZ Z ?_))))))
 try refine WO_le (Le.freeze (u := 26) rfl) ?_
 refine nZ Z ?_;refine H7 tys [_] Z Z (AA Z) Z Z Z Z Z (by decide) (by repeat (first | exact PartsF.nil' | refine PartsF.cons' rfl Z ?_)) Z ?_;refine nZ Z (eZ Z (nB ?_))
 skip
 refine rT (eR ?_)
 ·first
  | (rw [EU h1 h0 (h1' h1), if_neg h2]; show [D.t (T.list 4 [Act.tt _])] = [D.t (T.list 4 [Act.toT _])]; rw [Act.toT_eq])
theorem Du (w : World) (i : Int) (hi0 : 0 ≤ i) (hi1 : i < w.tasks.length) (hl : (w.tasks[i.toNat]'(by omega)).acts.length ≤ 1048576) (h0 : 0 ≤ (w.tasks[i.toNat]'(by omega)).pos) (h1' : (w.tasks[i.toNat]'(by omega)).state = 0 → (w.tasks[i.toNat]'(by omega)).pos < (w.tasks[i.toNat]'(by omega)).acts.length) : Fun Try.prog 70 [.t w.tt, .t (.int i)] (tupD [.t (T.Acts (ways (w.tasks[i.toNat]'(by omega))))]) := by
 refine Fun.begin tys Try.func70 Z Z (N := 34) [(0, .t w.tt), (1, .t (.int i))] Z Z (fun w0 G F0 => ?_);refine sG (Aa Z Z (AA Z) Z Z (nZ Z (eZ Z (nA (eK 3 Z ?_)))));refine iY (k := ?_);refine eZ Z ?_
 try refine WO_le (Le.freeze (u := 11) rfl) ?_
 refine nZ Z (AK tys Z Z (AA Z) Z Z Z (nZ Z (sT Z (nZ Z (kZ [4,5] Z (nB (sQ (sG (eK 3 Z (nB ?_))))))))));refine AD Z (fun h1 => ?_) (fun h1 => ?_)
 ·
  simp only [HS] at h1;refine sG (eZ Z (nB (W_le (Le.nilT (u := 4) 4 Z) (rT (tR (eR ?_))))))
  ·first
   | (rw [ways, if_neg h1]; rfl)
 simp only [HS] at h1;refine AE (tN (sQ (sG (eK 4 Z (BU tys Z Z (AA Z) Z Z Z Z Z Z Z (by omega) _ (Az _ (by omega) (by omega)) (eZ Z ?_))))))
 try refine WO_le (Le.freeze (u := 20) rfl) ?_
 refine nZ Z (kZ [4,5,20] Z (AK tys Z Z (AA Z) Z Z Z (nZ Z (sT Z (nZ Z (nA (eK 3 Z (nB ?_))))))));refine AD Z (fun h2 => ?_) (fun h2 => ?_)
 ·
  simp only [HS] at h2;refine sG (eK 3 Z (nB ?_))
  skip
  refine rT (tR (eR ?_))
  ·first
   | (rw [EU h1 h0 (h1' h1), if_pos h2]; done)
 simp only [HS] at h2;refine AE (tN (sG (eK 4 Z (kZ [4,5,27,29] Z (eK 2 Z (evI ?_))))));refine LV tys Z Z (AA Z) Z Z Z Z Z Z Z Z (by first | omega | (simp only [Nj]; omega)) (by first | omega | (simp only [Nj]; omega)) (by first | omega | (simp only [Nj]; omega)) ?_;refine eZ Z (nB ?_)
 skip
 refine rT (eR ?_)
 ·first
  | (rw [EU h1 h0 (h1' h1), if_neg h2]; rw [← List.map_drop, ← List.map_take, L1 h0 (h1' h1)]; done)
def CJ (w : World) (a : Act) : Bool := if a.kind = 1 then at0 false w.shut a.chan || decide (((at0 [] w.held a.chan).length : Int) < at0 0 w.room a.chan) else if a.kind = 2 then at0 false w.shut a.chan || decide ((0 : Int) < (at0 [] w.held a.chan).length) else true
theorem Hg (w : World) (a : Act) (hc0 : 0 ≤ a.chan) (hc1 : a.chan < w.room.length) (hh : (w.held.length : Int) = w.room.length) (hs : (w.shut.length : Int) = w.room.length) (hr : w.room.length ≤ 3) : Fun Try.prog 77 [.t w.tt, .t a.tt] (tupD [.t (.bool (CJ w a))]) := by
 refine Fun.begin tys Try.func77 Z Z (N := 49) [(0, .t w.tt), (1, .t a.tt)] Z Z (fun w0 G F0 => ?_);refine sG (Aa Z Z (AA Z) Z Z (nZ Z (Aa Z Z (AA Z) Z Z (nZ Z (eZ Z (nB (sQ (sG (eK 2 Z (nB (AG (sG (eK 2 Z (nB ?_))))))))))))));refine AD Z (fun h1 => ?_) (fun h1 => ?_)
 ·
  simp only [HS] at h1;refine sQ (kY [2,3,4] Z (AV Ac (by kernel_rfl) (evQ ?_)));refine evQ ?_;refine evQ ?_;refine evQ ?_;refine AP tys Z Z (AA Z) Z Z Z Z Z Z Z (by omega) _ (CM _ _ (by omega) (by omega)) (evQ ?_);refine AH Z (evQ ?_);refine DX (fun h2 => ?_) (fun h2 => ?_)
  ·
   iterate 8 (refine Ad rfl rfl rfl rfl rfl (AA rfl) ?_)
   refine AH Z ?_
   iterate 6 (refine Ad rfl rfl rfl rfl rfl (AA rfl) ?_)
   refine evQ ?_;refine evQ ?_;refine Aj (tN (rT (bR (tR (eR ?_)))))
   ·have e1 := AL (d := false) (l := w.shut) hc0 (by omega)
    have e2 := AL (d := []) (l := w.held) hc0 (by omega)
    have e3 := AL (d := 0) (l := w.room) hc0 (by omega)
    exact Am (by grind [CJ])
  refine AB Z Z Z Z (AA Z) (evQ ?_);refine AB Z Z Z Z (AA Z) (evQ ?_);refine AB Z Z Z Z (AA Z) (evQ ?_);refine AB Z Z Z Z (AA Z) (evQ ?_);refine AB Z Z Z Z (AA Z) (AP tys Z Z (AA Z) Z Z Z Z Z Z Z (by omega) _ (CM _ _ (by omega) (by omega)) (AH Z (AB Z Z Z Z (AA Z) (evQ ?_))));refine AB Z Z Z Z (AA Z) (evEQ ?_);refine AB Z Z Z Z (AA Z) (evQ ?_);refine AB Z Z Z Z (AA Z) (evQ ?_);refine AB Z Z Z Z (AA Z) (evQ ?_);refine AB Z Z Z Z (AA Z) (evQ ?_);refine AH Z (AB Z Z Z Z (AA Z) (AP tys Z Z (AA Z) Z Z Z Z Z Z Z (by omega) _ (CM _ _ (by omega) (by omega)) (AB Z Z Z Z (AA Z) (evQ ?_))));refine AB Z Z Z Z (AA Z) (evQ ?_);refine evQ ?_;refine evQ ?_;refine Aj (tN (rT (bR (tR (eR ?_)))))
  ·have e1 := AL (d := false) (l := w.shut) hc0 (by omega)
   have e2 := AL (d := []) (l := w.held) hc0 (by omega)
   have e3 := AL (d := 0) (l := w.room) hc0 (by omega)
   exact Am (by grind [CJ])
 simp only [HS] at h1;refine sQ (kY [2,3,4,6] Z (rG (eK 2 Z (nB ?_))));refine AD Z (fun h2 => ?_) (fun h2 => ?_)
 ·
  simp only [HS] at h2;refine sG (eK 4 Z ?_);refine iY (k := ?_);refine eK 2 Z (kZ [2,3,4,39] Z ?_);refine gB (fun h3 => ?_) (fun h3 => ?_)
  ·
   simp only [HS] at h3;refine xK 9 Z (kZ [4] Z (nB (rT (bR (tR (eR ?_))))))
   ·have e1 := AL (d := false) (l := w.shut) hc0 (by omega)
    have e2 := AL (d := []) (l := w.held) hc0 (by omega)
    have e3 := AL (d := 0) (l := w.room) hc0 (by omega)
    exact Am (by grind [CJ])
  refine xK 4 Z (gY Z ?_);refine iY (k := ?_);refine xZ Z (gY Z (evE ?_));refine xK 2 Z (kZ [4,48] Z (eZ Z (nB (rT (bR (tR (eR ?_)))))))
  ·have e1 := AL (d := false) (l := w.shut) hc0 (by omega)
   have e2 := AL (d := []) (l := w.held) hc0 (by omega)
   have e3 := AL (d := 0) (l := w.room) hc0 (by omega)
   exact Am (by grind [CJ])
 simp only [HS] at h2;refine AE (bN (tN (sG (eZ Z (nB (rT (eR ?_)))))))
 ·have e1 := AL (d := false) (l := w.shut) hc0 (by omega)
  have e2 := AL (d := []) (l := w.held) hc0 (by omega)
  have e3 := AL (d := 0) (l := w.room) hc0 (by omega)
  exact Am (by grind [CJ])
theorem IX (w : World) (a : Act) (hc0 : 0 ≤ a.chan) (hc1 : a.chan < w.room.length) (hh : (w.held.length : Int) = w.room.length) (hs : (w.shut.length : Int) = w.room.length) (hr : w.room.length ≤ 3) : Fun Try.prog 71 [.t w.tt, .t a.tt] (tupD [.t (.bool (CJ w a))]) := by
 refine Fun.begin tys Try.func71 Z Z (N := 49) [(0, .t w.tt), (1, .t a.tt)] Z Z (fun w0 G F0 => ?_);refine sG (Aa Z Z (AA Z) Z Z (nZ Z (Aa Z Z (AA Z) Z Z (nZ Z (eZ Z (nB (sQ (sG (eK 2 Z (nB (AG (sG (eK 2 Z (nB ?_))))))))))))));refine AD Z (fun h1 => ?_) (fun h1 => ?_)
 ·
  simp only [HS] at h1;refine sQ (kY [2,3,4] Z (AV Ac (by kernel_rfl) (evQ ?_)));refine evQ ?_;refine evQ ?_;refine evQ ?_;refine AP tys Z Z (AA Z) Z Z Z Z Z Z Z (by omega) _ (CM _ _ (by omega) (by omega)) (evQ ?_);refine AH Z (evQ ?_);refine DX (fun h2 => ?_) (fun h2 => ?_)
  ·
   iterate 8 (refine Ad rfl rfl rfl rfl rfl (AA rfl) ?_)
   refine AH Z ?_
   iterate 6 (refine Ad rfl rfl rfl rfl rfl (AA rfl) ?_)
   refine evQ ?_;refine evQ ?_;refine Aj (tN (rT (bR (tR (eR ?_)))))
   ·have e1 := AL (d := false) (l := w.shut) hc0 (by omega)
    have e2 := AL (d := []) (l := w.held) hc0 (by omega)
    have e3 := AL (d := 0) (l := w.room) hc0 (by omega)
    exact Am (by grind [CJ])
  refine AB Z Z Z Z (AA Z) (evQ ?_);refine AB Z Z Z Z (AA Z) (evQ ?_);refine AB Z Z Z Z (AA Z) (evQ ?_);refine AB Z Z Z Z (AA Z) (evQ ?_);refine AB Z Z Z Z (AA Z) (AP tys Z Z (AA Z) Z Z Z Z Z Z Z (by omega) _ (CM _ _ (by omega) (by omega)) (AH Z (AB Z Z Z Z (AA Z) (evQ ?_))));refine AB Z Z Z Z (AA Z) (evEQ ?_);refine AB Z Z Z Z (AA Z) (evQ ?_);refine AB Z Z Z Z (AA Z) (evQ ?_);refine AB Z Z Z Z (AA Z) (evQ ?_);refine AB Z Z Z Z (AA Z) (evQ ?_);refine AH Z (AB Z Z Z Z (AA Z) (AP tys Z Z (AA Z) Z Z Z Z Z Z Z (by omega) _ (CM _ _ (by omega) (by omega)) (AB Z Z Z Z (AA Z) (evQ ?_))));refine AB Z Z Z Z (AA Z) (evQ ?_);refine evQ ?_;refine evQ ?_;refine Aj (tN (rT (bR (tR (eR ?_)))))
  ·have e1 := AL (d := false) (l := w.shut) hc0 (by omega)
   have e2 := AL (d := []) (l := w.held) hc0 (by omega)
   have e3 := AL (d := 0) (l := w.room) hc0 (by omega)
   exact Am (by grind [CJ])
 simp only [HS] at h1;refine sQ (kY [2,3,4,6] Z (rG (eK 2 Z (nB ?_))));refine AD Z (fun h2 => ?_) (fun h2 => ?_)
 ·
  simp only [HS] at h2;refine sG (eK 4 Z ?_);refine iY (k := ?_);refine eK 2 Z (kZ [2,3,4,39] Z ?_);refine gB (fun h3 => ?_) (fun h3 => ?_)
  ·
   simp only [HS] at h3;refine xK 9 Z (kZ [4] Z (nB (rT (bR (tR (eR ?_))))))
   ·have e1 := AL (d := false) (l := w.shut) hc0 (by omega)
    have e2 := AL (d := []) (l := w.held) hc0 (by omega)
    have e3 := AL (d := 0) (l := w.room) hc0 (by omega)
    exact Am (by grind [CJ])
  refine xK 4 Z (gY Z ?_);refine iY (k := ?_);refine xZ Z (gY Z (evE ?_));refine xK 2 Z (kZ [4,48] Z (eZ Z (nB (rT (bR (tR (eR ?_)))))))
  ·have e1 := AL (d := false) (l := w.shut) hc0 (by omega)
   have e2 := AL (d := []) (l := w.held) hc0 (by omega)
   have e3 := AL (d := 0) (l := w.room) hc0 (by omega)
   exact Am (by grind [CJ])
 simp only [HS] at h2;refine AE (bN (tN (sG (eZ Z (nB (rT (eR ?_)))))))
 ·have e1 := AL (d := false) (l := w.shut) hc0 (by omega)
  have e2 := AL (d := []) (l := w.held) hc0 (by omega)
  have e3 := AL (d := 0) (l := w.room) hc0 (by omega)
  exact Am (by grind [CJ])
structure Good (w : World) : Prop where
 room : w.room.length ≤ 3
 held : (w.held.length : Int) = w.room.length
 shut : (w.shut.length : Int) = w.room.length
 tasks : w.tasks.length ≤ 4
 pos : ∀ t, t ∈ w.tasks → 0 ≤ t.pos ∧ (t.state = 0 → t.pos < t.acts.length) ∧ t.acts.length ≤ 6
 ways : ∀ t, t ∈ w.tasks → (ways t).length ≤ 3 ∧ ∀ a, a ∈ ways t → 0 ≤ a.chan ∧ a.chan < w.room.length
theorem good_of {w : World} (h : AC w = true) : Good w := by
 unfold AC at h;simp only [Nk, decide_eq_true_eq, Np] at h
 obtain ⟨h1, h2, h3, h4, h5, h6, h7, h8, h9⟩ := h
 have ht : ∀ t, t ∈ w.tasks → (0 ≤ t.pos ∧ (t.state = 0 → t.pos < t.acts.length) ∧ t.acts.length ≤ 6) ∧ ∀ a, a ∈ t.acts → AJ w.room.length a = true := fun t ht => by
  have := h9 t ht
  unfold AM BK at this;simp only [Nk, decide_eq_true_eq, Np] at this
  obtain ⟨⟨q1, q2⟩, q3, q4, q5, q6⟩ := this
  refine ⟨⟨q3.1, fun hs => ?_, by omega⟩, q1⟩
  have : ¬ t.pos = t.acts.length := fun e => by have := q6.2 e; omega
  omega
 refine ⟨by omega, h2, h3, by omega, fun t h => (ht t h).1, fun t hm => ?_⟩
 obtain ⟨⟨p0, p1, p2⟩, p3⟩ := ht t hm
 by_cases hs : t.state = 0
 ·have hp := p1 hs
  rw [EU hs p0 hp]
  have hg := p3 _ (Nl (l := t.acts) (n := t.pos.toNat) (by omega))
  unfold AJ at hg;split
  ·rename_i hk
   rw [if_pos hk] at hg;simp only [Nk, decide_eq_true_eq, Np] at hg;refine ⟨by omega, fun a ha => ?_⟩
   have := hg.1 a ha
   unfold caseAct AI at this;simp only [Nk, decide_eq_true_eq] at this;exact ⟨this.2.1.2.1, by omega⟩
  ·rename_i hk
   rw [if_neg hk] at hg;unfold AI at hg;simp only [Nk, decide_eq_true_eq] at hg;refine ⟨by simp, fun a ha => ?_⟩;rw [OE] at ha;subst ha;exact ⟨hg.1.2.1, by omega⟩
 ·unfold Go.Proofs.Ytkllmdolplcklaa.ways
  rw [if_neg hs];exact ⟨by simp, fun a ha => by cases ha⟩
def mvB (i k : Int) (a : Act) (j : Int) : List Act → Int → List (List Int) → List (List Int)
 | [], _, acc => acc
 | b :: l, m, acc => mvB i k a j l (m + 1) (if ¬ i = j ∧ b.kind = 2 ∧ b.chan = a.chan then acc ++ [[i, k, j, m]] else acc)
def mvU (i k : Int) (a : Act) : List Task → Int → List (List Int) → List (List Int)
 | [], _, acc => acc
 | u :: l, j, acc => mvU i k a l (j + 1) (mvB i k a j (ways u) 0 acc)
def mvS (w : World) (a : Act) : Bool := decide (a.kind = 1) && (!at0 false w.shut a.chan && decide (((at0 [] w.held a.chan).length : Int) ≤ 0))
def mvA (w : World) (i : Int) : List Act → Int → List (List Int) → List (List Int)
 | [], _, acc => acc
 | a :: l, k, acc => mvA w i l (k + 1) (if mvS w a then mvU i k a w.tasks 0 (if CJ w a then acc ++ [[i, k, -1, 0]] else acc) else (if CJ w a then acc ++ [[i, k, -1, 0]] else acc))
def mvT (w : World) : List Task → Int → List (List Int) → List (List Int)
 | [], _, acc => acc
 | t :: l, i, acc => mvT w l (i + 1) (mvA w i (ways t) 0 acc)
def Al (w : World) : List (List Int) := mvT w w.tasks 0 []
theorem Fz {i k j m : Int} {a : Act} {l : List Act} {acc : List (List Int)} (h0 : 0 ≤ m) (h1 : m < l.length) : mvB i k a j (l.drop m.toNat) m acc = mvB i k a j (l.drop (m + 1).toNat) (m + 1) (if ¬ i = j ∧ (l[m.toNat]'(by omega)).kind = 2 ∧ (l[m.toNat]'(by omega)).chan = a.chan then acc ++ [[i, k, j, m]] else acc) := by
 rw [Bg h0 h1, mvB]
theorem Mg {i k j : Int} {a : Act} {l : List Task} {acc : List (List Int)} (h0 : 0 ≤ j) (h1 : j < l.length) : mvU i k a (l.drop j.toNat) j acc = mvU i k a (l.drop (j + 1).toNat) (j + 1) (mvB i k a j (ways (l[j.toNat]'(by omega))) 0 acc) := by
 rw [Bg h0 h1, mvU]
theorem Ee {w : World} {i k : Int} {l : List Act} {acc : List (List Int)} (h0 : 0 ≤ k) (h1 : k < l.length) : mvA w i (l.drop k.toNat) k acc = mvA w i (l.drop (k + 1).toNat) (k + 1)
  (if mvS w (l[k.toNat]'(by omega)) then mvU i k (l[k.toNat]'(by omega)) w.tasks 0 (if CJ w (l[k.toNat]'(by omega)) then acc ++ [[i, k, -1, 0]] else acc) else (if CJ w (l[k.toNat]'(by omega)) then acc ++ [[i, k, -1, 0]] else acc)) := by
 rw [Bg h0 h1, mvA]
theorem Mi {w : World} {i : Int} {l : List Task} {acc : List (List Int)} (h0 : 0 ≤ i) (h1 : i < l.length) : mvT w (l.drop i.toNat) i acc = mvT w (l.drop (i + 1).toNat) (i + 1) (mvA w i (ways (l[i.toNat]'(by omega))) 0 acc) := by
 rw [Bg h0 h1, mvT]
end Go.Proofs.Ytkllmdolplcklaa
