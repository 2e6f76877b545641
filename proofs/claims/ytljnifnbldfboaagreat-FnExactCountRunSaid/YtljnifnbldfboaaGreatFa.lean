/- Walks and laws of the claim. -/
import Derived.Test.YtljnifnbldfboaaGreatTy
import Derived.Test.YtljnifnbldfboaaGreatRows
import Derived.Test.YtljnifnbldfboaaGreatMb
import Derived.Test.YtljnifnbldfboaaGreatRows
import Derived.Test.YtljnifnbldfboaaGreatMc
set_option linter.unusedVariables false
set_option linter.unusedSimpArgs false
set_option maxRecDepth 10000
set_option maxHeartbeats 1000000
namespace Go.Proofs.YtljnifnbldfboaaGreat
open Go.Eng
open Go.Eng
theorem BS (n lo hi : Int) : Fun Tryz.prog 18 [.t (.int n), .t (.int lo), .t (.int hi)] (Ay [.t (.bool (decide (lo ≤ n ∧ n ≤ hi)))]) := by
 refine Fun.begin tys Tryz.func18 Z Z (N := 15) [(0, .t (.int n)), (1, .t (.int lo)), (2, .t (.int hi))] Z Z (fun w0 G F0 => ?_);refine sG (eZ Z (nA (eK 4 Z ?_)));refine gB (fun h1 => ?_) (fun h1 => ?_)
 ·
  simp only [HS] at h1;refine xK 4 Z (kZ [6] Z (nB (rT (eR ?_))))
  ·(simp_all <;> omega)
 simp only [HS] at h1;refine xK 4 Z (kZ [6,14] Z (eZ Z (nB (rT (eR ?_)))))
 ·(simp_all <;> omega)
theorem BF (n lo hi : Int) : Fun Tryz.prog 24 [.t (.int n), .t (.int lo), .t (.int hi)] (Ay [.t (.bool (decide (lo ≤ n ∧ n ≤ hi)))]) := by
 refine Fun.begin tys Tryz.func24 Z Z (N := 15) [(0, .t (.int n)), (1, .t (.int lo)), (2, .t (.int hi))] Z Z (fun w0 G F0 => ?_);refine sG (eZ Z (nA (eK 4 Z ?_)));refine gB (fun h1 => ?_) (fun h1 => ?_)
 ·
  simp only [HS] at h1;refine xK 4 Z (kZ [6] Z (nB (rT (eR ?_))))
  ·(simp_all <;> omega)
 simp only [HS] at h1;refine xK 4 Z (kZ [6,14] Z (eZ Z (nB (rT (eR ?_)))))
 ·(simp_all <;> omega)
def DR (l : List Int) (lo hi : Int) : Bool := l.all fun n => decide (lo ≤ n ∧ n ≤ hi)
theorem Lo {l : List Int} {lo hi k : Int} (h0 : 0 ≤ k) (h1 : k < l.length) (h : DR (l.take k.toNat) lo hi = true) (h2 : lo ≤ l[k.toNat]'(by omega) ∧ l[k.toNat]'(by omega) ≤ hi) : DR (l.take (k + 1).toNat) lo hi = true := by
 rw [show (k + 1).toNat = k.toNat + 1 from by omega, List.take_add_one, List.getElem?_eq_getElem (by omega)];unfold DR at *;rw [List.all_append, h]
 simpa using h2
theorem PJ {l : List Int} {lo hi k : Int} (h0 : 0 ≤ k) (h1 : k < l.length) (h2 : ¬ (lo ≤ l[k.toNat]'(by omega) ∧ l[k.toNat]'(by omega) ≤ hi)) : DR l lo hi = false := by
 unfold DR;rw [List.all_eq_false];exact ⟨l[k.toNat]'(by omega), Qq _, by simpa using h2⟩
theorem Nl {l : List Int} {lo hi k : Int} (h : DR (l.take k.toNat) lo hi = true) (h0 : 0 ≤ k) (h1 : (l.length : Int) ≤ k) : DR l lo hi = true := by
 rwa [Qi (by omega)] at h
theorem IY (l : List Int) (lo hi : Int) (hl : l.length ≤ 1073741824) : Fun Tryz.prog 64 [.t (T.ints l), .t (.int lo), .t (.int hi)] (Ay [.t (.bool (DR l lo hi))]) := by
 refine Fun.begin tys Tryz.func64 Z Z (N := 21) [(0, .t (T.ints l)), (1, .t (.int lo)), (2, .t (.int hi))] Z Z (fun w0 G F0 => ?_);refine sG (eZ Z (nB (sQ (sG (eZ Z (evE ?_))))));refine eZ Z (nB (AH ?_));refine lK (α := Int) [9, 10, 1, 2] [] (fun x => [(11, .t (.int x))]) (fun x => []) (fun x => 0 ≤ x ∧ x ≤ l.length ∧ DR (l.take x.toNat) lo hi = true) (fun x => Int.toNat (l.length - x)) 0 ?_ (fun k hx => ?_)
 ·refine ⟨?_, ?_, ?_⟩ <;> simp [DR]
 obtain ⟨hk0, hk1, hk2⟩ := hx
 refine nY Z (sG (eZ Z (nB (sQ ?_))));refine AC Z (fun h1 => ?_) (fun h1 => ?_)
 ·
  simp only [HS] at h1;refine AD (tN (sQ (AH (sG ?_))));refine iY (k := ?_);refine eK 2 Z (nA (eK 3 Z (AS ?_)));refine ⟨_, BS _ _ _, rfl, ?_⟩;refine eZ Z (kZ [1,2,8,9,10,11,12,13,14,15,16,17,18,19] Z (nB ?_));refine AC Z (fun h2 => ?_) (fun h2 => ?_)
  ·
   simp only [HS] at h2;refine sG (eZ Z (nB (rT (bR (tR (AP (bR (tR (eR ?_)))))))))
   ·rw [PJ hk0 (by omega) (by simpa using h2)]
  simp only [HS] at h2;refine AD (bN (tN (rG (evI ?_))));refine eZ Z (oN ?_);refine lQ _ ?_ ?_
  ·skip
   exact ⟨by omega, by omega, Lo hk0 (by omega) hk2 (by simpa using h2)⟩
  ·(show Int.toNat _ < Int.toNat _); omega
 simp only [HS] at h1;refine AW (tE (AN (AO (tN (sG (eZ Z (nB (rT (eR ?_)))))))))
 ·rw [Nl hk2 hk0 (by omega)]
open Go.Eng
def szN (n : Nat) (left : Int) : Int := if left - n < 0 then -1 else left - n
def JE {α : Type} (f : α → Int → Int) : List α → Int → Int
 | [], left => left
 | x :: xs, left => if f x left < 0 then -1 else JE f xs (f x left)
def szL {α : Type} (f : α → Int → Int) (l : List α) (left : Int) : Int := if left - l.length < 0 then -1 else JE f l (left - l.length)
theorem drop_at {α : Type} {l : List α} {k : Int} (h0 : 0 ≤ k) (h1 : k < l.length) : l.drop k.toNat = l[k.toNat]'(by omega) :: l.drop (k + 1).toNat := by
 rw [show (k + 1).toNat = k.toNat + 1 from by omega];exact RT (by omega)
theorem AX {α : Type} {l : List α} {k : Int} (h1 : (l.length : Int) ≤ k) : l.drop k.toNat = [] := List.drop_of_length_le (by omega)
theorem EQ {α : Type} {xs : List T} {l : List α} {g : α → T} {k : Int} (h0 : 0 ≤ k) (h1 : k < l.length) (hl : xs.length = l.length) (h : xs.take k.toNat = (l.take k.toNat).map g) :
  (xs.set k.toNat (g (l[k.toNat]'(by omega)))).take (k + 1).toNat = (l.take (k + 1).toNat).map g := by
 rw [show (k + 1).toNat = k.toNat + 1 from by omega, List.take_add_one, List.take_add_one, List.getElem?_set_self (by omega), List.getElem?_eq_getElem (by omega)];simp only [Option.toList_some, List.map_append, RA, List.map_nil, ← h];rw [List.take_set_of_le (Q0 _)]
theorem FF {α : Type} {xs : List T} {l : List α} {g : α → T} {k : Int} (h1 : (l.length : Int) ≤ k) (hl : xs.length = l.length) (h : xs.take k.toNat = (l.take k.toNat).map g) : xs = l.map g := by
 rwa [Qi (by omega), Qi (by omega)] at h
theorem Kw (l : List Int) (left : Int) (hl : l.length ≤ 9223372036854775807) (h0 : 0 ≤ left) (hh : left ≤ 1048576) : Fun Tryz.prog 59 [.t (T.ints l), .t (.int left)] (Ay [.t (.int (szN l.length left))]) := by
 refine Fun.begin tys Tryz.func59 Z Z (N := 12) [(0, .t (T.ints l)), (1, .t (.int left))] Z Z (fun w0 G F0 => ?_);refine sG (eZ Z (nA (eK 2 Z (evE ?_))));refine evI ?_;refine eZ Z (nB (sQ (sG (eK 2 Z (nB ?_)))));refine AC Z (fun h1 => ?_) (fun h1 => ?_)
 ·
  simp only [HS] at h1;refine sQ (kY [1,4] Z (rG (eZ Z (nB (rT (tR (eR ?_)))))))
  ·(simp only [szN]; simp_all <;> omega)
 simp only [HS] at h1;refine AD (tN (sQ (kY [1,4] Z (rG (eK 2 Z (nB (rT (eR ?_))))))))
 ·(simp only [szN]; simp_all <;> omega)
theorem Cj (l : List Int) (hl : l.length ≤ 1048576) : Fun Tryz.prog 7 [.t (T.ints l)] (Ay [.own (T.ints l)]) := by
 refine Fun.begin tys Tryz.func7 Z Z (N := 22) [(0, .t (T.ints l))] Z Z (fun w0 G F0 => ?_);refine sG (eZ Z (nA (eZ Z (evE ?_))));refine Ch tys (.v (.int .i64 0)) _ Z Z (lt_of Z) Z Z Z Z Z (by repeat (first | exact AbsL.nil' | refine AbsL.v' ?_ | refine AbsL.none' ?_)) Z (by omega) (by decide) ?_;refine nZ Z (eZ Z (nB (sQ (sG (eZ Z (nB (AH ?_)))))));refine lK (α := Int × List T) [0, 3] [] (fun x => [(4, .t (.int (x.1)))]) (fun x => [(7, .L 1 (x.2))]) (fun x => 0 ≤ (x.1) ∧ (x.1) ≤ l.length ∧ (x.2).length = l.length ∧ (x.2).take (x.1).toNat = (l.take (x.1).toNat).map T.int) (fun x => Int.toNat (l.length - (x.1))) (0, List.replicate l.length (.v (.int .i64 0))) ?_ (fun x hx => ?_)
 ·exact ⟨by omega, by omega, by simp, by simp⟩
 obtain ⟨k, xs⟩ := x
 obtain ⟨hk0, hk1, hk2, hk3⟩ := hx
 dsimp only at hk0 hk1 hk2 hk3 ⊢;refine nY Z (sQ (sG (eK 2 Z (evE ?_))));refine eZ Z (nB ?_);refine AC Z (fun h1 => ?_) (fun h1 => ?_)
 ·
  simp only [HS] at h1;refine AD (tN (sQ (AH (rG (eK 4 Z ?_)))));refine iY (k := ?_);refine kZ [0,3,4,8,9,10,11,14,15,16,17,18] Z (eZ Z (AR tys Z Z (lt_of Z) Z Z Z Z Z Z Z Z (by omega) (by omega) ?_));refine Al tys (.v (.int .i64 _)) Z Z Z Z Z Z (by first | exact Qv _ | rfl) (by omega) Z (by repeat (first | exact AbsL.nil' | refine AbsL.v' ?_ | refine AbsL.own' ?_)) Z Z Z ?_;refine nZ Z (oN (bN (tN (rG (eZ Z (evI ?_))))));refine eZ Z (oN ?_);refine lQ (_, _) ?_ ?_
  ·dsimp only
   exact ⟨by omega, by omega, by simpa using hk2, EQ hk0 (by omega) hk2 hk3⟩
  ·(show Int.toNat _ < Int.toNat _); omega
 simp only [HS] at h1;refine AW (tE (AN (AO (tN (sG (eK 2 Z (nB (W_le (Le.gather (u := 2) (id := 7) Z Z (by omega)) (rT (eR ?_))))))))))
 ·rw [Qi (by omega), FF (by omega) hk2 hk3]; rfl
abbrev Fh (l : List (List Int)) : T := .list 1 (l.map T.ints)
def Hj {α : Type} (f : α → α → Bool) : List α → List α → Bool
 | x :: xs, y :: ys => f x y && Hj f xs ys
 | _, _ => true
def eqL {α : Type} (f : α → α → Bool) (a b : List α) : Bool := a.length == b.length && Hj f a b
theorem Im {α : Type} {f : α → α → Bool} (h : ∀ x, f x x = true) : ∀ l : List α, Hj f l l = true
 | [] => rfl
 | x :: l => by rw [Hj, h, Im h l]; rfl
theorem C7 {α : Type} {f : α → α → Bool} (h : ∀ x, f x x = true) (l : List α) : eqL f l l = true := by
 unfold eqL; rw [Im h]; simp
def eqI (a b : Int) : Bool := decide (a = b)
def at0 {α : Type} (d : α) (l : List α) (i : Int) : α := (l[i.toNat]?).getD d
theorem Fp {α : Type} {f : α → α → Bool} {a b : List α} (h : ¬ (a.length : Int) = b.length) : eqL f a b = false := by
 unfold eqL
 have : (a.length == b.length) = false := by simpa using fun e => h (by omega)
 rw [this]; rfl
theorem Cg {α : Type} {f : α → α → Bool} {a b : List α} {k : Int} (h0 : 0 ≤ k) (h1 : k < a.length) (h : (a.length : Int) = b.length) :
  Hj f (a.drop k.toNat) (b.drop k.toNat) = (f (a[k.toNat]'(by omega)) (b[k.toNat]'(by omega)) && Hj f (a.drop (k + 1).toNat) (b.drop (k + 1).toNat)) := by
 rw [drop_at h0 (by omega), drop_at (l := b) h0 (by omega), Hj]
theorem Dn {α : Type} {f : α → α → Bool} {a b : List α} (h : (a.length : Int) = b.length) : eqL f a b = Hj f a b := by
 unfold eqL
 have : (a.length == b.length) = true := by simp; omega
 rw [this]; rfl
theorem Et (a b : List Int) (ha : a.length ≤ 9223372036854775807) (hb : b.length ≤ 9223372036854775807) : Fun Tryz.prog 11 [.t (T.ints a), .t (T.ints b)] (Ay [.t (.bool (eqL eqI a b))]) := by
 refine Fun.begin tys Tryz.func11 Z Z (N := 26) [(0, .t (T.ints a)), (1, .t (T.ints b))] Z Z (fun w0 G F0 => ?_);refine sG (eZ Z (nB (sQ (sG (eZ Z (evE ?_))))));refine eZ Z (evE ?_);refine eZ Z (nB ?_);refine AC Z (fun h1 => ?_) (fun h1 => ?_)
 ·
  simp only [HS] at h1;refine sG (eZ Z (nB (rT (tR (eR ?_)))))
  ·rw [Fp h1]
   done
 simp only [HS] at h1;refine AD (tN (sQ (sG (eZ Z (nB (AH ?_))))));refine lK (α := Int) [0, 1] [] (fun x => [(5, .t (.int x))]) (fun x => []) (fun x => 0 ≤ x ∧ x ≤ a.length ∧ Hj eqI a b = Hj eqI (a.drop x.toNat) (b.drop x.toNat)) (fun x => Int.toNat (a.length - x)) 0 ?_ (fun k hx => ?_)
 ·exact ⟨by omega, by omega, rfl⟩
 obtain ⟨hk0, hk1, hk2⟩ := hx
 refine nY Z (sQ (sG (eK 2 Z (evE ?_))));refine eZ Z (nB ?_);refine AC Z (fun h2 => ?_) (fun h2 => ?_)
 ·
  simp only [HS] at h2;refine AD (tN (sQ (AH (sQ (AV mixed (by kernel_rfl) (evQ ?_))))));refine evQ ?_;refine AI Z (Ai tys Z Z (lt_of Z) Z Z Z Z Z Z Z (by omega) _ (BT _ _ (by omega) (by omega)) (evQ ?_));refine evQ ?_;refine evQ ?_;refine Ai tys Z Z (lt_of Z) Z Z Z Z Z Z Z (by omega) _ (BT _ _ (by omega) (by omega)) (evQ ?_);refine AI Z (evQ ?_);refine Ak (tN ?_);refine AC Z (fun h3 => ?_) (fun h3 => ?_)
  ·
   simp only [HS] at h3;refine sG (eZ Z (nB (rT (bR (tR (AP (bR (tR (eR ?_)))))))))
   ·rw [Dn h1, hk2, Cg hk0 h2 h1]
    simp [eqI, h3]
    done
  simp only [HS] at h3;refine AD (bN (tN (rG (eZ Z (evI ?_)))));refine eZ Z (oN ?_);refine lQ _ ?_ ?_
  ·skip
   refine ⟨by omega, by omega, ?_⟩; rw [hk2, Cg hk0 h2 h1]; simp [eqI, h3]
  ·(show Int.toNat _ < Int.toNat _); omega
 simp only [HS] at h2;refine AW (tE (AN (AO (tN (sG (eZ Z (nB (rT (eR ?_)))))))))
 ·rw [Dn h1, hk2, AX h2]
  rfl
theorem D0 (a b : List (List Int)) (ha : a.length ≤ 9223372036854775807) (hb : b.length ≤ 9223372036854775807) (hxa : ∀ x, x ∈ a → x.length ≤ 9223372036854775807) (hxb : ∀ x, x ∈ b → x.length ≤ 9223372036854775807) : Fun Tryz.prog 9 [.t (Fh a), .t (Fh b)] (Ay [.t (.bool (eqL (eqL eqI) a b))]) := by
 refine Fun.begin tys Tryz.func9 Z Z (N := 27) [(0, .t (Fh a)), (1, .t (Fh b))] Z Z (fun w0 G F0 => ?_);refine sG (eZ Z (nB (sQ (sG (eZ Z (evE ?_))))));refine eZ Z (evE ?_);refine eZ Z (nB ?_);refine AC Z (fun h1 => ?_) (fun h1 => ?_)
 ·
  simp only [HS] at h1;refine sG (eZ Z (nB (rT (tR (eR ?_)))))
  ·rw [Fp h1]
   done
 simp only [HS] at h1;refine AD (tN (sQ (sG (eZ Z (nB (AH ?_))))));refine lK (α := Int) [0, 1] [] (fun x => [(5, .t (.int x))]) (fun x => []) (fun x => 0 ≤ x ∧ x ≤ a.length ∧ Hj (eqL eqI) a b = Hj (eqL eqI) (a.drop x.toNat) (b.drop x.toNat)) (fun x => Int.toNat (a.length - x)) 0 ?_ (fun k hx => ?_)
 ·exact ⟨by omega, by omega, rfl⟩
 obtain ⟨hk0, hk1, hk2⟩ := hx
 refine nY Z (sQ (sG (eK 2 Z (evE ?_))));refine eZ Z (nB ?_);refine AC Z (fun h2 => ?_) (fun h2 => ?_)
 ·
  simp only [HS] at h2;refine AD (tN (sQ (AH (sQ (AV mixed (by kernel_rfl) (evQ ?_))))));refine evQ ?_;refine AI Z (Ai tys Z Z (lt_of Z) Z Z Z Z Z Z Z (by omega) _ (BT _ _ (by omega) (by omega)) (evQ ?_));refine evQ ?_;refine evQ ?_;refine Ai tys Z Z (lt_of Z) Z Z Z Z Z Z Z (by omega) _ (BT _ _ (by omega) (by omega)) (evQ ?_);refine AI Z (Dp ?_);refine ⟨_, Et _ _ (hxa _ (Qq _)) (hxb _ (Qq _)), rfl, ?_⟩;refine evQ ?_;refine Ak (tN ?_);refine AC Z (fun h3 => ?_) (fun h3 => ?_)
  ·
   simp only [HS] at h3;refine sG (eZ Z (nB (rT (bR (tR (AP (bR (tR (eR ?_)))))))))
   ·rw [Dn h1, hk2, Cg hk0 h2 h1]
    simp [h3]
    done
  simp only [HS] at h3;refine AD (bN (tN (rG (eZ Z (evI ?_)))));refine eZ Z (oN ?_);refine lQ _ ?_ ?_
  ·skip
   refine ⟨by omega, by omega, ?_⟩; rw [hk2, Cg hk0 h2 h1]; simp [h3]
  ·(show Int.toNat _ < Int.toNat _); omega
 simp only [HS] at h2;refine AW (tE (AN (AO (tN (sG (eZ Z (nB (rT (eR ?_)))))))))
 ·rw [Dn h1, hk2, AX h2]
  rfl
def Cr {α : Type} (p : α → Bool) : List α → Int → Int
 | [], _ => -1
 | x :: xs, k => if p x then k else Cr p xs (k + 1)
theorem EM {α : Type} {p : α → Bool} : ∀ {l : List α} {k : Int}, 0 ≤ k → decide (0 ≤ Cr p l k) = l.any p
 | [], _, _ => rfl
 | x :: l, k, h => by
  rw [Cr, List.any_cons];cases hp : p x
  ·simpa using EM (l := l) (k := k + 1) (by omega)
  ·simpa using h
theorem Ey {α : Type} {p : α → Bool} {l : List α} {k : Int} (h0 : 0 ≤ k) (h1 : k < l.length) : Cr p (l.drop k.toNat) k = if p (l[k.toNat]'(by omega)) then k else Cr p (l.drop (k + 1).toNat) (k + 1) := by
 rw [drop_at h0 h1, Cr]
theorem O1 (l : List Int) (p : Int → Bool) (f : Nat) (caps : List D) (hcaps : caps.all D.imm = true) (hl : l.length ≤ 9223372036854775807) (hf : ∀ x, x ∈ l → Fun Tryz.prog f (.t (T.int x) :: caps) (.t (.bool (p x)))) : Fun Tryz.prog 101 [.t (T.ints l), .clo f caps] (Ay [.t (.int (Cr p l 0))]) := by
 refine Fun.begin tys Tryz.func101 Z Z (N := 19) [(0, .t (T.ints l)), (1, .clo f caps)] Z Z (fun w0 G F0 => ?_);refine sG (eZ Z (nB (sQ (sG (eZ Z (evE ?_))))));refine eZ Z (nB (AH ?_));refine lK (α := Int) [0, 1, 7] [] (fun x => [(8, .t (.int x))]) (fun x => []) (fun x => 0 ≤ x ∧ x ≤ l.length ∧ Cr p l 0 = Cr p (l.drop x.toNat) x) (fun x => Int.toNat (l.length - x)) 0 ?_ (fun k hx => ?_)
 ·exact ⟨by omega, by omega, rfl⟩
 obtain ⟨hk0, hk1, hk2⟩ := hx
 refine nY Z (sG (eZ Z (nB (sQ ?_))));refine AC Z (fun h1 => ?_) (fun h1 => ?_)
 ·
  simp only [HS] at h1;refine AD (tN (sQ (AH (sG (eK 2 Z (nA (B2 tys Z Z (lt_of Z) Z Z (by assumption) ?_)))))));refine eK 2 Z ?_;refine iY (k := ?_);refine eZ Z ?_;refine BW Z Z (lt_of Z) Z Z (by repeat (first | exact ResL.done | exact ResL.imms (by first | rfl | assumption) | refine ResL.t ?_ | refine ResL.own ?_ | refine ResL.slA Z (by first | rfl | (simp; done) | (simp; omega)) ?_ | refine ResL.sl Z (by first | omega | (simp; done) | (simp; omega)) ?_ | refine ResL.rp ?_ | refine ResL.clo ?_ ?_ | refine ResL.aggT ?_ ?_ | refine ResL.ref Z ?_ ?_ | refine ResL.nil' ?_ | refine ResL.nil 1 ?_)) (hf _ (Qq _)) Z ?_;refine kZ [0,1,5,7,8,9,10,11,12,13,14,15,16] Z (nB ?_);refine AC Z (fun h2 => ?_) (fun h2 => ?_)
  ·
   refine sG (eK 2 Z (nB (rT (bR (tR (AP (bR (tR (eR ?_)))))))))
   ·rw [hk2, Ey hk0 h1]
    simp [h2]
    done
  refine AD (bN (tN (rG (evI ?_))));refine eZ Z (oN ?_);refine lQ _ ?_ ?_
  ·skip
   refine ⟨by omega, by omega, ?_⟩; rw [hk2, Ey hk0 h1]; simp [h2]
  ·(show Int.toNat _ < Int.toNat _); omega
 simp only [HS] at h1;refine AW (tE (AN (AO (tN (sG (eZ Z (nB (rT (eR ?_)))))))))
 ·rw [hk2, AX h1]
  rfl
theorem HO (l : List Int) (p : Int → Bool) (f : Nat) (caps : List D) (hcaps : caps.all D.imm = true) (hl : l.length ≤ 9223372036854775807) (hf : ∀ x, x ∈ l → Fun Tryz.prog f (.t (T.int x) :: caps) (.t (.bool (p x)))) : Fun Tryz.prog 75 [.t (T.ints l), .clo f caps] (Ay [.t (.bool (l.any p))]) := by
 refine Fun.begin tys Tryz.func75 Z Z (N := 9) [(0, .t (T.ints l)), (1, .clo f caps)] Z Z (fun w0 G F0 => ?_);refine sG (eZ Z (nA (eZ Z (B2 tys Z Z (lt_of Z) Z Z (by assumption) ?_))));refine BW Z Z (lt_of Z) Z Z (by repeat (first | exact ResL.done | exact ResL.imms (by first | rfl | assumption) | refine ResL.t ?_ | refine ResL.own ?_ | refine ResL.slA Z (by first | rfl | (simp; done) | (simp; omega)) ?_ | refine ResL.sl Z (by first | omega | (simp; done) | (simp; omega)) ?_ | refine ResL.rp ?_ | refine ResL.clo ?_ ?_ | refine ResL.aggT ?_ ?_ | refine ResL.ref Z ?_ ?_ | refine ResL.nil' ?_ | refine ResL.nil 1 ?_)) (O1 l p f caps hcaps hl hf) Z ?_;refine eK 2 Z (nB (rT (eR ?_)))
 ·rw [← EM (Q8 0)]
open Go.ChangeShapes Go.WideShapes Go.ChangeAt Go.RowKit Go.Eng
theorem Tryz.own : ownKnob Tryz.prog.godebug = none := by kernel_rfl
theorem Tryz.laidOut : laidOutB Tryz.prog = true := by kernel_rfl
theorem N9 {x : T} (h : Rd Tryz.prog 3 x) : ∃ n : Int, x = T.int n ∧ True := by
 obtain ⟨n, rfl, _⟩ := rd_int (k := .i64) (by kernel_rfl) h
 exact ⟨n, rfl, trivial⟩
theorem MU {x : T} (h : Rd Tryz.prog 25 x) : ∃ l : List Int, x = T.ints l ∧ l.length ≤ 9223372036854775807 := by
 obtain ⟨l, rfl, h1, h2⟩ := G2 (e := 3) (n := 1) (by kernel_rfl) (by kernel_rfl) (fun y hy => N9 hy) h
 exact ⟨l, rfl, h1⟩
open Go.Eng
def okN {α : Type} (B : Nat) (l : List α) : Prop := l.length ≤ B
def okL {α : Type} (B : Nat) (ok : α → Prop) (l : List α) : Prop := l.length ≤ B ∧ ∀ x, x ∈ l → ok x
theorem HU {α : Type} {l : List (List α)} {k : Int} (h0 : 0 ≤ k) (h1 : k < l.length) : (l.drop k.toNat).flatten = l[k.toNat]'(by omega) ++ (l.drop (k + 1).toNat).flatten := by
 rw [drop_at h0 h1, List.flatten_cons]
theorem CK {α : Type} {l : List α} {k : Int} (h0 : 0 ≤ k) (h1 : k < l.length) : l.take (k + 1).toNat = l.take k.toNat ++ [l[k.toNat]'(by omega)] := by
 rw [show (k + 1).toNat = k.toNat + 1 from by omega, List.take_add_one, List.getElem?_eq_getElem (by omega)];rfl
theorem Gm {α : Type} {l : List α} {k : Int} (h1 : (l.length : Int) ≤ k) : l.take k.toNat = l := Qi (by omega)
def Ck : List (Int → Int) → Int → Int
 | [], left => left
 | f :: fs, left => if f left < 0 then -1 else Ck fs (f left)
def Eg {α : Type} (l : List α) (left : Int) : Int := szN l.length left
def GH (l : List Int) (left : Int) : Int := szN l.length left
def SzA (f : Int → Int) (p : Prop) : Prop := ∀ left : Int, 0 ≤ left → left ≤ 1048576 → f left ≤ left ∧ -1 ≤ f left ∧ (0 ≤ f left → p)
def SzG {α : Type} (f : α → Int → Int) (ok : α → Prop) : Prop := ∀ x, SzA (f x) (ok x)
theorem szN_g {α : Type} : SzG (fun (l : List α) => szN l.length) (okN 1048576) := by
 intro l left h0 hh;unfold szN okN;dsimp only
 split <;> refine ⟨by omega, by omega, fun h => by omega⟩
theorem L5 {α : Type} (l : List α) : SzA (Eg l) (okN 1048576 l) := szN_g l
theorem Gp (l : List Int) : SzA (GH l) (okN 1048576 l) := szN_g l
theorem PY {α : Type} {f : α → Int → Int} {ok : α → Prop} : ∀ {l : List α}, (∀ x, x ∈ l → SzA (f x) (ok x)) → SzA (JE f l) (∀ x, x ∈ l → ok x)
 | [], _, left, h0, hh => ⟨by simp [JE], by simp [JE]; omega, fun _ x hx => by cases hx⟩
 | x :: l, h, left, h0, hh => by
  have h1 := h x (Q9 ..) left h0 hh
  rw [JE];split
  ·exact ⟨by omega, by omega, fun h => by omega⟩
  ·have h2 := PY (fun y hy => h y (Qy _ hy)) (f x left) (by omega) (by omega)
   refine ⟨by omega, by omega, fun h3 y hy => ?_⟩
   rcases Qn.1 hy with rfl | hy
   ·exact h1.2.2 (by omega)
   ·exact h2.2.2 h3 y hy
theorem szL_a {α : Type} {f : α → Int → Int} {ok : α → Prop} {l : List α} (h : ∀ x, x ∈ l → SzA (f x) (ok x)) : SzA (szL f l) (okL 1048576 ok l) := by
 intro left h0 hh;unfold szL okL;split
 ·exact ⟨by omega, by omega, fun h => by omega⟩
 ·have h2 := PY h (left - l.length) (by omega) (by omega)
  exact ⟨by omega, by omega, fun h3 => ⟨by omega, h2.2.2 h3⟩⟩
theorem szL_g {α : Type} {f : α → Int → Int} {ok : α → Prop} (h : SzG f ok) : SzG (szL f) (okL 1048576 ok) := fun l => szL_a fun x _ => h x
theorem Hp : SzA (Ck []) True := fun left h0 hh => ⟨by simp [Ck], by simp [Ck]; omega, fun _ => trivial⟩
theorem DW {f : Int → Int} {fs : List (Int → Int)} {p q : Prop} (h1 : SzA f p) (h2 : SzA (Ck fs) q) : SzA (Ck (f :: fs)) (p ∧ q) := by
 intro left h0 hh
 have g1 := h1 left h0 hh
 rw [Ck];split
 ·exact ⟨by omega, by omega, fun h => by omega⟩
 ·have g2 := h2 (f left) (by omega) (by omega)
  exact ⟨by omega, by omega, fun h => ⟨g1.2.2 (by omega), g2.2.2 h⟩⟩
def eqB (a b : Bool) : Bool := a == b
theorem Dd : ∀ x, eqI x x = true := fun x => by simp [eqI]
theorem JC (l : List Int) (left : Int) (hl : okN 9223372036854775807 l) (h0 : 0 ≤ left) (hh : left ≤ 1048576) : Fun Tryz.prog 59 [.t (T.ints l), .t (.int left)] (.t (.int (GH l left))) := Kw l left hl h0 hh
theorem I9 (l : List Int) (hl : okN 1048576 l) : Fun Tryz.prog 7 [.t (T.ints l)] (.own (T.ints l)) := Cj l hl
theorem Jj (a b : List Int) (ha : okN 9223372036854775807 a) (hb : okN 9223372036854775807 b) : Fun Tryz.prog 11 [.t (T.ints a), .t (T.ints b)] (.t (.bool (eqL eqI a b))) := Et a b ha hb
open Go.Eng
structure Ins where
 op : Int
 n : Int
def Ins.tt (x : Ins) : T := .agg [T.int x.op, T.int x.n]
def GB (a b : Ins) : Bool := eqI a.op b.op && eqI a.n b.n && true
theorem Lb (a : Ins) : GB a a = true := by
 unfold GB; simp only [Dd, Bool.and_self]
theorem L4 (x : Ins) : Fun Tryz.prog 90 [.t (Ins.tt x)] (Ay [.agg [.t (T.int x.op), .t (T.int x.n)]]) := by
 refine Fun.begin tys Tryz.func90 Z Z (N := 11) [(0, .t (Ins.tt x))] Z Z (fun w0 G F0 => ?_);refine sG (AZ Z Z (lt_of Z) Z Z (nZ Z (AY tys Z Z (lt_of Z) Z Z Z (nZ Z (nA (AY tys Z Z (lt_of Z) Z Z Z (nZ Z (nA (eK 3 Z (sT Z (nZ Z (nB (sQ (kY [1,2,3] Z (rG ?_)))))))))))))));refine eK 3 Z (sT Z (nZ Z (nA (eZ Z ?_))))
 try refine WO_le (Le.freeze (u := 10) rfl) ?_
 refine nZ Z (sT Z (nZ Z (nB (rT (eR ?_)))))
 ·rfl
theorem NJ (a b : Ins) : Fun Tryz.prog 104 [.t (Ins.tt a), .t (Ins.tt b)] (Ay [.t (.bool (GB a b))]) := by
 refine Fun.begin tys Tryz.func104 Z Z (N := 15) [(0, .t (Ins.tt a)), (1, .t (Ins.tt b))] Z Z (fun w0 G F0 => ?_);refine sG (AZ Z Z (lt_of Z) Z Z (nZ Z (AZ Z Z (lt_of Z) Z Z (nZ Z (eZ Z (nB (sQ (sG (eK 5 Z (nB ?_))))))))));refine AC Z (fun h1 => ?_) (fun h1 => ?_)
 ·
  simp only [HS] at h1;refine sQ (kY [2,3,4] Z (rG (eZ Z (nB (rT (tR (eR ?_)))))))
  ·simp_all [GB, eqI, eqB]
 simp only [HS] at h1;refine AD (tN (sQ (sQ (kY [2,3,4] Z (rG (eK 5 Z (nB ?_)))))));refine AC Z (fun h2 => ?_) (fun h2 => ?_)
 ·
  simp only [HS] at h2;refine sG (eZ Z (nB (rT (tR (eR ?_)))))
  ·simp_all [GB, eqI, eqB]
 simp only [HS] at h2;refine AD (tN (sG (eZ Z (nB (rT (eR ?_))))))
 ·simp_all [GB, eqI, eqB]
theorem Jz (l : List Ins) : SzA (Eg l) (okN 1048576 l) := L5 l
abbrev T.Inss (l : List Ins) : T := .list 2 (l.map Ins.tt)
theorem Kx (l : List Ins) (left : Int) (hl : okN 9223372036854775807 l) (h0 : 0 ≤ left) (hh : left ≤ 1048576) : Fun Tryz.prog 60 [.t (T.Inss l), .t (.int left)] (Ay [.t (.int (Eg l left))]) := by
 unfold okN at hl;refine Fun.begin tys Tryz.func60 Z Z (N := 12) [(0, .t (T.Inss l)), (1, .t (.int left))] Z Z (fun w0 G F0 => ?_);refine sG (eZ Z (nA (eK 2 Z (evE ?_))));refine evI ?_;refine eZ Z (nB (sQ (sG (eK 2 Z (nB ?_)))));refine AC Z (fun h1 => ?_) (fun h1 => ?_)
 ·
  simp only [HS] at h1;refine sQ (kY [1,4] Z (rG (eZ Z (nB (rT (tR (eR ?_)))))))
  ·(simp only [Eg, szN]; simp_all <;> omega)
 simp only [HS] at h1;refine AD (tN (sQ (kY [1,4] Z (rG (eK 2 Z (nB (rT (eR ?_))))))))
 ·(simp only [Eg, szN]; simp_all <;> omega)
theorem Kt (l : List Ins) (hl : okN 1048576 l) : Fun Tryz.prog 71 [.t (T.Inss l)] (Ay [.own (T.Inss l)]) := by
 unfold okN at hl;refine Fun.begin tys Tryz.func71 Z Z (N := 23) [(0, .t (T.Inss l))] Z Z (fun w0 G F0 => ?_);refine sG (eZ Z (nA (eZ Z (evE ?_))));refine Ch tys (.agg [.v (.int .i64 0), .v (.int .i64 0)]) _ Z Z (lt_of Z) Z Z Z Z Z (by repeat (first | exact AbsL.nil' | refine AbsL.v' ?_ | refine AbsL.none' ?_)) Z (by omega) (by decide) ?_;refine nZ Z (eZ Z (nB (sQ (sG (eZ Z (nB (AH ?_)))))));refine lK (α := Int × List T) [0, 3] [] (fun x => [(4, .t (.int (x.1)))]) (fun x => [(7, .L 2 (x.2))]) (fun x => 0 ≤ (x.1) ∧ (x.1) ≤ l.length ∧ (x.2).length = l.length ∧ (x.2).take (x.1).toNat = (l.take (x.1).toNat).map Ins.tt) (fun x => Int.toNat (l.length - (x.1))) (0, List.replicate l.length (.agg [.v (.int .i64 0), .v (.int .i64 0)])) ?_ (fun x hx => ?_)
 ·exact ⟨by omega, by omega, by simp, by simp⟩
 obtain ⟨k, xs⟩ := x
 obtain ⟨hk0, hk1, hk2, hk3⟩ := hx
 dsimp only at hk0 hk1 hk2 hk3 ⊢;refine nY Z (sQ (sG (eK 2 Z (evE ?_))));refine eZ Z (nB ?_);refine AC Z (fun h1 => ?_) (fun h1 => ?_)
 ·
  simp only [HS] at h1;refine AD (tN (sQ (AH (rG (eK 4 Z ?_)))));refine iY (k := ?_);refine kZ [0,3,4,8,9,10,11,14,15,16,17,18] Z (eZ Z ?_)
  try refine WO_le (Le.freeze (u := 19) rfl) ?_
  refine nZ Z (AS ?_);refine ⟨_, L4 _, rfl, ?_⟩;refine AR tys Z Z (lt_of Z) Z Z Z Z Z Z Z Z (by omega) (by omega) ?_;refine Al tys (Ins.tt _) Z Z Z Z Z Z (by first | exact Qv _ | rfl) (by omega) Z (by repeat (first | exact AbsL.nil' | refine AbsL.v' ?_ | refine AbsL.own' ?_)) Z Z Z ?_;refine nZ Z (oN (bN (tN (rG (eZ Z (evI ?_))))));refine eZ Z (oN ?_);refine lQ (_, _) ?_ ?_
  ·dsimp only
   exact ⟨by omega, by omega, by simpa using hk2, EQ hk0 (by omega) hk2 hk3⟩
  ·(show Int.toNat _ < Int.toNat _); omega
 simp only [HS] at h1;refine AW (tE (AN (AO (tN (sG (eK 2 Z (nB (W_le (Le.gather (u := 2) (id := 7) Z Z (by omega)) (rT (eR ?_))))))))))
 ·rw [Qi (by omega), FF (by omega) hk2 hk3]
theorem Lc (a b : List Ins) (ha : okN 9223372036854775807 a) (hb : okN 9223372036854775807 b) : Fun Tryz.prog 80 [.t (T.Inss a), .t (T.Inss b)] (Ay [.t (.bool (eqL GB a b))]) := by
 unfold okN at ha hb;refine Fun.begin tys Tryz.func80 Z Z (N := 27) [(0, .t (T.Inss a)), (1, .t (T.Inss b))] Z Z (fun w0 G F0 => ?_);refine sG (eZ Z (nB (sQ (sG (eZ Z (evE ?_))))));refine eZ Z (evE ?_);refine eZ Z (nB ?_);refine AC Z (fun h1 => ?_) (fun h1 => ?_)
 ·
  simp only [HS] at h1;refine sG (eZ Z (nB (rT (tR (eR ?_)))))
  ·rw [Fp h1]
   done
 simp only [HS] at h1;refine AD (tN (sQ (sG (eZ Z (nB (AH ?_))))));refine lK (α := Int) [0, 1] [] (fun x => [(5, .t (.int x))]) (fun x => []) (fun x => 0 ≤ x ∧ x ≤ a.length ∧ Hj GB a b = Hj GB (a.drop x.toNat) (b.drop x.toNat)) (fun x => Int.toNat (a.length - x)) 0 ?_ (fun k hx => ?_)
 ·exact ⟨by omega, by omega, rfl⟩
 obtain ⟨hk0, hk1, hk2⟩ := hx
 refine nY Z (sQ (sG (eK 2 Z (evE ?_))));refine eZ Z (nB ?_);refine AC Z (fun h2 => ?_) (fun h2 => ?_)
 ·
  simp only [HS] at h2;refine AD (tN (sQ (AH (sQ (AV mixed (by kernel_rfl) (evQ ?_))))));refine evQ ?_;refine AI Z (Ai tys Z Z (lt_of Z) Z Z Z Z Z Z Z (by omega) _ (BT _ _ (by omega) (by omega)) (evQ ?_));refine evQ ?_;refine evQ ?_;refine Ai tys Z Z (lt_of Z) Z Z Z Z Z Z Z (by omega) _ (BT _ _ (by omega) (by omega)) (evQ ?_);refine AI Z (Dp ?_);refine ⟨_, NJ _ _, rfl, ?_⟩;refine evQ ?_;refine Ak (tN ?_);refine AC Z (fun h3 => ?_) (fun h3 => ?_)
  ·
   simp only [HS] at h3;refine sG (eZ Z (nB (rT (bR (tR (AP (bR (tR (eR ?_)))))))))
   ·rw [Dn h1, hk2, Cg hk0 h2 h1]
    simp [h3]
    done
  simp only [HS] at h3;refine AD (bN (tN (rG (eZ Z (evI ?_)))));refine eZ Z (oN ?_);refine lQ _ ?_ ?_
  ·skip
   refine ⟨by omega, by omega, ?_⟩; rw [hk2, Cg hk0 h2 h1]; simp [h3]
  ·(show Int.toNat _ < Int.toNat _); omega
 simp only [HS] at h2;refine AW (tE (AN (AO (tN (sG (eZ Z (nB (rT (eR ?_)))))))))
 ·rw [Dn h1, hk2, AX h2]
  rfl
structure Row where
 lo : Int
 hi : Int
 pad : Int
def Row.tt (x : Row) : T := .agg [T.int x.lo, T.int x.hi, T.int x.pad]
def Fo (a b : Row) : Bool := eqI a.lo b.lo && eqI a.hi b.hi && eqI a.pad b.pad && true
theorem LZ (a : Row) : Fo a a = true := by
 unfold Fo; simp only [Dd, Bool.and_self]
theorem L3 (x : Row) : Fun Tryz.prog 91 [.t (Row.tt x)] (Ay [.agg [.t (T.int x.lo), .t (T.int x.hi), .t (T.int x.pad)]]) := by
 refine Fun.begin tys Tryz.func91 Z Z (N := 14) [(0, .t (Row.tt x))] Z Z (fun w0 G F0 => ?_);refine sG (AZ Z Z (lt_of Z) Z Z (nZ Z (AY tys Z Z (lt_of Z) Z Z Z (nZ Z (nA (AY tys Z Z (lt_of Z) Z Z Z (nZ Z (nA (eK 3 Z (sT Z (nZ Z (nB (sQ (kY [1,2,3] Z (rG ?_)))))))))))))));refine eK 3 Z (sT Z (nZ Z (nA (eK 3 Z (sT Z (nZ Z (nB (sQ (kY [2,3] Z (rG (eZ Z ?_)))))))))))
 try refine WO_le (Le.freeze (u := 13) rfl) ?_
 refine nZ Z (sT Z (nZ Z (nB (rT (eR ?_)))))
 ·rfl
theorem NI (a b : Row) : Fun Tryz.prog 105 [.t (Row.tt a), .t (Row.tt b)] (Ay [.t (.bool (Fo a b))]) := by
 refine Fun.begin tys Tryz.func105 Z Z (N := 20) [(0, .t (Row.tt a)), (1, .t (Row.tt b))] Z Z (fun w0 G F0 => ?_);refine sG (AZ Z Z (lt_of Z) Z Z (nZ Z (AZ Z Z (lt_of Z) Z Z (nZ Z (eZ Z (nB (sQ (sG (eK 5 Z (nB ?_))))))))));refine AC Z (fun h1 => ?_) (fun h1 => ?_)
 ·
  simp only [HS] at h1;refine sQ (kY [2,3,4] Z (rG (eZ Z (nB (rT (tR (eR ?_)))))))
  ·simp_all [Fo, eqI, eqB]
 simp only [HS] at h1;refine AD (tN (sQ (sQ (kY [2,3,4] Z (rG (eK 5 Z (nB ?_)))))));refine AC Z (fun h2 => ?_) (fun h2 => ?_)
 ·
  simp only [HS] at h2;refine sG (eZ Z (nB (rT (tR (eR ?_)))))
  ·simp_all [Fo, eqI, eqB]
 simp only [HS] at h2;refine AD (tN (sQ (sG (eK 4 Z (kZ [4,16,18] Z (eZ Z (nB ?_)))))));refine AC Z (fun h3 => ?_) (fun h3 => ?_)
 ·
  simp only [HS] at h3;refine sG (eZ Z (nB (rT (tR (eR ?_)))))
  ·simp_all [Fo, eqI, eqB]
 simp only [HS] at h3;refine AD (tN (sG (eZ Z (nB (rT (eR ?_))))))
 ·simp_all [Fo, eqI, eqB]
theorem OJ (l : List Row) : SzA (Eg l) (okN 1048576 l) := L5 l
abbrev T.Rows (l : List Row) : T := .list 3 (l.map Row.tt)
theorem Kv (l : List Row) (left : Int) (hl : okN 9223372036854775807 l) (h0 : 0 ≤ left) (hh : left ≤ 1048576) : Fun Tryz.prog 61 [.t (T.Rows l), .t (.int left)] (Ay [.t (.int (Eg l left))]) := by
 unfold okN at hl;refine Fun.begin tys Tryz.func61 Z Z (N := 12) [(0, .t (T.Rows l)), (1, .t (.int left))] Z Z (fun w0 G F0 => ?_);refine sG (eZ Z (nA (eK 2 Z (evE ?_))));refine evI ?_;refine eZ Z (nB (sQ (sG (eK 2 Z (nB ?_)))));refine AC Z (fun h1 => ?_) (fun h1 => ?_)
 ·
  simp only [HS] at h1;refine sQ (kY [1,4] Z (rG (eZ Z (nB (rT (tR (eR ?_)))))))
  ·(simp only [Eg, szN]; simp_all <;> omega)
 simp only [HS] at h1;refine AD (tN (sQ (kY [1,4] Z (rG (eK 2 Z (nB (rT (eR ?_))))))))
 ·(simp only [Eg, szN]; simp_all <;> omega)
theorem Ks (l : List Row) (hl : okN 1048576 l) : Fun Tryz.prog 72 [.t (T.Rows l)] (Ay [.own (T.Rows l)]) := by
 unfold okN at hl;refine Fun.begin tys Tryz.func72 Z Z (N := 23) [(0, .t (T.Rows l))] Z Z (fun w0 G F0 => ?_);refine sG (eZ Z (nA (eZ Z (evE ?_))));refine Ch tys (.agg [.v (.int .i64 0), .v (.int .i64 0), .v (.int .i64 0)]) _ Z Z (lt_of Z) Z Z Z Z Z (by repeat (first | exact AbsL.nil' | refine AbsL.v' ?_ | refine AbsL.none' ?_)) Z (by omega) (by decide) ?_;refine nZ Z (eZ Z (nB (sQ (sG (eZ Z (nB (AH ?_)))))));refine lK (α := Int × List T) [0, 3] [] (fun x => [(4, .t (.int (x.1)))]) (fun x => [(7, .L 3 (x.2))]) (fun x => 0 ≤ (x.1) ∧ (x.1) ≤ l.length ∧ (x.2).length = l.length ∧ (x.2).take (x.1).toNat = (l.take (x.1).toNat).map Row.tt) (fun x => Int.toNat (l.length - (x.1))) (0, List.replicate l.length (.agg [.v (.int .i64 0), .v (.int .i64 0), .v (.int .i64 0)])) ?_ (fun x hx => ?_)
 ·exact ⟨by omega, by omega, by simp, by simp⟩
 obtain ⟨k, xs⟩ := x
 obtain ⟨hk0, hk1, hk2, hk3⟩ := hx
 dsimp only at hk0 hk1 hk2 hk3 ⊢;refine nY Z (sQ (sG (eK 2 Z (evE ?_))));refine eZ Z (nB ?_);refine AC Z (fun h1 => ?_) (fun h1 => ?_)
 ·
  simp only [HS] at h1;refine AD (tN (sQ (AH (rG (eK 4 Z ?_)))));refine iY (k := ?_);refine kZ [0,3,4,8,9,10,11,14,15,16,17,18] Z (eZ Z ?_)
  try refine WO_le (Le.freeze (u := 19) rfl) ?_
  refine nZ Z (AS ?_);refine ⟨_, L3 _, rfl, ?_⟩;refine AR tys Z Z (lt_of Z) Z Z Z Z Z Z Z Z (by omega) (by omega) ?_;refine Al tys (Row.tt _) Z Z Z Z Z Z (by first | exact Qv _ | rfl) (by omega) Z (by repeat (first | exact AbsL.nil' | refine AbsL.v' ?_ | refine AbsL.own' ?_)) Z Z Z ?_;refine nZ Z (oN (bN (tN (rG (eZ Z (evI ?_))))));refine eZ Z (oN ?_);refine lQ (_, _) ?_ ?_
  ·dsimp only
   exact ⟨by omega, by omega, by simpa using hk2, EQ hk0 (by omega) hk2 hk3⟩
  ·(show Int.toNat _ < Int.toNat _); omega
 simp only [HS] at h1;refine AW (tE (AN (AO (tN (sG (eK 2 Z (nB (W_le (Le.gather (u := 2) (id := 7) Z Z (by omega)) (rT (eR ?_))))))))))
 ·rw [Qi (by omega), FF (by omega) hk2 hk3]
theorem La (a b : List Row) (ha : okN 9223372036854775807 a) (hb : okN 9223372036854775807 b) : Fun Tryz.prog 81 [.t (T.Rows a), .t (T.Rows b)] (Ay [.t (.bool (eqL Fo a b))]) := by
 unfold okN at ha hb;refine Fun.begin tys Tryz.func81 Z Z (N := 27) [(0, .t (T.Rows a)), (1, .t (T.Rows b))] Z Z (fun w0 G F0 => ?_);refine sG (eZ Z (nB (sQ (sG (eZ Z (evE ?_))))));refine eZ Z (evE ?_);refine eZ Z (nB ?_);refine AC Z (fun h1 => ?_) (fun h1 => ?_)
 ·
  simp only [HS] at h1;refine sG (eZ Z (nB (rT (tR (eR ?_)))))
  ·rw [Fp h1]
   done
 simp only [HS] at h1;refine AD (tN (sQ (sG (eZ Z (nB (AH ?_))))));refine lK (α := Int) [0, 1] [] (fun x => [(5, .t (.int x))]) (fun x => []) (fun x => 0 ≤ x ∧ x ≤ a.length ∧ Hj Fo a b = Hj Fo (a.drop x.toNat) (b.drop x.toNat)) (fun x => Int.toNat (a.length - x)) 0 ?_ (fun k hx => ?_)
 ·exact ⟨by omega, by omega, rfl⟩
 obtain ⟨hk0, hk1, hk2⟩ := hx
 refine nY Z (sQ (sG (eK 2 Z (evE ?_))));refine eZ Z (nB ?_);refine AC Z (fun h2 => ?_) (fun h2 => ?_)
 ·
  simp only [HS] at h2;refine AD (tN (sQ (AH (sQ (AV mixed (by kernel_rfl) (evQ ?_))))));refine evQ ?_;refine AI Z (Ai tys Z Z (lt_of Z) Z Z Z Z Z Z Z (by omega) _ (BT _ _ (by omega) (by omega)) (evQ ?_));refine evQ ?_;refine evQ ?_;refine Ai tys Z Z (lt_of Z) Z Z Z Z Z Z Z (by omega) _ (BT _ _ (by omega) (by omega)) (evQ ?_);refine AI Z (Dp ?_);refine ⟨_, NI _ _, rfl, ?_⟩;refine evQ ?_;refine Ak (tN ?_);refine AC Z (fun h3 => ?_) (fun h3 => ?_)
  ·
   simp only [HS] at h3;refine sG (eZ Z (nB (rT (bR (tR (AP (bR (tR (eR ?_)))))))))
   ·rw [Dn h1, hk2, Cg hk0 h2 h1]
    simp [h3]
    done
  simp only [HS] at h3;refine AD (bN (tN (rG (eZ Z (evI ?_)))));refine eZ Z (oN ?_);refine lQ _ ?_ ?_
  ·skip
   refine ⟨by omega, by omega, ?_⟩; rw [hk2, Cg hk0 h2 h1]; simp [h3]
  ·(show Int.toNat _ < Int.toNat _); omega
 simp only [HS] at h2;refine AW (tE (AN (AO (tN (sG (eZ Z (nB (rT (eR ?_)))))))))
 ·rw [Dn h1, hk2, AX h2]
  rfl
structure Code where
 params : Int
 vars : Int
 sites : List Int
 ins : List (Ins)
 rows : List (Row)
def Code.tt (x : Code) : T := .agg [T.int x.params, T.int x.vars, T.ints x.sites, T.Inss x.ins, T.Rows x.rows]
def Code.ok (B : Nat) (x : Code) : Prop := okN B x.sites ∧ okN B x.ins ∧ okN B x.rows ∧ True
def DG (x : Code) : Int → Int := Ck [GH x.sites, Eg x.ins, Eg x.rows]
theorem J0 : SzG DG (Code.ok 1048576) := fun x left h0 hh => by
 have := DW (Gp x.sites) (DW (Jz x.ins) (DW (OJ x.rows) (Hp)))
 exact this left h0 hh
def Ct (a b : Code) : Bool := eqI a.params b.params && eqI a.vars b.vars && (eqL eqI) a.sites b.sites && (eqL GB) a.ins b.ins && (eqL Fo) a.rows b.rows && true
theorem Jl (a : Code) : Ct a a = true := by
 unfold Ct; simp only [Dd, C7 Dd, C7 Lb, C7 LZ, Bool.and_self]
theorem Ky (x : Code) (left : Int) (hx : Code.ok 9223372036854775807 x) (h0 : 0 ≤ left) (hh : left ≤ 1048576) : Fun Tryz.prog 31 [.t (Code.tt x), .t (.int left)] (Ay [.t (.int (DG x left))]) := by
 refine Fun.begin tys Tryz.func31 Z Z (N := 24) [(0, .t (Code.tt x)), (1, .t (.int left))] Z Z (fun w0 G F0 => ?_);refine sG (AZ Z Z (lt_of Z) Z Z (nZ Z (eZ Z (nA (eK 3 Z (AS ?_))))));refine ⟨_, JC _ _ (hx.1) (by omega) (by  omega), rfl, ?_⟩;refine eZ Z (nB (sQ (sQ (kY [1,2,4] Z (rG (eK 2 Z (nB ?_)))))));refine AC Z (fun h1 => ?_) (fun h1 => ?_)
 ·
  simp only [HS] at h1;refine sG (eZ Z (nB (rT (tR (eR ?_)))))
  ·(simp only [DG, Ck]; repeat (first | rw [if_neg (by omega)] | rw [if_pos (by omega)]))
 simp only [HS] at h1;refine AD (tN (sG (eK 3 Z (AS ?_))));refine ⟨_, Kx _ _ (hx.2.1) (by omega) (by have g0 := Gp x.sites left (by omega) (by omega); omega), rfl, ?_⟩;refine eZ Z (nB (sQ (sQ (kY [1,2,4] Z (rG (eK 2 Z (nB ?_)))))));refine AC Z (fun h2 => ?_) (fun h2 => ?_)
 ·
  simp only [HS] at h2;refine sG (eZ Z (nB (rT (tR (eR ?_)))))
  ·(simp only [DG, Ck]; repeat (first | rw [if_neg (by omega)] | rw [if_pos (by omega)]))
 simp only [HS] at h2;refine AD (tN (sG (eK 3 Z (AS ?_))));refine ⟨_, Kv _ _ (hx.2.2.1) (by omega) (by have g0 := Gp x.sites left (by omega) (by omega); have g1 := Jz x.ins (GH x.sites left) (by omega) (by omega); omega), rfl, ?_⟩;refine eZ Z (nB (sQ (sQ (kY [1,4] Z (rG (eK 2 Z (nB ?_)))))));refine AC Z (fun h3 => ?_) (fun h3 => ?_)
 ·
  simp only [HS] at h3;refine sG (eZ Z (nB (rT (tR (eR ?_)))))
  ·(simp only [DG, Ck]; repeat (first | rw [if_neg (by omega)] | rw [if_pos (by omega)]))
 simp only [HS] at h3;refine AD (tN (sG (eK 2 Z (nB (rT (eR ?_))))))
 ·(simp only [DG, Ck]; repeat (first | rw [if_neg (by omega)] | rw [if_pos (by omega)]))
theorem Ku (x : Code) (hx : Code.ok 1048576 x) : Fun Tryz.prog 43 [.t (Code.tt x)] (Ay [.agg [.t (T.int x.params), .t (T.int x.vars), .own (T.ints x.sites), .own (T.Inss x.ins), .own (T.Rows x.rows)]]) := by
 refine Fun.begin tys Tryz.func43 Z Z (N := 23) [(0, .t (Code.tt x))] Z Z (fun w0 G F0 => ?_);refine sG (AZ Z Z (lt_of Z) Z Z (nZ Z (AY tys Z Z (lt_of Z) Z Z Z (nZ Z (nA (AY tys Z Z (lt_of Z) Z Z Z (nZ Z (nA (eK 3 Z (sT Z (nZ Z (nB (sQ (kY [1,2,3] Z (rG ?_)))))))))))))));refine eK 3 Z (sT Z (nZ Z (nA (eK 2 Z (AS ?_)))));refine ⟨_, I9 _ (by first | exact hx.1), rfl, ?_⟩;refine eZ Z (sT Z (nZ Z (kZ [1,2,3] Z (nA (eK 2 Z (AS ?_))))));refine ⟨_, Kt _ (by first | exact hx.2.1), rfl, ?_⟩;refine eZ Z (sT Z (nZ Z (nA (eK 2 Z (AS ?_)))));refine ⟨_, Ks _ (by first | exact hx.2.2.1), rfl, ?_⟩;refine eZ Z (kZ [2,3,20,21] Z (sT Z (nZ Z (nA (CS tys Z Z (lt_of Z) Z Z Z Z Z Z (nZ Z (sT Z (nZ Z (nB (rT (eR ?_)))))))))))
 ·rfl
theorem Ld (a b : Code) (ha : Code.ok 9223372036854775807 a) (hb : Code.ok 9223372036854775807 b) : Fun Tryz.prog 56 [.t (Code.tt a), .t (Code.tt b)] (Ay [.t (.bool (Ct a b))]) := by
 refine Fun.begin tys Tryz.func56 Z Z (N := 33) [(0, .t (Code.tt a)), (1, .t (Code.tt b))] Z Z (fun w0 G F0 => ?_);refine sG (AZ Z Z (lt_of Z) Z Z (nZ Z (AZ Z Z (lt_of Z) Z Z (nZ Z (eZ Z (nB (sQ (sG (eK 5 Z (nB ?_))))))))));refine AC Z (fun h1 => ?_) (fun h1 => ?_)
 ·
  simp only [HS] at h1;refine sQ (kY [2,3,4] Z (rG (eZ Z (nB (rT (tR (eR ?_)))))))
  ·simp_all [Ct, eqI, eqB]
 simp only [HS] at h1;refine AD (tN (sQ (sQ (kY [2,3,4] Z (rG (eK 5 Z (nB ?_)))))));refine AC Z (fun h2 => ?_) (fun h2 => ?_)
 ·
  simp only [HS] at h2;refine sG (eZ Z (nB (rT (tR (eR ?_)))))
  ·simp_all [Ct, eqI, eqB]
 simp only [HS] at h2;refine AD (tN (sQ (sG (eK 4 Z (kZ [2,3,4,16,18] Z (AS ?_))))));refine ⟨_, Jj _ _ (by first | exact ha.1) (by first | exact hb.1), rfl, ?_⟩;refine eZ Z (nB ?_);refine AC Z (fun h3 => ?_) (fun h3 => ?_)
 ·
  simp only [HS] at h3;refine sG (eZ Z (nB (rT (tR (eR ?_)))))
  ·simp_all [Ct, eqI, eqB]
 simp only [HS] at h3;refine AD (tN (sQ (sG (eK 4 Z (AS ?_)))));refine ⟨_, Lc _ _ (by first | exact ha.2.1) (by first | exact hb.2.1), rfl, ?_⟩;refine eZ Z (nB ?_);refine AC Z (fun h4 => ?_) (fun h4 => ?_)
 ·
  simp only [HS] at h4;refine sQ (kY [2,3,4] Z (rG (eZ Z (nB (rT (tR (eR ?_)))))))
  ·simp_all [Ct, eqI, eqB]
 simp only [HS] at h4;refine AD (tN (sQ (sQ (kY [2,3,4] Z (rG (eK 4 Z (AS ?_)))))));refine ⟨_, La _ _ (by first | exact ha.2.2.1) (by first | exact hb.2.2.1), rfl, ?_⟩;refine eZ Z (nB ?_);refine AC Z (fun h5 => ?_) (fun h5 => ?_)
 ·
  simp only [HS] at h5;refine sG (eZ Z (nB (rT (tR (eR ?_)))))
  ·simp_all [Ct, eqI, eqB]
 simp only [HS] at h5;refine AD (tN (sG (eZ Z (nB (rT (eR ?_))))))
 ·simp_all [Ct, eqI, eqB]
abbrev T.Codes (l : List (Code)) : T := .list 5 (l.map Code.tt)
theorem L9 : SzG (szL DG) (okL 1048576 (Code.ok 1048576)) := szL_g J0
theorem JF (l : List (Code)) (left : Int) (hl : okL 9223372036854775807 (Code.ok 9223372036854775807) l) (h0 : 0 ≤ left) (hh : left ≤ 1048576) : Fun Tryz.prog 16 [.t (T.Codes l), .t (.int left)] (Ay [.t (.int (szL DG l left))]) := by
 have hl1 := hl.1
 refine Fun.begin tys Tryz.func16 Z Z (N := 27) [(0, .t (T.Codes l)), (1, .t (.int left))] Z Z (fun w0 G F0 => ?_);refine sG (eZ Z (nA (eK 2 Z (evE ?_))));refine evI ?_;refine eZ Z (nB (sQ (sG (eK 2 Z (nB ?_)))));refine AC Z (fun h1 => ?_) (fun h1 => ?_)
 ·
  simp only [HS] at h1;refine sQ (kY [0,1,4] Z (rG (eZ Z (nB (rT (tR (eR ?_)))))))
  ·rw [szL, if_pos h1]
   done
 simp only [HS] at h1;refine AD (tN (sQ (sQ (kY [0,1,4] Z (rG (eZ Z (nB (AH ?_))))))));refine lK (α := Int × Int) [0] [] (fun x => [(5, .t (.int (x.1))), (1, .t (.int (x.2)))]) (fun x => []) (fun x => 0 ≤ (x.1) ∧ (x.1) ≤ l.length ∧ 0 ≤ (x.2) ∧ (x.2) ≤ 1048576 ∧ JE DG l (left - l.length) = JE DG (l.drop (x.1).toNat) (x.2)) (fun x => Int.toNat (l.length - (x.1))) (0, left - l.length) ?_ (fun x hx => ?_)
 ·exact ⟨by omega, by omega, by omega, by omega, by simp⟩
 obtain ⟨k, lf⟩ := x
 obtain ⟨hk0, hk1, hk2, hk3, hk4⟩ := hx
 dsimp only at hk0 hk1 hk2 hk3 hk4 ⊢;refine nY Z (sQ (sG (eK 2 Z (evE ?_))));refine eZ Z (nB ?_);refine AC Z (fun h2 => ?_) (fun h2 => ?_)
 ·
  simp only [HS] at h2;refine AD (tN (sQ (AH (sG (eK 2 Z ?_)))));refine iY (k := ?_);refine eZ Z ?_
  try refine WO_le (Le.freeze (u := 21) rfl) ?_
  refine nZ Z (eZ Z (kZ [0,1,5,12,13,14,15,18,19,20,21,22] Z (AS ?_)));refine ⟨_, Ky _ _ (hl.2 _ (Qq _)) (by omega) (by omega), rfl, ?_⟩;refine eZ Z (nA (eK 2 Z (nB ?_)));refine AC Z (fun h3 => ?_) (fun h3 => ?_)
  ·
   simp only [HS] at h3;refine sG (eZ Z (nB (rT (bR (tR (AP (bR (tR (eR ?_)))))))))
   ·(rw [szL, if_neg (by omega), hk4, drop_at hk0 (by omega), JE, if_pos h3]; done)
  simp only [HS] at h3;refine AD (bN (tN (rG (eZ Z (evI ?_)))));refine eZ Z (oN ?_);refine lQ (_, _) ?_ ?_
  ·dsimp only
   (have hb := J0 (l[k.toNat]'(by omega)) lf hk2 hk3; refine ⟨by omega, by omega, by omega, by omega, ?_⟩; rw [hk4, drop_at hk0 (by omega), JE, if_neg (by omega)])
  ·(show Int.toNat _ < Int.toNat _); omega
 simp only [HS] at h2;refine AW (tE (AN (AO (tN (sG (eK 2 Z (nB (rT (eR ?_)))))))))
 ·(rw [szL, if_neg (by omega), hk4, AX (by omega), JE]; done)
theorem JA (l : List (Code)) (hl : okL 1048576 (Code.ok 1048576) l) : Fun Tryz.prog 22 [.t (T.Codes l)] (Ay [.own (T.Codes l)]) := by
 have hl1 := hl.1
 refine Fun.begin tys Tryz.func22 Z Z (N := 23) [(0, .t (T.Codes l))] Z Z (fun w0 G F0 => ?_);refine sG (eZ Z (nA (eZ Z (evE ?_))));refine Ch tys (.agg [.v (.int .i64 0), .v (.int .i64 0), .list 1 [], .list 2 [], .list 3 []]) _ Z Z (lt_of Z) Z Z Z Z Z (by repeat (first | exact AbsL.nil' | refine AbsL.v' ?_ | refine AbsL.none' ?_)) Z (by omega) (by decide) ?_;refine nZ Z (eZ Z (nB (sQ (sG (eZ Z (nB (AH ?_)))))));refine lK (α := Int × List T) [0, 3] [] (fun x => [(4, .t (.int (x.1)))]) (fun x => [(7, .L 5 (x.2))]) (fun x => 0 ≤ (x.1) ∧ (x.1) ≤ l.length ∧ (x.2).length = l.length ∧ (x.2).take (x.1).toNat = (l.take (x.1).toNat).map Code.tt) (fun x => Int.toNat (l.length - (x.1))) (0, List.replicate l.length (.agg [.v (.int .i64 0), .v (.int .i64 0), .list 1 [], .list 2 [], .list 3 []])) ?_ (fun x hx => ?_)
 ·exact ⟨by omega, by omega, by simp, by simp⟩
 obtain ⟨k, xs⟩ := x
 obtain ⟨hk0, hk1, hk2, hk3⟩ := hx
 dsimp only at hk0 hk1 hk2 hk3 ⊢;refine nY Z (sQ (sG (eK 2 Z (evE ?_))));refine eZ Z (nB ?_);refine AC Z (fun h1 => ?_) (fun h1 => ?_)
 ·
  simp only [HS] at h1;refine AD (tN (sQ (AH (rG (eK 4 Z ?_)))));refine iY (k := ?_);refine kZ [0,3,4,8,9,10,11,14,15,16,17,18] Z (eZ Z ?_)
  try refine WO_le (Le.freeze (u := 19) rfl) ?_
  refine nZ Z (AS ?_);refine ⟨_, Ku _ (hl.2 _ (Qq _)), rfl, ?_⟩;refine AR tys Z Z (lt_of Z) Z Z Z Z Z Z Z Z (by omega) (by omega) ?_;refine Al tys (Code.tt _) Z Z Z Z Z Z (by first | exact Qv _ | rfl) (by omega) Z (by repeat (first | exact AbsL.nil' | refine AbsL.v' ?_ | refine AbsL.own' ?_)) Z Z Z ?_;refine nZ Z (oN (bN (tN (rG (eZ Z (evI ?_))))));refine eZ Z (oN ?_);refine lQ (_, _) ?_ ?_
  ·dsimp only
   exact ⟨by omega, by omega, by simpa using hk2, by exact EQ hk0 (by omega) hk2 hk3⟩
  ·(show Int.toNat _ < Int.toNat _); omega
 simp only [HS] at h1;refine AW (tE (AN (AO (tN (sG (eK 2 Z (nB (W_le (Le.gather (u := 2) (id := 7) Z Z (by omega)) (rT (eR ?_))))))))))
 ·rw [Qi (by omega), FF (by omega) hk2 hk3]
theorem Jm (a b : List (Code)) (ha : okL 9223372036854775807 (Code.ok 9223372036854775807) a) (hb : okL 9223372036854775807 (Code.ok 9223372036854775807) b) : Fun Tryz.prog 28 [.t (T.Codes a), .t (T.Codes b)] (Ay [.t (.bool (eqL Ct a b))]) := by
 have ha1 := ha.1
 have hb1 := hb.1
 refine Fun.begin tys Tryz.func28 Z Z (N := 27) [(0, .t (T.Codes a)), (1, .t (T.Codes b))] Z Z (fun w0 G F0 => ?_);refine sG (eZ Z (nB (sQ (sG (eZ Z (evE ?_))))));refine eZ Z (evE ?_);refine eZ Z (nB ?_);refine AC Z (fun h1 => ?_) (fun h1 => ?_)
 ·
  simp only [HS] at h1;refine sG (eZ Z (nB (rT (tR (eR ?_)))))
  ·rw [Fp h1]
   done
 simp only [HS] at h1;refine AD (tN (sQ (sG (eZ Z (nB (AH ?_))))));refine lK (α := Int) [0, 1] [] (fun x => [(5, .t (.int x))]) (fun x => []) (fun x => 0 ≤ x ∧ x ≤ a.length ∧ Hj Ct a b = Hj Ct (a.drop x.toNat) (b.drop x.toNat)) (fun x => Int.toNat (a.length - x)) 0 ?_ (fun k hx => ?_)
 ·exact ⟨by omega, by omega, rfl⟩
 obtain ⟨hk0, hk1, hk2⟩ := hx
 refine nY Z (sQ (sG (eK 2 Z (evE ?_))));refine eZ Z (nB ?_);refine AC Z (fun h2 => ?_) (fun h2 => ?_)
 ·
  simp only [HS] at h2;refine AD (tN (sQ (AH (sQ (AV mixed (by kernel_rfl) (evQ ?_))))));refine evQ ?_;refine AI Z (Ai tys Z Z (lt_of Z) Z Z Z Z Z Z Z (by omega) _ (BT _ _ (by omega) (by omega)) (evQ ?_));refine evQ ?_;refine evQ ?_;refine Ai tys Z Z (lt_of Z) Z Z Z Z Z Z Z (by omega) _ (BT _ _ (by omega) (by omega)) (evQ ?_);refine AI Z (Dp ?_);refine ⟨_, Ld _ _ (ha.2 _ (Qq _)) (hb.2 _ (Qq _)), rfl, ?_⟩;refine evQ ?_;refine Ak (tN ?_);refine AC Z (fun h3 => ?_) (fun h3 => ?_)
  ·
   simp only [HS] at h3;refine sG (eZ Z (nB (rT (bR (tR (AP (bR (tR (eR ?_)))))))))
   ·rw [Dn h1, hk2, Cg hk0 h2 h1]
    simp [h3]
    done
  simp only [HS] at h3;refine AD (bN (tN (rG (eZ Z (evI ?_)))));refine eZ Z (oN ?_);refine lQ _ ?_ ?_
  ·skip
   refine ⟨by omega, by omega, ?_⟩; rw [hk2, Cg hk0 h2 h1]; simp [h3]
  ·(show Int.toNat _ < Int.toNat _); omega
 simp only [HS] at h2;refine AW (tE (AN (AO (tN (sG (eZ Z (nB (rT (eR ?_)))))))))
 ·rw [Dn h1, hk2, AX h2]
  rfl
structure Image where
 codes : List (Code)
def Image.tt (x : Image) : T := .agg [T.Codes x.codes]
def Image.ok (B : Nat) (x : Image) : Prop := okL B (Code.ok B) x.codes ∧ True
def Ds (x : Image) : Int → Int := Ck [(szL DG) x.codes]
theorem L6 : SzG Ds (Image.ok 1048576) := fun x left h0 hh => by
 have := DW (L9 x.codes) (Hp)
 exact this left h0 hh
def Fq (a b : Image) : Bool := (eqL Ct) a.codes b.codes && true
theorem Il (a : Image) : Fq a a = true := by
 unfold Fq; simp only [C7 Jl, Bool.and_self]
theorem JD (x : Image) (left : Int) (hx : Image.ok 9223372036854775807 x) (h0 : 0 ≤ left) (hh : left ≤ 1048576) : Fun Tryz.prog 4 [.t (Image.tt x), .t (.int left)] (Ay [.t (.int (Ds x left))]) := by
 refine Fun.begin tys Tryz.func4 Z Z (N := 12) [(0, .t (Image.tt x)), (1, .t (.int left))] Z Z (fun w0 G F0 => ?_);refine sG (AZ Z Z (lt_of Z) Z Z (nZ Z (eZ Z (nA (eK 3 Z (AS ?_))))));refine ⟨_, JF _ _ (hx.1) (by omega) (by  omega), rfl, ?_⟩;refine eZ Z (nB (sQ (sQ (kY [1,4] Z (rG (eK 2 Z (nB ?_)))))));refine AC Z (fun h1 => ?_) (fun h1 => ?_)
 ·
  simp only [HS] at h1;refine sG (eZ Z (nB (rT (tR (eR ?_)))))
  ·(simp only [Ds, Ck]; repeat (first | rw [if_neg (by omega)] | rw [if_pos (by omega)]))
 simp only [HS] at h1;refine AD (tN (sG (eK 2 Z (nB (rT (eR ?_))))))
 ·(simp only [Ds, Ck]; repeat (first | rw [if_neg (by omega)] | rw [if_pos (by omega)]))
theorem C2 (x : Image) (hx : Image.ok 1048576 x) : Fun Tryz.prog 6 [.t (Image.tt x)] (Ay [.agg [.own (T.Codes x.codes)]]) := by
 refine Fun.begin tys Tryz.func6 Z Z (N := 9) [(0, .t (Image.tt x))] Z Z (fun w0 G F0 => ?_);refine sG (AZ Z Z (lt_of Z) Z Z (nZ Z (AY tys Z Z (lt_of Z) Z Z Z (nZ Z (nA (AY tys Z Z (lt_of Z) Z Z Z (nZ Z (nA (eK 2 Z (AS ?_))))))))));refine ⟨_, JA _ (by first | exact hx.1), rfl, ?_⟩;refine eZ Z (sT Z (nZ Z (nB (sQ (kY [2,3] Z (rG (CS tys Z Z (lt_of Z) Z Z Z Z Z Z (nZ Z (sT Z (nZ Z (nB (rT (eR ?_)))))))))))))
 ·rfl
theorem Jk (a b : Image) (ha : Image.ok 9223372036854775807 a) (hb : Image.ok 9223372036854775807 b) : Fun Tryz.prog 10 [.t (Image.tt a), .t (Image.tt b)] (Ay [.t (.bool (Fq a b))]) := by
 refine Fun.begin tys Tryz.func10 Z Z (N := 11) [(0, .t (Image.tt a)), (1, .t (Image.tt b))] Z Z (fun w0 G F0 => ?_);refine sG (AZ Z Z (lt_of Z) Z Z (nZ Z (AZ Z Z (lt_of Z) Z Z (nZ Z (eZ Z (nB (sQ (sG (eK 4 Z (AS ?_))))))))));refine ⟨_, Jm _ _ (by first | exact ha.1) (by first | exact hb.1), rfl, ?_⟩;refine eZ Z (kZ [4,10] Z (nB ?_));refine AC Z (fun h1 => ?_) (fun h1 => ?_)
 ·
  simp only [HS] at h1;refine sG (eZ Z (nB (rT (tR (eR ?_)))))
  ·simp_all [Fq, eqI, eqB]
 simp only [HS] at h1;refine AD (tN (sG (eZ Z (nB (rT (eR ?_))))))
 ·simp_all [Fq, eqI, eqB]
open Go.Eng
theorem rd_ins {x : T} (h : Rd Tryz.prog 117 x) : ∃ a : Ins, x = a.tt ∧ True := by
 obtain ⟨xs, rfl, h1⟩ := EA (ts := [3, 3]) (by kernel_rfl) h
 match xs, h1 with
 | [x1, x2], ⟨h1, h2, _⟩ =>
  obtain ⟨k, rfl, _⟩ := N9 h1
  obtain ⟨c, rfl, _⟩ := N9 h2
  exact ⟨⟨k, c⟩, rfl, trivial⟩
theorem Px {x : T} (h : Rd Tryz.prog 69 x) : ∃ l : List Ins, x = T.Inss l ∧ okN 9223372036854775807 l := by
 obtain ⟨l, rfl, h1, _⟩ := G2 (e := 117) (n := 2) (by kernel_rfl) (by kernel_rfl) (fun y hy => rd_ins hy) h
 exact ⟨l, rfl, h1⟩
theorem rd_row {x : T} (h : Rd Tryz.prog 119 x) : ∃ a : Row, x = a.tt ∧ True := by
 obtain ⟨xs, rfl, h1⟩ := EA (ts := [3, 3, 3]) (by kernel_rfl) h
 match xs, h1 with
 | [x1, x2, x3], ⟨h1, h2, h3, _⟩ =>
  obtain ⟨k, rfl, _⟩ := N9 h1
  obtain ⟨c, rfl, _⟩ := N9 h2
  obtain ⟨d, rfl, _⟩ := N9 h3
  exact ⟨⟨k, c, d⟩, rfl, trivial⟩
theorem Pw {x : T} (h : Rd Tryz.prog 70 x) : ∃ l : List Row, x = T.Rows l ∧ okN 9223372036854775807 l := by
 obtain ⟨l, rfl, h1, _⟩ := G2 (e := 119) (n := 3) (by kernel_rfl) (by kernel_rfl) (fun y hy => rd_row hy) h
 exact ⟨l, rfl, h1⟩
theorem Py {x : T} (h : Rd Tryz.prog 72 x) : ∃ a : Code, x = a.tt ∧ a.ok 9223372036854775807 := by
 obtain ⟨xs, rfl, h1⟩ := EA (ts := [3, 3, 25, 69, 70]) (by kernel_rfl) h
 match xs, h1 with
 | [x1, x2, x3, x4, x5], ⟨h1, h2, h3, h4, h5, _⟩ =>
  obtain ⟨k, rfl, _⟩ := N9 h1
  obtain ⟨c, rfl, _⟩ := N9 h2
  obtain ⟨a, rfl, q1⟩ := MU h3
  obtain ⟨b, rfl, q2⟩ := Px h4
  obtain ⟨d, rfl, q3⟩ := Pw h5
  exact ⟨⟨k, c, a, b, d⟩, rfl, q1, q2, q3, trivial⟩
theorem Oc {x : T} (h : Rd Tryz.prog 22 x) : ∃ l : List Code, x = T.Codes l ∧ okL 9223372036854775807 (Code.ok 9223372036854775807) l :=
 G2 (e := 72) (n := 5) (by kernel_rfl) (by kernel_rfl) (fun y hy => Py hy) h
theorem Ob {x : T} (h : Rd Tryz.prog 24 x) : ∃ a : Image, x = a.tt ∧ a.ok 9223372036854775807 := by
 obtain ⟨xs, rfl, h1⟩ := EA (ts := [22]) (by kernel_rfl) h
 match xs, h1 with
 | [x1], ⟨h1, _⟩ =>
  obtain ⟨b, rfl, q2⟩ := Oc h1
  exact ⟨⟨b⟩, rfl, q2, trivial⟩
open Go.Eng
structure Tok where
 op : Int
 n : Int
structure Lz where
 kind : Int
 n : Int
 ex : List (Tok)
 thn : List Int
 els : List Int
structure Func where
 params : Int
 vars : Int
 body : List Int
 stmts : List (Lz)
structure Po where
 funcs : List (Func)
open Go.Eng
theorem Ax {b b' : Bool} (h : b = b') : [D.t (T.v (Value.bool b))] = [D.t (T.bool b')] := by rw [h]
theorem I3 {b b' : Int} (h : b = b') : [D.t (T.v (Value.int .i64 b))] = [D.t (T.int b')] := by rw [h]
def atI (l : List Int) (n : Int) : Int := (l[n.toNat]?).getD 0
theorem BV {l : List Int} {n : Int} (h0 : 0 ≤ n) (h1 : n < l.length) : atI l n = l[n.toNat]'(by omega) := by
 unfold atI; rw [List.getElem?_eq_getElem (by omega)]; rfl
def P3 (ps : List Int) : Bool := decide ((ps.length : Int) ≤ 5) && DR ps 0 2
def knownT (vars m : Int) (t : Tok) : Bool :=
 if t.op = 1 then decide (-2147483648 ≤ t.n ∧ t.n ≤ 2147483647) else if t.op = 2 then decide (0 ≤ t.n ∧ t.n < vars) else if t.op = 11 then decide (0 ≤ t.n ∧ t.n < m) else decide (3 ≤ t.op ∧ t.op ≤ 10) && decide (t.n = 0)
def Mg (ps : List Int) (t : Tok) : Int := if 3 ≤ t.op ∧ t.op ≤ 8 then 2 else if t.op = 11 then atI ps t.n else 0
theorem Jc (n : Int) : Fun Tryz.prog 106 [.t (.int n)] (Ay [.t (.bool (decide (-2147483648 ≤ n ∧ n ≤ 2147483647)))]) := by
 refine Fun.begin tys Tryz.func106 Z Z (N := 5) [(0, .t (.int n))] Z Z (fun w0 G F0 => ?_);refine sG (eZ Z (nA (eZ Z (AS ?_))));refine ⟨_, BS _ _ _, rfl, ?_⟩;refine eZ Z (nB (rT (eR ?_)))
 ·rfl
def runE (vars : Int) (ps : List Int) : List Tok → Int → Int → Option (Int × Int)
 | [], h, m => some (h, m)
 | t :: l, h, m => if knownT vars ps.length t && decide (Mg ps t ≤ h) then runE vars ps l (h + (1 - Mg ps t)) (max m (h + (1 - Mg ps t))) else none
def O7 (vars : Int) (ps : List Int) (l : List Tok) : Bool := match runE vars ps l 0 0 with
 | some (h, m) => decide (h = 1) && decide ((l.length : Int) ≤ 12)
 | none => false
theorem M8 (n : Int) : (n = IntKind.i64.wrap (IntKind.i32.wrap n)) ↔ (-2147483648 ≤ n ∧ n ≤ 2147483647) := by
 have h1 : -2147483648 ≤ IntKind.i32.wrap n ∧ IntKind.i32.wrap n ≤ 2147483647 := by
  unfold IntKind.wrap; simp [IntKind.bits, IntKind.signed]; split <;> omega
 rw [C0 (by omega) (by omega)]
 constructor
 ·intro h; omega
 ·intro h; unfold IntKind.wrap; simp [IntKind.bits, IntKind.signed]; split <;> omega
theorem Ff (n : Int) : Fun Tryz.prog 77 [.t (.int n)] (Ay [.t (.bool (decide (-2147483648 ≤ n ∧ n ≤ 2147483647)))]) := by
 refine Fun.begin tys Tryz.func77 Z Z (N := 8) [(0, .t (.int n))] Z Z (fun w0 G F0 => ?_);refine sG (eZ Z (nA (eK 2 Z (Ci (td := .int .i64) (k := .i32) Z Z (lt_of Z) Z (by kernel_rfl) (by kernel_rfl) Z (Ci (td := .int .i32) (k := .i64) Z Z (lt_of Z) Z (by kernel_rfl) (by kernel_rfl) Z (eK 2 Z (nB (rT (eR ?_)))))))))
 ·exact Ax (by rw [Bool.eq_iff_iff, decide_eq_true_iff, decide_eq_true_iff, M8])
theorem GA (n : Int) : Fun Tryz.prog 121 [.t (.int n)] (Ay [.t (.bool (decide (3 ≤ n ∧ n ≤ 8)))]) := by
 refine Fun.begin tys Tryz.func121 Z Z (N := 5) [(0, .t (.int n))] Z Z (fun w0 G F0 => ?_);refine sG (eZ Z (nA (eZ Z (AS ?_))));refine ⟨_, BF _ _ _, rfl, ?_⟩;refine eZ Z (nB (rT (eR ?_)))
 ·rfl
open Go.Eng
def Bo (op : Int) : Bool := decide (op = 1 ∨ op = 2 ∨ op = 3 ∨ op = 4 ∨ op = 7 ∨ op = 10 ∨ op = 11 ∨ op = 12 ∨ op = 17)
def Ed (i : Ins) : Bool :=
 if i.op = 1 then decide (-2147483648 ≤ i.n ∧ i.n ≤ 2147483647) else if i.op = 4 then decide (3 ≤ i.n ∧ i.n ≤ 8)
 else if Bo i.op then decide (0 ≤ i.n ∧ i.n ≤ 1000000) else decide (1 ≤ i.op ∧ i.op ≤ 18) && decide (i.n = 0)
def Bt (c : Code) : Bool := decide (0 ≤ c.params ∧ c.params ≤ 2) && decide (c.params ≤ c.vars ∧ c.vars ≤ 6) && decide (c.sites.length ≤ 4) && decide (1 ≤ c.ins.length ∧ c.ins.length ≤ 300) && decide (c.rows.length ≤ 300) && c.ins.all Ed
def BD (x : Image) : Bool := decide (1 ≤ x.codes.length ∧ x.codes.length ≤ 5) && x.codes.all Bt
def Ac (c : Code) (k : Int) : Ins := (c.ins[k.toNat]?).getD ⟨0, 0⟩
def codeAt (x : Image) (k : Int) : Code := (x.codes[k.toNat]?).getD ⟨0, 0, [], [], []⟩
def tkX (x : Image) (i : Ins) : Int :=
 if i.op = 3 ∨ i.op = 8 ∨ i.op = 9 ∨ i.op = 11 ∨ i.op = 13 ∨ i.op = 15 then 1 else if i.op = 4 then 2 else if i.op = 7 then (codeAt x i.n).params else 0
def ptX (i : Ins) : Int := if i.op = 1 ∨ i.op = 2 ∨ i.op = 5 ∨ i.op = 6 ∨ i.op = 4 ∨ i.op = 7 then 1 else 0
def Af (i : Ins) (at' : Int) : List Int :=
 if i.op = 10 then [i.n] else if i.op = 11 then (if at' + 1 < i.n then [at' + 1, i.n] else if at' + 1 = i.n then [at' + 1] else [i.n, at' + 1])
 else if i.op = 13 ∨ i.op = 14 ∨ i.op = 16 ∨ i.op = 18 then [] else [at' + 1]
def BB (x : Image) (c : Code) (i : Ins) : Bool :=
 if i.op = 2 ∨ i.op = 3 then decide (i.n < c.vars) else if i.op = 12 ∨ i.op = 17 then decide (i.n < c.sites.length) else if i.op = 7 then decide (i.n < x.codes.length) else true
def BM (x : Image) (c : Code) : Bool := c.ins.all (BB x c)
def E2 (x : Image) (n : Int) : Bool := decide (0 ≤ n ∧ n < x.codes.length) && decide ((codeAt x n).params = 0)
def Bk (x : Image) (c : Code) : Bool := c.sites.all (E2 x)
def goesGo (N : Int) : List Ins → Int → Bool
 | [], _ => true
 | i :: l, k => (Af i k).all (fun n => decide (n < N)) && goesGo N l (k + 1)
def EN (c : Code) : Bool := goesGo c.ins.length c.ins 0
def B4 (many : Int) : List Row → Int → Bool
 | [], _ => true
 | r :: l, k => decide (k ≤ r.lo) && (decide (r.lo < r.hi) && (decide (r.hi ≤ many) && (decide (0 ≤ r.pad ∧ r.pad < many) && B4 many l r.hi)))
def D6 (rows : List Row) (many : Int) : Bool := B4 many rows 0
def rowGo (k : Int) : List Row → Nat → Int
 | [], _ => -1
 | r :: l, j => if r.lo ≤ k ∧ k < r.hi then j else rowGo k l (j + 1)
def rowX (rows : List Row) (k : Int) : Int := rowGo k rows 0
def padX (rows : List Row) (k : Int) : Int := ((rows[(rowX rows k).toNat]?).getD ⟨0, 0, 0⟩).pad
def A1 (op : Int) : Bool := decide (op = 4 ∨ op = 7 ∨ op = 13 ∨ op = 14 ∨ op = 16 ∨ op = 17)
def Ep (op : Int) : Bool := decide (op = 18 ∨ op = 16 ∨ op = 14 ∨ op = 17)
theorem BK {c : Code} {k : Int} (h0 : 0 ≤ k) (h1 : k < c.ins.length) : Ac c k = c.ins[k.toNat]'(by omega) := by
 rw [Ac, List.getElem?_eq_getElem (by omega)]; rfl
theorem Aa {x : Image} {k : Int} (h0 : 0 ≤ k) (h1 : k < x.codes.length) : codeAt x k = x.codes[k.toNat]'(by omega) := by
 rw [codeAt, List.getElem?_eq_getElem (by omega)]; rfl
theorem M3 {i : Ins} (h : Ed i = true) : -2147483648 ≤ i.n ∧ i.n ≤ 2147483647 ∧ (i.op ≠ 1 → 0 ≤ i.n ∧ i.n ≤ 1000000) := by
 unfold Ed at h;split at h
 ·rename_i h1
  have := of_decide_eq_true h
  exact ⟨this.1, this.2, fun h => absurd h1 h⟩
 ·split at h
  ·have := of_decide_eq_true h; exact ⟨by omega, by omega, fun _ => by omega⟩
  ·split at h
   ·have := of_decide_eq_true h; exact ⟨by omega, by omega, fun _ => by omega⟩
   ·rw [Qd, decide_eq_true_eq, decide_eq_true_eq] at h
    exact ⟨by omega, by omega, fun _ => by omega⟩
theorem KJ {i : Ins} (h : Ed i = true) {k : Int} (hk : 0 ≤ k) : ∀ n, n ∈ Af i k → 0 ≤ n := by
 have hn := (M3 h).2.2
 intro n hm;unfold Af at hm;split at hm
 ·rename_i h1; rw [Qw] at hm; have := hn (by omega); omega
 ·split at hm
  ·rename_i h1
   have := hn (by omega)
   split at hm
   ·simp at hm; omega
   ·split at hm
    ·simp at hm; omega
    ·simp at hm; omega
  ·split at hm
   ·simp at hm
   ·simp at hm; omega
theorem EG (i : Ins) (k : Int) : (Af i k).length ≤ 2 := by
 unfold Af;split
 ·simp
 ·split
  ·split
   ·simp
   ·split <;> simp
  ·split <;> simp
/-! ### Heights -/
def outX (x : Image) (c : Code) (h : List Int) (k : Int) : Prop := tkX x (Ac c k) ≤ atI h k ∧ ∀ n, n ∈ Af (Ac c k) k → atI h n = atI h k - tkX x (Ac c k) + ptX (Ac c k)
def QR (c : Code) (h : List Int) : Prop := atI h 0 = 0 ∧ ∀ r, r ∈ c.rows → atI h r.pad = 0
def rngX (c : Code) (h : List Int) : Prop := h.length = c.ins.length ∧ ∀ v, v ∈ h → -1 ≤ v ∧ v ≤ 40
def fitX (x : Image) (c : Code) (h : List Int) : Prop := rngX c h ∧ QR c h ∧ ∀ k : Int, 0 ≤ k → k < h.length → 0 ≤ atI h k → outX x c h k
def P8 (h h' : List Int) : Prop := ∀ k : Int, 0 ≤ k → k < h.length → 0 ≤ atI h k → atI h' k = atI h k
def GS (x : Image) (c : Code) (h : List Int) : Prop := fitX x c h ∧ ∀ h', fitX x c h' → P8 h h'
open Classical in
noncomputable def heiX (x : Image) (c : Code) : Option (List Int) := if e : ∃ h, GS x c h then some (Classical.choose e) else none
theorem atI_in {l : List Int} {k : Int} (h0 : 0 ≤ k) (h1 : k < l.length) : atI l k ∈ l := by
 rw [BV h0 h1]; exact Qq _
theorem LM {x : Image} {c : Code} {h h' : List Int} (a : GS x c h) (b : GS x c h') : h = h' := by
 have hl : h.length = h'.length := by rw [a.1.1.1, b.1.1.1]
 refine List.ext_getElem hl fun k h1 h2 => ?_
 have e1 : atI h (k : Nat) = h[k] := BV (l := h) (n := (k : Nat)) (by omega) (by omega)
 have e2 : atI h' (k : Nat) = h'[k] := BV (l := h') (n := (k : Nat)) (by omega) (by omega)
 have r1 := a.1.1.2 _ (atI_in (l := h) (k := (k : Nat)) (by omega) (by omega))
 have r2 := b.1.1.2 _ (atI_in (l := h') (k := (k : Nat)) (by omega) (by omega))
 rw [← e1, ← e2]
 by_cases g : 0 ≤ atI h (k : Nat)
 ·exact (a.2 _ b.1 k (by omega) (by omega) g).symm
 ·by_cases g' : 0 ≤ atI h' (k : Nat)
  ·exact b.2 _ a.1 k (by omega) (by omega) g'
  ·omega
theorem M9 {x : Image} {c : Code} {h : List Int} (a : GS x c h) : heiX x c = some h := by
 have e : ∃ h, GS x c h := ⟨h, a⟩
 unfold heiX;rw [dif_pos e];exact congrArg some (LM (Classical.choose_spec e) a)
theorem Ii {x : Image} {c : Code} (a : ∀ h, ¬ fitX x c h) : heiX x c = none := by
 unfold heiX;rw [dif_neg]
 rintro ⟨h, g⟩
 exact a h g.1
theorem HN {x : Image} {c : Code} {h : List Int} (e : heiX x c = some h) : GS x c h := by
 unfold heiX at e;split at e
 ·rename_i g
  cases e;exact Classical.choose_spec g
 ·cases e
def FW (x : Image) (c : Code) (h open' : List Int) : Prop :=
 rngX c h ∧ QR c h ∧ (∀ h', fitX x c h' → P8 h h') ∧ (∀ k, k ∈ open' → 0 ≤ k ∧ k < h.length ∧ 0 ≤ atI h k) ∧ ∀ k : Int, 0 ≤ k → k < h.length → 0 ≤ atI h k → k ∈ open' ∨ outX x c h k
def LH (x : Image) (c : Code) (h open' : List Int) (k0 : Int) (done : List Int) : Prop :=
 rngX c h ∧ QR c h ∧ (∀ h', fitX x c h' → P8 h h') ∧ (∀ k, k ∈ open' → 0 ≤ k ∧ k < h.length ∧ 0 ≤ atI h k) ∧ (∀ k : Int, 0 ≤ k → k < h.length → 0 ≤ atI h k → k ≠ k0 → k ∈ open' ∨ outX x c h k) ∧
 (0 ≤ k0 ∧ k0 < h.length ∧ 0 ≤ atI h k0 ∧ tkX x (Ac c k0) ≤ atI h k0) ∧ ∀ n, n ∈ done → atI h n = atI h k0 - tkX x (Ac c k0) + ptX (Ac c k0)
def negs (h : List Int) : Nat := h.countP fun v => decide (v < 0)
section
variable {x : Image} {c : Code} {h open' done : List Int} {k0 n : Int}
theorem KE (a : FW x c h open') (e : open' = []) : heiX x c = some h := by
 subst e
 obtain ⟨a1, a2, a3, a4, a5⟩ := a
 exact M9 ⟨⟨a1, a2, fun k h0 h1 h2 => (a5 k h0 h1 h2).resolve_left (by simp)⟩, a3⟩
theorem Mc (a : FW x c h open') (hk : k0 ∈ open') (ht : ¬ tkX x (Ac c k0) ≤ atI h k0) : heiX x c = none := by
 obtain ⟨a1, a2, a3, a4, a5⟩ := a
 obtain ⟨b1, b2, b3⟩ := a4 _ hk
 refine Ii fun h' hf => ht ?_
 have e := a3 h' hf k0 b1 b2 b3
 have hl : h'.length = h.length := by rw [a1.1, hf.1.1]
 have := hf.2.2 k0 b1 (by omega) (by omega)
 rw [← e];exact this.1
theorem G8 {open'' : List Int} (a : FW x c h open') (hk : k0 ∈ open') (hs : ∀ k, k ∈ open'' → k ∈ open') (hs' : ∀ k, k ∈ open' → k = k0 ∨ k ∈ open'') (ht : tkX x (Ac c k0) ≤ atI h k0) : LH x c h open'' k0 [] := by
 obtain ⟨a1, a2, a3, a4, a5⟩ := a
 obtain ⟨b1, b2, b3⟩ := a4 _ hk
 exact ⟨a1, a2, a3, fun k hk => a4 k (hs k hk), fun k h0 h1 h2 hne => (a5 k h0 h1 h2).imp_left fun h => (hs' k h).resolve_left hne, ⟨b1, b2, b3, ht⟩, by simp⟩
theorem KN (a : LH x c h open' k0 done) (hd : ∀ n, n ∈ Af (Ac c k0) k0 → n ∈ done) : FW x c h open' := by
 obtain ⟨a1, a2, a3, a4, a5, a6, a7⟩ := a
 refine ⟨a1, a2, a3, a4, fun k h0 h1 h2 => ?_⟩
 by_cases hk : k = k0
 ·subst hk
  exact .inr ⟨a6.2.2.2, fun n hn => a7 n (hd n hn)⟩
 ·exact a5 k h0 h1 h2 hk
theorem FA (a : LH x c h open' k0 done) (hn : n ∈ Af (Ac c k0) k0) (hn0 : 0 ≤ n) (hn1 : n < h.length) (hb : 40 < atI h k0 - tkX x (Ac c k0) + ptX (Ac c k0) ∨ (0 ≤ atI h n ∧ ¬ atI h n = atI h k0 - tkX x (Ac c k0) + ptX (Ac c k0))) : heiX x c = none := by
 obtain ⟨a1, a2, a3, a4, a5, a6, a7⟩ := a
 refine Ii fun h' hf => ?_
 have e := a3 h' hf k0 a6.1 a6.2.1 a6.2.2.1
 have hl : h'.length = h.length := by rw [a1.1, hf.1.1]
 have h1 := (hf.2.2 k0 a6.1 (by omega) (by omega)).2 n hn
 have h2 := hf.1.2 _ (atI_in (l := h') (k := n) hn0 (by omega))
 rcases hb with hb | ⟨hb, hc⟩
 ·omega
 ·have h3 := a3 h' hf n hn0 hn1 hb
  omega
theorem KM (a : LH x c h open' k0 done) (he : atI h n = atI h k0 - tkX x (Ac c k0) + ptX (Ac c k0)) : LH x c h open' k0 (done ++ [n]) := by
 obtain ⟨a1, a2, a3, a4, a5, a6, a7⟩ := a
 refine ⟨a1, a2, a3, a4, a5, a6, fun m hm => ?_⟩
 rcases Qg.1 hm with hm | hm
 ·exact a7 m hm
 ·rw [Qw] at hm; subst hm; exact he
theorem Fx {l : List Int} {n v k : Int} (h0 : 0 ≤ n) (h1 : n < l.length) (hk : 0 ≤ k) : atI (l.set n.toNat v) k = if k = n then v else atI l k := by
 unfold atI
 by_cases e : k = n
 ·subst e
  rw [if_pos rfl, List.getElem?_set_self (by omega)]; rfl
 ·rw [if_neg e, List.getElem?_set_ne (by omega)]
theorem E9 {l : List Int} {n v : Int} (h0 : 0 ≤ n) (h1 : n < l.length) (hn : atI l n < 0) (hv : 0 ≤ v) : negs (l.set n.toNat v) + 1 = negs l := by
 unfold negs
 have h2 : n.toNat < l.length := by omega
 rw [BV h0 h1] at hn
 have e : l = l.take n.toNat ++ l[n.toNat] :: l.drop (n.toNat + 1) := by
  rw [List.getElem_cons_drop, RU]
 rw [List.set_eq_take_append_cons_drop, if_pos h2]
 conv => rhs; rw [e]
 rw [List.countP_append, List.countP_append, List.countP_cons, List.countP_cons];rw [if_neg (by simp; omega), if_pos (by simp; omega)];omega
theorem Mm (a : LH x c h open' k0 done) (hn : n ∈ Af (Ac c k0) k0) (hn0 : 0 ≤ n) (hn1 : n < h.length) (hneg : atI h n < 0) (hp : 0 ≤ ptX (Ac c k0)) (h40 : atI h k0 - tkX x (Ac c k0) + ptX (Ac c k0) ≤ 40)
  {v : Int} (hv : v = atI h k0 - tkX x (Ac c k0) + ptX (Ac c k0)) (hr : ∀ r, r ∈ c.rows → 0 ≤ r.pad) : LH x c (h.set n.toNat v) (open' ++ [n]) k0 (done ++ [n]) := by
 obtain ⟨a1, a2, a3, a4, a5, a6, a7⟩ := a
 have hne : k0 ≠ n := fun e => by rw [← e] at hneg; omega
 have hs : ∀ k : Int, 0 ≤ k → atI (h.set n.toNat v) k = if k = n then v else atI h k := fun k hk => Fx hn0 hn1 hk
 have hs0 : atI (h.set n.toNat v) k0 = atI h k0 := by rw [hs k0 a6.1, if_neg hne]
 have keep : ∀ k : Int, 0 ≤ k → 0 ≤ atI h k → atI (h.set n.toNat v) k = atI h k := fun k hk h0 => by
  rw [hs k hk, if_neg fun e => by rw [e] at h0; omega]
 have hv0 : 0 ≤ v := by omega
 have outk : ∀ k : Int, 0 ≤ k → k < h.length → 0 ≤ atI h k → outX x c h k → (∀ m, m ∈ Af (Ac c k) k → 0 ≤ atI h k - tkX x (Ac c k) + ptX (Ac c k)) → (∀ m, m ∈ Af (Ac c k) k → 0 ≤ m) → outX x c (h.set n.toNat v) k := fun k hk0 hk1 hk2 ho hp hm => by
  refine ⟨by rw [keep k hk0 hk2]; exact ho.1, fun m hm' => ?_⟩
  have := ho.2 m hm'
  rw [keep k hk0 hk2, keep m (hm m hm') (by rw [this]; exact hp m hm'), this]
 have ptk : ∀ i : Ins, 0 ≤ ptX i := fun i => by unfold ptX; split <;> omega
 refine ⟨⟨by rw [Qo]; exact a1.1, fun u hu => ?_⟩, ⟨by rw [keep 0 (by omega) (by rw [a2.1]; omega)]; exact a2.1, fun r hr' => by rw [keep _ (hr r hr') (by rw [a2.2 r hr']; omega)]; exact a2.2 r hr'⟩, fun h' hf k hk0 hk1 hk2 => ?_, fun k hk => ?_, fun k hk0 hk1 hk2 hkn => ?_, ?_, fun m hm => ?_⟩
 ·rcases RD hu with hu | rfl
  ·exact a1.2 u hu
  ·omega
 ·rw [Qo] at hk1
  rw [hs k hk0] at hk2 ⊢
  by_cases e : k = n
  ·subst e
   rw [if_pos rfl]
   have e0 := a3 h' hf k0 a6.1 a6.2.1 a6.2.2.1
   have hl : h'.length = h.length := by rw [a1.1, hf.1.1]
   rw [(hf.2.2 k0 a6.1 (by omega) (by omega)).2 k hn, e0, hv]
  ·rw [if_neg e] at hk2 ⊢
   exact a3 h' hf k hk0 hk1 hk2
 ·rw [Qo]
  rcases Qg.1 hk with hk | hk
  ·obtain ⟨b1, b2, b3⟩ := a4 k hk
   exact ⟨b1, b2, by rw [keep k b1 b3]; exact b3⟩
  ·rw [Qw] at hk
   subst hk;exact ⟨hn0, hn1, by rw [hs k hn0, if_pos rfl]; exact hv0⟩
 ·rw [Qo] at hk1
  rw [hs k hk0] at hk2
  by_cases e : k = n
  ·subst e; exact .inl (by simp)
  ·rw [if_neg e] at hk2
   rcases a5 k hk0 hk1 hk2 hkn with h5 | h5
   ·exact .inl (by simp [h5])
   ·refine .inr ⟨by rw [keep k hk0 hk2]; exact h5.1, fun m hm' => ?_⟩
    have h6 := h5.2 m hm'
    have h7 := ptk (Ac c k)
    have h8 := h5.1
    have hge : 0 ≤ atI h m := by omega
    have hmn : atI (h.set n.toNat v) m = atI h m := by
     unfold atI at hge hneg ⊢
     by_cases en : m.toNat = n.toNat
     ·rw [en] at hge; omega
     ·rw [List.getElem?_set_ne (by omega)]
    rw [hmn, keep k hk0 hk2, h6]
 ·rw [Qo, hs0]
  exact ⟨a6.1, a6.2.1, a6.2.2.1, a6.2.2.2⟩
 ·rw [hs0]
  rcases Qg.1 hm with hm | hm
  ·have h6 := a7 m hm
   have hge : 0 ≤ atI h m := by omega
   have hmn : atI (h.set n.toNat v) m = atI h m := by
    unfold atI at hge hneg ⊢
    by_cases en : m.toNat = n.toNat
    ·rw [en] at hge; omega
    ·rw [List.getElem?_set_ne (by omega)]
   rw [hmn, h6]
  ·rw [Qw] at hm
   subst hm;rw [hs m hn0, if_pos rfl, hv]
end
def Nf (c : Code) (h : List Int) (k : Int) : Prop := 0 ≤ atI h k ∧ A1 (Ac c k).op = true ∧ (rowX c.rows k < 0 ∨ padX c.rows k ≤ k)
def OC (c : Code) (h : List Int) (k : Int) : Prop := 0 < atI h k ∧ Ep (Ac c k).op = true
open Classical in
noncomputable def codeX (x : Image) (c : Code) : Int :=
 if BM x c = false then 1 else if Bk x c = false then 2 else if EN c = false then 3 else if D6 c.rows c.ins.length = false then 4
 else match heiX x c with
  | none => 5
  | some h => if ∃ k : Int, 0 ≤ k ∧ k < c.ins.length ∧ Nf c h k then 6 else if ∃ k : Int, 0 ≤ k ∧ k < c.ins.length ∧ OC c h k then 7 else 0
noncomputable def heiR (x : Image) (c : Code) : List Int := if codeX x c = 0 then (heiX x c).getD [] else []
noncomputable def imageB (x : Image) : Bool := BD x && (decide ((codeAt x 0).params = 0) && x.codes.all fun c => decide (codeX x c = 0))
section
variable {x : Image} {c : Code} {h : List Int}
theorem NU (h1 : BM x c = false) : codeX x c = 1 := by unfold codeX; rw [if_pos h1]
theorem NT (h1 : BM x c = true) (h2 : Bk x c = false) : codeX x c = 2 := by unfold codeX; rw [if_neg (by rw [h1]; simp), if_pos h2]
theorem NS (h1 : BM x c = true) (h2 : Bk x c = true) (h3 : EN c = false) : codeX x c = 3 := by unfold codeX; rw [if_neg (by rw [h1]; simp), if_neg (by rw [h2]; simp), if_pos h3]
theorem NR (h1 : BM x c = true) (h2 : Bk x c = true) (h3 : EN c = true) (h4 : D6 c.rows c.ins.length = false) : codeX x c = 4 := by
 unfold codeX; rw [if_neg (by rw [h1]; simp), if_neg (by rw [h2]; simp), if_neg (by rw [h3]; simp), if_pos h4]
open Classical in
theorem Kg (h1 : BM x c = true) (h2 : Bk x c = true) (h3 : EN c = true) (h4 : D6 c.rows c.ins.length = true) : codeX x c = match heiX x c with
  | none => 5
  | some h => if ∃ k : Int, 0 ≤ k ∧ k < c.ins.length ∧ Nf c h k then 6 else if ∃ k : Int, 0 ≤ k ∧ k < c.ins.length ∧ OC c h k then 7 else 0 := by
 unfold codeX; rw [if_neg (by rw [h1]; simp), if_neg (by rw [h2]; simp), if_neg (by rw [h3]; simp), if_neg (by rw [h4]; simp)]
theorem NQ (h1 : BM x c = true) (h2 : Bk x c = true) (h3 : EN c = true) (h4 : D6 c.rows c.ins.length = true) (he : (heiX x c).isSome = false) : codeX x c = 5 := by
 rw [Kg h1 h2 h3 h4]
 cases e : heiX x c with
 | none => rfl
 | some h => rw [e] at he; cases he
theorem Io (h1 : BM x c = true) (h2 : Bk x c = true) (h3 : EN c = true) (h4 : D6 c.rows c.ins.length = true) (he : heiX x c = some h) {k : Int} (hk0 : 0 ≤ k) (hk1 : k < c.ins.length) (hb : Nf c h k) : codeX x c = 6 := by
 rw [Kg h1 h2 h3 h4, he];simp only;rw [if_pos ⟨k, hk0, hk1, hb⟩]
theorem EV (h1 : BM x c = true) (h2 : Bk x c = true) (h3 : EN c = true) (h4 : D6 c.rows c.ins.length = true) (he : heiX x c = some h) (h6 : ∀ k : Int, 0 ≤ k → k < c.ins.length → ¬ Nf c h k) {k : Int} (hk0 : 0 ≤ k) (hk1 : k < c.ins.length) (hb : OC c h k) : codeX x c = 7 := by
 rw [Kg h1 h2 h3 h4, he];simp only;rw [if_neg (fun ⟨j, a, b, d⟩ => h6 j a b d), if_pos ⟨k, hk0, hk1, hb⟩]
theorem Pj (h1 : BM x c = true) (h2 : Bk x c = true) (h3 : EN c = true) (h4 : D6 c.rows c.ins.length = true) (he : heiX x c = some h) (h6 : ∀ k : Int, 0 ≤ k → k < c.ins.length → ¬ Nf c h k) (h7 : ∀ k : Int, 0 ≤ k → k < c.ins.length → ¬ OC c h k) : codeX x c = 0 := by
 rw [Kg h1 h2 h3 h4, he];simp only;rw [if_neg (fun ⟨j, a, b, d⟩ => h6 j a b d), if_neg (fun ⟨j, a, b, d⟩ => h7 j a b d)]
end
theorem EB (i : Ins) : 0 ≤ ptX i := by unfold ptX; split <;> omega
theorem MX (i : Ins) : ptX i ≤ 1 := by unfold ptX; split <;> omega
structure RdyX (x : Image) (c : Code) : Prop where
 xl : x.codes.length ≤ 5
 par : ∀ d, d ∈ x.codes → 0 ≤ d.params ∧ d.params ≤ 2
 n1 : 1 ≤ c.ins.length
 n2 : c.ins.length ≤ 300
 rl : c.rows.length ≤ 300
 ins : ∀ i, i ∈ c.ins → Ed i = true
 call : ∀ i, i ∈ c.ins → i.op = 7 → 0 ≤ i.n ∧ i.n < x.codes.length
 next : ∀ k : Int, 0 ≤ k → k < c.ins.length → ∀ n, n ∈ Af (Ac c k) k → 0 ≤ n ∧ n < c.ins.length
 pads : ∀ r, r ∈ c.rows → 0 ≤ r.pad ∧ r.pad < c.ins.length
 his : ∀ r, r ∈ c.rows → 0 ≤ r.hi ∧ r.hi ≤ c.ins.length
theorem Kh (x : Image) (c : Code) : 0 ≤ codeX x c := by
 unfold codeX;split
 ·omega
 ·split
  ·omega
  ·split
   ·omega
   ·split
    ·omega
    ·split
     ·omega
     ·split
      ·omega
      ·split <;> omega
theorem J9 (k : Int) : ∀ (l : List Row) (j : Nat), rowGo k l j < j + l.length ∧ -1 ≤ rowGo k l j
 | [], j => by simp only [rowGo, Qz]; omega
 | r :: l, j => by
  have := J9 k l (j + 1)
  rw [rowGo, Q1]
  split <;> omega
theorem Dw (rows : List Row) (k : Int) : rowX rows k < rows.length ∧ -1 ≤ rowX rows k := by
 have := J9 k rows 0
 unfold rowX; omega
theorem C5 {rows : List Row} {k : Int} (h : ¬ rowX rows k < 0) : padX rows k = (rows[(rowX rows k).toNat]'(by have := Dw rows k; omega)).pad := by
 have := Dw rows k
 rw [padX, List.getElem?_eq_getElem (by omega)]; rfl
theorem NB {N : Int} : ∀ {l : List Ins} {k : Int}, goesGo N l k = true → ∀ j (hj : j < l.length), ∀ n, n ∈ Af (l[j]) (k + j) → n < N
 | [], _, _, j, hj, _, _ => by simp at hj
 | i :: l, k, h, 0, _, n, hn => by
  rw [goesGo, Qd, Ql] at h
  have := h.1 n (by simpa using hn)
  exact of_decide_eq_true this
 | i :: l, k, h, j + 1, hj, n, hn => by
  rw [goesGo, Qd] at h;refine NB h.2 j (by simpa using hj) n ?_;rw [List.getElem_cons_succ] at hn;rw [show k + 1 + (j : Int) = k + ((j + 1 : Nat) : Int) from by omega];exact hn
theorem JN {many : Int} : ∀ {l : List Row} {k : Int}, 0 ≤ k → B4 many l k = true → ∀ r, r ∈ l → 0 ≤ r.lo ∧ r.lo < r.hi ∧ r.hi ≤ many ∧ 0 ≤ r.pad ∧ r.pad < many
 | [], _, _, _, r, hr => by cases hr
 | r0 :: l, k, hk, h, r, hr => by
  rw [B4] at h;simp only [Qd, decide_eq_true_eq] at h
  rcases Qn.1 hr with rfl | hr
  ·omega
  ·exact JN (by omega) h.2.2.2.2 r hr
theorem A0 {c : Code} (h : Bt c = true) : (0 ≤ c.params ∧ c.params ≤ 2) ∧ (c.params ≤ c.vars ∧ c.vars ≤ 6) ∧ c.sites.length ≤ 4 ∧ (1 ≤ c.ins.length ∧ c.ins.length ≤ 300) ∧ c.rows.length ≤ 300 ∧ ∀ i, i ∈ c.ins → Ed i = true := by
 unfold Bt at h;simp only [Qd, decide_eq_true_eq, Ql] at h
 obtain ⟨⟨⟨⟨⟨a, b⟩, d⟩, e⟩, f⟩, g⟩ := h
 exact ⟨a, b, d, e, f, g⟩
theorem B3 {x : Image} (h : BD x = true) : (1 ≤ x.codes.length ∧ x.codes.length ≤ 5) ∧ ∀ c, c ∈ x.codes → Bt c = true := by
 unfold BD at h;simp only [Qd, decide_eq_true_eq, Ql] at h;exact h
theorem ready {x : Image} {c : Code} (hx : BD x = true) (hc : c ∈ x.codes) (h1 : BM x c = true) (h3 : EN c = true) (h4 : D6 c.rows c.ins.length = true) : RdyX x c := by
 obtain ⟨a1, a2⟩ := B3 hx
 obtain ⟨b1, b2, b3, b4, b5, b6⟩ := A0 (a2 c hc)
 unfold BM at h1;rw [Ql] at h1;refine ⟨a1.2, fun d hd => (A0 (a2 d hd)).1, b4.1, b4.2, b5, b6, fun i hi h7 => ?_, fun k h0 h1' n hn => ?_, fun r hr => ?_, fun r hr => ?_⟩
 ·have := h1 i hi
  unfold BB at this;rw [if_neg (by omega), if_neg (by omega), if_pos h7] at this
  have g := (M3 (b6 i hi)).2.2 (by omega)
  exact ⟨g.1, of_decide_eq_true this⟩
 ·rw [BK h0 h1'] at hn
  have g := NB h3 k.toNat (by omega) n (by rw [show (0 : Int) + (k.toNat : Nat) = k from by omega]; exact hn)
  exact ⟨KJ (b6 _ (Qq _)) h0 n hn, g⟩
 ·have := JN (by omega) h4 r hr; omega
 ·have := JN (by omega) h4 r hr; omega
def ordK (kids : Int → List Int × List Int) : Nat → List Int → List Int
 | 0, _ => []
 | k + 1, b => b.flatMap fun n => n :: (ordK kids k (kids n).1 ++ ordK kids k (kids n).2)
def ord (N : Int) (kids : Int → List Int × List Int) (b : List Int) : List Int := ordK kids N.toNat b
def both (kids : Int → List Int × List Int) (m : Int) : List Int := (kids m).1 ++ (kids m).2
def upto (N : Nat) : List Int := (List.range N).map fun (k : Nat) => (k : Int)
open Go.Eng
def MH : List Lz → Int → List Int
 | [], _ => []
 | s :: l, k => if s.kind = 3 then k :: MH l (k + 1) else MH l (k + 1)
open Go.Eng
def kids (l : List Lz) (m : Int) : List Int × List Int := match l[m.toNat]? with
 | some s => (s.thn, s.els)
 | none => ([], [])
def inBB (N i : Int) (b : List Int) : Bool := b.all fun x => decide (i ≤ x ∧ x < N)
def downBB (l : List Lz) : Bool := (upto l.length).all fun m => inBB l.length (m + 1) (kids l m).1 && inBB l.length (m + 1) (kids l m).2
def shapeB (l : List Lz) (body : List Int) : Bool := downBB l && (inBB l.length 0 body && (ord l.length (kids l) body == upto l.length))
def riseP (l : List Int) (lo hi : Int) : Prop := (∀ x, x ∈ l → lo ≤ x ∧ x ≤ hi) ∧ l.Pairwise (· < ·)
instance (l : List Int) (lo hi : Int) : Decidable (riseP l lo hi) := by unfold riseP; infer_instance
open Go.Eng
theorem readI (l : List Int) : ∀ x, x ∈ l.map T.int → (T.cells x).length = 1 ∧ ∀ y, y ∈ T.cells x → ∃ v, y = .v v := by
 intro x hx
 obtain ⟨a, _, rfl⟩ := RB.1 hx
 exact ⟨rfl, fun y hy => ⟨_, Qw.1 hy⟩⟩
def ordF (f : Func) (b : List Int) : List Int := ord f.stmts.length (kids f.stmts) b
open Go.Eng
theorem CR {α : Type} {p : α → Bool} {l : List α} {k : Int} (h0 : 0 ≤ k) (h1 : k < l.length) (h : p (l[k.toNat]'(by omega)) = false) : l.all p = false :=
 List.all_eq_false.2 ⟨_, Qq _, by simpa using h⟩
theorem EX {α : Type} {p : α → Bool} {l : List α} {k : Int} (h0 : 0 ≤ k) (h1 : k < l.length) (h : (l.take k.toNat).all p = true) (h2 : p (l[k.toNat]'(by omega)) = true) : (l.take (k + 1).toNat).all p = true := by
 rw [CK h0 h1, List.all_append, h]; simpa using h2
theorem B8 {α : Type} {p : α → Bool} {l : List α} {k : Int} (h1 : (l.length : Int) ≤ k) (h : (l.take k.toNat).all p = true) : l.all p = true := by
 rwa [Gm h1] at h
open Go.Eng
def okNum (f : Func) : Bool := decide (0 ≤ f.params ∧ f.params ≤ 2) && (decide (f.params ≤ f.vars ∧ f.vars ≤ 6) && decide ((f.stmts.length : Int) ≤ 16))
def siteB (f : Func) : Bool := decide (((MH f.stmts 0).length : Int) ≤ 4)
def kindAt (f : Func) (n : Int) : Int := match f.stmts[n.toNat]? with
 | some s => s.kind
 | none => 0
def noDef (f : Func) (b : List Int) : Bool := (ordF f b).all fun n => decide (¬ kindAt f n = 3)
def Pq (f : Func) (s : Lz) : Bool := if s.kind = 8 then noDef f s.thn else true
def whileB (f : Func) : Bool := f.stmts.all (Pq f)
def shapeF (f : Func) : Bool := okNum f && (siteB f && (shapeB f.stmts f.body && whileB f))
open Go.Eng
def lens (s : Lz) : Int := (s.thn.length : Int) + s.els.length
def stmtW (vars : Int) (ps : List Int) (s : Lz) : Bool :=
 if s.kind = 1 then O7 vars ps s.ex && (decide (0 ≤ s.n ∧ s.n ≤ vars - 1) && decide (lens s = 0))
 else if s.kind = 2 ∨ s.kind = 4 ∨ s.kind = 5 ∨ s.kind = 9 then O7 vars ps s.ex && (decide (s.n = 0) && decide (lens s = 0))
 else if s.kind = 3 then decide ((s.ex.length : Int) = 0) && (decide (0 ≤ s.n ∧ s.n ≤ (ps.length : Int) - 1) && decide (lens s = 0))
 else if s.kind = 6 then decide ((s.ex.length : Int) = 0) && (decide (s.n = 0) && decide (lens s = 0))
 else if s.kind = 7 then O7 vars ps s.ex && decide (s.n = 0)
 else if s.kind = 8 then O7 vars ps s.ex && (decide (s.n = 0) && decide ((s.els.length : Int) = 0))
 else false
def stmtG (vars : Int) (ps : List Int) (s : Lz) : Bool := stmtW vars ps s && (if s.kind = 3 then decide (atI ps s.n = 0) else true)
def FX (p : Po) : List Int := p.funcs.map (·.params)
def goodF (ps : List Int) (f : Func) : Bool := shapeF f && f.stmts.all (stmtG f.vars ps)
def goodP (p : Po) : Bool := decide ((1 : Int) ≤ p.funcs.length ∧ (p.funcs.length : Int) ≤ 5) && (P3 (FX p) && (decide (atI (FX p) 0 = 0) && p.funcs.all (goodF (FX p))))
open Go.Eng
def Ew (f : Func) (n : Int) : Lz := (f.stmts[n.toNat]?).getD ⟨0, 0, [], [], []⟩
def NC (p : Po) (n : Int) : Func := (p.funcs[n.toNat]?).getD ⟨0, 0, [], []⟩
def op0 (l : List Tok) : Int := (l[(0 : Int).toNat]?.map (·.op)).getD 0
def guard1 (f : Func) : Bool := decide ((f.stmts.length : Int) = 2) && (decide ((Ew f 0).kind = 3) && (decide ((Ew f 1).kind = 9) && (decide (((Ew f 1).ex.length : Int) = 1) && decide (op0 (Ew f 1).ex = 11))))
def guard2 (f : Func) : Bool := decide ((f.stmts.length : Int) = 1) && (decide ((Ew f 0).kind = 2) && (decide (((Ew f 0).ex.length : Int) = 1) && decide (op0 (Ew f 0).ex = 10)))
def guarded (p : Po) : Bool := goodP p && (guard1 (NC p 0) && guard2 (NC p (Ew (NC p 0) 0).n))
open Go.Eng
def d3 (s : Lz) : List Int := if s.kind = 3 then [s.n] else []
theorem Ex (l : List Int) (i j : Nat) : ∀ x, x ∈ ((l.map T.int).drop i).take j → (T.cells x).length = 1 ∧ ∀ y, y ∈ T.cells x → ∃ v, y = .v v :=
 fun x hx => readI l x (RN (Q7 hx))
theorem Jw {α : Type} (x y : List α) : List.take (x.length + y.length) (x ++ y) = x ++ y := by
 rw [← Qf, RO]
theorem Pt {xs : List T} {b : List Int} (h : xs = b.map T.int) : [D.t (.list 1 xs)] = [D.t (T.ints b)] := by subst h; rfl
inductive Lead (calls : Int → List Int) (a : Int) : Int → Prop
 | refl : Lead calls a a
 | step {b c : Int} : Lead calls a b → c ∈ calls b → Lead calls a c
section
variable {N : Nat} {calls : Int → List Int} {a : Int}
end
def put (l : List Int) (n : Int) : List Int := if n ∈ l then l else l.takeWhile (fun x => decide (x < n)) ++ n :: l.dropWhile (fun x => decide (x < n))
theorem put_at {l : List Int} {n : Int} {k : Int} (h0 : 0 ≤ k) (h1 : k ≤ l.length) (hl : l.Pairwise (· < ·)) (hlt : ∀ (i : Nat) (hi : i < l.length), (i : Int) < k → l[i] < n) (hge : ∀ (h : k < l.length), n ≤ l[k.toNat]'(by omega)) :
  put l n = if h : k < l.length ∧ l[k.toNat]? = some n then l else l.take k.toNat ++ n :: l.drop k.toNat := by
 have hafter : ∀ x, x ∈ l.drop k.toNat → n ≤ x := by
  intro x hx
  by_cases hk : k < l.length
  ·rw [RT (by omega)] at hx
   have := hge hk
   rcases Qn.1 hx with rfl | hx
   ·exact this
   ·have h2 : (l.drop k.toNat).Pairwise (· < ·) := hl.drop
    rw [RT (by omega), List.pairwise_cons] at h2
    have := h2.1 x hx; omega
  ·rw [List.drop_eq_nil_of_le (by omega)] at hx; cases hx
 have hbefore : ∀ x, x ∈ l.take k.toNat → x < n := by
  intro x hx
  obtain ⟨i, hi, rfl⟩ := List.getElem_of_mem hx
  rw [List.getElem_take];rw [Qk] at hi;exact hlt i (by omega) (by omega)
 have hsplit := RU k.toNat l
 split
 ·rename_i h
  rw [put, if_pos];exact RC h.2
 ·rename_i h
  have hn : n ∉ l := by
   intro hn;rw [← hsplit, Qg] at hn
   rcases hn with hn | hn
   ·have := hbefore n hn; omega
   ·apply h
    have hk : k < l.length := by
     refine Classical.byContradiction fun hk => ?_
     rw [List.drop_eq_nil_of_le (by omega)] at hn; cases hn
    refine ⟨hk, ?_⟩;rw [List.getElem?_eq_getElem (by omega)]
    have h2 : (l.drop k.toNat).Pairwise (· < ·) := hl.drop
    rw [RT (by omega)] at hn h2;rw [List.pairwise_cons] at h2
    rcases Qn.1 hn with hn | hn
    ·rw [← hn]
    ·have := h2.1 n hn; have := hge hk; omega
  rw [put, if_neg hn]
  have e1 : l.takeWhile (fun x => decide (x < n)) = l.take k.toNat := by
   conv => lhs; rw [← hsplit]
   rw [List.takeWhile_append_of_pos (by intro x hx; simpa using hbefore x hx)]
   have : (l.drop k.toNat).takeWhile (fun x => decide (x < n)) = [] := by
    cases e : l.drop k.toNat with
    | nil => rfl
    | cons y r => rw [List.takeWhile_cons_of_neg]; have := hafter y (by rw [e]; exact Q9 ..); simp; omega
   rw [this, Qu]
  have e2 : l.dropWhile (fun x => decide (x < n)) = l.drop k.toNat := by
   conv => lhs; rw [← hsplit]
   rw [List.dropWhile_append_of_pos (by intro x hx; simpa using hbefore x hx)]
   cases e : l.drop k.toNat with
   | nil => rfl
   | cons y r => rw [List.dropWhile_cons_of_neg]; have := hafter y (by rw [e]; exact Q9 ..); simp; omega
  rw [e1, e2]
open Go.Eng
def marks (N : Nat) (l : List Int) : List T := (upto N).map fun n => T.bool (decide (n ∈ l))
theorem Od {l : List Int} {n k : Int} (h0 : 0 ≤ k) (h1 : k < l.length) (h : l[k.toNat]'(by omega) = n) : put l n = l := by
 rw [put, if_pos (h ▸ Qq _)]
theorem MV {l : List Int} {n k : Int} (hl : l.Pairwise (· < ·)) (h0 : 0 ≤ k) (h1 : k ≤ l.length) (hlt : ∀ (i : Nat) (hi : i < l.length), (i : Int) < k → l[i] < n) (hge : ∀ (h : k < l.length), n < l[k.toNat]'(by omega)) : put l n = l.take k.toNat ++ n :: l.drop k.toNat := by
 rw [put_at h0 h1 hl hlt fun h => Int.le_of_lt (hge h), dif_neg]
 rintro ⟨h, he⟩
 rw [List.getElem?_eq_getElem (by omega)] at he
 have := hge h
 have : l[k.toNat] = n := Option.some.inj he
 omega
theorem H6 {l : List Int} {n k : Int} (e : put l n = l.take k.toNat ++ n :: l.drop k.toNat) : ((l.map T.int).drop (0 : Int).toNat).take (k.toNat - (0 : Int).toNat) ++ [T.int n] ++ ((l.map T.int).drop k.toNat).take ((((l.map T.int).length : Nat) : Int).toNat - k.toNat) = (put l n).map T.int := by
 rw [e, Qi (l := (l.map T.int).drop k.toNat) (by simp)]
 simp
theorem Mw (l : List Int) (n : Int) (hl : l.length ≤ 1048576) (hr : l.Pairwise (· < ·)) : Fun Tryz.prog 119 [.t (T.ints l), .t (.int n)] (Ay [.t (T.ints (put l n))]) := by
  refine Fun.begin tys Tryz.func119 Z Z (N := 48) [(0, .t (T.ints l)), (1, .t (.int n))] Z Z (fun w0 G F0 => ?_);refine sG (eZ Z (nA (eZ Z (nB (sQ (AH ?_))))));refine lK (α := Int) [0, 1] [] (fun x => [(5, .t (.int x))]) (fun x => []) (fun x => 0 ≤ x ∧ x ≤ l.length ∧ ∀ (i : Nat) (hi : i < l.length), (i : Int) < x → l[i] < n) (fun x => Int.toNat (l.length - x)) 0 ?_ (fun k hx => ?_)
  · exact ⟨by omega, by omega, fun i hi h => by omega⟩
  obtain ⟨hk0, hk1, hk2⟩ := hx
  refine nY Z (sQ (sG (eK 2 Z (evE ?_))));refine eK 2 Z ?_;refine gB (fun h1 => ?_) (fun h1 => ?_)
  ·
    simp only [HS] at h1;refine xK 4 Z (kZ [0,1,5,7,8,9,10,11,12,13,14,15,16] Z (xK 2 Z (nB (Ao Z (AW (tE (AN (AO (tN (sQ (sG (eK 2 Z (evE ?_)))))))))))));refine eK 2 Z ?_;refine gB (fun h2 => ?_) (fun h2 => ?_)
    ·
      simp only [HS] at h2;refine xK 2 Z (kZ [0,1,5,25,28] Z (xK 4 Z (nB (Ao Z (AD (tN (sG (bZ [] ?_))))))));refine nZ Z (eK 2 Z (B9 tys Z Z (lt_of Z) Z Z Z Z Z Z Z Z (by first | omega | (simp only [Qc]; omega)) (by first | omega | (simp only [Qc]; omega)) (by first | omega | (simp only [Qc]; omega)) ?_));refine Am tys Z Z (lt_of Z) Z Z Z Z Z (.own Z (by first | omega | (simp only [Qf]; omega))) Z (.read (Ex _ _ _)) (by decide) (by simp; omega) (by decide) Z ?_;refine nZ Z (kZ [0,1,5,38] Z (eZ Z (nA (eK 2 Z (bZ [T.int n] ?_)))));refine nZ Z (Am tys Z Z (lt_of Z) Z Z Z Z Z (.own Z (by first | omega | (simp only [Qf]; omega))) Z (.own Z (by first | decide | omega)) (by decide) (by simp; omega) (by decide) Z ?_);refine nZ Z (eZ Z (nA (eK 3 Z (kZ [43,44,45] Z (B9 tys Z Z (lt_of Z) Z Z Z Z Z Z Z Z (by first | omega | (simp only [Qc]; omega)) (by first | omega | (simp only [Qc]; omega)) (by first | omega | (simp only [Qc]; omega)) ?_)))));refine Am tys Z Z (lt_of Z) Z Z Z Z Z (.own Z (by first | omega | (simp only [Qf]; omega))) Z (.read (Ex _ _ _)) (by decide) (by simp; omega) (by decide) Z ?_;refine nZ Z (eZ Z (nB ?_))
      try (refine W_le (Le.gather (u := 4) (id := 34) rfl rfl (by first | (simp; done) | (simp; omega) | omega)) ?_; refine W_norm rfl ?_; refine W_le (Le.freeze (u := 4) rfl) ?_; refine W_norm rfl ?_)
      refine rT (eR ?_)
      · first
        | (have e := MV hr hk0 hk1 hk2 (fun h => by omega)
           refine Pt ?_;rw [← H6 e];simp only [Jw, RO, List.nil_append, Qz, Qv, List.take_nil]
           done)
    simp only [HS] at h2;refine xK 2 Z (kZ [0,1,5,25,26,27] Z (gY Z ?_));refine iY (k := ?_);refine xK 4 Z (nB ?_);refine AC Z (fun h3 => ?_) (fun h3 => ?_)
    ·
      simp only [HS] at h3;refine sG (eK 2 Z (nB ?_))
      try (refine W_le (Le.gather (u := 4) (id := 34) rfl rfl (by first | (simp; done) | (simp; omega) | omega)) ?_; refine W_norm rfl ?_; refine W_le (Le.freeze (u := 4) rfl) ?_; refine W_norm rfl ?_)
      refine rT (tR (eR ?_))
      · first
        | (exfalso; omega)
    simp only [HS] at h3;refine AD (tN (sG (bZ [] ?_)));refine nZ Z (eK 2 Z (B9 tys Z Z (lt_of Z) Z Z Z Z Z Z Z Z (by first | omega | (simp only [Qc]; omega)) (by first | omega | (simp only [Qc]; omega)) (by first | omega | (simp only [Qc]; omega)) ?_));refine kZ [0,1,5,34,37] Z (Am tys Z Z (lt_of Z) Z Z Z Z Z (.own Z (by first | omega | (simp only [Qf]; omega))) Z (.read (Ex _ _ _)) (by decide) (by simp; omega) (by decide) Z ?_);refine nZ Z (eZ Z (nA (eK 2 Z (bZ [T.int n] ?_))));refine nZ Z (Am tys Z Z (lt_of Z) Z Z Z Z Z (.own Z (by first | omega | (simp only [Qf]; omega))) Z (.own Z (by first | decide | omega)) (by decide) (by simp; omega) (by decide) Z ?_);refine nZ Z (eZ Z (nB (sQ (kY [0,5,6] Z (rG (eK 3 Z (B9 tys Z Z (lt_of Z) Z Z Z Z Z Z Z Z (by first | omega | (simp only [Qc]; omega)) (by first | omega | (simp only [Qc]; omega)) (by first | omega | (simp only [Qc]; omega)) ?_)))))));refine Am tys Z Z (lt_of Z) Z Z Z Z Z (.own Z (by first | omega | (simp only [Qf]; omega))) Z (.read (Ex _ _ _)) (by decide) (by simp; omega) (by decide) Z ?_;refine nZ Z (eZ Z (nB ?_))
    try (refine W_le (Le.gather (u := 4) (id := 34) rfl rfl (by first | (simp; done) | (simp; omega) | omega)) ?_; refine W_norm rfl ?_; refine W_le (Le.freeze (u := 4) rfl) ?_; refine W_norm rfl ?_)
    refine rT (eR ?_)
    · first
      | (exfalso; omega)
  simp only [HS] at h1;refine xK 2 Z (gY Z ?_);refine iY (k := ?_);refine xZ Z (kZ [0,1,5,7,8,9,10,11,12,13,14,15] Z (xK 3 Z (nB ?_)));refine AC Z (fun h2 => ?_) (fun h2 => ?_)
  ·
    simp only [HS] at h2;refine AD (tN (AH (rG (eZ Z (evI ?_)))));refine eZ Z (oN (bN ?_));refine lQ _ ?_ ?_
    · skip
      refine ⟨by omega, by omega, fun i hi h => ?_⟩
      by_cases hq : (i : Int) < k
      · exact hk2 i hi hq
      · obtain rfl : i = k.toNat := by omega
        exact h2
    · (show Int.toNat _ < Int.toNat _); omega
  simp only [HS] at h2;refine AW (tE (AN (AO (tN (sQ (sG (eK 2 Z (evE ?_))))))));refine eK 2 Z ?_;refine gB (fun h3 => ?_) (fun h3 => ?_)
  ·
    simp only [HS] at h3;refine xZ Z (kZ [0,1,5,25,26,27] Z (xK 5 Z (nB (Ao Z (AD (tN (sG (bZ [] ?_))))))));refine nZ Z (eK 2 Z (B9 tys Z Z (lt_of Z) Z Z Z Z Z Z Z Z (by first | omega | (simp only [Qc]; omega)) (by first | omega | (simp only [Qc]; omega)) (by first | omega | (simp only [Qc]; omega)) ?_));refine kZ [0,1,5,34,37] Z (Am tys Z Z (lt_of Z) Z Z Z Z Z (.own Z (by first | omega | (simp only [Qf]; omega))) Z (.read (Ex _ _ _)) (by decide) (by simp; omega) (by decide) Z ?_);refine nZ Z (eZ Z (nA (eK 2 Z (bZ [T.int n] ?_))));refine nZ Z (Am tys Z Z (lt_of Z) Z Z Z Z Z (.own Z (by first | omega | (simp only [Qf]; omega))) Z (.own Z (by first | decide | omega)) (by decide) (by simp; omega) (by decide) Z ?_);refine nZ Z (eZ Z (nB (sQ (kY [0,5,6] Z (rG (eK 3 Z (B9 tys Z Z (lt_of Z) Z Z Z Z Z Z Z Z (by first | omega | (simp only [Qc]; omega)) (by first | omega | (simp only [Qc]; omega)) (by first | omega | (simp only [Qc]; omega)) ?_)))))));refine Am tys Z Z (lt_of Z) Z Z Z Z Z (.own Z (by first | omega | (simp only [Qf]; omega))) Z (.read (Ex _ _ _)) (by decide) (by simp; omega) (by decide) Z ?_;refine nZ Z (eZ Z (nB ?_))
    try (refine W_le (Le.gather (u := 4) (id := 34) rfl rfl (by first | (simp; done) | (simp; omega) | omega)) ?_; refine W_norm rfl ?_; refine W_le (Le.freeze (u := 4) rfl) ?_; refine W_norm rfl ?_)
    refine rT (eR ?_)
    · first
      | (exfalso; omega)
  simp only [HS] at h3;refine xK 2 Z (kZ [0,1,5,25,26,27] Z (gY Z ?_));refine iY (k := ?_);refine xK 4 Z (nB ?_);refine AC Z (fun h4 => ?_) (fun h4 => ?_)
  ·
    simp only [HS] at h4;refine sG (eK 2 Z (nB ?_))
    try (refine W_le (Le.gather (u := 4) (id := 34) rfl rfl (by first | (simp; done) | (simp; omega) | omega)) ?_; refine W_norm rfl ?_; refine W_le (Le.freeze (u := 4) rfl) ?_; refine W_norm rfl ?_)
    refine rT (tR (eR ?_))
    · first
      | (refine Pt ?_; rw [Od hk0 (by omega) (by assumption)]; done)
  simp only [HS] at h4;refine AD (tN (sG (bZ [] ?_)));refine nZ Z (eK 2 Z (B9 tys Z Z (lt_of Z) Z Z Z Z Z Z Z Z (by first | omega | (simp only [Qc]; omega)) (by first | omega | (simp only [Qc]; omega)) (by first | omega | (simp only [Qc]; omega)) ?_));refine kZ [0,1,5,34,37] Z (Am tys Z Z (lt_of Z) Z Z Z Z Z (.own Z (by first | omega | (simp only [Qf]; omega))) Z (.read (Ex _ _ _)) (by decide) (by simp; omega) (by decide) Z ?_);refine nZ Z (eZ Z (nA (eK 2 Z (bZ [T.int n] ?_))));refine nZ Z (Am tys Z Z (lt_of Z) Z Z Z Z Z (.own Z (by first | omega | (simp only [Qf]; omega))) Z (.own Z (by first | decide | omega)) (by decide) (by simp; omega) (by decide) Z ?_);refine nZ Z (eZ Z (nB (sQ (kY [0,5,6] Z (rG (eK 3 Z (B9 tys Z Z (lt_of Z) Z Z Z Z Z Z Z Z (by first | omega | (simp only [Qc]; omega)) (by first | omega | (simp only [Qc]; omega)) (by first | omega | (simp only [Qc]; omega)) ?_)))))));refine Am tys Z Z (lt_of Z) Z Z Z Z Z (.own Z (by first | omega | (simp only [Qf]; omega))) Z (.read (Ex _ _ _)) (by decide) (by simp; omega) (by decide) Z ?_;refine nZ Z (eZ Z (nB ?_))
  try (refine W_le (Le.gather (u := 4) (id := 34) rfl rfl (by first | (simp; done) | (simp; omega) | omega)) ?_; refine W_norm rfl ?_; refine W_le (Le.freeze (u := 4) rfl) ?_; refine W_norm rfl ?_)
  refine rT (eR ?_)
  · first
    | (have e := MV hr hk0 hk1 hk2 (fun h => by omega)
       refine Pt ?_;rw [← H6 e];simp only [Jw, RO, List.nil_append, Qz, Qv, List.take_nil]
       done)
open Go.Eng
structure Met (N : Nat) (calls : Int → List Int) (fn : Int) (met : List Int) (k : Nat) : Prop where
 nodup : met.Nodup
 lead : ∀ x, x ∈ met → Lead calls fn x
 first : fn ∈ met
 closed : ∀ (i : Nat) (h : i < met.length), i < k → ∀ c, c ∈ calls met[i] → c ∈ met
section
variable {N : Nat} {calls : Int → List Int} {fn : Int} {met : List Int} {k : Nat}
end
structure Dfs (calls : Int → List Int) (fn : Int) (S ol : List Int) : Prop where
 leadS : ∀ x, x ∈ S → Lead calls fn x
 leadO : ∀ x, x ∈ ol → Lead calls fn x
 first : fn ∈ S ∨ fn ∈ ol
 closed : ∀ x, x ∈ S → ∀ c, c ∈ calls x → c ∈ S ∨ c ∈ ol
section
variable {N : Nat} {calls : Int → List Int} {fn x : Int} {S ol : List Int}
end
end Go.Proofs.YtljnifnbldfboaaGreat
