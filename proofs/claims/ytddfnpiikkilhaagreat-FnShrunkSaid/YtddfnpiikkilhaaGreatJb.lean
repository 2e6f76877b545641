/- Walks and laws of the claim. -/
import Derived.Test.YtddfnpiikkilhaaGreatGx
import Derived.Test.YtddfnpiikkilhaaGreatIk
import Derived.Test.YtddfnpiikkilhaaGreatGb
import Derived.Test.YtddfnpiikkilhaaGreatMe
import Derived.Test.YtddfnpiikkilhaaGreatUj
set_option linter.unusedVariables false
set_option linter.unusedSimpArgs false
set_option maxRecDepth 10000
set_option maxHeartbeats 4000000
namespace Go.Proofs.YtddfnpiikkilhaaGreat
open Go.Eng
open Go.Eng
def CM {α : Type} (f : Nat → Option α) : Nat → Nat → Option α
 | 0, _ => none
 | n + 1, i => match f i with
  | some x => some x
  | none => CM f n (i + 1)
theorem ED {α : Type} {f : Nat → Option α} {N i : Nat} (h : i < N) : CM f (N - i) i = match f i with
  | some x => some x
  | none => CM f (N - (i + 1)) (i + 1) := by
 obtain ⟨m, hm⟩ : ∃ m, N - i = m + 1 := ⟨N - i - 1, by omega⟩
 rw [hm, CM, show N - (i + 1) = m from by omega]
theorem Cd {α : Type} {f : Nat → Option α} {x : α} : ∀ {n i : Nat}, CM f n i = some x → ∃ k, i ≤ k ∧ k < i + n ∧ f k = some x
 | 0, _, h => by cases h
 | n + 1, i, h => by
  rw [CM] at h;split at h
  ·rename_i y e
   cases h;exact ⟨i, by omega, by omega, e⟩
  ·obtain ⟨k, h1, h2, h3⟩ := Cd h
   exact ⟨k, by omega, by omega, h3⟩
def Nn (p : Prog) (inp : List Int) (code value : Int) (fn k : Nat) : Option Prog := if ER (B6 p fn k) inp code value = true then some (B6 p fn k) else none
def Eb (p : Prog) (inp : List Int) (code value : Int) (fn : Nat) : Option Prog := CM (Nn p inp code value fn) (funcAt p fn).stmts.length 0
def Bb (p : Prog) (inp : List Int) (code value : Int) : Option Prog := CM (Eb p inp code value) p.funcs.length 0
section
variable {p : Prog} {inp : List Int} {code value fn k : Int}
theorem J7 (h0 : 0 ≤ fn) (h1 : fn < p.funcs.length) (hex : Bb p inp code value = CM (Eb p inp code value) (p.funcs.length - fn.toNat) fn.toNat) (hk : ¬ k < (funcAt p fn).stmts.length) (hk0 : 0 ≤ k) (hin : Eb p inp code value fn.toNat = CM (Nn p inp code value fn.toNat) ((funcAt p fn).stmts.length - k.toNat) k.toNat) :
  Bb p inp code value = CM (Eb p inp code value) (p.funcs.length - (fn + 1).toNat) (fn + 1).toNat := by
 rw [hex, ED (by omega), hin, show (funcAt p fn).stmts.length - k.toNat = 0 from by omega, show (fn + 1).toNat = fn.toNat + 1 from by omega];rfl
theorem J5 (h0 : 0 ≤ fn) (hk0 : 0 ≤ k) (hk : k < (funcAt p fn).stmts.length) (hin : Eb p inp code value fn.toNat = CM (Nn p inp code value fn.toNat) ((funcAt p fn).stmts.length - k.toNat) k.toNat) (hb : ¬ ER (B6 p fn k) inp code value = true) :
  Eb p inp code value fn.toNat = CM (Nn p inp code value fn.toNat) ((funcAt p fn).stmts.length - (k + 1).toNat) (k + 1).toNat := by
 rw [hin, ED (by omega), Nn, show ((fn.toNat : Nat) : Int) = fn from by omega, show ((k.toNat : Nat) : Int) = k from by omega, if_neg hb, show (k + 1).toNat = k.toNat + 1 from by omega]
theorem L9 (h0 : 0 ≤ fn) (h1 : fn < p.funcs.length) (hex : Bb p inp code value = CM (Eb p inp code value) (p.funcs.length - fn.toNat) fn.toNat) (hk0 : 0 ≤ k) (hk : k < (funcAt p fn).stmts.length) (hin : Eb p inp code value fn.toNat = CM (Nn p inp code value fn.toNat) ((funcAt p fn).stmts.length - k.toNat) k.toNat) (hb : ER (B6 p fn k) inp code value = true) :
  Bb p inp code value = some (B6 p fn k) := by
 rw [hex, ED (by omega), hin, ED (by omega), Nn, show ((fn.toNat : Nat) : Int) = fn from by omega, show ((k.toNat : Nat) : Int) = k from by omega, if_pos hb]
theorem OX (h0 : 0 ≤ fn) (h1 : ¬ fn < p.funcs.length) (hex : Bb p inp code value = CM (Eb p inp code value) (p.funcs.length - fn.toNat) fn.toNat) : Bb p inp code value = none := by
 rw [hex, show p.funcs.length - fn.toNat = 0 from by omega];rfl
end
def E5 (p : Prog) (inp : List Int) (code value : Int) : Prog := (Bb p inp code value).getD ⟨[]⟩
theorem J6 {p q : Prog} {inp : List Int} {code value : Int} (h : Bb p inp code value = some q) : [D.agg [D.own (T.Funcs q.funcs)], D.t (T.v (.bool true))] = [D.agg [D.own (T.Funcs (E5 p inp code value).funcs)], D.t (T.bool (Bb p inp code value).isSome)] := by
 rw [E5, h]; rfl
theorem MA {p : Prog} {inp : List Int} {code value : Int} (h : Bb p inp code value = none) : [D.agg [D.own (T.list 4 [])], D.t (T.v (.bool false))] = [D.agg [D.own (T.Funcs (E5 p inp code value).funcs)], D.t (T.bool (Bb p inp code value).isSome)] := by
 rw [E5, h]; rfl
theorem HH (p : Prog) (inp : List Int) (code value : Int) (hp : p.ok 1048576) (hi : inp.length ≤ 1048576) (hg : AZ p = true) : Fun Tryz.prog 62 [.t p.tt, .t (T.ints inp), .t (.int code), .t (.int value)] (Av [.agg [.own (T.Funcs (E5 p inp code value).funcs)], .t (.bool (Bb p inp code value).isSome)]) := by
 have hpl : p.funcs.length ≤ 1048576 := hp.1.1
 refine Fun.begin tys Tryz.func62 Z Z (N := 41) [(0, .t p.tt), (1, .t (T.ints inp)), (2, .t (.int code)), (3, .t (.int value))] Z Z (fun w0 G F0 => ?_);refine sG (AV Z Z (AA Z) Z Z (nZ Z (AG tys Z Z (AA Z) Z Z Z (nZ Z (eZ Z (nB (sQ (sG (eK 2 Z (evE ?_))))))))));refine eZ Z (nB (AF ?_));refine lK (α := Int) [1, 2, 3, 4, 8, 15, 16] [4, 8] (fun x => [(17, .t (.int x))]) (fun x => []) (fun x => 0 ≤ x ∧ x ≤ p.funcs.length ∧ Bb p inp code value = CM (Eb p inp code value) (p.funcs.length - x.toNat) x.toNat) (fun x => Int.toNat (p.funcs.length - x)) 0 ?_ (fun fn hx => ?_)
 ·exact ⟨by omega, by omega, rfl⟩
 obtain ⟨hf0, hf1, hex⟩ := hx
 refine nY Z (sG (eZ Z (nB (sQ ?_))));refine AC Z (fun h1 => ?_) (fun h1 => ?_)
 ·
  simp only [HS] at h1;refine AD (tN (sQ (AF (sG (eZ Z ?_)))))
  have hfa := funcAt_at (p := p) (n := fn) (by omega)
  have hfl := (Bk hp (n := fn.toNat) (by omega)).2.1.1
  refine iY (k := ?_);refine eZ Z ?_
  try refine AB (Le.freeze (u := 21) rfl) ?_
  refine nZ Z (AG tys Z Z (AA Z) Z Z Z (nZ Z (eZ Z (sT Z (nZ Z (nB (sQ (kY [1,2,3,4,8,10,11,15,16,17,18,19,20,21] Z (rG (eK 2 Z (evE ?_)))))))))));refine eZ Z (nB (AF ?_));refine lK (α := Int) [1, 2, 3, 4, 8, 10, 15, 16, 17, 23, 24] [4, 8] (fun x => [(25, .t (.int x))]) (fun x => []) (fun x => 0 ≤ x ∧ x ≤ (p.funcs[fn.toNat]'(by omega)).stmts.length ∧ Eb p inp code value fn.toNat = CM (Nn p inp code value fn.toNat) ((funcAt p fn).stmts.length - x.toNat) x.toNat) (fun x => Int.toNat ((p.funcs[fn.toNat]'(by omega)).stmts.length - x)) 0 ?_ (fun k hx => ?_)
  ·exact ⟨by omega, by omega, by unfold Eb; rw [show ((fn.toNat : Nat) : Int) = fn from by omega]; rfl⟩
  obtain ⟨hk0, hk1, hin⟩ := hx
  refine nY Z (sG (eZ Z (nB (sQ ?_))));refine AC Z (fun h2 => ?_) (fun h2 => ?_)
  ·
   simp only [HS] at h2;refine AD (tN (sQ (AF (sG (eK 2 Z (nA (eZ Z ?_)))))))
   try refine AB (Le.freeze (u := 28) rfl) ?_
   refine nZ Z (eK 2 Z (AL ?_));refine ⟨_, HK p fn k hp hg hf0 (by omega) hk0 (by rw [← hfa]; omega), rfl, ?_⟩;refine AG tys Z Z (AA Z) Z Z Z (nZ Z (sT Z (nZ Z (kZ [1,2,3,4,8,10,12,13,15,16,17,23,24,25,26,27,28,29,30,31] Z (nA (nZ Z (AB (Le.adoptBox (u := 13) (j := 0) (id := 131) Z Z Z) (nZ Z (eZ Z ?_)))))))))
   try refine AB (Le.freeze (u := 32) rfl) ?_
   refine nZ Z (eK 3 Z (Bm Z Z (AA Z) Z Z (es := [.t (B6 p fn k).tt, .t (T.ints inp), .t (.int code), .t (.int value)]) (ResL.aggT (ResL.slA Z Z ResL.done) (ResL.t (ResL.t (ResL.t ResL.done)))) (HJ (B6 p fn k) inp code value (EC hg hf0 (by omega) hk0 (by rw [← hfa]; omega)) (E2 hp fn k) hi) Z ?_));refine nZ Z (nB ?_);refine AC Z (fun h3 => ?_) (fun h3 => ?_)
   ·
    refine sG (eZ Z ?_)
    try refine AB (Le.freeze (u := 37) rfl) ?_
    refine nZ Z (sT Z (nZ Z (eZ Z (nB ?_))))
    (refine AN (Le.gatherBox (u := 8) (j := 0) (id := 131) rfl rfl rfl (by simp) rfl) ?_; refine Ac rfl ?_)
    refine rT (bR (tR (AR (bR (bR (tR (AR (bR (tR (eR ?_))))))))))
    ·first
     | (rw [Sh (by simp)]; exact J6 (L9 hf0 (by omega) hex hk0 (by rw [← hfa]; omega) hin h3))
   refine AD (bN (tN (rG (evI ?_))));refine eZ Z (oN ?_);refine lQ _ ?_ ?_
   ·skip
    exact ⟨by omega, by omega, J5 hf0 hk0 (by rw [← hfa]; omega) hin (by simp_all)⟩
   ·(show Int.toNat _ < Int.toNat _); omega
  simp only [HS] at h2;refine AS (tE (AP (AK (bN (tN (rG (evI ?_)))))));refine eZ Z (oN ?_);refine lQ _ ?_ ?_
  ·skip
   exact ⟨by omega, by omega, J7 hf0 (by omega) hex (by rw [← hfa]; omega) hk0 hin⟩
  ·(show Int.toNat _ < Int.toNat _); omega
 simp only [HS] at h1;refine AS (tE (AP (AK (tN (sG (AI tys Z Z (AA Z) Z Z Z (by kernel_rfl) Z Z Z Z Z Z (sT Z (nZ Z (eZ Z (nB (AN (Le.nilBox (u := 8) (j := 0) 4 Z Z) (nY Z (rT (eR ?_))))))))))))))
 ·first
  | exact MA (OX hf0 (by omega) hex)
theorem Hy (p : Prog) (inp : List Int) (code value : Int) (hp : p.ok 1048576) (hi : inp.length ≤ 1048576) (hg : AZ p = true) : Fun Tryz.prog 60 [.t p.tt, .t (T.ints inp), .t (.int code), .t (.int value)] (Av [.agg [.own (T.Funcs (E5 p inp code value).funcs)], .t (.bool (Bb p inp code value).isSome)]) := by
 have hpl : p.funcs.length ≤ 1048576 := hp.1.1
 refine Fun.begin tys Tryz.func60 Z Z (N := 41) [(0, .t p.tt), (1, .t (T.ints inp)), (2, .t (.int code)), (3, .t (.int value))] Z Z (fun w0 G F0 => ?_);refine sG (AV Z Z (AA Z) Z Z (nZ Z (AG tys Z Z (AA Z) Z Z Z (nZ Z (eZ Z (nB (sQ (sG (eK 2 Z (evE ?_))))))))));refine eZ Z (nB (AF ?_));refine lK (α := Int) [1, 2, 3, 4, 8, 15, 16] [4, 8] (fun x => [(17, .t (.int x))]) (fun x => []) (fun x => 0 ≤ x ∧ x ≤ p.funcs.length ∧ Bb p inp code value = CM (Eb p inp code value) (p.funcs.length - x.toNat) x.toNat) (fun x => Int.toNat (p.funcs.length - x)) 0 ?_ (fun fn hx => ?_)
 ·exact ⟨by omega, by omega, rfl⟩
 obtain ⟨hf0, hf1, hex⟩ := hx
 refine nY Z (sG (eZ Z (nB (sQ ?_))));refine AC Z (fun h1 => ?_) (fun h1 => ?_)
 ·
  simp only [HS] at h1;refine AD (tN (sQ (AF (sG (eZ Z ?_)))))
  have hfa := funcAt_at (p := p) (n := fn) (by omega)
  have hfl := (Bk hp (n := fn.toNat) (by omega)).2.1.1
  refine iY (k := ?_);refine eZ Z ?_
  try refine AB (Le.freeze (u := 21) rfl) ?_
  refine nZ Z (AG tys Z Z (AA Z) Z Z Z (nZ Z (eZ Z (sT Z (nZ Z (nB (sQ (kY [1,2,3,4,8,10,11,15,16,17,18,19,20,21] Z (rG (eK 2 Z (evE ?_)))))))))));refine eZ Z (nB (AF ?_));refine lK (α := Int) [1, 2, 3, 4, 8, 10, 15, 16, 17, 23, 24] [4, 8] (fun x => [(25, .t (.int x))]) (fun x => []) (fun x => 0 ≤ x ∧ x ≤ (p.funcs[fn.toNat]'(by omega)).stmts.length ∧ Eb p inp code value fn.toNat = CM (Nn p inp code value fn.toNat) ((funcAt p fn).stmts.length - x.toNat) x.toNat) (fun x => Int.toNat ((p.funcs[fn.toNat]'(by omega)).stmts.length - x)) 0 ?_ (fun k hx => ?_)
  ·exact ⟨by omega, by omega, by unfold Eb; rw [show ((fn.toNat : Nat) : Int) = fn from by omega]; rfl⟩
  obtain ⟨hk0, hk1, hin⟩ := hx
  refine nY Z (sG (eZ Z (nB (sQ ?_))));refine AC Z (fun h2 => ?_) (fun h2 => ?_)
  ·
   simp only [HS] at h2;refine AD (tN (sQ (AF (sG (eK 2 Z (nA (eZ Z ?_)))))))
   try refine AB (Le.freeze (u := 28) rfl) ?_
   refine nZ Z (eK 2 Z (AL ?_));refine ⟨_, KY p fn k hp hg hf0 (by omega) hk0 (by rw [← hfa]; omega), rfl, ?_⟩;refine AG tys Z Z (AA Z) Z Z Z (nZ Z (sT Z (nZ Z (kZ [1,2,3,4,8,10,12,13,15,16,17,23,24,25,26,27,28,29,30,31] Z (nA (nZ Z (AB (Le.adoptBox (u := 13) (j := 0) (id := 131) Z Z Z) (nZ Z (eZ Z ?_)))))))))
   try refine AB (Le.freeze (u := 32) rfl) ?_
   refine nZ Z (eK 3 Z (Bm Z Z (AA Z) Z Z (es := [.t (B6 p fn k).tt, .t (T.ints inp), .t (.int code), .t (.int value)]) (ResL.aggT (ResL.slA Z Z ResL.done) (ResL.t (ResL.t (ResL.t ResL.done)))) (FH (B6 p fn k) inp code value (EC hg hf0 (by omega) hk0 (by rw [← hfa]; omega)) (E2 hp fn k) hi) Z ?_));refine nZ Z (nB ?_);refine AC Z (fun h3 => ?_) (fun h3 => ?_)
   ·
    refine sG (eZ Z ?_)
    try refine AB (Le.freeze (u := 37) rfl) ?_
    refine nZ Z (sT Z (nZ Z (eZ Z (nB ?_))))
    (refine AN (Le.gatherBox (u := 8) (j := 0) (id := 131) rfl rfl rfl (by simp) rfl) ?_; refine Ac rfl ?_)
    refine rT (bR (tR (AR (bR (bR (tR (AR (bR (tR (eR ?_))))))))))
    ·first
     | (rw [Sh (by simp)]; exact J6 (L9 hf0 (by omega) hex hk0 (by rw [← hfa]; omega) hin h3))
   refine AD (bN (tN (rG (evI ?_))));refine eZ Z (oN ?_);refine lQ _ ?_ ?_
   ·skip
    exact ⟨by omega, by omega, J5 hf0 hk0 (by rw [← hfa]; omega) hin (by simp_all)⟩
   ·(show Int.toNat _ < Int.toNat _); omega
  simp only [HS] at h2;refine AS (tE (AP (AK (bN (tN (rG (evI ?_)))))));refine eZ Z (oN ?_);refine lQ _ ?_ ?_
  ·skip
   exact ⟨by omega, by omega, J7 hf0 (by omega) hex (by rw [← hfa]; omega) hk0 hin⟩
  ·(show Int.toNat _ < Int.toNat _); omega
 simp only [HS] at h1;refine AS (tE (AP (AK (tN (sG (AI tys Z Z (AA Z) Z Z Z (by kernel_rfl) Z Z Z Z Z Z (sT Z (nZ Z (eZ Z (nB (AN (Le.nilBox (u := 8) (j := 0) 4 Z Z) (nY Z (rT (eR ?_))))))))))))))
 ·first
  | exact MA (OX hf0 (by omega) hex)
def Ae (p : Prog) (inp : List Int) (code value : Int) : Bool := A3 p inp code value && ER p inp code value
theorem IW (p : Prog) (inp : List Int) (code value : Int) (hp : p.ok 1048576) (hi : inp.length ≤ 1048576) : Fun Tryz.prog 29 [.t p.tt, .t (T.ints inp), .t (.int code), .t (.int value)] (Av [.t (.bool (Ae p inp code value && !(Bb p inp code value).isSome)), .t (.bool (Ae p inp code value))]) := by
 refine Fun.begin tys Tryz.func29 Z Z (N := 38) [(0, .t p.tt), (1, .t (T.ints inp)), (2, .t (.int code)), (3, .t (.int value))] Z Z (fun w0 G F0 => ?_);refine sG (AV Z Z (AA Z) Z Z (nZ Z (eK 2 Z (nB (sQ (sG (eZ Z ?_)))))))
 try refine AB (Le.freeze (u := 15) rfl) ?_
 refine nZ Z (eK 3 Z (AL ?_));refine ⟨_, C6 p inp code value hp hi, rfl, ?_⟩;refine eZ Z (kZ [1,2,3,4,8,9,14] Z (WO_evF tys Z Z (AA Z) (d := .t _) Z (nZ Z (WO_evF tys Z Z (AA Z) (d := .t _) Z (nZ Z (eK 2 Z (nA (eK 3 Z ?_))))))));refine gB (fun h1 => ?_) (fun h1 => ?_)
 ·
  simp only [HS] at h1;refine xK 2 Z (kZ [1,2,3,4,8,9,27] Z (nB (Af Z (sG (eK 2 Z (nB (rT (tR (eR ?_)))))))))
  ·(have hno : Ae p inp code value = false := (by unfold Ae; simp_all); exact GM (by rw [hno]; rfl) hno.symm)
 simp only [HS] at h1;refine xK 2 Z (kZ [1,2,3,4,8,9,24,26] Z (eZ Z (nB ?_)));refine AC Z (fun h2 => ?_) (fun h2 => ?_)
 ·
  simp only [HS] at h2;refine sG (eK 2 Z (nB (rT (tR (eR ?_)))))
  ·(have hno : Ae p inp code value = false := (by unfold Ae; simp_all); exact GM (by rw [hno]; rfl) hno.symm)
 simp only [HS] at h2;refine AD (tN (sG ?_))
 have hA : Ae p inp code value = true := by unfold Ae; simp_all
 have hok : A3 p inp code value = true := by unfold Ae at hA; simp_all
 refine eZ Z ?_
 try refine AB (Le.freeze (u := 29) rfl) ?_
 refine nZ Z (eK 3 Z (AL ?_));refine ⟨_, HH p inp code value hp hi (CY hok), rfl, ?_⟩;refine Aw Z Z (AA Z) (.inr Z) Z Z (nZ Z (AW Z Z (AA Z) Z Z Z Z (AB (Le.freeze (u := 34) Z) (nZ Z (WO_evF tys Z Z (AA Z) (d := .t _) Z (nZ Z (kZ [8,9,34,35] Z (AG tys Z Z (AA Z) Z Z Z (nZ Z (sT Z (nZ Z (eZ Z (nA (eK 4 Z (nB ?_)))))))))))))));refine rT (eR ?_)
 ·exact GM (by rw [hA]; rfl) hA.symm
theorem E9 (p : Prog) (inp : List Int) (code value : Int) (hp : p.ok 1048576) (hi : inp.length ≤ 1048576) : Fun Tryz.prog 26 [.t p.tt, .t (T.ints inp), .t (.int code), .t (.int value)] (Av [.t (.bool (Ae p inp code value && !(Bb p inp code value).isSome)), .t (.bool (Ae p inp code value))]) := by
 refine Fun.begin tys Tryz.func26 Z Z (N := 36) [(0, .t p.tt), (1, .t (T.ints inp)), (2, .t (.int code)), (3, .t (.int value))] Z Z (fun w0 G F0 => ?_);refine sG (AV Z Z (AA Z) Z Z (nZ Z (eK 2 Z (nB (sQ (sG (eZ Z ?_)))))))
 try refine AB (Le.freeze (u := 12) rfl) ?_
 refine nZ Z (eK 3 Z (AL ?_));refine ⟨_, Eg p inp code value hp hi, rfl, ?_⟩;refine eZ Z (kZ [1,2,3,4,8,9,17] Z (eZ Z ?_));refine gB (fun h1 => ?_) (fun h1 => ?_)
 ·
  simp only [HS] at h1;refine xK 6 Z (nB (Af Z (sQ (kY [1,2,3,4,8,9] Z (rG (eK 2 Z (nB (rT (tR (eR ?_))))))))))
  ·(have hno : Ae p inp code value = false := (by unfold Ae; simp_all); exact GM (by rw [hno]; rfl) hno.symm)
 simp only [HS] at h1
 have hok : A3 p inp code value = true := by simp_all
 refine eZ Z ?_
 try refine AB (Le.freeze (u := 19) rfl) ?_
 refine nZ Z (xK 3 Z (gY Z (AL ?_)));refine ⟨_, FH p inp code value (CY hok) hp hi, rfl, ?_⟩;refine xK 2 Z (nB ?_);refine AC Z (fun h2 => ?_) (fun h2 => ?_)
 ·
  simp only [HS] at h2;refine sQ (kY [1,2,3,4,8,9] Z (rG (eK 2 Z (nB (rT (tR (eR ?_)))))))
  ·(have hno : Ae p inp code value = false := (by unfold Ae; simp_all); exact GM (by rw [hno]; rfl) hno.symm)
 simp only [HS] at h2;refine AD (tN (sQ (kY [1,2,3,4,8,9] Z (rG ?_))))
 have hA : Ae p inp code value = true := by unfold Ae; simp_all
 have hok : A3 p inp code value = true := by unfold Ae at hA; simp_all
 refine eZ Z ?_
 try refine AB (Le.freeze (u := 27) rfl) ?_
 refine nZ Z (eK 3 Z (AL ?_));refine ⟨_, Hy p inp code value hp hi (CY hok), rfl, ?_⟩;refine Aw Z Z (AA Z) (.inr Z) Z Z (nZ Z (AW Z Z (AA Z) Z Z Z Z (AB (Le.freeze (u := 32) Z) (nZ Z (WO_evF tys Z Z (AA Z) (d := .t _) Z (nZ Z (AG tys Z Z (AA Z) Z Z Z (nZ Z (kZ [8,9,10,32,33] Z (sT Z (nZ Z (eZ Z (nA (eK 4 Z (nB ?_)))))))))))))));refine rT (eR ?_)
 ·exact GM (by rw [hA]; rfl) hA.symm
open Go.Eng
def Px (e : List Tok) (k : Int) : Tok := (e[k.toNat]?).getD ⟨0, 0⟩
theorem K4 {e : List Tok} {k : Int} (h0 : 0 ≤ k) (h1 : k < e.length) : Px e k = e[k.toNat]'(by omega) := by
 rw [Px, List.getElem?_eq_getElem (by omega)]; rfl
def HO (e : List Tok) (k : Nat) : Option (List Tok) :=
 if (Px e ((k : Int) - 2)).op = 1 ∧ (Px e ((k : Int) - 1)).op = 1 ∧ 3 ≤ (Px e k).op ∧ (Px e k).op ≤ 8 then
  match A2 (Px e k).op (Px e ((k : Int) - 2)).n (Px e ((k : Int) - 1)).n with
  | none => none
  | some v => some (e.take (k - 2) ++ [⟨1, v⟩] ++ e.drop (k + 1))
 else none
def DU (e : List Tok) : Option (List Tok) := CM (HO e) (e.length - 2) 2
theorem HP {e x : List Tok} (h : DU e = some x) : x.length + 2 = e.length := by
 obtain ⟨k, h1, h2, h3⟩ := Cd h
 unfold HO at h3;split at h3
 ·split at h3
  ·cases h3
  ·cases h3
   simp only [Sk, Sm, TD, Sl, List.length_nil];omega
 ·cases h3
def HN : Nat → List Tok → List Tok
 | 0, e => e
 | n + 1, e => match DU e with
  | none => e
  | some x => HN n x
def KT (e : List Tok) : List Tok := HN e.length e
theorem Fr {e : List Tok} (h : DU e = none) (n : Nat) : HN n e = e := by
 cases n with
 | zero => rfl
 | succ n => rw [HN, h]
theorem Fs : ∀ {n : Nat} {e : List Tok}, e.length ≤ n → HN n e = HN e.length e
 | n, e, hn => by
  cases h : DU e with
  | none => rw [Fr h, Fr h]
  | some x =>
   have g := HP h
   obtain ⟨m, hm⟩ : ∃ m, e.length = m + 1 := ⟨e.length - 1, by omega⟩
   obtain ⟨n', rfl⟩ : ∃ n', n = n' + 1 := ⟨n - 1, by omega⟩
   rw [hm, HN, HN, h];show HN n' x = HN m x;rw [Fs (n := n') (by omega), Fs (n := m) (by omega)]
termination_by n => n
theorem NH {e : List Tok} (h : DU e = none) : KT e = e := Fr h _
theorem NG {e x : List Tok} (h : DU e = some x) : KT e = KT x := by
 have g := HP h
 unfold KT
 obtain ⟨m, hm⟩ : ∃ m, e.length = m + 1 := ⟨e.length - 1, by omega⟩
 rw [hm, HN, h];exact Fs (by omega)
section
variable {e : List Tok} {k : Int}
theorem FD (h0 : 2 ≤ k) (h1 : k < e.length) : HO e k.toNat = if (e[(k - 2).toNat]'(by omega)).op = 1 ∧ (e[(k - 1).toNat]'(by omega)).op = 1 ∧ 3 ≤ (e[k.toNat]'(by omega)).op ∧ (e[k.toNat]'(by omega)).op ≤ 8 then
  match A2 (e[k.toNat]'(by omega)).op (e[(k - 2).toNat]'(by omega)).n (e[(k - 1).toNat]'(by omega)).n with
  | none => none
  | some v => some (e.take (k - 2).toNat ++ [⟨1, v⟩] ++ e.drop (k + 1).toNat)
 else none := by
 unfold HO;rw [show ((k.toNat : Nat) : Int) = k from by omega, K4 (by omega) (by omega), K4 (by omega) (by omega), K4 (by omega) (by omega), show k.toNat - 2 = (k - 2).toNat from by omega, show k.toNat + 1 = (k + 1).toNat from by omega]
theorem FC (h0 : 2 ≤ k) (h1 : k < e.length) (hex : DU e = CM (HO e) (e.length - k.toNat) k.toNat) (hn : HO e k.toNat = none) : DU e = CM (HO e) (e.length - (k + 1).toNat) (k + 1).toNat := by
 rw [hex, ED (by omega), hn, show (k + 1).toNat = k.toNat + 1 from by omega]
theorem Qj {x : List Tok} (h0 : 2 ≤ k) (h1 : k < e.length) (hex : DU e = CM (HO e) (e.length - k.toNat) k.toNat) (hn : HO e k.toNat = some x) : DU e = some x := by
 rw [hex, ED (by omega), hn]
theorem SA (h1 : ¬ k < e.length) (hex : DU e = CM (HO e) (e.length - k.toNat) k.toNat) : DU e = none := by
 rw [hex, show e.length - k.toNat = 0 from by omega]; rfl
end
theorem LK (e : List Tok) (he : e.length ≤ 1048576) : Fun Tryz.prog 130 [.t (T.Toks e)] (Av [.own (T.Toks ((DU e).getD [])), .t (.bool (DU e).isSome)]) := by
  refine Fun.begin tys Tryz.func130 Z Z (N := 79) [(0, .t (T.Toks e))] Z Z (fun w0 G F0 => ?_);refine sG (eK 2 Z (nB (sQ (sG (eZ Z (nB (AF ?_)))))));refine lK (α := Int) [0] [] (fun x => [(4, .t (.int x))]) (fun x => []) (fun x => 2 ≤ x ∧ (x ≤ e.length ∨ x = 2) ∧ DU e = CM (HO e) (e.length - x.toNat) x.toNat) (fun x => Int.toNat (e.length - x)) 2 ?_ (fun k hx => ?_)
  · exact ⟨by omega, by omega, rfl⟩
  obtain ⟨hk0, hk1, hex⟩ := hx
  refine nY Z (sQ (sG (eK 2 Z (evE ?_))));refine eZ Z (nB ?_);refine AC Z (fun h1 => ?_) (fun h1 => ?_)
  ·
    simp only [HS] at h1;refine AD (tN (sQ (AF (sQ (sG (eK 2 Z (evI ?_)))))));refine iY (k := ?_);refine eZ Z (kZ [0,4,8,9,10,11,14,15,16,17,18] Z (eK 3 Z ?_));refine gB (fun h2 => ?_) (fun h2 => ?_)
    ·
      simp only [HS] at h2;refine xK 6 Z (kZ [0,4,8,9,10,11,14,15,16,17,18,19,20,21,22,23,24,25,26,27,28] Z (xK 9 Z (kZ [0,4,8,9,10,11,14,15,16,17,18,19,20,21,22,23,24,25,26,27,28,29,30,31,32,33,34,35,36,37] Z (eZ Z (nB (Af Z (AS (tE (AK (tN (rG (eZ Z (evI ?_)))))))))))));refine eZ Z (oN ?_);refine lQ _ ?_ ?_
      · skip
        refine ⟨by omega, by omega, FC hk0 (by omega) hex ?_⟩;rw [FD hk0 (by omega)]
        first
        | (rw [if_neg (fun h => h2 h.1)]; done)
      · (show Int.toNat _ < Int.toNat _); omega
    simp only [HS] at h2;refine xK 2 Z (gY Z (evI ?_));refine gY Z ?_;refine iY (k := ?_);refine xK 2 Z (kZ [0,4,8,9,10,11,14,15,16,17,18,19,20,21,22,23,24,25,26,27] Z (xK 3 Z ?_));refine gB (fun h3 => ?_) (fun h3 => ?_)
    ·
      simp only [HS] at h3;refine xK 6 Z (kZ [0,4,8,9,10,11,14,15,16,17,18,19,20,21,22,23,24,25,26,27,28,29,30,31,32,33,34,35,36,37] Z (eZ Z (nB (Af Z (AS (tE (AK (tN (rG (eZ Z (evI ?_)))))))))));refine eZ Z (oN ?_);refine lQ _ ?_ ?_
      · skip
        refine ⟨by omega, by omega, FC hk0 (by omega) hex ?_⟩;rw [FD hk0 (by omega)]
        first
        | (rw [if_neg (fun h => h3 h.2.1)]; done)
      · (show Int.toNat _ < Int.toNat _); omega
    simp only [HS] at h3;refine xK 2 Z (gY Z ?_);refine iY (k := ?_);refine xK 2 Z (gY Z (AL ?_));refine ⟨_, Ar _ _ _, rfl, ?_⟩;refine kZ [0,4,8,9,10,11,14,15,16,17,18,19,20,21,22,23,24,25,26,27,28,29,30,31,32,33,34,35,36] Z (xK 2 Z (nB ?_));refine AC Z (fun h4 => ?_) (fun h4 => ?_)
    ·
      simp only [HS] at h4;refine AS (tE (AK (tN (rG (eZ Z (evI ?_))))));refine eZ Z (oN ?_);refine lQ _ ?_ ?_
      · skip
        refine ⟨by omega, by omega, FC hk0 (by omega) hex ?_⟩;rw [FD hk0 (by omega)]
        first
        | (rw [if_neg (fun h => h4 h.2.2)]; done)
      · (show Int.toNat _ < Int.toNat _); omega
    simp only [HS] at h4;refine AD (tN (sQ (Ag Ai (by kernel_rfl) (evQ ?_))));refine evQ ?_;refine BA tys Z Z (AA Z) Z Z Z Z Z Z Z (by omega) _ (FB _ _ (by omega) (by omega)) (evQ ?_);refine AU Z (evQ ?_);refine evQ ?_;refine evQ ?_;refine SF ?_;refine BA tys Z Z (AA Z) Z Z Z Z Z Z Z (by omega) _ (FB _ _ (by omega) (by omega)) (evQ ?_);refine AU Z (evQ ?_);refine evQ ?_;refine evQ ?_;refine SF ?_;refine BA tys Z Z (AA Z) Z Z Z Z Z Z Z (by omega) _ (FB _ _ (by omega) (by omega)) (evQ ?_);refine AU Z (evQ ?_);refine FN ?_;refine ⟨_, GD _ _ _, rfl, ?_⟩;refine evQ ?_;refine evQ ?_;refine evQ ?_;refine evQ ?_;refine AU Z (evQ ?_);refine A8 (tN (sQ (sG (eK 2 Z (nB ?_)))));refine AC Z (fun h5 => ?_) (fun h5 => ?_)
    ·
      simp only [HS] at h5;refine AS (tE (AK (tN (rG (eZ Z (evI ?_))))));refine eZ Z (oN ?_);refine lQ _ ?_ ?_
      · skip
        refine ⟨by omega, by omega, FC hk0 (by omega) hex ?_⟩;rw [FD hk0 (by omega)]
        first
        | (rw [if_pos ⟨h2, h3, h4.1, h4.2⟩]
           cases hr : A2 (e[k.toNat]'(by omega)).op (e[(k - 2).toNat]'(by omega)).n (e[(k - 1).toNat]'(by omega)).n with
           | none => rfl
           | some v => rw [hr] at h5; cases h5)
      · (show Int.toNat _ < Int.toNat _); omega
    simp only [HS] at h5;refine AD (tN (sG (bZ [] ?_)));refine nZ Z (eK 2 Z (evI ?_));refine BU tys Z Z (AA Z) Z Z Z Z Z Z Z Z (by first | omega | (simp only [Sj]; omega)) (by first | omega | (simp only [Sj]; omega)) (by first | omega | (simp only [Sj]; omega)) ?_;refine AH tys Z Z (AA Z) Z Z Z Z Z (.own Z (by first | omega | (simp only [Sk]; omega))) Z (.read (fun x hx => Fe e x (TG (TC hx)))) (by decide) (by simp; omega) (by decide) Z ?_;refine nZ Z (kZ [0,4,5,6,8,9,10,11,14,15,16,17,18,19,20,21,22,23,24,25,26,27,28,29,30,31,32,33,34,35,36,37,38,39,40,41,42,43,44,45,46,47,48,49,50,51,52,53,54,55,56,57,58,59,60,61,62,63,64,65,66,67] Z (eZ Z (nA (eK 2 Z (AI tys Z Z (AA Z) Z Z Z (by kernel_rfl) Z Z Z Z Z Z (bZ [.agg [.v (.int .i64 1), .v (.int .i64 ((A2 (e[k.toNat]'(by omega)).op (e[(k - 2).toNat]'(by omega)).n (e[(k - 1).toNat]'(by omega)).n).getD 0))]] ?_))))));refine nZ Z (AH tys Z Z (AA Z) Z Z Z Z Z (.own Z (by first | omega | (simp only [Sk]; omega))) Z (.own Z (by first | decide | omega)) (by decide) (by simp; omega) (by decide) Z ?_);refine nZ Z (eZ Z (nB (sQ (kY [0,4,5,6,7,8,9,10,11,14,15,16,17,18,19,20,21,22,23,24,25,26,27,28,29,30,31,32,33,34,35,36,37,38,39,40,41,42,43,44,45,46,47,48,49,50,51,52,53,54,55,56,57,58,59,60,61,62,63,64,65,66,67,68,69,70,71,72] Z (rG (eK 3 Z (evI ?_)))))));refine BU tys Z Z (AA Z) Z Z Z Z Z Z Z Z (by first | omega | (simp only [Sj]; omega)) (by first | omega | (simp only [Sj]; omega)) (by first | omega | (simp only [Sj]; omega)) ?_;refine AH tys Z Z (AA Z) Z Z Z Z Z (.own Z (by first | omega | (simp only [Sk]; omega))) Z (.read (fun x hx => Fe e x (TG (TC hx)))) (by decide) (by simp; omega) (by decide) Z ?_;refine nZ Z (eK 2 Z (nB ?_))
    (refine AN (Le.gather (u := 2) (id := 62) rfl rfl (by simp)) ?_)
    refine rT (bR (tR (AR (bR (tR (eR ?_))))))
    · first
      | (obtain ⟨v, hv⟩ := Option.isSome_iff_exists.1 h5
         have hx := Qj hk0 h1 hex (x := e.take (k - 2).toNat ++ [⟨1, v⟩] ++ e.drop (k + 1).toNat) (by rw [FD hk0 h1, if_pos ⟨h2, h3, h4.1, h4.2⟩, hv])
         have hdr : List.take ((((e.map Tok.tt).length : Nat) : Int).toNat - (k + 1).toNat) (List.drop (k + 1).toNat (e.map Tok.tt)) = List.drop (k + 1).toNat (e.map Tok.tt) := Sh (by simp)
         rw [hx, hv];simp only [GU, Sr, Th, List.length_nil, Sz, List.take_nil, hdr];simp only [T.Toks, To, S1, List.map_take, List.map_drop, Option.isSome_some]
         rfl)
  simp only [HS] at h1;refine AS (tE (AP (AK (tN (sG (eK 2 Z (nB (AN (Le.nilOwn (u := 2) 2 Z) (rT (eR ?_))))))))))
  · first
    | (rw [SA (by omega) hex]; rfl)
theorem LL (e : List Tok) (he : e.length ≤ 1048576) : Fun Tryz.prog 101 [.t (T.Toks e)] (Av [.own (T.Toks (KT e))]) := by
  refine Fun.begin tys Tryz.func101 Z Z (N := 18) [(0, .t (T.Toks e))] Z Z (fun w0 G F0 => ?_);refine sG (eZ Z (nA (bZ [] ?_)));refine nZ Z (eZ Z (AH tys Z Z (AA Z) Z Z Z Z Z (.own Z (by first | omega | (simp only [Sk]; omega))) Z (.read (Fe _)) (by decide) (by simp; omega) (by decide) Z ?_));refine nZ Z (eZ Z (nZ Z (AB (Le.gather (u := 3) (id := 6) Z Z (by simp)) ?_)))
  refine AB (Le.eqF (u := 3) (e := .own (T.Toks e)) Z (by
   show D.own (T.list 2 (List.take (0 + (e.map Tok.tt).length) ([] ++ e.map Tok.tt))) = _
   rw [Sh (by simp)]; rfl)) ?_
  refine nZ Z (nB (AF ?_));refine lK (α := List Tok) [0] [] (fun x => [(3, .own (T.Toks x))]) (fun x => []) (fun x => x.length ≤ e.length ∧ KT e = KT x) (fun x => Int.toNat (x.length)) e ?_ (fun l hx => ?_)
  · exact ⟨by omega, rfl⟩
  obtain ⟨hl0, hex⟩ := hx
  refine nY Z (AF (sG (nZ Z (AB (Le.adoptE (u := 3) 6 Z (Sj _)) (nZ Z (eZ Z (AL ?_)))))));refine ⟨_, LK l (by omega), rfl, ?_⟩;refine Aw Z Z (AA Z) (.inr Z) Z Z (AW Z Z (AA Z) Z Z Z Z ?_)
  first | refine AB (Le.adoptE (u := 12) 12 rfl (by first | exact Ec | exact rfl)) ?_ | skip
  refine nZ Z (WO_evF tys Z Z (AA Z) (d := .t _) Z (nZ Z (eK 2 Z (nB (sQ (sQ (kY [0,3,4,5,9,10,11,12,13] Z (rG (eK 2 Z (nB ?_))))))))));refine AC Z (fun h1 => ?_) (fun h1 => ?_)
  ·
    simp only [HS] at h1;refine sG (eK 2 Z (nB (AN (Le.gather (u := 2) (id := 6) Z Z (by simp)) ?_)));refine rT (tR (bR (AR (bR (eR ?_)))))
    · (rw [hex, NH (by cases hf : DU l with | none => rfl | some x => rw [hf] at h1; cases h1), Sh (by simp)])
  simp only [HS] at h1;refine AD (tN (rG (eK 2 Z (nZ Z (AB (Le.gather (u := 3) (id := 12) Z Z (by simp)) ?_)))));refine AB (Le.eqF (u := 3) (e := .own (T.Toks ((DU l).getD []))) Z (by rw [Sh (by simp)]; rfl)) ?_
  obtain ⟨x, hx⟩ := Option.isSome_iff_exists.1 h1
  have hxl := HP hx
  have hxg : (DU l).getD [] = x := by rw [hx]; rfl
  have hlt : ((DU l).getD []).length < l.length := by rw [hxg]; omega
  refine nZ Z (oN (bN ?_));refine lQ _ ?_ ?_
  · skip
    exact ⟨by omega, by rw [hxg, hex, NG hx]⟩
  · (show Int.toNat _ < Int.toNat _); omega
def foldS (s : Stmt) : Stmt := ⟨s.kind, s.n, KT s.ex, s.thn, s.els⟩
def Hq (f : Func) : Func := ⟨f.params, f.vars, f.body, f.stmts.map foldS⟩
theorem KS (p : Prog) (hp : p.ok 1048576) (hg : AZ p = true) : Fun Tryz.prog 61 [.t p.tt] (Av [.agg [.own (T.Funcs (p.funcs.map Hq))], .t (.bool true)]) := by
  have hpl : p.funcs.length ≤ 1048576 := hp.1.1
  refine Fun.begin tys Tryz.func61 Z Z (N := 64) [(0, .t p.tt)] Z Z (fun w0 G F0 => ?_);refine sG (AV Z Z (AA Z) Z Z (nZ Z (AG tys Z Z (AA Z) Z Z Z (nZ Z (eZ Z (nB (sQ (sG (eZ Z ?_)))))))))
  try refine AB (Le.freeze (u := 10) rfl) ?_
  refine nZ Z (AL ?_);refine ⟨_, C0 p hp, rfl, ?_⟩;refine eZ Z (AB (Le.known (t := 12) false Z (by simp [hg])) ?_);refine nB (A5 Z (AD (tN (sG (AG tys Z Z (AA Z) Z Z Z (nZ Z (nB (sQ (sQ (kY [1,2,3,4] Z (rG (nZ Z (AB (Le.nilBox (u := 4) (j := 0) 4 Z Z) (nZ Z (AB (Le.adoptBox (u := 4) (j := 0) (id := 190) Z Z Z) ?_)))))))))))))));refine nZ Z (eK 2 Z (evE ?_));refine eZ Z (nB (AF ?_));refine lK (α := Int × Nat × List T) [1, 2, 4, 15, 16] [1, 2] (fun x => [(17, .t (.int (x.1)))]) (fun x => [(4, .box [.sl 190 0 (x.2.1)]), (190, .L 4 (x.2.2))]) (fun x => 0 ≤ (x.1) ∧ (x.1) ≤ p.funcs.length ∧ (x.2.1) = (x.2.2).length ∧ (x.2.2) = ((p.funcs.take (x.1).toNat).map Hq).map Func.tt) (fun x => Int.toNat (p.funcs.length - (x.1))) (0, 0, []) ?_ (fun x hx => ?_)
  · exact ⟨by omega, by omega, rfl, rfl⟩
  obtain ⟨k, m, xs⟩ := x
  obtain ⟨hk0, hk1, hm, hxs⟩ := hx
  dsimp only at hk0 hk1 hm hxs ⊢;refine nY Z (sG (eZ Z (nB (sQ ?_))));refine AC Z (fun h1 => ?_) (fun h1 => ?_)
  ·
    simp only [HS] at h1;refine AD (tN (sQ (AF (sG ?_))))
    have hf := Bk hp (n := k.toNat) (by omega)
    have hfl := hf.2.1.1
    have hbl : (p.funcs[k.toNat]'(by omega)).body.length ≤ 1048576 := hf.1
    refine iY (k := ?_);refine eZ Z ?_
    try refine AB (Le.freeze (u := 20) rfl) ?_
    refine nZ Z (AG tys Z Z (AA Z) Z Z Z (nZ Z (sT Z (nZ Z (nB (sQ (BZ 9 Ai Z (by kernel_rfl) (by kernel_rfl) (QG_ev tys Z Z (AA Z) Z (BB Z ?_)))))))))
    iterate 5 (refine QG_ev tys rfl rfl (AA rfl) rfl ?_)
    refine Dx ?_;refine ⟨_, Dp _ (by omega), rfl, ?_⟩;refine BB Z (Cs tys Z Z (AA Z) Z Z Z (by kernel_rfl) Z Z Z Z Z Z (EN tys Z Z (AA Z) Z Z Z Z (AE ?_)));refine ⟨by kernel_rfl, ?_⟩;refine nZ Z (sT Z (nZ Z (nB (sQ (sG (nZ Z (AB (Le.nilBox (u := 7) (j := 3) 5 Z Z) (nZ Z (AB (Le.adoptBox (u := 7) (j := 3) (id := 180) Z Z Z) (nZ Z (eK 2 Z (evE ?_))))))))))));refine eZ Z (nB (AF ?_));refine lK (α := Int × Nat × List T) [1, 2, 4, 7, 15, 16, 17, 30, 31] [1, 2, 4, 190] (fun x => [(32, .t (.int (x.1)))]) (fun x => [(7, .box [.t (T.int (p.funcs[k.toNat]'(by omega)).params), .t (T.int (p.funcs[k.toNat]'(by omega)).vars), .own (T.ints (p.funcs[k.toNat]'(by omega)).body), .sl 180 0 (x.2.1)]), (180, .L 5 (x.2.2))]) (fun x => 0 ≤ (x.1) ∧ (x.1) ≤ (p.funcs[k.toNat]'(by omega)).stmts.length ∧ (x.2.1) = (x.2.2).length ∧ (x.2.2) = (((p.funcs[k.toNat]'(by omega)).stmts.take (x.1).toNat).map foldS).map Stmt.tt) (fun x => Int.toNat ((p.funcs[k.toNat]'(by omega)).stmts.length - (x.1))) (0, 0, []) ?_ (fun x hx => ?_)
    · exact ⟨by omega, by omega, rfl, rfl⟩
    obtain ⟨j, m2, ys⟩ := x
    obtain ⟨hj0, hj1, hm2, hys⟩ := hx
    dsimp only at hj0 hj1 hm2 hys ⊢;refine nY Z (sG (eZ Z (nB (sQ ?_))));refine AC Z (fun h2 => ?_) (fun h2 => ?_)
    ·
      simp only [HS] at h2;refine AD (tN (sQ (AF (sG ?_))))
      have hso := Br hf (n := j.toNat) (by omega)
      refine iY (k := ?_);refine eZ Z ?_
      try refine AB (Le.freeze (u := 35) rfl) ?_
      refine nZ Z (AG tys Z Z (AA Z) Z Z Z (nZ Z (sT Z (nZ Z (nB (BZ 17 Ai Z (by kernel_rfl) (by kernel_rfl) (QG_ev tys Z Z (AA Z) Z (BB Z ?_))))))))
      iterate 6 (refine QG_ev tys rfl rfl (AA rfl) rfl ?_)
      refine BB Z (QG_ev tys Z Z (AA Z) Z (Dx ?_));refine ⟨_, LL _ hso.2.2, rfl, ?_⟩;refine QG_ev tys Z Z (AA Z) Z (QG_ev tys Z Z (AA Z) Z (Dx ?_));refine ⟨_, Dp _ (by have := hso.1; omega), rfl, ?_⟩;refine QG_ev tys Z Z (AA Z) Z (BB Z (QG_ev tys Z Z (AA Z) Z (Dx ?_)));refine ⟨_, Dp _ (by have := hso.2.1; omega), rfl, ?_⟩;refine Cs tys Z Z (AA Z) Z Z Z (by kernel_rfl) Z Z Z Z Z Z ?_;refine BV tys [(foldS ((p.funcs[k.toNat]'(by omega)).stmts[j.toNat]'(by omega))).tt] Z Z (AA Z) Z Z Z Z Z (AA Z) (by repeat (first | exact PartsOk.nil' | refine PartsOk.cons' rfl (by repeat (first | exact AbsL.nil' | refine AbsL.v' ?_ | refine AbsL.own' ?_ | refine AbsL.none' ?_)) Z ?_)) Z Z Z (by decide) ?_;refine AE ?_;refine ⟨by kernel_rfl, ?_⟩;refine nZ Z (AB (Le.adoptE (u := 52) 52 Z Z) (nZ Z (AH tys Z Z (AA Z) Z Z Z Z Z (.own Z (by first | omega | (simp only [Sk]; omega))) Z (.own Z (by first | decide | omega)) (by decide) (by simp only [Sm, Sl, List.length_nil]; rw [hys, Sj, Sj, Sm]; omega) (by decide) Z ?_)));refine nZ Z (eZ Z (sT Z (nZ Z (oN (bN (tN (rG (evI ?_))))))));refine eZ Z (oN ?_);refine lQ (_, _, _) ?_ ?_
      · dsimp only
        subst hm2;refine ⟨by omega, by omega, by simp, ?_⟩;rw [Sr, hys, Bi hj0 (by omega), S1, S1]
        all_goals rfl
      · (show Int.toNat _ < Int.toNat _); omega
    simp only [HS] at h2;refine AS (tE (AP (AK (tN (rG (nZ Z (AB (Le.gatherBox (u := 7) (j := 3) (id := 180) Z Z Z (by omega) Z) (nZ Z (eK 2 Z (Ad tys Z Z (AA Z) Z Z Z Z Z Z (nZ Z (bZ [.agg [T.int (p.funcs[k.toNat]'(by omega)).params, T.int (p.funcs[k.toNat]'(by omega)).vars, T.ints (p.funcs[k.toNat]'(by omega)).body, .list 5 (ys.take m2)]] ?_))))))))))));refine nZ Z (AH tys Z Z (AA Z) Z Z Z Z Z (.own Z (by first | omega | (simp only [Sk]; omega))) Z (.own Z (by first | decide | omega)) (by decide) (by simp only [Sm, Sl, List.length_nil]; rw [hxs, Sj, Sj, Sm]; omega) (by decide) Z ?_);refine nZ Z (eZ Z (sT Z (nZ Z (oN (bN (tN (kY [1,2,4,7,15,16,17,30,31,32,33,56,57,58,59,60,61] Z (rG (evI ?_)))))))));refine eZ Z (oN ?_);refine lQ (_, _, _) ?_ ?_
    · dsimp only
      have e : (Hq (p.funcs[k.toNat]'(by omega))).tt = .agg [T.int (p.funcs[k.toNat]'(by omega)).params, T.int (p.funcs[k.toNat]'(by omega)).vars, T.ints (p.funcs[k.toNat]'(by omega)).body, .list 5 (ys.take m2)] := by
       rw [hm2, Sr, hys, Sh (l := (p.funcs[k.toNat]'(by omega)).stmts) (by omega)];rfl
      subst hm;refine ⟨by omega, by omega, by simp, ?_⟩;rw [Sr, hxs, Bi hk0 (by omega), S1, S1, S8, S8, List.map_nil, List.map_nil, e]
      all_goals rfl
    · (show Int.toNat _ < Int.toNat _); omega
  simp only [HS] at h1;refine AS (tE (AP (AK (tN (sG (nZ Z (AB (Le.gatherBox (u := 4) (j := 0) (id := 190) Z Z Z (by omega) Z) (nZ Z (Ad tys Z Z (AA Z) Z Z Z Z Z Z (nZ Z (sT Z (nZ Z (eZ Z (nB (rT ?_)))))))))))))));refine eR ?_
  · rw [hm, Sr, hxs, Sh (by omega)]
    all_goals rfl
open Go.Eng
def manyP (p : Prog) : Nat := (p.funcs.map fun f => f.stmts.length).sum
section
variable {p q : Prog} {inp : List Int} {code value : Int}
theorem H5 (h : Bb p inp code value = some q) : ∃ fn k : Int, 0 ≤ fn ∧ fn < p.funcs.length ∧ 0 ≤ k ∧ k < (funcAt p fn).stmts.length ∧ q = B6 p fn k := by
 obtain ⟨fn, _, h1, h2⟩ := Cd h
 obtain ⟨k, _, h3, h4⟩ := Cd h2
 unfold Nn at h4;split at h4
 ·cases h4
  exact ⟨fn, k, by omega, by omega, by omega, by omega, rfl⟩
 ·cases h4
theorem Lj {α : Type} {f g : α → Nat} : ∀ {l : List α} {x : α}, x ∈ l → g x < f x → (∀ y, y ∈ l → g y ≤ f y) → (l.map g).sum < (l.map f).sum
 | [], _, h, _, _ => by cases h
 | y :: l, x, h, hx, hl => by
  have h1 := hl y (by simp)
  have h2 : (l.map g).sum ≤ (l.map f).sum := by
   have : ∀ l' : List α, (∀ y, y ∈ l' → g y ≤ f y) → (l'.map g).sum ≤ (l'.map f).sum := by
    intro l'
    induction l' with
    | nil => intro _; exact S3 _
    | cons z l' ih =>
     intro hz
     have a := hz z (by simp)
     have b := ih fun y hy => hz y (by simp [hy])
     simp only [S8, List.sum_cons];omega
   exact this l fun y hy => hl y (by simp [hy])
  simp only [S8, List.sum_cons]
  rcases Su.1 h with rfl | h
  ·omega
  ·have := Lj h hx fun y hy => hl y (by simp [hy])
   omega
theorem J3 {fn k : Int} (hg : AZ p = true) (h0 : 0 ≤ fn) (h1 : fn < p.funcs.length) (h2 : 0 ≤ k) (h3 : k < (funcAt p fn).stmts.length) : manyP (B6 p fn k) < manyP p := by
 have hgf := CE hg (n := fn.toNat) (by omega)
 have hsh := Bj hgf
 have hfa := (funcAt_at (p := p) (n := fn) (by omega)).symm
 rw [hfa] at h3
 have hq := C1 hsh h2 h3
 unfold manyP
 conv => rhs; rw [MP p]
 unfold B6;rw [List.map_map, List.map_map]
 refine Lj (x := fn.toNat) (TJ.2 (by omega)) ?_ fun y _ => ?_
 ·show ((BW (B5 (Fo p fn k (fn.toNat : Nat))) 0 (funcAt p (fn.toNat : Nat)).stmts).map (GQ _)).length < (funcAt p (fn.toNat : Nat)).stmts.length
  rw [show ((fn.toNat : Nat) : Int) = fn from by omega, hfa, Fo, if_pos rfl, hfa, Sj]
  have e := OZ hsh h2 h3
  have e2 := congrArg (fun f => f.stmts.length) e
  have e3 : (leftF (Al (p.funcs[fn.toNat]'(by omega)) [k]) (p.funcs[fn.toNat]'(by omega))).stmts.length = (BW (B5 (Al (p.funcs[fn.toNat]'(by omega)) [k])) 0 (p.funcs[fn.toNat]'(by omega)).stmts).length := by
   show ((BW _ 0 _).map _).length = _;rw [Sj]
  have e4 : (M1 k (CV (p.funcs[fn.toNat]'(by omega)) k) (p.funcs[fn.toNat]'(by omega))).stmts.length + CV (p.funcs[fn.toNat]'(by omega)) k = (p.funcs[fn.toNat]'(by omega)).stmts.length := El h2 hq.2.2
  rw [← e3, e2]
  have hq1 := hq.2.1
  omega
 ·show ((BW (B5 (Fo p fn k (y : Nat))) 0 (funcAt p (y : Nat)).stmts).map (GQ _)).length ≤ (funcAt p (y : Nat)).stmts.length
  rw [Sj];exact Ex _ _ _
theorem Dk (hg : AZ p = true) (hp : p.ok 1048576) (h : Bb p inp code value = some q) : AZ q = true ∧ q.ok 1048576 ∧ manyP q < manyP p := by
 obtain ⟨fn, k, h0, h1, h2, h3, rfl⟩ := H5 h
 exact ⟨EC hg h0 h1 h2 h3, E2 hp fn k, J3 hg h0 h1 h2 h3⟩
theorem Rz {B : Nat} (hp : p.ok B) (h : Bb p inp code value = some q) : q.ok B ∧ IA q ≤ IA p := by
 obtain ⟨fn, k, h0, h1, h2, h3, rfl⟩ := H5 h
 refine ⟨E2 hp fn k, ?_⟩;show ctL Kb (B6 p fn k).funcs ≤ ctL Kb p.funcs
 conv => rhs; rw [MP p]
 exact LW (f := fun j : Nat => leftF (Fo p fn k j) (funcAt p j)) (g := fun j : Nat => funcAt p j) fun j _ => Qu _ _
def Bt (inp : List Int) (code value : Int) : Nat → Prog → Prog
 | 0, p => p
 | n + 1, p => match Bb p inp code value with
  | none => p
  | some q => Bt inp code value n q
def BN (p : Prog) (inp : List Int) (code value : Int) : Prog := Bt inp code value (manyP p) p
theorem De (h : Bb p inp code value = none) (n : Nat) : Bt inp code value n p = p := by
 cases n with
 | zero => rfl
 | succ n => rw [Bt, h]
theorem Df : ∀ {n : Nat} {p : Prog}, AZ p = true → p.ok 1048576 → manyP p ≤ n → Bt inp code value n p = Bt inp code value (manyP p) p
 | n, p, hg, hp, hn => by
  cases h : Bb p inp code value with
  | none => rw [De h, De h]
  | some q =>
   obtain ⟨g1, g2, g3⟩ := Dk hg hp h
   obtain ⟨m, hm⟩ : ∃ m, manyP p = m + 1 := ⟨manyP p - 1, by omega⟩
   obtain ⟨n', rfl⟩ : ∃ n', n = n' + 1 := ⟨n - 1, by omega⟩
   rw [hm, Bt, Bt, h];show Bt inp code value n' q = Bt inp code value m q;rw [Df g1 g2 (n := n') (by omega), Df g1 g2 (n := m) (by omega)]
termination_by n => n
theorem F1 (h : Bb p inp code value = none) : BN p inp code value = p := De h _
theorem Dd (hg : AZ p = true) (hp : p.ok 1048576) (h : Bb p inp code value = some q) : BN p inp code value = BN q inp code value := by
 obtain ⟨g1, g2, g3⟩ := Dk hg hp h
 unfold BN
 obtain ⟨m, hm⟩ : ∃ m, manyP p = m + 1 := ⟨manyP p - 1, by omega⟩
 rw [hm, Bt, h];exact Df g1 g2 (by omega)
theorem Hz {B : Nat} : ∀ {n : Nat} {p : Prog}, p.ok B → (Bt inp code value n p).ok B ∧ IA (Bt inp code value n p) ≤ IA p
 | 0, p, hp => ⟨hp, Te _⟩
 | n + 1, p, hp => by
  rw [Bt];split
  ·exact ⟨hp, Te _⟩
  ·rename_i q h
   have h1 := Rz hp h
   have h2 := Hz (n := n) h1.1
   exact ⟨h2.1, Int.le_trans h2.2 h1.2⟩
theorem Mi {B : Nat} (hp : p.ok B) : (BN p inp code value).ok B ∧ IA (BN p inp code value) ≤ IA p := Hz hp
end
open Go.Eng
def mixR {α : Type} (g : α → α) (l : List α) (k : Nat) : List α := l.take k ++ (l.drop k).map g
theorem J2 {α : Type} (g : α → α) (l : List α) : mixR g l 0 = l.map g := by simp [mixR]
theorem L5 {α : Type} (g : α → α) (l : List α) {k : Nat} (h : l.length ≤ k) : mixR g l k = l := by simp [mixR, Sh h, List.drop_eq_nil_of_le h]
theorem Ga {α : Type} (g : α → α) (l : List α) (k : Nat) : (mixR g l k).length = l.length := by simp [mixR]; omega
theorem OU {α : Type} (g : α → α) (l : List α) {k : Nat} (h : k < l.length) : (mixR g l k)[k]? = some (g l[k]) := by
 unfold mixR;rw [List.getElem?_append_right (by rw [Sm]; omega), Sm, show k - min k l.length = 0 from by omega, List.getElem?_map, List.getElem?_drop, Nat.add_zero, List.getElem?_eq_getElem h];rfl
theorem L4 {α : Type} (g : α → α) (l : List α) {k : Nat} (h : k < l.length) : (mixR g l k).set k l[k] = mixR g l (k + 1) := by
 unfold mixR;rw [List.set_append_right _ _ (by rw [Sm]; omega), Sm, show k - min k l.length = 0 from by omega, TW h, S8, List.set_cons_zero, List.take_succ_eq_append_getElem h, S2];rfl
def halfF (f : Func) (j : Nat) : Func := ⟨f.params, f.vars, f.body, mixR foldS f.stmts j⟩
def halfL (l : List Func) (k j : Nat) (h : k < l.length) : List Func := (mixR Hq l k).set k (halfF l[k] j)
theorem NB (l : List Func) (k : Nat) (h : k < l.length) : halfL l k 0 h = mixR Hq l k := by
 unfold halfL halfF;rw [J2];exact P2 (OU Hq l h)
theorem Oq (l : List Func) (k : Nat) (h : k < l.length) {j : Nat} (hj : (l[k]).stmts.length ≤ j) : halfL l k j h = mixR Hq l (k + 1) := by
 unfold halfL halfF;rw [L5 _ _ hj];exact L4 Hq l h
theorem Qg (l : List Func) (k j : Nat) (h : k < l.length) : (halfL l k j h)[k]? = some (halfF l[k] j) := by
 unfold halfL;exact List.getElem?_set_self (by rw [Ga]; exact h)
theorem NC (l : List Func) (k j : Nat) (h : k < l.length) (hj : j < (l[k]).stmts.length) :
  (((halfL l k j h).map Func.tt).set k (.agg [T.int (l[k]).params, T.int (l[k]).vars, T.ints (l[k]).body, .list 5 (((mixR foldS (l[k]).stmts j).map Stmt.tt).set j (l[k]).stmts[j].tt)])) = (halfL l k (j + 1) h).map Func.tt := by
 have e : (((mixR foldS (l[k]).stmts j).map Stmt.tt).set j (l[k]).stmts[j].tt) = (mixR foldS (l[k]).stmts (j + 1)).map Stmt.tt := by
  rw [← L4 foldS _ hj, TX]
 rw [e];unfold halfL;rw [TX, TX, List.set_set];rfl
def JW (p : Prog) (inp : List Int) (code value : Int) : Prog := if Ae p inp code value = true then BN p inp code value else ⟨[]⟩
theorem Lo {p : Prog} {inp : List Int} {code value : Int} (h : Ae p inp code value = false) : [D.agg [D.own (T.list 4 [])], D.t (T.v (.bool false))] = [D.agg [D.own (T.Funcs (JW p inp code value).funcs)], D.t (T.bool (Ae p inp code value))] := by
 rw [JW, h]; rfl
theorem N0 {p q : Prog} {inp : List Int} {code value : Int} (h : Ae p inp code value = true) (hs : BN p inp code value = BN q inp code value) (hn : (Bb q inp code value).isSome = false) : [D.agg [D.own (T.Funcs q.funcs)], D.t (T.v (.bool true))] = [D.agg [D.own (T.Funcs (JW p inp code value).funcs)], D.t (T.bool (Ae p inp code value))] := by
 have hq : Bb q inp code value = none := by
  cases hf : Bb q inp code value with
  | none => rfl
  | some x => rw [hf] at hn; cases hn
 rw [JW, h, if_pos rfl, hs, F1 hq]
theorem LN (p : Prog) (inp : List Int) (code value : Int) (hp : p.ok 1048576) (hi : inp.length ≤ 1048576) : Fun Tryz.prog 22 [.t p.tt, .t (T.ints inp), .t (.int code), .t (.int value)] (Av [.agg [.own (T.Funcs (JW p inp code value).funcs)], .t (.bool (Ae p inp code value))]) := by
 refine Fun.begin tys Tryz.func22 Z Z (N := 42) [(0, .t p.tt), (1, .t (T.ints inp)), (2, .t (.int code)), (3, .t (.int value))] Z Z (fun w0 G F0 => ?_);refine sG (AV Z Z (AA Z) Z Z (nZ Z (AG tys Z Z (AA Z) Z Z Z (nZ Z (eZ Z (nB (sQ (sG (eZ Z ?_)))))))))
 try refine AB (Le.freeze (u := 13) rfl) ?_
 refine nZ Z (eK 3 Z (AL ?_));refine ⟨_, Eg p inp code value hp hi, rfl, ?_⟩;refine eZ Z (kZ [1,2,3,4,8,9,18] Z (eZ Z ?_));refine gB (fun h1 => ?_) (fun h1 => ?_)
 ·
  simp only [HS] at h1;refine xK 6 Z (nB (Af Z (sQ (kY [1,2,3,4,8,9] Z (rG (AI tys Z Z (AA Z) Z Z Z (by kernel_rfl) Z Z Z Z Z Z (sT Z (nZ Z (eZ Z (nB (AN (Le.nilBox (u := 8) (j := 0) 4 Z Z) (nY Z (rT (tR (eR ?_)))))))))))))))
  ·first
   | (refine Lo ?_; unfold Ae; simp_all)
 simp only [HS] at h1
 have hok : A3 p inp code value = true := by simp_all
 refine eZ Z ?_
 try refine AB (Le.freeze (u := 20) rfl) ?_
 refine nZ Z (xK 3 Z (gY Z (AL ?_)));refine ⟨_, FH p inp code value (CY hok) hp hi, rfl, ?_⟩;refine xK 2 Z (nB ?_);refine AC Z (fun h2 => ?_) (fun h2 => ?_)
 ·
  simp only [HS] at h2;refine sQ (kY [1,2,3,4,8,9] Z (rG (AI tys Z Z (AA Z) Z Z Z (by kernel_rfl) Z Z Z Z Z Z (sT Z (nZ Z (eZ Z (nB (AN (Le.nilBox (u := 8) (j := 0) 4 Z Z) (nY Z (rT (tR (eR ?_))))))))))))
  ·first
   | (refine Lo ?_; unfold Ae; simp_all)
 simp only [HS] at h2;refine AD (tN (sQ (kY [1,2,3,4,8,9] Z (rG ?_))))
 have hA : Ae p inp code value = true := by unfold Ae; simp_all
 have hok : A3 p inp code value = true := by unfold Ae at hA; simp_all
 refine eZ Z ?_
 try refine AB (Le.freeze (u := 28) rfl) ?_
 refine nZ Z (AL ?_);refine ⟨_, FK p hp, rfl, ?_⟩;refine AG tys Z Z (AA Z) Z Z Z (nZ Z (sT Z (nZ Z (nB (AF ?_)))));refine lK (α := Prog) [1, 2, 3, 8, 10] [8] (fun x => []) (fun x => [(10, .box [.own (T.Funcs x.funcs)])]) (fun x => AZ x = true ∧ x.ok 1048576 ∧ BN p inp code value = BN x inp code value) (fun x => Int.toNat (manyP x)) p ?_ (fun q hx => ?_)
 ·exact ⟨CY hok, hp, rfl⟩
 obtain ⟨hqg, hqo, hqs⟩ := hx
 refine nY Z (AF (sG (nZ Z (AB (Le.adoptBox (u := 10) (j := 0) (id := 131) Z Z Z) (nZ Z (eZ Z ?_))))))
 try refine AB (Le.freeze (u := 31) rfl) ?_
 refine nZ Z (eK 3 Z (Bm Z Z (AA Z) Z Z (es := [.t (T.agg [T.Funcs q.funcs]), .t (T.ints inp), .t (.int code), .t (.int value)]) (ResL.aggT (ResL.slA Z Z ResL.done) (ResL.t (ResL.t (ResL.t ResL.done)))) (Hy q inp code value hqo hi hqg) Z (nZ Z (Aw Z Z (AA Z) (.inr Z) Z Z (AW Z Z (AA Z) Z Z Z Z ?_)))))
 first | refine AB (Le.adoptE (u := 36) 36 rfl (by first | exact Ec | exact rfl)) ?_ | skip
 refine nZ Z (WO_evF tys Z Z (AA Z) (d := .t _) Z (nZ Z (AG tys Z Z (AA Z) Z Z Z (nZ Z (kZ [1,2,3,8,10,11,30,31,32,33,34,35,36,37] Z (sT Z (nZ Z (eZ Z (nB (sQ (sG (eK 2 Z (nB ?_)))))))))))));refine AC Z (fun h3 => ?_) (fun h3 => ?_)
 ·
  simp only [HS] at h3;refine sG (eZ Z ?_)
  try refine AB (Le.freeze (u := 40) rfl) ?_
  refine nZ Z (sT Z (nZ Z (eZ Z (nB ?_))))
  (refine AN (Le.gatherBox (u := 8) (j := 0) (id := 131) rfl rfl rfl (by simp) rfl) ?_; refine Ac rfl ?_)
  refine rT (tR (bR (AR (bR (eR ?_)))))
  ·first
   | (rw [Sh (by simp)]; exact N0 hA hqs h3)
 simp only [HS] at h3;refine AD (tN (rG ?_))
 obtain ⟨q', hq'⟩ := Option.isSome_iff_exists.1 h3
 have hq2 : E5 q inp code value = q' := by rw [E5, hq']; rfl
 have hq3 := Dk hqg hqo hq'
 have hlt : manyP (E5 q inp code value) < manyP q := by rw [hq2]; exact hq3.2.2
 refine Ad tys Z Z (AA Z) Z Z Z Z Z Z (nZ Z (sT Z (nZ Z (oN (bN ?_)))));refine lQ _ ?_ ?_
 ·skip
  rw [hq2]; exact ⟨hq3.1, hq3.2.1, hqs.trans (Dd hqg hqo hq')⟩
 ·(show Int.toNat _ < Int.toNat _); omega
theorem Gw (p : Prog) (inp : List Int) (code value : Int) (hp : p.ok 1048576) (hi : inp.length ≤ 1048576) : Fun Tryz.prog 23 [.t p.tt, .t (T.ints inp), .t (.int code), .t (.int value)] (Av [.agg [.own (T.Funcs (JW p inp code value).funcs)], .t (.bool (Ae p inp code value))]) := by
  have hpl : p.funcs.length ≤ 1048576 := hp.1.1
  refine Fun.begin tys Tryz.func23 Z Z (N := 83) [(0, .t p.tt), (1, .t (T.ints inp)), (2, .t (.int code)), (3, .t (.int value))] Z Z (fun w0 G F0 => ?_);refine sG (AV Z Z (AA Z) Z Z (nZ Z (AG tys Z Z (AA Z) Z Z Z (nZ Z (eZ Z (nB (sQ (sG (eZ Z ?_)))))))))
  try refine AB (Le.freeze (u := 21) rfl) ?_
  refine nZ Z (eK 3 Z (AL ?_));refine ⟨_, C6 p inp code value hp hi, rfl, ?_⟩;refine eZ Z (kZ [1,2,3,4,8,9,20] Z (WO_evF tys Z Z (AA Z) (d := .t _) Z (nZ Z (WO_evF tys Z Z (AA Z) (d := .t _) Z (nZ Z (eK 2 Z (nA (eK 3 Z ?_))))))));refine gB (fun h1 => ?_) (fun h1 => ?_)
  ·
    simp only [HS] at h1;refine xK 2 Z (kZ [1,2,3,4,8,9,33] Z (nB (Af Z (sG (AI tys Z Z (AA Z) Z Z Z (by kernel_rfl) Z Z Z Z Z Z (sT Z (nZ Z (eZ Z (nB (AN (Le.nilBox (u := 8) (j := 0) 4 Z Z) (nY Z (rT (tR (eR ?_))))))))))))))
    · first
      | (refine Lo ?_; unfold Ae; simp_all)
  simp only [HS] at h1;refine xK 2 Z (kZ [1,2,3,4,8,9,30,32] Z (eZ Z (nB ?_)));refine AC Z (fun h2 => ?_) (fun h2 => ?_)
  ·
    simp only [HS] at h2;refine sG (AI tys Z Z (AA Z) Z Z Z (by kernel_rfl) Z Z Z Z Z Z (sT Z (nZ Z (eZ Z (nB (AN (Le.nilBox (u := 8) (j := 0) 4 Z Z) (nY Z (rT (tR (eR ?_))))))))))
    · first
      | (refine Lo ?_; unfold Ae; simp_all)
  simp only [HS] at h2;refine AD (tN (sG ?_))
  have hA : Ae p inp code value = true := by unfold Ae; simp_all
  have hok : A3 p inp code value = true := by unfold Ae at hA; simp_all
  have hg := CY hok
  refine eZ Z ?_
  try refine AB (Le.freeze (u := 36) rfl) ?_
  refine nZ Z (AL ?_);refine ⟨_, KS p hp hg, rfl, ?_⟩;refine Aw Z Z (AA Z) (.inr Z) Z Z (AW Z Z (AA Z) Z Z Z Z ?_)
  first | refine AB (Le.adoptE (u := 38) 38 rfl (by first | exact Ec | exact rfl)) ?_ | skip
  refine nZ Z (WO_evF tys Z Z (AA Z) (d := .t _) Z (nZ Z (AG tys Z Z (AA Z) Z Z Z (nZ Z (sT Z (nZ Z (eZ Z (kZ [1,2,3,4,8,9,12] Z (nB (sQ (sG (eK 2 Z (evE ?_)))))))))))));refine eZ Z (nB (AF ?_));refine lK (α := Int × List Func) [1, 2, 3, 4, 8, 12, 41, 42] [4, 8] (fun x => [(43, .t (.int (x.1)))]) (fun x => [(12, .box [.own (T.Funcs (x.2))])]) (fun x => 0 ≤ (x.1) ∧ (x.1) ≤ p.funcs.length ∧ (x.2) = mixR Hq p.funcs (x.1).toNat) (fun x => Int.toNat (p.funcs.length - (x.1))) (0, p.funcs.map Hq) ?_ (fun x hx => ?_)
  · exact ⟨by omega, by omega, by rw [show (0 : Int).toNat = 0 from rfl, J2]⟩
  obtain ⟨k, xs⟩ := x
  obtain ⟨hk0, hk1, hxs⟩ := hx
  dsimp only at hk0 hk1 hxs ⊢;refine nY Z (sG (eZ Z (nB (sQ ?_))));refine AC Z (fun h3 => ?_) (fun h3 => ?_)
  ·
    simp only [HS] at h3;refine AD (tN (sQ (AF (sG (eZ Z ?_)))))
    have hkl : k.toNat < p.funcs.length := by omega
    have hf := Bk hp (n := k.toNat) hkl
    have hfl := hf.2.1.1
    refine iY (k := ?_);refine eZ Z ?_
    try refine AB (Le.freeze (u := 47) rfl) ?_
    refine nZ Z (AG tys Z Z (AA Z) Z Z Z (nZ Z (eZ Z (sT Z (nZ Z (nB (sQ (kY [1,2,3,4,8,12,14,15,41,42,43,44,45,46,47] Z (rG (eK 2 Z (evE ?_)))))))))));refine eZ Z (nB (AF ?_));refine lK (α := Int × List Func) [1, 2, 3, 4, 8, 12, 14, 41, 42, 43, 49, 50] [4, 8] (fun x => [(51, .t (.int (x.1)))]) (fun x => [(12, .box [.own (T.Funcs (x.2))])]) (fun x => 0 ≤ (x.1) ∧ (x.1) ≤ (p.funcs[k.toNat]'hkl).stmts.length ∧ (x.2) = halfL p.funcs k.toNat (x.1).toNat hkl) (fun x => Int.toNat ((p.funcs[k.toNat]'hkl).stmts.length - (x.1))) (0, xs) ?_ (fun x hx => ?_)
    · exact ⟨by omega, by omega, by rw [hxs, show (0 : Int).toNat = 0 from rfl, NB]⟩
    obtain ⟨j, ys⟩ := x
    obtain ⟨hj0, hj1, hys⟩ := hx
    dsimp only at hj0 hj1 hys ⊢;refine nY Z (sG (eZ Z (nB (sQ ?_))));refine AC Z (fun h4 => ?_) (fun h4 => ?_)
    ·
      simp only [HS] at h4;refine AD (tN (sQ (AF (sG (eZ Z ?_)))))
      have hjl : j.toNat < (p.funcs[k.toNat]'hkl).stmts.length := by omega
      have hso := Br hf (n := j.toNat) hjl
      refine iY (k := ?_);refine eZ Z ?_
      try refine AB (Le.freeze (u := 55) rfl) ?_
      refine nZ Z (AG tys Z Z (AA Z) Z Z Z (nZ Z (eZ Z (sT Z (nZ Z (nB ?_))))))
      have hyl : ys.length = p.funcs.length := by rw [hys]; unfold halfL; rw [TR, Ga]
      have hml : (List.map Stmt.tt (halfF (p.funcs[k.toNat]'hkl) j.toNat).stmts).length = (p.funcs[k.toNat]'hkl).stmts.length := by rw [Sj]; exact Ga ..
      refine AN (Le.adoptBox (u := 12) (j := 0) (id := 101) Z Z Z) (nY Z ?_);refine LZ (id := 101) (i := k.toNat) (off := 3) (z := (halfF (p.funcs[k.toNat]'hkl) j.toNat).tt) 102 1102 133 Z (PL _) (by rw [hys]; exact Rx (Qg _ _ _ hkl)) Z (by intro h; have := congrArg List.length h; rw [Sj, List.length_nil] at this; have : (mixR foldS (p.funcs[k.toNat]'hkl).stmts j.toNat).length = 0 := this; rw [Ga] at this; omega) Z Z Z Z Z Z (fun b cap hcap => ?_);refine nY Z (kY [1,2,3,4,8,12,14,16,17,41,42,43,49,50,51,52,53,54,55] Z (BZ 12 Ai Z (by kernel_rfl) (by kernel_rfl) ?_))
      iterate 3 (refine QG_ev tys rfl rfl (AA rfl) rfl ?_)
      refine DX tys Z Z (AA Z) Z Z Z Z Z Z Z Z hk0 (by rw [Sj, hyl]; exact h3) ?_;refine QG_ev tys Z Z (AA Z) Z ?_;refine D2 tys 1102 Z Z (AA Z) Z Z Z Z (by rw [Sz]; exact List.getElem?_set_self (by rw [Sj]; omega)) Z Z hcap ?_;refine BB Z (QG_ev tys Z Z (AA Z) Z ?_);refine BV tys [] Z Z (AA Z) Z Z Z Z Z (by decide) (by repeat (first | exact PartsOk.nil' | refine PartsOk.cons' rfl (by repeat (first | exact AbsL.nil' | refine AbsL.v' ?_ | refine AbsL.own' ?_ | refine AbsL.none' ?_)) Z ?_)) Z Z Z (by decide) ?_;refine QG_ev tys Z Z (AA Z) Z (QG_ev tys Z Z (AA Z) Z (Kr tys Z Z (AA Z) Z Z Z Z Z Z Z Z (fun _ => .read (Fe _)) (by simp; omega) (by decide) Z ?_));refine DX tys Z Z (AA Z) Z Z Z Z Z Z Z Z (by omega) (by omega) (BB Z (AE ?_));refine ⟨by kernel_rfl, ?_⟩;refine nZ Z (eZ Z ?_);refine Bz tys [T.Toks ((p.funcs[k.toNat]'hkl).stmts[j.toNat]'hjl).ex] Z Z Z Z Z Z (by rw [Sz]; exact Rx (OU foldS _ hjl)) Z (by repeat (first | exact AbsL.nil' | refine AbsL.v' ?_ | refine AbsL.own' ?_)) Z (by decide) (S4 Z) ?_;refine nZ Z ?_;refine AB (Le.claimL (id := 101) (id2 := 102) (pid := 1102) (i := k.toNat) (off := 3) Z Z Z (List.getElem?_set_self (by rw [Sj]; omega)) Z (by rw [TR]) Z) ?_;refine nZ Z (AB (Le.gatherBox (u := 12) (j := 0) (id := 101) Z Z Z (by simp) Z) ?_);refine nZ Z ?_
      refine AB (Le.eqK (id := 12) Z (k' := .box [.own (T.Funcs (halfL p.funcs k.toNat (j.toNat + 1) hkl))]) (by
       rw [Sh (by simp), List.set_set, T.Funcs, ← NC _ _ _ hkl hjl, hys, Sz, Sz]
       rfl)) ?_
      refine nZ Z (nZ Z (oN (bN (tN (rG (evI ?_))))));refine eZ Z (oN ?_);refine lQ (_, _) ?_ ?_
      · dsimp only
        exact ⟨by omega, by omega, by rw [show (j + 1).toNat = j.toNat + 1 from by omega]⟩
      · (show Int.toNat _ < Int.toNat _); omega
    simp only [HS] at h4;refine AS (tE (AP (AK (bN (tN (rG (evI ?_)))))));refine eZ Z (oN ?_);refine lQ (_, _) ?_ ?_
    · dsimp only
      exact ⟨by omega, by omega, by rw [hys, Oq _ _ hkl (by omega), show (k + 1).toNat = k.toNat + 1 from by omega]⟩
    · (show Int.toNat _ < Int.toNat _); omega
  simp only [HS] at h3;refine AS (tE (AP (AK (tN (AF ?_)))));refine lK (α := Prog × List Func) [1, 2, 3, 8, 12] [8] (fun x => []) (fun x => [(12, .box [.own (T.Funcs (x.2))])]) (fun x => AZ (x.1) = true ∧ (x.1).ok 1048576 ∧ BN p inp code value = BN (x.1) inp code value ∧ (x.2) = (x.1).funcs) (fun x => Int.toNat (manyP (x.1))) (p, xs) ?_ (fun x hx => ?_)
  · exact ⟨hg, hp, rfl, by rw [hxs, L5 _ _ (by omega)]⟩
  obtain ⟨q, zs⟩ := x
  obtain ⟨hqg, hqo, hqs, hzs⟩ := hx
  dsimp only at hqg hqo hqs hzs ⊢;subst hzs;refine nY Z (AF (sG (nZ Z (AB (Le.adoptBox (u := 12) (j := 0) (id := 131) Z Z Z) (nZ Z (eZ Z ?_))))))
  try refine AB (Le.freeze (u := 72) rfl) ?_
  refine nZ Z (eK 3 Z (Bm Z Z (AA Z) Z Z (es := [.t (T.agg [T.Funcs q.funcs]), .t (T.ints inp), .t (.int code), .t (.int value)]) (ResL.aggT (ResL.slA Z Z ResL.done) (ResL.t (ResL.t (ResL.t ResL.done)))) (HH q inp code value hqo hi hqg) Z (nZ Z (Aw Z Z (AA Z) (.inr Z) Z Z (AW Z Z (AA Z) Z Z Z Z ?_)))))
  first | refine AB (Le.adoptE (u := 77) 77 rfl (by first | exact Ec | exact rfl)) ?_ | skip
  refine nZ Z (WO_evF tys Z Z (AA Z) (d := .t _) Z (nZ Z (AG tys Z Z (AA Z) Z Z Z (nZ Z (kZ [1,2,3,8,12,18,71,72,73,74,75,76,77,78] Z (sT Z (nZ Z (eZ Z (nB (sQ (sG (eK 2 Z (nB ?_)))))))))))));refine AC Z (fun h4 => ?_) (fun h4 => ?_)
  ·
    simp only [HS] at h4;refine sG (eZ Z ?_)
    try refine AB (Le.freeze (u := 81) rfl) ?_
    refine nZ Z (sT Z (nZ Z (eZ Z (nB ?_))))
    (refine AN (Le.gatherBox (u := 8) (j := 0) (id := 131) rfl rfl rfl (by simp) rfl) ?_; refine Ac rfl ?_)
    refine rT (tR (bR (AR (bR (eR ?_)))))
    · first
      | (rw [Sh (by simp)]; exact N0 hA hqs (by assumption))
  simp only [HS] at h4;refine AD (tN (rG ?_))
  obtain ⟨q', hq'⟩ := Option.isSome_iff_exists.1 (by assumption)
  have hq2 : E5 q inp code value = q' := by rw [E5, hq']; rfl
  have hq3 := Dk hqg hqo hq'
  have hlt : manyP (E5 q inp code value) < manyP q := by rw [hq2]; exact hq3.2.2
  refine Ad tys Z Z (AA Z) Z Z Z Z Z Z (nZ Z (sT Z (nZ Z (oN (bN ?_)))));refine lQ (E5 q inp code value, _) ?_ ?_
  · dsimp only
    rw [hq2]; exact ⟨hq3.1, hq3.2.1, hqs.trans (Dd hqg hqo hq'), rfl⟩
  · (show Int.toNat ((manyP (E5 q inp code value) : Nat) : Int) < Int.toNat ((manyP q : Nat) : Int)); omega
open Go.Eng
structure Ou where
 code : Int
 value : Int
 trace : List Int
 used : Int
def Er (p : Prog) (inp : List Int) (most fuel : Nat) : Bool := Be p inp most && decide (fuel ≤ 600)
def outP (p : Prog) (inp : List Int) (most fuel : Nat) : Ou := ⟨(FY p inp most fuel).1, Ng (FY p inp most fuel).1 (FY p inp most fuel).2.1, (FY p inp most fuel).2.2.2.trace, (FY p inp most fuel).2.2.2.used⟩
def Pn (p : Prog) (inp : List Int) (most fuel : Nat) : Ou := if Er p inp most fuel = true then outP p inp most fuel else ⟨0, 0, [], 0⟩
def Ou.dd (o : Ou) : D := .agg [.t (.int o.code), .t (.int o.value), .own (T.ints o.trace), .t (.int o.used)]
theorem SS {p : Prog} {inp : List Int} {most : Int} (h : Be p inp most = true) : AZ p = true := by
 unfold Be at h;simp only [Si] at h;exact h.1
theorem LE {p : Prog} {inp : List Int} {most fuel : Nat} (h : Er p inp most fuel = true) : [D.agg [.t (T.v (.int .i64 (FY p inp most fuel).1)), .t (T.v (.int .i64 (Ng (FY p inp most fuel).1 (FY p inp most fuel).2.1))), .own (T.ints (FY p inp most fuel).2.2.2.trace), .t (T.v (.int .i64 (FY p inp most fuel).2.2.2.used))], D.t (T.v (.bool true))] = [(Pn p inp most fuel).dd, D.t (T.bool (Er p inp most fuel))] := by
 rw [Pn, h]; rfl
theorem RL {p : Prog} {inp : List Int} {most fuel : Nat} (h : Er p inp most fuel = false) : [D.agg [.t (T.v (.int .i64 0)), .t (T.v (.int .i64 0)), .own (T.list 1 []), .t (T.v (.int .i64 0))], D.t (T.v (.bool false))] = [(Pn p inp most fuel).dd, D.t (T.bool (Er p inp most fuel))] := by
 rw [Pn, h]; rfl
theorem K9 (p : Prog) (inp : List Int) (most fuel : Nat) (hp : p.ok 1048576) (hi : inp.length ≤ 1048576) (hm : most ≤ 1048576) (hf : fuel ≤ 1048576) : Fun Tryz.prog 128 [.t p.tt, .t (T.ints inp), .t (.int most), .t (.int fuel)] (Av [(Pn p inp most fuel).dd, .t (.bool (Er p inp most fuel))]) := by
 refine Fun.begin tys Tryz.func128 Z Z (N := 26) [(0, .t p.tt), (1, .t (T.ints inp)), (2, .t (.int most)), (3, .t (.int fuel))] Z Z (fun w0 G F0 => ?_);refine sG (AV Z Z (AA Z) Z Z (nZ Z (AG tys Z Z (AA Z) Z Z Z (nZ Z (eZ Z (nB (sQ (sG (eZ Z ?_)))))))))
 try refine AB (Le.freeze (u := 10) rfl) ?_
 refine nZ Z (eK 2 Z (AL ?_));refine ⟨_, HC p inp most hp hi, rfl, ?_⟩;refine eK 2 Z (kZ [1,2,3,4,8,9,15] Z ?_);refine gB (fun h1 => ?_) (fun h1 => ?_)
 ·
  simp only [HS] at h1;refine xK 3 Z (nB (Af Z (sG (AI tys Z Z (AA Z) Z Z Z (by kernel_rfl) Z Z Z Z Z Z (sT Z (nZ Z (eZ Z (nB ?_))))))))
  try (refine AN (Le.nilBox (u := 8) (j := 2) 1 rfl rfl) ?_; refine Ac rfl ?_)
  refine rT (tR (eR ?_))
  ·first
   | exact LE hok
   | (refine RL ?_; unfold Er; rw [← Bool.not_eq_true]; simp only [Si, decide_eq_true_eq]; rintro ⟨g1, g2⟩; first | omega | (simp_all; done) | (simp_all; omega))
 simp only [HS] at h1;refine eZ Z (gY Z (AL ?_));refine ⟨_, Ar _ _ _, rfl, ?_⟩;refine xK 2 Z (nB ?_);refine AC Z (fun h2 => ?_) (fun h2 => ?_)
 ·
  simp only [HS] at h2;refine sG (AI tys Z Z (AA Z) Z Z Z (by kernel_rfl) Z Z Z Z Z Z (sT Z (nZ Z (eZ Z (nB ?_)))))
  try (refine AN (Le.nilBox (u := 8) (j := 2) 1 rfl rfl) ?_; refine Ac rfl ?_)
  refine rT (tR (eR ?_))
  ·first
   | exact LE hok
   | (refine RL ?_; unfold Er; rw [← Bool.not_eq_true]; simp only [Si, decide_eq_true_eq]; rintro ⟨g1, g2⟩; first | omega | (simp_all; done) | (simp_all; omega))
 simp only [HS] at h2;refine AD (tN (sG (eZ Z ?_)))
 try refine AB (Le.freeze (u := 21) rfl) ?_
 refine nZ Z (eK 3 Z ?_)
 have hok : Er p inp most fuel = true := by unfold Er; simp_all <;> omega
 have hasked : Be p inp most = true := by unfold Er at hok; simp only [Si] at hok; exact hok.1
 refine AL ?_;refine ⟨_, KD p inp most fuel (SS hasked) hp hi hm hf, rfl, ?_⟩;refine kZ [8,9,25] Z (sT Z (nZ Z (eZ Z (nB ?_))))
 try (refine AN (Le.nilBox (u := 8) (j := 2) 1 rfl rfl) ?_; refine Ac rfl ?_)
 refine rT (eR ?_)
 ·first
  | exact LE hok
def enP (cd : List Int) (c : Cu) : Prog := (GH cd c).1
def enI (cd : List Int) (c : Cu) : List Int := (Kt cd (GH cd c).2).1
def enC (cd : List Int) (c : Cu) : Cu := (Kt cd (GH cd c).2).2
def enO (cd : List Int) (c : Cu) : Ou := Pn (enP cd c) (enI cd c) 12 600
def enA (cd : List Int) (c : Cu) : Bool := Er (enP cd c) (enI cd c) 12 600 && decide (1 ≤ (enO cd c).code ∧ (enO cd c).code ≤ 4)
def enK (cd : List Int) (c : Cu) : Cu := if enA cd c = true then curC cd 12 (enC cd c) else enC cd c
def enB (cd : List Int) (c : Cu) : Bool := enA cd c && !decide (pickV cd 12 (enC cd c) = 0)
def enW (cd : List Int) (c : Cu) : Int := if enB cd c = true then (enO cd c).code else pickV cd 6 (enK cd c)
def enV (cd : List Int) (c : Cu) : Int := if enB cd c = true then (enO cd c).value else Mv cd (curC cd 6 (enK cd c))
def enE (cd : List Int) (c : Cu) : Cu := if enB cd c = true then enK cd c else curC cd 12 (curC cd 6 (enK cd c))
theorem Qn {cd : List Int} {c : Cu} (hcd : CO cd) (h0 : 0 ≤ c.1) : 0 ≤ (GH cd c).2.1 ∧ (GH cd c).2.1 ≤ c.1 + 10040 ∧ 0 ≤ (enC cd c).1 ∧ (enC cd c).1 ≤ c.1 + 10060 ∧ (enI cd c).length ≤ 3 ∧ 0 ≤ (enK cd c).1 ∧ (enK cd c).1 ≤ c.1 + 10070 := by
 have h := PO (c := c) hcd h0
 have h2 := R2 (c := (GH cd c).2) hcd (by omega)
 have h3 := AO (cd := cd) (n := 12) (c := enC cd c)
 have e1 : (enC cd c).1 = (Kt cd (GH cd c).2).2.1 := rfl
 have e2 : (enI cd c).length = (Kt cd (GH cd c).2).1.length := rfl
 refine ⟨by omega, by omega, by omega, by omega, by omega, ?_, ?_⟩
 ·unfold enK; split <;> omega
 ·unfold enK; split <;> omega
theorem NI (cd : List Int) (c : Cu) (bw : Nat) (pv : Value) (hcd : CO cd) (h0 : 0 ≤ c.1) (h1 : c.1 ≤ 500000) : ProcF Tryz.prog 97 [.t (.v (.pointer (some ⟨bw, 0, none⟩)))] ([pv]) ([T.bytes cd]) [.obox (.pointer (some ⟨bw, 0, none⟩)) (cuC pv c)] (.tup [.agg [.t (T.Funcs (enP cd c).funcs)], .own (T.ints (enI cd c)), .t (.int (enW cd c)), .t (.int (enV cd c))]) [.obox (.pointer (some ⟨bw, 0, none⟩)) (cuC pv (enE cd c))] := by
 have hen := Qn hcd h0
 obtain ⟨he1, he2, he3, he4, he5, he6, he7⟩ := hen
 have hpo : (enP cd c).ok 1048576 := I7 hcd h0 (by decide)
 have hins := M8 cd (GH cd c).2 bw pv hcd he1 (by omega)
 have hcc := AO (cd := cd) (n := 6) (c := enK cd c)
 refine ProcF.intro tys Tryz.func97 Z Z (N := 43) [100] 99 ([(0, .t (.v (.pointer (some ⟨bw, 0, none⟩))))]) ([(100, .obox (.pointer (some ⟨bw, 0, none⟩)) (cuC pv c)), (99, .ro [pv] [T.bytes cd])]) Z Z Z Z (by decide) (by decide) Z (fun w0 G F0 => ?_);refine nY Z (sG (AG tys Z Z (AA Z) Z Z Z (nZ Z (eK 3 Z (nA (eZ Z ?_))))));refine He (rid := 99) [100] Z Z (AA Z) Z Z (by repeat (first | exact ResQ.done | refine ResQ.pin0 1100 Z ?_ | refine ResQ.t ?_ | refine ResQ.nil 1 ?_)) Z (by repeat (first | exact trivial | refine ⟨rfl, rfl, ?_⟩)) (by decide) (HY cd c bw pv hcd h0 (by omega)) Z Z Z ?_;refine nZ Z (AG tys Z Z (AA Z) Z Z Z (nZ Z (sT Z (nZ Z (nB (sQ (kY [0,2,3,4,5,6] Z (rG (eZ Z ?_)))))))));refine cP [100] (hm := (hins)) (k := ?_);refine nZ Z (AB (Le.adoptE (u := 13) 113 Z Z) (nZ Z (eZ Z (nA (eZ Z ?_)))))
 try refine AB (Le.freeze (u := 15) rfl) ?_
 refine nZ Z (eZ Z (Bm Z Z (AA Z) Z Z (es := [.t (enP cd c).tt, .t (T.ints (enI cd c)), .t (.int 12), .t (.int 600)]) (ResL.t (ResL.slA Z Z (ResL.t (ResL.t ResL.done)))) (K9 (enP cd c) (enI cd c) 12 600 hpo (by omega) (by decide) (by decide)) Z (nZ Z (Aw Z Z (AA Z) (.inr Z) Z Z (AW Z Z (AA Z) Z Z Z Z ?_)))))
 first | refine AB (Le.adoptE (u := 18) 18 rfl (by first | exact Ec | exact rfl)) ?_ | skip
 refine nZ Z (WO_evF tys Z Z (AA Z) (d := .t _) Z (nZ Z (kZ [0,2,3,4,5,6,7,18,19] Z (AG tys Z Z (AA Z) Z Z Z (nZ Z (sT Z (nZ Z (eZ Z (nB (sQ (sQ ?_)))))))))));refine A4 (α := Bool × Cu) [0, 2, 3, 4, 5, 6, 7, 8] [2, 6, 8, 99, 113] (fun x => [(30, .t (.bool (x.1)))]) (fun x => [(100, .obox (.pointer (some ⟨bw, 0, none⟩)) (cuC pv (x.2)))]) (fun x => (x.1) = enB cd c ∧ (x.2) = enK cd c) ?_ (fun x hx => ?_)
 ·
  refine rG (eK 2 Z ?_);refine gB (fun h1 => ?_) (fun h1 => ?_)
  ·
   simp only [HS] at h1;refine xK 4 Z (kZ [0,2,3,4,5,6,7,8,26] Z (xK 4 Z (oN (jQ (_, _) ?_))));dsimp only;unfold enB enK enA enO
   first
   | (refine with1 (p := Er (enP cd c) (enI cd c) 12 600 = false) ?_ (fun e => ?_); (focus first | assumption | (simp_all; done)); rw [e]; exact ⟨rfl, rfl⟩)
  refine xK 2 Z (gY Z (AL ?_));refine ⟨_, Ar _ _ _, rfl, ?_⟩;refine eZ Z (kZ [0,2,3,4,5,6,7,8,25] Z (eZ Z ?_));refine gB (fun h2 => ?_) (fun h2 => ?_)
  ·
   simp only [HS] at h2;refine xK 3 Z (oN (jQ (_, _) ?_));dsimp only;unfold enB enK enA enO
   first
   | (refine with1 (p := ¬ (1 ≤ (Pn (enP cd c) (enI cd c) 12 600).code ∧ (Pn (enP cd c) (enI cd c) 12 600).code ≤ 4)) ?_ (fun e => ?_); (focus first | assumption | (simp_all; done)); rw [decide_eq_false e, Bool.and_false]; exact ⟨rfl, rfl⟩)
  simp only [HS] at h2;refine eZ Z (gY Z ?_);refine cP [100] (hm := (Ck cd 12 (enC cd c) bw pv hcd (by omega) (by omega))) (k := ?_);refine nZ Z (xK 2 Z (oN (jQ (_, _) ?_)));dsimp only;unfold enB enK enA enO
  first
  | (refine with1 (p := Er (enP cd c) (enI cd c) 12 600 = true ∧ 1 ≤ (Pn (enP cd c) (enI cd c) 12 600).code ∧ (Pn (enP cd c) (enI cd c) 12 600).code ≤ 4) ?_ (fun e => ?_); (focus (refine ⟨?_, ?_⟩; (focus assumption); (focus first | assumption | (simp_all; done)))); rw [e.1, decide_eq_true e.2]; exact ⟨rfl, rfl⟩)
 obtain ⟨bb, c3⟩ := x
 obtain ⟨hbb, hc3⟩ := hx
 dsimp only at hbb hc3 ⊢;refine tN ?_;refine AC Z (fun h1 => ?_) (fun h1 => ?_)
 ·
  refine sQ ?_
  have hb1 : enB cd c = true := hbb.symm.trans (by assumption)
  refine kY [0,2,3,4,5,6,7,8] Z (AX [[], [2], [2], [2], [2], [2], [], [], [], []] Ai (by kernel_rfl) (AM (EU tys Z Z (AA Z) Z Z (AE (BJ (QG_ev tys Z Z (AA Z) Z (AE (BJ (QG_ev tys Z Z (AA Z) Z (AE (BJ (QG_ev tys Z Z (AA Z) Z (AE (AQ Z (BJ ?_)))))))))))))));refine QG_ev tys Z Z (AA Z) Z (AE (BJ (QG_ev tys Z Z (AA Z) Z (AE (B4 tys 10006 Z Z Z Z Z Z Z Z Z (S4 Z) (AM (QG_ev tys Z Z (AA Z) Z (AE (AQ Z (AM (QG_ev tys Z Z (AA Z) Z (AE (AM (QG_ev tys Z Z (AA Z) Z (AE ?_)))))))))))))));refine BP ?_;refine ⟨by kernel_rfl, ?_⟩;refine nZ Z (nB (AN (Le.gather (u := 3) (id := 113) Z Z (by first | omega | (simp; done) | (simp; omega))) ?_));refine nY Z (rT (tR ?_));refine Hj (ks := [_]) (.inr Z) (G3 Z) (by decide) Z (GZ Z) (by repeat (first | exact trivial | refine ⟨rfl, rfl, ?_⟩)) ?_ ?_
  ·rw [Sr]
   unfold enW enV;rw [if_pos hb1, if_pos hb1];rfl
  ·unfold enE
   rw [if_pos hb1, hc3];done
 refine AD (tN (sQ ?_))
 have hb1 : ¬ enB cd c = true := by rw [← hbb]; simp_all
 rw [hc3];refine nY Z (kY [0,2,3,4,5,6,7] Z (AX [[100], [2, 100], [], [], [100], [], [], [], [], []] Ai (by kernel_rfl) (BJ (EU tys Z Z (AA Z) Z Z (AE (BJ (QG_ev tys Z Z (AA Z) Z (AE (AM (QG_ev tys Z Z (AA Z) Z (AE ?_)))))))))));refine Bh (rid := 99) [100] Z Z (AA Z) Z Z (by repeat (first | exact ResP.done | refine ResP.pin0 1100 Z ?_ | refine ResP.t ?_ | refine ResP.nil 1 ?_ | refine ResP.nil' ?_ | refine ResP.own ?_ | refine ResP.sl Z Z (by first | omega | (simp; omega)) ?_ | refine ResP.aggT (by repeat (first | exact ResP.done | refine ResP.t ?_)) ?_)) Z (by repeat (first | exact trivial | refine ⟨rfl, rfl, ?_⟩)) (by decide) (AY cd 6 (enK cd c) bw pv hcd (by omega) (by omega)) Z Z Z ?_;refine AQ Z (BJ (QG_ev tys Z Z (AA Z) Z (AE ?_)));refine Bh (rid := 99) [100] Z Z (AA Z) Z Z (by repeat (first | exact ResP.done | refine ResP.pin0 1100 Z ?_ | refine ResP.t ?_ | refine ResP.nil 1 ?_ | refine ResP.nil' ?_ | refine ResP.own ?_ | refine ResP.sl Z Z (by first | omega | (simp; omega)) ?_ | refine ResP.aggT (by repeat (first | exact ResP.done | refine ResP.t ?_)) ?_)) Z (by repeat (first | exact trivial | refine ⟨rfl, rfl, ?_⟩)) (by decide) (Dj cd (curC cd 6 (enK cd c)) bw pv hcd (by omega) (by omega)) Z Z Z ?_;refine B4 tys 10006 Z Z Z Z Z Z Z Z Z (S4 Z) (AM (QG_ev tys Z Z (AA Z) Z (AE (AQ Z (AM (QG_ev tys Z Z (AA Z) Z (AE (AM (QG_ev tys Z Z (AA Z) Z (AE (BP ?_)))))))))));refine ⟨by kernel_rfl, ?_⟩;refine nZ Z (nB (AN (Le.gather (u := 3) (id := 113) Z Z (by first | omega | (simp; done) | (simp; omega))) ?_));refine nY Z (rT ?_);refine Hj (ks := [_]) (.inr Z) (G3 Z) (by decide) Z (GZ Z) (by repeat (first | exact trivial | refine ⟨rfl, rfl, ?_⟩)) ?_ ?_
 ·rw [Sr]
  unfold enW enV;rw [if_neg hb1, if_neg hb1];rfl
 ·unfold enE
  rw [if_neg hb1];done
open Go.Eng
theorem ON {p : Prog} {B : Nat} (hp : p.ok B) (inp : List Int) (code value : Int) : (JW p inp code value).ok B := by
 unfold JW;split
 ·exact (Mi hp).1
 ·exact ⟨⟨Nat.zero_le _, by simp⟩, trivial⟩
open Go.Eng
theorem JU (p : Prog) (hp : p.ok 1048576) : Fun Tryz.prog 34 [.t p.tt] (Av [.t (.int (GP p)), .t (.bool (AZ p))]) := by
 refine Fun.begin tys Tryz.func34 Z Z (N := 24) [(0, .t p.tt)] Z Z (fun w0 G F0 => ?_);refine sG (AV Z Z (AA Z) Z Z (nZ Z (eK 2 Z (nB (sQ (sG (eZ Z ?_)))))))
 try refine AB (Le.freeze (u := 7) rfl) ?_
 refine nZ Z (AL ?_);refine ⟨_, C0 p hp, rfl, ?_⟩;refine eZ Z (nB ?_);refine AC Z (fun h1 => ?_) (fun h1 => ?_)
 ·
  simp only [HS] at h1;refine sG (eK 2 Z (nB (rT (tR (eR ?_)))))
  ·first
   | exact QB (by rw [GP, h1]; rfl) h1.symm
 simp only [HS] at h1;refine AD (tN (sG (eZ Z (nB (sQ (sQ (kY [1,2,3,4] Z (rG (eK 2 Z (evE ?_))))))))));refine eZ Z (nB (AF ?_));refine lK (α := Int × Int) [11, 12] [] (fun x => [(13, .t (.int (x.1))), (4, .t (.int (x.2)))]) (fun x => []) (fun x => 0 ≤ (x.1) ∧ (x.1) ≤ p.funcs.length ∧ 0 ≤ (x.2) ∧ (x.2) ≤ 16 * (x.1) ∧ (x.2) = Pm (p.funcs.take (x.1).toNat)) (fun x => Int.toNat (p.funcs.length - (x.1))) (0, 0) ?_ (fun x hx => ?_)
 ·exact ⟨by omega, by omega, by omega, by omega, by simp [Pm]⟩
 obtain ⟨k, m⟩ := x
 obtain ⟨hk0, hk1, hm0, hm1, hm⟩ := hx
 dsimp only at hk0 hk1 hm0 hm1 hm ⊢;refine nY Z (sG (eZ Z (nB (sQ ?_))));refine AC Z (fun h2 => ?_) (fun h2 => ?_)
 ·
  simp only [HS] at h2;refine AD (tN (sQ (AF (sG ?_))));refine iY (k := ?_);refine eZ Z ?_
  try refine AB (Le.freeze (u := 16) rfl) ?_
  refine nZ Z (AG tys Z Z (AA Z) Z Z Z (nZ Z (sT Z (nZ Z (nB (rG (eK 3 Z (evE ?_))))))));refine kZ [4,6,11,12,13,14,15,16,17,18,19,20] Z ?_
  have hg := Ds (CE h1 (n := k.toNat) (by omega))
  have hgl := Dq h1
  refine evI ?_;refine eZ Z (oN (bN (tN (rG (evI ?_)))));refine eZ Z (oN ?_);refine lQ (_, _) ?_ ?_
  ·dsimp only
   exact ⟨by omega, by omega, by omega, by omega, by rw [Np hk0 (by omega), hm]⟩
  ·(show Int.toNat _ < Int.toNat _); omega
 simp only [HS] at h2;refine AS (tE (AP (AK (tN (sG (eK 3 Z (nB (rT (eR ?_)))))))))
 ·first
  | exact QB (by rw [GP, if_pos h1, hm, BL (by omega)]) h1.symm
theorem Cz (p : Prog) (hp : p.ok 1048576) : Fun Tryz.prog 27 [.t p.tt] (Av [.t (.int (GP p)), .t (.bool (AZ p))]) := by
 refine Fun.begin tys Tryz.func27 Z Z (N := 24) [(0, .t p.tt)] Z Z (fun w0 G F0 => ?_);refine sG (AV Z Z (AA Z) Z Z (nZ Z (eK 2 Z (nB (sQ (sG (eZ Z ?_)))))))
 try refine AB (Le.freeze (u := 7) rfl) ?_
 refine nZ Z (AL ?_);refine ⟨_, EA p hp, rfl, ?_⟩;refine eZ Z (nB ?_);refine AC Z (fun h1 => ?_) (fun h1 => ?_)
 ·
  simp only [HS] at h1;refine sG (eK 2 Z (nB (rT (tR (eR ?_)))))
  ·first
   | exact QB (by rw [GP, h1]; rfl) h1.symm
 simp only [HS] at h1;refine AD (tN (sG (eZ Z (nB (sQ (sQ (kY [1,2,3,4] Z (rG (eK 2 Z (evE ?_))))))))));refine eZ Z (nB (AF ?_));refine lK (α := Int × Int) [11, 12] [] (fun x => [(13, .t (.int (x.1))), (4, .t (.int (x.2)))]) (fun x => []) (fun x => 0 ≤ (x.1) ∧ (x.1) ≤ p.funcs.length ∧ 0 ≤ (x.2) ∧ (x.2) ≤ 16 * (x.1) ∧ (x.2) = Pm (p.funcs.take (x.1).toNat)) (fun x => Int.toNat (p.funcs.length - (x.1))) (0, 0) ?_ (fun x hx => ?_)
 ·exact ⟨by omega, by omega, by omega, by omega, by simp [Pm]⟩
 obtain ⟨k, m⟩ := x
 obtain ⟨hk0, hk1, hm0, hm1, hm⟩ := hx
 dsimp only at hk0 hk1 hm0 hm1 hm ⊢;refine nY Z (sG (eZ Z (nB (sQ ?_))));refine AC Z (fun h2 => ?_) (fun h2 => ?_)
 ·
  simp only [HS] at h2;refine AD (tN (sQ (AF (sG ?_))));refine iY (k := ?_);refine eZ Z ?_
  try refine AB (Le.freeze (u := 16) rfl) ?_
  refine nZ Z (AG tys Z Z (AA Z) Z Z Z (nZ Z (sT Z (nZ Z (nB (rG (eK 3 Z (evE ?_))))))));refine kZ [4,6,11,12,13,14,15,16,17,18,19,20] Z ?_
  have hg := Ds (CE h1 (n := k.toNat) (by omega))
  have hgl := Dq h1
  refine evI ?_;refine eZ Z (oN (bN (tN (rG (evI ?_)))));refine eZ Z (oN ?_);refine lQ (_, _) ?_ ?_
  ·dsimp only
   exact ⟨by omega, by omega, by omega, by omega, by rw [Np hk0 (by omega), hm]⟩
  ·(show Int.toNat _ < Int.toNat _); omega
 simp only [HS] at h2;refine AS (tE (AP (AK (tN (sG (eK 3 Z (nB (rT (eR ?_)))))))))
 ·first
  | exact QB (by rw [GP, if_pos h1, hm, BL (by omega)]) h1.symm
open Go.Eng
theorem KL (p : Prog) (hp : p.ok 1048576) : Fun Tryz.prog 35 [.t p.tt] (Av [.t (.bool (AZ p))]) := by
 refine Fun.begin tys Tryz.func35 Z Z (N := 5) [(0, .t p.tt)] Z Z (fun w0 G F0 => ?_);refine sG (AV Z Z (AA Z) Z Z (nZ Z (eZ Z (nA (eZ Z ?_)))))
 try refine AB (Le.freeze (u := 3) rfl) ?_
 refine nZ Z (AL ?_);refine ⟨_, EA p hp, rfl, ?_⟩;refine eZ Z (nB (rT (eR ?_)))
 ·rfl
theorem GG (cd : List Int) (hcd : CO cd) : Fun Tryz.prog 56 [.t (T.bytes cd)] (Av [.agg [.t (T.Funcs (enP cd cu0).funcs)], .own (T.ints (enI cd cu0)), .t (.int (enW cd cu0)), .t (.int (enV cd cu0))]) := by
 refine Fun.begin tys Tryz.func56 Z Z (N := 16) [(0, .t (T.bytes cd))] Z Z (fun w0 G F0 => ?_);refine sG (AG tys Z Z (AA Z) Z Z Z (nZ Z (eK 3 Z (nA (eZ Z ?_)))));refine Fv (u := 7) 99 Z (fun pv => ?_);refine nZ Z (AI tys Z Z (AA Z) Z Z Z (by kernel_rfl) Z Z Z Z Z Z (AV Z Z (AA Z) Z Z (nZ Z (eZ Z (nB (sQ (kY [2,3,4,5,6] Z (rG ?_))))))));refine Kk (u := 9) (pid := 1009) Z Z (fun bw => ?_);refine nZ Z (eZ Z (AB (Le.close (u := 9) 1009 Z Z Z) (nZ Z ?_)));refine He (rid := 99) [9] Z Z (AA Z) Z Z (by repeat (first | exact ResQ.done | refine ResQ.pin0 1009 Z ?_ | refine ResQ.t ?_ | refine ResQ.nil 1 ?_)) Z (by repeat (first | exact trivial | refine ⟨rfl, rfl, ?_⟩)) (by decide) (NI cd cu0 bw pv hcd (by decide) (by decide)) Z Z Z ?_;refine nZ Z (AB (Le.open (u := 9) 1009 Z Z Z Z) (nZ Z (AW Z Z (AA Z) Z Z Z Z ?_)))
 first | refine AB (Le.adoptE (u := 12) 12 rfl (by first | exact Ec | exact rfl)) ?_ | skip
 refine nZ Z (AW Z Z (AA Z) Z Z Z Z ?_)
 first | refine AB (Le.adoptE (u := 13) 13 rfl (by first | exact Ec | exact rfl)) ?_ | skip
 refine nZ Z (WO_evF tys Z Z (AA Z) (d := .t _) Z (nZ Z (WO_evF tys Z Z (AA Z) (d := .t _) Z (nZ Z (sT Z (nZ Z (eK 2 Z (kZ [2,3,4,5,15] Z (eZ Z (nB (AN (Le.gather (u := 3) (id := 13) Z Z (by first | omega | (simp; done) | (simp; omega))) ?_)))))))))));refine nY Z (rT (eR ?_))
 ·rw [Sh (by simp)]; rfl
theorem LU (cd : List Int) (hcd : CO cd) : Fun Tryz.prog 21 [.t (T.bytes cd)] (Av [.agg [.t (T.Funcs (enP cd cu0).funcs)], .own (T.ints (enI cd cu0)), .t (.int (enW cd cu0)), .t (.int (enV cd cu0))]) := by
 refine Fun.begin tys Tryz.func21 Z Z (N := 12) [(0, .t (T.bytes cd))] Z Z (fun w0 G F0 => ?_);refine sG (AG tys Z Z (AA Z) Z Z Z (nZ Z (eK 3 Z (nA (eZ Z (Cb Z Z (AA Z) Z Z Z Z Z (GG cd hcd) Z (AW Z Z (AA Z) Z Z Z Z ?_)))))))
 first | refine AB (Le.adoptE (u := 8) 8 rfl (by first | exact Ec | exact rfl)) ?_ | skip
 refine nZ Z (AW Z Z (AA Z) Z Z Z Z ?_)
 first | refine AB (Le.adoptE (u := 9) 9 rfl (by first | exact Ec | exact rfl)) ?_ | skip
 refine nZ Z (WO_evF tys Z Z (AA Z) (d := .t _) Z (nZ Z (kZ [2,3,4,5,7,8,9,10] Z (WO_evF tys Z Z (AA Z) (d := .t _) Z (nZ Z (sT Z (nZ Z (eK 3 Z (nB (AN (Le.gather (u := 3) (id := 9) Z Z (by first | omega | (simp; done) | (simp; omega))) ?_))))))))));refine nY Z (rT (eR ?_))
 ·rw [Sh (by simp)]; rfl
def ilP (cd : List Int) : Prog := if (Ae (enP cd cu0) (enI cd cu0) (enW cd cu0) (enV cd cu0) && decide (pickV cd 2 cu0 = 0)) = true then JW (enP cd cu0) (enI cd cu0) (enW cd cu0) (enV cd cu0) else enP cd cu0
theorem Iy (cd : List Int) (hcd : CO cd) : Fun Tryz.prog 28 [.t (T.bytes cd)] (Av [.agg [.t (T.Funcs (ilP cd).funcs)], .own (T.ints (enI cd cu0)), .t (.int (enW cd cu0)), .t (.int (enV cd cu0))]) := by
 have hpo : (enP cd cu0).ok 1048576 := I7 hcd (by decide) (by decide)
 have hen := Qn (c := cu0) hcd (by decide)
 obtain ⟨he1, he2, he3, he4, he5, he6, he7⟩ := hen
 refine Fun.begin tys Tryz.func28 Z Z (N := 44) [(0, .t (T.bytes cd))] Z Z (fun w0 G F0 => ?_);refine sG (AG tys Z Z (AA Z) Z Z Z (nZ Z (eK 3 Z (nA (eZ Z (Cb Z Z (AA Z) Z Z Z Z Z (GG cd hcd) Z (Aw Z Z (AA Z) (.inr Z) Z Z (AW Z Z (AA Z) Z Z Z Z ?_))))))))
 first | refine AB (Le.adoptE (u := 16) 16 rfl (by first | exact Ec | exact rfl)) ?_ | skip
 refine nZ Z (AW Z Z (AA Z) Z Z Z Z ?_)
 first | refine AB (Le.adoptE (u := 17) 17 rfl (by first | exact Ec | exact rfl)) ?_ | skip
 refine nZ Z (kZ [0,2,3,4,5,13,16,17] Z (WO_evF tys Z Z (AA Z) (d := .t _) Z (nZ Z (WO_evF tys Z Z (AA Z) (d := .t _) Z (nZ Z (AG tys Z Z (AA Z) Z Z Z (nZ Z (sT Z (nZ Z (eK 3 Z (nB (sQ (kY [0,2,3,4,5,6,7,8,9] Z (rG (eZ Z ?_)))))))))))))));refine Fv (u := 20) 99 Z (fun pv => ?_);refine nZ Z (AI tys Z Z (AA Z) Z Z Z (by kernel_rfl) Z Z Z Z Z Z (AV Z Z (AA Z) Z Z (nZ Z (eZ Z (nB (sQ (sQ ?_)))))));refine Na (u := 22) (pid := 1022) Z Z (fun bw => ?_);refine nY Z (rG (eZ Z ?_))
 try refine AB (Le.freeze (u := 24) rfl) ?_
 refine nZ Z (eK 3 Z (Bm Z Z (AA Z) Z Z (es := [.t (enP cd cu0).tt, .t (T.ints (enI cd cu0)), .t (.int (enW cd cu0)), .t (.int (enV cd cu0))]) (ResL.t (ResL.slA Z (by simp) (ResL.t (ResL.t ResL.done)))) (Gw (enP cd cu0) (enI cd cu0) (enW cd cu0) (enV cd cu0) hpo (by omega)) Z ?_));refine nZ Z (kZ [2,3,4,5,6,7,8,9,10,28] Z (Aw Z Z (AA Z) (.inr Z) Z Z (nZ Z (AW Z Z (AA Z) Z Z Z Z (AB (Le.freeze (u := 29) Z) (nZ Z (WO_evF tys Z Z (AA Z) (d := .t _) Z (nZ Z (AG tys Z Z (AA Z) Z Z Z (nZ Z (sT Z (nZ Z (eZ Z (nB (sQ ?_)))))))))))))));refine A4 (α := Bool) [2, 3, 4, 5, 6, 7, 8, 9, 11] [2, 6, 11, 17] (fun x => [(35, .t (.bool x))]) (fun x => []) (fun x => x = (Ae (enP cd cu0) (enI cd cu0) (enW cd cu0) (enV cd cu0) && decide (pickV cd 2 cu0 = 0))) ?_ (fun bb hx => ?_)
 ·
  refine rG (eK 2 Z ?_);refine gB (fun h1 => ?_) (fun h1 => ?_)
  ·
   simp only [HS] at h1;refine xZ Z (kZ [2,3,4,5,6,7,8,9,11,32,34] Z (eZ Z (oN (jQ _ ?_))))
   first
   | (refine with1 (p := Ae (enP cd cu0) (enI cd cu0) (enW cd cu0) (enV cd cu0) = false) ?_ (fun e => ?_); (focus first | assumption | (simp_all; done)); rw [e]; rfl)
  refine eZ Z (gY Z (AB (Le.close (u := 22) 1022 Z Z Z) (nZ Z ?_)));refine cP [22] (hm := (Ck cd 2 cu0 bw pv hcd (by decide) (by decide))) (k := ?_);refine nZ Z (AB (Le.open (u := 22) 1022 Z Z Z Z) (nZ Z (kZ [2,3,4,5,6,7,8,9,11,32,34] Z (eZ Z (oN (jQ _ ?_))))))
  first
  | (refine with1 (p := Ae (enP cd cu0) (enI cd cu0) (enW cd cu0) (enV cd cu0) = true) ?_ (fun e => ?_); (focus first | assumption | (simp_all; done)); rw [e]; simp; done)
 have hbb := hx
 refine tN ?_;refine AC Z (fun h1 => ?_) (fun h1 => ?_)
 ·
  refine sQ ?_
  have hb1 : (Ae (enP cd cu0) (enI cd cu0) (enW cd cu0) (enV cd cu0) && decide (pickV cd 2 cu0 = 0)) = true := hbb.symm.trans (by assumption)
  refine kY [2,3,4,5,6,7,8,9,11] Z (rG (eZ Z ?_))
  try refine AB (Le.freeze (u := 36) rfl) ?_
  refine nZ Z (eK 3 Z (sT Z (nZ Z (eK 3 Z (nB (AN (Le.gather (u := 3) (id := 17) Z Z (by first | omega | (simp; done) | (simp; omega))) ?_))))));refine nY Z (rT (tR (eR ?_)))
  ·rw [Sh (by simp)]
   unfold ilP;rw [if_pos hb1];rfl
 refine AD (tN (sQ ?_))
 have hb1 : ¬ (Ae (enP cd cu0) (enI cd cu0) (enW cd cu0) (enV cd cu0) && decide (pickV cd 2 cu0 = 0)) = true := by rw [← hbb]; simp_all
 refine kY [2,3,4,5,6,7,8,9] Z (rG (eZ Z ?_))
 try refine AB (Le.freeze (u := 40) rfl) ?_
 refine nZ Z (eK 3 Z (sT Z (nZ Z (eK 3 Z (nB (AN (Le.gather (u := 3) (id := 17) Z Z (by first | omega | (simp; done) | (simp; omega))) ?_))))));refine nY Z (rT (eR ?_))
 ·rw [Sh (by simp)]
  unfold ilP;rw [if_neg hb1];rfl
/-! ### What a program made less is -/
section
variable {p q : Prog} {inp : List Int} {code value : Int}
theorem My (h : Bb p inp code value = some q) : ER q inp code value = true := by
 obtain ⟨fn, _, h1, h2⟩ := Cd h
 obtain ⟨k, _, h3, h4⟩ := Cd h2
 unfold Nn at h4;split at h4
 ·cases h4; assumption
 ·cases h4
theorem IY : ∀ (n : Nat) (p : Prog), manyP p = n → AZ p = true → p.ok 1048576 → ER p inp code value = true →
  AZ (BN p inp code value) = true ∧ (BN p inp code value).ok 1048576 ∧ ER (BN p inp code value) inp code value = true ∧ Bb (BN p inp code value) inp code value = none ∧ manyP (BN p inp code value) ≤ manyP p := by
 intro n
 induction n using Nat.strongRecOn with
 | ind n ih =>
  intro p hn hg hp he
  cases hl : Bb p inp code value with
  | none => rw [F1 hl]; exact ⟨hg, hp, he, hl, S3 _⟩
  | some q =>
   obtain ⟨g1, g2, g3⟩ := Dk hg hp hl
   rw [Dd hg hp hl]
   obtain ⟨a, b, c, d, e⟩ := ih (manyP q) (by omega) q rfl g1 g2 (My hl)
   exact ⟨a, b, c, d, by omega⟩
theorem OV (l : List Func) : (((l.map fun f => f.stmts.length).sum : Nat) : Int) = Pm l := by
 induction l with
 | nil => rfl
 | cons f l ih =>
  unfold Pm at ih ⊢;simp only [S8, List.sum_cons];omega
theorem Gb (hg : AZ p = true) : GP p = manyP p := by rw [GP, if_pos hg]; exact (OV p.funcs).symm
theorem O4 (h : A3 p inp code value = true) (hg : AZ q = true) : A3 q inp code value = true := by
 unfold A3 Be at h ⊢;rw [Si, Si] at h ⊢;exact ⟨⟨hg, h.1.2⟩, h.2⟩
theorem Mj (hp : p.ok 1048576) (h : Ae p inp code value = true) :
  A3 (JW p inp code value) inp code value = true ∧ ER (JW p inp code value) inp code value = true ∧ Ae (JW p inp code value) inp code value = true ∧ Bb (JW p inp code value) inp code value = none ∧ AZ p = true ∧ AZ (JW p inp code value) = true ∧ GP (JW p inp code value) ≤ GP p := by
 have h2 := h
 unfold Ae at h2;rw [Si] at h2
 have hg := CY h2.1
 obtain ⟨a, b, c, d, e⟩ := IY (inp := inp) (code := code) (value := value) _ p rfl hg hp h2.2
 have hs : JW p inp code value = BN p inp code value := by rw [JW, if_pos h]
 rw [hs]
 have hk := O4 h2.1 a
 refine ⟨hk, c, by rw [Ae, hk, c]; rfl, d, hg, a, ?_⟩;rw [Gb hg, Gb a];omega
theorem LT {fn s : Int} (h : CN p fn s = true) : AZ (HT p fn s) = true ∧ GP (HT p fn s) < GP p := by
 have h2 := h
 unfold CN at h2;simp only [Si, decide_eq_true_eq] at h2
 obtain ⟨hg, hf, hs⟩ := h2
 have hd := EC hg hf.1 hf.2 hs.1 hs.2
 have hm := J3 hg hf.1 hf.2 hs.1 hs.2
 rw [HT, if_pos h];refine ⟨hd, ?_⟩;rw [Gb hg, Gb hd];omega
end
open Go.Eng
theorem O5 {cd : List Int} (hcd : CO cd) : (enP cd cu0).ok 1048576 := I7 hcd (by decide) (by decide)
theorem ilP_ok {cd : List Int} (hcd : CO cd) : (ilP cd).ok 1048576 := by
 unfold ilP;split
 ·exact ON (O5 hcd) _ _ _
 ·exact O5 hcd
theorem Qo {p : Prog} (hp : p.ok 1048576) (fn s : Int) : (HT p fn s).ok 1048576 := by
 unfold HT;split
 ·exact E2 hp fn s
 ·exact ⟨⟨by simp, by simp⟩, trivial⟩
theorem Il (a b : List Int) (ha : a.length ≤ 9223372036854775807) (hb : b.length ≤ 9223372036854775807) (hab : ∀ x, x ∈ a → 0 ≤ x ∧ x ≤ 255) (hbb : ∀ x, x ∈ b → 0 ≤ x ∧ x ≤ 255) : Fun Tryz.prog 4 [.t (T.bytes a), .t (T.bytes b)] (Av [.t (.bool true)]) := by
 refine Fun.begin tys Tryz.func4 Z Z (N := 259) [(0, .t (T.bytes a)), (1, .t (T.bytes b))] Z Z (fun w0 G F0 => ?_);refine sG (eZ Z (nB (sQ (sG (eK 2 Z (AL ?_))))));refine ⟨_, SQ a b ha hb, rfl, ?_⟩;refine nB ?_;refine AC Z (fun h1 => ?_) (fun h1 => ?_)
 ·
  refine sG (eZ Z (nB (rT (tR (eR ?_)))))
  ·rfl
 refine AD (tN (sQ ?_))
 have hca : CO a := ⟨by simp_all; omega, hab⟩
 have hcb : CO b := ⟨by simp_all; omega, hbb⟩
 have hpo := O5 hca
 have hil : (enI a cu0).length ≤ 1048576 := by have := (Qn (c := cu0) hca (by decide)).2.2.2.2.1; omega
 have hsh := ON hpo (enI a cu0) (enW a cu0) (enV a cu0)
 have hqo := ilP_ok hcb
 have hjl : (enI b cu0).length ≤ 1048576 := by have := (Qn (c := cu0) hcb (by decide)).2.2.2.2.1; omega
 have hro : (pR b).ok 1048576 := I7 hcb (by decide) (by decide)
 have hdo := Qo hro (fnV b) (pickV b 8 (fnU b))
 refine rG (eZ Z (Cb Z Z (AA Z) Z Z Z Z Z (LU a hca) Z (Aw Z Z (AA Z) (.inr Z) Z Z (AW Z Z (AA Z) Z Z Z Z ?_))))
 first | refine AB (Le.adoptE (u := 52) 52 rfl (by first | exact Ec | exact rfl)) ?_ | skip
 refine nZ Z (nZ Z (AW Z Z (AA Z) Z Z Z Z (AB (Le.freeze (u := 53) Z) (nZ Z (kZ [1,4,49,52,53] Z (WO_evF tys Z Z (AA Z) (d := .t _) Z (nZ Z (WO_evF tys Z Z (AA Z) (d := .t _) Z (nZ Z (AG tys Z Z (AA Z) Z Z Z (nZ Z (sT Z (nZ Z (eK 3 Z (nB ?_)))))))))))))));refine sQ (kY [1,4,5,6,7,8] Z (rG (eZ Z ?_)))
 try refine AB (Le.freeze (u := 57) rfl) ?_
 refine nZ Z (eK 3 Z (AL ?_));refine ⟨_, LN _ _ _ _ hpo hil, rfl, ?_⟩;refine Aw Z Z (AA Z) (.inr Z) Z Z (nZ Z (AW Z Z (AA Z) Z Z Z Z (AB (Le.freeze (u := 62) Z) (nZ Z (WO_evF tys Z Z (AA Z) (d := .t _) Z (nZ Z (AG tys Z Z (AA Z) Z Z Z (nZ Z (kZ [1,4,5,6,7,8,9,62,63] Z (sT Z (nZ Z (eZ Z (nA (eZ Z ?_))))))))))))))
 try refine AB (Le.freeze (u := 65) rfl) ?_
 refine nZ Z (eK 3 Z (AL ?_));refine ⟨_, Gw _ _ _ _ hpo hil, rfl, ?_⟩;refine Aw Z Z (AA Z) (.inr Z) Z Z (nZ Z (AW Z Z (AA Z) Z Z Z Z (AB (Le.freeze (u := 70) Z) (nZ Z (kZ [1,4,5,6,7,8,9,10,64,70] Z (WO_evF tys Z Z (AA Z) (d := .t _) Z (nZ Z (AG tys Z Z (AA Z) Z Z Z (nZ Z (sT Z (nZ Z (eZ Z (nB (sQ (sG ?_)))))))))))))));refine eK 3 Z (AB (Le.known (t := 74) false Z (by simp)) ?_);refine xK 2 Z ?_
 try refine AB (Le.freeze (u := 76) rfl) ?_
 refine nZ Z (kZ [1,4,5,6,7,8,9,10,11,75,76] Z (xZ Z ?_))
 try refine AB (Le.freeze (u := 77) rfl) ?_
 refine nZ Z (gY Z (AL ?_));refine ⟨_, F3 _ hsh, rfl, ?_⟩;refine xZ Z (AB (Le.known (t := 79) false Z (by simp)) ?_);refine eZ Z (nB (A5 Z (AD (tN (sQ (sG (eZ Z (nB ?_))))))));refine A4 (α := Bool) [1] [] (fun x => [(4, .t (.bool x))]) (fun x => []) (fun x => x = false) ?_ (fun u0 hx => ?_)
 ·
  refine AC Z (fun h2 => ?_) (fun h2 => ?_)
  ·
   refine sQ ?_
   have hL : Ae (enP a cu0) (enI a cu0) (enW a cu0) (enV a cu0) = true := by assumption
   obtain ⟨f1, f2, f3, f4, f5, f6, f7⟩ := Mj hpo hL
   refine rG (eZ Z ?_)
   try refine AB (Le.freeze (u := 83) rfl) ?_
   refine nZ Z (eK 3 Z (kZ [1,4,5,6,7,8,9,83,84,85,86] Z (AL ?_)));refine ⟨_, ES _ _ _ _ hsh hil, rfl, ?_⟩;refine eZ Z (WO_evF tys Z Z (AA Z) (d := .t _) Z (nZ Z (WO_evF tys Z Z (AA Z) (d := .t _) Z (nZ Z (eK 2 Z (nA (eZ Z ?_)))))))
   try refine AB (Le.freeze (u := 91) rfl) ?_
   refine nZ Z (eK 2 Z (kZ [1,4,5,8,9,13,14,91,92,93] Z (eZ Z (AL ?_))));refine ⟨_, E9 _ _ _ _ hsh hil, rfl, ?_⟩;refine eZ Z (WO_evF tys Z Z (AA Z) (d := .t _) Z (nZ Z (WO_evF tys Z Z (AA Z) (d := .t _) Z (nZ Z (eK 2 Z (nB (sQ (kY [1,4,5,9,13,14,15,16] Z (rG (eZ Z ?_))))))))))
   try refine AB (Le.freeze (u := 99) rfl) ?_
   refine nZ Z (AL ?_);refine ⟨_, Cz _ hpo, rfl, ?_⟩;refine eZ Z (WO_evF tys Z Z (AA Z) (d := .t _) Z (nZ Z (WO_evF tys Z Z (AA Z) (d := .t _) Z (nZ Z (eK 2 Z (nB (sQ (kY [1,4,9,13,14,15,16,17,18] Z (rG (eZ Z ?_))))))))))
   try refine AB (Le.freeze (u := 104) rfl) ?_
   refine nZ Z (AL ?_);refine ⟨_, Cz _ hsh, rfl, ?_⟩;refine eZ Z (WO_evF tys Z Z (AA Z) (d := .t _) Z (nZ Z (WO_evF tys Z Z (AA Z) (d := .t _) Z (nZ Z (eK 2 Z (nB (sQ (kY [1,4,13,14,15,16,17,18,19,20] Z (rG (eK 2 Z (AB (Le.known (t := 109) false Z (by simp [f1])) ?_)))))))))));refine xK 3 Z (AB (Le.known (t := 112) false Z (by simp [f1, f2])) ?_);refine xK 4 Z (AB (Le.known (t := 116) false Z (by simp [f3])) ?_);refine kZ [1,4,15,17,18,19,20,114,116] Z (xK 4 Z (AB (Le.known (t := 120) false Z (by simp [f3, f4])) ?_));refine xK 4 Z (AB (Le.known (t := 124) false Z (by simp [f5])) ?_);refine eZ Z (kZ [1,4,17,19,20,125] Z (xK 3 Z (AB (Le.known (t := 128) false Z (by simp [f6])) ?_)));refine xK 5 Z (AB (Le.known (t := 133) false Z (by simp; omega)) ?_);refine eZ Z (kZ [1,4,134] Z (nB (A5 Z (AD (jQ _ ?_)))));dsimp only
   all_goals rfl
  refine AD (jQ _ ?_);dsimp only
  all_goals rfl
 have hu0 := hx
 refine tN (sQ (kY [1,4] Z (rG (eZ Z (Cb Z Z (AA Z) Z Z Z Z Z (Iy b hcb) Z (Aw Z Z (AA Z) (.inr Z) Z Z (AW Z Z (AA Z) Z Z Z Z ?_)))))))
 first | refine AB (Le.adoptE (u := 138) 138 rfl (by first | exact Ec | exact rfl)) ?_ | skip
 refine nZ Z (nZ Z (AW Z Z (AA Z) Z Z Z Z (AB (Le.freeze (u := 139) Z) (nZ Z (WO_evF tys Z Z (AA Z) (d := .t _) Z (nZ Z (WO_evF tys Z Z (AA Z) (d := .t _) Z (nZ Z (AG tys Z Z (AA Z) Z Z Z (nZ Z (sT Z (nZ Z (kZ [1,4,21,139,140,141] Z (eK 3 Z (nA ?_)))))))))))))));refine eZ Z ?_
 try refine AB (Le.freeze (u := 143) rfl) ?_
 refine nZ Z (eK 3 Z (AL ?_));refine ⟨_, E9 _ _ _ _ hqo hjl, rfl, ?_⟩;refine eZ Z (kZ [1,4,21,22,23,24,142] Z (WO_evF tys Z Z (AA Z) (d := .t _) Z (nZ Z (WO_evF tys Z Z (AA Z) (d := .t _) Z (nZ Z (eK 2 Z (nA (eZ Z ?_))))))))
 try refine AB (Le.freeze (u := 151) rfl) ?_
 refine nZ Z (eK 3 Z (AL ?_));refine ⟨_, IW _ _ _ _ hqo hjl, rfl, ?_⟩;refine kZ [1,4,21,22,23,24,25,26,155] Z (eZ Z (WO_evF tys Z Z (AA Z) (d := .t _) Z (nZ Z (WO_evF tys Z Z (AA Z) (d := .t _) Z (nZ Z (eK 2 Z (nA (eZ Z ?_))))))))
 try refine AB (Le.freeze (u := 159) rfl) ?_
 refine nZ Z (eK 3 Z (kZ [1,4,21,22,23,24,25,26,27,28,159,160,161,162] Z (AL ?_)));refine ⟨_, ES _ _ _ _ hqo hjl, rfl, ?_⟩;refine eZ Z (WO_evF tys Z Z (AA Z) (d := .t _) Z (nZ Z (WO_evF tys Z Z (AA Z) (d := .t _) Z (nZ Z (eK 2 Z (nA (eZ Z ?_)))))))
 try refine AB (Le.freeze (u := 167) rfl) ?_
 refine nZ Z (eK 2 Z (kZ [1,4,24,25,26,27,28,29,30,167,168,169] Z (eZ Z (AL ?_))));refine ⟨_, C6 _ _ _ _ hqo hjl, rfl, ?_⟩;refine eZ Z (WO_evF tys Z Z (AA Z) (d := .t _) Z (nZ Z (WO_evF tys Z Z (AA Z) (d := .t _) Z (nZ Z (eK 2 Z (nB (sQ (kY [1,4,25,26,27,28,29,30,31,32] Z (rG (eZ Z (Cb Z Z (AA Z) Z Z Z Z Z (Ka b hcb) Z (eZ Z (AW Z Z (AA Z) Z Z Z Z ?_)))))))))))))
 first | refine AB (Le.adoptE (u := 177) 177 rfl (by first | exact Ec | exact rfl)) ?_ | skip
 refine nZ Z (WO_evF tys Z Z (AA Z) (d := .t _) Z (nZ Z (WO_evF tys Z Z (AA Z) (d := .t _) Z (nZ Z (AG tys Z Z (AA Z) Z Z Z (nZ Z (sT Z (nZ Z (eZ Z (kZ [4,25,26,27,28,29,30,31,32,33,34,179] Z (eZ Z (nA (eZ Z ?_)))))))))))))
 try refine AB (Le.freeze (u := 181) rfl) ?_
 refine nZ Z (eK 2 Z (AL ?_));refine ⟨_, It _ _ _ hro, rfl, ?_⟩;refine Aw Z Z (AA Z) (.inr Z) Z Z (nZ Z (AW Z Z (AA Z) Z Z Z Z (AB (Le.freeze (u := 185) Z) (nZ Z (WO_evF tys Z Z (AA Z) (d := .t _) Z (nZ Z (AG tys Z Z (AA Z) Z Z Z (nZ Z (kZ [4,25,26,27,28,29,30,31,32,33,34,35,36,185,186] Z (sT Z (nZ Z (eZ Z (nA (eZ Z ?_))))))))))))))
 try refine AB (Le.freeze (u := 188) rfl) ?_
 refine nZ Z (eK 2 Z (AL ?_));refine ⟨_, IX _ _ _ hro, rfl, ?_⟩;refine Aw Z Z (AA Z) (.inr Z) Z Z (nZ Z (AW Z Z (AA Z) Z Z Z Z (AB (Le.freeze (u := 192) Z) (nZ Z (WO_evF tys Z Z (AA Z) (d := .t _) Z (nZ Z (kZ [4,25,26,27,28,29,30,31,32,33,36,37,192,193] Z (AG tys Z Z (AA Z) Z Z Z (nZ Z (sT Z (nZ Z (eZ Z (nA (eZ Z ?_))))))))))))))
 try refine AB (Le.freeze (u := 195) rfl) ?_
 refine nZ Z (AL ?_);refine ⟨_, Cz _ hro, rfl, ?_⟩;refine eZ Z (WO_evF tys Z Z (AA Z) (d := .t _) Z (nZ Z (WO_evF tys Z Z (AA Z) (d := .t _) Z (nZ Z (eZ Z (kZ [4,25,26,27,28,29,30,31,32,33,36,37,38,39,40,198] Z (eZ Z (nA (eZ Z ?_)))))))))
 try refine AB (Le.freeze (u := 200) rfl) ?_
 refine nZ Z (AL ?_);refine ⟨_, JU _ hro, rfl, ?_⟩;refine eZ Z (WO_evF tys Z Z (AA Z) (d := .t _) Z (nZ Z (WO_evF tys Z Z (AA Z) (d := .t _) Z (nZ Z (eK 2 Z (nB (sQ (sQ (kY [4,25,26,27,28,29,30,31,32,36,37,38,39,40,41,42,43] Z (rG (eK 3 Z (AB (Le.known (t := 206) false Z (by simp)) ?_))))))))))));refine xK 4 Z (AB (Le.known (t := 210) false Z (by simp)) ?_);refine eK 2 Z (kZ [4,29,30,31,32,36,37,38,39,40,41,42,43,212] Z (xK 3 Z (AB (Le.known (t := 215) false Z (by simp)) ?_)));refine xK 5 Z (AB (Le.known (t := 220) false Z (by simp)) ?_);refine eZ Z (kZ [4,36,37,38,39,40,41,42,43,221] Z (xK 4 Z (AB (Le.known (t := 225) false Z (by simp)) ?_)));refine xK 3 Z ?_
 try refine AB (Le.freeze (u := 228) rfl) ?_
 refine nZ Z (xZ Z ?_)
 try refine AB (Le.freeze (u := 229) rfl) ?_
 refine nZ Z (gY Z (AL ?_));refine ⟨_, F3 _ hdo, rfl, ?_⟩;refine kZ [4,36,37,40,41,42,43,227,230] Z (xZ Z (AB (Le.known (t := 231) false Z (by simp)) ?_));refine xK 5 Z (AB (Le.known (t := 236) false Z (by simp)) ?_);refine xK 3 Z (kZ [4,36,37,40,42,238,239] Z (xK 2 Z (AB (Le.known (t := 241) false Z (by simp)) ?_)));refine eZ Z (nB (A5 Z (AD (tN (sQ (sG (eZ Z (nB ?_))))))));refine AC Z (fun h2 => ?_) (fun h2 => ?_)
 ·
  refine sQ ?_
  have hD : CN (pR b) (fnV b) (pickV b 8 (fnU b)) = true := by assumption
  obtain ⟨g1, g2⟩ := LT hD
  refine rG (eZ Z ?_)
  try refine AB (Le.freeze (u := 245) rfl) ?_
  refine nZ Z (AL ?_);refine ⟨_, Cz _ hdo, rfl, ?_⟩;refine eZ Z (WO_evF tys Z Z (AA Z) (d := .t _) Z (nZ Z (WO_evF tys Z Z (AA Z) (d := .t _) Z (nZ Z (kZ [4,36,40,247,248] Z (eK 2 Z (nA (eZ Z ?_))))))))
  try refine AB (Le.freeze (u := 249) rfl) ?_
  refine nZ Z (AL ?_);refine ⟨_, KL _ hdo, rfl, ?_⟩;refine eZ Z ?_;refine gB (fun h3 => ?_) (fun h3 => ?_)
  ·
   simp only [HS] at h3;refine xK 4 Z (kZ [4,254,255,256] Z (xK 3 Z (nB (rT (tR (eR ?_))))))
   ·exfalso
    simp_all
    done
  refine eK 3 Z ?_;refine gB (fun h4 => ?_) (fun h4 => ?_)
  ·
   simp only [HS] at h4;refine xZ Z (kZ [4,254,255,256] Z (xK 3 Z (nB (rT (tR (eR ?_))))))
   ·exfalso
    simp_all
    done
  refine xK 2 Z (kZ [4,254,255,256] Z (xK 3 Z (nB (rT (tR (eR ?_))))))
  ·have g3 := (of_eq_true (eq_true g2))
   simp [g1, g2]
   done
 refine AD (tN (sG (eZ Z (nB (rT (eR ?_))))))
 ·rfl
end Go.Proofs.YtddfnpiikkilhaaGreat
