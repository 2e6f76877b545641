/- Walks and laws of the claim. -/
import Derived.Test.YtddfnpiikkilhaaFa
import Derived.Test.YtddfnpiikkilhaaMc
set_option linter.unusedVariables false
set_option linter.unusedSimpArgs false
set_option maxRecDepth 10000
set_option maxHeartbeats 1000000
namespace Go.Proofs.Ytddfnpiikkilhaa
open Go.Eng
open Go.Eng
theorem retB {b b' : Bool} (h : b = b') : [D.t (T.v (Value.bool b))] = [D.t (T.bool b')] := by rw [h]
theorem HI {b b' : Int} (h : b = b') : [D.t (T.v (Value.int .i64 b))] = [D.t (T.int b')] := by rw [h]
def atI (l : List Int) (n : Int) : Int := (l[n.toNat]?).getD 0
theorem Bc {l : List Int} {n : Int} (h0 : 0 ≤ n) (h1 : n < l.length) : atI l n = l[n.toNat]'(by omega) := by
 unfold atI; rw [List.getElem?_eq_getElem (by omega)]; rfl
def LO (ps : List Int) : Prop := ps.length ≤ 5 ∧ ∀ x, x ∈ ps → 0 ≤ x ∧ x ≤ 2
def A8 (ps : List Int) : Bool := decide ((ps.length : Int) ≤ 5) && CS ps 0 2
theorem EW {ps : List Int} (h : A8 ps = true) : LO ps := by
 unfold A8 at h;rw [QR] at h;refine ⟨by have := h.1; simp at this; omega, fun x hx => ?_⟩
 have := h.2
 unfold CS at this;rw [Qd] at this
 simpa using this x hx
theorem JU {ps : List Int} (h : LO ps) (n : Int) : 0 ≤ atI ps n ∧ atI ps n ≤ 2 := by
 unfold atI
 cases hx : ps[n.toNat]? with
 | none => simp
 | some x => simpa using h.2 x (Qz hx)
def knownT (vars m : Int) (t : Tok) : Bool :=
 if t.op = 1 then decide (-2147483648 ≤ t.n ∧ t.n ≤ 2147483647) else if t.op = 2 then decide (0 ≤ t.n ∧ t.n < vars) else if t.op = 11 then decide (0 ≤ t.n ∧ t.n < m) else decide (3 ≤ t.op ∧ t.op ≤ 10) && decide (t.n = 0)
def Ak (ps : List Int) (t : Tok) : Int := if 3 ≤ t.op ∧ t.op ≤ 8 then 2 else if t.op = 11 then atI ps t.n else 0
theorem Ci {ps : List Int} (h : LO ps) (t : Tok) : 0 ≤ Ak ps t ∧ Ak ps t ≤ 2 := by
 have := JU h t.n
 unfold Ak; split <;> (try split) <;> omega
theorem JJ (n : Int) : Fun Try.prog 128 [.t (.int n)] (Aw [.t (.bool (decide (-2147483648 ≤ n ∧ n ≤ 2147483647)))]) := by
 refine Fun.begin tys Try.func128 Z Z (N := 5) [(0, .t (.int n))] Z Z (fun w0 G F0 => ?_);refine sG (eZ Z (nA (eZ Z (AI ?_))));refine ⟨_, Au _ _ _, rfl, ?_⟩;refine eZ Z (nB (rT (eR ?_)))
 ·rfl
def Jf (t : Tok) : Bool := if t.op = 1 then decide (-2147483648 ≤ t.n ∧ t.n ≤ 2147483647) else if t.op = 2 ∨ t.op = 11 then decide (0 ≤ t.n ∧ t.n ≤ 99) else decide (3 ≤ t.op ∧ t.op ≤ 10) && decide (t.n = 0)
theorem JH (t : Tok) : Fun Try.prog 127 [.t t.tt] (Aw [.t (.bool (Jf t))]) := by
 refine Fun.begin tys Try.func127 Z Z (N := 24) [(0, .t t.tt)] Z Z (fun w0 G F0 => ?_);refine sG (AU Z Z (AA Z) Z Z (nZ Z (eZ Z (nB (sQ (sG (eK 2 Z (nB (AD (sG (eK 2 Z (nB ?_))))))))))));refine AB Z (fun h1 => ?_) (fun h1 => ?_)
 ·
  simp only [HS] at h1;refine sG (eK 2 Z (AI ?_));refine ⟨_, JJ _, rfl, ?_⟩;refine kZ [1,2,9] Z (eZ Z (nB (rT (bR (tR (eR ?_))))))
  ·exact retB (by grind [Jf])
 simp only [HS] at h1;refine sQ (sG (eK 2 Z (nB ?_)));refine AB Z (fun h2 => ?_) (fun h2 => ?_)
 ·
  simp only [HS] at h2;refine AC (tN ?_);refine AB Z (fun h3 => ?_) (fun h3 => ?_)
  ·
   simp only [HS] at h3;refine sQ (kY [1,2] Z (rG (eK 2 Z (AI ?_))));refine ⟨_, Au _ _ _, rfl, ?_⟩;refine eZ Z (nB (rT (bR (tR (eR ?_)))))
   ·exact retB (by grind [Jf])
  simp only [HS] at h3;refine AC (bN (tN (sQ (kY [1,2] Z (rG (eK 2 Z (AI ?_)))))));refine ⟨_, Au _ _ _, rfl, ?_⟩;refine eZ Z ?_;refine gB (fun h4 => ?_) (fun h4 => ?_)
  ·
   simp only [HS] at h4;refine xK 4 Z (nB (rT (eR ?_)))
   ·exact retB (by grind [Jf])
  simp only [HS] at h4;refine xK 5 Z (kZ [2] Z (nB (rT (eR ?_))))
  ·exact retB (by grind [Jf])
 simp only [HS] at h2;refine kY [1,2,4,10] Z (rG (eK 2 Z (nB ?_)));refine AB Z (fun h3 => ?_) (fun h3 => ?_)
 ·
  simp only [HS] at h3;refine sG (eK 2 Z (AI ?_));refine ⟨_, Au _ _ _, rfl, ?_⟩;refine eZ Z (nB (rT (bR (tR (eR ?_)))))
  ·exact retB (by grind [Jf])
 simp only [HS] at h3;refine AC (bN (tN (sG (eK 2 Z (AI ?_)))));refine ⟨_, Au _ _ _, rfl, ?_⟩;refine eZ Z ?_;refine gB (fun h4 => ?_) (fun h4 => ?_)
 ·
  simp only [HS] at h4;refine xK 3 Z (kZ [2,23] Z (eZ Z (nB (rT (eR ?_)))))
  ·exact retB (by grind [Jf])
 simp only [HS] at h4;refine xK 3 Z (kZ [2,19,22] Z (eK 2 Z (nB (rT (eR ?_)))))
 ·exact retB (by grind [Jf])
theorem JI (t : Tok) (vars : Int) (ps : List Int) (hv : vars ≤ 100) (hp : ps.length ≤ 100) : Fun Try.prog 123 [.t t.tt, .t (.int vars), .t (T.ints ps)] (Aw [.t (.bool (knownT vars ps.length t))]) := by
 refine Fun.begin tys Try.func123 Z Z (N := 32) [(0, .t t.tt), (1, .t (.int vars)), (2, .t (T.ints ps))] Z Z (fun w0 G F0 => ?_);refine sG (AU Z Z (AA Z) Z Z (nZ Z (eZ Z (nA (eZ Z ?_)))))
 try refine WO_le (Le.freeze (u := 7) rfl) ?_
 refine nZ Z (AI ?_);refine ⟨_, JH _, rfl, ?_⟩;refine eZ Z ?_;refine gB (fun h1 => ?_) (fun h1 => ?_)
 ·
  simp only [HS] at h1;refine xK 4 Z (kZ [1,2,3,6,9,13,14] Z (xK 9 Z (kZ [2,3,6,20,23] Z (xK 9 Z (kZ [6] Z (nB (rT (eR ?_))))))))
  ·exact retB (by grind [Jf, knownT])
 refine xK 4 Z (kZ [1,2,3,6,9,13] Z ?_);refine gB (fun h2 => ?_) (fun h2 => ?_)
 ·
  simp only [HS] at h2;refine xK 9 Z (kZ [2,3,6,20,23] Z (xZ Z ?_));refine gB (fun h3 => ?_) (fun h3 => ?_)
  ·
   simp only [HS] at h3;refine xK 7 Z (nB (rT (eR ?_)))
   ·exact retB (by grind [Jf, knownT])
  simp only [HS] at h3;refine xK 3 Z (gY Z (evE ?_));refine xK 4 Z (kZ [6] Z (nB (rT (eR ?_))))
  ·exact retB (by grind [Jf, knownT])
 simp only [HS] at h2;refine xK 7 Z ?_;refine gB (fun h3 => ?_) (fun h3 => ?_)
 ·
  simp only [HS] at h3;refine xK 2 Z (kZ [2,3,6,20,23] Z (xK 9 Z (kZ [6] Z (nB (rT (eR ?_))))))
  ·exact retB (by grind [Jf, knownT])
 simp only [HS] at h3;refine xK 2 Z (kZ [2,3,6,20,22] Z (xK 2 Z ?_));refine gB (fun h4 => ?_) (fun h4 => ?_)
 ·
  simp only [HS] at h4;refine xK 7 Z (kZ [6] Z (nB (rT (eR ?_))))
  ·exact retB (by grind [Jf, knownT])
 simp only [HS] at h4;refine xK 3 Z (gY Z (evE ?_));refine xK 3 Z (kZ [6,31] Z (eZ Z (nB (rT (eR ?_)))))
 ·exact retB (by grind [Jf, knownT])
theorem Fb (t : Tok) (ps : List Int) (ht : t.op = 11 → 0 ≤ t.n ∧ t.n < ps.length) : Fun Try.prog 124 [.t t.tt, .t (T.ints ps)] (Aw [.t (.int (Ak ps t))]) := by
 refine Fun.begin tys Try.func124 Z Z (N := 18) [(0, .t t.tt), (1, .t (T.ints ps))] Z Z (fun w0 G F0 => ?_);refine sG (AU Z Z (AA Z) Z Z (nZ Z (eZ Z (nB (sQ (AD (sG (eK 2 Z (AI ?_)))))))));refine ⟨_, Au _ _ _, rfl, ?_⟩;refine eZ Z (nB ?_);refine AB Z (fun h1 => ?_) (fun h1 => ?_)
 ·
  simp only [HS] at h1;refine sG (eZ Z (nB (rT (bR (tR (eR ?_))))))
  ·exact HI (by grind [Ak, Bc])
 simp only [HS] at h1;refine sG (eK 3 Z (kZ [1,2,4,12] Z (eZ Z (nB ?_))));refine AB Z (fun h2 => ?_) (fun h2 => ?_)
 ·
  simp only [HS] at h2;refine sG (eK 3 Z ?_);refine iY (k := ?_);refine eK 2 Z (nB (rT (bR (tR (eR ?_)))))
  ·exact HI (by grind [Ak, Bc])
 simp only [HS] at h2;refine AC (bN (tN (sG (eZ Z (nB (rT (eR ?_)))))))
 ·exact HI (by grind [Ak, Bc])
theorem Ks (a b : Int) : Fun Try.prog 125 [.t (.int a), .t (.int b)] (Aw [.t (.int (max a b))]) := by
 refine Fun.begin tys Try.func125 Z Z (N := 10) [(0, .t (.int a)), (1, .t (.int b))] Z Z (fun w0 G F0 => ?_);refine sG (eZ Z (nB (sQ (sG (eK 3 Z (nB ?_))))));refine AB Z (fun h1 => ?_) (fun h1 => ?_)
 ·
  simp only [HS] at h1;refine sG (eK 2 Z (nB (rT (tR (eR ?_)))))
  ·exact HI (by grind)
 simp only [HS] at h1;refine AC (tN (sG (eK 2 Z (nB (rT (eR ?_))))))
 ·exact HI (by grind)
def Cw (vars : Int) (ps : List Int) : List Tok → Int → Int → Option (Int × Int)
 | [], h, m => some (h, m)
 | t :: l, h, m => if knownT vars ps.length t && decide (Ak ps t ≤ h) then Cw vars ps l (h + (1 - Ak ps t)) (max m (h + (1 - Ak ps t))) else none
theorem DU {vars : Int} {ps : List Int} {l : List Tok} {h m k : Int} (h0 : 0 ≤ k) (h1 : k < l.length) : Cw vars ps (l.drop k.toNat) h m = if knownT vars ps.length (l[k.toNat]'(by omega)) && decide (Ak ps (l[k.toNat]'(by omega)) ≤ h) then Cw vars ps (l.drop (k + 1).toNat) (h + (1 - Ak ps (l[k.toNat]'(by omega)))) (max m (h + (1 - Ak ps (l[k.toNat]'(by omega))))) else none := by
 rw [Cc h0 h1, Cw]
def IM (vars : Int) (ps : List Int) (l : List Tok) : Int := match Cw vars ps l 0 0 with
 | some (h, m) => if h = 1 ∧ (l.length : Int) ≤ 12 then m else -1
 | none => -1
def IP (vars : Int) (ps : List Int) (l : List Tok) : Int := if (1 : Int) ≤ l.length ∧ (l.length : Int) ≤ 12 then (match Cw vars ps l 0 0 with
 | some (h, m) => if h = 1 then m else 0
 | none => 0) else 0
theorem CY {vars m : Int} {t : Tok} (h : knownT vars m t = true) : t.op = 11 → 0 ≤ t.n ∧ t.n < m := by
 intro ho; unfold knownT at h; simp [ho] at h; omega
theorem Kr (l : List Tok) (vars : Int) (ps : List Int) (hv : vars ≤ 100) (hp : LO ps) (hl : l.length ≤ 1048576) : Fun Try.prog 120 [.t (T.Toks l), .t (.int vars), .t (T.ints ps)] (Aw [.t (.int (IM vars ps l))]) := by
 have hp1 := hp.1
 refine Fun.begin tys Try.func120 Z Z (N := 47) [(0, .t (T.Toks l)), (1, .t (.int vars)), (2, .t (T.ints ps))] Z Z (fun w0 G F0 => ?_);refine sG (eZ Z (nA (eK 2 Z (nB (sQ (sG (eZ Z (evE ?_))))))));refine eZ Z (nB (AD ?_));refine lK (α := Int × Int × Int) [0, 1, 2, 11, 12] [] (fun x => [(13, .t (.int (x.1))), (7, .t (.int (x.2.1))), (8, .t (.int (x.2.2)))]) (fun x => []) (fun x => 0 ≤ (x.1) ∧ (x.1) ≤ l.length ∧ 0 ≤ (x.2.1) ∧ (x.2.1) ≤ (x.1) ∧ Cw vars ps l 0 0 = Cw vars ps (l.drop (x.1).toNat) (x.2.1) (x.2.2)) (fun x => Int.toNat (l.length - (x.1))) (0, 0, 0) ?_ (fun x hx => ?_)
 ·exact ⟨by omega, by omega, RR 0, RR 0, rfl⟩
 obtain ⟨k, h, m⟩ := x
 obtain ⟨hk0, hk1, hh0, hh1, he⟩ := hx
 dsimp only at hk0 hk1 hh0 hh1 he ⊢;refine nY Z (sG (eZ Z (nB (sQ ?_))));refine AB Z (fun h1 => ?_) (fun h1 => ?_)
 ·
  simp only [HS] at h1;refine AC (tN (sQ (AD (sG ?_))));refine iY (k := ?_);refine eZ Z ?_
  try refine WO_le (Le.freeze (u := 16) rfl) ?_
  refine nZ Z (AJ tys Z Z (AA Z) Z Z Z (nZ Z (sT Z (nZ Z (nB (sQ (sG (eZ Z ?_))))))))
  try refine WO_le (Le.freeze (u := 17) rfl) ?_
  refine nZ Z (eK 2 Z (AI ?_));refine ⟨_, JI _ _ _ hv (by omega), rfl, ?_⟩;refine kZ [0,1,2,7,8,10,11,12,13,14,15,16,17,18,19,20] Z (eK 2 Z ?_);refine gB (fun h2 => ?_) (fun h2 => ?_)
  ·
   simp only [HS] at h2;refine xK 5 Z (nB (Ap Z (sQ (kY [0,1,2,7,8,10,11,12,13,14,15,16,17,18,19,20,21,22,23,24,25,26,27,28] Z (rG (eZ Z (nB (rT (tR (bR (tR (AN (bR (tR (eR ?_)))))))))))))))
   ·exact HI (by rw [IM, he, DU hk0 h1, if_neg (by simp [*]; done)])
  simp only [HS] at h2;refine xK 2 Z ?_
  try refine WO_le (Le.freeze (u := 24) rfl) ?_
  refine nZ Z (xZ Z (gY Z (AI ?_)));refine ⟨_, Fb _ _ (CY h2), rfl, ?_⟩;refine xK 2 Z (nB ?_);refine AB Z (fun h3 => ?_) (fun h3 => ?_)
  ·
   simp only [HS] at h3;refine sQ (kY [0,1,2,7,8,10,11,12,13,14,15,16,17,18,19,20,21,22,23,24,25,26,27,28] Z (rG (eZ Z (nB (rT (tR (bR (tR (AN (bR (tR (eR ?_))))))))))))
   ·exact HI (by rw [IM, he, DU hk0 h1, if_neg (by simp [*]; done)])
  simp only [HS] at h3;refine AC (tN (sQ (kY [0,1,2,7,8,10,11,12,13,14,15,16,17,18,19,20,21,22,23,24,25,26,27,28] Z (rG (eK 2 Z ?_)))))
  try refine WO_le (Le.freeze (u := 30) rfl) ?_
  refine nZ Z (eZ Z (AI ?_));refine ⟨_, Fb _ _ (CY h2), rfl, ?_⟩
  have q := Ci hp (l[k.toNat]'(by omega))
  refine evI ?_;refine evI ?_;refine eZ Z (nB (kY [0,1,2,7,8,10,11,12,13,14,15,16,17,18,19,20,21,22,23,24,25,26,27,28,29,30,31,32,33,34] Z (rG (eK 2 Z (AI ?_)))));refine ⟨_, Ks _ _, rfl, ?_⟩;refine eZ Z (oN (bN (tN (rG (evI ?_)))));refine eZ Z (oN ?_);refine lQ (_, _, _) ?_ ?_
  ·dsimp only
   have q := Ci hp (l[k.toNat]'(by omega)); exact ⟨by omega, by omega, by omega, by omega, by rw [he, DU hk0 h1, if_pos (by simp [h2]; omega)]⟩
  ·(show Int.toNat _ < Int.toNat _); omega
 simp only [HS] at h1;refine AP (tE (AM (AK (tN (sQ (sG (eK 3 Z ?_)))))));refine gB (fun h2 => ?_) (fun h2 => ?_)
 ·
  simp only [HS] at h2;refine xK 3 Z (nB (Ap Z (sQ (kY [8] Z (rG (eZ Z (nB (rT (tR (eR ?_))))))))))
  ·exact HI (by rw [IM, he, Av h1]; simp only [Cw]; grind)
 simp only [HS] at h2;refine eZ Z (gY Z (evE ?_));refine xK 2 Z (nB ?_);refine AB Z (fun h3 => ?_) (fun h3 => ?_)
 ·
  simp only [HS] at h3;refine sQ (kY [8] Z (rG (eZ Z (nB (rT (tR (eR ?_)))))))
  ·exact HI (by rw [IM, he, Av h1]; simp only [Cw]; grind)
 simp only [HS] at h3;refine AC (tN (sQ (kY [8] Z (rG (eK 2 Z (nB (rT (eR ?_))))))))
 ·exact HI (by rw [IM, he, Av h1]; simp only [Cw]; grind)
def C0 (vars : Int) (ps : List Int) (l : List Tok) : Bool := match Cw vars ps l 0 0 with
 | some (h, m) => decide (h = 1) && decide ((l.length : Int) ≤ 12)
 | none => false
theorem FN {vars : Int} {ps : List Int} : ∀ {l : List Tok} {h m h' m' : Int}, Cw vars ps l h m = some (h', m') → (l = [] ∧ h' = h) ∨ h' ≤ m'
 | [], h, m, h', m', e => by rw [Cw] at e; cases e; exact .inl ⟨rfl, rfl⟩
 | t :: l, h, m, h', m', e => by
  rw [Cw] at e;split at e
  ·have := FN e
   rcases this with ⟨rfl, rfl⟩ | h
   ·rw [Cw] at e
    cases e;exact .inr (by omega)
   ·exact .inr h
  ·cases e
theorem MY (vars : Int) (ps : List Int) (l : List Tok) : (0 < IM vars ps l) = (C0 vars ps l = true) := by
 unfold IM C0
 cases hr : Cw vars ps l 0 0 with
 | none => simp
 | some x =>
  obtain ⟨h, m⟩ := x
  have := FN hr
  dsimp only;split
  ·rename_i h1
   simp [h1]
   rcases this with ⟨_, h2⟩ | h2 <;> omega
  ·rename_i h1
   simp
   omega
theorem BA (vars : Int) (ps : List Int) (l : List Tok) : (0 < IP vars ps l) = (C0 vars ps l = true) := by
 unfold IP C0
 cases hr : Cw vars ps l 0 0 with
 | none => simp
 | some x =>
  obtain ⟨h, m⟩ := x
  have := FN hr
  dsimp only
  by_cases hl : l = []
  ·subst hl
   rw [Cw] at hr;cases hr
   simp
  ·have h0 : 0 < l.length := List.length_pos_iff.2 hl
   simp only [QR, decide_eq_true_eq]
   have h2 := this.resolve_left fun h => hl h.1
   split
   ·split <;> simp <;> omega
   ·simp; omega
theorem El (ps : List Int) (hp : ps.length ≤ 1048576) : Fun Try.prog 78 [.t (T.ints ps)] (Aw [.t (.bool (A8 ps))]) := by
 refine Fun.begin tys Try.func78 Z Z (N := 10) [(0, .t (T.ints ps))] Z Z (fun w0 G F0 => ?_);refine sG (eZ Z (nA (eZ Z (evE ?_))));refine eK 2 Z ?_;refine gB (fun h1 => ?_) (fun h1 => ?_)
 ·
  simp only [HS] at h1;refine xK 3 Z (nB (rT (eR ?_)))
  ·exact retB (by grind [A8])
 simp only [HS] at h1;refine eZ Z (gY Z (AI ?_));refine ⟨_, IH _ _ _ (by omega), rfl, ?_⟩;refine eK 2 Z (kZ [2] Z (nB (rT (eR ?_))))
 ·exact retB (by grind [A8])
theorem IQ (l : List Tok) (vars : Int) (ps : List Int) (hv : 0 ≤ vars ∧ vars ≤ 6) (hp : LO ps) (hpb : A8 ps = true) (hl : l.length ≤ 1048576) : Fun Try.prog 116 [.t (T.Toks l), .t (.int vars), .t (T.ints ps)] (Aw [.t (.bool (C0 vars ps l))]) := by
 have hp1 := hp.1
 refine Fun.begin tys Try.func116 Z Z (N := 20) [(0, .t (T.Toks l)), (1, .t (.int vars)), (2, .t (T.ints ps))] Z Z (fun w0 G F0 => ?_);refine sG (eZ Z (nA (eZ Z (AI ?_))));refine ⟨_, Au _ _ _, rfl, ?_⟩;refine WO_le (Le.known (t := 8) true Z (by simp; omega)) ?_;refine xK 2 Z (gY Z (AI ?_));refine ⟨_, El _ (by omega), rfl, ?_⟩;refine WO_le (Le.known (t := 11) true Z (hpb)) (xK 3 Z (kZ [1,2,6,13,14] Z (xK 2 Z (gY Z (AI ?_)))));refine ⟨_, Kr _ _ _ (by omega) hp hl, rfl, ?_⟩;refine xK 3 Z (nB (rT (eR ?_)))
 ·exact retB (by rw [Bool.eq_iff_iff, decide_eq_true_iff]; rw [← MY])
theorem MX (n : Int) : (n = IntKind.i64.wrap (IntKind.i32.wrap n)) ↔ (-2147483648 ≤ n ∧ n ≤ 2147483647) := by
 have h1 : -2147483648 ≤ IntKind.i32.wrap n ∧ IntKind.i32.wrap n ≤ 2147483647 := by
  unfold IntKind.wrap; simp [IntKind.bits, IntKind.signed]; split <;> omega
 rw [EN (by omega) (by omega)]
 constructor
 ·intro h; omega
 ·intro h; unfold IntKind.wrap; simp [IntKind.bits, IntKind.signed]; split <;> omega
theorem Fd (n : Int) : Fun Try.prog 64 [.t (.int n)] (Aw [.t (.bool (decide (-2147483648 ≤ n ∧ n ≤ 2147483647)))]) := by
 refine Fun.begin tys Try.func64 Z Z (N := 8) [(0, .t (.int n))] Z Z (fun w0 G F0 => ?_);refine sG (eZ Z (nA (eK 2 Z (WO_conv (td := .int .i64) (k := .i32) Z Z (AA Z) Z (by kernel_rfl) (by kernel_rfl) Z (WO_conv (td := .int .i32) (k := .i64) Z Z (AA Z) Z (by kernel_rfl) (by kernel_rfl) Z (eK 2 Z (nB (rT (eR ?_)))))))))
 ·exact retB (by rw [Bool.eq_iff_iff, decide_eq_true_iff, decide_eq_true_iff, MX])
theorem MS (t : Tok) (vars m : Int) (hv : 0 ≤ vars ∧ vars ≤ 100) (hm : 0 ≤ m ∧ m ≤ 100) : Fun Try.prog 113 [.t t.tt, .t (.int vars), .t (.int m)] (Aw [.t (.bool (knownT vars m t))]) := by
 refine Fun.begin tys Try.func113 Z Z (N := 36) [(0, .t t.tt), (1, .t (.int vars)), (2, .t (.int m))] Z Z (fun w0 G F0 => ?_);refine sG (AU Z Z (AA Z) Z Z (nZ Z (eZ Z (nB (sQ (sG (eK 2 Z (nB (AD (sG (eK 2 Z (nB ?_))))))))))));refine AB Z (fun h1 => ?_) (fun h1 => ?_)
 ·
  simp only [HS] at h1;refine sG (eK 2 Z (AI ?_));refine ⟨_, Fd _, rfl, ?_⟩;refine kZ [3,6,13] Z (eZ Z (nB (rT (bR (tR (eR ?_))))))
  ·exact retB (by grind [knownT])
 simp only [HS] at h1;refine sG (eK 2 Z (nB ?_));refine AB Z (fun h2 => ?_) (fun h2 => ?_)
 ·
  simp only [HS] at h2;refine sQ (kY [1,3,6] Z (rG (eK 3 Z (evI ?_))));refine AI ?_;refine ⟨_, Ab _ _ _, rfl, ?_⟩;refine eZ Z (nB (rT (bR (tR (eR ?_)))))
  ·exact retB (by grind [knownT])
 simp only [HS] at h2;refine sQ (kY [2,3,6,8] Z (rG (eK 2 Z (nB ?_))));refine AB Z (fun h3 => ?_) (fun h3 => ?_)
 ·
  simp only [HS] at h3;refine sG (eK 3 Z (evI ?_));refine AI ?_;refine ⟨_, Ab _ _ _, rfl, ?_⟩;refine eZ Z (nB (rT (bR (tR (eR ?_)))))
  ·exact retB (by grind [knownT])
 simp only [HS] at h3;refine AC (bN (tN (sG (eK 2 Z (AI ?_)))));refine ⟨_, Ab _ _ _, rfl, ?_⟩;refine eZ Z ?_;refine gB (fun h4 => ?_) (fun h4 => ?_)
 ·
  simp only [HS] at h4;refine xK 3 Z (kZ [6,35] Z (eZ Z (nB (rT (eR ?_)))))
  ·exact retB (by grind [knownT])
 simp only [HS] at h4;refine xK 3 Z (kZ [6,31,34] Z (eK 2 Z (nB (rT (eR ?_)))))
 ·exact retB (by grind [knownT])
theorem GB (n : Int) : Fun Try.prog 119 [.t (.int n)] (Aw [.t (.bool (decide (3 ≤ n ∧ n ≤ 8)))]) := by
 refine Fun.begin tys Try.func119 Z Z (N := 5) [(0, .t (.int n))] Z Z (fun w0 G F0 => ?_);refine sG (eZ Z (nA (eZ Z (AI ?_))));refine ⟨_, Ab _ _ _, rfl, ?_⟩;refine eZ Z (nB (rT (eR ?_)))
 ·rfl
theorem H5 (t : Tok) (ps : List Int) (ht : t.op = 11 → 0 ≤ t.n ∧ t.n < ps.length) : Fun Try.prog 114 [.t t.tt, .t (T.ints ps)] (Aw [.t (.int (Ak ps t))]) := by
 refine Fun.begin tys Try.func114 Z Z (N := 18) [(0, .t t.tt), (1, .t (T.ints ps))] Z Z (fun w0 G F0 => ?_);refine sG (AU Z Z (AA Z) Z Z (nZ Z (eZ Z (nB (sQ (AD (sG (eK 4 Z (nB ?_)))))))));refine AB Z (fun h1 => ?_) (fun h1 => ?_)
 ·
  simp only [HS] at h1;refine sG (eK 3 Z (kZ [4,9,11] Z ?_));refine iY (k := ?_);refine eK 2 Z (nB (rT (bR (tR (eR ?_)))))
  ·exact HI (by grind [Ak, Bc])
 simp only [HS] at h1;refine sG (eK 2 Z (AI ?_));refine ⟨_, GB _, rfl, ?_⟩;refine kZ [4,17] Z (eZ Z (nB ?_));refine AB Z (fun h2 => ?_) (fun h2 => ?_)
 ·
  simp only [HS] at h2;refine sG (eZ Z (nB (rT (bR (tR (eR ?_))))))
  ·exact HI (by grind [Ak, Bc])
 simp only [HS] at h2;refine AC (bN (tN (sG (eZ Z (nB (rT (eR ?_)))))))
 ·exact HI (by grind [Ak, Bc])
theorem maxIf (a b : Int) : (if a < b then b else a) = max a b := by split <;> omega
theorem Gc (l : List Tok) (vars : Int) (ps : List Int) (hv : 0 ≤ vars ∧ vars ≤ 100) (hp : LO ps) (hl : l.length ≤ 1048576) : Fun Try.prog 103 [.t (T.Toks l), .t (.int vars), .t (T.ints ps)] (Aw [.t (.int (IP vars ps l))]) := by
 have hp1 := hp.1
 refine Fun.begin tys Try.func103 Z Z (N := 47) [(0, .t (T.Toks l)), (1, .t (.int vars)), (2, .t (T.ints ps))] Z Z (fun w0 G F0 => ?_);refine sG (eZ Z (nB (sQ (sG (eZ Z (evE ?_))))));refine AI ?_;refine ⟨_, Ab _ _ _, rfl, ?_⟩;refine eZ Z (nB ?_);refine AB Z (fun h1 => ?_) (fun h1 => ?_)
 ·
  simp only [HS] at h1;refine sG (eZ Z (nB (rT (tR (eR ?_)))))
  ·(exact HI (by rw [IP, if_neg (by omega)]); done)
 simp only [HS] at h1;refine AC (tN (sG (eK 2 Z (nB (sQ (sQ (kY [0,1,2,6,7,8] Z (rG (eZ Z (evE ?_))))))))));refine eZ Z (nB (AD ?_));refine lK (α := Int × Int × Int) [1, 2, 15, 16] [] (fun x => [(17, .t (.int (x.1))), (8, .t (.int (x.2.1))), (7, .t (.int (x.2.2)))]) (fun x => []) (fun x => 0 ≤ (x.1) ∧ (x.1) ≤ l.length ∧ 0 ≤ (x.2.1) ∧ (x.2.1) ≤ (x.1) ∧ (1 : Int) ≤ l.length ∧ (l.length : Int) ≤ 12 ∧ Cw vars ps l 0 0 = Cw vars ps (l.drop (x.1).toNat) (x.2.1) (x.2.2)) (fun x => Int.toNat (l.length - (x.1))) (0, 0, 0) ?_ (fun x hx => ?_)
 ·exact ⟨by omega, by omega, RR 0, RR 0, by omega, by omega, rfl⟩
 obtain ⟨k, h, m⟩ := x
 obtain ⟨hk0, hk1, hh0, hh1, hl0, hl1, he⟩ := hx
 dsimp only at hk0 hk1 hh0 hh1 hl0 hl1 he ⊢;refine nY Z (sG (eZ Z (nB (sQ ?_))));refine AB Z (fun h2 => ?_) (fun h2 => ?_)
 ·
  simp only [HS] at h2;refine AC (tN (sQ (AD (sG ?_))));refine iY (k := ?_);refine eZ Z ?_
  try refine WO_le (Le.freeze (u := 20) rfl) ?_
  refine nZ Z (AJ tys Z Z (AA Z) Z Z Z (nZ Z (sT Z (nZ Z (nB (sQ (sG (eZ Z ?_))))))))
  try refine WO_le (Le.freeze (u := 21) rfl) ?_
  refine nZ Z (eK 2 Z (evE ?_));refine kZ [1,2,7,8,10,15,16,17,18,19,20,21,22,23,24] Z (AI ?_);refine ⟨_, MS _ _ _ hv (by omega), rfl, ?_⟩;refine eK 2 Z ?_;refine gB (fun h3 => ?_) (fun h3 => ?_)
  ·
   simp only [HS] at h3;refine xK 5 Z (nB (Ap Z (sQ (kY [1,2,7,8,10,15,16,17,18,19,20,21,22,23,24,25,26,27,28,29,30,31,32,33] Z (rG (eZ Z (nB (rT (tR (bR (tR (AN (bR (tR (eR ?_)))))))))))))))
   ·exact HI (by rw [IP, if_pos ⟨hl0, hl1⟩, he, DU hk0 h2, if_neg (by simp [*]; done)])
  simp only [HS] at h3;refine eZ Z ?_
  try refine WO_le (Le.freeze (u := 28) rfl) ?_
  refine nZ Z (xZ Z (gY Z (AI ?_)));refine ⟨_, H5 _ _ (CY h3), rfl, ?_⟩;refine xK 3 Z (kZ [1,2,7,8,10,15,16,17,18,19,20,21,22,23,24,25,26,27,28,29,30,31,32,33] Z (nB ?_));refine AB Z (fun h4 => ?_) (fun h4 => ?_)
  ·
   simp only [HS] at h4;refine sG (eZ Z (nB (rT (tR (bR (tR (AN (bR (tR (eR ?_))))))))))
   ·exact HI (by rw [IP, if_pos ⟨hl0, hl1⟩, he, DU hk0 h2, if_neg (by simp [*]; done)])
  simp only [HS] at h4;refine AC (tN (sG (eK 2 Z ?_)))
  try refine WO_le (Le.freeze (u := 35) rfl) ?_
  refine nZ Z (eZ Z (AI ?_));refine ⟨_, H5 _ _ (CY h3), rfl, ?_⟩
  have q := Ci hp (l[k.toNat]'(by omega))
  refine evI ?_;refine evI ?_;refine eZ Z (nB (kY [1,2,7,8,10,15,16,17,18,19,20,21,22,23,24,25,26,27,28,29,30,31,32,33,34,35,36,37,38,39] Z (rG (eK 4 Z (oN (bN (tN (rG (evI ?_)))))))));refine eZ Z (oN ?_);refine lQ (_, _, _) ?_ ?_
  ·dsimp only
   have q := Ci hp (l[k.toNat]'(by omega)); exact ⟨by omega, by omega, by omega, by omega, hl0, hl1, by rw [he, DU hk0 h2, if_pos (by simp [h3]; omega), maxIf]⟩
  ·(show Int.toNat _ < Int.toNat _); omega
 simp only [HS] at h2;refine AP (tE (AM (AK (tN (sQ (sG (eK 2 Z (nB ?_))))))));refine AB Z (fun h3 => ?_) (fun h3 => ?_)
 ·
  simp only [HS] at h3;refine sG (eZ Z (nB (rT (tR (eR ?_)))))
  ·exact HI (by rw [IP, if_pos ⟨hl0, hl1⟩, he, Av h2]; simp only [Cw]; grind)
 simp only [HS] at h3;refine AC (tN (sG (eK 2 Z (nB (rT (eR ?_))))))
 ·exact HI (by rw [IP, if_pos ⟨hl0, hl1⟩, he, Av h2]; simp only [Cw]; grind)
def LQ (kids : Int → List Int × List Int) : Nat → List Int → List Int
 | 0, _ => []
 | k + 1, b => b.flatMap fun n => n :: (LQ kids k (kids n).1 ++ LQ kids k (kids n).2)
def inB (N i : Int) (b : List Int) : Prop := ∀ x, x ∈ b → i ≤ x ∧ x < N
def BT (N : Int) (kids : Int → List Int × List Int) : Prop := ∀ m, 0 ≤ m → m < N → inB N (m + 1) (kids m).1 ∧ inB N (m + 1) (kids m).2
theorem Cb {α β : Type} {f g : α → List β} : ∀ {l : List α}, (∀ x, x ∈ l → f x = g x) → l.flatMap f = l.flatMap g
 | [], _ => rfl
 | x :: l, h => by rw [Qq, Qq, h x (Qi ..), Cb fun y hy => h y (Ql _ hy)]
theorem D0 {N : Int} {kids : Int → List Int × List Int} (hd : BT N kids) : ∀ (k k' : Nat) {i : Int} {b : List Int}, 0 ≤ i → inB N i b → N - i ≤ k → N - i ≤ k' → LQ kids k b = LQ kids k' b
 | 0, k', i, b, h0, hb, h1, h2 => by
  have : b = [] := by
   cases b with
   | nil => rfl
   | cons x b => have := hb x (Qi ..); omega
  subst this
  cases k' <;> simp [LQ]
 | k + 1, 0, i, b, h0, hb, h1, h2 => by
  have : b = [] := by
   cases b with
   | nil => rfl
   | cons x b => have := hb x (Qi ..); omega
  subst this
  simp [LQ]
 | k + 1, k' + 1, i, b, h0, hb, h1, h2 => by
  rw [LQ, LQ]
  refine Cb fun n hn => ?_
  have h3 := hb n hn
  have h4 := hd n (by omega) h3.2
  rw [D0 hd k k' (by omega) h4.1 (by omega) (by omega), D0 hd k k' (by omega) h4.2 (by omega) (by omega)]
def ord (N : Int) (kids : Int → List Int × List Int) (b : List Int) : List Int := LQ kids N.toNat b
theorem EX {N : Int} {kids : Int → List Int × List Int} : ord N kids [] = [] := by
 unfold ord; cases N.toNat <;> simp [LQ]
theorem Dy {N : Int} {kids : Int → List Int × List Int} (hd : BT N kids) {n : Int} {b : List Int} (hb : inB N 0 (n :: b)) : ord N kids (n :: b) = n :: (ord N kids (kids n).1 ++ ord N kids (kids n).2) ++ ord N kids b := by
 have h1 := hb n (Qi ..)
 have h2 := hd n h1.1 h1.2
 have h0 : inB N 0 b := fun x hx => hb x (Ql _ hx)
 have up : ∀ {c : List Int}, inB N (n + 1) c → LQ kids N.toNat c = ord N kids c := fun h => rfl
 obtain ⟨k, hk⟩ : ∃ k, N.toNat = k + 1 := ⟨N.toNat - 1, by omega⟩
 unfold ord;rw [hk, LQ, Qq]
 congr 1
 ·rw [D0 hd k (k + 1) (by omega) h2.1 (by omega) (by omega), D0 hd k (k + 1) (by omega) h2.2 (by omega) (by omega)]
theorem BJ {N i j : Int} {b : List Int} (h : inB N i b) (hj : j ≤ i) : inB N j b := fun x hx => by have := h x hx; omega
theorem Gx {N : Int} {kids : Int → List Int × List Int} (hd : BT N kids) {p : List Int → List Int → Prop} (h0 : p [] [])
  (h1 : ∀ n b, 0 ≤ n → n < N → inB N 0 b → p (kids n).1 (ord N kids (kids n).1) → p (kids n).2 (ord N kids (kids n).2) → p b (ord N kids b) → p (n :: b) (n :: (ord N kids (kids n).1 ++ ord N kids (kids n).2) ++ ord N kids b)) :
  ∀ (k : Nat) (i : Int) (b : List Int), 0 ≤ i → N - i ≤ k → inB N i b → p b (ord N kids b)
 | 0, i, b, hi, hk, hb => by
  have : b = [] := by
   cases b with
   | nil => rfl
   | cons x b => have := hb x (Qi ..); omega
  subst this;rw [EX]; exact h0
 | k + 1, i, [], hi, hk, hb => by rw [EX]; exact h0
 | k + 1, i, n :: b, hi, hk, hb => by
  have h2 := hb n (Qi ..)
  have h3 := hd n (by omega) h2.2
  have hb' : inB N i b := fun x hx => hb x (Ql _ hx)
  rw [Dy hd (BJ hb hi)];exact h1 n b (by omega) h2.2 (BJ hb' hi) (Gx hd h0 h1 k (n + 1) _ (by omega) (by omega) h3.1) (Gx hd h0 h1 k (n + 1) _ (by omega) (by omega) h3.2) (Gx hd h0 h1 (k + 1) i b hi hk hb')
termination_by k _ b => (k, b.length)
theorem Dx {N : Int} {kids : Int → List Int × List Int} (hd : BT N kids) {p : List Int → List Int → Prop} (h0 : p [] [])
  (h1 : ∀ n b, 0 ≤ n → n < N → inB N 0 b → p (kids n).1 (ord N kids (kids n).1) → p (kids n).2 (ord N kids (kids n).2) → p b (ord N kids b) → p (n :: b) (n :: (ord N kids (kids n).1 ++ ord N kids (kids n).2) ++ ord N kids b))
  {b : List Int} (hb : inB N 0 b) : p b (ord N kids b) := Gx hd h0 h1 N.toNat 0 b (by omega) (by omega) hb
def HM (kids : Int → List Int × List Int) (m : Int) : List Int := (kids m).1 ++ (kids m).2
theorem Dw {N : Int} {kids : Int → List Int × List Int} (hd : BT N kids) {b : List Int} (hb : inB N 0 b) : inB N 0 (ord N kids b) :=
 Dx hd (p := fun _ o => inB N 0 o) (fun x hx => by cases hx) (fun n b h1 h2 _ i1 i2 i3 x hx => by
  simp only [RI, QZ, QV] at hx
  rcases hx with rfl | (hx | hx) | hx
  ·exact ⟨h1, h2⟩
  ·exact i1 x hx
  ·exact i2 x hx
  ·exact i3 x hx) hb
theorem FU {N : Int} {kids : Int → List Int × List Int} (hd : BT N kids) {b : List Int} (hb : inB N 0 b) (x : Int) : (ord N kids b).count x = b.count x + ((ord N kids b).flatMap (HM kids)).count x :=
 Dx hd (p := fun b o => o.count x = b.count x + (o.flatMap (HM kids)).count x) rfl (fun n b h1 h2 _ i1 i2 i3 => by
  simp only [RI, Qq, RS, List.count_cons, List.count_append, HM] at *
  omega) hb
theorem JB {N : Int} {kids : Int → List Int × List Int} (hd : BT N kids) {b : List Int} (hb : inB N 0 b) : b.Sublist (ord N kids b) :=
 Dx hd (p := fun b o => b.Sublist o) (List.Sublist.refl _) (fun n b h1 h2 _ i1 i2 i3 => by
  rw [RI]
  exact (i3.trans (List.sublist_append_right _ _)).cons_cons n) hb
theorem N6 {N : Int} {kids : Int → List Int × List Int} (hd : BT N kids) {b : List Int} (hb : inB N 0 b) (m : Int) (hm : m ∈ ord N kids b) : (kids m).1.Sublist (ord N kids b) ∧ (kids m).2.Sublist (ord N kids b) :=
 Dx hd (p := fun b o => m ∈ o → (kids m).1.Sublist o ∧ (kids m).2.Sublist o) (fun h => by cases h) (fun n b h1 h2 _ i1 i2 i3 hm => by
  have hk := hd n h1 h2
  simp only [RI, QZ, QV] at hm ⊢
  have s1 : (ord N kids (kids n).1).Sublist (n :: ((ord N kids (kids n).1 ++ ord N kids (kids n).2) ++ ord N kids b)) := ((List.sublist_append_left _ _).trans (List.sublist_append_left _ _)).cons n
  have s2 : (ord N kids (kids n).2).Sublist (n :: ((ord N kids (kids n).1 ++ ord N kids (kids n).2) ++ ord N kids b)) := ((List.sublist_append_right _ _).trans (List.sublist_append_left _ _)).cons n
  have s3 : (ord N kids b).Sublist (n :: ((ord N kids (kids n).1 ++ ord N kids (kids n).2) ++ ord N kids b)) := (List.sublist_append_right _ _).cons n
  rcases hm with rfl | (hm | hm) | hm
  ·exact ⟨(JB hd (BJ hk.1 (by omega))).trans s1, (JB hd (BJ hk.2 (by omega))).trans s2⟩
  ·have := i1 hm; exact ⟨this.1.trans s1, this.2.trans s1⟩
  ·have := i2 hm; exact ⟨this.1.trans s2, this.2.trans s2⟩
  ·have := i3 hm; exact ⟨this.1.trans s3, this.2.trans s3⟩) hb hm
def CP (N : Nat) : List Int := (List.range N).map fun (k : Nat) => (k : Int)
theorem mem_upto {N : Nat} {x : Int} : x ∈ CP N ↔ 0 ≤ x ∧ x < N := by
 unfold CP;rw [RN]
 constructor
 ·rintro ⟨k, hk, rfl⟩; have := Q9.1 hk; omega
 ·intro h; exact ⟨x.toNat, Q9.2 (by omega), by omega⟩
theorem FB (N : Nat) : (CP N).Pairwise (· < ·) := by
 unfold CP;rw [List.pairwise_map];exact List.Pairwise.imp (fun h => by omega) List.pairwise_lt_range
theorem DM {N : Nat} {x : Int} (h : 0 ≤ x) (h' : x < N) : (CP N).count x = 1 := by
 have hn : (CP N).Nodup := (FB N).imp fun h e => by omega
 have h2 := List.nodup_iff_count.1 hn x
 have h3 := List.count_pos_iff.2 (mem_upto.2 ⟨h, h'⟩)
 omega
def LV (N : Nat) (kids : Int → List Int × List Int) (body : List Int) : List Int := body ++ (CP N).flatMap (HM kids)
theorem DX {N : Nat} {kids : Int → List Int × List Int} (hd : BT N kids) {body : List Int} (hb : inB N 0 body) (ho : ord N kids body = CP N) :
  (∀ x : Int, 0 ≤ x → x < N → (LV N kids body).count x = 1) ∧ body.Pairwise (· < ·) ∧ ∀ m : Int, 0 ≤ m → m < N → (kids m).1.Pairwise (· < ·) ∧ (kids m).2.Pairwise (· < ·) := by
 refine ⟨fun x h0 h1 => ?_, (ho ▸ FB N : (ord N kids body).Pairwise (· < ·)).sublist (JB hd hb), fun m h0 h1 => ?_⟩
 ·have := FU hd hb x
  rw [ho, DM h0 h1] at this;unfold LV;rw [List.count_append];omega
 ·have := N6 hd hb m (ho ▸ mem_upto.2 ⟨h0, h1⟩)
  rw [ho] at this;exact ⟨(FB N).sublist this.1, (FB N).sublist this.2⟩
theorem Cd {f : Int → List Int} {x : Int} : ∀ {l : List Int}, (l.flatMap f).count x = ((l.filter fun m => decide (x ∈ f m)).flatMap f).count x
 | [] => rfl
 | m :: l => by
  rw [Qq, List.count_append, Cd (l := l), RF];split
  ·rw [Qq, List.count_append]
  ·rename_i h
   have : x ∉ f m := by simpa using h
   rw [RA this]; omega
theorem Jv {N : Nat} {kids : Int → List Int × List Int} (hd : BT N kids) {body : List Int} (hb : inB N 0 body) (ha : ∀ x : Int, 0 ≤ x → x < N → (LV N kids body).count x = 1) :
  ∀ (k : Nat) (x : Int), x < k → 0 ≤ x → x < N → (ord N kids body).count x = 1
 | 0, x, h, h0, _ => by omega
 | k + 1, x, h, h0, h1 => by
  have h2 := FU hd hb x
  have h3 := ha x h0 h1
  unfold LV at h3;rw [List.count_append] at h3
  have hp : ((ord N kids body).filter fun m => decide (x ∈ HM kids m)).Perm ((CP N).filter fun m => decide (x ∈ HM kids m)) := by
   rw [List.perm_iff_count];intro m
   by_cases hx : x ∈ HM kids m
   ·rw [List.count_filter (by simpa using hx), List.count_filter (by simpa using hx)]
    by_cases hm : 0 ≤ m ∧ m < N
    ·have hk := hd m hm.1 hm.2
     have hlt : m < x := by
      rcases QV.1 hx with hx | hx
      ·have := hk.1 x hx; omega
      ·have := hk.2 x hx; omega
     rw [Jv hd hb ha k m (by omega) hm.1 hm.2, DM hm.1 hm.2]
    ·rw [RA fun h => hm (by have := Dw hd hb m h; omega), RA fun h => hm (mem_upto.1 h)]
   ·rw [RA, RA]
    ·intro h; have := (List.mem_filter.1 h).2; exact hx (by simpa using this)
    ·intro h; have := (List.mem_filter.1 h).2; exact hx (by simpa using this)
  have h4 : ((ord N kids body).flatMap (HM kids)).count x = ((CP N).flatMap (HM kids)).count x := by
   rw [Cd, Cd (l := CP N)];exact (hp.flatMap_right _).count_eq x
  omega
theorem L8 {N : Nat} {kids : Int → List Int × List Int} (hd : BT N kids) {body : List Int} (hb : inB N 0 body) (ha : ∀ x : Int, 0 ≤ x → x < N → (LV N kids body).count x = 1) : (ord N kids body).Perm (CP N) := by
 rw [List.perm_iff_count];intro x
 by_cases hx : 0 ≤ x ∧ x < N
 ·rw [Jv hd hb ha N x hx.2 hx.1 hx.2, DM hx.1 hx.2]
 ·rw [RA fun h => hx (by have := Dw hd hb x h; omega), RA fun h => hx (mem_upto.1 h)]
open Go.Eng
def Ad : List Stmt → Int → List Int
 | [], _ => []
 | s :: l, k => if s.kind = 3 then k :: Ad l (k + 1) else Ad l (k + 1)
theorem Di {l : List Stmt} {k : Int} (h0 : 0 ≤ k) (h1 : k < l.length) : Ad (l.drop k.toNat) k = if (l[k.toNat]'(by omega)).kind = 3 then k :: Ad (l.drop (k + 1).toNat) (k + 1) else Ad (l.drop (k + 1).toNat) (k + 1) := by
 rw [Cc h0 h1, Ad]
theorem Fa (f : Func) (hf : f.ok 1048576) : Fun Try.prog 81 [.t f.tt] (Aw [.own (T.ints (Ad f.stmts 0))]) := by
 have hl : f.stmts.length ≤ 1048576 := hf.2.1.1
 refine Fun.begin tys Try.func81 Z Z (N := 23) [(0, .t f.tt)] Z Z (fun w0 G F0 => ?_);refine sG (AU Z Z (AA Z) Z Z (nZ Z (eZ Z (nA (eZ Z (WO_le (Le.nilOwn (u := 3) 1 Z) (WO_le (Le.adoptE (u := 3) 3 Z Z) (nZ Z (nB (sQ (sG (eK 2 Z (evE ?_)))))))))))));refine eZ Z (nB (AD ?_));refine lK (α := Int × Nat × List T) [7, 8] [] (fun x => [(9, .t (.int (x.1))), (3, .sl 3 0 (x.2.1))]) (fun x => [(3, .L 1 (x.2.2))]) (fun x => 0 ≤ (x.1) ∧ (x.1) ≤ f.stmts.length ∧ (x.2.1) = (x.2.2).length ∧ (x.2.2).length ≤ (x.1) ∧ ∃ done : List Int, (x.2.2) = done.map T.int ∧ Ad f.stmts 0 = done ++ Ad (f.stmts.drop (x.1).toNat) (x.1)) (fun x => Int.toNat (f.stmts.length - (x.1))) (0, 0, []) ?_ (fun x hx => ?_)
 ·exact ⟨by omega, by omega, rfl, RR 0, [], rfl, rfl⟩
 obtain ⟨k, m, xs⟩ := x
 obtain ⟨hk0, hk1, hm, hx, done, hd, he⟩ := hx
 dsimp only at hk0 hk1 hm hx hd he ⊢;refine nY Z (sG (eZ Z (nB (sQ ?_))));refine AB Z (fun h1 => ?_) (fun h1 => ?_)
 ·
  simp only [HS] at h1;refine AC (tN (sQ (AD (sG (eZ Z ?_)))));refine iY (k := ?_);refine eZ Z ?_
  try refine WO_le (Le.freeze (u := 13) rfl) ?_
  refine nZ Z (AJ tys Z Z (AA Z) Z Z Z (nZ Z (eZ Z (sT Z (nZ Z (nB (sQ (kY [3,4,5,7,8,9,10,11,12,13] Z (rG (eK 3 Z (nB ?_)))))))))));refine AB Z (fun h2 => ?_) (fun h2 => ?_)
  ·
   simp only [HS] at h2;refine rG (eK 2 Z (bZ [T.int k] ?_));refine nZ Z (AF tys Z Z (AA Z) Z Z Z Z Z (.own Z (by first | omega | (simp only [QS]; omega))) Z (.own Z (by first | decide | omega)) (by decide) (by simp only [Qa, QW, List.length_nil]; omega) (by decide) Z ?_);refine nZ Z (eZ Z (oN (bN (tN (kY [3,4,5,7,8,9,10,11,12,13,14,15,16,17,18,19,20] Z (rG (evI ?_)))))));refine eZ Z (oN ?_);refine lQ (_, _, _) ?_ ?_
   ·dsimp only
    rw [Di hk0 h1] at he;subst hm
    first
    | (refine ⟨by omega, by omega, by simp, by simp; omega, done ++ [k], by rw [Qj, hd]; simp, ?_⟩; rw [he, if_pos (by assumption)]; simp; done)
   ·(show Int.toNat _ < Int.toNat _); omega
  simp only [HS] at h2;refine AC (bN (tN (rG (evI ?_))));refine eZ Z (oN ?_);refine lQ (_, _, _) ?_ ?_
  ·dsimp only
   rw [Di hk0 h1] at he;subst hm
   first
   | (refine ⟨by omega, by omega, rfl, by omega, done, hd, ?_⟩; rw [he, if_neg (by assumption)]; done)
  ·(show Int.toNat _ < Int.toNat _); omega
 simp only [HS] at h1;refine AP (tE (AM (AK (tN (sG (eK 2 Z (nB (AO (Le.gather (u := 2) (id := 3) Z Z (by omega)) (rT (eR ?_))))))))))
 ·(rw [he, Av h1, Ad, Qo, hm, Qj, hd]; rfl)
theorem I5 (f : Func) (hf : f.ok 1048576) : Fun Try.prog 98 [.t f.tt] (Aw [.own (T.ints (Ad f.stmts 0))]) := by
 have hl : f.stmts.length ≤ 1048576 := hf.2.1.1
 refine Fun.begin tys Try.func98 Z Z (N := 23) [(0, .t f.tt)] Z Z (fun w0 G F0 => ?_);refine sG (AU Z Z (AA Z) Z Z (nZ Z (eZ Z (nA (eZ Z (WO_le (Le.nilOwn (u := 3) 1 Z) (WO_le (Le.adoptE (u := 3) 3 Z Z) (nZ Z (nB (sQ (sG (eK 2 Z (evE ?_)))))))))))));refine eZ Z (nB (AD ?_));refine lK (α := Int × Nat × List T) [7, 8] [] (fun x => [(9, .t (.int (x.1))), (3, .sl 3 0 (x.2.1))]) (fun x => [(3, .L 1 (x.2.2))]) (fun x => 0 ≤ (x.1) ∧ (x.1) ≤ f.stmts.length ∧ (x.2.1) = (x.2.2).length ∧ (x.2.2).length ≤ (x.1) ∧ ∃ done : List Int, (x.2.2) = done.map T.int ∧ Ad f.stmts 0 = done ++ Ad (f.stmts.drop (x.1).toNat) (x.1)) (fun x => Int.toNat (f.stmts.length - (x.1))) (0, 0, []) ?_ (fun x hx => ?_)
 ·exact ⟨by omega, by omega, rfl, RR 0, [], rfl, rfl⟩
 obtain ⟨k, m, xs⟩ := x
 obtain ⟨hk0, hk1, hm, hx, done, hd, he⟩ := hx
 dsimp only at hk0 hk1 hm hx hd he ⊢;refine nY Z (sG (eZ Z (nB (sQ ?_))));refine AB Z (fun h1 => ?_) (fun h1 => ?_)
 ·
  simp only [HS] at h1;refine AC (tN (sQ (AD (sG (eZ Z ?_)))));refine iY (k := ?_);refine eZ Z ?_
  try refine WO_le (Le.freeze (u := 13) rfl) ?_
  refine nZ Z (AJ tys Z Z (AA Z) Z Z Z (nZ Z (eZ Z (sT Z (nZ Z (nB (sQ (kY [3,4,5,7,8,9,10,11,12,13] Z (rG (eK 3 Z (nB ?_)))))))))));refine AB Z (fun h2 => ?_) (fun h2 => ?_)
  ·
   simp only [HS] at h2;refine rG (eK 2 Z (bZ [T.int k] ?_));refine nZ Z (AF tys Z Z (AA Z) Z Z Z Z Z (.own Z (by first | omega | (simp only [QS]; omega))) Z (.own Z (by first | decide | omega)) (by decide) (by simp only [Qa, QW, List.length_nil]; omega) (by decide) Z ?_);refine nZ Z (eZ Z (oN (bN (tN (kY [3,4,5,7,8,9,10,11,12,13,14,15,16,17,18,19,20] Z (rG (evI ?_)))))));refine eZ Z (oN ?_);refine lQ (_, _, _) ?_ ?_
   ·dsimp only
    rw [Di hk0 h1] at he;subst hm
    first
    | (refine ⟨by omega, by omega, by simp, by simp; omega, done ++ [k], by rw [Qj, hd]; simp, ?_⟩; rw [he, if_pos (by assumption)]; simp; done)
   ·(show Int.toNat _ < Int.toNat _); omega
  simp only [HS] at h2;refine AC (bN (tN (rG (evI ?_))));refine eZ Z (oN ?_);refine lQ (_, _, _) ?_ ?_
  ·dsimp only
   rw [Di hk0 h1] at he;subst hm
   first
   | (refine ⟨by omega, by omega, rfl, by omega, done, hd, ?_⟩; rw [he, if_neg (by assumption)]; done)
  ·(show Int.toNat _ < Int.toNat _); omega
 simp only [HS] at h1;refine AP (tE (AM (AK (tN (sG (eK 2 Z (nB (AO (Le.gather (u := 2) (id := 3) Z Z (by omega)) (rT (eR ?_))))))))))
 ·(rw [he, Av h1, Ad, Qo, hm, Qj, hd]; rfl)
theorem Ej (p : Prog) (hp : p.ok 1048576) : Fun Try.prog 79 [.t p.tt] (Aw [.own (T.ints (p.funcs.map (·.params)))]) := by
 have hl : p.funcs.length ≤ 1048576 := hp.1.1
 refine Fun.begin tys Try.func79 Z Z (N := 20) [(0, .t p.tt)] Z Z (fun w0 G F0 => ?_);refine sG (AU Z Z (AA Z) Z Z (nZ Z (eZ Z (nA (eZ Z (WO_le (Le.nilOwn (u := 3) 1 Z) (WO_le (Le.adoptE (u := 3) 3 Z Z) (nZ Z (nB (sQ (sG (eK 2 Z (evE ?_)))))))))))));refine eZ Z (nB (AD ?_));refine lK (α := Int × Nat × List T) [7, 8] [] (fun x => [(9, .t (.int (x.1))), (3, .sl 3 0 (x.2.1))]) (fun x => [(3, .L 1 (x.2.2))]) (fun x => 0 ≤ (x.1) ∧ (x.1) ≤ p.funcs.length ∧ (x.2.1) = (x.2.2).length ∧ (x.2.2).length ≤ (x.1) ∧ (x.2.2) = ((p.funcs.map (·.params)).take (x.1).toNat).map T.int) (fun x => Int.toNat (p.funcs.length - (x.1))) (0, 0, []) ?_ (fun x hx => ?_)
 ·exact ⟨by omega, by omega, rfl, RR 0, rfl⟩
 obtain ⟨k, m, xs⟩ := x
 obtain ⟨hk0, hk1, hm, hx, hd⟩ := hx
 dsimp only at hk0 hk1 hm hx hd ⊢;refine nY Z (sG (eZ Z (nB (sQ ?_))));refine AB Z (fun h1 => ?_) (fun h1 => ?_)
 ·
  simp only [HS] at h1;refine AC (tN (sQ (AD (sG ?_))));refine iY (k := ?_);refine eZ Z ?_
  try refine WO_le (Le.freeze (u := 12) rfl) ?_
  refine nZ Z (AJ tys Z Z (AA Z) Z Z Z (nZ Z (sT Z (nZ Z (nB (rG (eK 3 Z (bZ [T.int (p.funcs[k.toNat]'(by omega)).params] ?_))))))));refine nZ Z (kZ [3,5,7,8,9,10,11,12,13,14,15,16] Z (AF tys Z Z (AA Z) Z Z Z Z Z (.own Z (by first | omega | (simp only [QS]; omega))) Z (.own Z (by first | decide | omega)) (by decide) (by simp only [Qa, QW, List.length_nil]; omega) (by decide) Z ?_));refine nZ Z (eZ Z (oN (bN (tN (rG (evI ?_))))));refine eZ Z (oN ?_);refine lQ (_, _, _) ?_ ?_
  ·dsimp only
   subst hm;refine ⟨by omega, by omega, by simp, by simp; omega, ?_⟩;rw [Qj, hd, Bh hk0 (by simp; omega), Qt]; simp
  ·(show Int.toNat _ < Int.toNat _); omega
 simp only [HS] at h1;refine AP (tE (AM (AK (tN (sG (eK 2 Z (nB (AO (Le.gather (u := 2) (id := 3) Z Z (by omega)) (rT (eR ?_))))))))))
 ·(rw [hm, Qj, hd, A5 (by simp; omega)]; rfl)
theorem Hw (p : Prog) (hp : p.ok 1048576) : Fun Try.prog 66 [.t p.tt] (Aw [.own (T.ints (p.funcs.map (·.params)))]) := by
 have hl : p.funcs.length ≤ 1048576 := hp.1.1
 refine Fun.begin tys Try.func66 Z Z (N := 25) [(0, .t p.tt)] Z Z (fun w0 G F0 => ?_);refine sG (AU Z Z (AA Z) Z Z (nZ Z (eZ Z (nA (eK 2 Z (evE ?_))))));refine Ft tys (.v (.int .i64 0)) _ Z Z (AA Z) Z Z Z Z Z (by repeat (first | exact AbsL.nil' | refine AbsL.v' ?_ | refine AbsL.none' ?_)) Z (by omega) (by decide) ?_;refine nZ Z (eZ Z (nB (sQ (sQ (kY [1,2,3] Z (rG (eK 2 Z (evE ?_))))))));refine eZ Z (nB (AD ?_));refine lK (α := Int × List T) [11, 12] [] (fun x => [(13, .t (.int (x.1))), (3, .sl 9 0 p.funcs.length)]) (fun x => [(9, .L 1 (x.2))]) (fun x => 0 ≤ (x.1) ∧ (x.1) ≤ p.funcs.length ∧ (x.2).length = p.funcs.length ∧ (x.2).take (x.1).toNat = ((p.funcs.map (·.params)).take (x.1).toNat).map T.int) (fun x => Int.toNat (p.funcs.length - (x.1))) (0, List.replicate p.funcs.length (T.int 0)) ?_ (fun x hx => ?_)
 ·exact ⟨by omega, by omega, by simp, by simp⟩
 obtain ⟨k, xs⟩ := x
 obtain ⟨hk0, hk1, hm, hd⟩ := hx
 dsimp only at hk0 hk1 hm hd ⊢;refine nY Z (sG (eZ Z (nB (sQ ?_))));refine AB Z (fun h1 => ?_) (fun h1 => ?_)
 ·
  simp only [HS] at h1;refine AC (tN (sQ (AD (sG (eZ Z ?_)))));refine iY (k := ?_);refine eZ Z ?_
  try refine WO_le (Le.freeze (u := 17) rfl) ?_
  refine nZ Z (AJ tys Z Z (AA Z) Z Z Z (nZ Z (eZ Z (sT Z (nZ Z (nB (kY [3,4,5,11,12,13,14,15,16,17] Z (rG (eK 4 Z (Ag tys Z Z (AA Z) Z Z Z Z Z Z Z Z (by omega) (by omega) ?_))))))))));refine Bu tys (.v (.int .i64 _)) Z Z Z Z Z Z (by first | exact Qg _ | rfl) (by omega) Z (by repeat (first | exact AbsL.nil' | refine AbsL.v' ?_ | refine AbsL.own' ?_)) Z Z Z ?_;refine nZ Z (oN (bN (tN (rG (evI ?_)))));refine eZ Z (oN ?_);refine lQ (_, _) ?_ ?_
  ·dsimp only
   have q := Me (g := T.int) (l := p.funcs.map (·.params)) hk0 (by simp; omega) (by simpa using hm) hd
   exact ⟨by omega, by omega, by simpa using hm, by simpa using q⟩
  ·(show Int.toNat _ < Int.toNat _); omega
 simp only [HS] at h1;refine AP (tE (AM (AK (tN (sG (eK 2 Z (nB (AO (Le.gather (u := 2) (id := 9) Z Z (by omega)) (rT (eR ?_))))))))))
 ·(rw [QU (by omega), OU (l := p.funcs.map (·.params)) (by simp; omega) (by simpa using hm) hd]; rfl)
open Go.Eng
def kids (l : List Stmt) (m : Int) : List Int × List Int := match l[m.toNat]? with
 | some s => (s.thn, s.els)
 | none => ([], [])
theorem kids_at {l : List Stmt} {m : Int} (h : m.toNat < l.length) : kids l m = ((l[m.toNat]).thn, (l[m.toNat]).els) := by
 unfold kids; rw [List.getElem?_eq_getElem h]
def Kw (N i : Int) (b : List Int) : Bool := b.all fun x => decide (i ≤ x ∧ x < N)
theorem inBB_iff {N i : Int} {b : List Int} : Kw N i b = true ↔ inB N i b := by
 unfold Kw inB; rw [Qd]; simp
def Mp (l : List Stmt) : Bool := (CP l.length).all fun m => Kw l.length (m + 1) (kids l m).1 && Kw l.length (m + 1) (kids l m).2
theorem K4 {l : List Stmt} : Mp l = true ↔ BT l.length (kids l) := by
 unfold Mp BT;rw [Qd]
 constructor
 ·intro h m h0 h1
  have := h m (mem_upto.2 ⟨h0, h1⟩)
  rw [QR, inBB_iff, inBB_iff] at this;exact this
 ·intro h m hm
  have h2 := mem_upto.1 hm
  rw [QR, inBB_iff, inBB_iff];exact h m h2.1 h2.2
def CC (l : List Stmt) (body : List Int) : Bool := Mp l && (Kw l.length 0 body && (ord l.length (kids l) body == CP l.length))
theorem shapeB_iff {l : List Stmt} {body : List Int} : CC l body = true ↔ BT l.length (kids l) ∧ inB l.length 0 body ∧ ord l.length (kids l) body = CP l.length := by
 unfold CC; rw [QR, QR, K4, inBB_iff, beq_iff_eq]
def EH : List Stmt → Int → List (Int × List Int)
 | [], _ => []
 | s :: l, k => (k, s.thn) :: (k, s.els) :: EH l (k + 1)
def Cs (l : List Stmt) (body : List Int) : List (Int × List Int) := (-1, body) :: EH l 0
theorem Ib : ∀ (l : List Stmt) (k : Int), (EH l k).length = 2 * l.length
 | [], _ => rfl
 | s :: l, k => by rw [EH, QW, QW, Ib l, QW]; omega
theorem blkGo_mem : ∀ {l : List Stmt} {k : Int} {p : Int × List Int}, p ∈ EH l k ↔ ∃ j : Nat, ∃ h : j < l.length, p = (k + j, (l[j]).thn) ∨ p = (k + j, (l[j]).els)
  | [], k, p => by simp [EH]
  | s :: l, k, p => by
    rw [EH, QZ, QZ, blkGo_mem]
    constructor
    · rintro (h | h | ⟨j, hj, h⟩)
      · exact ⟨0, by simp, .inl (by simpa using h)⟩
      · exact ⟨0, by simp, .inr (by simpa using h)⟩
      · refine ⟨j + 1, by simp; omega, ?_⟩
        rcases h with h | h
        · exact .inl (by rw [h]; simp; omega)
        · exact .inr (by rw [h]; simp; omega)
    · rintro ⟨j, hj, h⟩
      cases j with
      | zero => rcases h with h | h
                · exact .inl (by simpa using h)
                · exact .inr (.inl (by simpa using h))
      | succ j =>
        refine .inr (.inr ⟨j, by simpa using hj, ?_⟩)
        rcases h with h | h
        · exact .inl (by rw [h]; simp; omega)
        · exact .inr (by rw [h]; simp; omega)
def Hg (l : List Int) (lo hi : Int) : Prop := (∀ x, x ∈ l → lo ≤ x ∧ x ≤ hi) ∧ l.Pairwise (· < ·)
instance (l : List Int) (lo hi : Int) : Decidable (Hg l lo hi) := by unfold Hg; infer_instance
def F9 (l : List Int) (lo hi : Int) : Bool := decide (Hg l lo hi)
def cntF (l : List Int) (x : Int) : Int := l.count x
def MA (N : Nat) (l : List Int) : Bool := (CP N).all fun x => decide (cntF l x = 1)
def P7 (N : Int) (p : Int × List Int) : Bool := F9 p.2 0 (N - 1) && p.2.all fun n => decide (p.1 < n)
def C2 (l : List Stmt) (body : List Int) : Bool := (Cs l body).all (P7 l.length) && MA l.length ((Cs l body).map (·.2)).flatten
theorem LW (N : Nat) : CP (N + 1) = 0 :: (CP N).map (· + 1) := by
 unfold CP;rw [List.range_succ_eq_map, Qw, List.map_map, List.map_map];rfl
theorem HE : ∀ (l : List Stmt) (k : Int), ((EH l k).map (·.2)).flatten = (CP l.length).flatMap (HM (kids l))
 | [], _ => rfl
 | s :: l, k => by
  rw [EH, Qw, Qw, List.flatten_cons, List.flatten_cons, HE l, QW, LW, Qq, List.flatMap_map];rw [show HM (kids (s :: l)) 0 = s.thn ++ s.els from rfl, Qh]
  congr 2
  refine Cb fun x hx => ?_
  have h := mem_upto.1 hx
  unfold HM kids;rw [show (x + 1).toNat = x.toNat + 1 from by omega];rfl
theorem My (l : List Stmt) (body : List Int) : ((Cs l body).map (·.2)).flatten = LV l.length (kids l) body := by
 rw [Cs, Qw, List.flatten_cons, HE, LV]
theorem L9 {N : Nat} {l : List Int} : MA N l = true ↔ ∀ x : Int, 0 ≤ x → x < N → l.count x = 1 := by
 unfold MA cntF;rw [Qd]
 constructor
 ·intro h x h0 h1; have := h x (mem_upto.2 ⟨h0, h1⟩); simp at this; omega
 ·intro h x hx; have := h x (mem_upto.1 hx).1 (mem_upto.1 hx).2; simp; omega
theorem blocksB_iff {l : List Stmt} {body : List Int} : C2 l body = true ↔ inB l.length 0 body ∧ body.Pairwise (· < ·) ∧ BT l.length (kids l) ∧ (∀ m : Int, 0 ≤ m → m < l.length → (kids l m).1.Pairwise (· < ·) ∧ (kids l m).2.Pairwise (· < ·)) ∧ ∀ x : Int, 0 ≤ x → x < l.length → (LV l.length (kids l) body).count x = 1 := by
 unfold C2;rw [QR, L9, My, Cs, Q8, QR, Qd]
 have hb : ∀ (o : Int) (b : List Int), P7 l.length (o, b) = true ↔ inB l.length 0 b ∧ b.Pairwise (· < ·) ∧ ∀ x, x ∈ b → o < x := by
  intro o b;unfold P7 F9;rw [QR, decide_eq_true_iff, Qd];unfold Hg inB;simp only [decide_eq_true_eq]
  constructor
  ·rintro ⟨⟨h1, h2⟩, h3⟩; exact ⟨fun x hx => by have := h1 x hx; omega, h2, h3⟩
  ·rintro ⟨h1, h2, h3⟩; exact ⟨⟨fun x hx => by have := h1 x hx; omega, h2⟩, h3⟩
 rw [hb]
 constructor
 ·rintro ⟨⟨⟨h1, h2, _⟩, h4⟩, h5⟩
  have hk : ∀ m : Int, 0 ≤ m → m < l.length → (inB l.length (m + 1) (kids l m).1 ∧ inB l.length (m + 1) (kids l m).2) ∧ (kids l m).1.Pairwise (· < ·) ∧ (kids l m).2.Pairwise (· < ·) := by
   intro m m0 m1
   have q1 := (hb _ _).1 (h4 (m, (l[m.toNat]'(by omega)).thn) (blkGo_mem.2 ⟨m.toNat, by omega, .inl (by congr 1; omega)⟩))
   have q2 := (hb _ _).1 (h4 (m, (l[m.toNat]'(by omega)).els) (blkGo_mem.2 ⟨m.toNat, by omega, .inr (by congr 1; omega)⟩))
   rw [kids_at (by omega)];exact ⟨⟨fun x hx => by have := q1.1 x hx; have := q1.2.2 x hx; omega, fun x hx => by have := q2.1 x hx; have := q2.2.2 x hx; omega⟩, q1.2.1, q2.2.1⟩
  exact ⟨h1, h2, fun m m0 m1 => (hk m m0 m1).1, fun m m0 m1 => (hk m m0 m1).2, h5⟩
 ·rintro ⟨h1, h2, h3, h4, h5⟩
  refine ⟨⟨⟨h1, h2, fun x hx => by have := h1 x hx; omega⟩, fun p hp => ?_⟩, h5⟩
  obtain ⟨j, hj, hp⟩ := blkGo_mem.1 hp
  have q3 := h3 j (by omega) (by omega)
  have q4 := h4 j (by omega) (by omega)
  rw [kids_at (by omega)] at q3 q4
  rcases hp with rfl | rfl
  ·refine (hb _ _).2 ⟨fun x hx => ?_, q4.1, fun x hx => ?_⟩
   ·have := q3.1 x hx; omega
   ·have := q3.1 x hx; omega
  ·refine (hb _ _).2 ⟨fun x hx => ?_, q4.2, fun x hx => ?_⟩
   ·have := q3.2 x hx; omega
   ·have := q3.2 x hx; omega
theorem Ax (N : Nat) : (CP N).length = N := by unfold CP; simp
theorem DT {N k : Nat} (h : k < (CP N).length) : (CP N)[k] = k := by simp [CP]
theorem shape_blocks {l : List Stmt} {body : List Int} : CC l body = true ↔ C2 l body = true ∧ ∀ (k : Nat) (h : k < (ord l.length (kids l) body).length), (ord l.length (kids l) body)[k] = (k : Int) := by
 rw [shapeB_iff, blocksB_iff]
 constructor
 ·rintro ⟨hd, hb, ho⟩
  have := DX hd hb ho
  refine ⟨⟨hb, this.2.1, hd, this.2.2, this.1⟩, fun k h => ?_⟩
  have h2 : k < (CP l.length).length := by rw [← ho]; exact h
  rw [← DT h2]
  congr 1
 ·rintro ⟨⟨hb, _, hd, _, ha⟩, ho⟩
  refine ⟨hd, hb, ?_⟩
  have hp := (L8 hd hb ha).length_eq
  refine List.ext_getElem hp fun k h1 h2 => ?_
  rw [ho k h1, DT h2]
theorem K9 {l : List Stmt} {body : List Int} (h : C2 l body = true) : (ord l.length (kids l) body).length = l.length := by
 have h := blocksB_iff.1 h
 rw [(L8 h.2.2.1 h.1 h.2.2.2.2).length_eq, Ax]
def usesF : List Stmt → Nat
 | [] => 0
 | s :: l => s.thn.length + s.els.length + usesF l
theorem KV (l : List Stmt) : usesF l = ((CP l.length).flatMap (HM (kids l))).length := by
 rw [← HE l 0];generalize (0 : Int) = k
 induction l generalizing k with
 | nil => rfl
 | cons s l ih =>
  rw [usesF, ih (k + 1), EH];simp only [Qw, List.flatten_cons, QS];omega
theorem Mr (N : Nat) : ∀ {l : List Int}, (∀ x, x ∈ l → 0 ≤ x ∧ x < N) → (∀ x : Int, 0 ≤ x → x < N → l.count x = 1) → l.length = N := by
 intro l h1 h2
 have : l.Perm (CP N) := by
  rw [List.perm_iff_count];intro x
  by_cases hx : 0 ≤ x ∧ x < N
  ·rw [h2 x hx.1 hx.2, DM hx.1 hx.2]
  ·rw [RA fun h => hx (h1 x h), RA fun h => hx (mem_upto.1 h)]
 rw [this.length_eq, Ax]
theorem GP {l : List Stmt} {body : List Int} (h : CC l body = true) : body.length + usesF l = l.length := by
 have h := shapeB_iff.1 h
 have h2 := (DX h.1 h.2.1 h.2.2).1
 have := Mr l.length (l := LV l.length (kids l) body) (fun x hx => by
  rcases QV.1 hx with hx | hx
  ·exact h.2.1 x hx
  ·obtain ⟨m, hm, hx⟩ := Qr.1 hx
   have hm := mem_upto.1 hm
   have hk := h.1 m hm.1 hm.2
   rcases QV.1 hx with hx | hx
   ·have := hk.1 x hx; omega
   ·have := hk.2 x hx; omega) h2
 unfold LV at this;rw [QS, ← KV] at this;exact this
theorem DG (l : List Stmt) {k : Nat} (h : k < l.length) : usesF (l.drop k) = (l[k]).thn.length + (l[k]).els.length + usesF (l.drop (k + 1)) := by
 rw [Q7 h, usesF]
theorem Jd (l : List Stmt) : ∀ (n : Nat), usesF (l.drop n) ≤ usesF l := by
 induction l with
 | nil => intro n; simp
 | cons s l ih =>
  intro n
  cases n with
  | zero => exact Qm _
  | succ n => have := ih n; rw [List.drop_succ_cons, usesF]; omega
theorem Dz {l : List Stmt} (hd : BT l.length (kids l)) : ∀ (k : Nat) (i : Nat) {b : List Int}, l.length - i ≤ k → inB l.length i b → (ord l.length (kids l) b).length ≤ b.length * 2 ^ usesF (l.drop i)
 | k, i, [], hk, hb => by rw [EX]; simp
 | 0, i, x :: b, hk, hb => by have := hb x (Qi ..); omega
 | k + 1, i, x :: b, hk, hb => by
  have hx := hb x (Qi ..)
  have hr := Dz hd (k + 1) i (b := b) hk fun y hy => hb y (Ql _ hy)
  have hkd := hd x (by omega) hx.2
  rw [Dy hd (BJ hb (by omega))]
  have r1 := Dz hd k (x.toNat + 1) (b := (kids l x).1) (by omega) (by rw [show ((x.toNat + 1 : Nat) : Int) = x + 1 from by omega]; exact hkd.1)
  have r2 := Dz hd k (x.toNat + 1) (b := (kids l x).2) (by omega) (by rw [show ((x.toNat + 1 : Nat) : Int) = x + 1 from by omega]; exact hkd.2)
  have hu := DG l (k := x.toNat) (by omega)
  have hle : ∀ (n j : Nat), usesF (l.drop (j + n)) ≤ usesF (l.drop j) := by
   intro n
   induction n with
   | zero => intro j; simp
   | succ n ih =>
    intro j
    have h1 := ih (j + 1)
    rw [show j + 1 + n = j + (n + 1) from by omega] at h1
    by_cases hj : j < l.length
    ·have := DG l hj; omega
    ·rw [List.drop_of_length_le (by omega : l.length ≤ j + (n + 1))]; simp [usesF]
  have h3 := hle (x.toNat - i) i
  rw [show i + (x.toNat - i) = x.toNat from by omega] at h3;rw [kids_at (by omega)] at r1 r2 ⊢;dsimp only at r1 r2 ⊢;generalize (l[x.toNat]'(by omega)).thn = t1 at *;generalize (l[x.toNat]'(by omega)).els = t2 at *;generalize usesF (l.drop (x.toNat + 1)) = u at *;generalize usesF (l.drop x.toNat) = v at *;generalize usesF (l.drop i) = z at *;rw [QS, QW, QS, QW, Nat.succ_mul]
  have h4 : 1 + (t1.length * 2 ^ u + t2.length * 2 ^ u) ≤ 2 ^ z := by
   have h5 : 2 ^ v ≤ 2 ^ z := Nat.pow_le_pow_right (by omega) h3
   have h6 : 2 ^ v = 2 ^ (t1.length + t2.length) * 2 ^ u := by rw [hu, Nat.pow_add]
   have h7 : t1.length + t2.length + 1 ≤ 2 ^ (t1.length + t2.length) := Nat.lt_two_pow_self
   have h8 : (t1.length + t2.length + 1) * 2 ^ u ≤ 2 ^ (t1.length + t2.length) * 2 ^ u := RH _ h7
   have h9 : 1 ≤ 2 ^ u := Nat.one_le_two_pow
   rw [Nat.add_mul, Nat.add_mul] at h8;omega
  omega
theorem EY {l : List Stmt} (hd : BT l.length (kids l)) {b : List Int} (hb : inB l.length 0 b) (h : b.length ≤ 16) (hn : usesF l ≤ 16) : (ord l.length (kids l) b).length ≤ 1048576 := by
 have := Dz hd l.length 0 (b := b) (by omega) hb
 rw [List.drop_zero] at this
 have h2 : 2 ^ usesF l ≤ 2 ^ 16 := Nat.pow_le_pow_right (by omega) (by omega)
 have h3 : b.length * 2 ^ usesF l ≤ 16 * 2 ^ 16 := Nat.mul_le_mul (by omega) h2
 omega
open Go.Eng
theorem Hf {l : List Int} {lo hi k : Int} (h0 : 0 ≤ k) (h1 : k < l.length) (h : Hg (l.take k.toNat) lo hi) (h2 : lo ≤ l[k.toNat]'(by omega) ∧ l[k.toNat]'(by omega) ≤ hi)
  (h3 : ∀ h : 0 < k, l[(k - 1).toNat]'(by omega) < l[k.toNat]'(by omega)) : Hg (l.take (k + 1).toNat) lo hi := by
 rw [Bh h0 h1];refine ⟨fun x hx => ?_, ?_⟩
 ·rcases QV.1 hx with hx | hx
  ·exact h.1 x hx
  ·rw [Qf.1 hx]; exact h2
 ·rw [List.pairwise_append]
  refine ⟨h.2, List.pairwise_singleton _ _, fun a ha b hb => ?_⟩;rw [Qf.1 hb]
  obtain ⟨j, hj, rfl⟩ := Qs ha
  rw [Qa] at hj
  have h4 := h3 (by omega)
  by_cases hjk : j = (k - 1).toNat
  ·subst hjk; rw [List.getElem_take]; exact h4
  ·have := List.pairwise_iff_getElem.1 h.2 j (k - 1).toNat (by rw [Qa]; omega) (by rw [Qa]; omega) (by omega)
   rw [List.getElem_take, List.getElem_take] at this;rw [List.getElem_take];omega
theorem No {l : List Int} {lo hi k : Int} (h0 : 0 ≤ k) (h1 : k < l.length) (h2 : ¬ (lo ≤ l[k.toNat]'(by omega) ∧ l[k.toNat]'(by omega) ≤ hi)) : F9 l lo hi = false := by
 unfold F9; rw [decide_eq_false_iff_not]; intro h; exact h2 (h.1 _ (Qb _))
theorem Nn {l : List Int} {lo hi k : Int} (h0 : 0 < k) (h1 : k < l.length) (h2 : l[k.toNat]'(by omega) ≤ l[(k - 1).toNat]'(by omega)) : F9 l lo hi = false := by
 unfold F9; rw [decide_eq_false_iff_not]; intro h
 have := List.pairwise_iff_getElem.1 h.2 (k - 1).toNat k.toNat (by omega) (by omega) (by omega)
 omega
theorem Nm {l : List Int} {lo hi k : Int} (h1 : (l.length : Int) ≤ k) (h : Hg (l.take k.toNat) lo hi) : F9 l lo hi = true := by
 rw [A5 h1] at h; unfold F9; exact decide_eq_true h
theorem IG (l : List Int) (lo hi : Int) (hl : l.length ≤ 1073741824) : Fun Try.prog 115 [.t (T.ints l), .t (.int lo), .t (.int hi)] (Aw [.t (.bool (F9 l lo hi))]) := by
 refine Fun.begin tys Try.func115 Z Z (N := 35) [(0, .t (T.ints l)), (1, .t (.int lo)), (2, .t (.int hi))] Z Z (fun w0 G F0 => ?_);refine sG (eZ Z (nB (sQ (sG (eZ Z (evE ?_))))));refine eZ Z (nB (AD ?_));refine lK (α := Int) [0, 1, 2, 9, 10] [] (fun x => [(11, .t (.int x))]) (fun x => []) (fun x => 0 ≤ x ∧ x ≤ l.length ∧ Hg (l.take x.toNat) lo hi) (fun x => Int.toNat (l.length - x)) 0 ?_ (fun k hx => ?_)
 ·exact ⟨by omega, by omega, fun x hx => by simp at hx, by simp⟩
 obtain ⟨hk0, hk1, hk2⟩ := hx
 refine nY Z (sG (eZ Z (nB (sQ ?_))));refine AB Z (fun h1 => ?_) (fun h1 => ?_)
 ·
  simp only [HS] at h1;refine AC (tN (sQ (AD (sG (eZ Z ?_)))));refine iY (k := ?_);refine eK 3 Z (nA (eK 3 Z (kZ [0,1,2,7,8,9,10,11,12,13,14,15,16,17,18] Z (AI ?_))));refine ⟨_, Au _ _ _, rfl, ?_⟩;refine eK 2 Z ?_;refine gB (fun h2 => ?_) (fun h2 => ?_)
  ·
   simp only [HS] at h2;refine xK 6 Z (kZ [0,1,2,7,8,9,10,11,12,13,14,15,16,17,18,19,20,21,22,23,24,25,26,27,28] Z (xK 5 Z (nB (Ap Z (sG (eZ Z (nB (rT (bR (tR (AN (bR (tR (eR ?_))))))))))))))
   ·exact retB (No hk0 (by omega) h2).symm
  simp only [HS] at h2;refine xK 3 Z ?_;refine gB (fun h3 => ?_) (fun h3 => ?_)
  ·
   simp only [HS] at h3;refine xK 3 Z (kZ [0,1,2,7,8,9,10,11,12,13,14,15,16,17,18,19,20,21,22,23,24,25,26,27,28] Z (xK 5 Z (nB (Aq Z (AC (bN (tN (rG (evI ?_)))))))));refine eZ Z (oN ?_);refine lQ _ ?_ ?_
   ·skip
    exact ⟨by omega, by omega, Hf hk0 (by omega) hk2 h2 (fun h => by omega)⟩
   ·(show Int.toNat _ < Int.toNat _); omega
  simp only [HS] at h3;refine xK 2 Z (gY Z (evI ?_));refine kZ [0,1,2,7,8,9,10,11,12,13,14,15,16,17,18,19,20,21,22,23,24,25,26,27] Z (gY Z ?_);refine iY (k := ?_);refine xK 5 Z (nB ?_);refine AB Z (fun h4 => ?_) (fun h4 => ?_)
  ·
   simp only [HS] at h4;refine sG (eZ Z (nB (rT (bR (tR (AN (bR (tR (eR ?_)))))))))
   ·exact retB (Nn (by assumption) (by omega) (by assumption)).symm
  simp only [HS] at h4;refine AC (bN (tN (rG (evI ?_))));refine eZ Z (oN ?_);refine lQ _ ?_ ?_
  ·skip
   exact ⟨by omega, by omega, Hf hk0 (by omega) hk2 h2 (fun h => by omega)⟩
  ·(show Int.toNat _ < Int.toNat _); omega
 simp only [HS] at h1;refine AP (tE (AM (AK (tN (sG (eZ Z (nB (rT (eR ?_)))))))))
 ·exact retB (Nm (by omega) hk2).symm
theorem PV (l : List Int) : ∀ x, x ∈ l.map T.int → (T.cells x).length = 1 ∧ ∀ y, y ∈ T.cells x → ∃ v, y = .v v := by
 intro x hx
 obtain ⟨a, _, rfl⟩ := RN.1 hx
 exact ⟨rfl, fun y hy => ⟨_, Qf.1 hy⟩⟩
def A2 (f : Func) (b : List Int) : List Int := ord f.stmts.length (kids f.stmts) b
theorem FV {f : Func} (hd : BT f.stmts.length (kids f.stmts)) {b : List Int} (hb : inB f.stmts.length 0 b) {k : Int} (h0 : 0 ≤ k) (h1 : k < b.length) (hn : (b[k.toNat]'(by omega)).toNat < f.stmts.length) :
  A2 f (b.drop k.toNat) = b[k.toNat]'(by omega) :: (A2 f (f.stmts[(b[k.toNat]'(by omega)).toNat]'hn).thn ++ (A2 f (f.stmts[(b[k.toNat]'(by omega)).toNat]'hn).els ++ A2 f (b.drop (k + 1).toNat))) := by
 have e := Cc h0 h1
 rw [e];unfold A2;rw [Dy hd fun x hx => hb x (by rw [← e] at hx; exact RM hx), kids_at hn];simp only [RI, Qh]
theorem Jx {f : Func} : A2 f [] = [] := EX
theorem IC (f : Func) (b : List Int) (hf : f.ok 1048576) (hd : BT f.stmts.length (kids f.stmts)) (hb : inB f.stmts.length 0 b) (hbl : b.length ≤ 1048576) (hlen : (A2 f b).length ≤ 1048576) (ih : ∀ n, n ∈ b → ∀ h : n.toNat < f.stmts.length, Fun Try.prog 107 [.t f.tt, .t (T.ints (f.stmts[n.toNat]).thn)] (.own (T.ints (A2 f (f.stmts[n.toNat]).thn))) ∧ Fun Try.prog 107 [.t f.tt, .t (T.ints (f.stmts[n.toNat]).els)] (.own (T.ints (A2 f (f.stmts[n.toNat]).els)))) : Fun Try.prog 107 [.t f.tt, .t (T.ints b)] (Aw [.own (T.ints (A2 f b))]) := by
 have hl : f.stmts.length ≤ 1048576 := hf.2.1.1
 refine Fun.begin tys Try.func107 Z Z (N := 40) [(0, .t f.tt), (1, .t (T.ints b))] Z Z (fun w0 G F0 => ?_);refine sG (AU Z Z (AA Z) Z Z (nZ Z (eZ Z (nA (eZ Z (WO_le (Le.nilOwn (u := 5) 1 Z) (WO_le (Le.adoptE (u := 5) 5 Z Z) (nZ Z (nB (sQ (sG (eZ Z (evE ?_)))))))))))));refine eZ Z (nB (AD ?_));refine lK (α := Int × Nat × List T) [2, 8, 9] [2] (fun x => [(10, .t (.int (x.1))), (5, .sl 5 0 (x.2.1))]) (fun x => [(5, .L 1 (x.2.2))]) (fun x => 0 ≤ (x.1) ∧ (x.1) ≤ b.length ∧ (x.2.1) = (x.2.2).length ∧ ∃ done : List Int, (x.2.2) = done.map T.int ∧ A2 f b = done ++ A2 f (b.drop (x.1).toNat)) (fun x => Int.toNat (b.length - (x.1))) (0, 0, []) ?_ (fun x hx => ?_)
 ·exact ⟨by omega, by omega, rfl, [], rfl, rfl⟩
 obtain ⟨k, m, xs⟩ := x
 obtain ⟨hk0, hk1, hm, done, hx, he⟩ := hx
 dsimp only at hk0 hk1 hm hx he ⊢;refine nY Z (sG (eZ Z (nB (sQ ?_))));refine AB Z (fun h1 => ?_) (fun h1 => ?_)
 ·
  simp only [HS] at h1;refine AC (tN (sQ (AD (sG ?_))));refine iY (k := ?_);refine eZ Z ?_
  have hn := hb _ (Qb (l := b) (n := k.toNat) (by omega))
  have hs := FV hd hb hk0 h1 (by omega)
  have hq := congrArg List.length he
  rw [hs] at hq;simp only [QS, QW] at hq
  have hxl := congrArg List.length hx
  rw [QT] at hxl;refine eZ Z (nA (eK 2 Z (bZ [T.int (b[k.toNat]'(by omega))] ?_)));refine nZ Z (AF tys Z Z (AA Z) Z Z Z Z Z (.own Z (by first | omega | (simp only [QS]; omega))) Z (.own Z (by first | decide | omega)) (by decide) (by simp only [Qa, QW, List.length_nil]; omega) (by decide) Z ?_);refine nZ Z (eZ Z (kZ [2,5,7,8,9,10,11,12,13,14,15,16,17] Z (nB (sQ (Cq 9 BO Z (by kernel_rfl) (by kernel_rfl) (evQ ?_))))));refine evQ ?_;refine evQ ?_;refine evQ ?_;refine evQ ?_;refine CO tys Z Z (AA Z) Z Z Z Z Z Z Z (by omega) _ (G3 _ _ (by omega) (by omega)) (AR Z (evQ ?_));refine evQ ?_;refine Gh ?_;refine ⟨_, (ih _ (Qb _) _).1, rfl, ?_⟩;refine BF (nZ Z (WO_le (Le.freeze (u := 26) Z) (nZ Z (AF tys Z Z (AA Z) Z Z Z Z Z (.own Z (by first | omega | (simp only [QS]; omega))) Z (.read (PV _)) (by decide) (by simp only [Qa, QS, QT, QW, List.length_nil]; omega) (by decide) Z ?_))));refine nZ Z (eZ Z (nB (Cq 9 BO Z (by kernel_rfl) (by kernel_rfl) (evQ ?_))));refine evQ ?_;refine evQ ?_;refine evQ ?_;refine AR Z (evQ ?_);refine CO tys Z Z (AA Z) Z Z Z Z Z Z Z (by omega) _ (G3 _ _ (by omega) (by omega)) (evQ ?_);refine evQ ?_;refine Gh ?_;refine ⟨_, (ih _ (Qb _) _).2, rfl, ?_⟩;refine BF (nZ Z (WO_le (Le.freeze (u := 36) Z) (nZ Z (AF tys Z Z (AA Z) Z Z Z Z Z (.own Z (by first | omega | (simp only [QS]; omega))) Z (.read (PV _)) (by decide) (by simp only [Qa, QS, QT, QW, List.length_nil]; omega) (by decide) Z ?_))));refine nZ Z (eZ Z (oN (bN (tN (rG (evI ?_))))));refine eZ Z (oN ?_);refine lQ (_, _, _) ?_ ?_
  ·dsimp only
   refine ⟨by omega, by omega, by simp, done ++ b[k.toNat]'(by omega) :: (A2 f (f.stmts[(b[k.toNat]'(by omega)).toNat]'(by omega)).thn ++ A2 f (f.stmts[(b[k.toNat]'(by omega)).toNat]'(by omega)).els), ?_, ?_⟩
   ·subst hm hx; repeat rw [QU (by simp)]
    simp
   ·rw [he, hs]; simp
  ·(show Int.toNat _ < Int.toNat _); omega
 simp only [HS] at h1;refine AP (tE (AM (AK (tN (sG (eK 2 Z (nB (AO (Le.gather (u := 4) (id := 5) Z Z (by omega)) (rT (eR ?_))))))))))
 ·(rw [he, Av h1, Jx, Qo, hm, Qj, hx]; rfl)
theorem Jw {f : Func} (hd : BT f.stmts.length (kids f.stmts)) : ∀ {b : List Int}, inB f.stmts.length 0 b → ∀ n, n ∈ b → ∀ h : n.toNat < f.stmts.length, (A2 f (f.stmts[n.toNat]).thn).length + (A2 f (f.stmts[n.toNat]).els).length ≤ (A2 f b).length
 | [], _, n, hn, _ => by cases hn
 | x :: b, hb, n, hn, h => by
  have e := FV hd hb (k := 0) (by omega) (by simp) (by have := hb x (Qi ..); simp; omega)
  have e2 := congrArg List.length e
  simp only [Int.toNat_zero, List.drop_zero, List.getElem_cons_zero, QW, QS, Int.zero_add, List.drop_succ_cons, Int.reduceToNat] at e2
  rcases QZ.1 hn with rfl | hn
  ·omega
  ·have := Jw hd (fun y hy => hb y (Ql _ hy)) n hn h
   omega
theorem CB {f : Func} (hf : f.ok 1048576) {n : Nat} (h : n < f.stmts.length) : (f.stmts[n]).thn.length ≤ 1048576 ∧ (f.stmts[n]).els.length ≤ 1048576 ∧ (f.stmts[n]).ex.length ≤ 1048576 := by
 have := hf.2.1.2 _ (Qb h)
 exact ⟨this.2.1, this.2.2.1, this.1⟩
theorem Da (f : Func) (hf : f.ok 1048576) (hd : BT f.stmts.length (kids f.stmts)) : ∀ (k : Nat) (i : Int) (b : List Int), 0 ≤ i → f.stmts.length - i ≤ k → inB f.stmts.length i b → b.length ≤ 1048576 → (A2 f b).length ≤ 1048576 →
  Fun Try.prog 107 [.t f.tt, .t (T.ints b)] (.own (T.ints (A2 f b)))
 | k, i, b, hi, hk, hb, hbl, hlen => by
  refine IC f b hf hd (BJ hb hi) hbl hlen fun n hn h => ?_
  have h1 := hb n hn
  have h2 := hd n (by omega) h1.2
  have h3 := Jw hd (BJ hb hi) n hn h
  have h4 := CB hf h
  rw [kids_at h] at h2
  match k, hk with
  | 0, hk => omega
  | k + 1, hk => exact ⟨Da f hf hd k (n + 1) _ (by omega) (by omega) h2.1 h4.1 (by omega), Da f hf hd k (n + 1) _ (by omega) (by omega) h2.2 h4.2.1 (by omega)⟩
theorem Ek (f : Func) (hf : f.ok 1048576) (hd : BT f.stmts.length (kids f.stmts)) {b : List Int} (hb : inB f.stmts.length 0 b) (hbl : b.length ≤ 1048576) (hlen : (A2 f b).length ≤ 1048576) :
  Fun Try.prog 107 [.t f.tt, .t (T.ints b)] (.own (T.ints (A2 f b))) := Da f hf hd f.stmts.length 0 b (by omega) (by omega) hb hbl hlen
theorem ordO {F : Nat} {ds : List D} {o : List Int} {y : T} {z : List T} (h : z = o.map T.int) (hf : FunO Try.prog F ds (T.ints o) y) : FunO Try.prog F ds (.list 1 z) y := by rw [h]; exact hf
theorem H0 (f : Func) (b o : List Int) (hf : f.ok 1048576) (hd : BT f.stmts.length (kids f.stmts)) (hb : inB f.stmts.length 0 b) (hbl : b.length ≤ 1048576) (hlen : o.length + (A2 f b).length ≤ 2097152) (ih : ∀ n, n ∈ b → ∀ h : n.toNat < f.stmts.length, ∀ o : List Int, (o.length + (A2 f (f.stmts[n.toNat]).thn).length ≤ 2097152 → FunO Try.prog 101 [.t f.tt, .t (T.ints (f.stmts[n.toNat]).thn)] (T.ints o) (T.ints (o ++ A2 f (f.stmts[n.toNat]).thn))) ∧ (o.length + (A2 f (f.stmts[n.toNat]).els).length ≤ 2097152 → FunO Try.prog 101 [.t f.tt, .t (T.ints (f.stmts[n.toNat]).els)] (T.ints o) (T.ints (o ++ A2 f (f.stmts[n.toNat]).els)))) : FunO Try.prog 101 [.t f.tt, .t (T.ints b)] ((T.ints o)) ((T.ints (o ++ A2 f b))) := by
 have hl : f.stmts.length ≤ 1048576 := hf.2.1.1
 refine FunO.intro tys Try.func101 Z Z (N := 39) (ds := [.t f.tt, .t (T.ints b)]) Z (fun w0 G F0 => ?_);refine nY Z (AO (Le.adoptE (u := 2) 2 Z Z) (nY Z (sG (AU Z Z (AA Z) Z Z (nZ Z (eZ Z (nB (sQ (sG (eZ Z (evE ?_)))))))))));refine eZ Z (nB (AD ?_));refine lK (α := Int × Nat × List T) [3, 9, 10] [3] (fun x => [(11, .t (.int (x.1))), (2, .sl 2 0 (x.2.1))]) (fun x => [(2, .L 1 (x.2.2))]) (fun x => 0 ≤ (x.1) ∧ (x.1) ≤ b.length ∧ (x.2.1) = (x.2.2).length ∧ ∃ done : List Int, (x.2.2) = done.map T.int ∧ o ++ A2 f b = done ++ A2 f (b.drop (x.1).toNat)) (fun x => Int.toNat (b.length - (x.1))) (0, (o.map T.int).length, o.map T.int) ?_ (fun x hx => ?_)
 ·exact ⟨by omega, by omega, rfl, o, rfl, rfl⟩
 obtain ⟨k, m, xs⟩ := x
 obtain ⟨hk0, hk1, hm, done, hx, he⟩ := hx
 dsimp only at hk0 hk1 hm hx he ⊢;refine nY Z (sG (eZ Z (nB (sQ ?_))));refine AB Z (fun h1 => ?_) (fun h1 => ?_)
 ·
  simp only [HS] at h1;refine AC (tN (sQ (AD (sG ?_))));refine iY (k := ?_);refine eZ Z ?_
  have hn := hb _ (Qb (l := b) (n := k.toNat) (by omega))
  have hs := FV hd hb hk0 h1 (by omega)
  have hq := congrArg List.length he
  rw [hs] at hq;simp only [QS, QW] at hq
  have hxl := congrArg List.length hx
  rw [QT] at hxl;refine eZ Z (nA (eK 2 Z (bZ [T.int (b[k.toNat]'(by omega))] ?_)));refine nZ Z (AF tys Z Z (AA Z) Z Z Z Z Z (.own Z (by first | omega | (simp only [QS]; omega))) Z (.own Z (by first | decide | omega)) (by decide) (by simp only [Qa, QW, List.length_nil]; omega) (by decide) Z ?_);refine nZ Z (eZ Z (kZ [2,3,8,9,10,11,12,13,14,15,16,17,18] Z (nB (sQ (Cq 8 BO Z (by kernel_rfl) (by kernel_rfl) (evQ ?_))))));refine evQ ?_;refine evQ ?_;refine evQ ?_;refine CO tys Z Z (AA Z) Z Z Z Z Z Z Z (by omega) _ (G3 _ _ (by omega) (by omega)) (evQ ?_);refine AR Z (evQ ?_);refine evQ ?_;refine BF (WO_le (Le.freeze (u := 19) Z) ?_)
  skip
  refine nZ Z (WO_le (Le.gather (u := 26) (id := 2) Z Z (by first | (simp; done) | (simp; omega) | omega)) ?_);refine nZ Z (E8 (u := 26) (az := [.tmp 19, .tmp 25]) Z Z (AA Z) Z Z Z Z (.inl ⟨rfl, rfl⟩) (ordO (o := done ++ [b[k.toNat]'(by omega)]) (by subst hm hx; (repeat rw [QU (by simp)]); simp) ((ih _ (Qb _) _ _).1 (by simp only [QS, QW, List.length_nil]; omega))) ?_);refine WO_le (Le.adoptE (u := 27) 2 Z (by first | exact Kl | exact Z)) ?_;refine nZ Z (eZ Z (nB (Cq 8 BO Z (by kernel_rfl) (by kernel_rfl) (evQ ?_))));refine evQ ?_;refine evQ ?_;refine evQ ?_;refine AR Z (CO tys Z Z (AA Z) Z Z Z Z Z Z Z (by omega) _ (G3 _ _ (by omega) (by omega)) (evQ ?_));refine evQ ?_;refine evQ ?_;refine BF (WO_le (Le.freeze (u := 28) Z) ?_)
  skip
  refine nZ Z (WO_le (Le.gather (u := 35) (id := 2) Z Z (by first | (simp; done) | (simp; omega) | omega)) ?_);refine nZ Z (E8 (u := 35) (az := [.tmp 28, .tmp 34]) Z Z (AA Z) Z Z Z Z (.inl ⟨rfl, rfl⟩) (ordO (o := done ++ [b[k.toNat]'(by omega)] ++ A2 f (f.stmts[(b[k.toNat]'(by omega)).toNat]'(by omega)).thn) (by rw [QU (by simp)]) ((ih _ (Qb _) _ _).2 (by simp only [QS, QW, List.length_nil]; omega))) ?_);refine WO_le (Le.adoptE (u := 36) 2 Z (by first | exact Kl | exact Z)) ?_;refine nZ Z (eZ Z (oN (bN (tN (rG (evI ?_))))));refine eZ Z (oN ?_);refine lQ (_, _, _) ?_ ?_
  ·dsimp only
   exact ⟨by omega, by omega, by simp, done ++ [b[k.toNat]'(by omega)] ++ A2 f (f.stmts[(b[k.toNat]'(by omega)).toNat]'(by omega)).thn ++ A2 f (f.stmts[(b[k.toNat]'(by omega)).toNat]'(by omega)).els, rfl, by rw [he, hs]; simp⟩
  ·(show Int.toNat _ < Int.toNat _); omega
 simp only [HS] at h1;refine AP (tE (AM (AK (tN (sG (eK 2 Z (nB (AO (Le.gather (u := 6) (id := 2) Z Z (by omega)) (rT (eR ?_))))))))))
 ·(rw [he, Av h1, Jx, Qo, hm, Qj, hx]; rfl)
theorem DW (f : Func) (hf : f.ok 1048576) (hd : BT f.stmts.length (kids f.stmts)) : ∀ (k : Nat) (i : Int) (b o : List Int), 0 ≤ i → f.stmts.length - i ≤ k → inB f.stmts.length i b → b.length ≤ 1048576 → o.length + (A2 f b).length ≤ 2097152 →
  FunO Try.prog 101 [.t f.tt, .t (T.ints b)] (T.ints o) (T.ints (o ++ A2 f b))
 | k, i, b, o, hi, hk, hb, hbl, hlen => by
  refine H0 f b o hf hd (BJ hb hi) hbl hlen fun n hn h o => ?_
  have h1 := hb n hn
  have h2 := hd n (by omega) h1.2
  have h4 := CB hf h
  rw [kids_at h] at h2
  match k, hk with
  | 0, hk => omega
  | k + 1, hk => exact ⟨DW f hf hd k (n + 1) _ o (by omega) (by omega) h2.1 h4.1, DW f hf hd k (n + 1) _ o (by omega) (by omega) h2.2 h4.2.1⟩
theorem Eh (f : Func) (hf : f.ok 1048576) (hd : BT f.stmts.length (kids f.stmts)) {b : List Int} (hb : inB f.stmts.length 0 b) (hbl : b.length ≤ 1048576) (hlen : (A2 f b).length ≤ 1048576) :
  FunO Try.prog 101 [.t f.tt, .t (T.ints b)] (.list 1 []) (T.ints (A2 f b)) := DW f hf hd f.stmts.length 0 b [] (by omega) (by omega) hb hbl (by simp; omega)
open Go.Eng
theorem Oe (l : List Stmt) (body : List Int) : (Cs l body).length = 1 + 2 * l.length := by rw [Cs, QW, Ib]; omega
theorem LA (l : List Stmt) : ∀ (n : Nat) (h : n < l.length) (k : Int), (EH l k).take (2 * (n + 1)) = (EH l k).take (2 * n) ++ [(k + n, (l[n]).thn), (k + n, (l[n]).els)] := by
 induction l with
 | nil => intro n h; simp at h
 | cons s l ih =>
  intro n h k
  cases n with
  | zero => simp [EH]
  | succ n =>
   have := ih n (by simpa using h) (k + 1)
   rw [EH, show 2 * (n + 1 + 1) = 2 * (n + 1) + 1 + 1 from by omega, List.take_succ_cons, List.take_succ_cons, this, show 2 * (n + 1) = 2 * n + 1 + 1 from by omega, List.take_succ_cons, List.take_succ_cons]
   simp
   omega
theorem blkO_take {l : List Stmt} {body : List Int} {k : Int} (h0 : 0 ≤ k) (h1 : k < l.length) : (Cs l body).take (1 + 2 * (k + 1).toNat) = (Cs l body).take (1 + 2 * k.toNat) ++ [(k, (l[k.toNat]'(by omega)).thn), (k, (l[k.toNat]'(by omega)).els)] := by
 have := LA l k.toNat (by omega) 0
 rw [Cs, show (k + 1).toNat = k.toNat + 1 from by omega, show 1 + 2 * (k.toNat + 1) = 2 * (k.toNat + 1) + 1 from by omega, List.take_succ_cons, this, show 1 + 2 * k.toNat = 2 * k.toNat + 1 from by omega, List.take_succ_cons]
 have e : (0 : Int) + k.toNat = k := by omega
 rw [e]; rfl
theorem HA {f : Func} (hf : f.ok 1048576) {p : Int × List Int} (h : p ∈ Cs f.stmts f.body) : p.2.length ≤ 1048576 := by
 rw [Cs] at h
 rcases QZ.1 h with rfl | h
 ·exact hf.1
 ·obtain ⟨j, hj, h⟩ := blkGo_mem.1 h
  have := CB hf hj
  rcases h with rfl | rfl
  ·exact this.1
  ·exact this.2.1
def cnts (N : Nat) (l : List Int) : List Int := (CP N).map (cntF l)
theorem Bo (N : Nat) (l : List Int) : (cnts N l).length = N := by rw [cnts, QT, Ax]
theorem Mu {N : Nat} {l : List Int} {n : Int} (h0 : 0 ≤ n) (h1 : n < N) : (cnts N l)[n.toNat]'(by rw [Bo]; omega) = cntF l n := by
 unfold cnts;rw [List.getElem_map, DT (by rw [Ax]; omega), show ((n.toNat : Nat) : Int) = n from by omega]
theorem OX {N : Nat} {l : List Int} {n : Int} (h0 : 0 ≤ n) (h1 : n < N) : (cnts N l).set n.toNat (cntF l n + 1) = cnts N (l ++ [n]) := by
 refine List.ext_getElem (by rw [Q6, Bo, Bo]) fun i h2 h3 => ?_
 rw [Bo] at h3
 have e : ∀ l, (cnts N l)[i]? = some (cntF l i) := fun l => by
  rw [List.getElem?_eq_getElem (by rw [Bo]; omega)]
  have := Mu (l := l) (n := (i : Int)) (by omega) (by omega : (i : Int) < N)
  rw [← this]; rfl
 rw [List.getElem_set]
 have e1 := e l
 have e2 := e (l ++ [n])
 rw [List.getElem?_eq_getElem (by rw [Bo]; omega), Option.some_inj] at e1 e2;rw [e1, e2];unfold cntF;rw [List.count_append];split
 ·rename_i hi
  rw [show n = (i : Int) from by omega]; simp
 ·rename_i hi
  rw [List.count_singleton]
  have : (n == (i : Int)) = false := by simp; omega
  simp [this]
theorem cntsT {N : Nat} {l : List Int} {n : Int} {ys : List T} (h : ys = (cnts N l).map T.int) (h0 : 0 ≤ n) (h1 : n < N) : ys.set n.toNat (T.int (cntF l n + 1)) = (cnts N (l ++ [n])).map T.int := by
 rw [h, ← RB, OX h0 h1]
theorem argI {F : Nat} {ds : List D} {r : D} {l : List Int} {xs : List T} (h : xs = l.map T.int) (hf : Fun Try.prog F (.t (T.ints l) :: ds) r) : Fun Try.prog F (.t (.list 1 xs) :: ds) r := by rw [h]; exact hf
theorem OY (N : Nat) : cnts N [] = List.replicate N 0 := by
 unfold cnts cntF
 have : ∀ l : List Int, l.map (fun x => ((([] : List Int).count x : Nat) : Int)) = List.replicate l.length 0 := by
  intro l
  induction l with
  | nil => rfl
  | cons x l ih => rw [Qw, ih]; rfl
 rw [this, Ax]
theorem Mt {N : Nat} {l : List Int} : CS (cnts N l) 1 1 = MA N l := by
 unfold CS cnts MA;rw [List.all_map]
 congr 1
 funext x
 simp only [Function.comp];exact decide_eq_decide.2 (by omega)
theorem P0 (l : List Int) (n : Int) : 0 ≤ cntF l n ∧ cntF l n ≤ l.length := by
 unfold cntF; have := List.count_le_length (l := l) (a := n); omega
theorem ownAt {N : Nat} {l : List Int} {n : Int} (h0 : 0 ≤ n) (h1 : n < N) : ((cnts N l).map T.int)[0 + n.toNat]? = some (T.int (cntF l n)) := by
 rw [Qg, List.getElem?_map, List.getElem?_eq_getElem (by rw [Bo]; omega), Mu h0 h1]; rfl
def Eb (B : List (Int × List Int)) (i : Nat) : List Int := ((B.take i).map (·.2)).flatten
theorem KG {B : List (Int × List Int)} {i : Int} (h0 : 0 ≤ i) (h1 : i < B.length) : Eb B (i + 1).toNat = Eb B i.toNat ++ (B[i.toNat]'(by omega)).2 := by
 unfold Eb; rw [Bh h0 h1, Qt, List.flatten_append]; simp
theorem IR {B : List (Int × List Int)} (hB : ∀ p, p ∈ B → p.2.length ≤ 1048576) : ∀ i : Nat, i ≤ B.length → (Eb B i).length ≤ i * 1048576
 | 0, _ => by simp [Eb]
 | i + 1, h => by
  have h1 := IR hB i (by omega)
  have h2 := KG (B := B) (i := (i : Int)) (by omega) (by omega)
  have h3 := hB _ (Qb (l := B) (n := (i : Int).toNat) (by omega))
  have h4 := congrArg List.length h2
  rw [QS] at h4;rw [show ((i : Int) + 1).toNat = i + 1 from by omega] at h4;rw [show (Eb B (i : Int).toNat).length = (Eb B i).length from by rw [show (i : Int).toNat = i from by omega]] at h4;omega
theorem Em {α : Type} {p : α → Bool} {l : List α} {k : Int} (h0 : 0 ≤ k) (h1 : k < l.length) (h : p (l[k.toNat]'(by omega)) = false) : l.all p = false :=
 List.all_eq_false.2 ⟨_, Qb _, by simpa using h⟩
theorem Cp {α : Type} {p : α → Bool} {l : List α} {k : Int} (h0 : 0 ≤ k) (h1 : k < l.length) (h : (l.take k.toNat).all p = true) (h2 : p (l[k.toNat]'(by omega)) = true) : (l.take (k + 1).toNat).all p = true := by
 rw [Bh h0 h1, List.all_append, h]; simpa using h2
theorem EI {α : Type} {p : α → Bool} {l : List α} {k : Int} (h1 : (l.length : Int) ≤ k) (h : (l.take k.toNat).all p = true) : l.all p = true := by
 rwa [A5 h1] at h
theorem Np {l : List Int} {lo hi : Int} (h : F9 l lo hi = true) {n : Int} (hn : n ∈ l) : lo ≤ n ∧ n ≤ hi := (of_decide_eq_true h).1 n hn
theorem IE (f : Func) (hf : f.ok 1048576) (hN : f.stmts.length ≤ 16) : Fun Try.prog 106 [.t f.tt] (Aw [.t (.bool (C2 f.stmts f.body))]) := by
 have hbl := Oe f.stmts f.body
 refine Fun.begin tys Try.func106 Z Z (N := 77) [(0, .t f.tt)] Z Z (fun w0 G F0 => ?_);refine sG (AU Z Z (AA Z) Z Z (nZ Z (eZ Z (nA (eK 2 Z (evE ?_))))));refine Ft tys (.v (.int .i64 0)) _ Z Z (AA Z) Z Z Z Z Z (by repeat (first | exact AbsL.nil' | refine AbsL.v' ?_ | refine AbsL.none' ?_)) Z (by omega) (by decide) ?_;refine nZ Z (eZ Z (nB (sQ (kY [1,2,3] Z (rG (eK 2 Z (nZ Z ?_)))))));refine Fs (u := 17) 117 Z (fun v17 => ?_);refine nZ Z (bZ [.v v17] ?_);refine nZ Z (eZ Z (nA (bZ [T.int (-1)] ?_)));refine nZ Z (eZ Z (nB (sQ (sG (eK 2 Z (evE ?_))))));refine kZ [1,2,3,4,5,21,22] Z (eZ Z (nB (AD ?_)));refine lK (α := Int × Nat × List T × Nat × List T × List Value × List T) [1, 3, 21, 22] [1, 15] (fun x => [(23, .t (.int (x.1))), (4, .sl 18 0 (x.2.1)), (5, .sl 19 0 (x.2.2.2.1))]) (fun x => [(18, .L 1 (x.2.2.1)), (19, .L 1 (x.2.2.2.2.1)), (117, .ro (x.2.2.2.2.2.1) (x.2.2.2.2.2.2))]) (fun x => 0 ≤ (x.1) ∧ (x.1) ≤ f.stmts.length ∧ (x.2.1) = (x.2.2.1).length ∧ (x.2.2.2.1) = (x.2.2.2.2.1).length ∧ (x.2.2.1) = (x.2.2.2.2.2.1).map T.v ∧ (x.2.2.2.2.2.1).length = 1 + 2 * (x.1).toNat ∧ (x.2.2.2.2.2.2) = ((Cs f.stmts f.body).take (1 + 2 * (x.1).toNat)).map (fun p => T.ints p.2) ∧ (x.2.2.2.2.1) = ((Cs f.stmts f.body).take (1 + 2 * (x.1).toNat)).map (fun p => T.int p.1)) (fun x => Int.toNat (f.stmts.length - (x.1))) (0, 1, [.v v17], 1, [T.int (-1)], [v17], [T.ints f.body]) ?_ (fun x hx => ?_)
 ·exact ⟨by omega, by omega, rfl, rfl, rfl, rfl, rfl, rfl⟩
 obtain ⟨k, m4, xs4, m5, xs5, us, ts⟩ := x
 obtain ⟨hk0, hk1, hm4, hm5, hx4, hul, hts, hx5⟩ := hx
 dsimp only at hk0 hk1 hm4 hm5 hx4 hul hts hx5 ⊢;refine nY Z (sG (eZ Z (nB (sQ ?_))));refine AB Z (fun h1 => ?_) (fun h1 => ?_)
 ·
  simp only [HS] at h1;refine AC (tN (sQ (AD (sG (eZ Z ?_)))));refine iY (k := ?_);refine eZ Z ?_
  try refine WO_le (Le.freeze (u := 27) rfl) ?_
  refine nZ Z (AJ tys Z Z (AA Z) Z Z Z (nZ Z (eZ Z (sT Z (nZ Z (nB (sQ (kY [1,3,4,5,6,7,21,22,23,24,25,26,27] Z (rG (eK 5 Z (nZ Z ?_)))))))))));refine Fs (u := 30) 130 Z (fun v30 => ?_);refine nZ Z ?_;refine Fs (u := 32) 132 Z (fun v32 => ?_);refine nZ Z (WO_le (Le.roJoin 117 130 Z Z) (nZ Z (WO_le (Le.roJoin 117 132 Z Z) (nZ Z (bZ [.v v30, .v v32] ?_)))));refine nZ Z (AF tys Z Z (AA Z) Z Z Z Z Z (.own Z (by first | omega | (simp only [QS]; omega))) Z (.own Z (by first | decide | omega)) (by decide) (by have q := congrArg List.length hx4; simp only [QT] at q; simp only [Qa, QW, List.length_nil]; omega) (by decide) Z ?_);refine nZ Z (eZ Z (nB (kY [1,3,4,5,6,7,21,22,23,24,25,26,27,28,29,30,31,32,33,34] Z (rG (eK 3 Z (bZ [T.int k, T.int k] ?_))))));refine nZ Z (AF tys Z Z (AA Z) Z Z Z Z Z (.own Z (by first | omega | (simp only [QS]; omega))) Z (.own Z (by first | decide | omega)) (by decide) (by have q := congrArg List.length hx5; simp only [QT, Qa] at q; simp only [Qa, QW, List.length_nil]; omega) (by decide) Z ?_);refine nZ Z (eZ Z (oN (bN (tN (rG (evI ?_))))));refine eZ Z (oN ?_);refine lQ (_, _, _, _, _, _, _) ?_ ?_
  ·dsimp only
   refine ⟨by omega, by omega, by simp, by simp, ?_, ?_, ?_, ?_⟩
   ·subst hm4 hx4; rw [QU (by simp)]; simp
   ·simp; omega
   ·rw [hts, blkO_take hk0 (by omega), Qt, Qh]; rfl
   ·subst hm5; rw [Qj, hx5, blkO_take hk0 (by omega), Qt]; rfl
  ·(show Int.toNat _ < Int.toNat _); omega
 simp only [HS] at h1;refine AP (tE (AM (AK (tN (sQ (sG (eZ Z ?_)))))))
 have hk : k = f.stmts.length := by omega
 have hx6 : xs5 = (Cs f.stmts f.body).map (fun p => T.int p.1) := by rw [hx5, QU (by omega)]
 refine nZ rfl (WO_le (Le.gather (u := 41) (id := 18) rfl rfl (by omega)) (nZ rfl (WO_le (Le.freeze (u := 41) rfl) (nZ rfl (WO_le (Le.roReadE (u := 41) (id := 117) (ts' := (Cs f.stmts f.body).map (fun p => T.ints p.2)) rfl rfl (by rw [hm4, Qj, hx4]) (by rw [hts, QU (by omega)]) (by rw [hts]; intro t ht; obtain ⟨p, _, rfl⟩ := RN.1 ht; rfl)) ?_)))));refine nZ Z (evE ?_);refine eZ Z (nB (AD ?_));refine lK (α := Int × List T) [1, 3, 5, 41, 42] [1, 19] (fun x => [(43, .t (.int (x.1)))]) (fun x => [(15, .L 1 (x.2))]) (fun x => 0 ≤ (x.1) ∧ (x.1) ≤ (Cs f.stmts f.body).length ∧ (x.2) = (cnts f.stmts.length (Eb (Cs f.stmts f.body) (x.1).toNat)).map T.int ∧ ((Cs f.stmts f.body).take (x.1).toNat).all (P7 f.stmts.length) = true) (fun x => Int.toNat ((Cs f.stmts f.body).length - (x.1))) (0, List.replicate f.stmts.length (T.int 0)) ?_ (fun x hx => ?_)
 ·exact ⟨by omega, by omega, by rw [show Eb (Cs f.stmts f.body) (0 : Int).toNat = [] from rfl, OY, List.map_replicate], by simp⟩
 obtain ⟨i, xs⟩ := x
 obtain ⟨hi0, hi1, hxs, hall⟩ := hx
 dsimp only at hi0 hi1 hxs hall ⊢;refine nY Z (sG (eZ Z (nB (sQ ?_))));refine AB Z (fun h2 => ?_) (fun h2 => ?_)
 ·
  simp only [HS] at h2;refine AC (tN (sQ (AD (sG (eZ Z ?_)))));refine iY (k := ?_);refine eK 3 Z (nB (sQ (sG (eK 3 Z (kZ [1,3,5,8,9,41,42,43,44,45,46,47,48,49,50] Z (evE ?_))))));refine evI ?_;refine AI ?_;refine ⟨_, IG _ _ _ (by have := HA hf (Qb (l := Cs f.stmts f.body) (n := i.toNat) (by omega)); omega), rfl, ?_⟩;refine eZ Z (nB ?_);refine AB Z (fun h3 => ?_) (fun h3 => ?_)
  ·
   simp only [HS] at h3;refine sG (eZ Z (nB (rT (tR (bR (tR (AN (bR (tR (eR ?_))))))))))
   ·first
    | exact retB (by rw [C2, Em hi0 h2 (by unfold P7; rw [h3]; rfl)]; rfl)
  simp only [HS] at h3;refine AC (tN (sG (eZ Z (evE ?_))));refine eZ Z (nB (AD ?_));refine lK (α := Int × List T) [1, 3, 5, 8, 41, 42, 43, 55, 56] [1, 19] (fun x => [(57, .t (.int (x.1)))]) (fun x => [(15, .L 1 (x.2))]) (fun x => 0 ≤ (x.1) ∧ (x.1) ≤ ((Cs f.stmts f.body)[i.toNat]'(by omega)).2.length ∧ (x.2) = (cnts f.stmts.length (Eb (Cs f.stmts f.body) i.toNat ++ ((Cs f.stmts f.body)[i.toNat]'(by omega)).2.take (x.1).toNat)).map T.int ∧ (((Cs f.stmts f.body)[i.toNat]'(by omega)).2.take (x.1).toNat).all (fun n => decide (((Cs f.stmts f.body)[i.toNat]'(by omega)).1 < n)) = true) (fun x => Int.toNat (((Cs f.stmts f.body)[i.toNat]'(by omega)).2.length - (x.1))) (0, xs) ?_ (fun x hx => ?_)
  ·exact ⟨by omega, by omega, by rw [hxs]; simp, by simp⟩
  obtain ⟨j, ys⟩ := x
  obtain ⟨hj0, hj1, hys, halj⟩ := hx
  dsimp only at hj0 hj1 hys halj ⊢;refine nY Z (sG (eZ Z (nB (sQ ?_))));refine AB Z (fun h4 => ?_) (fun h4 => ?_)
  ·
   simp only [HS] at h4;refine AC (tN (sQ (AD (sG ?_))));refine iY (k := ?_);refine eZ Z ?_
   have hn0 := Np h3 (Qb (l := ((Cs f.stmts f.body)[i.toNat]'(by omega)).2) (n := j.toNat) (by omega))
   have hn : 0 ≤ ((Cs f.stmts f.body)[i.toNat]'(by omega)).2[j.toNat]'(by omega) ∧ ((Cs f.stmts f.body)[i.toNat]'(by omega)).2[j.toNat]'(by omega) < f.stmts.length := ⟨hn0.1, by omega⟩
   have hx7 : m5 = (Cs f.stmts f.body).length := by rw [hm5, hx6, QT]
   have hx8 : xs5.length = m5 := hm5.symm
   have hyl : ys.length = f.stmts.length := by rw [hys, QT, Bo]
   have hc := P0 (Eb (Cs f.stmts f.body) i.toNat ++ ((Cs f.stmts f.body)[i.toNat]'(by omega)).2.take j.toNat) (((Cs f.stmts f.body)[i.toNat]'(by omega)).2[j.toNat]'(by omega))
   have hg := IR (B := Cs f.stmts f.body) (fun p hp => HA hf hp) i.toNat (by omega)
   have hg2 := HA hf (Qb (l := Cs f.stmts f.body) (n := i.toNat) (by omega))
   rw [QS, Qa] at hc;refine eZ Z (nB (sQ (sG (eK 3 Z (Ag tys Z Z (AA Z) Z Z Z Z Z Z Z Z (by omega) (by omega) (AV tys Z Z (AA Z) Z Z Z Z (by rw [hx6]; exact Dc (fun p : Int × List Int => T.int p.1) _ (by omega) (by omega)) Z ?_))))));refine kZ [1,3,5,8,11,41,42,43,55,56,57,58,59,60,61,62,63,64,65] Z (eZ Z (nB ?_));refine AB Z (fun h5 => ?_) (fun h5 => ?_)
   ·
    simp only [HS] at h5;refine sG (eZ Z (nB (rT (tR (bR (tR (AN (bR (bR (tR (AN (bR (tR (eR ?_))))))))))))))
    ·first
     | exact retB (by rw [C2, Em hi0 h2 (by unfold P7; rw [h3, Em hj0 h4 (by simp; omega)]; rfl)]; rfl)
   simp only [HS] at h5;refine AC (tN (rG (eK 2 Z (Ag tys Z Z (AA Z) Z Z Z Z Z Z Z Z (by omega) (by omega) (AV tys Z Z (AA Z) Z Z Z Z (by rw [hys]; exact ownAt hn.1 hn.2) Z ?_)))));refine evI ?_;refine Ag tys Z Z (AA Z) Z Z Z Z Z Z Z Z (by omega) (by omega) ?_;refine Bu tys (T.int (cntF (Eb (Cs f.stmts f.body) i.toNat ++ ((Cs f.stmts f.body)[i.toNat]'(by omega)).2.take j.toNat) (((Cs f.stmts f.body)[i.toNat]'(by omega)).2[j.toNat]'(by omega)) + 1)) Z Z Z Z Z Z (by first | exact Qg _ | rfl) (by omega) Z (by repeat (first | exact AbsL.nil' | refine AbsL.v' ?_ | refine AbsL.own' ?_)) Z Z Z ?_;refine nZ Z (oN (bN (tN (kY [1,3,5,8,11,41,42,43,55,56,57,58,59,60,61,62,63,64,65,66,67,68,69,70,71,72] Z (rG (evI ?_))))));refine eZ Z (oN ?_);refine lQ (_, _) ?_ ?_
   ·dsimp only
    refine ⟨by omega, by omega, ?_, ?_⟩
    ·exact (cntsT hys hn.1 hn.2).trans (by rw [Bh hj0 (by omega), Qh])
    ·exact Cp hj0 (by omega) halj (by simpa using h5)
   ·(show Int.toNat _ < Int.toNat _); omega
  simp only [HS] at h4;refine AP (tE (AM (AK (bN (tN (rG (evI ?_)))))));refine eZ Z (oN ?_);refine lQ (_, _) ?_ ?_
  ·dsimp only
   refine ⟨by omega, by omega, ?_, ?_⟩
   ·rw [hys, KG hi0 (by omega), A5 (by omega)]
   ·exact Cp hi0 (by omega) hall (by unfold P7; rw [h3, EI (by omega) halj]; rfl)
  ·(show Int.toNat _ < Int.toNat _); omega
 simp only [HS] at h2;refine AP (tE (AM (AK (tN (sG (eZ Z ?_))))))
 have hxl : xs.length = f.stmts.length := by rw [hxs, QT, Bo]
 refine AI ?_;refine ⟨_, argI hxs (IH _ _ _ (by rw [Bo]; omega)), rfl, ?_⟩;refine eZ Z (nB (rT (eR ?_)))
 ·first
  | exact retB (by rw [C2, EI (by omega) hall, Mt, Eb, A5 (by omega)]; rfl)
open Go.Eng
def EZ (f : Func) : Bool := decide (0 ≤ f.params ∧ f.params ≤ 2) && (decide (f.params ≤ f.vars ∧ f.vars ≤ 6) && decide ((f.stmts.length : Int) ≤ 16))
def KZ (f : Func) : Bool := decide (((Ad f.stmts 0).length : Int) ≤ 4)
def IK (f : Func) (n : Int) : Int := match f.stmts[n.toNat]? with
 | some s => s.kind
 | none => 0
theorem D5 {f : Func} {n : Int} (h : n.toNat < f.stmts.length) : IK f n = (f.stmts[n.toNat]).kind := by
 unfold IK; rw [List.getElem?_eq_getElem h]
def Ki (f : Func) (b : List Int) : Bool := (A2 f b).all fun n => decide (¬ IK f n = 3)
def Ct (f : Func) (s : Stmt) : Bool := if s.kind = 8 then Ki f s.thn else true
def HP (f : Func) : Bool := f.stmts.all (Ct f)
def Ai (f : Func) : Bool := EZ f && (KZ f && (CC f.stmts f.body && HP f))
theorem G1 (n i : Int) (f : Func) (hN : f.stmts.length ≤ 1048576) (hi : 0 ≤ i ∧ i ≤ 1048576) : Fun Try.prog 99 [.t (.int n), .rp (.agg [T.int i]) 0, .rp f.tt 0] (Aw [.t (.bool (!decide (i + 1 ≤ n ∧ n ≤ f.stmts.length - 1)))]) := by
 refine Fun.begin tys Try.func99 Z Z (N := 14) [(0, .t (.int n)), (1, .rp (.agg [T.int i]) 0), (2, .rp f.tt 0)] Z Z (fun w0 G F0 => ?_);refine sG (eZ Z (nA (eK 2 Z (evI ?_))));refine eK 2 Z (evE ?_);refine evI ?_;refine AI ?_;refine ⟨_, Ab _ _ _, rfl, ?_⟩;refine kZ [4,12] Z (eK 2 Z (nB (rT (eR ?_))))
 ·rfl
theorem G0 (n : Int) (f : Func) (hN : f.stmts.length ≤ 1048576) : Fun Try.prog 100 [.t (.int n), .rp f.tt 0] (Aw [.t (.bool (!decide (0 ≤ n ∧ n ≤ f.stmts.length - 1)))]) := by
 refine Fun.begin tys Try.func100 Z Z (N := 11) [(0, .t (.int n)), (1, .rp f.tt 0)] Z Z (fun w0 G F0 => ?_);refine sG (eZ Z (nA (eK 3 Z (evE ?_))));refine evI ?_;refine AI ?_;refine ⟨_, Ab _ _ _, rfl, ?_⟩;refine eK 2 Z (kZ [3] Z (nB (rT (eR ?_))))
 ·rfl
theorem HC {N i : Int} {b : List Int} : (b.any fun n => !decide (i ≤ n ∧ n ≤ N - 1)) = !Kw N i b := by
 unfold Kw;rw [List.not_all_eq_any_not]
 congr 1
 funext n
 congr 1
 exact decide_eq_decide.2 (by omega)
def NS (s : Stmt) (z : Int) : List Int := if z = 0 then s.thn else s.els
theorem pick2 {s : Stmt} {z : Int} (h0 : 0 ≤ z) (h1 : z < 2) : [D.t (.list 1 (s.thn.map T.int)), D.t (.list 1 (s.els.map T.int))][z.toNat]? = some (.t (T.ints (NS s z))) := by
 unfold NS
 rcases (by omega : z = 0 ∨ z = 1) with rfl | rfl <;> rfl
def Iv (s : Stmt) (z : Int) : Int := if z = 0 then 0 else if z = 1 then s.thn.length else s.thn.length + s.els.length
theorem NT {l : List Stmt} {k : Int} (h0 : 0 ≤ k) (h1 : k < l.length) : usesF (l.drop k.toNat) = (l[k.toNat]'(by omega)).thn.length + (l[k.toNat]'(by omega)).els.length + usesF (l.drop (k + 1).toNat) := by
 rw [Cc h0 h1, usesF]
def Mo (f : Func) (k : Int) : Prop := ∀ m : Int, 0 ≤ m → m < k → inB f.stmts.length (m + 1) (kids f.stmts m).1 ∧ inB f.stmts.length (m + 1) (kids f.stmts m).2
theorem JR {f : Func} {k : Int} (h0 : 0 ≤ k) (h1 : k < f.stmts.length) (h : Mo f k) (h2 : Kw f.stmts.length (k + 1) (f.stmts[k.toNat]'(by omega)).thn = true) (h3 : Kw f.stmts.length (k + 1) (f.stmts[k.toNat]'(by omega)).els = true) : Mo f (k + 1) := by
 intro m m0 m1
 by_cases hm : m < k
 ·exact h m m0 hm
 ·obtain rfl : m = k := by omega
  rw [kids_at (by omega)];exact ⟨inBB_iff.1 h2, inBB_iff.1 h3⟩
theorem Pz {f : Func} {k z : Int} (h0 : 0 ≤ k) (h1 : k < f.stmts.length) (hz0 : 0 ≤ z) (hz1 : z < 2) (h : ¬ Kw f.stmts.length (k + 1) (NS (f.stmts[k.toNat]'(by omega)) z) = true) : CC f.stmts f.body = false := by
 rw [Bool.eq_false_iff];intro hs
 have hd := (shapeB_iff.1 hs).1 k h0 h1
 rw [kids_at (by omega)] at hd
 apply h
 unfold NS;split
 ·exact inBB_iff.2 hd.1
 ·exact inBB_iff.2 hd.2
theorem O0 {f : Func} {k : Int} (h0 : 0 ≤ k) (h1 : k < (A2 f f.body).length) (h : ¬ (A2 f f.body)[k.toNat]'(by omega) = k) : CC f.stmts f.body = false := by
 rw [Bool.eq_false_iff];intro hs
 have := (shape_blocks.1 hs).2 k.toNat (by unfold A2 at h1; omega)
 apply h
 unfold A2;rw [this]; omega
theorem Pa {f : Func} (hd : BT f.stmts.length (kids f.stmts)) (hb : inB f.stmts.length 0 f.body) (hl : ((A2 f f.body).length : Int) = f.stmts.length) (h : ∀ (k : Nat) (h : k < (A2 f f.body).length), (A2 f f.body)[k] = (k : Int)) : CC f.stmts f.body = true := by
 rw [shapeB_iff];refine ⟨hd, hb, List.ext_getElem (by rw [Ax]; unfold A2 at hl; omega) fun k h1 h2 => ?_⟩;rw [DT h2];exact h k h1
theorem Lo {f : Func} (h : CC f.stmts f.body = true) : ((A2 f f.body).length : Int) = f.stmts.length := by
 unfold A2; rw [(shapeB_iff.1 h).2.2, Ax]
theorem PM {f : Func} {k u : Int} (h0 : 0 ≤ k) (h1 : (f.stmts.length : Int) ≤ k) (hu : u + usesF (f.stmts.drop k.toNat) = f.body.length + usesF f.stmts) (h : ¬ u = f.stmts.length) : CC f.stmts f.body = false := by
 rw [Bool.eq_false_iff];intro hs
 have := GP hs
 have e := Av h1
 rw [e] at hu;simp only [usesF] at hu;omega
theorem P6 {f : Func} (h : (f.body.any fun n => !decide (0 ≤ n ∧ n ≤ (f.stmts.length : Int) - 1)) = true) : CC f.stmts f.body = false := by
 rw [HC] at h;rw [CC];simp only [Q5] at h;rw [h]; simp
theorem Jc {f : Func} {m : Int} (h0 : 0 ≤ m) (h1 : m < f.stmts.length) (h2 : (f.stmts[m.toNat]'(by omega)).kind = 8) (h : Ki f (f.stmts[m.toNat]'(by omega)).thn = false) : HP f = false := by
 rw [HP];exact Em h0 h1 (by unfold Ct; rw [if_pos h2, h])
theorem IL (f : Func) (hf : f.ok 1048576) : Fun Try.prog 68 [.t f.tt] (Aw [.t (.bool (Ai f))]) := by
  have hl : f.stmts.length ≤ 1048576 := hf.2.1.1
  have hbl : f.body.length ≤ 1048576 := hf.1
  refine Fun.begin tys Try.func68 Z Z (N := 140) [(0, .t f.tt)] Z Z (fun w0 G F0 => ?_);refine sG (AU Z Z (AA Z) Z Z (nZ Z (eZ Z (nB (sQ (sG (eK 2 Z (AI ?_))))))));refine ⟨_, Ab _ _ _, rfl, ?_⟩;refine eK 2 Z ?_;refine gB (fun h1 => ?_) (fun h1 => ?_)
  ·
    simp only [HS] at h1;refine xK 2 Z (kZ [1,2,19,21,22] Z (xK 9 Z (kZ [1,2,27,31] Z (xK 7 Z (nB (Ap Z (sQ (kY [1,2] Z (rG (eZ Z (nB (rT (tR (eR ?_))))))))))))))
    · first
      | (refine retB ?_; rw [Ai, EZ]; simp only [h1, decide_false, Bool.false_and]; done)
  simp only [HS] at h1;refine xK 2 Z (kZ [1,2,19,21] Z (xK 2 Z (gY Z (AI ?_))));refine ⟨_, Ab _ _ _, rfl, ?_⟩;refine xK 3 Z ?_;refine gB (fun h2 => ?_) (fun h2 => ?_)
  ·
    simp only [HS] at h2;refine xK 3 Z (kZ [1,2,27,31] Z (xK 7 Z (nB (Ap Z (sQ (kY [1,2] Z (rG (eZ Z (nB (rT (tR (eR ?_))))))))))))
    · first
      | (refine retB ?_; rw [Ai, EZ]; simp only [h2, decide_false, Bool.false_and, Bool.and_false]; done)
  simp only [HS] at h2;refine xK 2 Z (gY Z (evE ?_));refine kZ [1,2,27,30] Z (xK 3 Z ?_);refine gB (fun h3 => ?_) (fun h3 => ?_)
  ·
    simp only [HS] at h3;refine xK 4 Z (nB (Ap Z (sQ (kY [1,2] Z (rG (eZ Z (nB (rT (tR (eR ?_))))))))))
    · first
      | (refine retB ?_; rw [Ai, EZ]; simp only [Int.not_le.2 h3, decide_false, Bool.false_and, Bool.and_false]; done)
  simp only [HS] at h3;refine eZ Z ?_
  try refine WO_le (Le.freeze (u := 34) rfl) ?_
  refine nZ Z (gY Z (AI ?_));refine ⟨_, I5 f hf, rfl, ?_⟩;refine WO_le (Le.adoptE (u := 35) 35 Z (by first | exact Kl | exact Z)) ?_;refine nZ Z (gY Z (evE ?_));refine xK 2 Z (nB ?_);refine AB Z (fun h4 => ?_) (fun h4 => ?_)
  ·
    simp only [HS] at h4;refine sQ (kY [1,2] Z (rG (eZ Z (nB (rT (tR (eR ?_)))))))
    · first
      | (refine retB ?_; rw [Ai, KZ]; simp only [Int.not_le.2 h4, decide_false, Bool.false_and, Bool.and_false]; done)
  simp only [HS] at h4;refine AC (tN (sQ (kY [1,2] Z (rG (eK 2 Z (evE ?_))))));refine eZ Z (nB (sQ (sG (eK 2 Z (evE ?_)))));refine eZ Z (nB (AD ?_));refine lK (α := Int × Int) [1, 43, 44] [1] (fun x => [(45, .t (.int (x.1))), (3, .t (.int (x.2)))]) (fun x => []) (fun x => 0 ≤ (x.1) ∧ (x.1) ≤ f.stmts.length ∧ f.stmts.length ≤ 16 ∧ EZ f = true ∧ KZ f = true ∧ 0 ≤ (x.2) ∧ (x.2) ≤ 1048576 + (x.1) * 2097152 ∧ (x.2) + usesF (f.stmts.drop (x.1).toNat) = f.body.length + usesF f.stmts ∧ Mo f (x.1)) (fun x => Int.toNat (f.stmts.length - (x.1))) (0, f.body.length) ?_ (fun x hx => ?_)
  · exact ⟨by omega, by omega, by omega, by simp [EZ, h1, h2, h3], by simp [KZ, h4], by omega, by omega, by simp, fun m h h' => by omega⟩
  obtain ⟨k, u⟩ := x
  obtain ⟨hk0, hk1, hN, hnum, hsite, hu0, hu1, hu, hdn⟩ := hx
  dsimp only at hk0 hk1 hN hnum hsite hu0 hu1 hu hdn ⊢;refine nY Z (sG (eZ Z (nB (sQ ?_))));refine AB Z (fun h5 => ?_) (fun h5 => ?_)
  ·
    simp only [HS] at h5;refine AC (tN (sQ (AD (sG (eZ Z ?_)))));refine iY (k := ?_);refine eZ Z ?_
    try refine WO_le (Le.freeze (u := 49) rfl) ?_
    refine nZ Z (AJ tys Z Z (AA Z) Z Z Z (nZ Z (AJ tys Z Z (AA Z) Z Z Z (nZ Z (sT Z (nZ Z (sT Z (nZ Z (nB (sQ (kY [1,3,4,5,43,44,45,46,47,48,49] Z (rG (eK 4 Z (NE (e := 27) Z Z (AA Z) Z (by kernel_rfl) (by kernel_rfl) (by kernel_rfl) Z Z (eZ Z ?_)))))))))))))));refine nB (AD ?_);refine lK (α := Int × Int) [1, 4, 5, 43, 44, 45, 54] [1, 4, 5] (fun x => [(55, .t (.int (x.1))), (3, .t (.int (x.2)))]) (fun x => []) (fun x => 0 ≤ (x.1) ∧ (x.1) ≤ 2 ∧ (x.2) = u + Iv (f.stmts[k.toNat]'(by omega)) (x.1) ∧ (1 ≤ (x.1) → Kw f.stmts.length (k + 1) (f.stmts[k.toNat]'(by omega)).thn = true) ∧ (2 ≤ (x.1) → Kw f.stmts.length (k + 1) (f.stmts[k.toNat]'(by omega)).els = true)) (fun x => Int.toNat (2 - (x.1))) (0, u) ?_ (fun x hx => ?_)
    · exact ⟨by omega, by omega, by simp [Iv], by omega, by omega⟩
    obtain ⟨z, v⟩ := x
    obtain ⟨hz0, hz1, hv, hz2, hz3⟩ := hx
    dsimp only at hz0 hz1 hv hz2 hz3 ⊢;refine nY Z (sG (eZ Z (nB (sQ ?_))));refine AB Z (fun h6 => ?_) (fun h6 => ?_)
    ·
      simp only [HS] at h6;refine AC (tN (sQ (AD (sG (NB (e := 27) (len := 2) Z Z (AA Z) Z (by kernel_rfl) (by kernel_rfl) (by kernel_rfl) Z Z Z (by omega) (pick2 (by omega) (by omega)) Z (eZ Z (nA (eK 2 Z (evE ?_)))))))))
      have hbz : 0 ≤ (NS (f.stmts[k.toNat]'(by omega)) z).length ∧ (NS (f.stmts[k.toNat]'(by omega)) z).length ≤ 1048576 := by
        have := CB hf (n := k.toNat) (by omega)
        unfold NS
        split <;> omega
      have huz : 0 ≤ Iv (f.stmts[k.toNat]'(by omega)) z ∧ Iv (f.stmts[k.toNat]'(by omega)) z ≤ 2097152 := by
        have := CB hf (n := k.toNat) (by omega)
        unfold Iv;split
        · omega
        · split <;> omega
      refine evI ?_;refine eZ Z (nB (sQ (kY [1,3,4,5,7,43,44,45,54,55,56,57,58,59,60,61] Z (rG (eK 2 Z (AI ?_))))));refine ⟨_, D7 _ (fun n => !decide (k + 1 ≤ n ∧ n ≤ f.stmts.length - 1)) _ [.rp (.agg [T.int k]) 0, .rp f.tt 0] Z (by omega) (fun n _ => G1 n k f hl (by omega)), rfl, ?_⟩;refine nB ?_;refine AB Z (fun h7 => ?_) (fun h7 => ?_)
      ·
        refine sG (eZ Z (nB (rT (bR (tR (AN (bR (bR (tR (AN (bR (tR (eR ?_)))))))))))))
        · first
          | (refine retB ?_; rw [Ai, Pz hk0 h5 hz0 h6 (by rw [HC] at h7; simpa using h7)]; simp; done)
      refine AC (bN (tN (rG (evI ?_))));refine eZ Z (oN ?_);refine lQ (_, _) ?_ ?_
      · dsimp only
        have h7' : Kw f.stmts.length (k + 1) (NS (f.stmts[k.toNat]'(by omega)) z) = true := by rw [HC] at h7; simpa using h7
        rcases (by omega : z = 0 ∨ z = 1) with rfl | rfl
        · exact ⟨by omega, by omega, by simp [Iv, NS] at hv ⊢; omega, fun _ => h7', by omega⟩
        · exact ⟨by omega, by omega, by simp [Iv, NS] at hv ⊢; omega, fun _ => hz2 (by omega), fun _ => h7'⟩
      · (show Int.toNat _ < Int.toNat _); omega
    simp only [HS] at h6;refine AP (tE (AM (AK (bN (tN (rG (evI ?_)))))));refine eZ Z (oN ?_);refine lQ (_, _) ?_ ?_
    · dsimp only
      have hz : z = 2 := by omega
      subst hz
      have hua := NT hk0 h5
      have hv' : v = u + ((f.stmts[k.toNat]'(by omega)).thn.length + (f.stmts[k.toNat]'(by omega)).els.length) := hv
      have hso := CB hf (n := k.toNat) (by omega)
      exact ⟨by omega, by omega, hN, hnum, hsite, by omega, by omega, by omega, JR hk0 h5 hdn (hz2 (by omega)) (hz3 (by omega))⟩
    · (show Int.toNat _ < Int.toNat _); omega
  simp only [HS] at h5;refine AP (tE (AM (AK (tN (sQ (sG (eK 3 Z (evE ?_))))))));refine eK 2 Z ?_;refine gB (fun h6 => ?_) (fun h6 => ?_)
  ·
    simp only [HS] at h6;refine xK 2 Z (kZ [1,72,74,75] Z (xK 2 Z (nB (Ap Z (sG (eZ Z (nB (rT (tR (eR ?_))))))))))
    · first
      | (refine retB ?_; rw [Ai, PM hk0 h5 hu h6]; simp; done)
  simp only [HS] at h6;refine xK 2 Z (kZ [1,72,74] Z (xZ Z (gY Z (AI ?_))));refine ⟨_, D7 _ (fun n => !decide (0 ≤ n ∧ n ≤ f.stmts.length - 1)) _ [.rp f.tt 0] Z (by omega) (fun n _ => G0 n f hl), rfl, ?_⟩;refine eZ Z (nB ?_);refine AB Z (fun h7 => ?_) (fun h7 => ?_)
  ·
    refine sG (eZ Z (nB (rT (tR (eR ?_)))))
    · first
      | (refine retB ?_; rw [Ai, P6 h7]; simp; done)
  refine AC (tN (sG ?_))
  have hd : BT f.stmts.length (kids f.stmts) := fun m m0 m1 => hdn m m0 (by omega)
  have hb : inB f.stmts.length 0 f.body := inBB_iff.1 (by rw [HC] at h7; simpa using h7)
  have hue : f.body.length + usesF f.stmts = f.stmts.length := by
    have e := Av h5
    rw [e] at hu;simp only [usesF] at hu;omega
  have hol : (A2 f f.body).length ≤ 1048576 := EY hd hb (by omega) (by omega)
  refine eZ Z ?_
  try refine WO_le (Le.freeze (u := 78) rfl) ?_
  refine nZ Z (eK 2 Z ?_)
  skip
  skip
  refine nZ Z (E8 (u := 81) (az := [.tmp 78, .tmp 80]) Z Z (AA Z) Z Z Z Z (.inr ⟨rfl, _, rfl⟩) (Eh f hf hd hb hbl hol) (WO_le (Le.adoptE (u := 81) 81 Z (by first | exact Kl | exact Z)) ?_));refine nZ Z (eZ Z (nB (sQ (sQ (kY [1,8] Z (rG (eZ Z (evE ?_))))))));refine eZ Z (nB (AD ?_));refine lK (α := Int) [1, 8, 82, 83] [1, 81] (fun x => [(84, .t (.int x))]) (fun x => []) (fun x => 0 ≤ x ∧ x ≤ (A2 f f.body).length ∧ ∀ (q : Nat) (h : q < (A2 f f.body).length), q < x → (A2 f f.body)[q] = (q : Int)) (fun x => Int.toNat ((A2 f f.body).length - x)) 0 ?_ (fun j hx => ?_)
  · exact ⟨by omega, by omega, fun q h h' => by omega⟩
  obtain ⟨hj0, hj1, hj⟩ := hx
  refine nY Z (sG (eZ Z (nB (sQ ?_))));refine AB Z (fun h8 => ?_) (fun h8 => ?_)
  ·
    simp only [HS] at h8;refine AC (tN (sQ (AD (sG (eZ Z (Ag tys Z Z (AA Z) Z Z Z Z Z Z Z Z (by omega) (by omega) (AV tys Z Z (AA Z) Z Z Z Z (Dc _ _ (by omega) (by omega)) Z (eK 2 Z (nA (eK 3 Z (kZ [1,8,9,10,82,83,84,85,86,87,88,89,90,91] Z (nB ?_))))))))))));refine AB Z (fun h9 => ?_) (fun h9 => ?_)
    ·
      simp only [HS] at h9;refine sG (eZ Z (nB (rT (bR (tR (AN (bR (tR (eR ?_)))))))))
      · first
        | (refine retB ?_; rw [Ai, O0 hj0 h8 h9]; simp; done)
    simp only [HS] at h9;refine AC (bN (tN (rG (evI ?_))));refine eZ Z (oN ?_);refine lQ _ ?_ ?_
    · skip
      refine ⟨by omega, by omega, fun q h h' => ?_⟩
      by_cases hq : (q : Int) < j
      · exact hj q h hq
      · obtain rfl : q = j.toNat := by omega
        omega
    · (show Int.toNat _ < Int.toNat _); omega
  simp only [HS] at h8;refine AP (tE (AM (AK (tN (sQ (sG (eK 2 Z (evE ?_))))))));refine eZ Z (nB (AD ?_));refine lK (α := Int) [1, 8, 94, 95] [1, 81] (fun x => [(96, .t (.int x))]) (fun x => []) (fun x => 0 ≤ x ∧ x ≤ f.stmts.length ∧ (((A2 f f.body).length : Int) = f.stmts.length → (f.stmts.take x.toNat).all (Ct f) = true)) (fun x => Int.toNat (f.stmts.length - x)) 0 ?_ (fun m hx => ?_)
  · exact ⟨by omega, by omega, fun _ => by simp⟩
  obtain ⟨hm0, hm1, hmw⟩ := hx
  refine nY Z (sG (eZ Z (nB (sQ ?_))));refine AB Z (fun h9 => ?_) (fun h9 => ?_)
  ·
    simp only [HS] at h9;refine AC (tN (sQ (AD (sG (eZ Z ?_)))));refine iY (k := ?_);refine eZ Z ?_
    try refine WO_le (Le.freeze (u := 100) rfl) ?_
    refine nZ Z (AJ tys Z Z (AA Z) Z Z Z (nZ Z ?_))
    have hmt : m.toNat < f.stmts.length := by omega
    have hbt : inB f.stmts.length 0 (f.stmts[m.toNat]'hmt).thn := by
      have := (hd m (by omega) (by omega)).1
      rw [kids_at hmt] at this;exact BJ this (by omega)
    have hut := DG f.stmts hmt
    have hul := Jd f.stmts m.toNat
    have hot : (A2 f (f.stmts[m.toNat]'hmt).thn).length ≤ 1048576 := EY hd hbt (by omega) (by omega)
    refine eZ Z (sT Z (nZ Z (nB (sQ (kY [1,8,11,12,94,95,96,97,98,99,100] Z (rG (eK 4 Z ?_)))))));refine gB (fun h10 => ?_) (fun h10 => ?_)
    ·
      simp only [HS] at h10;refine xK 5 Z (kZ [1,8,11,12,94,95,96,97,98,99,100,101,102,103,104,105,106,107,108,109,110] Z (eZ Z (nB (Aq Z (AC (bN (tN (rG (evI ?_)))))))));refine eZ Z (oN ?_);refine lQ _ ?_ ?_
      · skip
        refine ⟨by omega, by omega, fun he => Cp hm0 (by omega) (hmw he) ?_⟩
        first
        | (unfold Ct; rw [if_neg (by omega)]; done)
      · (show Int.toNat _ < Int.toNat _); omega
    simp only [HS] at h10;refine eZ Z (gY Z (evE ?_));refine xK 2 Z (gY Z (evE ?_));refine kZ [1,8,11,12,94,95,96,97,98,99,100,101,102,103,104,105,106,107,108,109] Z (xK 2 Z (nB ?_));refine AB Z (fun h11 => ?_) (fun h11 => ?_)
    ·
      simp only [HS] at h11;refine sQ (JY 7 9 BO Z Z Z Z Z Z Z (AA Z) (by kernel_rfl) (by kernel_rfl) (by kernel_rfl) (by kernel_rfl) (by kernel_rfl) (evQ ?_));refine evQ ?_;refine evQ ?_;refine evQ ?_;refine AR Z (CO tys Z Z (AA Z) Z Z Z Z Z Z Z (by omega) _ (G3 _ _ (by omega) (by omega)) (evQ ?_));refine evQ ?_;refine BF (WO_le (Le.freeze (u := 112) Z) ?_)
      skip
      refine nZ Z (E8 (u := 119) (az := [.tmp 112, .tmp 118]) Z Z (AA Z) Z Z Z Z (.inr ⟨rfl, _, rfl⟩) (Eh f hf hd hbt (CB hf _).1 hot) (WO_le (Le.adoptE (u := 119) 119 Z (by first | exact Kl | exact Z)) ?_));refine nZ Z (evE ?_);refine oN (nQ_n (tN (AD ?_)));refine lK (α := Int) [1, 8, 94, 95, 96, 119, 120] [1, 81, 119] (fun x => [(121, .t (.int x))]) (fun x => []) (fun x => 0 ≤ x ∧ x ≤ (A2 f (f.stmts[m.toNat]'(by omega)).thn).length ∧ ((A2 f (f.stmts[m.toNat]'(by omega)).thn).take x.toNat).all (fun n => decide (¬ IK f n = 3)) = true) (fun x => Int.toNat ((A2 f (f.stmts[m.toNat]'(by omega)).thn).length - x)) 0 ?_ (fun r hx => ?_)
      · exact ⟨by omega, by omega, by simp⟩
      obtain ⟨hr0, hr1, hrw⟩ := hx
      refine nY Z (sG (eZ Z (nB (sQ ?_))));refine AB Z (fun h12 => ?_) (fun h12 => ?_)
      ·
        simp only [HS] at h12;refine AC (tN (sQ (AD (sG (Ag tys Z Z (AA Z) Z Z Z Z Z Z Z Z (by omega) (by omega) (AV tys Z Z (AA Z) Z Z Z Z (Dc _ _ (by omega) (by omega)) Z ?_))))))
        have hn := Dw hd hbt _ (Qb (l := A2 f (f.stmts[m.toNat]'(by omega)).thn) (n := r.toNat) (by omega))
        refine eZ Z (nA (eK 3 Z ?_));refine iY (k := ?_);refine eZ Z (kZ [1,8,14,94,95,96,119,120,121,122,123,124,125,126,127,128,129] Z (eK 2 Z (nB ?_)));refine AB Z (fun h13 => ?_) (fun h13 => ?_)
        ·
          simp only [HS] at h13;refine sG (eZ Z (nB (rT (bR (tR (AN (bR (bR (tR (AN (bR (tR (eR ?_)))))))))))))
          · first
            | (have e : Ki f (f.stmts[m.toNat]'(by omega)).thn = false := (by unfold Ki; exact Em hr0 (by omega) (by rw [D5 (by omega)]; simp; omega))
               refine retB ?_; rw [Ai, Jc hm0 (by omega) (by omega) e]; simp; done)
        simp only [HS] at h13;refine AC (bN (tN (rG (evI ?_))));refine eZ Z (oN ?_);refine lQ _ ?_ ?_
        · skip
          exact ⟨by omega, by omega, Cp hr0 (by omega) hrw (by rw [D5 (by omega)]; simp; assumption)⟩
        · (show Int.toNat _ < Int.toNat _); omega
      simp only [HS] at h12;refine AP (tE (AM (AK (bN (tN (rG (evI ?_)))))));refine eZ Z (oN ?_);refine lQ _ ?_ ?_
      · skip
        refine ⟨by omega, by omega, fun he => Cp hm0 (by omega) (hmw he) ?_⟩
        first
        | (unfold Ct; rw [if_pos (by assumption)]; exact EI (by omega) hrw)
      · (show Int.toNat _ < Int.toNat _); omega
    simp only [HS] at h11;refine AC (bN (tN (rG (evI ?_))));refine eZ Z (oN ?_);refine lQ _ ?_ ?_
    · skip
      refine ⟨by omega, by omega, fun he => Cp hm0 (by omega) (hmw he) ?_⟩
      first
      | (unfold Ct; rw [if_neg (by omega)]; done)
    · (show Int.toNat _ < Int.toNat _); omega
  simp only [HS] at h9;refine AP (tE (AM (AK (tN (sG (eZ Z (evE ?_)))))));refine eK 2 Z (evE ?_);refine eK 2 Z (nB (rT (eR ?_)))
  · first
    | (refine retB ?_
       rw [Ai, hnum, hsite]
       by_cases hle : ((A2 f f.body).length : Int) = f.stmts.length
       · rw [Pa hd hb hle (fun q h => hj q h (by omega)), HP, EI (by omega) (hmw hle)]; simp [hle]
       · have : CC f.stmts f.body = false := by
           rw [Bool.eq_false_iff]; exact fun h => hle (Lo h)
         rw [this]; simp [hle])
end Go.Proofs.Ytddfnpiikkilhaa
