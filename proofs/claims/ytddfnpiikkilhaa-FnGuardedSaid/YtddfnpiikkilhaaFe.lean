/- Walks and laws of the claim. -/
import Derived.Test.YtddfnpiikkilhaaFa
import Derived.Test.YtddfnpiikkilhaaMc
set_option linter.unusedVariables false
set_option linter.unusedSimpArgs false
set_option maxRecDepth 10000
set_option maxHeartbeats 1000000
namespace Go.Proofs.Ytddfnpiikkilhaa
open Go.Eng
open Go.Eng
theorem As {b b' : Bool} (h : b = b') : [D.t (T.v (Value.bool b))] = [D.t (T.bool b')] := by rw [h]
theorem Ha {b b' : Int} (h : b = b') : [D.t (T.v (Value.int .i64 b))] = [D.t (T.int b')] := by rw [h]
def atI (l : List Int) (n : Int) : Int := (l[n.toNat]?).getD 0
theorem BL {l : List Int} {n : Int} (h0 : 0 ≤ n) (h1 : n < l.length) : atI l n = l[n.toNat]'(by omega) := by
 unfold atI; rw [List.getElem?_eq_getElem (by omega)]; rfl
def Lm (ps : List Int) : Prop := ps.length ≤ 5 ∧ ∀ x, x ∈ ps → 0 ≤ x ∧ x ≤ 2
def BJ (ps : List Int) : Bool := decide ((ps.length : Int) ≤ 5) && CK ps 0 2
theorem Es {ps : List Int} (h : BJ ps = true) : Lm ps := by
 unfold BJ at h;rw [Qf] at h;refine ⟨by have := h.1; simp at this; omega, fun x hx => ?_⟩
 have := h.2
 unfold CK at this;rw [Qn] at this
 simpa using this x hx
theorem Jk {ps : List Int} (h : Lm ps) (n : Int) : 0 ≤ atI ps n ∧ atI ps n ≤ 2 := by
 unfold atI
 cases hx : ps[n.toNat]? with
 | none => simp
 | some x => simpa using h.2 x (RE hx)
def knownT (vars m : Int) (t : Tok) : Bool :=
 if t.op = 1 then decide (-2147483648 ≤ t.n ∧ t.n ≤ 2147483647) else if t.op = 2 then decide (0 ≤ t.n ∧ t.n < vars) else if t.op = 11 then decide (0 ≤ t.n ∧ t.n < m) else decide (3 ≤ t.op ∧ t.op ≤ 10) && decide (t.n = 0)
def Ah (ps : List Int) (t : Tok) : Int := if 3 ≤ t.op ∧ t.op ≤ 8 then 2 else if t.op = 11 then atI ps t.n else 0
theorem Cr {ps : List Int} (h : Lm ps) (t : Tok) : 0 ≤ Ah ps t ∧ Ah ps t ≤ 2 := by
 have := Jk h t.n
 unfold Ah; split <;> (try split) <;> omega
theorem JX (n : Int) : Fun Try.prog 128 [.t (.int n)] (A5 [.t (.bool (decide (-2147483648 ≤ n ∧ n ≤ 2147483647)))]) := by
 refine Fun.begin tys Try.func128 Z Z (N := 5) [(0, .t (.int n))] Z Z (fun w0 G F0 => ?_);refine sG (eZ Z (nA (eZ Z (AQ ?_))));refine ⟨_, A6 _ _ _, rfl, ?_⟩;refine eZ Z (nB (rT (eR ?_)))
 ·rfl
def Jx (t : Tok) : Bool := if t.op = 1 then decide (-2147483648 ≤ t.n ∧ t.n ≤ 2147483647) else if t.op = 2 ∨ t.op = 11 then decide (0 ≤ t.n ∧ t.n ≤ 99) else decide (3 ≤ t.op ∧ t.op ≤ 10) && decide (t.n = 0)
theorem JV (t : Tok) : Fun Try.prog 127 [.t t.tt] (A5 [.t (.bool (Jx t))]) := by
 refine Fun.begin tys Try.func127 Z Z (N := 24) [(0, .t t.tt)] Z Z (fun w0 G F0 => ?_);refine sG (Af Z Z (AA Z) Z Z (nZ Z (eZ Z (nB (sQ (sG (eK 2 Z (nB (AF (sG (eK 2 Z (nB ?_))))))))))));refine AD Z (fun h1 => ?_) (fun h1 => ?_)
 ·
  simp only [HS] at h1;refine sG (eK 2 Z (AQ ?_));refine ⟨_, JX _, rfl, ?_⟩;refine kZ [1,2,9] Z (eZ Z (nB (rT (bR (tR (eR ?_))))))
  ·exact As (by grind [Jx])
 simp only [HS] at h1;refine sQ (sG (eK 2 Z (nB ?_)));refine AD Z (fun h2 => ?_) (fun h2 => ?_)
 ·
  simp only [HS] at h2;refine AE (tN ?_);refine AD Z (fun h3 => ?_) (fun h3 => ?_)
  ·
   simp only [HS] at h3;refine sQ (kY [1,2] Z (rG (eK 2 Z (AQ ?_))));refine ⟨_, A6 _ _ _, rfl, ?_⟩;refine eZ Z (nB (rT (bR (tR (eR ?_)))))
   ·exact As (by grind [Jx])
  simp only [HS] at h3;refine AE (bN (tN (sQ (kY [1,2] Z (rG (eK 2 Z (AQ ?_)))))));refine ⟨_, A6 _ _ _, rfl, ?_⟩;refine eZ Z ?_;refine gB (fun h4 => ?_) (fun h4 => ?_)
  ·
   simp only [HS] at h4;refine xK 4 Z (nB (rT (eR ?_)))
   ·exact As (by grind [Jx])
  simp only [HS] at h4;refine xK 5 Z (kZ [2] Z (nB (rT (eR ?_))))
  ·exact As (by grind [Jx])
 simp only [HS] at h2;refine kY [1,2,4,10] Z (rG (eK 2 Z (nB ?_)));refine AD Z (fun h3 => ?_) (fun h3 => ?_)
 ·
  simp only [HS] at h3;refine sG (eK 2 Z (AQ ?_));refine ⟨_, A6 _ _ _, rfl, ?_⟩;refine eZ Z (nB (rT (bR (tR (eR ?_)))))
  ·exact As (by grind [Jx])
 simp only [HS] at h3;refine AE (bN (tN (sG (eK 2 Z (AQ ?_)))));refine ⟨_, A6 _ _ _, rfl, ?_⟩;refine eZ Z ?_;refine gB (fun h4 => ?_) (fun h4 => ?_)
 ·
  simp only [HS] at h4;refine xK 3 Z (kZ [2,23] Z (eZ Z (nB (rT (eR ?_)))))
  ·exact As (by grind [Jx])
 simp only [HS] at h4;refine xK 3 Z (kZ [2,19,22] Z (eK 2 Z (nB (rT (eR ?_)))))
 ·exact As (by grind [Jx])
theorem JW (t : Tok) (vars : Int) (ps : List Int) (hv : vars ≤ 100) (hp : ps.length ≤ 100) : Fun Try.prog 123 [.t t.tt, .t (.int vars), .t (T.ints ps)] (A5 [.t (.bool (knownT vars ps.length t))]) := by
 refine Fun.begin tys Try.func123 Z Z (N := 32) [(0, .t t.tt), (1, .t (.int vars)), (2, .t (T.ints ps))] Z Z (fun w0 G F0 => ?_);refine sG (Af Z Z (AA Z) Z Z (nZ Z (eZ Z (nA (eZ Z ?_)))))
 try refine AC (Le.freeze (u := 7) rfl) ?_
 refine nZ Z (AQ ?_);refine ⟨_, JV _, rfl, ?_⟩;refine eZ Z ?_;refine gB (fun h1 => ?_) (fun h1 => ?_)
 ·
  simp only [HS] at h1;refine xK 4 Z (kZ [1,2,3,6,9,13,14] Z (xK 9 Z (kZ [2,3,6,20,23] Z (xK 9 Z (kZ [6] Z (nB (rT (eR ?_))))))))
  ·exact As (by grind [Jx, knownT])
 refine xK 4 Z (kZ [1,2,3,6,9,13] Z ?_);refine gB (fun h2 => ?_) (fun h2 => ?_)
 ·
  simp only [HS] at h2;refine xK 9 Z (kZ [2,3,6,20,23] Z (xZ Z ?_));refine gB (fun h3 => ?_) (fun h3 => ?_)
  ·
   simp only [HS] at h3;refine xK 7 Z (nB (rT (eR ?_)))
   ·exact As (by grind [Jx, knownT])
  simp only [HS] at h3;refine xK 3 Z (gY Z (evE ?_));refine xK 4 Z (kZ [6] Z (nB (rT (eR ?_))))
  ·exact As (by grind [Jx, knownT])
 simp only [HS] at h2;refine xK 7 Z ?_;refine gB (fun h3 => ?_) (fun h3 => ?_)
 ·
  simp only [HS] at h3;refine xK 2 Z (kZ [2,3,6,20,23] Z (xK 9 Z (kZ [6] Z (nB (rT (eR ?_))))))
  ·exact As (by grind [Jx, knownT])
 simp only [HS] at h3;refine xK 2 Z (kZ [2,3,6,20,22] Z (xK 2 Z ?_));refine gB (fun h4 => ?_) (fun h4 => ?_)
 ·
  simp only [HS] at h4;refine xK 7 Z (kZ [6] Z (nB (rT (eR ?_))))
  ·exact As (by grind [Jx, knownT])
 simp only [HS] at h4;refine xK 3 Z (gY Z (evE ?_));refine xK 3 Z (kZ [6,31] Z (eZ Z (nB (rT (eR ?_)))))
 ·exact As (by grind [Jx, knownT])
theorem Fx (t : Tok) (ps : List Int) (ht : t.op = 11 → 0 ≤ t.n ∧ t.n < ps.length) : Fun Try.prog 124 [.t t.tt, .t (T.ints ps)] (A5 [.t (.int (Ah ps t))]) := by
 refine Fun.begin tys Try.func124 Z Z (N := 18) [(0, .t t.tt), (1, .t (T.ints ps))] Z Z (fun w0 G F0 => ?_);refine sG (Af Z Z (AA Z) Z Z (nZ Z (eZ Z (nB (sQ (AF (sG (eK 2 Z (AQ ?_)))))))));refine ⟨_, A6 _ _ _, rfl, ?_⟩;refine eZ Z (nB ?_);refine AD Z (fun h1 => ?_) (fun h1 => ?_)
 ·
  simp only [HS] at h1;refine sG (eZ Z (nB (rT (bR (tR (eR ?_))))))
  ·exact Ha (by grind [Ah, BL])
 simp only [HS] at h1;refine sG (eK 3 Z (kZ [1,2,4,12] Z (eZ Z (nB ?_))));refine AD Z (fun h2 => ?_) (fun h2 => ?_)
 ·
  simp only [HS] at h2;refine sG (eK 3 Z ?_);refine iY (k := ?_);refine eK 2 Z (nB (rT (bR (tR (eR ?_)))))
  ·exact Ha (by grind [Ah, BL])
 simp only [HS] at h2;refine AE (bN (tN (sG (eZ Z (nB (rT (eR ?_)))))))
 ·exact Ha (by grind [Ah, BL])
theorem LJ (a b : Int) : Fun Try.prog 125 [.t (.int a), .t (.int b)] (A5 [.t (.int (max a b))]) := by
 refine Fun.begin tys Try.func125 Z Z (N := 10) [(0, .t (.int a)), (1, .t (.int b))] Z Z (fun w0 G F0 => ?_);refine sG (eZ Z (nB (sQ (sG (eK 3 Z (nB ?_))))));refine AD Z (fun h1 => ?_) (fun h1 => ?_)
 ·
  simp only [HS] at h1;refine sG (eK 2 Z (nB (rT (tR (eR ?_)))))
  ·exact Ha (by grind)
 simp only [HS] at h1;refine AE (tN (sG (eK 2 Z (nB (rT (eR ?_))))))
 ·exact Ha (by grind)
def CO (vars : Int) (ps : List Int) : List Tok → Int → Int → Option (Int × Int)
 | [], h, m => some (h, m)
 | t :: l, h, m => if knownT vars ps.length t && decide (Ah ps t ≤ h) then CO vars ps l (h + (1 - Ah ps t)) (max m (h + (1 - Ah ps t))) else none
theorem D4 {vars : Int} {ps : List Int} {l : List Tok} {h m k : Int} (h0 : 0 ≤ k) (h1 : k < l.length) : CO vars ps (l.drop k.toNat) h m = if knownT vars ps.length (l[k.toNat]'(by omega)) && decide (Ah ps (l[k.toNat]'(by omega)) ≤ h) then CO vars ps (l.drop (k + 1).toNat) (h + (1 - Ah ps (l[k.toNat]'(by omega)))) (max m (h + (1 - Ah ps (l[k.toNat]'(by omega))))) else none := by
 rw [CU h0 h1, CO]
def IU (vars : Int) (ps : List Int) (l : List Tok) : Int := match CO vars ps l 0 0 with
 | some (h, m) => if h = 1 ∧ (l.length : Int) ≤ 12 then m else -1
 | none => -1
def IV (vars : Int) (ps : List Int) (l : List Tok) : Int := if (1 : Int) ≤ l.length ∧ (l.length : Int) ≤ 12 then (match CO vars ps l 0 0 with
 | some (h, m) => if h = 1 then m else 0
 | none => 0) else 0
theorem DD {vars m : Int} {t : Tok} (h : knownT vars m t = true) : t.op = 11 → 0 ≤ t.n ∧ t.n < m := by
 intro ho; unfold knownT at h; simp [ho] at h; omega
theorem LI (l : List Tok) (vars : Int) (ps : List Int) (hv : vars ≤ 100) (hp : Lm ps) (hl : l.length ≤ 1048576) : Fun Try.prog 120 [.t (T.Toks l), .t (.int vars), .t (T.ints ps)] (A5 [.t (.int (IU vars ps l))]) := by
 have hp1 := hp.1
 refine Fun.begin tys Try.func120 Z Z (N := 47) [(0, .t (T.Toks l)), (1, .t (.int vars)), (2, .t (T.ints ps))] Z Z (fun w0 G F0 => ?_);refine sG (eZ Z (nA (eK 2 Z (nB (sQ (sG (eZ Z (evE ?_))))))));refine eZ Z (nB (AF ?_));refine lK (α := Int × Int × Int) [0, 1, 2, 11, 12] [] (fun x => [(13, .t (.int (x.1))), (7, .t (.int (x.2.1))), (8, .t (.int (x.2.2)))]) (fun x => []) (fun x => 0 ≤ (x.1) ∧ (x.1) ≤ l.length ∧ 0 ≤ (x.2.1) ∧ (x.2.1) ≤ (x.1) ∧ CO vars ps l 0 0 = CO vars ps (l.drop (x.1).toNat) (x.2.1) (x.2.2)) (fun x => Int.toNat (l.length - (x.1))) (0, 0, 0) ?_ (fun x hx => ?_)
 ·exact ⟨by omega, by omega, Int.le_refl 0, Int.le_refl 0, rfl⟩
 obtain ⟨k, h, m⟩ := x
 obtain ⟨hk0, hk1, hh0, hh1, he⟩ := hx
 dsimp only at hk0 hk1 hh0 hh1 he ⊢;refine nY Z (sG (eZ Z (nB (sQ ?_))));refine AD Z (fun h1 => ?_) (fun h1 => ?_)
 ·
  simp only [HS] at h1;refine AE (tN (sQ (AF (sG ?_))));refine iY (k := ?_);refine eZ Z ?_
  try refine AC (Le.freeze (u := 16) rfl) ?_
  refine nZ Z (AH tys Z Z (AA Z) Z Z Z (nZ Z (sT Z (nZ Z (nB (sQ (sG (eZ Z ?_))))))))
  try refine AC (Le.freeze (u := 17) rfl) ?_
  refine nZ Z (eK 2 Z (AQ ?_));refine ⟨_, JW _ _ _ hv (by omega), rfl, ?_⟩;refine kZ [0,1,2,7,8,10,11,12,13,14,15,16,17,18,19,20] Z (eK 2 Z ?_);refine gB (fun h2 => ?_) (fun h2 => ?_)
  ·
   simp only [HS] at h2;refine xK 5 Z (nB (AY Z (sQ (kY [0,1,2,7,8,10,11,12,13,14,15,16,17,18,19,20,21,22,23,24,25,26,27,28] Z (rG (eZ Z (nB (rT (tR (bR (tR (AR (bR (tR (eR ?_)))))))))))))))
   ·exact Ha (by rw [IU, he, D4 hk0 h1, if_neg (by simp [*]; done)])
  simp only [HS] at h2;refine xK 2 Z ?_
  try refine AC (Le.freeze (u := 24) rfl) ?_
  refine nZ Z (xZ Z (gY Z (AQ ?_)));refine ⟨_, Fx _ _ (DD h2), rfl, ?_⟩;refine xK 2 Z (nB ?_);refine AD Z (fun h3 => ?_) (fun h3 => ?_)
  ·
   simp only [HS] at h3;refine sQ (kY [0,1,2,7,8,10,11,12,13,14,15,16,17,18,19,20,21,22,23,24,25,26,27,28] Z (rG (eZ Z (nB (rT (tR (bR (tR (AR (bR (tR (eR ?_))))))))))))
   ·exact Ha (by rw [IU, he, D4 hk0 h1, if_neg (by simp [*]; done)])
  simp only [HS] at h3;refine AE (tN (sQ (kY [0,1,2,7,8,10,11,12,13,14,15,16,17,18,19,20,21,22,23,24,25,26,27,28] Z (rG (eK 2 Z ?_)))))
  try refine AC (Le.freeze (u := 30) rfl) ?_
  refine nZ Z (eZ Z (AQ ?_));refine ⟨_, Fx _ _ (DD h2), rfl, ?_⟩
  have q := Cr hp (l[k.toNat]'(by omega))
  refine evI ?_;refine evI ?_;refine eZ Z (nB (kY [0,1,2,7,8,10,11,12,13,14,15,16,17,18,19,20,21,22,23,24,25,26,27,28,29,30,31,32,33,34] Z (rG (eK 2 Z (AQ ?_)))));refine ⟨_, LJ _ _, rfl, ?_⟩;refine eZ Z (oN (bN (tN (rG (evI ?_)))));refine eZ Z (oN ?_);refine lQ (_, _, _) ?_ ?_
  ·dsimp only
   have q := Cr hp (l[k.toNat]'(by omega)); exact ⟨by omega, by omega, by omega, by omega, by rw [he, D4 hk0 h1, if_pos (by simp [h2]; omega)]⟩
  ·(show Int.toNat _ < Int.toNat _); omega
 simp only [HS] at h1;refine AV (tE (AP (AO (tN (sQ (sG (eK 3 Z ?_)))))));refine gB (fun h2 => ?_) (fun h2 => ?_)
 ·
  simp only [HS] at h2;refine xK 3 Z (nB (AY Z (sQ (kY [8] Z (rG (eZ Z (nB (rT (tR (eR ?_))))))))))
  ·exact Ha (by rw [IU, he, A7 h1]; simp only [CO]; grind)
 simp only [HS] at h2;refine eZ Z (gY Z (evE ?_));refine xK 2 Z (nB ?_);refine AD Z (fun h3 => ?_) (fun h3 => ?_)
 ·
  simp only [HS] at h3;refine sQ (kY [8] Z (rG (eZ Z (nB (rT (tR (eR ?_)))))))
  ·exact Ha (by rw [IU, he, A7 h1]; simp only [CO]; grind)
 simp only [HS] at h3;refine AE (tN (sQ (kY [8] Z (rG (eK 2 Z (nB (rT (eR ?_))))))))
 ·exact Ha (by rw [IU, he, A7 h1]; simp only [CO]; grind)
def Bx (vars : Int) (ps : List Int) (l : List Tok) : Bool := match CO vars ps l 0 0 with
 | some (h, m) => decide (h = 1) && decide ((l.length : Int) ≤ 12)
 | none => false
theorem Fm {vars : Int} {ps : List Int} : ∀ {l : List Tok} {h m h' m' : Int}, CO vars ps l h m = some (h', m') → (l = [] ∧ h' = h) ∨ h' ≤ m'
 | [], h, m, h', m', e => by rw [CO] at e; cases e; exact .inl ⟨rfl, rfl⟩
 | t :: l, h, m, h', m', e => by
  rw [CO] at e;split at e
  ·have := Fm e
   rcases this with ⟨rfl, rfl⟩ | h
   ·rw [CO] at e
    cases e;exact .inr (by omega)
   ·exact .inr h
  ·cases e
theorem Mq (vars : Int) (ps : List Int) (l : List Tok) : (0 < IU vars ps l) = (Bx vars ps l = true) := by
 unfold IU Bx
 cases hr : CO vars ps l 0 0 with
 | none => simp
 | some x =>
  obtain ⟨h, m⟩ := x
  have := Fm hr
  dsimp only;split
  ·rename_i h1
   simp [h1]
   rcases this with ⟨_, h2⟩ | h2 <;> omega
  ·rename_i h1
   simp
   omega
theorem BP (vars : Int) (ps : List Int) (l : List Tok) : (0 < IV vars ps l) = (Bx vars ps l = true) := by
 unfold IV Bx
 cases hr : CO vars ps l 0 0 with
 | none => simp
 | some x =>
  obtain ⟨h, m⟩ := x
  have := Fm hr
  dsimp only
  by_cases hl : l = []
  ·subst hl
   rw [CO] at hr;cases hr
   simp
  ·have h0 : 0 < l.length := List.length_pos_iff.2 hl
   simp only [Qf, decide_eq_true_eq]
   have h2 := this.resolve_left fun h => hl h.1
   split
   ·split <;> simp <;> omega
   ·simp; omega
theorem FA (ps : List Int) (hp : ps.length ≤ 1048576) : Fun Try.prog 78 [.t (T.ints ps)] (A5 [.t (.bool (BJ ps))]) := by
 refine Fun.begin tys Try.func78 Z Z (N := 10) [(0, .t (T.ints ps))] Z Z (fun w0 G F0 => ?_);refine sG (eZ Z (nA (eZ Z (evE ?_))));refine eK 2 Z ?_;refine gB (fun h1 => ?_) (fun h1 => ?_)
 ·
  simp only [HS] at h1;refine xK 3 Z (nB (rT (eR ?_)))
  ·exact As (by grind [BJ])
 simp only [HS] at h1;refine eZ Z (gY Z (AQ ?_));refine ⟨_, IQ _ _ _ (by omega), rfl, ?_⟩;refine eK 2 Z (kZ [2] Z (nB (rT (eR ?_))))
 ·exact As (by grind [BJ])
theorem IY (l : List Tok) (vars : Int) (ps : List Int) (hv : 0 ≤ vars ∧ vars ≤ 6) (hp : Lm ps) (hpb : BJ ps = true) (hl : l.length ≤ 1048576) : Fun Try.prog 116 [.t (T.Toks l), .t (.int vars), .t (T.ints ps)] (A5 [.t (.bool (Bx vars ps l))]) := by
 have hp1 := hp.1
 refine Fun.begin tys Try.func116 Z Z (N := 20) [(0, .t (T.Toks l)), (1, .t (.int vars)), (2, .t (T.ints ps))] Z Z (fun w0 G F0 => ?_);refine sG (eZ Z (nA (eZ Z (AQ ?_))));refine ⟨_, A6 _ _ _, rfl, ?_⟩;refine AC (Le.known (t := 8) true Z (by simp; omega)) ?_;refine xK 2 Z (gY Z (AQ ?_));refine ⟨_, FA _ (by omega), rfl, ?_⟩;refine AC (Le.known (t := 11) true Z (hpb)) (xK 3 Z (kZ [1,2,6,13,14] Z (xK 2 Z (gY Z (AQ ?_)))));refine ⟨_, LI _ _ _ (by omega) hp hl, rfl, ?_⟩;refine xK 3 Z (nB (rT (eR ?_)))
 ·exact As (by rw [Bool.eq_iff_iff, decide_eq_true_iff]; rw [← Mq])
theorem Mp (n : Int) : (n = IntKind.i64.wrap (IntKind.i32.wrap n)) ↔ (-2147483648 ≤ n ∧ n ≤ 2147483647) := by
 have h1 : -2147483648 ≤ IntKind.i32.wrap n ∧ IntKind.i32.wrap n ≤ 2147483647 := by
  unfold IntKind.wrap; simp [IntKind.bits, IntKind.signed]; split <;> omega
 rw [D0 (by omega) (by omega)]
 constructor
 ·intro h; omega
 ·intro h; unfold IntKind.wrap; simp [IntKind.bits, IntKind.signed]; split <;> omega
theorem Fz (n : Int) : Fun Try.prog 64 [.t (.int n)] (A5 [.t (.bool (decide (-2147483648 ≤ n ∧ n ≤ 2147483647)))]) := by
 refine Fun.begin tys Try.func64 Z Z (N := 8) [(0, .t (.int n))] Z Z (fun w0 G F0 => ?_);refine sG (eZ Z (nA (eK 2 Z (WO_conv (td := .int .i64) (k := .i32) Z Z (AA Z) Z (by kernel_rfl) (by kernel_rfl) Z (WO_conv (td := .int .i32) (k := .i64) Z Z (AA Z) Z (by kernel_rfl) (by kernel_rfl) Z (eK 2 Z (nB (rT (eR ?_)))))))))
 ·exact As (by rw [Bool.eq_iff_iff, decide_eq_true_iff, decide_eq_true_iff, Mp])
theorem Mm (t : Tok) (vars m : Int) (hv : 0 ≤ vars ∧ vars ≤ 100) (hm : 0 ≤ m ∧ m ≤ 100) : Fun Try.prog 113 [.t t.tt, .t (.int vars), .t (.int m)] (A5 [.t (.bool (knownT vars m t))]) := by
 refine Fun.begin tys Try.func113 Z Z (N := 36) [(0, .t t.tt), (1, .t (.int vars)), (2, .t (.int m))] Z Z (fun w0 G F0 => ?_);refine sG (Af Z Z (AA Z) Z Z (nZ Z (eZ Z (nB (sQ (sG (eK 2 Z (nB (AF (sG (eK 2 Z (nB ?_))))))))))));refine AD Z (fun h1 => ?_) (fun h1 => ?_)
 ·
  simp only [HS] at h1;refine sG (eK 2 Z (AQ ?_));refine ⟨_, Fz _, rfl, ?_⟩;refine kZ [3,6,13] Z (eZ Z (nB (rT (bR (tR (eR ?_))))))
  ·exact As (by grind [knownT])
 simp only [HS] at h1;refine sG (eK 2 Z (nB ?_));refine AD Z (fun h2 => ?_) (fun h2 => ?_)
 ·
  simp only [HS] at h2;refine sQ (kY [1,3,6] Z (rG (eK 3 Z (evI ?_))));refine AQ ?_;refine ⟨_, Al _ _ _, rfl, ?_⟩;refine eZ Z (nB (rT (bR (tR (eR ?_)))))
  ·exact As (by grind [knownT])
 simp only [HS] at h2;refine sQ (kY [2,3,6,8] Z (rG (eK 2 Z (nB ?_))));refine AD Z (fun h3 => ?_) (fun h3 => ?_)
 ·
  simp only [HS] at h3;refine sG (eK 3 Z (evI ?_));refine AQ ?_;refine ⟨_, Al _ _ _, rfl, ?_⟩;refine eZ Z (nB (rT (bR (tR (eR ?_)))))
  ·exact As (by grind [knownT])
 simp only [HS] at h3;refine AE (bN (tN (sG (eK 2 Z (AQ ?_)))));refine ⟨_, Al _ _ _, rfl, ?_⟩;refine eZ Z ?_;refine gB (fun h4 => ?_) (fun h4 => ?_)
 ·
  simp only [HS] at h4;refine xK 3 Z (kZ [6,35] Z (eZ Z (nB (rT (eR ?_)))))
  ·exact As (by grind [knownT])
 simp only [HS] at h4;refine xK 3 Z (kZ [6,31,34] Z (eK 2 Z (nB (rT (eR ?_)))))
 ·exact As (by grind [knownT])
theorem GS (n : Int) : Fun Try.prog 119 [.t (.int n)] (A5 [.t (.bool (decide (3 ≤ n ∧ n ≤ 8)))]) := by
 refine Fun.begin tys Try.func119 Z Z (N := 5) [(0, .t (.int n))] Z Z (fun w0 G F0 => ?_);refine sG (eZ Z (nA (eZ Z (AQ ?_))));refine ⟨_, Al _ _ _, rfl, ?_⟩;refine eZ Z (nB (rT (eR ?_)))
 ·rfl
theorem IH (t : Tok) (ps : List Int) (ht : t.op = 11 → 0 ≤ t.n ∧ t.n < ps.length) : Fun Try.prog 114 [.t t.tt, .t (T.ints ps)] (A5 [.t (.int (Ah ps t))]) := by
 refine Fun.begin tys Try.func114 Z Z (N := 18) [(0, .t t.tt), (1, .t (T.ints ps))] Z Z (fun w0 G F0 => ?_);refine sG (Af Z Z (AA Z) Z Z (nZ Z (eZ Z (nB (sQ (AF (sG (eK 4 Z (nB ?_)))))))));refine AD Z (fun h1 => ?_) (fun h1 => ?_)
 ·
  simp only [HS] at h1;refine sG (eK 3 Z (kZ [4,9,11] Z ?_));refine iY (k := ?_);refine eK 2 Z (nB (rT (bR (tR (eR ?_)))))
  ·exact Ha (by grind [Ah, BL])
 simp only [HS] at h1;refine sG (eK 2 Z (AQ ?_));refine ⟨_, GS _, rfl, ?_⟩;refine kZ [4,17] Z (eZ Z (nB ?_));refine AD Z (fun h2 => ?_) (fun h2 => ?_)
 ·
  simp only [HS] at h2;refine sG (eZ Z (nB (rT (bR (tR (eR ?_))))))
  ·exact Ha (by grind [Ah, BL])
 simp only [HS] at h2;refine AE (bN (tN (sG (eZ Z (nB (rT (eR ?_)))))))
 ·exact Ha (by grind [Ah, BL])
theorem maxIf (a b : Int) : (if a < b then b else a) = max a b := by split <;> omega
theorem Gk (l : List Tok) (vars : Int) (ps : List Int) (hv : 0 ≤ vars ∧ vars ≤ 100) (hp : Lm ps) (hl : l.length ≤ 1048576) : Fun Try.prog 103 [.t (T.Toks l), .t (.int vars), .t (T.ints ps)] (A5 [.t (.int (IV vars ps l))]) := by
 have hp1 := hp.1
 refine Fun.begin tys Try.func103 Z Z (N := 47) [(0, .t (T.Toks l)), (1, .t (.int vars)), (2, .t (T.ints ps))] Z Z (fun w0 G F0 => ?_);refine sG (eZ Z (nB (sQ (sG (eZ Z (evE ?_))))));refine AQ ?_;refine ⟨_, Al _ _ _, rfl, ?_⟩;refine eZ Z (nB ?_);refine AD Z (fun h1 => ?_) (fun h1 => ?_)
 ·
  simp only [HS] at h1;refine sG (eZ Z (nB (rT (tR (eR ?_)))))
  ·(exact Ha (by rw [IV, if_neg (by omega)]); done)
 simp only [HS] at h1;refine AE (tN (sG (eK 2 Z (nB (sQ (sQ (kY [0,1,2,6,7,8] Z (rG (eZ Z (evE ?_))))))))));refine eZ Z (nB (AF ?_));refine lK (α := Int × Int × Int) [1, 2, 15, 16] [] (fun x => [(17, .t (.int (x.1))), (8, .t (.int (x.2.1))), (7, .t (.int (x.2.2)))]) (fun x => []) (fun x => 0 ≤ (x.1) ∧ (x.1) ≤ l.length ∧ 0 ≤ (x.2.1) ∧ (x.2.1) ≤ (x.1) ∧ (1 : Int) ≤ l.length ∧ (l.length : Int) ≤ 12 ∧ CO vars ps l 0 0 = CO vars ps (l.drop (x.1).toNat) (x.2.1) (x.2.2)) (fun x => Int.toNat (l.length - (x.1))) (0, 0, 0) ?_ (fun x hx => ?_)
 ·exact ⟨by omega, by omega, Int.le_refl 0, Int.le_refl 0, by omega, by omega, rfl⟩
 obtain ⟨k, h, m⟩ := x
 obtain ⟨hk0, hk1, hh0, hh1, hl0, hl1, he⟩ := hx
 dsimp only at hk0 hk1 hh0 hh1 hl0 hl1 he ⊢;refine nY Z (sG (eZ Z (nB (sQ ?_))));refine AD Z (fun h2 => ?_) (fun h2 => ?_)
 ·
  simp only [HS] at h2;refine AE (tN (sQ (AF (sG ?_))));refine iY (k := ?_);refine eZ Z ?_
  try refine AC (Le.freeze (u := 20) rfl) ?_
  refine nZ Z (AH tys Z Z (AA Z) Z Z Z (nZ Z (sT Z (nZ Z (nB (sQ (sG (eZ Z ?_))))))))
  try refine AC (Le.freeze (u := 21) rfl) ?_
  refine nZ Z (eK 2 Z (evE ?_));refine kZ [1,2,7,8,10,15,16,17,18,19,20,21,22,23,24] Z (AQ ?_);refine ⟨_, Mm _ _ _ hv (by omega), rfl, ?_⟩;refine eK 2 Z ?_;refine gB (fun h3 => ?_) (fun h3 => ?_)
  ·
   simp only [HS] at h3;refine xK 5 Z (nB (AY Z (sQ (kY [1,2,7,8,10,15,16,17,18,19,20,21,22,23,24,25,26,27,28,29,30,31,32,33] Z (rG (eZ Z (nB (rT (tR (bR (tR (AR (bR (tR (eR ?_)))))))))))))))
   ·exact Ha (by rw [IV, if_pos ⟨hl0, hl1⟩, he, D4 hk0 h2, if_neg (by simp [*]; done)])
  simp only [HS] at h3;refine eZ Z ?_
  try refine AC (Le.freeze (u := 28) rfl) ?_
  refine nZ Z (xZ Z (gY Z (AQ ?_)));refine ⟨_, IH _ _ (DD h3), rfl, ?_⟩;refine xK 3 Z (kZ [1,2,7,8,10,15,16,17,18,19,20,21,22,23,24,25,26,27,28,29,30,31,32,33] Z (nB ?_));refine AD Z (fun h4 => ?_) (fun h4 => ?_)
  ·
   simp only [HS] at h4;refine sG (eZ Z (nB (rT (tR (bR (tR (AR (bR (tR (eR ?_))))))))))
   ·exact Ha (by rw [IV, if_pos ⟨hl0, hl1⟩, he, D4 hk0 h2, if_neg (by simp [*]; done)])
  simp only [HS] at h4;refine AE (tN (sG (eK 2 Z ?_)))
  try refine AC (Le.freeze (u := 35) rfl) ?_
  refine nZ Z (eZ Z (AQ ?_));refine ⟨_, IH _ _ (DD h3), rfl, ?_⟩
  have q := Cr hp (l[k.toNat]'(by omega))
  refine evI ?_;refine evI ?_;refine eZ Z (nB (kY [1,2,7,8,10,15,16,17,18,19,20,21,22,23,24,25,26,27,28,29,30,31,32,33,34,35,36,37,38,39] Z (rG (eK 4 Z (oN (bN (tN (rG (evI ?_)))))))));refine eZ Z (oN ?_);refine lQ (_, _, _) ?_ ?_
  ·dsimp only
   have q := Cr hp (l[k.toNat]'(by omega)); exact ⟨by omega, by omega, by omega, by omega, hl0, hl1, by rw [he, D4 hk0 h2, if_pos (by simp [h3]; omega), maxIf]⟩
  ·(show Int.toNat _ < Int.toNat _); omega
 simp only [HS] at h2;refine AV (tE (AP (AO (tN (sQ (sG (eK 2 Z (nB ?_))))))));refine AD Z (fun h3 => ?_) (fun h3 => ?_)
 ·
  simp only [HS] at h3;refine sG (eZ Z (nB (rT (tR (eR ?_)))))
  ·exact Ha (by rw [IV, if_pos ⟨hl0, hl1⟩, he, A7 h2]; simp only [CO]; grind)
 simp only [HS] at h3;refine AE (tN (sG (eK 2 Z (nB (rT (eR ?_))))))
 ·exact Ha (by rw [IV, if_pos ⟨hl0, hl1⟩, he, A7 h2]; simp only [CO]; grind)
def Lo (kids : Int → List Int × List Int) : Nat → List Int → List Int
 | 0, _ => []
 | k + 1, b => b.flatMap fun n => n :: (Lo kids k (kids n).1 ++ Lo kids k (kids n).2)
def inB (N i : Int) (b : List Int) : Prop := ∀ x, x ∈ b → i ≤ x ∧ x < N
def Ba (N : Int) (kids : Int → List Int × List Int) : Prop := ∀ m, 0 ≤ m → m < N → inB N (m + 1) (kids m).1 ∧ inB N (m + 1) (kids m).2
theorem Ci {α β : Type} {f g : α → List β} : ∀ {l : List α}, (∀ x, x ∈ l → f x = g x) → l.flatMap f = l.flatMap g
 | [], _ => rfl
 | x :: l, h => by rw [Q0, Q0, h x (RB ..), Ci fun y hy => h y (Q6 _ hy)]
theorem EQ {N : Int} {kids : Int → List Int × List Int} (hd : Ba N kids) : ∀ (k k' : Nat) {i : Int} {b : List Int}, 0 ≤ i → inB N i b → N - i ≤ k → N - i ≤ k' → Lo kids k b = Lo kids k' b
 | 0, k', i, b, h0, hb, h1, h2 => by
  have : b = [] := by
   cases b with
   | nil => rfl
   | cons x b => have := hb x (RB ..); omega
  subst this
  cases k' <;> simp [Lo]
 | k + 1, 0, i, b, h0, hb, h1, h2 => by
  have : b = [] := by
   cases b with
   | nil => rfl
   | cons x b => have := hb x (RB ..); omega
  subst this
  simp [Lo]
 | k + 1, k' + 1, i, b, h0, hb, h1, h2 => by
  rw [Lo, Lo]
  refine Ci fun n hn => ?_
  have h3 := hb n hn
  have h4 := hd n (by omega) h3.2
  rw [EQ hd k k' (by omega) h4.1 (by omega) (by omega), EQ hd k k' (by omega) h4.2 (by omega) (by omega)]
def ord (N : Int) (kids : Int → List Int × List Int) (b : List Int) : List Int := Lo kids N.toNat b
theorem DT {N : Int} {kids : Int → List Int × List Int} : ord N kids [] = [] := by
 unfold ord; cases N.toNat <;> simp [Lo]
theorem Di {N : Int} {kids : Int → List Int × List Int} (hd : Ba N kids) {n : Int} {b : List Int} (hb : inB N 0 (n :: b)) : ord N kids (n :: b) = n :: (ord N kids (kids n).1 ++ ord N kids (kids n).2) ++ ord N kids b := by
 have h1 := hb n (RB ..)
 have h2 := hd n h1.1 h1.2
 have h0 : inB N 0 b := fun x hx => hb x (Q6 _ hx)
 have up : ∀ {c : List Int}, inB N (n + 1) c → Lo kids N.toNat c = ord N kids c := fun h => rfl
 obtain ⟨k, hk⟩ : ∃ k, N.toNat = k + 1 := ⟨N.toNat - 1, by omega⟩
 unfold ord;rw [hk, Lo, Q0]
 congr 1
 ·rw [EQ hd k (k + 1) (by omega) h2.1 (by omega) (by omega), EQ hd k (k + 1) (by omega) h2.2 (by omega) (by omega)]
theorem BU {N i j : Int} {b : List Int} (h : inB N i b) (hj : j ≤ i) : inB N j b := fun x hx => by have := h x hx; omega
theorem G4 {N : Int} {kids : Int → List Int × List Int} (hd : Ba N kids) {p : List Int → List Int → Prop} (h0 : p [] [])
  (h1 : ∀ n b, 0 ≤ n → n < N → inB N 0 b → p (kids n).1 (ord N kids (kids n).1) → p (kids n).2 (ord N kids (kids n).2) → p b (ord N kids b) → p (n :: b) (n :: (ord N kids (kids n).1 ++ ord N kids (kids n).2) ++ ord N kids b)) :
  ∀ (k : Nat) (i : Int) (b : List Int), 0 ≤ i → N - i ≤ k → inB N i b → p b (ord N kids b)
 | 0, i, b, hi, hk, hb => by
  have : b = [] := by
   cases b with
   | nil => rfl
   | cons x b => have := hb x (RB ..); omega
  subst this;rw [DT]; exact h0
 | k + 1, i, [], hi, hk, hb => by rw [DT]; exact h0
 | k + 1, i, n :: b, hi, hk, hb => by
  have h2 := hb n (RB ..)
  have h3 := hd n (by omega) h2.2
  have hb' : inB N i b := fun x hx => hb x (Q6 _ hx)
  rw [Di hd (BU hb hi)];exact h1 n b (by omega) h2.2 (BU hb' hi) (G4 hd h0 h1 k (n + 1) _ (by omega) (by omega) h3.1) (G4 hd h0 h1 k (n + 1) _ (by omega) (by omega) h3.2) (G4 hd h0 h1 (k + 1) i b hi hk hb')
termination_by k _ b => (k, b.length)
theorem EO {N : Int} {kids : Int → List Int × List Int} (hd : Ba N kids) {p : List Int → List Int → Prop} (h0 : p [] [])
  (h1 : ∀ n b, 0 ≤ n → n < N → inB N 0 b → p (kids n).1 (ord N kids (kids n).1) → p (kids n).2 (ord N kids (kids n).2) → p b (ord N kids b) → p (n :: b) (n :: (ord N kids (kids n).1 ++ ord N kids (kids n).2) ++ ord N kids b))
  {b : List Int} (hb : inB N 0 b) : p b (ord N kids b) := G4 hd h0 h1 N.toNat 0 b (by omega) (by omega) hb
def Hd (kids : Int → List Int × List Int) (m : Int) : List Int := (kids m).1 ++ (kids m).2
theorem EN {N : Int} {kids : Int → List Int × List Int} (hd : Ba N kids) {b : List Int} (hb : inB N 0 b) : inB N 0 (ord N kids b) :=
 EO hd (p := fun _ o => inB N 0 o) (fun x hx => by cases hx) (fun n b h1 h2 _ i1 i2 i3 x hx => by
  simp only [RT, Qp, Qj] at hx
  rcases hx with rfl | (hx | hx) | hx
  ·exact ⟨h1, h2⟩
  ·exact i1 x hx
  ·exact i2 x hx
  ·exact i3 x hx) hb
theorem Fp {N : Int} {kids : Int → List Int × List Int} (hd : Ba N kids) {b : List Int} (hb : inB N 0 b) (x : Int) : (ord N kids b).count x = b.count x + ((ord N kids b).flatMap (Hd kids)).count x :=
 EO hd (p := fun b o => o.count x = b.count x + (o.flatMap (Hd kids)).count x) rfl (fun n b h1 h2 _ i1 i2 i3 => by
  simp only [RT, Q0, Ra, List.count_cons, List.count_append, Hd] at *
  omega) hb
theorem JQ {N : Int} {kids : Int → List Int × List Int} (hd : Ba N kids) {b : List Int} (hb : inB N 0 b) : b.Sublist (ord N kids b) :=
 EO hd (p := fun b o => b.Sublist o) (List.Sublist.refl _) (fun n b h1 h2 _ i1 i2 i3 => by
  rw [RT]
  exact (i3.trans (List.sublist_append_right _ _)).cons_cons n) hb
theorem OT {N : Int} {kids : Int → List Int × List Int} (hd : Ba N kids) {b : List Int} (hb : inB N 0 b) (m : Int) (hm : m ∈ ord N kids b) : (kids m).1.Sublist (ord N kids b) ∧ (kids m).2.Sublist (ord N kids b) :=
 EO hd (p := fun b o => m ∈ o → (kids m).1.Sublist o ∧ (kids m).2.Sublist o) (fun h => by cases h) (fun n b h1 h2 _ i1 i2 i3 hm => by
  have hk := hd n h1 h2
  simp only [RT, Qp, Qj] at hm ⊢
  have s1 : (ord N kids (kids n).1).Sublist (n :: ((ord N kids (kids n).1 ++ ord N kids (kids n).2) ++ ord N kids b)) := ((List.sublist_append_left _ _).trans (List.sublist_append_left _ _)).cons n
  have s2 : (ord N kids (kids n).2).Sublist (n :: ((ord N kids (kids n).1 ++ ord N kids (kids n).2) ++ ord N kids b)) := ((List.sublist_append_right _ _).trans (List.sublist_append_left _ _)).cons n
  have s3 : (ord N kids b).Sublist (n :: ((ord N kids (kids n).1 ++ ord N kids (kids n).2) ++ ord N kids b)) := (List.sublist_append_right _ _).cons n
  rcases hm with rfl | (hm | hm) | hm
  ·exact ⟨(JQ hd (BU hk.1 (by omega))).trans s1, (JQ hd (BU hk.2 (by omega))).trans s2⟩
  ·have := i1 hm; exact ⟨this.1.trans s1, this.2.trans s1⟩
  ·have := i2 hm; exact ⟨this.1.trans s2, this.2.trans s2⟩
  ·have := i3 hm; exact ⟨this.1.trans s3, this.2.trans s3⟩) hb hm
def DM (N : Nat) : List Int := (List.range N).map fun (k : Nat) => (k : Int)
theorem mem_upto {N : Nat} {x : Int} : x ∈ DM N ↔ 0 ≤ x ∧ x < N := by
 unfold DM;rw [RA]
 constructor
 ·rintro ⟨k, hk, rfl⟩; have := RI.1 hk; omega
 ·intro h; exact ⟨x.toNat, RI.2 (by omega), by omega⟩
theorem Gt (N : Nat) : (DM N).Pairwise (· < ·) := by
 unfold DM;rw [List.pairwise_map];exact List.Pairwise.imp (fun h => by omega) List.pairwise_lt_range
theorem Dp {N : Nat} {x : Int} (h : 0 ≤ x) (h' : x < N) : (DM N).count x = 1 := by
 have hn : (DM N).Nodup := (Gt N).imp fun h e => by omega
 have h2 := List.nodup_iff_count.1 hn x
 have h3 := List.count_pos_iff.2 (mem_upto.2 ⟨h, h'⟩)
 omega
def Lr (N : Nat) (kids : Int → List Int × List Int) (body : List Int) : List Int := body ++ (DM N).flatMap (Hd kids)
theorem D7 {N : Nat} {kids : Int → List Int × List Int} (hd : Ba N kids) {body : List Int} (hb : inB N 0 body) (ho : ord N kids body = DM N) :
  (∀ x : Int, 0 ≤ x → x < N → (Lr N kids body).count x = 1) ∧ body.Pairwise (· < ·) ∧ ∀ m : Int, 0 ≤ m → m < N → (kids m).1.Pairwise (· < ·) ∧ (kids m).2.Pairwise (· < ·) := by
 refine ⟨fun x h0 h1 => ?_, (ho ▸ Gt N : (ord N kids body).Pairwise (· < ·)).sublist (JQ hd hb), fun m h0 h1 => ?_⟩
 ·have := Fp hd hb x
  rw [ho, Dp h0 h1] at this;unfold Lr;rw [List.count_append];omega
 ·have := OT hd hb m (ho ▸ mem_upto.2 ⟨h0, h1⟩)
  rw [ho] at this;exact ⟨(Gt N).sublist this.1, (Gt N).sublist this.2⟩
theorem Cj {f : Int → List Int} {x : Int} : ∀ {l : List Int}, (l.flatMap f).count x = ((l.filter fun m => decide (x ∈ f m)).flatMap f).count x
 | [] => rfl
 | m :: l => by
  rw [Q0, List.count_append, Cj (l := l), List.filter_cons];split
  ·rw [Q0, List.count_append]
  ·rename_i h
   have : x ∉ f m := by simpa using h
   rw [RM this]; omega
theorem KC {N : Nat} {kids : Int → List Int × List Int} (hd : Ba N kids) {body : List Int} (hb : inB N 0 body) (ha : ∀ x : Int, 0 ≤ x → x < N → (Lr N kids body).count x = 1) :
  ∀ (k : Nat) (x : Int), x < k → 0 ≤ x → x < N → (ord N kids body).count x = 1
 | 0, x, h, h0, _ => by omega
 | k + 1, x, h, h0, h1 => by
  have h2 := Fp hd hb x
  have h3 := ha x h0 h1
  unfold Lr at h3;rw [List.count_append] at h3
  have hp : ((ord N kids body).filter fun m => decide (x ∈ Hd kids m)).Perm ((DM N).filter fun m => decide (x ∈ Hd kids m)) := by
   rw [List.perm_iff_count];intro m
   by_cases hx : x ∈ Hd kids m
   ·rw [List.count_filter (by simpa using hx), List.count_filter (by simpa using hx)]
    by_cases hm : 0 ≤ m ∧ m < N
    ·have hk := hd m hm.1 hm.2
     have hlt : m < x := by
      rcases Qj.1 hx with hx | hx
      ·have := hk.1 x hx; omega
      ·have := hk.2 x hx; omega
     rw [KC hd hb ha k m (by omega) hm.1 hm.2, Dp hm.1 hm.2]
    ·rw [RM fun h => hm (by have := EN hd hb m h; omega), RM fun h => hm (mem_upto.1 h)]
   ·rw [RM, RM]
    ·intro h; have := (List.mem_filter.1 h).2; exact hx (by simpa using this)
    ·intro h; have := (List.mem_filter.1 h).2; exact hx (by simpa using this)
  have h4 : ((ord N kids body).flatMap (Hd kids)).count x = ((DM N).flatMap (Hd kids)).count x := by
   rw [Cj, Cj (l := DM N)];exact (hp.flatMap_right _).count_eq x
  omega
theorem MW {N : Nat} {kids : Int → List Int × List Int} (hd : Ba N kids) {body : List Int} (hb : inB N 0 body) (ha : ∀ x : Int, 0 ≤ x → x < N → (Lr N kids body).count x = 1) : (ord N kids body).Perm (DM N) := by
 rw [List.perm_iff_count];intro x
 by_cases hx : 0 ≤ x ∧ x < N
 ·rw [KC hd hb ha N x hx.2 hx.1 hx.2, Dp hx.1 hx.2]
 ·rw [RM fun h => hx (by have := EN hd hb x h; omega), RM fun h => hx (mem_upto.1 h)]
open Go.Eng
def Ad : List Stmt → Int → List Int
 | [], _ => []
 | s :: l, k => if s.kind = 3 then k :: Ad l (k + 1) else Ad l (k + 1)
theorem EH {l : List Stmt} {k : Int} (h0 : 0 ≤ k) (h1 : k < l.length) : Ad (l.drop k.toNat) k = if (l[k.toNat]'(by omega)).kind = 3 then k :: Ad (l.drop (k + 1).toNat) (k + 1) else Ad (l.drop (k + 1).toNat) (k + 1) := by
 rw [CU h0 h1, Ad]
theorem Fw (f : Func) (hf : f.ok 1048576) : Fun Try.prog 81 [.t f.tt] (A5 [.own (T.ints (Ad f.stmts 0))]) := by
 have hl : f.stmts.length ≤ 1048576 := hf.2.1.1
 refine Fun.begin tys Try.func81 Z Z (N := 23) [(0, .t f.tt)] Z Z (fun w0 G F0 => ?_);refine sG (Af Z Z (AA Z) Z Z (nZ Z (eZ Z (nA (eZ Z (AC (Le.nilOwn (u := 3) 1 Z) (AC (Le.adoptE (u := 3) 3 Z Z) (nZ Z (nB (sQ (sG (eK 2 Z (evE ?_)))))))))))));refine eZ Z (nB (AF ?_));refine lK (α := Int × Nat × List T) [7, 8] [] (fun x => [(9, .t (.int (x.1))), (3, .sl 3 0 (x.2.1))]) (fun x => [(3, .L 1 (x.2.2))]) (fun x => 0 ≤ (x.1) ∧ (x.1) ≤ f.stmts.length ∧ (x.2.1) = (x.2.2).length ∧ (x.2.2).length ≤ (x.1) ∧ ∃ done : List Int, (x.2.2) = done.map T.int ∧ Ad f.stmts 0 = done ++ Ad (f.stmts.drop (x.1).toNat) (x.1)) (fun x => Int.toNat (f.stmts.length - (x.1))) (0, 0, []) ?_ (fun x hx => ?_)
 ·exact ⟨by omega, by omega, rfl, Int.le_refl 0, [], rfl, rfl⟩
 obtain ⟨k, m, xs⟩ := x
 obtain ⟨hk0, hk1, hm, hx, done, hd, he⟩ := hx
 dsimp only at hk0 hk1 hm hx hd he ⊢;refine nY Z (sG (eZ Z (nB (sQ ?_))));refine AD Z (fun h1 => ?_) (fun h1 => ?_)
 ·
  simp only [HS] at h1;refine AE (tN (sQ (AF (sG (eZ Z ?_)))));refine iY (k := ?_);refine eZ Z ?_
  try refine AC (Le.freeze (u := 13) rfl) ?_
  refine nZ Z (AH tys Z Z (AA Z) Z Z Z (nZ Z (eZ Z (sT Z (nZ Z (nB (sQ (kY [3,4,5,7,8,9,10,11,12,13] Z (rG (eK 3 Z (nB ?_)))))))))));refine AD Z (fun h2 => ?_) (fun h2 => ?_)
  ·
   simp only [HS] at h2;refine rG (eK 2 Z (bZ [T.int k] ?_));refine nZ Z (AJ tys Z Z (AA Z) Z Z Z Z Z (.own Z (by first | omega | (simp only [Qg]; omega))) Z (.own Z (by first | decide | omega)) (by decide) (by simp only [Qo, Qk, List.length_nil]; omega) (by decide) Z ?_);refine nZ Z (eZ Z (oN (bN (tN (kY [3,4,5,7,8,9,10,11,12,13,14,15,16,17,18,19,20] Z (rG (evI ?_)))))));refine eZ Z (oN ?_);refine lQ (_, _, _) ?_ ?_
   ·dsimp only
    rw [EH hk0 h1] at he;subst hm
    first
    | (refine ⟨by omega, by omega, by simp, by simp; omega, done ++ [k], by rw [Qt, hd]; simp, ?_⟩; rw [he, if_pos (by assumption)]; simp; done)
   ·(show Int.toNat _ < Int.toNat _); omega
  simp only [HS] at h2;refine AE (bN (tN (rG (evI ?_))));refine eZ Z (oN ?_);refine lQ (_, _, _) ?_ ?_
  ·dsimp only
   rw [EH hk0 h1] at he;subst hm
   first
   | (refine ⟨by omega, by omega, rfl, by omega, done, hd, ?_⟩; rw [he, if_neg (by assumption)]; done)
  ·(show Int.toNat _ < Int.toNat _); omega
 simp only [HS] at h1;refine AV (tE (AP (AO (tN (sG (eK 2 Z (nB (AU (Le.gather (u := 2) (id := 3) Z Z (by omega)) (rT (eR ?_))))))))))
 ·(rw [he, A7 h1, Ad, Q3, hm, Qt, hd]; rfl)
theorem JL (f : Func) (hf : f.ok 1048576) : Fun Try.prog 98 [.t f.tt] (A5 [.own (T.ints (Ad f.stmts 0))]) := by
 have hl : f.stmts.length ≤ 1048576 := hf.2.1.1
 refine Fun.begin tys Try.func98 Z Z (N := 23) [(0, .t f.tt)] Z Z (fun w0 G F0 => ?_);refine sG (Af Z Z (AA Z) Z Z (nZ Z (eZ Z (nA (eZ Z (AC (Le.nilOwn (u := 3) 1 Z) (AC (Le.adoptE (u := 3) 3 Z Z) (nZ Z (nB (sQ (sG (eK 2 Z (evE ?_)))))))))))));refine eZ Z (nB (AF ?_));refine lK (α := Int × Nat × List T) [7, 8] [] (fun x => [(9, .t (.int (x.1))), (3, .sl 3 0 (x.2.1))]) (fun x => [(3, .L 1 (x.2.2))]) (fun x => 0 ≤ (x.1) ∧ (x.1) ≤ f.stmts.length ∧ (x.2.1) = (x.2.2).length ∧ (x.2.2).length ≤ (x.1) ∧ ∃ done : List Int, (x.2.2) = done.map T.int ∧ Ad f.stmts 0 = done ++ Ad (f.stmts.drop (x.1).toNat) (x.1)) (fun x => Int.toNat (f.stmts.length - (x.1))) (0, 0, []) ?_ (fun x hx => ?_)
 ·exact ⟨by omega, by omega, rfl, Int.le_refl 0, [], rfl, rfl⟩
 obtain ⟨k, m, xs⟩ := x
 obtain ⟨hk0, hk1, hm, hx, done, hd, he⟩ := hx
 dsimp only at hk0 hk1 hm hx hd he ⊢;refine nY Z (sG (eZ Z (nB (sQ ?_))));refine AD Z (fun h1 => ?_) (fun h1 => ?_)
 ·
  simp only [HS] at h1;refine AE (tN (sQ (AF (sG (eZ Z ?_)))));refine iY (k := ?_);refine eZ Z ?_
  try refine AC (Le.freeze (u := 13) rfl) ?_
  refine nZ Z (AH tys Z Z (AA Z) Z Z Z (nZ Z (eZ Z (sT Z (nZ Z (nB (sQ (kY [3,4,5,7,8,9,10,11,12,13] Z (rG (eK 3 Z (nB ?_)))))))))));refine AD Z (fun h2 => ?_) (fun h2 => ?_)
  ·
   simp only [HS] at h2;refine rG (eK 2 Z (bZ [T.int k] ?_));refine nZ Z (AJ tys Z Z (AA Z) Z Z Z Z Z (.own Z (by first | omega | (simp only [Qg]; omega))) Z (.own Z (by first | decide | omega)) (by decide) (by simp only [Qo, Qk, List.length_nil]; omega) (by decide) Z ?_);refine nZ Z (eZ Z (oN (bN (tN (kY [3,4,5,7,8,9,10,11,12,13,14,15,16,17,18,19,20] Z (rG (evI ?_)))))));refine eZ Z (oN ?_);refine lQ (_, _, _) ?_ ?_
   ·dsimp only
    rw [EH hk0 h1] at he;subst hm
    first
    | (refine ⟨by omega, by omega, by simp, by simp; omega, done ++ [k], by rw [Qt, hd]; simp, ?_⟩; rw [he, if_pos (by assumption)]; simp; done)
   ·(show Int.toNat _ < Int.toNat _); omega
  simp only [HS] at h2;refine AE (bN (tN (rG (evI ?_))));refine eZ Z (oN ?_);refine lQ (_, _, _) ?_ ?_
  ·dsimp only
   rw [EH hk0 h1] at he;subst hm
   first
   | (refine ⟨by omega, by omega, rfl, by omega, done, hd, ?_⟩; rw [he, if_neg (by assumption)]; done)
  ·(show Int.toNat _ < Int.toNat _); omega
 simp only [HS] at h1;refine AV (tE (AP (AO (tN (sG (eK 2 Z (nB (AU (Le.gather (u := 2) (id := 3) Z Z (by omega)) (rT (eR ?_))))))))))
 ·(rw [he, A7 h1, Ad, Q3, hm, Qt, hd]; rfl)
theorem E8 (p : Prog) (hp : p.ok 1048576) : Fun Try.prog 79 [.t p.tt] (A5 [.own (T.ints (p.funcs.map (·.params)))]) := by
 have hl : p.funcs.length ≤ 1048576 := hp.1.1
 refine Fun.begin tys Try.func79 Z Z (N := 20) [(0, .t p.tt)] Z Z (fun w0 G F0 => ?_);refine sG (Af Z Z (AA Z) Z Z (nZ Z (eZ Z (nA (eZ Z (AC (Le.nilOwn (u := 3) 1 Z) (AC (Le.adoptE (u := 3) 3 Z Z) (nZ Z (nB (sQ (sG (eK 2 Z (evE ?_)))))))))))));refine eZ Z (nB (AF ?_));refine lK (α := Int × Nat × List T) [7, 8] [] (fun x => [(9, .t (.int (x.1))), (3, .sl 3 0 (x.2.1))]) (fun x => [(3, .L 1 (x.2.2))]) (fun x => 0 ≤ (x.1) ∧ (x.1) ≤ p.funcs.length ∧ (x.2.1) = (x.2.2).length ∧ (x.2.2).length ≤ (x.1) ∧ (x.2.2) = ((p.funcs.map (·.params)).take (x.1).toNat).map T.int) (fun x => Int.toNat (p.funcs.length - (x.1))) (0, 0, []) ?_ (fun x hx => ?_)
 ·exact ⟨by omega, by omega, rfl, Int.le_refl 0, rfl⟩
 obtain ⟨k, m, xs⟩ := x
 obtain ⟨hk0, hk1, hm, hx, hd⟩ := hx
 dsimp only at hk0 hk1 hm hx hd ⊢;refine nY Z (sG (eZ Z (nB (sQ ?_))));refine AD Z (fun h1 => ?_) (fun h1 => ?_)
 ·
  simp only [HS] at h1;refine AE (tN (sQ (AF (sG ?_))));refine iY (k := ?_);refine eZ Z ?_
  try refine AC (Le.freeze (u := 12) rfl) ?_
  refine nZ Z (AH tys Z Z (AA Z) Z Z Z (nZ Z (sT Z (nZ Z (nB (rG (eK 3 Z (bZ [T.int (p.funcs[k.toNat]'(by omega)).params] ?_))))))));refine nZ Z (kZ [3,5,7,8,9,10,11,12,13,14,15,16] Z (AJ tys Z Z (AA Z) Z Z Z Z Z (.own Z (by first | omega | (simp only [Qg]; omega))) Z (.own Z (by first | decide | omega)) (by decide) (by simp only [Qo, Qk, List.length_nil]; omega) (by decide) Z ?_));refine nZ Z (eZ Z (oN (bN (tN (rG (evI ?_))))));refine eZ Z (oN ?_);refine lQ (_, _, _) ?_ ?_
  ·dsimp only
   subst hm;refine ⟨by omega, by omega, by simp, by simp; omega, ?_⟩;rw [Qt, hd, CD hk0 (by simp; omega), Q8]; simp
  ·(show Int.toNat _ < Int.toNat _); omega
 simp only [HS] at h1;refine AV (tE (AP (AO (tN (sG (eK 2 Z (nB (AU (Le.gather (u := 2) (id := 3) Z Z (by omega)) (rT (eR ?_))))))))))
 ·(rw [hm, Qt, hd, BW (by simp; omega)]; rfl)
theorem H7 (p : Prog) (hp : p.ok 1048576) : Fun Try.prog 66 [.t p.tt] (A5 [.own (T.ints (p.funcs.map (·.params)))]) := by
 have hl : p.funcs.length ≤ 1048576 := hp.1.1
 refine Fun.begin tys Try.func66 Z Z (N := 25) [(0, .t p.tt)] Z Z (fun w0 G F0 => ?_);refine sG (Af Z Z (AA Z) Z Z (nZ Z (eZ Z (nA (eK 2 Z (evE ?_))))));refine Jr tys (.v (.int .i64 0)) _ Z Z (AA Z) Z Z Z Z Z (by repeat (first | exact AbsL.nil' | refine AbsL.v' ?_ | refine AbsL.none' ?_)) Z (by omega) (by decide) ?_;refine nZ Z (eZ Z (nB (sQ (sQ (kY [1,2,3] Z (rG (eK 2 Z (evE ?_))))))));refine eZ Z (nB (AF ?_));refine lK (α := Int × List T) [11, 12] [] (fun x => [(13, .t (.int (x.1))), (3, .sl 9 0 p.funcs.length)]) (fun x => [(9, .L 1 (x.2))]) (fun x => 0 ≤ (x.1) ∧ (x.1) ≤ p.funcs.length ∧ (x.2).length = p.funcs.length ∧ (x.2).take (x.1).toNat = ((p.funcs.map (·.params)).take (x.1).toNat).map T.int) (fun x => Int.toNat (p.funcs.length - (x.1))) (0, List.replicate p.funcs.length (T.int 0)) ?_ (fun x hx => ?_)
 ·exact ⟨by omega, by omega, by simp, by simp⟩
 obtain ⟨k, xs⟩ := x
 obtain ⟨hk0, hk1, hm, hd⟩ := hx
 dsimp only at hk0 hk1 hm hd ⊢;refine nY Z (sG (eZ Z (nB (sQ ?_))));refine AD Z (fun h1 => ?_) (fun h1 => ?_)
 ·
  simp only [HS] at h1;refine AE (tN (sQ (AF (sG (eZ Z ?_)))));refine iY (k := ?_);refine eZ Z ?_
  try refine AC (Le.freeze (u := 17) rfl) ?_
  refine nZ Z (AH tys Z Z (AA Z) Z Z Z (nZ Z (eZ Z (sT Z (nZ Z (nB (kY [3,4,5,11,12,13,14,15,16,17] Z (rG (eK 4 Z (Bb tys Z Z (AA Z) Z Z Z Z Z Z Z Z (by omega) (by omega) ?_))))))))));refine Ec tys (.v (.int .i64 _)) Z Z Z Z Z Z (by first | exact Q9 _ | rfl) (by omega) Z (by repeat (first | exact AbsL.nil' | refine AbsL.v' ?_ | refine AbsL.own' ?_)) Z Z Z ?_;refine nZ Z (oN (bN (tN (rG (evI ?_)))));refine eZ Z (oN ?_);refine lQ (_, _) ?_ ?_
  ·dsimp only
   have q := M5 (g := T.int) (l := p.funcs.map (·.params)) hk0 (by simp; omega) (by simpa using hm) hd
   exact ⟨by omega, by omega, by simpa using hm, by simpa using q⟩
  ·(show Int.toNat _ < Int.toNat _); omega
 simp only [HS] at h1;refine AV (tE (AP (AO (tN (sG (eK 2 Z (nB (AU (Le.gather (u := 2) (id := 9) Z Z (by omega)) (rT (eR ?_))))))))))
 ·(rw [Qi (by omega), Ot (l := p.funcs.map (·.params)) (by simp; omega) (by simpa using hm) hd]; rfl)
open Go.Eng
def kids (l : List Stmt) (m : Int) : List Int × List Int := match l[m.toNat]? with
 | some s => (s.thn, s.els)
 | none => ([], [])
theorem kids_at {l : List Stmt} {m : Int} (h : m.toNat < l.length) : kids l m = ((l[m.toNat]).thn, (l[m.toNat]).els) := by
 unfold kids; rw [List.getElem?_eq_getElem h]
def LO (N i : Int) (b : List Int) : Bool := b.all fun x => decide (i ≤ x ∧ x < N)
theorem inBB_iff {N i : Int} {b : List Int} : LO N i b = true ↔ inB N i b := by
 unfold LO inB; rw [Qn]; simp
def Kk (l : List Stmt) : Bool := (DM l.length).all fun m => LO l.length (m + 1) (kids l m).1 && LO l.length (m + 1) (kids l m).2
theorem LU {l : List Stmt} : Kk l = true ↔ Ba l.length (kids l) := by
 unfold Kk Ba;rw [Qn]
 constructor
 ·intro h m h0 h1
  have := h m (mem_upto.2 ⟨h0, h1⟩)
  rw [Qf, inBB_iff, inBB_iff] at this;exact this
 ·intro h m hm
  have h2 := mem_upto.1 hm
  rw [Qf, inBB_iff, inBB_iff];exact h m h2.1 h2.2
def Bq (l : List Stmt) (body : List Int) : Bool := Kk l && (LO l.length 0 body && (ord l.length (kids l) body == DM l.length))
theorem shapeB_iff {l : List Stmt} {body : List Int} : Bq l body = true ↔ Ba l.length (kids l) ∧ inB l.length 0 body ∧ ord l.length (kids l) body = DM l.length := by
 unfold Bq; rw [Qf, Qf, LU, inBB_iff, beq_iff_eq]
def Ea : List Stmt → Int → List (Int × List Int)
 | [], _ => []
 | s :: l, k => (k, s.thn) :: (k, s.els) :: Ea l (k + 1)
def C5 (l : List Stmt) (body : List Int) : List (Int × List Int) := (-1, body) :: Ea l 0
theorem Iw : ∀ (l : List Stmt) (k : Int), (Ea l k).length = 2 * l.length
 | [], _ => rfl
 | s :: l, k => by rw [Ea, Qk, Qk, Iw l, Qk]; omega
theorem blkGo_mem : ∀ {l : List Stmt} {k : Int} {p : Int × List Int}, p ∈ Ea l k ↔ ∃ j : Nat, ∃ h : j < l.length, p = (k + j, (l[j]).thn) ∨ p = (k + j, (l[j]).els)
  | [], k, p => by simp [Ea]
  | s :: l, k, p => by
    rw [Ea, Qp, Qp, blkGo_mem]
    constructor
    · rintro (h | h | ⟨j, hj, h⟩)
      · exact ⟨0, by simp, .inl (by simpa using h)⟩
      · exact ⟨0, by simp, .inr (by simpa using h)⟩
      · refine ⟨j + 1, by simp; omega, ?_⟩
        rcases h with h | h
        · exact .inl (by rw [h]; simp; omega)
        · exact .inr (by rw [h]; simp; omega)
    · rintro ⟨j, hj, h⟩
      cases j with
      | zero => rcases h with h | h
                · exact .inl (by simpa using h)
                · exact .inr (.inl (by simpa using h))
      | succ j =>
        refine .inr (.inr ⟨j, by simpa using hj, ?_⟩)
        rcases h with h | h
        · exact .inl (by rw [h]; simp; omega)
        · exact .inr (by rw [h]; simp; omega)
def Hx (l : List Int) (lo hi : Int) : Prop := (∀ x, x ∈ l → lo ≤ x ∧ x ≤ hi) ∧ l.Pairwise (· < ·)
instance (l : List Int) (lo hi : Int) : Decidable (Hx l lo hi) := by unfold Hx; infer_instance
def GQ (l : List Int) (lo hi : Int) : Bool := decide (Hx l lo hi)
def cntF (l : List Int) (x : Int) : Int := l.count x
def MZ (N : Nat) (l : List Int) : Bool := (DM N).all fun x => decide (cntF l x = 1)
def QP (N : Int) (p : Int × List Int) : Bool := GQ p.2 0 (N - 1) && p.2.all fun n => decide (p.1 < n)
def DH (l : List Stmt) (body : List Int) : Bool := (C5 l body).all (QP l.length) && MZ l.length ((C5 l body).map (·.2)).flatten
theorem Lt (N : Nat) : DM (N + 1) = 0 :: (DM N).map (· + 1) := by
 unfold DM;rw [List.range_succ_eq_map, Q4, List.map_map, List.map_map];rfl
theorem HP : ∀ (l : List Stmt) (k : Int), ((Ea l k).map (·.2)).flatten = (DM l.length).flatMap (Hd (kids l))
 | [], _ => rfl
 | s :: l, k => by
  rw [Ea, Q4, Q4, List.flatten_cons, List.flatten_cons, HP l, Qk, Lt, Q0, List.flatMap_map];rw [show Hd (kids (s :: l)) 0 = s.thn ++ s.els from rfl, Qz]
  congr 2
  refine Ci fun x hx => ?_
  have h := mem_upto.1 hx
  unfold Hd kids;rw [show (x + 1).toNat = x.toNat + 1 from by omega];rfl
theorem NL (l : List Stmt) (body : List Int) : ((C5 l body).map (·.2)).flatten = Lr l.length (kids l) body := by
 rw [C5, Q4, List.flatten_cons, HP, Lr]
theorem MY {N : Nat} {l : List Int} : MZ N l = true ↔ ∀ x : Int, 0 ≤ x → x < N → l.count x = 1 := by
 unfold MZ cntF;rw [Qn]
 constructor
 ·intro h x h0 h1; have := h x (mem_upto.2 ⟨h0, h1⟩); simp at this; omega
 ·intro h x hx; have := h x (mem_upto.1 hx).1 (mem_upto.1 hx).2; simp; omega
theorem blocksB_iff {l : List Stmt} {body : List Int} : DH l body = true ↔ inB l.length 0 body ∧ body.Pairwise (· < ·) ∧ Ba l.length (kids l) ∧ (∀ m : Int, 0 ≤ m → m < l.length → (kids l m).1.Pairwise (· < ·) ∧ (kids l m).2.Pairwise (· < ·)) ∧ ∀ x : Int, 0 ≤ x → x < l.length → (Lr l.length (kids l) body).count x = 1 := by
 unfold DH;rw [Qf, MY, NL, C5, RG, Qf, Qn]
 have hb : ∀ (o : Int) (b : List Int), QP l.length (o, b) = true ↔ inB l.length 0 b ∧ b.Pairwise (· < ·) ∧ ∀ x, x ∈ b → o < x := by
  intro o b;unfold QP GQ;rw [Qf, decide_eq_true_iff, Qn];unfold Hx inB;simp only [decide_eq_true_eq]
  constructor
  ·rintro ⟨⟨h1, h2⟩, h3⟩; exact ⟨fun x hx => by have := h1 x hx; omega, h2, h3⟩
  ·rintro ⟨h1, h2, h3⟩; exact ⟨⟨fun x hx => by have := h1 x hx; omega, h2⟩, h3⟩
 rw [hb]
 constructor
 ·rintro ⟨⟨⟨h1, h2, _⟩, h4⟩, h5⟩
  have hk : ∀ m : Int, 0 ≤ m → m < l.length → (inB l.length (m + 1) (kids l m).1 ∧ inB l.length (m + 1) (kids l m).2) ∧ (kids l m).1.Pairwise (· < ·) ∧ (kids l m).2.Pairwise (· < ·) := by
   intro m m0 m1
   have q1 := (hb _ _).1 (h4 (m, (l[m.toNat]'(by omega)).thn) (blkGo_mem.2 ⟨m.toNat, by omega, .inl (by congr 1; omega)⟩))
   have q2 := (hb _ _).1 (h4 (m, (l[m.toNat]'(by omega)).els) (blkGo_mem.2 ⟨m.toNat, by omega, .inr (by congr 1; omega)⟩))
   rw [kids_at (by omega)];exact ⟨⟨fun x hx => by have := q1.1 x hx; have := q1.2.2 x hx; omega, fun x hx => by have := q2.1 x hx; have := q2.2.2 x hx; omega⟩, q1.2.1, q2.2.1⟩
  exact ⟨h1, h2, fun m m0 m1 => (hk m m0 m1).1, fun m m0 m1 => (hk m m0 m1).2, h5⟩
 ·rintro ⟨h1, h2, h3, h4, h5⟩
  refine ⟨⟨⟨h1, h2, fun x hx => by have := h1 x hx; omega⟩, fun p hp => ?_⟩, h5⟩
  obtain ⟨j, hj, hp⟩ := blkGo_mem.1 hp
  have q3 := h3 j (by omega) (by omega)
  have q4 := h4 j (by omega) (by omega)
  rw [kids_at (by omega)] at q3 q4
  rcases hp with rfl | rfl
  ·refine (hb _ _).2 ⟨fun x hx => ?_, q4.1, fun x hx => ?_⟩
   ·have := q3.1 x hx; omega
   ·have := q3.1 x hx; omega
  ·refine (hb _ _).2 ⟨fun x hx => ?_, q4.2, fun x hx => ?_⟩
   ·have := q3.2 x hx; omega
   ·have := q3.2 x hx; omega
theorem C6 (N : Nat) : (DM N).length = N := by unfold DM; simp
theorem Gu {N k : Nat} (h : k < (DM N).length) : (DM N)[k] = k := by simp [DM]
theorem shape_blocks {l : List Stmt} {body : List Int} : Bq l body = true ↔ DH l body = true ∧ ∀ (k : Nat) (h : k < (ord l.length (kids l) body).length), (ord l.length (kids l) body)[k] = (k : Int) := by
 rw [shapeB_iff, blocksB_iff]
 constructor
 ·rintro ⟨hd, hb, ho⟩
  have := D7 hd hb ho
  refine ⟨⟨hb, this.2.1, hd, this.2.2, this.1⟩, fun k h => ?_⟩
  have h2 : k < (DM l.length).length := by rw [← ho]; exact h
  rw [← Gu h2]
  congr 1
 ·rintro ⟨⟨hb, _, hd, _, ha⟩, ho⟩
  refine ⟨hd, hb, ?_⟩
  have hp := (MW hd hb ha).length_eq
  refine List.ext_getElem hp fun k h1 h2 => ?_
  rw [ho k h1, Gu h2]
theorem LZ {l : List Stmt} {body : List Int} (h : DH l body = true) : (ord l.length (kids l) body).length = l.length := by
 have h := blocksB_iff.1 h
 rw [(MW h.2.2.1 h.1 h.2.2.2.2).length_eq, C6]
def usesF : List Stmt → Nat
 | [] => 0
 | s :: l => s.thn.length + s.els.length + usesF l
theorem Kv (l : List Stmt) : usesF l = ((DM l.length).flatMap (Hd (kids l))).length := by
 rw [← HP l 0];generalize (0 : Int) = k
 induction l generalizing k with
 | nil => rfl
 | cons s l ih =>
  rw [usesF, ih (k + 1), Ea];simp only [Q4, List.flatten_cons, Qg];omega
theorem NE (N : Nat) : ∀ {l : List Int}, (∀ x, x ∈ l → 0 ≤ x ∧ x < N) → (∀ x : Int, 0 ≤ x → x < N → l.count x = 1) → l.length = N := by
 intro l h1 h2
 have : l.Perm (DM N) := by
  rw [List.perm_iff_count];intro x
  by_cases hx : 0 ≤ x ∧ x < N
  ·rw [h2 x hx.1 hx.2, Dp hx.1 hx.2]
  ·rw [RM fun h => hx (h1 x h), RM fun h => hx (mem_upto.1 h)]
 rw [this.length_eq, C6]
theorem Ge {l : List Stmt} {body : List Int} (h : Bq l body = true) : body.length + usesF l = l.length := by
 have h := shapeB_iff.1 h
 have h2 := (D7 h.1 h.2.1 h.2.2).1
 have := NE l.length (l := Lr l.length (kids l) body) (fun x hx => by
  rcases Qj.1 hx with hx | hx
  ·exact h.2.1 x hx
  ·obtain ⟨m, hm, hx⟩ := Q7.1 hx
   have hm := mem_upto.1 hm
   have hk := h.1 m hm.1 hm.2
   rcases Qj.1 hx with hx | hx
   ·have := hk.1 x hx; omega
   ·have := hk.2 x hx; omega) h2
 unfold Lr at this;rw [Qg, ← Kv] at this;exact this
theorem Dd (l : List Stmt) {k : Nat} (h : k < l.length) : usesF (l.drop k) = (l[k]).thn.length + (l[k]).els.length + usesF (l.drop (k + 1)) := by
 rw [List.drop_eq_getElem_cons h, usesF]
theorem Jw (l : List Stmt) : ∀ (n : Nat), usesF (l.drop n) ≤ usesF l := by
 induction l with
 | nil => intro n; simp
 | cons s l ih =>
  intro n
  cases n with
  | zero => exact Qu _
  | succ n => have := ih n; rw [List.drop_succ_cons, usesF]; omega
theorem EP {l : List Stmt} (hd : Ba l.length (kids l)) : ∀ (k : Nat) (i : Nat) {b : List Int}, l.length - i ≤ k → inB l.length i b → (ord l.length (kids l) b).length ≤ b.length * 2 ^ usesF (l.drop i)
 | k, i, [], hk, hb => by rw [DT]; simp
 | 0, i, x :: b, hk, hb => by have := hb x (RB ..); omega
 | k + 1, i, x :: b, hk, hb => by
  have hx := hb x (RB ..)
  have hr := EP hd (k + 1) i (b := b) hk fun y hy => hb y (Q6 _ hy)
  have hkd := hd x (by omega) hx.2
  rw [Di hd (BU hb (by omega))]
  have r1 := EP hd k (x.toNat + 1) (b := (kids l x).1) (by omega) (by rw [show ((x.toNat + 1 : Nat) : Int) = x + 1 from by omega]; exact hkd.1)
  have r2 := EP hd k (x.toNat + 1) (b := (kids l x).2) (by omega) (by rw [show ((x.toNat + 1 : Nat) : Int) = x + 1 from by omega]; exact hkd.2)
  have hu := Dd l (k := x.toNat) (by omega)
  have hle : ∀ (n j : Nat), usesF (l.drop (j + n)) ≤ usesF (l.drop j) := by
   intro n
   induction n with
   | zero => intro j; simp
   | succ n ih =>
    intro j
    have h1 := ih (j + 1)
    rw [show j + 1 + n = j + (n + 1) from by omega] at h1
    by_cases hj : j < l.length
    ·have := Dd l hj; omega
    ·rw [List.drop_of_length_le (by omega : l.length ≤ j + (n + 1))]; simp [usesF]
  have h3 := hle (x.toNat - i) i
  rw [show i + (x.toNat - i) = x.toNat from by omega] at h3;rw [kids_at (by omega)] at r1 r2 ⊢;dsimp only at r1 r2 ⊢;generalize (l[x.toNat]'(by omega)).thn = t1 at *;generalize (l[x.toNat]'(by omega)).els = t2 at *;generalize usesF (l.drop (x.toNat + 1)) = u at *;generalize usesF (l.drop x.toNat) = v at *;generalize usesF (l.drop i) = z at *;rw [Qg, Qk, Qg, Qk, Nat.succ_mul]
  have h4 : 1 + (t1.length * 2 ^ u + t2.length * 2 ^ u) ≤ 2 ^ z := by
   have h5 : 2 ^ v ≤ 2 ^ z := Nat.pow_le_pow_right (by omega) h3
   have h6 : 2 ^ v = 2 ^ (t1.length + t2.length) * 2 ^ u := by rw [hu, Nat.pow_add]
   have h7 : t1.length + t2.length + 1 ≤ 2 ^ (t1.length + t2.length) := Nat.lt_two_pow_self
   have h8 : (t1.length + t2.length + 1) * 2 ^ u ≤ 2 ^ (t1.length + t2.length) * 2 ^ u := RS _ h7
   have h9 : 1 ≤ 2 ^ u := Nat.one_le_two_pow
   rw [Nat.add_mul, Nat.add_mul] at h8;omega
  omega
theorem Et {l : List Stmt} (hd : Ba l.length (kids l)) {b : List Int} (hb : inB l.length 0 b) (h : b.length ≤ 16) (hn : usesF l ≤ 16) : (ord l.length (kids l) b).length ≤ 1048576 := by
 have := EP hd l.length 0 (b := b) (by omega) hb
 rw [List.drop_zero] at this
 have h2 : 2 ^ usesF l ≤ 2 ^ 16 := Nat.pow_le_pow_right (by omega) (by omega)
 have h3 : b.length * 2 ^ usesF l ≤ 16 * 2 ^ 16 := Nat.mul_le_mul (by omega) h2
 omega
open Go.Eng
theorem Hw {l : List Int} {lo hi k : Int} (h0 : 0 ≤ k) (h1 : k < l.length) (h : Hx (l.take k.toNat) lo hi) (h2 : lo ≤ l[k.toNat]'(by omega) ∧ l[k.toNat]'(by omega) ≤ hi)
  (h3 : ∀ h : 0 < k, l[(k - 1).toNat]'(by omega) < l[k.toNat]'(by omega)) : Hx (l.take (k + 1).toNat) lo hi := by
 rw [CD h0 h1];refine ⟨fun x hx => ?_, ?_⟩
 ·rcases Qj.1 hx with hx | hx
  ·exact h.1 x hx
  ·rw [Q5.1 hx]; exact h2
 ·rw [List.pairwise_append]
  refine ⟨h.2, List.pairwise_singleton _ _, fun a ha b hb => ?_⟩;rw [Q5.1 hb]
  obtain ⟨j, hj, rfl⟩ := RC ha
  rw [Qo] at hj
  have h4 := h3 (by omega)
  by_cases hjk : j = (k - 1).toNat
  ·subst hjk; rw [List.getElem_take]; exact h4
  ·have := List.pairwise_iff_getElem.1 h.2 j (k - 1).toNat (by rw [Qo]; omega) (by rw [Qo]; omega) (by omega)
   rw [List.getElem_take, List.getElem_take] at this;rw [List.getElem_take];omega
theorem OH {l : List Int} {lo hi k : Int} (h0 : 0 ≤ k) (h1 : k < l.length) (h2 : ¬ (lo ≤ l[k.toNat]'(by omega) ∧ l[k.toNat]'(by omega) ≤ hi)) : GQ l lo hi = false := by
 unfold GQ; rw [decide_eq_false_iff_not]; intro h; exact h2 (h.1 _ (Qr _))
theorem OG {l : List Int} {lo hi k : Int} (h0 : 0 < k) (h1 : k < l.length) (h2 : l[k.toNat]'(by omega) ≤ l[(k - 1).toNat]'(by omega)) : GQ l lo hi = false := by
 unfold GQ; rw [decide_eq_false_iff_not]; intro h
 have := List.pairwise_iff_getElem.1 h.2 (k - 1).toNat k.toNat (by omega) (by omega) (by omega)
 omega
theorem OE {l : List Int} {lo hi k : Int} (h1 : (l.length : Int) ≤ k) (h : Hx (l.take k.toNat) lo hi) : GQ l lo hi = true := by
 rw [BW h1] at h; unfold GQ; exact decide_eq_true h
theorem IP (l : List Int) (lo hi : Int) (hl : l.length ≤ 1073741824) : Fun Try.prog 115 [.t (T.ints l), .t (.int lo), .t (.int hi)] (A5 [.t (.bool (GQ l lo hi))]) := by
 refine Fun.begin tys Try.func115 Z Z (N := 35) [(0, .t (T.ints l)), (1, .t (.int lo)), (2, .t (.int hi))] Z Z (fun w0 G F0 => ?_);refine sG (eZ Z (nB (sQ (sG (eZ Z (evE ?_))))));refine eZ Z (nB (AF ?_));refine lK (α := Int) [0, 1, 2, 9, 10] [] (fun x => [(11, .t (.int x))]) (fun x => []) (fun x => 0 ≤ x ∧ x ≤ l.length ∧ Hx (l.take x.toNat) lo hi) (fun x => Int.toNat (l.length - x)) 0 ?_ (fun k hx => ?_)
 ·exact ⟨by omega, by omega, fun x hx => by simp at hx, by simp⟩
 obtain ⟨hk0, hk1, hk2⟩ := hx
 refine nY Z (sG (eZ Z (nB (sQ ?_))));refine AD Z (fun h1 => ?_) (fun h1 => ?_)
 ·
  simp only [HS] at h1;refine AE (tN (sQ (AF (sG (eZ Z ?_)))));refine iY (k := ?_);refine eK 3 Z (nA (eK 3 Z (kZ [0,1,2,7,8,9,10,11,12,13,14,15,16,17,18] Z (AQ ?_))));refine ⟨_, A6 _ _ _, rfl, ?_⟩;refine eK 2 Z ?_;refine gB (fun h2 => ?_) (fun h2 => ?_)
  ·
   simp only [HS] at h2;refine xK 6 Z (kZ [0,1,2,7,8,9,10,11,12,13,14,15,16,17,18,19,20,21,22,23,24,25,26,27,28] Z (xK 5 Z (nB (AY Z (sG (eZ Z (nB (rT (bR (tR (AR (bR (tR (eR ?_))))))))))))))
   ·exact As (OH hk0 (by omega) h2).symm
  simp only [HS] at h2;refine xK 3 Z ?_;refine gB (fun h3 => ?_) (fun h3 => ?_)
  ·
   simp only [HS] at h3;refine xK 3 Z (kZ [0,1,2,7,8,9,10,11,12,13,14,15,16,17,18,19,20,21,22,23,24,25,26,27,28] Z (xK 5 Z (nB (BC Z (AE (bN (tN (rG (evI ?_)))))))));refine eZ Z (oN ?_);refine lQ _ ?_ ?_
   ·skip
    exact ⟨by omega, by omega, Hw hk0 (by omega) hk2 h2 (fun h => by omega)⟩
   ·(show Int.toNat _ < Int.toNat _); omega
  simp only [HS] at h3;refine xK 2 Z (gY Z (evI ?_));refine kZ [0,1,2,7,8,9,10,11,12,13,14,15,16,17,18,19,20,21,22,23,24,25,26,27] Z (gY Z ?_);refine iY (k := ?_);refine xK 5 Z (nB ?_);refine AD Z (fun h4 => ?_) (fun h4 => ?_)
  ·
   simp only [HS] at h4;refine sG (eZ Z (nB (rT (bR (tR (AR (bR (tR (eR ?_)))))))))
   ·exact As (OG (by assumption) (by omega) (by assumption)).symm
  simp only [HS] at h4;refine AE (bN (tN (rG (evI ?_))));refine eZ Z (oN ?_);refine lQ _ ?_ ?_
  ·skip
   exact ⟨by omega, by omega, Hw hk0 (by omega) hk2 h2 (fun h => by omega)⟩
  ·(show Int.toNat _ < Int.toNat _); omega
 simp only [HS] at h1;refine AV (tE (AP (AO (tN (sG (eZ Z (nB (rT (eR ?_)))))))))
 ·exact As (OE (by omega) hk2).symm
theorem MU (l : List Int) : ∀ x, x ∈ l.map T.int → (T.cells x).length = 1 ∧ ∀ y, y ∈ T.cells x → ∃ v, y = .v v := by
 intro x hx
 obtain ⟨a, _, rfl⟩ := RA.1 hx
 exact ⟨rfl, fun y hy => ⟨_, Q5.1 hy⟩⟩
def BF (f : Func) (b : List Int) : List Int := ord f.stmts.length (kids f.stmts) b
theorem Fq {f : Func} (hd : Ba f.stmts.length (kids f.stmts)) {b : List Int} (hb : inB f.stmts.length 0 b) {k : Int} (h0 : 0 ≤ k) (h1 : k < b.length) (hn : (b[k.toNat]'(by omega)).toNat < f.stmts.length) :
  BF f (b.drop k.toNat) = b[k.toNat]'(by omega) :: (BF f (f.stmts[(b[k.toNat]'(by omega)).toNat]'hn).thn ++ (BF f (f.stmts[(b[k.toNat]'(by omega)).toNat]'hn).els ++ BF f (b.drop (k + 1).toNat))) := by
 have e := CU h0 h1
 rw [e];unfold BF;rw [Di hd fun x hx => hb x (by rw [← e] at hx; exact Re hx), kids_at hn];simp only [RT, Qz]
theorem KE {f : Func} : BF f [] = [] := DT
theorem IK (f : Func) (b : List Int) (hf : f.ok 1048576) (hd : Ba f.stmts.length (kids f.stmts)) (hb : inB f.stmts.length 0 b) (hbl : b.length ≤ 1048576) (hlen : (BF f b).length ≤ 1048576) (ih : ∀ n, n ∈ b → ∀ h : n.toNat < f.stmts.length, Fun Try.prog 107 [.t f.tt, .t (T.ints (f.stmts[n.toNat]).thn)] (.own (T.ints (BF f (f.stmts[n.toNat]).thn))) ∧ Fun Try.prog 107 [.t f.tt, .t (T.ints (f.stmts[n.toNat]).els)] (.own (T.ints (BF f (f.stmts[n.toNat]).els)))) : Fun Try.prog 107 [.t f.tt, .t (T.ints b)] (A5 [.own (T.ints (BF f b))]) := by
 have hl : f.stmts.length ≤ 1048576 := hf.2.1.1
 refine Fun.begin tys Try.func107 Z Z (N := 40) [(0, .t f.tt), (1, .t (T.ints b))] Z Z (fun w0 G F0 => ?_);refine sG (Af Z Z (AA Z) Z Z (nZ Z (eZ Z (nA (eZ Z (AC (Le.nilOwn (u := 5) 1 Z) (AC (Le.adoptE (u := 5) 5 Z Z) (nZ Z (nB (sQ (sG (eZ Z (evE ?_)))))))))))));refine eZ Z (nB (AF ?_));refine lK (α := Int × Nat × List T) [2, 8, 9] [2] (fun x => [(10, .t (.int (x.1))), (5, .sl 5 0 (x.2.1))]) (fun x => [(5, .L 1 (x.2.2))]) (fun x => 0 ≤ (x.1) ∧ (x.1) ≤ b.length ∧ (x.2.1) = (x.2.2).length ∧ ∃ done : List Int, (x.2.2) = done.map T.int ∧ BF f b = done ++ BF f (b.drop (x.1).toNat)) (fun x => Int.toNat (b.length - (x.1))) (0, 0, []) ?_ (fun x hx => ?_)
 ·exact ⟨by omega, by omega, rfl, [], rfl, rfl⟩
 obtain ⟨k, m, xs⟩ := x
 obtain ⟨hk0, hk1, hm, done, hx, he⟩ := hx
 dsimp only at hk0 hk1 hm hx he ⊢;refine nY Z (sG (eZ Z (nB (sQ ?_))));refine AD Z (fun h1 => ?_) (fun h1 => ?_)
 ·
  simp only [HS] at h1;refine AE (tN (sQ (AF (sG ?_))));refine iY (k := ?_);refine eZ Z ?_
  have hn := hb _ (Qr (l := b) (n := k.toNat) (by omega))
  have hs := Fq hd hb hk0 h1 (by omega)
  have hq := congrArg List.length he
  rw [hs] at hq;simp only [Qg, Qk] at hq
  have hxl := congrArg List.length hx
  rw [Qh] at hxl;refine eZ Z (nA (eK 2 Z (bZ [T.int (b[k.toNat]'(by omega))] ?_)));refine nZ Z (AJ tys Z Z (AA Z) Z Z Z Z Z (.own Z (by first | omega | (simp only [Qg]; omega))) Z (.own Z (by first | decide | omega)) (by decide) (by simp only [Qo, Qk, List.length_nil]; omega) (by decide) Z ?_);refine nZ Z (eZ Z (kZ [2,5,7,8,9,10,11,12,13,14,15,16,17] Z (nB (sQ (B4 9 A9 Z (by kernel_rfl) (by kernel_rfl) (evQ ?_))))));refine evQ ?_;refine evQ ?_;refine evQ ?_;refine evQ ?_;refine A3 tys Z Z (AA Z) Z Z Z Z Z Z Z (by omega) _ (EE _ _ (by omega) (by omega)) (AS Z (evQ ?_));refine evQ ?_;refine Gp ?_;refine ⟨_, (ih _ (Qr _) _).1, rfl, ?_⟩;refine BE (nZ Z (AC (Le.freeze (u := 26) Z) (nZ Z (AJ tys Z Z (AA Z) Z Z Z Z Z (.own Z (by first | omega | (simp only [Qg]; omega))) Z (.read (MU _)) (by decide) (by simp only [Qo, Qg, Qh, Qk, List.length_nil]; omega) (by decide) Z ?_))));refine nZ Z (eZ Z (nB (B4 9 A9 Z (by kernel_rfl) (by kernel_rfl) (evQ ?_))));refine evQ ?_;refine evQ ?_;refine evQ ?_;refine AS Z (evQ ?_);refine A3 tys Z Z (AA Z) Z Z Z Z Z Z Z (by omega) _ (EE _ _ (by omega) (by omega)) (evQ ?_);refine evQ ?_;refine Gp ?_;refine ⟨_, (ih _ (Qr _) _).2, rfl, ?_⟩;refine BE (nZ Z (AC (Le.freeze (u := 36) Z) (nZ Z (AJ tys Z Z (AA Z) Z Z Z Z Z (.own Z (by first | omega | (simp only [Qg]; omega))) Z (.read (MU _)) (by decide) (by simp only [Qo, Qg, Qh, Qk, List.length_nil]; omega) (by decide) Z ?_))));refine nZ Z (eZ Z (oN (bN (tN (rG (evI ?_))))));refine eZ Z (oN ?_);refine lQ (_, _, _) ?_ ?_
  ·dsimp only
   refine ⟨by omega, by omega, by simp, done ++ b[k.toNat]'(by omega) :: (BF f (f.stmts[(b[k.toNat]'(by omega)).toNat]'(by omega)).thn ++ BF f (f.stmts[(b[k.toNat]'(by omega)).toNat]'(by omega)).els), ?_, ?_⟩
   ·subst hm hx; repeat rw [Qi (by simp)]
    simp
   ·rw [he, hs]; simp
  ·(show Int.toNat _ < Int.toNat _); omega
 simp only [HS] at h1;refine AV (tE (AP (AO (tN (sG (eK 2 Z (nB (AU (Le.gather (u := 4) (id := 5) Z Z (by omega)) (rT (eR ?_))))))))))
 ·(rw [he, A7 h1, KE, Q3, hm, Qt, hx]; rfl)
theorem KD {f : Func} (hd : Ba f.stmts.length (kids f.stmts)) : ∀ {b : List Int}, inB f.stmts.length 0 b → ∀ n, n ∈ b → ∀ h : n.toNat < f.stmts.length, (BF f (f.stmts[n.toNat]).thn).length + (BF f (f.stmts[n.toNat]).els).length ≤ (BF f b).length
 | [], _, n, hn, _ => by cases hn
 | x :: b, hb, n, hn, h => by
  have e := Fq hd hb (k := 0) (by omega) (by simp) (by have := hb x (RB ..); simp; omega)
  have e2 := congrArg List.length e
  simp only [Int.toNat_zero, List.drop_zero, List.getElem_cons_zero, Qk, Qg, Int.zero_add, List.drop_succ_cons, Int.reduceToNat] at e2
  rcases Qp.1 hn with rfl | hn
  ·omega
  ·have := KD hd (fun y hy => hb y (Q6 _ hy)) n hn h
   omega
theorem CM {f : Func} (hf : f.ok 1048576) {n : Nat} (h : n < f.stmts.length) : (f.stmts[n]).thn.length ≤ 1048576 ∧ (f.stmts[n]).els.length ≤ 1048576 ∧ (f.stmts[n]).ex.length ≤ 1048576 := by
 have := hf.2.1.2 _ (Qr h)
 exact ⟨this.2.1, this.2.2.1, this.1⟩
theorem EA (f : Func) (hf : f.ok 1048576) (hd : Ba f.stmts.length (kids f.stmts)) : ∀ (k : Nat) (i : Int) (b : List Int), 0 ≤ i → f.stmts.length - i ≤ k → inB f.stmts.length i b → b.length ≤ 1048576 → (BF f b).length ≤ 1048576 →
  Fun Try.prog 107 [.t f.tt, .t (T.ints b)] (.own (T.ints (BF f b)))
 | k, i, b, hi, hk, hb, hbl, hlen => by
  refine IK f b hf hd (BU hb hi) hbl hlen fun n hn h => ?_
  have h1 := hb n hn
  have h2 := hd n (by omega) h1.2
  have h3 := KD hd (BU hb hi) n hn h
  have h4 := CM hf h
  rw [kids_at h] at h2
  match k, hk with
  | 0, hk => omega
  | k + 1, hk => exact ⟨EA f hf hd k (n + 1) _ (by omega) (by omega) h2.1 h4.1 (by omega), EA f hf hd k (n + 1) _ (by omega) (by omega) h2.2 h4.2.1 (by omega)⟩
theorem E9 (f : Func) (hf : f.ok 1048576) (hd : Ba f.stmts.length (kids f.stmts)) {b : List Int} (hb : inB f.stmts.length 0 b) (hbl : b.length ≤ 1048576) (hlen : (BF f b).length ≤ 1048576) :
  Fun Try.prog 107 [.t f.tt, .t (T.ints b)] (.own (T.ints (BF f b))) := EA f hf hd f.stmts.length 0 b (by omega) (by omega) hb hbl hlen
theorem ordO {F : Nat} {ds : List D} {o : List Int} {y : T} {z : List T} (h : z = o.map T.int) (hf : FunO Try.prog F ds (T.ints o) y) : FunO Try.prog F ds (.list 1 z) y := by rw [h]; exact hf
theorem IB (f : Func) (b o : List Int) (hf : f.ok 1048576) (hd : Ba f.stmts.length (kids f.stmts)) (hb : inB f.stmts.length 0 b) (hbl : b.length ≤ 1048576) (hlen : o.length + (BF f b).length ≤ 2097152) (ih : ∀ n, n ∈ b → ∀ h : n.toNat < f.stmts.length, ∀ o : List Int, (o.length + (BF f (f.stmts[n.toNat]).thn).length ≤ 2097152 → FunO Try.prog 101 [.t f.tt, .t (T.ints (f.stmts[n.toNat]).thn)] (T.ints o) (T.ints (o ++ BF f (f.stmts[n.toNat]).thn))) ∧ (o.length + (BF f (f.stmts[n.toNat]).els).length ≤ 2097152 → FunO Try.prog 101 [.t f.tt, .t (T.ints (f.stmts[n.toNat]).els)] (T.ints o) (T.ints (o ++ BF f (f.stmts[n.toNat]).els)))) : FunO Try.prog 101 [.t f.tt, .t (T.ints b)] ((T.ints o)) ((T.ints (o ++ BF f b))) := by
 have hl : f.stmts.length ≤ 1048576 := hf.2.1.1
 refine FunO.intro tys Try.func101 Z Z (N := 39) (ds := [.t f.tt, .t (T.ints b)]) Z (fun w0 G F0 => ?_);refine nY Z (AU (Le.adoptE (u := 2) 2 Z Z) (nY Z (sG (Af Z Z (AA Z) Z Z (nZ Z (eZ Z (nB (sQ (sG (eZ Z (evE ?_)))))))))));refine eZ Z (nB (AF ?_));refine lK (α := Int × Nat × List T) [3, 9, 10] [3] (fun x => [(11, .t (.int (x.1))), (2, .sl 2 0 (x.2.1))]) (fun x => [(2, .L 1 (x.2.2))]) (fun x => 0 ≤ (x.1) ∧ (x.1) ≤ b.length ∧ (x.2.1) = (x.2.2).length ∧ ∃ done : List Int, (x.2.2) = done.map T.int ∧ o ++ BF f b = done ++ BF f (b.drop (x.1).toNat)) (fun x => Int.toNat (b.length - (x.1))) (0, (o.map T.int).length, o.map T.int) ?_ (fun x hx => ?_)
 ·exact ⟨by omega, by omega, rfl, o, rfl, rfl⟩
 obtain ⟨k, m, xs⟩ := x
 obtain ⟨hk0, hk1, hm, done, hx, he⟩ := hx
 dsimp only at hk0 hk1 hm hx he ⊢;refine nY Z (sG (eZ Z (nB (sQ ?_))));refine AD Z (fun h1 => ?_) (fun h1 => ?_)
 ·
  simp only [HS] at h1;refine AE (tN (sQ (AF (sG ?_))));refine iY (k := ?_);refine eZ Z ?_
  have hn := hb _ (Qr (l := b) (n := k.toNat) (by omega))
  have hs := Fq hd hb hk0 h1 (by omega)
  have hq := congrArg List.length he
  rw [hs] at hq;simp only [Qg, Qk] at hq
  have hxl := congrArg List.length hx
  rw [Qh] at hxl;refine eZ Z (nA (eK 2 Z (bZ [T.int (b[k.toNat]'(by omega))] ?_)));refine nZ Z (AJ tys Z Z (AA Z) Z Z Z Z Z (.own Z (by first | omega | (simp only [Qg]; omega))) Z (.own Z (by first | decide | omega)) (by decide) (by simp only [Qo, Qk, List.length_nil]; omega) (by decide) Z ?_);refine nZ Z (eZ Z (kZ [2,3,8,9,10,11,12,13,14,15,16,17,18] Z (nB (sQ (B4 8 A9 Z (by kernel_rfl) (by kernel_rfl) (evQ ?_))))));refine evQ ?_;refine evQ ?_;refine evQ ?_;refine A3 tys Z Z (AA Z) Z Z Z Z Z Z Z (by omega) _ (EE _ _ (by omega) (by omega)) (evQ ?_);refine AS Z (evQ ?_);refine evQ ?_;refine BE (AC (Le.freeze (u := 19) Z) ?_)
  skip
  refine nZ Z (AC (Le.gather (u := 26) (id := 2) Z Z (by first | (simp; done) | (simp; omega) | omega)) ?_);refine nZ Z (FY (u := 26) (az := [.tmp 19, .tmp 25]) Z Z (AA Z) Z Z Z Z (.inl ⟨rfl, rfl⟩) (ordO (o := done ++ [b[k.toNat]'(by omega)]) (by subst hm hx; (repeat rw [Qi (by simp)]); simp) ((ih _ (Qr _) _ _).1 (by simp only [Qg, Qk, List.length_nil]; omega))) ?_);refine AC (Le.adoptE (u := 27) 2 Z (by first | exact Lq | exact Z)) ?_;refine nZ Z (eZ Z (nB (B4 8 A9 Z (by kernel_rfl) (by kernel_rfl) (evQ ?_))));refine evQ ?_;refine evQ ?_;refine evQ ?_;refine AS Z (A3 tys Z Z (AA Z) Z Z Z Z Z Z Z (by omega) _ (EE _ _ (by omega) (by omega)) (evQ ?_));refine evQ ?_;refine evQ ?_;refine BE (AC (Le.freeze (u := 28) Z) ?_)
  skip
  refine nZ Z (AC (Le.gather (u := 35) (id := 2) Z Z (by first | (simp; done) | (simp; omega) | omega)) ?_);refine nZ Z (FY (u := 35) (az := [.tmp 28, .tmp 34]) Z Z (AA Z) Z Z Z Z (.inl ⟨rfl, rfl⟩) (ordO (o := done ++ [b[k.toNat]'(by omega)] ++ BF f (f.stmts[(b[k.toNat]'(by omega)).toNat]'(by omega)).thn) (by rw [Qi (by simp)]) ((ih _ (Qr _) _ _).2 (by simp only [Qg, Qk, List.length_nil]; omega))) ?_);refine AC (Le.adoptE (u := 36) 2 Z (by first | exact Lq | exact Z)) ?_;refine nZ Z (eZ Z (oN (bN (tN (rG (evI ?_))))));refine eZ Z (oN ?_);refine lQ (_, _, _) ?_ ?_
  ·dsimp only
   exact ⟨by omega, by omega, by simp, done ++ [b[k.toNat]'(by omega)] ++ BF f (f.stmts[(b[k.toNat]'(by omega)).toNat]'(by omega)).thn ++ BF f (f.stmts[(b[k.toNat]'(by omega)).toNat]'(by omega)).els, rfl, by rw [he, hs]; simp⟩
  ·(show Int.toNat _ < Int.toNat _); omega
 simp only [HS] at h1;refine AV (tE (AP (AO (tN (sG (eK 2 Z (nB (AU (Le.gather (u := 6) (id := 2) Z Z (by omega)) (rT (eR ?_))))))))))
 ·(rw [he, A7 h1, KE, Q3, hm, Qt, hx]; rfl)
theorem D6 (f : Func) (hf : f.ok 1048576) (hd : Ba f.stmts.length (kids f.stmts)) : ∀ (k : Nat) (i : Int) (b o : List Int), 0 ≤ i → f.stmts.length - i ≤ k → inB f.stmts.length i b → b.length ≤ 1048576 → o.length + (BF f b).length ≤ 2097152 →
  FunO Try.prog 101 [.t f.tt, .t (T.ints b)] (T.ints o) (T.ints (o ++ BF f b))
 | k, i, b, o, hi, hk, hb, hbl, hlen => by
  refine IB f b o hf hd (BU hb hi) hbl hlen fun n hn h o => ?_
  have h1 := hb n hn
  have h2 := hd n (by omega) h1.2
  have h4 := CM hf h
  rw [kids_at h] at h2
  match k, hk with
  | 0, hk => omega
  | k + 1, hk => exact ⟨D6 f hf hd k (n + 1) _ o (by omega) (by omega) h2.1 h4.1, D6 f hf hd k (n + 1) _ o (by omega) (by omega) h2.2 h4.2.1⟩
theorem E6 (f : Func) (hf : f.ok 1048576) (hd : Ba f.stmts.length (kids f.stmts)) {b : List Int} (hb : inB f.stmts.length 0 b) (hbl : b.length ≤ 1048576) (hlen : (BF f b).length ≤ 1048576) :
  FunO Try.prog 101 [.t f.tt, .t (T.ints b)] (.list 1 []) (T.ints (BF f b)) := D6 f hf hd f.stmts.length 0 b [] (by omega) (by omega) hb hbl (by simp; omega)
open Go.Eng
theorem O3 (l : List Stmt) (body : List Int) : (C5 l body).length = 1 + 2 * l.length := by rw [C5, Qk, Iw]; omega
theorem La (l : List Stmt) : ∀ (n : Nat) (h : n < l.length) (k : Int), (Ea l k).take (2 * (n + 1)) = (Ea l k).take (2 * n) ++ [(k + n, (l[n]).thn), (k + n, (l[n]).els)] := by
 induction l with
 | nil => intro n h; simp at h
 | cons s l ih =>
  intro n h k
  cases n with
  | zero => simp [Ea]
  | succ n =>
   have := ih n (by simpa using h) (k + 1)
   rw [Ea, show 2 * (n + 1 + 1) = 2 * (n + 1) + 1 + 1 from by omega, List.take_succ_cons, List.take_succ_cons, this, show 2 * (n + 1) = 2 * n + 1 + 1 from by omega, List.take_succ_cons, List.take_succ_cons]
   simp
   omega
theorem blkO_take {l : List Stmt} {body : List Int} {k : Int} (h0 : 0 ≤ k) (h1 : k < l.length) : (C5 l body).take (1 + 2 * (k + 1).toNat) = (C5 l body).take (1 + 2 * k.toNat) ++ [(k, (l[k.toNat]'(by omega)).thn), (k, (l[k.toNat]'(by omega)).els)] := by
 have := La l k.toNat (by omega) 0
 rw [C5, show (k + 1).toNat = k.toNat + 1 from by omega, show 1 + 2 * (k.toNat + 1) = 2 * (k.toNat + 1) + 1 from by omega, List.take_succ_cons, this, show 1 + 2 * k.toNat = 2 * k.toNat + 1 from by omega, List.take_succ_cons]
 have e : (0 : Int) + k.toNat = k := by omega
 rw [e]; rfl
theorem HL {f : Func} (hf : f.ok 1048576) {p : Int × List Int} (h : p ∈ C5 f.stmts f.body) : p.2.length ≤ 1048576 := by
 rw [C5] at h
 rcases Qp.1 h with rfl | h
 ·exact hf.1
 ·obtain ⟨j, hj, h⟩ := blkGo_mem.1 h
  have := CM hf hj
  rcases h with rfl | rfl
  ·exact this.1
  ·exact this.2.1
def cnts (N : Nat) (l : List Int) : List Int := (DM N).map (cntF l)
theorem B6 (N : Nat) (l : List Int) : (cnts N l).length = N := by rw [cnts, Qh, C6]
theorem NG {N : Nat} {l : List Int} {n : Int} (h0 : 0 ≤ n) (h1 : n < N) : (cnts N l)[n.toNat]'(by rw [B6]; omega) = cntF l n := by
 unfold cnts;rw [List.getElem_map, Gu (by rw [C6]; omega), show ((n.toNat : Nat) : Int) = n from by omega]
theorem Ow {N : Nat} {l : List Int} {n : Int} (h0 : 0 ≤ n) (h1 : n < N) : (cnts N l).set n.toNat (cntF l n + 1) = cnts N (l ++ [n]) := by
 refine List.ext_getElem (by rw [RQ, B6, B6]) fun i h2 h3 => ?_
 rw [B6] at h3
 have e : ∀ l, (cnts N l)[i]? = some (cntF l i) := fun l => by
  rw [List.getElem?_eq_getElem (by rw [B6]; omega)]
  have := NG (l := l) (n := (i : Int)) (by omega) (by omega : (i : Int) < N)
  rw [← this]; rfl
 rw [List.getElem_set]
 have e1 := e l
 have e2 := e (l ++ [n])
 rw [List.getElem?_eq_getElem (by rw [B6]; omega), Option.some_inj] at e1 e2;rw [e1, e2];unfold cntF;rw [List.count_append];split
 ·rename_i hi
  rw [show n = (i : Int) from by omega]; simp
 ·rename_i hi
  rw [List.count_singleton]
  have : (n == (i : Int)) = false := by simp; omega
  simp [this]
theorem cntsT {N : Nat} {l : List Int} {n : Int} {ys : List T} (h : ys = (cnts N l).map T.int) (h0 : 0 ≤ n) (h1 : n < N) : ys.set n.toNat (T.int (cntF l n + 1)) = (cnts N (l ++ [n])).map T.int := by
 rw [h, ← List.map_set, Ow h0 h1]
theorem argI {F : Nat} {ds : List D} {r : D} {l : List Int} {xs : List T} (h : xs = l.map T.int) (hf : Fun Try.prog F (.t (T.ints l) :: ds) r) : Fun Try.prog F (.t (.list 1 xs) :: ds) r := by rw [h]; exact hf
theorem Ox (N : Nat) : cnts N [] = List.replicate N 0 := by
 unfold cnts cntF
 have : ∀ l : List Int, l.map (fun x => ((([] : List Int).count x : Nat) : Int)) = List.replicate l.length 0 := by
  intro l
  induction l with
  | nil => rfl
  | cons x l ih => rw [Q4, ih]; rfl
 rw [this, C6]
theorem NF {N : Nat} {l : List Int} : CK (cnts N l) 1 1 = MZ N l := by
 unfold CK cnts MZ;rw [List.all_map]
 congr 1
 funext x
 simp only [Function.comp];exact decide_eq_decide.2 (by omega)
theorem QI (l : List Int) (n : Int) : 0 ≤ cntF l n ∧ cntF l n ≤ l.length := by
 unfold cntF; have := List.count_le_length (l := l) (a := n); omega
theorem ownAt {N : Nat} {l : List Int} {n : Int} (h0 : 0 ≤ n) (h1 : n < N) : ((cnts N l).map T.int)[0 + n.toNat]? = some (T.int (cntF l n)) := by
 rw [Q9, List.getElem?_map, List.getElem?_eq_getElem (by rw [B6]; omega), NG h0 h1]; rfl
def Ey (B : List (Int × List Int)) (i : Nat) : List Int := ((B.take i).map (·.2)).flatten
theorem Kb {B : List (Int × List Int)} {i : Int} (h0 : 0 ≤ i) (h1 : i < B.length) : Ey B (i + 1).toNat = Ey B i.toNat ++ (B[i.toNat]'(by omega)).2 := by
 unfold Ey; rw [CD h0 h1, Q8, List.flatten_append]; simp
theorem IZ {B : List (Int × List Int)} (hB : ∀ p, p ∈ B → p.2.length ≤ 1048576) : ∀ i : Nat, i ≤ B.length → (Ey B i).length ≤ i * 1048576
 | 0, _ => by simp [Ey]
 | i + 1, h => by
  have h1 := IZ hB i (by omega)
  have h2 := Kb (B := B) (i := (i : Int)) (by omega) (by omega)
  have h3 := hB _ (Qr (l := B) (n := (i : Int).toNat) (by omega))
  have h4 := congrArg List.length h2
  rw [Qg] at h4;rw [show ((i : Int) + 1).toNat = i + 1 from by omega] at h4;rw [show (Ey B (i : Int).toNat).length = (Ey B i).length from by rw [show (i : Int).toNat = i from by omega]] at h4;omega
theorem FE {α : Type} {p : α → Bool} {l : List α} {k : Int} (h0 : 0 ≤ k) (h1 : k < l.length) (h : p (l[k.toNat]'(by omega)) = false) : l.all p = false :=
 List.all_eq_false.2 ⟨_, Qr _, by simpa using h⟩
theorem Cz {α : Type} {p : α → Bool} {l : List α} {k : Int} (h0 : 0 ≤ k) (h1 : k < l.length) (h : (l.take k.toNat).all p = true) (h2 : p (l[k.toNat]'(by omega)) = true) : (l.take (k + 1).toNat).all p = true := by
 rw [CD h0 h1, List.all_append, h]; simpa using h2
theorem Eb {α : Type} {p : α → Bool} {l : List α} {k : Int} (h1 : (l.length : Int) ≤ k) (h : (l.take k.toNat).all p = true) : l.all p = true := by
 rwa [BW h1] at h
theorem OI {l : List Int} {lo hi : Int} (h : GQ l lo hi = true) {n : Int} (hn : n ∈ l) : lo ≤ n ∧ n ≤ hi := (of_decide_eq_true h).1 n hn
theorem IL (f : Func) (hf : f.ok 1048576) (hN : f.stmts.length ≤ 16) : Fun Try.prog 106 [.t f.tt] (A5 [.t (.bool (DH f.stmts f.body))]) := by
 have hbl := O3 f.stmts f.body
 refine Fun.begin tys Try.func106 Z Z (N := 77) [(0, .t f.tt)] Z Z (fun w0 G F0 => ?_);refine sG (Af Z Z (AA Z) Z Z (nZ Z (eZ Z (nA (eK 2 Z (evE ?_))))));refine Jr tys (.v (.int .i64 0)) _ Z Z (AA Z) Z Z Z Z Z (by repeat (first | exact AbsL.nil' | refine AbsL.v' ?_ | refine AbsL.none' ?_)) Z (by omega) (by decide) ?_;refine nZ Z (eZ Z (nB (sQ (kY [1,2,3] Z (rG (eK 2 Z (nZ Z ?_)))))));refine GD (u := 17) 117 Z (fun v17 => ?_);refine nZ Z (bZ [.v v17] ?_);refine nZ Z (eZ Z (nA (bZ [T.int (-1)] ?_)));refine nZ Z (eZ Z (nB (sQ (sG (eK 2 Z (evE ?_))))));refine kZ [1,2,3,4,5,21,22] Z (eZ Z (nB (AF ?_)));refine lK (α := Int × Nat × List T × Nat × List T × List Value × List T) [1, 3, 21, 22] [1, 15] (fun x => [(23, .t (.int (x.1))), (4, .sl 18 0 (x.2.1)), (5, .sl 19 0 (x.2.2.2.1))]) (fun x => [(18, .L 1 (x.2.2.1)), (19, .L 1 (x.2.2.2.2.1)), (117, .ro (x.2.2.2.2.2.1) (x.2.2.2.2.2.2))]) (fun x => 0 ≤ (x.1) ∧ (x.1) ≤ f.stmts.length ∧ (x.2.1) = (x.2.2.1).length ∧ (x.2.2.2.1) = (x.2.2.2.2.1).length ∧ (x.2.2.1) = (x.2.2.2.2.2.1).map T.v ∧ (x.2.2.2.2.2.1).length = 1 + 2 * (x.1).toNat ∧ (x.2.2.2.2.2.2) = ((C5 f.stmts f.body).take (1 + 2 * (x.1).toNat)).map (fun p => T.ints p.2) ∧ (x.2.2.2.2.1) = ((C5 f.stmts f.body).take (1 + 2 * (x.1).toNat)).map (fun p => T.int p.1)) (fun x => Int.toNat (f.stmts.length - (x.1))) (0, 1, [.v v17], 1, [T.int (-1)], [v17], [T.ints f.body]) ?_ (fun x hx => ?_)
 ·exact ⟨by omega, by omega, rfl, rfl, rfl, rfl, rfl, rfl⟩
 obtain ⟨k, m4, xs4, m5, xs5, us, ts⟩ := x
 obtain ⟨hk0, hk1, hm4, hm5, hx4, hul, hts, hx5⟩ := hx
 dsimp only at hk0 hk1 hm4 hm5 hx4 hul hts hx5 ⊢;refine nY Z (sG (eZ Z (nB (sQ ?_))));refine AD Z (fun h1 => ?_) (fun h1 => ?_)
 ·
  simp only [HS] at h1;refine AE (tN (sQ (AF (sG (eZ Z ?_)))));refine iY (k := ?_);refine eZ Z ?_
  try refine AC (Le.freeze (u := 27) rfl) ?_
  refine nZ Z (AH tys Z Z (AA Z) Z Z Z (nZ Z (eZ Z (sT Z (nZ Z (nB (sQ (kY [1,3,4,5,6,7,21,22,23,24,25,26,27] Z (rG (eK 5 Z (nZ Z ?_)))))))))));refine GD (u := 30) 130 Z (fun v30 => ?_);refine nZ Z ?_;refine GD (u := 32) 132 Z (fun v32 => ?_);refine nZ Z (AC (Le.roJoin 117 130 Z Z) (nZ Z (AC (Le.roJoin 117 132 Z Z) (nZ Z (bZ [.v v30, .v v32] ?_)))));refine nZ Z (AJ tys Z Z (AA Z) Z Z Z Z Z (.own Z (by first | omega | (simp only [Qg]; omega))) Z (.own Z (by first | decide | omega)) (by decide) (by have q := congrArg List.length hx4; simp only [Qh] at q; simp only [Qo, Qk, List.length_nil]; omega) (by decide) Z ?_);refine nZ Z (eZ Z (nB (kY [1,3,4,5,6,7,21,22,23,24,25,26,27,28,29,30,31,32,33,34] Z (rG (eK 3 Z (bZ [T.int k, T.int k] ?_))))));refine nZ Z (AJ tys Z Z (AA Z) Z Z Z Z Z (.own Z (by first | omega | (simp only [Qg]; omega))) Z (.own Z (by first | decide | omega)) (by decide) (by have q := congrArg List.length hx5; simp only [Qh, Qo] at q; simp only [Qo, Qk, List.length_nil]; omega) (by decide) Z ?_);refine nZ Z (eZ Z (oN (bN (tN (rG (evI ?_))))));refine eZ Z (oN ?_);refine lQ (_, _, _, _, _, _, _) ?_ ?_
  ·dsimp only
   refine ⟨by omega, by omega, by simp, by simp, ?_, ?_, ?_, ?_⟩
   ·subst hm4 hx4; rw [Qi (by simp)]; simp
   ·simp; omega
   ·rw [hts, blkO_take hk0 (by omega), Q8, Qz]; rfl
   ·subst hm5; rw [Qt, hx5, blkO_take hk0 (by omega), Q8]; rfl
  ·(show Int.toNat _ < Int.toNat _); omega
 simp only [HS] at h1;refine AV (tE (AP (AO (tN (sQ (sG (eZ Z ?_)))))))
 have hk : k = f.stmts.length := by omega
 have hx6 : xs5 = (C5 f.stmts f.body).map (fun p => T.int p.1) := by rw [hx5, Qi (by omega)]
 refine nZ rfl (AC (Le.gather (u := 41) (id := 18) rfl rfl (by omega)) (nZ rfl (AC (Le.freeze (u := 41) rfl) (nZ rfl (AC (Le.roReadE (u := 41) (id := 117) (ts' := (C5 f.stmts f.body).map (fun p => T.ints p.2)) rfl rfl (by rw [hm4, Qt, hx4]) (by rw [hts, Qi (by omega)]) (by rw [hts]; intro t ht; obtain ⟨p, _, rfl⟩ := RA.1 ht; rfl)) ?_)))));refine nZ Z (evE ?_);refine eZ Z (nB (AF ?_));refine lK (α := Int × List T) [1, 3, 5, 41, 42] [1, 19] (fun x => [(43, .t (.int (x.1)))]) (fun x => [(15, .L 1 (x.2))]) (fun x => 0 ≤ (x.1) ∧ (x.1) ≤ (C5 f.stmts f.body).length ∧ (x.2) = (cnts f.stmts.length (Ey (C5 f.stmts f.body) (x.1).toNat)).map T.int ∧ ((C5 f.stmts f.body).take (x.1).toNat).all (QP f.stmts.length) = true) (fun x => Int.toNat ((C5 f.stmts f.body).length - (x.1))) (0, List.replicate f.stmts.length (T.int 0)) ?_ (fun x hx => ?_)
 ·exact ⟨by omega, by omega, by rw [show Ey (C5 f.stmts f.body) (0 : Int).toNat = [] from rfl, Ox, List.map_replicate], by simp⟩
 obtain ⟨i, xs⟩ := x
 obtain ⟨hi0, hi1, hxs, hall⟩ := hx
 dsimp only at hi0 hi1 hxs hall ⊢;refine nY Z (sG (eZ Z (nB (sQ ?_))));refine AD Z (fun h2 => ?_) (fun h2 => ?_)
 ·
  simp only [HS] at h2;refine AE (tN (sQ (AF (sG (eZ Z ?_)))));refine iY (k := ?_);refine eK 3 Z (nB (sQ (sG (eK 3 Z (kZ [1,3,5,8,9,41,42,43,44,45,46,47,48,49,50] Z (evE ?_))))));refine evI ?_;refine AQ ?_;refine ⟨_, IP _ _ _ (by have := HL hf (Qr (l := C5 f.stmts f.body) (n := i.toNat) (by omega)); omega), rfl, ?_⟩;refine eZ Z (nB ?_);refine AD Z (fun h3 => ?_) (fun h3 => ?_)
  ·
   simp only [HS] at h3;refine sG (eZ Z (nB (rT (tR (bR (tR (AR (bR (tR (eR ?_))))))))))
   ·first
    | exact As (by rw [DH, FE hi0 h2 (by unfold QP; rw [h3]; rfl)]; rfl)
  simp only [HS] at h3;refine AE (tN (sG (eZ Z (evE ?_))));refine eZ Z (nB (AF ?_));refine lK (α := Int × List T) [1, 3, 5, 8, 41, 42, 43, 55, 56] [1, 19] (fun x => [(57, .t (.int (x.1)))]) (fun x => [(15, .L 1 (x.2))]) (fun x => 0 ≤ (x.1) ∧ (x.1) ≤ ((C5 f.stmts f.body)[i.toNat]'(by omega)).2.length ∧ (x.2) = (cnts f.stmts.length (Ey (C5 f.stmts f.body) i.toNat ++ ((C5 f.stmts f.body)[i.toNat]'(by omega)).2.take (x.1).toNat)).map T.int ∧ (((C5 f.stmts f.body)[i.toNat]'(by omega)).2.take (x.1).toNat).all (fun n => decide (((C5 f.stmts f.body)[i.toNat]'(by omega)).1 < n)) = true) (fun x => Int.toNat (((C5 f.stmts f.body)[i.toNat]'(by omega)).2.length - (x.1))) (0, xs) ?_ (fun x hx => ?_)
  ·exact ⟨by omega, by omega, by rw [hxs]; simp, by simp⟩
  obtain ⟨j, ys⟩ := x
  obtain ⟨hj0, hj1, hys, halj⟩ := hx
  dsimp only at hj0 hj1 hys halj ⊢;refine nY Z (sG (eZ Z (nB (sQ ?_))));refine AD Z (fun h4 => ?_) (fun h4 => ?_)
  ·
   simp only [HS] at h4;refine AE (tN (sQ (AF (sG ?_))));refine iY (k := ?_);refine eZ Z ?_
   have hn0 := OI h3 (Qr (l := ((C5 f.stmts f.body)[i.toNat]'(by omega)).2) (n := j.toNat) (by omega))
   have hn : 0 ≤ ((C5 f.stmts f.body)[i.toNat]'(by omega)).2[j.toNat]'(by omega) ∧ ((C5 f.stmts f.body)[i.toNat]'(by omega)).2[j.toNat]'(by omega) < f.stmts.length := ⟨hn0.1, by omega⟩
   have hx7 : m5 = (C5 f.stmts f.body).length := by rw [hm5, hx6, Qh]
   have hx8 : xs5.length = m5 := hm5.symm
   have hyl : ys.length = f.stmts.length := by rw [hys, Qh, B6]
   have hc := QI (Ey (C5 f.stmts f.body) i.toNat ++ ((C5 f.stmts f.body)[i.toNat]'(by omega)).2.take j.toNat) (((C5 f.stmts f.body)[i.toNat]'(by omega)).2[j.toNat]'(by omega))
   have hg := IZ (B := C5 f.stmts f.body) (fun p hp => HL hf hp) i.toNat (by omega)
   have hg2 := HL hf (Qr (l := C5 f.stmts f.body) (n := i.toNat) (by omega))
   rw [Qg, Qo] at hc;refine eZ Z (nB (sQ (sG (eK 3 Z (Bb tys Z Z (AA Z) Z Z Z Z Z Z Z Z (by omega) (by omega) (BI tys Z Z (AA Z) Z Z Z Z (by rw [hx6]; exact Ez (fun p : Int × List Int => T.int p.1) _ (by omega) (by omega)) Z ?_))))));refine kZ [1,3,5,8,11,41,42,43,55,56,57,58,59,60,61,62,63,64,65] Z (eZ Z (nB ?_));refine AD Z (fun h5 => ?_) (fun h5 => ?_)
   ·
    simp only [HS] at h5;refine sG (eZ Z (nB (rT (tR (bR (tR (AR (bR (bR (tR (AR (bR (tR (eR ?_))))))))))))))
    ·first
     | exact As (by rw [DH, FE hi0 h2 (by unfold QP; rw [h3, FE hj0 h4 (by simp; omega)]; rfl)]; rfl)
   simp only [HS] at h5;refine AE (tN (rG (eK 2 Z (Bb tys Z Z (AA Z) Z Z Z Z Z Z Z Z (by omega) (by omega) (BI tys Z Z (AA Z) Z Z Z Z (by rw [hys]; exact ownAt hn.1 hn.2) Z ?_)))));refine evI ?_;refine Bb tys Z Z (AA Z) Z Z Z Z Z Z Z Z (by omega) (by omega) ?_;refine Ec tys (T.int (cntF (Ey (C5 f.stmts f.body) i.toNat ++ ((C5 f.stmts f.body)[i.toNat]'(by omega)).2.take j.toNat) (((C5 f.stmts f.body)[i.toNat]'(by omega)).2[j.toNat]'(by omega)) + 1)) Z Z Z Z Z Z (by first | exact Q9 _ | rfl) (by omega) Z (by repeat (first | exact AbsL.nil' | refine AbsL.v' ?_ | refine AbsL.own' ?_)) Z Z Z ?_;refine nZ Z (oN (bN (tN (kY [1,3,5,8,11,41,42,43,55,56,57,58,59,60,61,62,63,64,65,66,67,68,69,70,71,72] Z (rG (evI ?_))))));refine eZ Z (oN ?_);refine lQ (_, _) ?_ ?_
   ·dsimp only
    refine ⟨by omega, by omega, ?_, ?_⟩
    ·exact (cntsT hys hn.1 hn.2).trans (by rw [CD hj0 (by omega), Qz])
    ·exact Cz hj0 (by omega) halj (by simpa using h5)
   ·(show Int.toNat _ < Int.toNat _); omega
  simp only [HS] at h4;refine AV (tE (AP (AO (bN (tN (rG (evI ?_)))))));refine eZ Z (oN ?_);refine lQ (_, _) ?_ ?_
  ·dsimp only
   refine ⟨by omega, by omega, ?_, ?_⟩
   ·rw [hys, Kb hi0 (by omega), BW (by omega)]
   ·exact Cz hi0 (by omega) hall (by unfold QP; rw [h3, Eb (by omega) halj]; rfl)
  ·(show Int.toNat _ < Int.toNat _); omega
 simp only [HS] at h2;refine AV (tE (AP (AO (tN (sG (eZ Z ?_))))))
 have hxl : xs.length = f.stmts.length := by rw [hxs, Qh, B6]
 refine AQ ?_;refine ⟨_, argI hxs (IQ _ _ _ (by rw [B6]; omega)), rfl, ?_⟩;refine eZ Z (nB (rT (eR ?_)))
 ·first
  | exact As (by rw [DH, Eb (by omega) hall, NF, Ey, BW (by omega)]; rfl)
open Go.Eng
def DU (f : Func) : Bool := decide (0 ≤ f.params ∧ f.params ≤ 2) && (decide (f.params ≤ f.vars ∧ f.vars ≤ 6) && decide ((f.stmts.length : Int) ≤ 16))
def Gx (f : Func) : Bool := decide (((Ad f.stmts 0).length : Int) ≤ 4)
def FB (f : Func) (n : Int) : Int := match f.stmts[n.toNat]? with
 | some s => s.kind
 | none => 0
theorem EU {f : Func} {n : Int} (h : n.toNat < f.stmts.length) : FB f n = (f.stmts[n.toNat]).kind := by
 unfold FB; rw [List.getElem?_eq_getElem h]
def JS (f : Func) (b : List Int) : Bool := (BF f b).all fun n => decide (¬ FB f n = 3)
def CC (f : Func) (s : Stmt) : Bool := if s.kind = 8 then JS f s.thn else true
def E4 (f : Func) : Bool := f.stmts.all (CC f)
def Ae (f : Func) : Bool := DU f && (Gx f && (Bq f.stmts f.body && E4 f))
theorem G8 (n i : Int) (f : Func) (hN : f.stmts.length ≤ 1048576) (hi : 0 ≤ i ∧ i ≤ 1048576) : Fun Try.prog 99 [.t (.int n), .rp (.agg [T.int i]) 0, .rp f.tt 0] (A5 [.t (.bool (!decide (i + 1 ≤ n ∧ n ≤ f.stmts.length - 1)))]) := by
 refine Fun.begin tys Try.func99 Z Z (N := 14) [(0, .t (.int n)), (1, .rp (.agg [T.int i]) 0), (2, .rp f.tt 0)] Z Z (fun w0 G F0 => ?_);refine sG (eZ Z (nA (eK 2 Z (evI ?_))));refine eK 2 Z (evE ?_);refine evI ?_;refine AQ ?_;refine ⟨_, Al _ _ _, rfl, ?_⟩;refine kZ [4,12] Z (eK 2 Z (nB (rT (eR ?_))))
 ·rfl
theorem G7 (n : Int) (f : Func) (hN : f.stmts.length ≤ 1048576) : Fun Try.prog 100 [.t (.int n), .rp f.tt 0] (A5 [.t (.bool (!decide (0 ≤ n ∧ n ≤ f.stmts.length - 1)))]) := by
 refine Fun.begin tys Try.func100 Z Z (N := 11) [(0, .t (.int n)), (1, .rp f.tt 0)] Z Z (fun w0 G F0 => ?_);refine sG (eZ Z (nA (eK 3 Z (evE ?_))));refine evI ?_;refine AQ ?_;refine ⟨_, Al _ _ _, rfl, ?_⟩;refine eK 2 Z (kZ [3] Z (nB (rT (eR ?_))))
 ·rfl
theorem HN {N i : Int} {b : List Int} : (b.any fun n => !decide (i ≤ n ∧ n ≤ N - 1)) = !LO N i b := by
 unfold LO;rw [List.not_all_eq_any_not]
 congr 1
 funext n
 congr 1
 exact decide_eq_decide.2 (by omega)
def Nu (s : Stmt) (z : Int) : List Int := if z = 0 then s.thn else s.els
theorem pick2 {s : Stmt} {z : Int} (h0 : 0 ≤ z) (h1 : z < 2) : [D.t (.list 1 (s.thn.map T.int)), D.t (.list 1 (s.els.map T.int))][z.toNat]? = some (.t (T.ints (Nu s z))) := by
 unfold Nu
 rcases (by omega : z = 0 ∨ z = 1) with rfl | rfl <;> rfl
def JD (s : Stmt) (z : Int) : Int := if z = 0 then 0 else if z = 1 then s.thn.length else s.thn.length + s.els.length
theorem Nv {l : List Stmt} {k : Int} (h0 : 0 ≤ k) (h1 : k < l.length) : usesF (l.drop k.toNat) = (l[k.toNat]'(by omega)).thn.length + (l[k.toNat]'(by omega)).els.length + usesF (l.drop (k + 1).toNat) := by
 rw [CU h0 h1, usesF]
def NC (f : Func) (k : Int) : Prop := ∀ m : Int, 0 ≤ m → m < k → inB f.stmts.length (m + 1) (kids f.stmts m).1 ∧ inB f.stmts.length (m + 1) (kids f.stmts m).2
theorem Jh {f : Func} {k : Int} (h0 : 0 ≤ k) (h1 : k < f.stmts.length) (h : NC f k) (h2 : LO f.stmts.length (k + 1) (f.stmts[k.toNat]'(by omega)).thn = true) (h3 : LO f.stmts.length (k + 1) (f.stmts[k.toNat]'(by omega)).els = true) : NC f (k + 1) := by
 intro m m0 m1
 by_cases hm : m < k
 ·exact h m m0 hm
 ·obtain rfl : m = k := by omega
  rw [kids_at (by omega)];exact ⟨inBB_iff.1 h2, inBB_iff.1 h3⟩
theorem QE {f : Func} {k z : Int} (h0 : 0 ≤ k) (h1 : k < f.stmts.length) (hz0 : 0 ≤ z) (hz1 : z < 2) (h : ¬ LO f.stmts.length (k + 1) (Nu (f.stmts[k.toNat]'(by omega)) z) = true) : Bq f.stmts f.body = false := by
 rw [Bool.eq_false_iff];intro hs
 have hd := (shapeB_iff.1 hs).1 k h0 h1
 rw [kids_at (by omega)] at hd
 apply h
 unfold Nu;split
 ·exact inBB_iff.2 hd.1
 ·exact inBB_iff.2 hd.2
theorem PQ {f : Func} {k : Int} (h0 : 0 ≤ k) (h1 : k < (BF f f.body).length) (h : ¬ (BF f f.body)[k.toNat]'(by omega) = k) : Bq f.stmts f.body = false := by
 rw [Bool.eq_false_iff];intro hs
 have := (shape_blocks.1 hs).2 k.toNat (by unfold BF at h1; omega)
 apply h
 unfold BF;rw [this]; omega
theorem Pw {f : Func} (hd : Ba f.stmts.length (kids f.stmts)) (hb : inB f.stmts.length 0 f.body) (hl : ((BF f f.body).length : Int) = f.stmts.length) (h : ∀ (k : Nat) (h : k < (BF f f.body).length), (BF f f.body)[k] = (k : Int)) : Bq f.stmts f.body = true := by
 rw [shapeB_iff];refine ⟨hd, hb, List.ext_getElem (by rw [C6]; unfold BF at hl; omega) fun k h1 h2 => ?_⟩;rw [Gu h2];exact h k h1
theorem MC {f : Func} (h : Bq f.stmts f.body = true) : ((BF f f.body).length : Int) = f.stmts.length := by
 unfold BF; rw [(shapeB_iff.1 h).2.2, C6]
theorem Pk {f : Func} {k u : Int} (h0 : 0 ≤ k) (h1 : (f.stmts.length : Int) ≤ k) (hu : u + usesF (f.stmts.drop k.toNat) = f.body.length + usesF f.stmts) (h : ¬ u = f.stmts.length) : Bq f.stmts f.body = false := by
 rw [Bool.eq_false_iff];intro hs
 have := Ge hs
 have e := A7 h1
 rw [e] at hu;simp only [usesF] at hu;omega
theorem QO {f : Func} (h : (f.body.any fun n => !decide (0 ≤ n ∧ n ≤ (f.stmts.length : Int) - 1)) = true) : Bq f.stmts f.body = false := by
 rw [HN] at h;rw [Bq];simp only [RF] at h;rw [h]; simp
theorem Jv {f : Func} {m : Int} (h0 : 0 ≤ m) (h1 : m < f.stmts.length) (h2 : (f.stmts[m.toNat]'(by omega)).kind = 8) (h : JS f (f.stmts[m.toNat]'(by omega)).thn = false) : E4 f = false := by
 rw [E4];exact FE h0 h1 (by unfold CC; rw [if_pos h2, h])
theorem IR (f : Func) (hf : f.ok 1048576) : Fun Try.prog 68 [.t f.tt] (A5 [.t (.bool (Ae f))]) := by
  have hl : f.stmts.length ≤ 1048576 := hf.2.1.1
  have hbl : f.body.length ≤ 1048576 := hf.1
  refine Fun.begin tys Try.func68 Z Z (N := 140) [(0, .t f.tt)] Z Z (fun w0 G F0 => ?_);refine sG (Af Z Z (AA Z) Z Z (nZ Z (eZ Z (nB (sQ (sG (eK 2 Z (AQ ?_))))))));refine ⟨_, Al _ _ _, rfl, ?_⟩;refine eK 2 Z ?_;refine gB (fun h1 => ?_) (fun h1 => ?_)
  ·
    simp only [HS] at h1;refine xK 2 Z (kZ [1,2,19,21,22] Z (xK 9 Z (kZ [1,2,27,31] Z (xK 7 Z (nB (AY Z (sQ (kY [1,2] Z (rG (eZ Z (nB (rT (tR (eR ?_))))))))))))))
    · first
      | (refine As ?_; rw [Ae, DU]; simp only [h1, decide_false, Bool.false_and]; done)
  simp only [HS] at h1;refine xK 2 Z (kZ [1,2,19,21] Z (xK 2 Z (gY Z (AQ ?_))));refine ⟨_, Al _ _ _, rfl, ?_⟩;refine xK 3 Z ?_;refine gB (fun h2 => ?_) (fun h2 => ?_)
  ·
    simp only [HS] at h2;refine xK 3 Z (kZ [1,2,27,31] Z (xK 7 Z (nB (AY Z (sQ (kY [1,2] Z (rG (eZ Z (nB (rT (tR (eR ?_))))))))))))
    · first
      | (refine As ?_; rw [Ae, DU]; simp only [h2, decide_false, Bool.false_and, Bool.and_false]; done)
  simp only [HS] at h2;refine xK 2 Z (gY Z (evE ?_));refine kZ [1,2,27,30] Z (xK 3 Z ?_);refine gB (fun h3 => ?_) (fun h3 => ?_)
  ·
    simp only [HS] at h3;refine xK 4 Z (nB (AY Z (sQ (kY [1,2] Z (rG (eZ Z (nB (rT (tR (eR ?_))))))))))
    · first
      | (refine As ?_; rw [Ae, DU]; simp only [Int.not_le.2 h3, decide_false, Bool.false_and, Bool.and_false]; done)
  simp only [HS] at h3;refine eZ Z ?_
  try refine AC (Le.freeze (u := 34) rfl) ?_
  refine nZ Z (gY Z (AQ ?_));refine ⟨_, JL f hf, rfl, ?_⟩;refine AC (Le.adoptE (u := 35) 35 Z (by first | exact Lq | exact Z)) ?_;refine nZ Z (gY Z (evE ?_));refine xK 2 Z (nB ?_);refine AD Z (fun h4 => ?_) (fun h4 => ?_)
  ·
    simp only [HS] at h4;refine sQ (kY [1,2] Z (rG (eZ Z (nB (rT (tR (eR ?_)))))))
    · first
      | (refine As ?_; rw [Ae, Gx]; simp only [Int.not_le.2 h4, decide_false, Bool.false_and, Bool.and_false]; done)
  simp only [HS] at h4;refine AE (tN (sQ (kY [1,2] Z (rG (eK 2 Z (evE ?_))))));refine eZ Z (nB (sQ (sG (eK 2 Z (evE ?_)))));refine eZ Z (nB (AF ?_));refine lK (α := Int × Int) [1, 43, 44] [1] (fun x => [(45, .t (.int (x.1))), (3, .t (.int (x.2)))]) (fun x => []) (fun x => 0 ≤ (x.1) ∧ (x.1) ≤ f.stmts.length ∧ f.stmts.length ≤ 16 ∧ DU f = true ∧ Gx f = true ∧ 0 ≤ (x.2) ∧ (x.2) ≤ 1048576 + (x.1) * 2097152 ∧ (x.2) + usesF (f.stmts.drop (x.1).toNat) = f.body.length + usesF f.stmts ∧ NC f (x.1)) (fun x => Int.toNat (f.stmts.length - (x.1))) (0, f.body.length) ?_ (fun x hx => ?_)
  · exact ⟨by omega, by omega, by omega, by simp [DU, h1, h2, h3], by simp [Gx, h4], by omega, by omega, by simp, fun m h h' => by omega⟩
  obtain ⟨k, u⟩ := x
  obtain ⟨hk0, hk1, hN, hnum, hsite, hu0, hu1, hu, hdn⟩ := hx
  dsimp only at hk0 hk1 hN hnum hsite hu0 hu1 hu hdn ⊢;refine nY Z (sG (eZ Z (nB (sQ ?_))));refine AD Z (fun h5 => ?_) (fun h5 => ?_)
  ·
    simp only [HS] at h5;refine AE (tN (sQ (AF (sG (eZ Z ?_)))));refine iY (k := ?_);refine eZ Z ?_
    try refine AC (Le.freeze (u := 49) rfl) ?_
    refine nZ Z (AH tys Z Z (AA Z) Z Z Z (nZ Z (AH tys Z Z (AA Z) Z Z Z (nZ Z (sT Z (nZ Z (sT Z (nZ Z (nB (sQ (kY [1,3,4,5,43,44,45,46,47,48,49] Z (rG (eK 4 Z (Nc (e := 27) Z Z (AA Z) Z (by kernel_rfl) (by kernel_rfl) (by kernel_rfl) Z Z (eZ Z ?_)))))))))))))));refine nB (AF ?_);refine lK (α := Int × Int) [1, 4, 5, 43, 44, 45, 54] [1, 4, 5] (fun x => [(55, .t (.int (x.1))), (3, .t (.int (x.2)))]) (fun x => []) (fun x => 0 ≤ (x.1) ∧ (x.1) ≤ 2 ∧ (x.2) = u + JD (f.stmts[k.toNat]'(by omega)) (x.1) ∧ (1 ≤ (x.1) → LO f.stmts.length (k + 1) (f.stmts[k.toNat]'(by omega)).thn = true) ∧ (2 ≤ (x.1) → LO f.stmts.length (k + 1) (f.stmts[k.toNat]'(by omega)).els = true)) (fun x => Int.toNat (2 - (x.1))) (0, u) ?_ (fun x hx => ?_)
    · exact ⟨by omega, by omega, by simp [JD], by omega, by omega⟩
    obtain ⟨z, v⟩ := x
    obtain ⟨hz0, hz1, hv, hz2, hz3⟩ := hx
    dsimp only at hz0 hz1 hv hz2 hz3 ⊢;refine nY Z (sG (eZ Z (nB (sQ ?_))));refine AD Z (fun h6 => ?_) (fun h6 => ?_)
    ·
      simp only [HS] at h6;refine AE (tN (sQ (AF (sG (NY (e := 27) (len := 2) Z Z (AA Z) Z (by kernel_rfl) (by kernel_rfl) (by kernel_rfl) Z Z Z (by omega) (pick2 (by omega) (by omega)) Z (eZ Z (nA (eK 2 Z (evE ?_)))))))))
      have hbz : 0 ≤ (Nu (f.stmts[k.toNat]'(by omega)) z).length ∧ (Nu (f.stmts[k.toNat]'(by omega)) z).length ≤ 1048576 := by
        have := CM hf (n := k.toNat) (by omega)
        unfold Nu
        split <;> omega
      have huz : 0 ≤ JD (f.stmts[k.toNat]'(by omega)) z ∧ JD (f.stmts[k.toNat]'(by omega)) z ≤ 2097152 := by
        have := CM hf (n := k.toNat) (by omega)
        unfold JD;split
        · omega
        · split <;> omega
      refine evI ?_;refine eZ Z (nB (sQ (kY [1,3,4,5,7,43,44,45,54,55,56,57,58,59,60,61] Z (rG (eK 2 Z (AQ ?_))))));refine ⟨_, FQ _ (fun n => !decide (k + 1 ≤ n ∧ n ≤ f.stmts.length - 1)) _ [.rp (.agg [T.int k]) 0, .rp f.tt 0] Z (by omega) (fun n _ => G8 n k f hl (by omega)), rfl, ?_⟩;refine nB ?_;refine AD Z (fun h7 => ?_) (fun h7 => ?_)
      ·
        refine sG (eZ Z (nB (rT (bR (tR (AR (bR (bR (tR (AR (bR (tR (eR ?_)))))))))))))
        · first
          | (refine As ?_; rw [Ae, QE hk0 h5 hz0 h6 (by rw [HN] at h7; simpa using h7)]; simp; done)
      refine AE (bN (tN (rG (evI ?_))));refine eZ Z (oN ?_);refine lQ (_, _) ?_ ?_
      · dsimp only
        have h7' : LO f.stmts.length (k + 1) (Nu (f.stmts[k.toNat]'(by omega)) z) = true := by rw [HN] at h7; simpa using h7
        rcases (by omega : z = 0 ∨ z = 1) with rfl | rfl
        · exact ⟨by omega, by omega, by simp [JD, Nu] at hv ⊢; omega, fun _ => h7', by omega⟩
        · exact ⟨by omega, by omega, by simp [JD, Nu] at hv ⊢; omega, fun _ => hz2 (by omega), fun _ => h7'⟩
      · (show Int.toNat _ < Int.toNat _); omega
    simp only [HS] at h6;refine AV (tE (AP (AO (bN (tN (rG (evI ?_)))))));refine eZ Z (oN ?_);refine lQ (_, _) ?_ ?_
    · dsimp only
      have hz : z = 2 := by omega
      subst hz
      have hua := Nv hk0 h5
      have hv' : v = u + ((f.stmts[k.toNat]'(by omega)).thn.length + (f.stmts[k.toNat]'(by omega)).els.length) := hv
      have hso := CM hf (n := k.toNat) (by omega)
      exact ⟨by omega, by omega, hN, hnum, hsite, by omega, by omega, by omega, Jh hk0 h5 hdn (hz2 (by omega)) (hz3 (by omega))⟩
    · (show Int.toNat _ < Int.toNat _); omega
  simp only [HS] at h5;refine AV (tE (AP (AO (tN (sQ (sG (eK 3 Z (evE ?_))))))));refine eK 2 Z ?_;refine gB (fun h6 => ?_) (fun h6 => ?_)
  ·
    simp only [HS] at h6;refine xK 2 Z (kZ [1,72,74,75] Z (xK 2 Z (nB (AY Z (sG (eZ Z (nB (rT (tR (eR ?_))))))))))
    · first
      | (refine As ?_; rw [Ae, Pk hk0 h5 hu h6]; simp; done)
  simp only [HS] at h6;refine xK 2 Z (kZ [1,72,74] Z (xZ Z (gY Z (AQ ?_))));refine ⟨_, FQ _ (fun n => !decide (0 ≤ n ∧ n ≤ f.stmts.length - 1)) _ [.rp f.tt 0] Z (by omega) (fun n _ => G7 n f hl), rfl, ?_⟩;refine eZ Z (nB ?_);refine AD Z (fun h7 => ?_) (fun h7 => ?_)
  ·
    refine sG (eZ Z (nB (rT (tR (eR ?_)))))
    · first
      | (refine As ?_; rw [Ae, QO h7]; simp; done)
  refine AE (tN (sG ?_))
  have hd : Ba f.stmts.length (kids f.stmts) := fun m m0 m1 => hdn m m0 (by omega)
  have hb : inB f.stmts.length 0 f.body := inBB_iff.1 (by rw [HN] at h7; simpa using h7)
  have hue : f.body.length + usesF f.stmts = f.stmts.length := by
    have e := A7 h5
    rw [e] at hu;simp only [usesF] at hu;omega
  have hol : (BF f f.body).length ≤ 1048576 := Et hd hb (by omega) (by omega)
  refine eZ Z ?_
  try refine AC (Le.freeze (u := 78) rfl) ?_
  refine nZ Z (eK 2 Z ?_)
  skip
  skip
  refine nZ Z (FY (u := 81) (az := [.tmp 78, .tmp 80]) Z Z (AA Z) Z Z Z Z (.inr ⟨rfl, _, rfl⟩) (E6 f hf hd hb hbl hol) (AC (Le.adoptE (u := 81) 81 Z (by first | exact Lq | exact Z)) ?_));refine nZ Z (eZ Z (nB (sQ (sQ (kY [1,8] Z (rG (eZ Z (evE ?_))))))));refine eZ Z (nB (AF ?_));refine lK (α := Int) [1, 8, 82, 83] [1, 81] (fun x => [(84, .t (.int x))]) (fun x => []) (fun x => 0 ≤ x ∧ x ≤ (BF f f.body).length ∧ ∀ (q : Nat) (h : q < (BF f f.body).length), q < x → (BF f f.body)[q] = (q : Int)) (fun x => Int.toNat ((BF f f.body).length - x)) 0 ?_ (fun j hx => ?_)
  · exact ⟨by omega, by omega, fun q h h' => by omega⟩
  obtain ⟨hj0, hj1, hj⟩ := hx
  refine nY Z (sG (eZ Z (nB (sQ ?_))));refine AD Z (fun h8 => ?_) (fun h8 => ?_)
  ·
    simp only [HS] at h8;refine AE (tN (sQ (AF (sG (eZ Z (Bb tys Z Z (AA Z) Z Z Z Z Z Z Z Z (by omega) (by omega) (BI tys Z Z (AA Z) Z Z Z Z (Ez _ _ (by omega) (by omega)) Z (eK 2 Z (nA (eK 3 Z (kZ [1,8,9,10,82,83,84,85,86,87,88,89,90,91] Z (nB ?_))))))))))));refine AD Z (fun h9 => ?_) (fun h9 => ?_)
    ·
      simp only [HS] at h9;refine sG (eZ Z (nB (rT (bR (tR (AR (bR (tR (eR ?_)))))))))
      · first
        | (refine As ?_; rw [Ae, PQ hj0 h8 h9]; simp; done)
    simp only [HS] at h9;refine AE (bN (tN (rG (evI ?_))));refine eZ Z (oN ?_);refine lQ _ ?_ ?_
    · skip
      refine ⟨by omega, by omega, fun q h h' => ?_⟩
      by_cases hq : (q : Int) < j
      · exact hj q h hq
      · obtain rfl : q = j.toNat := by omega
        omega
    · (show Int.toNat _ < Int.toNat _); omega
  simp only [HS] at h8;refine AV (tE (AP (AO (tN (sQ (sG (eK 2 Z (evE ?_))))))));refine eZ Z (nB (AF ?_));refine lK (α := Int) [1, 8, 94, 95] [1, 81] (fun x => [(96, .t (.int x))]) (fun x => []) (fun x => 0 ≤ x ∧ x ≤ f.stmts.length ∧ (((BF f f.body).length : Int) = f.stmts.length → (f.stmts.take x.toNat).all (CC f) = true)) (fun x => Int.toNat (f.stmts.length - x)) 0 ?_ (fun m hx => ?_)
  · exact ⟨by omega, by omega, fun _ => by simp⟩
  obtain ⟨hm0, hm1, hmw⟩ := hx
  refine nY Z (sG (eZ Z (nB (sQ ?_))));refine AD Z (fun h9 => ?_) (fun h9 => ?_)
  ·
    simp only [HS] at h9;refine AE (tN (sQ (AF (sG (eZ Z ?_)))));refine iY (k := ?_);refine eZ Z ?_
    try refine AC (Le.freeze (u := 100) rfl) ?_
    refine nZ Z (AH tys Z Z (AA Z) Z Z Z (nZ Z ?_))
    have hmt : m.toNat < f.stmts.length := by omega
    have hbt : inB f.stmts.length 0 (f.stmts[m.toNat]'hmt).thn := by
      have := (hd m (by omega) (by omega)).1
      rw [kids_at hmt] at this;exact BU this (by omega)
    have hut := Dd f.stmts hmt
    have hul := Jw f.stmts m.toNat
    have hot : (BF f (f.stmts[m.toNat]'hmt).thn).length ≤ 1048576 := Et hd hbt (by omega) (by omega)
    refine eZ Z (sT Z (nZ Z (nB (sQ (kY [1,8,11,12,94,95,96,97,98,99,100] Z (rG (eK 4 Z ?_)))))));refine gB (fun h10 => ?_) (fun h10 => ?_)
    ·
      simp only [HS] at h10;refine xK 5 Z (kZ [1,8,11,12,94,95,96,97,98,99,100,101,102,103,104,105,106,107,108,109,110] Z (eZ Z (nB (BC Z (AE (bN (tN (rG (evI ?_)))))))));refine eZ Z (oN ?_);refine lQ _ ?_ ?_
      · skip
        refine ⟨by omega, by omega, fun he => Cz hm0 (by omega) (hmw he) ?_⟩
        first
        | (unfold CC; rw [if_neg (by omega)]; done)
      · (show Int.toNat _ < Int.toNat _); omega
    simp only [HS] at h10;refine eZ Z (gY Z (evE ?_));refine xK 2 Z (gY Z (evE ?_));refine kZ [1,8,11,12,94,95,96,97,98,99,100,101,102,103,104,105,106,107,108,109] Z (xK 2 Z (nB ?_));refine AD Z (fun h11 => ?_) (fun h11 => ?_)
    ·
      simp only [HS] at h11;refine sQ (Jn 7 9 A9 Z Z Z Z Z Z Z (AA Z) (by kernel_rfl) (by kernel_rfl) (by kernel_rfl) (by kernel_rfl) (by kernel_rfl) (evQ ?_));refine evQ ?_;refine evQ ?_;refine evQ ?_;refine AS Z (A3 tys Z Z (AA Z) Z Z Z Z Z Z Z (by omega) _ (EE _ _ (by omega) (by omega)) (evQ ?_));refine evQ ?_;refine BE (AC (Le.freeze (u := 112) Z) ?_)
      skip
      refine nZ Z (FY (u := 119) (az := [.tmp 112, .tmp 118]) Z Z (AA Z) Z Z Z Z (.inr ⟨rfl, _, rfl⟩) (E6 f hf hd hbt (CM hf _).1 hot) (AC (Le.adoptE (u := 119) 119 Z (by first | exact Lq | exact Z)) ?_));refine nZ Z (evE ?_);refine oN (nQ_n (tN (AF ?_)));refine lK (α := Int) [1, 8, 94, 95, 96, 119, 120] [1, 81, 119] (fun x => [(121, .t (.int x))]) (fun x => []) (fun x => 0 ≤ x ∧ x ≤ (BF f (f.stmts[m.toNat]'(by omega)).thn).length ∧ ((BF f (f.stmts[m.toNat]'(by omega)).thn).take x.toNat).all (fun n => decide (¬ FB f n = 3)) = true) (fun x => Int.toNat ((BF f (f.stmts[m.toNat]'(by omega)).thn).length - x)) 0 ?_ (fun r hx => ?_)
      · exact ⟨by omega, by omega, by simp⟩
      obtain ⟨hr0, hr1, hrw⟩ := hx
      refine nY Z (sG (eZ Z (nB (sQ ?_))));refine AD Z (fun h12 => ?_) (fun h12 => ?_)
      ·
        simp only [HS] at h12;refine AE (tN (sQ (AF (sG (Bb tys Z Z (AA Z) Z Z Z Z Z Z Z Z (by omega) (by omega) (BI tys Z Z (AA Z) Z Z Z Z (Ez _ _ (by omega) (by omega)) Z ?_))))))
        have hn := EN hd hbt _ (Qr (l := BF f (f.stmts[m.toNat]'(by omega)).thn) (n := r.toNat) (by omega))
        refine eZ Z (nA (eK 3 Z ?_));refine iY (k := ?_);refine eZ Z (kZ [1,8,14,94,95,96,119,120,121,122,123,124,125,126,127,128,129] Z (eK 2 Z (nB ?_)));refine AD Z (fun h13 => ?_) (fun h13 => ?_)
        ·
          simp only [HS] at h13;refine sG (eZ Z (nB (rT (bR (tR (AR (bR (bR (tR (AR (bR (tR (eR ?_)))))))))))))
          · first
            | (have e : JS f (f.stmts[m.toNat]'(by omega)).thn = false := (by unfold JS; exact FE hr0 (by omega) (by rw [EU (by omega)]; simp; omega))
               refine As ?_; rw [Ae, Jv hm0 (by omega) (by omega) e]; simp; done)
        simp only [HS] at h13;refine AE (bN (tN (rG (evI ?_))));refine eZ Z (oN ?_);refine lQ _ ?_ ?_
        · skip
          exact ⟨by omega, by omega, Cz hr0 (by omega) hrw (by rw [EU (by omega)]; simp; assumption)⟩
        · (show Int.toNat _ < Int.toNat _); omega
      simp only [HS] at h12;refine AV (tE (AP (AO (bN (tN (rG (evI ?_)))))));refine eZ Z (oN ?_);refine lQ _ ?_ ?_
      · skip
        refine ⟨by omega, by omega, fun he => Cz hm0 (by omega) (hmw he) ?_⟩
        first
        | (unfold CC; rw [if_pos (by assumption)]; exact Eb (by omega) hrw)
      · (show Int.toNat _ < Int.toNat _); omega
    simp only [HS] at h11;refine AE (bN (tN (rG (evI ?_))));refine eZ Z (oN ?_);refine lQ _ ?_ ?_
    · skip
      refine ⟨by omega, by omega, fun he => Cz hm0 (by omega) (hmw he) ?_⟩
      first
      | (unfold CC; rw [if_neg (by omega)]; done)
    · (show Int.toNat _ < Int.toNat _); omega
  simp only [HS] at h9;refine AV (tE (AP (AO (tN (sG (eZ Z (evE ?_)))))));refine eK 2 Z (evE ?_);refine eK 2 Z (nB (rT (eR ?_)))
  · first
    | (refine As ?_
       rw [Ae, hnum, hsite]
       by_cases hle : ((BF f f.body).length : Int) = f.stmts.length
       · rw [Pw hd hb hle (fun q h => hj q h (by omega)), E4, Eb (by omega) (hmw hle)]; simp [hle]
       · have : Bq f.stmts f.body = false := by
           rw [Bool.eq_false_iff]; exact fun h => hle (MC h)
         rw [this]; simp [hle])
end Go.Proofs.Ytddfnpiikkilhaa
