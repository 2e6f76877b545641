/- Walks and laws of the claim. -/
import Derived.Test.YtddfnpiikkilhaaFa
import Derived.Test.YtddfnpiikkilhaaMc
set_option linter.unusedVariables false
set_option linter.unusedSimpArgs false
set_option maxRecDepth 10000
set_option maxHeartbeats 1000000
namespace Go.Proofs.Ytddfnpiikkilhaa
open Go.Eng
open Go.Eng
theorem retB {b b' : Bool} (h : b = b') : [D.t (T.v (Value.bool b))] = [D.t (T.bool b')] := by rw [h]
theorem Hc {b b' : Int} (h : b = b') : [D.t (T.v (Value.int .i64 b))] = [D.t (T.int b')] := by rw [h]
def atI (l : List Int) (n : Int) : Int := (l[n.toNat]?).getD 0
theorem Ay {l : List Int} {n : Int} (h0 : 0 ≤ n) (h1 : n < l.length) : atI l n = l[n.toNat]'(by omega) := by
 unfold atI; rw [List.getElem?_eq_getElem (by omega)]; rfl
def NO (ps : List Int) : Prop := ps.length ≤ 5 ∧ ∀ x, x ∈ ps → 0 ≤ x ∧ x ≤ 2
def BN (ps : List Int) : Bool := decide ((ps.length : Int) ≤ 5) && B7 ps 0 2
theorem FK {ps : List Int} (h : BN ps = true) : NO ps := by
 unfold BN at h;rw [Sl] at h;refine ⟨by have := h.1; simp at this; omega, fun x hx => ?_⟩
 have := h.2
 unfold B7 at this;rw [Sv] at this
 simpa using this x hx
theorem LF {ps : List Int} (h : NO ps) (n : Int) : 0 ≤ atI ps n ∧ atI ps n ≤ 2 := by
 unfold atI
 cases hx : ps[n.toNat]? with
 | none => simp
 | some x => simpa using h.2 x (TJ hx)
def knownT (vars m : Int) (t : Tok) : Bool :=
 if t.op = 1 then decide (-2147483648 ≤ t.n ∧ t.n ≤ 2147483647) else if t.op = 2 then decide (0 ≤ t.n ∧ t.n < vars) else if t.op = 11 then decide (0 ≤ t.n ∧ t.n < m) else decide (3 ≤ t.op ∧ t.op ≤ 10) && decide (t.n = 0)
def As (ps : List Int) (t : Tok) : Int := if 3 ≤ t.op ∧ t.op ≤ 8 then 2 else if t.op = 11 then atI ps t.n else 0
theorem C7 {ps : List Int} (h : NO ps) (t : Tok) : 0 ≤ As ps t ∧ As ps t ≤ 2 := by
 have := LF h t.n
 unfold As; split <;> (try split) <;> omega
theorem K3 (n : Int) : Fun Try.prog 128 [.t (.int n)] (A2 [.t (.bool (decide (-2147483648 ≤ n ∧ n ≤ 2147483647)))]) := by
 refine Fun.begin tys Try.func128 Z Z (N := 5) [(0, .t (.int n))] Z Z (fun w0 G F0 => ?_);refine sG (eZ Z (nA (eZ Z (AM ?_))));refine ⟨_, BB _ _ _, rfl, ?_⟩;refine eZ Z (nB (rT (eR ?_)))
 ·rfl
def LS (t : Tok) : Bool := if t.op = 1 then decide (-2147483648 ≤ t.n ∧ t.n ≤ 2147483647) else if t.op = 2 ∨ t.op = 11 then decide (0 ≤ t.n ∧ t.n ≤ 99) else decide (3 ≤ t.op ∧ t.op ≤ 10) && decide (t.n = 0)
theorem Kz (t : Tok) : Fun Try.prog 127 [.t t.tt] (A2 [.t (.bool (LS t))]) := by
 refine Fun.begin tys Try.func127 Z Z (N := 24) [(0, .t t.tt)] Z Z (fun w0 G F0 => ?_);refine sG (AV Z Z (AA Z) Z Z (nZ Z (eZ Z (nB (sQ (sG (eK 2 Z (nB (AD (sG (eK 2 Z (nB ?_))))))))))));refine AB Z (fun h1 => ?_) (fun h1 => ?_)
 ·
  simp only [HS] at h1;refine sG (eK 2 Z (AM ?_));refine ⟨_, K3 _, rfl, ?_⟩;refine kZ [1,2,9] Z (eZ Z (nB (rT (bR (tR (eR ?_))))))
  ·exact retB (by grind [LS])
 simp only [HS] at h1;refine sQ (sG (eK 2 Z (nB ?_)));refine AB Z (fun h2 => ?_) (fun h2 => ?_)
 ·
  simp only [HS] at h2;refine AC (tN ?_);refine AB Z (fun h3 => ?_) (fun h3 => ?_)
  ·
   simp only [HS] at h3;refine sQ (kY [1,2] Z (rG (eK 2 Z (AM ?_))));refine ⟨_, BB _ _ _, rfl, ?_⟩;refine eZ Z (nB (rT (bR (tR (eR ?_)))))
   ·exact retB (by grind [LS])
  simp only [HS] at h3;refine AC (bN (tN (sQ (kY [1,2] Z (rG (eK 2 Z (AM ?_)))))));refine ⟨_, BB _ _ _, rfl, ?_⟩;refine eZ Z ?_;refine gB (fun h4 => ?_) (fun h4 => ?_)
  ·
   simp only [HS] at h4;refine xK 4 Z (nB (rT (eR ?_)))
   ·exact retB (by grind [LS])
  simp only [HS] at h4;refine xK 5 Z (kZ [2] Z (nB (rT (eR ?_))))
  ·exact retB (by grind [LS])
 simp only [HS] at h2;refine kY [1,2,4,10] Z (rG (eK 2 Z (nB ?_)));refine AB Z (fun h3 => ?_) (fun h3 => ?_)
 ·
  simp only [HS] at h3;refine sG (eK 2 Z (AM ?_));refine ⟨_, BB _ _ _, rfl, ?_⟩;refine eZ Z (nB (rT (bR (tR (eR ?_)))))
  ·exact retB (by grind [LS])
 simp only [HS] at h3;refine AC (bN (tN (sG (eK 2 Z (AM ?_)))));refine ⟨_, BB _ _ _, rfl, ?_⟩;refine eZ Z ?_;refine gB (fun h4 => ?_) (fun h4 => ?_)
 ·
  simp only [HS] at h4;refine xK 3 Z (kZ [2,23] Z (eZ Z (nB (rT (eR ?_)))))
  ·exact retB (by grind [LS])
 simp only [HS] at h4;refine xK 3 Z (kZ [2,19,22] Z (eK 2 Z (nB (rT (eR ?_)))))
 ·exact retB (by grind [LS])
theorem K2 (t : Tok) (vars : Int) (ps : List Int) (hv : vars ≤ 100) (hp : ps.length ≤ 100) : Fun Try.prog 123 [.t t.tt, .t (.int vars), .t (T.ints ps)] (A2 [.t (.bool (knownT vars ps.length t))]) := by
 refine Fun.begin tys Try.func123 Z Z (N := 32) [(0, .t t.tt), (1, .t (.int vars)), (2, .t (T.ints ps))] Z Z (fun w0 G F0 => ?_);refine sG (AV Z Z (AA Z) Z Z (nZ Z (eZ Z (nA (eZ Z ?_)))))
 try refine WO_le (Le.freeze (u := 7) rfl) ?_
 refine nZ Z (AM ?_);refine ⟨_, Kz _, rfl, ?_⟩;refine eZ Z ?_;refine gB (fun h1 => ?_) (fun h1 => ?_)
 ·
  simp only [HS] at h1;refine xK 4 Z (kZ [1,2,3,6,9,13,14] Z (xK 9 Z (kZ [2,3,6,20,23] Z (xK 9 Z (kZ [6] Z (nB (rT (eR ?_))))))))
  ·exact retB (by grind [LS, knownT])
 refine xK 4 Z (kZ [1,2,3,6,9,13] Z ?_);refine gB (fun h2 => ?_) (fun h2 => ?_)
 ·
  simp only [HS] at h2;refine xK 9 Z (kZ [2,3,6,20,23] Z (xZ Z ?_));refine gB (fun h3 => ?_) (fun h3 => ?_)
  ·
   simp only [HS] at h3;refine xK 7 Z (nB (rT (eR ?_)))
   ·exact retB (by grind [LS, knownT])
  simp only [HS] at h3;refine xK 3 Z (gY Z (evE ?_));refine xK 4 Z (kZ [6] Z (nB (rT (eR ?_))))
  ·exact retB (by grind [LS, knownT])
 simp only [HS] at h2;refine xK 7 Z ?_;refine gB (fun h3 => ?_) (fun h3 => ?_)
 ·
  simp only [HS] at h3;refine xK 2 Z (kZ [2,3,6,20,23] Z (xK 9 Z (kZ [6] Z (nB (rT (eR ?_))))))
  ·exact retB (by grind [LS, knownT])
 simp only [HS] at h3;refine xK 2 Z (kZ [2,3,6,20,22] Z (xK 2 Z ?_));refine gB (fun h4 => ?_) (fun h4 => ?_)
 ·
  simp only [HS] at h4;refine xK 7 Z (kZ [6] Z (nB (rT (eR ?_))))
  ·exact retB (by grind [LS, knownT])
 simp only [HS] at h4;refine xK 3 Z (gY Z (evE ?_));refine xK 3 Z (kZ [6,31] Z (eZ Z (nB (rT (eR ?_)))))
 ·exact retB (by grind [LS, knownT])
theorem Gj (t : Tok) (ps : List Int) (ht : t.op = 11 → 0 ≤ t.n ∧ t.n < ps.length) : Fun Try.prog 124 [.t t.tt, .t (T.ints ps)] (A2 [.t (.int (As ps t))]) := by
 refine Fun.begin tys Try.func124 Z Z (N := 18) [(0, .t t.tt), (1, .t (T.ints ps))] Z Z (fun w0 G F0 => ?_);refine sG (AV Z Z (AA Z) Z Z (nZ Z (eZ Z (nB (sQ (AD (sG (eK 2 Z (AM ?_)))))))));refine ⟨_, BB _ _ _, rfl, ?_⟩;refine eZ Z (nB ?_);refine AB Z (fun h1 => ?_) (fun h1 => ?_)
 ·
  simp only [HS] at h1;refine sG (eZ Z (nB (rT (bR (tR (eR ?_))))))
  ·exact Hc (by grind [As, Ay])
 simp only [HS] at h1;refine sG (eK 3 Z (kZ [1,2,4,12] Z (eZ Z (nB ?_))));refine AB Z (fun h2 => ?_) (fun h2 => ?_)
 ·
  simp only [HS] at h2;refine sG (eK 3 Z ?_);refine iY (k := ?_);refine eK 2 Z (nB (rT (bR (tR (eR ?_)))))
  ·exact Hc (by grind [As, Ay])
 simp only [HS] at h2;refine AC (bN (tN (sG (eZ Z (nB (rT (eR ?_)))))))
 ·exact Hc (by grind [As, Ay])
theorem Mv (a b : Int) : Fun Try.prog 125 [.t (.int a), .t (.int b)] (A2 [.t (.int (max a b))]) := by
 refine Fun.begin tys Try.func125 Z Z (N := 10) [(0, .t (.int a)), (1, .t (.int b))] Z Z (fun w0 G F0 => ?_);refine sG (eZ Z (nB (sQ (sG (eK 3 Z (nB ?_))))));refine AB Z (fun h1 => ?_) (fun h1 => ?_)
 ·
  simp only [HS] at h1;refine sG (eK 2 Z (nB (rT (tR (eR ?_)))))
  ·exact Hc (by grind)
 simp only [HS] at h1;refine AC (tN (sG (eK 2 Z (nB (rT (eR ?_))))))
 ·exact Hc (by grind)
def C3 (vars : Int) (ps : List Int) : List Tok → Int → Int → Option (Int × Int)
 | [], h, m => some (h, m)
 | t :: l, h, m => if knownT vars ps.length t && decide (As ps t ≤ h) then C3 vars ps l (h + (1 - As ps t)) (max m (h + (1 - As ps t))) else none
theorem EA {vars : Int} {ps : List Int} {l : List Tok} {h m k : Int} (h0 : 0 ≤ k) (h1 : k < l.length) : C3 vars ps (l.drop k.toNat) h m = if knownT vars ps.length (l[k.toNat]'(by omega)) && decide (As ps (l[k.toNat]'(by omega)) ≤ h) then C3 vars ps (l.drop (k + 1).toNat) (h + (1 - As ps (l[k.toNat]'(by omega)))) (max m (h + (1 - As ps (l[k.toNat]'(by omega))))) else none := by
 rw [Cx h0 h1, C3]
def Jt (vars : Int) (ps : List Int) (l : List Tok) : Int := match C3 vars ps l 0 0 with
 | some (h, m) => if h = 1 ∧ (l.length : Int) ≤ 12 then m else -1
 | none => -1
def Ju (vars : Int) (ps : List Int) (l : List Tok) : Int := if (1 : Int) ≤ l.length ∧ (l.length : Int) ≤ 12 then (match C3 vars ps l 0 0 with
 | some (h, m) => if h = 1 then m else 0
 | none => 0) else 0
theorem DM {vars m : Int} {t : Tok} (h : knownT vars m t = true) : t.op = 11 → 0 ≤ t.n ∧ t.n < m := by
 intro ho; unfold knownT at h; simp [ho] at h; omega
theorem Mu (l : List Tok) (vars : Int) (ps : List Int) (hv : vars ≤ 100) (hp : NO ps) (hl : l.length ≤ 1048576) : Fun Try.prog 120 [.t (T.Toks l), .t (.int vars), .t (T.ints ps)] (A2 [.t (.int (Jt vars ps l))]) := by
 have hp1 := hp.1
 refine Fun.begin tys Try.func120 Z Z (N := 47) [(0, .t (T.Toks l)), (1, .t (.int vars)), (2, .t (T.ints ps))] Z Z (fun w0 G F0 => ?_);refine sG (eZ Z (nA (eK 2 Z (nB (sQ (sG (eZ Z (evE ?_))))))));refine eZ Z (nB (AD ?_));refine lK (α := Int × Int × Int) [0, 1, 2, 11, 12] [] (fun x => [(13, .t (.int (x.1))), (7, .t (.int (x.2.1))), (8, .t (.int (x.2.2)))]) (fun x => []) (fun x => 0 ≤ (x.1) ∧ (x.1) ≤ l.length ∧ 0 ≤ (x.2.1) ∧ (x.2.1) ≤ (x.1) ∧ C3 vars ps l 0 0 = C3 vars ps (l.drop (x.1).toNat) (x.2.1) (x.2.2)) (fun x => Int.toNat (l.length - (x.1))) (0, 0, 0) ?_ (fun x hx => ?_)
 ·exact ⟨by omega, by omega, Tr 0, Tr 0, rfl⟩
 obtain ⟨k, h, m⟩ := x
 obtain ⟨hk0, hk1, hh0, hh1, he⟩ := hx
 dsimp only at hk0 hk1 hh0 hh1 he ⊢;refine nY Z (sG (eZ Z (nB (sQ ?_))));refine AB Z (fun h1 => ?_) (fun h1 => ?_)
 ·
  simp only [HS] at h1;refine AC (tN (sQ (AD (sG ?_))));refine iY (k := ?_);refine eZ Z ?_
  try refine WO_le (Le.freeze (u := 16) rfl) ?_
  refine nZ Z (AF tys Z Z (AA Z) Z Z Z (nZ Z (sT Z (nZ Z (nB (sQ (sG (eZ Z ?_))))))))
  try refine WO_le (Le.freeze (u := 17) rfl) ?_
  refine nZ Z (eK 2 Z (AM ?_));refine ⟨_, K2 _ _ _ hv (by omega), rfl, ?_⟩;refine kZ [0,1,2,7,8,10,11,12,13,14,15,16,17,18,19,20] Z (eK 2 Z ?_);refine gB (fun h2 => ?_) (fun h2 => ?_)
  ·
   simp only [HS] at h2;refine xK 5 Z (nB (Ao Z (sQ (kY [0,1,2,7,8,10,11,12,13,14,15,16,17,18,19,20,21,22,23,24,25,26,27,28] Z (rG (eZ Z (nB (rT (tR (bR (tR (AP (bR (tR (eR ?_)))))))))))))))
   ·exact Hc (by rw [Jt, he, EA hk0 h1, if_neg (by simp [*]; done)])
  simp only [HS] at h2;refine xK 2 Z ?_
  try refine WO_le (Le.freeze (u := 24) rfl) ?_
  refine nZ Z (xZ Z (gY Z (AM ?_)));refine ⟨_, Gj _ _ (DM h2), rfl, ?_⟩;refine xK 2 Z (nB ?_);refine AB Z (fun h3 => ?_) (fun h3 => ?_)
  ·
   simp only [HS] at h3;refine sQ (kY [0,1,2,7,8,10,11,12,13,14,15,16,17,18,19,20,21,22,23,24,25,26,27,28] Z (rG (eZ Z (nB (rT (tR (bR (tR (AP (bR (tR (eR ?_))))))))))))
   ·exact Hc (by rw [Jt, he, EA hk0 h1, if_neg (by simp [*]; done)])
  simp only [HS] at h3;refine AC (tN (sQ (kY [0,1,2,7,8,10,11,12,13,14,15,16,17,18,19,20,21,22,23,24,25,26,27,28] Z (rG (eK 2 Z ?_)))))
  try refine WO_le (Le.freeze (u := 30) rfl) ?_
  refine nZ Z (eZ Z (AM ?_));refine ⟨_, Gj _ _ (DM h2), rfl, ?_⟩
  have q := C7 hp (l[k.toNat]'(by omega))
  refine evI ?_;refine evI ?_;refine eZ Z (nB (kY [0,1,2,7,8,10,11,12,13,14,15,16,17,18,19,20,21,22,23,24,25,26,27,28,29,30,31,32,33,34] Z (rG (eK 2 Z (AM ?_)))));refine ⟨_, Mv _ _, rfl, ?_⟩;refine eZ Z (oN (bN (tN (rG (evI ?_)))));refine eZ Z (oN ?_);refine lQ (_, _, _) ?_ ?_
  ·dsimp only
   have q := C7 hp (l[k.toNat]'(by omega)); exact ⟨by omega, by omega, by omega, by omega, by rw [he, EA hk0 h1, if_pos (by simp [h2]; omega)]⟩
  ·(show Int.toNat _ < Int.toNat _); omega
 simp only [HS] at h1;refine AN (tE (AJ (AI (tN (sQ (sG (eK 3 Z ?_)))))));refine gB (fun h2 => ?_) (fun h2 => ?_)
 ·
  simp only [HS] at h2;refine xK 3 Z (nB (Ao Z (sQ (kY [8] Z (rG (eZ Z (nB (rT (tR (eR ?_))))))))))
  ·exact Hc (by rw [Jt, he, BC h1]; simp only [C3]; grind)
 simp only [HS] at h2;refine eZ Z (gY Z (evE ?_));refine xK 2 Z (nB ?_);refine AB Z (fun h3 => ?_) (fun h3 => ?_)
 ·
  simp only [HS] at h3;refine sQ (kY [8] Z (rG (eZ Z (nB (rT (tR (eR ?_)))))))
  ·exact Hc (by rw [Jt, he, BC h1]; simp only [C3]; grind)
 simp only [HS] at h3;refine AC (tN (sQ (kY [8] Z (rG (eK 2 Z (nB (rT (eR ?_))))))))
 ·exact Hc (by rw [Jt, he, BC h1]; simp only [C3]; grind)
def CN (vars : Int) (ps : List Int) (l : List Tok) : Bool := match C3 vars ps l 0 0 with
 | some (h, m) => decide (h = 1) && decide ((l.length : Int) ≤ 12)
 | none => false
theorem GS {vars : Int} {ps : List Int} : ∀ {l : List Tok} {h m h' m' : Int}, C3 vars ps l h m = some (h', m') → (l = [] ∧ h' = h) ∨ h' ≤ m'
 | [], h, m, h', m', e => by rw [C3] at e; cases e; exact .inl ⟨rfl, rfl⟩
 | t :: l, h, m, h', m', e => by
  rw [C3] at e;split at e
  ·have := GS e
   rcases this with ⟨rfl, rfl⟩ | h
   ·rw [C3] at e
    cases e;exact .inr (by omega)
   ·exact .inr h
  ·cases e
theorem Oj (vars : Int) (ps : List Int) (l : List Tok) : (0 < Jt vars ps l) = (CN vars ps l = true) := by
 unfold Jt CN
 cases hr : C3 vars ps l 0 0 with
 | none => simp
 | some x =>
  obtain ⟨h, m⟩ := x
  have := GS hr
  dsimp only;split
  ·rename_i h1
   simp [h1]
   rcases this with ⟨_, h2⟩ | h2 <;> omega
  ·rename_i h1
   simp
   omega
theorem BS (vars : Int) (ps : List Int) (l : List Tok) : (0 < Ju vars ps l) = (CN vars ps l = true) := by
 unfold Ju CN
 cases hr : C3 vars ps l 0 0 with
 | none => simp
 | some x =>
  obtain ⟨h, m⟩ := x
  have := GS hr
  dsimp only
  by_cases hl : l = []
  ·subst hl
   rw [C3] at hr;cases hr
   simp
  ·have h0 : 0 < l.length := List.length_pos_iff.2 hl
   simp only [Sl, decide_eq_true_eq]
   have h2 := this.resolve_left fun h => hl h.1
   split
   ·split <;> simp <;> omega
   ·simp; omega
theorem Ff (ps : List Int) (hp : ps.length ≤ 1048576) : Fun Try.prog 78 [.t (T.ints ps)] (A2 [.t (.bool (BN ps))]) := by
 refine Fun.begin tys Try.func78 Z Z (N := 10) [(0, .t (T.ints ps))] Z Z (fun w0 G F0 => ?_);refine sG (eZ Z (nA (eZ Z (evE ?_))));refine eK 2 Z ?_;refine gB (fun h1 => ?_) (fun h1 => ?_)
 ·
  simp only [HS] at h1;refine xK 3 Z (nB (rT (eR ?_)))
  ·exact retB (by grind [BN])
 simp only [HS] at h1;refine eZ Z (gY Z (AM ?_));refine ⟨_, Gn _ _ _ (by omega), rfl, ?_⟩;refine eK 2 Z (kZ [2] Z (nB (rT (eR ?_))))
 ·exact retB (by grind [BN])
theorem Jw (l : List Tok) (vars : Int) (ps : List Int) (hv : 0 ≤ vars ∧ vars ≤ 6) (hp : NO ps) (hpb : BN ps = true) (hl : l.length ≤ 1048576) : Fun Try.prog 116 [.t (T.Toks l), .t (.int vars), .t (T.ints ps)] (A2 [.t (.bool (CN vars ps l))]) := by
 have hp1 := hp.1
 refine Fun.begin tys Try.func116 Z Z (N := 20) [(0, .t (T.Toks l)), (1, .t (.int vars)), (2, .t (T.ints ps))] Z Z (fun w0 G F0 => ?_);refine sG (eZ Z (nA (eZ Z (AM ?_))));refine ⟨_, BB _ _ _, rfl, ?_⟩;refine WO_le (Le.known (t := 8) true Z (by simp; omega)) ?_;refine xK 2 Z (gY Z (AM ?_));refine ⟨_, Ff _ (by omega), rfl, ?_⟩;refine WO_le (Le.known (t := 11) true Z (hpb)) (xK 3 Z (kZ [1,2,6,13,14] Z (xK 2 Z (gY Z (AM ?_)))));refine ⟨_, Mu _ _ _ (by omega) hp hl, rfl, ?_⟩;refine xK 3 Z (nB (rT (eR ?_)))
 ·exact retB (by rw [Bool.eq_iff_iff, decide_eq_true_iff]; rw [← Oj])
theorem Oi (n : Int) : (n = IntKind.i64.wrap (IntKind.i32.wrap n)) ↔ (-2147483648 ≤ n ∧ n ≤ 2147483647) := by
 have h1 : -2147483648 ≤ IntKind.i32.wrap n ∧ IntKind.i32.wrap n ≤ 2147483647 := by
  unfold IntKind.wrap; simp [IntKind.bits, IntKind.signed]; split <;> omega
 rw [E8 (by omega) (by omega)]
 constructor
 ·intro h; omega
 ·intro h; unfold IntKind.wrap; simp [IntKind.bits, IntKind.signed]; split <;> omega
theorem Gp (n : Int) : Fun Try.prog 64 [.t (.int n)] (A2 [.t (.bool (decide (-2147483648 ≤ n ∧ n ≤ 2147483647)))]) := by
 refine Fun.begin tys Try.func64 Z Z (N := 8) [(0, .t (.int n))] Z Z (fun w0 G F0 => ?_);refine sG (eZ Z (nA (eK 2 Z (WO_conv (td := .int .i64) (k := .i32) Z Z (AA Z) Z (by kernel_rfl) (by kernel_rfl) Z (WO_conv (td := .int .i32) (k := .i64) Z Z (AA Z) Z (by kernel_rfl) (by kernel_rfl) Z (eK 2 Z (nB (rT (eR ?_)))))))))
 ·exact retB (by rw [Bool.eq_iff_iff, decide_eq_true_iff, decide_eq_true_iff, Oi])
theorem Oe (t : Tok) (vars m : Int) (hv : 0 ≤ vars ∧ vars ≤ 100) (hm : 0 ≤ m ∧ m ≤ 100) : Fun Try.prog 113 [.t t.tt, .t (.int vars), .t (.int m)] (A2 [.t (.bool (knownT vars m t))]) := by
 refine Fun.begin tys Try.func113 Z Z (N := 36) [(0, .t t.tt), (1, .t (.int vars)), (2, .t (.int m))] Z Z (fun w0 G F0 => ?_);refine sG (AV Z Z (AA Z) Z Z (nZ Z (eZ Z (nB (sQ (sG (eK 2 Z (nB (AD (sG (eK 2 Z (nB ?_))))))))))));refine AB Z (fun h1 => ?_) (fun h1 => ?_)
 ·
  simp only [HS] at h1;refine sG (eK 2 Z (AM ?_));refine ⟨_, Gp _, rfl, ?_⟩;refine kZ [3,6,13] Z (eZ Z (nB (rT (bR (tR (eR ?_))))))
  ·exact retB (by grind [knownT])
 simp only [HS] at h1;refine sG (eK 2 Z (nB ?_));refine AB Z (fun h2 => ?_) (fun h2 => ?_)
 ·
  simp only [HS] at h2;refine sQ (kY [1,3,6] Z (rG (eK 3 Z (evI ?_))));refine AM ?_;refine ⟨_, Af _ _ _, rfl, ?_⟩;refine eZ Z (nB (rT (bR (tR (eR ?_)))))
  ·exact retB (by grind [knownT])
 simp only [HS] at h2;refine sQ (kY [2,3,6,8] Z (rG (eK 2 Z (nB ?_))));refine AB Z (fun h3 => ?_) (fun h3 => ?_)
 ·
  simp only [HS] at h3;refine sG (eK 3 Z (evI ?_));refine AM ?_;refine ⟨_, Af _ _ _, rfl, ?_⟩;refine eZ Z (nB (rT (bR (tR (eR ?_)))))
  ·exact retB (by grind [knownT])
 simp only [HS] at h3;refine AC (bN (tN (sG (eK 2 Z (AM ?_)))));refine ⟨_, Af _ _ _, rfl, ?_⟩;refine eZ Z ?_;refine gB (fun h4 => ?_) (fun h4 => ?_)
 ·
  simp only [HS] at h4;refine xK 3 Z (kZ [6,35] Z (eZ Z (nB (rT (eR ?_)))))
  ·exact retB (by grind [knownT])
 simp only [HS] at h4;refine xK 3 Z (kZ [6,31,34] Z (eK 2 Z (nB (rT (eR ?_)))))
 ·exact retB (by grind [knownT])
theorem HJ (n : Int) : Fun Try.prog 119 [.t (.int n)] (A2 [.t (.bool (decide (3 ≤ n ∧ n ≤ 8)))]) := by
 refine Fun.begin tys Try.func119 Z Z (N := 5) [(0, .t (.int n))] Z Z (fun w0 G F0 => ?_);refine sG (eZ Z (nA (eZ Z (AM ?_))));refine ⟨_, Af _ _ _, rfl, ?_⟩;refine eZ Z (nB (rT (eR ?_)))
 ·rfl
theorem Jf (t : Tok) (ps : List Int) (ht : t.op = 11 → 0 ≤ t.n ∧ t.n < ps.length) : Fun Try.prog 114 [.t t.tt, .t (T.ints ps)] (A2 [.t (.int (As ps t))]) := by
 refine Fun.begin tys Try.func114 Z Z (N := 18) [(0, .t t.tt), (1, .t (T.ints ps))] Z Z (fun w0 G F0 => ?_);refine sG (AV Z Z (AA Z) Z Z (nZ Z (eZ Z (nB (sQ (AD (sG (eK 4 Z (nB ?_)))))))));refine AB Z (fun h1 => ?_) (fun h1 => ?_)
 ·
  simp only [HS] at h1;refine sG (eK 3 Z (kZ [4,9,11] Z ?_));refine iY (k := ?_);refine eK 2 Z (nB (rT (bR (tR (eR ?_)))))
  ·exact Hc (by grind [As, Ay])
 simp only [HS] at h1;refine sG (eK 2 Z (AM ?_));refine ⟨_, HJ _, rfl, ?_⟩;refine kZ [4,17] Z (eZ Z (nB ?_));refine AB Z (fun h2 => ?_) (fun h2 => ?_)
 ·
  simp only [HS] at h2;refine sG (eZ Z (nB (rT (bR (tR (eR ?_))))))
  ·exact Hc (by grind [As, Ay])
 simp only [HS] at h2;refine AC (bN (tN (sG (eZ Z (nB (rT (eR ?_)))))))
 ·exact Hc (by grind [As, Ay])
theorem maxIf (a b : Int) : (if a < b then b else a) = max a b := by split <;> omega
theorem Ho (l : List Tok) (vars : Int) (ps : List Int) (hv : 0 ≤ vars ∧ vars ≤ 100) (hp : NO ps) (hl : l.length ≤ 1048576) : Fun Try.prog 103 [.t (T.Toks l), .t (.int vars), .t (T.ints ps)] (A2 [.t (.int (Ju vars ps l))]) := by
 have hp1 := hp.1
 refine Fun.begin tys Try.func103 Z Z (N := 47) [(0, .t (T.Toks l)), (1, .t (.int vars)), (2, .t (T.ints ps))] Z Z (fun w0 G F0 => ?_);refine sG (eZ Z (nB (sQ (sG (eZ Z (evE ?_))))));refine AM ?_;refine ⟨_, Af _ _ _, rfl, ?_⟩;refine eZ Z (nB ?_);refine AB Z (fun h1 => ?_) (fun h1 => ?_)
 ·
  simp only [HS] at h1;refine sG (eZ Z (nB (rT (tR (eR ?_)))))
  ·(exact Hc (by rw [Ju, if_neg (by omega)]); done)
 simp only [HS] at h1;refine AC (tN (sG (eK 2 Z (nB (sQ (sQ (kY [0,1,2,6,7,8] Z (rG (eZ Z (evE ?_))))))))));refine eZ Z (nB (AD ?_));refine lK (α := Int × Int × Int) [1, 2, 15, 16] [] (fun x => [(17, .t (.int (x.1))), (8, .t (.int (x.2.1))), (7, .t (.int (x.2.2)))]) (fun x => []) (fun x => 0 ≤ (x.1) ∧ (x.1) ≤ l.length ∧ 0 ≤ (x.2.1) ∧ (x.2.1) ≤ (x.1) ∧ (1 : Int) ≤ l.length ∧ (l.length : Int) ≤ 12 ∧ C3 vars ps l 0 0 = C3 vars ps (l.drop (x.1).toNat) (x.2.1) (x.2.2)) (fun x => Int.toNat (l.length - (x.1))) (0, 0, 0) ?_ (fun x hx => ?_)
 ·exact ⟨by omega, by omega, Tr 0, Tr 0, by omega, by omega, rfl⟩
 obtain ⟨k, h, m⟩ := x
 obtain ⟨hk0, hk1, hh0, hh1, hl0, hl1, he⟩ := hx
 dsimp only at hk0 hk1 hh0 hh1 hl0 hl1 he ⊢;refine nY Z (sG (eZ Z (nB (sQ ?_))));refine AB Z (fun h2 => ?_) (fun h2 => ?_)
 ·
  simp only [HS] at h2;refine AC (tN (sQ (AD (sG ?_))));refine iY (k := ?_);refine eZ Z ?_
  try refine WO_le (Le.freeze (u := 20) rfl) ?_
  refine nZ Z (AF tys Z Z (AA Z) Z Z Z (nZ Z (sT Z (nZ Z (nB (sQ (sG (eZ Z ?_))))))))
  try refine WO_le (Le.freeze (u := 21) rfl) ?_
  refine nZ Z (eK 2 Z (evE ?_));refine kZ [1,2,7,8,10,15,16,17,18,19,20,21,22,23,24] Z (AM ?_);refine ⟨_, Oe _ _ _ hv (by omega), rfl, ?_⟩;refine eK 2 Z ?_;refine gB (fun h3 => ?_) (fun h3 => ?_)
  ·
   simp only [HS] at h3;refine xK 5 Z (nB (Ao Z (sQ (kY [1,2,7,8,10,15,16,17,18,19,20,21,22,23,24,25,26,27,28,29,30,31,32,33] Z (rG (eZ Z (nB (rT (tR (bR (tR (AP (bR (tR (eR ?_)))))))))))))))
   ·exact Hc (by rw [Ju, if_pos ⟨hl0, hl1⟩, he, EA hk0 h2, if_neg (by simp [*]; done)])
  simp only [HS] at h3;refine eZ Z ?_
  try refine WO_le (Le.freeze (u := 28) rfl) ?_
  refine nZ Z (xZ Z (gY Z (AM ?_)));refine ⟨_, Jf _ _ (DM h3), rfl, ?_⟩;refine xK 3 Z (kZ [1,2,7,8,10,15,16,17,18,19,20,21,22,23,24,25,26,27,28,29,30,31,32,33] Z (nB ?_));refine AB Z (fun h4 => ?_) (fun h4 => ?_)
  ·
   simp only [HS] at h4;refine sG (eZ Z (nB (rT (tR (bR (tR (AP (bR (tR (eR ?_))))))))))
   ·exact Hc (by rw [Ju, if_pos ⟨hl0, hl1⟩, he, EA hk0 h2, if_neg (by simp [*]; done)])
  simp only [HS] at h4;refine AC (tN (sG (eK 2 Z ?_)))
  try refine WO_le (Le.freeze (u := 35) rfl) ?_
  refine nZ Z (eZ Z (AM ?_));refine ⟨_, Jf _ _ (DM h3), rfl, ?_⟩
  have q := C7 hp (l[k.toNat]'(by omega))
  refine evI ?_;refine evI ?_;refine eZ Z (nB (kY [1,2,7,8,10,15,16,17,18,19,20,21,22,23,24,25,26,27,28,29,30,31,32,33,34,35,36,37,38,39] Z (rG (eK 4 Z (oN (bN (tN (rG (evI ?_)))))))));refine eZ Z (oN ?_);refine lQ (_, _, _) ?_ ?_
  ·dsimp only
   have q := C7 hp (l[k.toNat]'(by omega)); exact ⟨by omega, by omega, by omega, by omega, hl0, hl1, by rw [he, EA hk0 h2, if_pos (by simp [h3]; omega), maxIf]⟩
  ·(show Int.toNat _ < Int.toNat _); omega
 simp only [HS] at h2;refine AN (tE (AJ (AI (tN (sQ (sG (eK 2 Z (nB ?_))))))));refine AB Z (fun h3 => ?_) (fun h3 => ?_)
 ·
  simp only [HS] at h3;refine sG (eZ Z (nB (rT (tR (eR ?_)))))
  ·exact Hc (by rw [Ju, if_pos ⟨hl0, hl1⟩, he, BC h2]; simp only [C3]; grind)
 simp only [HS] at h3;refine AC (tN (sG (eK 2 Z (nB (rT (eR ?_))))))
 ·exact Hc (by rw [Ju, if_pos ⟨hl0, hl1⟩, he, BC h2]; simp only [C3]; grind)
def NR (kids : Int → List Int × List Int) : Nat → List Int → List Int
 | 0, _ => []
 | k + 1, b => b.flatMap fun n => n :: (NR kids k (kids n).1 ++ NR kids k (kids n).2)
def inB (N i : Int) (b : List Int) : Prop := ∀ x, x ∈ b → i ≤ x ∧ x < N
def Bm (N : Int) (kids : Int → List Int × List Int) : Prop := ∀ m, 0 ≤ m → m < N → inB N (m + 1) (kids m).1 ∧ inB N (m + 1) (kids m).2
theorem Cw {α β : Type} {f g : α → List β} : ∀ {l : List α}, (∀ x, x ∈ l → f x = g x) → l.flatMap f = l.flatMap g
 | [], _ => rfl
 | x :: l, h => by rw [S8, S8, h x (S9 ..), Cw fun y hy => h y (TC _ hy)]
theorem Em {N : Int} {kids : Int → List Int × List Int} (hd : Bm N kids) : ∀ (k k' : Nat) {i : Int} {b : List Int}, 0 ≤ i → inB N i b → N - i ≤ k → N - i ≤ k' → NR kids k b = NR kids k' b
 | 0, k', i, b, h0, hb, h1, h2 => by
  have : b = [] := by
   cases b with
   | nil => rfl
   | cons x b => have := hb x (S9 ..); omega
  subst this
  cases k' <;> simp [NR]
 | k + 1, 0, i, b, h0, hb, h1, h2 => by
  have : b = [] := by
   cases b with
   | nil => rfl
   | cons x b => have := hb x (S9 ..); omega
  subst this
  simp [NR]
 | k + 1, k' + 1, i, b, h0, hb, h1, h2 => by
  rw [NR, NR]
  refine Cw fun n hn => ?_
  have h3 := hb n hn
  have h4 := hd n (by omega) h3.2
  rw [Em hd k k' (by omega) h4.1 (by omega) (by omega), Em hd k k' (by omega) h4.2 (by omega) (by omega)]
def ord (N : Int) (kids : Int → List Int × List Int) (b : List Int) : List Int := NR kids N.toNat b
theorem FL {N : Int} {kids : Int → List Int × List Int} : ord N kids [] = [] := by
 unfold ord; cases N.toNat <;> simp [NR]
theorem Ek {N : Int} {kids : Int → List Int × List Int} (hd : Bm N kids) {n : Int} {b : List Int} (hb : inB N 0 (n :: b)) : ord N kids (n :: b) = n :: (ord N kids (kids n).1 ++ ord N kids (kids n).2) ++ ord N kids b := by
 have h1 := hb n (S9 ..)
 have h2 := hd n h1.1 h1.2
 have h0 : inB N 0 b := fun x hx => hb x (TC _ hx)
 have up : ∀ {c : List Int}, inB N (n + 1) c → NR kids N.toNat c = ord N kids c := fun h => rfl
 obtain ⟨k, hk⟩ : ∃ k, N.toNat = k + 1 := ⟨N.toNat - 1, by omega⟩
 unfold ord;rw [hk, NR, S8]
 congr 1
 ·rw [Em hd k (k + 1) (by omega) h2.1 (by omega) (by omega), Em hd k (k + 1) (by omega) h2.2 (by omega) (by omega)]
theorem Ba {N i j : Int} {b : List Int} (h : inB N i b) (hj : j ≤ i) : inB N j b := fun x hx => by have := h x hx; omega
theorem IG {N : Int} {kids : Int → List Int × List Int} (hd : Bm N kids) {p : List Int → List Int → Prop} (h0 : p [] [])
  (h1 : ∀ n b, 0 ≤ n → n < N → inB N 0 b → p (kids n).1 (ord N kids (kids n).1) → p (kids n).2 (ord N kids (kids n).2) → p b (ord N kids b) → p (n :: b) (n :: (ord N kids (kids n).1 ++ ord N kids (kids n).2) ++ ord N kids b)) :
  ∀ (k : Nat) (i : Int) (b : List Int), 0 ≤ i → N - i ≤ k → inB N i b → p b (ord N kids b)
 | 0, i, b, hi, hk, hb => by
  have : b = [] := by
   cases b with
   | nil => rfl
   | cons x b => have := hb x (S9 ..); omega
  subst this;rw [FL]; exact h0
 | k + 1, i, [], hi, hk, hb => by rw [FL]; exact h0
 | k + 1, i, n :: b, hi, hk, hb => by
  have h2 := hb n (S9 ..)
  have h3 := hd n (by omega) h2.2
  have hb' : inB N i b := fun x hx => hb x (TC _ hx)
  rw [Ek hd (Ba hb hi)];exact h1 n b (by omega) h2.2 (Ba hb' hi) (IG hd h0 h1 k (n + 1) _ (by omega) (by omega) h3.1) (IG hd h0 h1 k (n + 1) _ (by omega) (by omega) h3.2) (IG hd h0 h1 (k + 1) i b hi hk hb')
termination_by k _ b => (k, b.length)
theorem Ej {N : Int} {kids : Int → List Int × List Int} (hd : Bm N kids) {p : List Int → List Int → Prop} (h0 : p [] [])
  (h1 : ∀ n b, 0 ≤ n → n < N → inB N 0 b → p (kids n).1 (ord N kids (kids n).1) → p (kids n).2 (ord N kids (kids n).2) → p b (ord N kids b) → p (n :: b) (n :: (ord N kids (kids n).1 ++ ord N kids (kids n).2) ++ ord N kids b))
  {b : List Int} (hb : inB N 0 b) : p b (ord N kids b) := IG hd h0 h1 N.toNat 0 b (by omega) (by omega) hb
def It (kids : Int → List Int × List Int) (m : Int) : List Int := (kids m).1 ++ (kids m).2
theorem Ei {N : Int} {kids : Int → List Int × List Int} (hd : Bm N kids) {b : List Int} (hb : inB N 0 b) : inB N 0 (ord N kids b) :=
 Ej hd (p := fun _ o => inB N 0 o) (fun x hx => by cases hx) (fun n b h1 h2 _ i1 i2 i3 x hx => by
  simp only [TZ, Sw, So] at hx
  rcases hx with rfl | (hx | hx) | hx
  ·exact ⟨h1, h2⟩
  ·exact i1 x hx
  ·exact i2 x hx
  ·exact i3 x hx) hb
theorem Gb {N : Int} {kids : Int → List Int × List Int} (hd : Bm N kids) {b : List Int} (hb : inB N 0 b) (x : Int) : (ord N kids b).count x = b.count x + ((ord N kids b).flatMap (It kids)).count x :=
 Ej hd (p := fun b o => o.count x = b.count x + (o.flatMap (It kids)).count x) rfl (fun n b h1 h2 _ i1 i2 i3 => by
  simp only [TZ, S8, Tn, List.count_cons, List.count_append, It] at *
  omega) hb
theorem Kt {N : Int} {kids : Int → List Int × List Int} (hd : Bm N kids) {b : List Int} (hb : inB N 0 b) : b.Sublist (ord N kids b) :=
 Ej hd (p := fun b o => b.Sublist o) (List.Sublist.refl _) (fun n b h1 h2 _ i1 i2 i3 => by
  rw [TZ]
  exact (i3.trans (List.sublist_append_right _ _)).cons_cons n) hb
theorem QW {N : Int} {kids : Int → List Int × List Int} (hd : Bm N kids) {b : List Int} (hb : inB N 0 b) (m : Int) (hm : m ∈ ord N kids b) : (kids m).1.Sublist (ord N kids b) ∧ (kids m).2.Sublist (ord N kids b) :=
 Ej hd (p := fun b o => m ∈ o → (kids m).1.Sublist o ∧ (kids m).2.Sublist o) (fun h => by cases h) (fun n b h1 h2 _ i1 i2 i3 hm => by
  have hk := hd n h1 h2
  simp only [TZ, Sw, So] at hm ⊢
  have s1 : (ord N kids (kids n).1).Sublist (n :: ((ord N kids (kids n).1 ++ ord N kids (kids n).2) ++ ord N kids b)) := ((List.sublist_append_left _ _).trans (List.sublist_append_left _ _)).cons n
  have s2 : (ord N kids (kids n).2).Sublist (n :: ((ord N kids (kids n).1 ++ ord N kids (kids n).2) ++ ord N kids b)) := ((List.sublist_append_right _ _).trans (List.sublist_append_left _ _)).cons n
  have s3 : (ord N kids b).Sublist (n :: ((ord N kids (kids n).1 ++ ord N kids (kids n).2) ++ ord N kids b)) := (List.sublist_append_right _ _).cons n
  rcases hm with rfl | (hm | hm) | hm
  ·exact ⟨(Kt hd (Ba hk.1 (by omega))).trans s1, (Kt hd (Ba hk.2 (by omega))).trans s2⟩
  ·have := i1 hm; exact ⟨this.1.trans s1, this.2.trans s1⟩
  ·have := i2 hm; exact ⟨this.1.trans s2, this.2.trans s2⟩
  ·have := i3 hm; exact ⟨this.1.trans s3, this.2.trans s3⟩) hb hm
def Bs (N : Nat) : List Int := (List.range N).map fun (k : Nat) => (k : Int)
theorem mem_upto {N : Nat} {x : Int} : x ∈ Bs N ↔ 0 ≤ x ∧ x < N := by
 unfold Bs;rw [TE]
 constructor
 ·rintro ⟨k, hk, rfl⟩; have := TP.1 hk; omega
 ·intro h; exact ⟨x.toNat, TP.2 (by omega), by omega⟩
theorem GD (N : Nat) : (Bs N).Pairwise (· < ·) := by
 unfold Bs;rw [List.pairwise_map];exact List.Pairwise.imp (fun h => by omega) List.pairwise_lt_range
theorem Dv {N : Nat} {x : Int} (h : 0 ≤ x) (h' : x < N) : (Bs N).count x = 1 := by
 have hn : (Bs N).Nodup := (GD N).imp fun h e => by omega
 have h2 := List.nodup_iff_count.1 hn x
 have h3 := List.count_pos_iff.2 (mem_upto.2 ⟨h, h'⟩)
 omega
def NT (N : Nat) (kids : Int → List Int × List Int) (body : List Int) : List Int := body ++ (Bs N).flatMap (It kids)
theorem EE {N : Nat} {kids : Int → List Int × List Int} (hd : Bm N kids) {body : List Int} (hb : inB N 0 body) (ho : ord N kids body = Bs N) :
  (∀ x : Int, 0 ≤ x → x < N → (NT N kids body).count x = 1) ∧ body.Pairwise (· < ·) ∧ ∀ m : Int, 0 ≤ m → m < N → (kids m).1.Pairwise (· < ·) ∧ (kids m).2.Pairwise (· < ·) := by
 refine ⟨fun x h0 h1 => ?_, (ho ▸ GD N : (ord N kids body).Pairwise (· < ·)).sublist (Kt hd hb), fun m h0 h1 => ?_⟩
 ·have := Gb hd hb x
  rw [ho, Dv h0 h1] at this;unfold NT;rw [List.count_append];omega
 ·have := QW hd hb m (ho ▸ mem_upto.2 ⟨h0, h1⟩)
  rw [ho] at this;exact ⟨(GD N).sublist this.1, (GD N).sublist this.2⟩
theorem Cy {f : Int → List Int} {x : Int} : ∀ {l : List Int}, (l.flatMap f).count x = ((l.filter fun m => decide (x ∈ f m)).flatMap f).count x
 | [] => rfl
 | m :: l => by
  rw [S8, List.count_append, Cy (l := l), TV];split
  ·rw [S8, List.count_append]
  ·rename_i h
   have : x ∉ f m := by simpa using h
   rw [TY this]; omega
theorem Lm {N : Nat} {kids : Int → List Int × List Int} (hd : Bm N kids) {body : List Int} (hb : inB N 0 body) (ha : ∀ x : Int, 0 ≤ x → x < N → (NT N kids body).count x = 1) :
  ∀ (k : Nat) (x : Int), x < k → 0 ≤ x → x < N → (ord N kids body).count x = 1
 | 0, x, h, h0, _ => by omega
 | k + 1, x, h, h0, h1 => by
  have h2 := Gb hd hb x
  have h3 := ha x h0 h1
  unfold NT at h3;rw [List.count_append] at h3
  have hp : ((ord N kids body).filter fun m => decide (x ∈ It kids m)).Perm ((Bs N).filter fun m => decide (x ∈ It kids m)) := by
   rw [List.perm_iff_count];intro m
   by_cases hx : x ∈ It kids m
   ·rw [List.count_filter (by simpa using hx), List.count_filter (by simpa using hx)]
    by_cases hm : 0 ≤ m ∧ m < N
    ·have hk := hd m hm.1 hm.2
     have hlt : m < x := by
      rcases So.1 hx with hx | hx
      ·have := hk.1 x hx; omega
      ·have := hk.2 x hx; omega
     rw [Lm hd hb ha k m (by omega) hm.1 hm.2, Dv hm.1 hm.2]
    ·rw [TY fun h => hm (by have := Ei hd hb m h; omega), TY fun h => hm (mem_upto.1 h)]
   ·rw [TY, TY]
    ·intro h; have := (List.mem_filter.1 h).2; exact hx (by simpa using this)
    ·intro h; have := (List.mem_filter.1 h).2; exact hx (by simpa using this)
  have h4 : ((ord N kids body).flatMap (It kids)).count x = ((Bs N).flatMap (It kids)).count x := by
   rw [Cy, Cy (l := Bs N)];exact (hp.flatMap_right _).count_eq x
  omega
theorem OL {N : Nat} {kids : Int → List Int × List Int} (hd : Bm N kids) {body : List Int} (hb : inB N 0 body) (ha : ∀ x : Int, 0 ≤ x → x < N → (NT N kids body).count x = 1) : (ord N kids body).Perm (Bs N) := by
 rw [List.perm_iff_count];intro x
 by_cases hx : 0 ≤ x ∧ x < N
 ·rw [Lm hd hb ha N x hx.2 hx.1 hx.2, Dv hx.1 hx.2]
 ·rw [TY fun h => hx (by have := Ei hd hb x h; omega), TY fun h => hx (mem_upto.1 h)]
open Go.Eng
def Ad : List Stmt → Int → List Int
 | [], _ => []
 | s :: l, k => if s.kind = 3 then k :: Ad l (k + 1) else Ad l (k + 1)
theorem ES {l : List Stmt} {k : Int} (h0 : 0 ≤ k) (h1 : k < l.length) : Ad (l.drop k.toNat) k = if (l[k.toNat]'(by omega)).kind = 3 then k :: Ad (l.drop (k + 1).toNat) (k + 1) else Ad (l.drop (k + 1).toNat) (k + 1) := by
 rw [Cx h0 h1, Ad]
theorem Gi (f : Func) (hf : f.ok 1048576) : Fun Try.prog 81 [.t f.tt] (A2 [.own (T.ints (Ad f.stmts 0))]) := by
 have hl : f.stmts.length ≤ 1048576 := hf.2.1.1
 refine Fun.begin tys Try.func81 Z Z (N := 23) [(0, .t f.tt)] Z Z (fun w0 G F0 => ?_);refine sG (AV Z Z (AA Z) Z Z (nZ Z (eZ Z (nA (eZ Z (WO_le (Le.nilOwn (u := 3) 1 Z) (WO_le (Le.adoptE (u := 3) 3 Z Z) (nZ Z (nB (sQ (sG (eK 2 Z (evE ?_)))))))))))));refine eZ Z (nB (AD ?_));refine lK (α := Int × Nat × List T) [7, 8] [] (fun x => [(9, .t (.int (x.1))), (3, .sl 3 0 (x.2.1))]) (fun x => [(3, .L 1 (x.2.2))]) (fun x => 0 ≤ (x.1) ∧ (x.1) ≤ f.stmts.length ∧ (x.2.1) = (x.2.2).length ∧ (x.2.2).length ≤ (x.1) ∧ ∃ done : List Int, (x.2.2) = done.map T.int ∧ Ad f.stmts 0 = done ++ Ad (f.stmts.drop (x.1).toNat) (x.1)) (fun x => Int.toNat (f.stmts.length - (x.1))) (0, 0, []) ?_ (fun x hx => ?_)
 ·exact ⟨by omega, by omega, rfl, Tr 0, [], rfl, rfl⟩
 obtain ⟨k, m, xs⟩ := x
 obtain ⟨hk0, hk1, hm, hx, done, hd, he⟩ := hx
 dsimp only at hk0 hk1 hm hx hd he ⊢;refine nY Z (sG (eZ Z (nB (sQ ?_))));refine AB Z (fun h1 => ?_) (fun h1 => ?_)
 ·
  simp only [HS] at h1;refine AC (tN (sQ (AD (sG (eZ Z ?_)))));refine iY (k := ?_);refine eZ Z ?_
  try refine WO_le (Le.freeze (u := 13) rfl) ?_
  refine nZ Z (AF tys Z Z (AA Z) Z Z Z (nZ Z (eZ Z (sT Z (nZ Z (nB (sQ (kY [3,4,5,7,8,9,10,11,12,13] Z (rG (eK 3 Z (nB ?_)))))))))));refine AB Z (fun h2 => ?_) (fun h2 => ?_)
  ·
   simp only [HS] at h2;refine rG (eK 2 Z (bZ [T.int k] ?_));refine nZ Z (AE tys Z Z (AA Z) Z Z Z Z Z (.own Z (by first | omega | (simp only [Sm]; omega))) Z (.own Z (by first | decide | omega)) (by decide) (by simp only [Sq, Sp, List.length_nil]; omega) (by decide) Z ?_);refine nZ Z (eZ Z (oN (bN (tN (kY [3,4,5,7,8,9,10,11,12,13,14,15,16,17,18,19,20] Z (rG (evI ?_)))))));refine eZ Z (oN ?_);refine lQ (_, _, _) ?_ ?_
   ·dsimp only
    rw [ES hk0 h1] at he;subst hm
    first
    | (refine ⟨by omega, by omega, by simp, by simp; omega, done ++ [k], by rw [Sy, hd]; simp, ?_⟩; rw [he, if_pos (by assumption)]; simp; done)
   ·(show Int.toNat _ < Int.toNat _); omega
  simp only [HS] at h2;refine AC (bN (tN (rG (evI ?_))));refine eZ Z (oN ?_);refine lQ (_, _, _) ?_ ?_
  ·dsimp only
   rw [ES hk0 h1] at he;subst hm
   first
   | (refine ⟨by omega, by omega, rfl, by omega, done, hd, ?_⟩; rw [he, if_neg (by assumption)]; done)
  ·(show Int.toNat _ < Int.toNat _); omega
 simp only [HS] at h1;refine AN (tE (AJ (AI (tN (sG (eK 2 Z (nB (AQ (Le.gather (u := 2) (id := 3) Z Z (by omega)) (rT (eR ?_))))))))))
 ·(rw [he, BC h1, Ad, S3, hm, Sy, hd]; rfl)
theorem Kj (f : Func) (hf : f.ok 1048576) : Fun Try.prog 98 [.t f.tt] (A2 [.own (T.ints (Ad f.stmts 0))]) := by
 have hl : f.stmts.length ≤ 1048576 := hf.2.1.1
 refine Fun.begin tys Try.func98 Z Z (N := 23) [(0, .t f.tt)] Z Z (fun w0 G F0 => ?_);refine sG (AV Z Z (AA Z) Z Z (nZ Z (eZ Z (nA (eZ Z (WO_le (Le.nilOwn (u := 3) 1 Z) (WO_le (Le.adoptE (u := 3) 3 Z Z) (nZ Z (nB (sQ (sG (eK 2 Z (evE ?_)))))))))))));refine eZ Z (nB (AD ?_));refine lK (α := Int × Nat × List T) [7, 8] [] (fun x => [(9, .t (.int (x.1))), (3, .sl 3 0 (x.2.1))]) (fun x => [(3, .L 1 (x.2.2))]) (fun x => 0 ≤ (x.1) ∧ (x.1) ≤ f.stmts.length ∧ (x.2.1) = (x.2.2).length ∧ (x.2.2).length ≤ (x.1) ∧ ∃ done : List Int, (x.2.2) = done.map T.int ∧ Ad f.stmts 0 = done ++ Ad (f.stmts.drop (x.1).toNat) (x.1)) (fun x => Int.toNat (f.stmts.length - (x.1))) (0, 0, []) ?_ (fun x hx => ?_)
 ·exact ⟨by omega, by omega, rfl, Tr 0, [], rfl, rfl⟩
 obtain ⟨k, m, xs⟩ := x
 obtain ⟨hk0, hk1, hm, hx, done, hd, he⟩ := hx
 dsimp only at hk0 hk1 hm hx hd he ⊢;refine nY Z (sG (eZ Z (nB (sQ ?_))));refine AB Z (fun h1 => ?_) (fun h1 => ?_)
 ·
  simp only [HS] at h1;refine AC (tN (sQ (AD (sG (eZ Z ?_)))));refine iY (k := ?_);refine eZ Z ?_
  try refine WO_le (Le.freeze (u := 13) rfl) ?_
  refine nZ Z (AF tys Z Z (AA Z) Z Z Z (nZ Z (eZ Z (sT Z (nZ Z (nB (sQ (kY [3,4,5,7,8,9,10,11,12,13] Z (rG (eK 3 Z (nB ?_)))))))))));refine AB Z (fun h2 => ?_) (fun h2 => ?_)
  ·
   simp only [HS] at h2;refine rG (eK 2 Z (bZ [T.int k] ?_));refine nZ Z (AE tys Z Z (AA Z) Z Z Z Z Z (.own Z (by first | omega | (simp only [Sm]; omega))) Z (.own Z (by first | decide | omega)) (by decide) (by simp only [Sq, Sp, List.length_nil]; omega) (by decide) Z ?_);refine nZ Z (eZ Z (oN (bN (tN (kY [3,4,5,7,8,9,10,11,12,13,14,15,16,17,18,19,20] Z (rG (evI ?_)))))));refine eZ Z (oN ?_);refine lQ (_, _, _) ?_ ?_
   ·dsimp only
    rw [ES hk0 h1] at he;subst hm
    first
    | (refine ⟨by omega, by omega, by simp, by simp; omega, done ++ [k], by rw [Sy, hd]; simp, ?_⟩; rw [he, if_pos (by assumption)]; simp; done)
   ·(show Int.toNat _ < Int.toNat _); omega
  simp only [HS] at h2;refine AC (bN (tN (rG (evI ?_))));refine eZ Z (oN ?_);refine lQ (_, _, _) ?_ ?_
  ·dsimp only
   rw [ES hk0 h1] at he;subst hm
   first
   | (refine ⟨by omega, by omega, rfl, by omega, done, hd, ?_⟩; rw [he, if_neg (by assumption)]; done)
  ·(show Int.toNat _ < Int.toNat _); omega
 simp only [HS] at h1;refine AN (tE (AJ (AI (tN (sG (eK 2 Z (nB (AQ (Le.gather (u := 2) (id := 3) Z Z (by omega)) (rT (eR ?_))))))))))
 ·(rw [he, BC h1, Ad, S3, hm, Sy, hd]; rfl)
theorem Fd (p : Prog) (hp : p.ok 1048576) : Fun Try.prog 79 [.t p.tt] (A2 [.own (T.ints (p.funcs.map (·.params)))]) := by
 have hl : p.funcs.length ≤ 1048576 := hp.1.1
 refine Fun.begin tys Try.func79 Z Z (N := 20) [(0, .t p.tt)] Z Z (fun w0 G F0 => ?_);refine sG (AV Z Z (AA Z) Z Z (nZ Z (eZ Z (nA (eZ Z (WO_le (Le.nilOwn (u := 3) 1 Z) (WO_le (Le.adoptE (u := 3) 3 Z Z) (nZ Z (nB (sQ (sG (eK 2 Z (evE ?_)))))))))))));refine eZ Z (nB (AD ?_));refine lK (α := Int × Nat × List T) [7, 8] [] (fun x => [(9, .t (.int (x.1))), (3, .sl 3 0 (x.2.1))]) (fun x => [(3, .L 1 (x.2.2))]) (fun x => 0 ≤ (x.1) ∧ (x.1) ≤ p.funcs.length ∧ (x.2.1) = (x.2.2).length ∧ (x.2.2).length ≤ (x.1) ∧ (x.2.2) = ((p.funcs.map (·.params)).take (x.1).toNat).map T.int) (fun x => Int.toNat (p.funcs.length - (x.1))) (0, 0, []) ?_ (fun x hx => ?_)
 ·exact ⟨by omega, by omega, rfl, Tr 0, rfl⟩
 obtain ⟨k, m, xs⟩ := x
 obtain ⟨hk0, hk1, hm, hx, hd⟩ := hx
 dsimp only at hk0 hk1 hm hx hd ⊢;refine nY Z (sG (eZ Z (nB (sQ ?_))));refine AB Z (fun h1 => ?_) (fun h1 => ?_)
 ·
  simp only [HS] at h1;refine AC (tN (sQ (AD (sG ?_))));refine iY (k := ?_);refine eZ Z ?_
  try refine WO_le (Le.freeze (u := 12) rfl) ?_
  refine nZ Z (AF tys Z Z (AA Z) Z Z Z (nZ Z (sT Z (nZ Z (nB (rG (eK 3 Z (bZ [T.int (p.funcs[k.toNat]'(by omega)).params] ?_))))))));refine nZ Z (kZ [3,5,7,8,9,10,11,12,13,14,15,16] Z (AE tys Z Z (AA Z) Z Z Z Z Z (.own Z (by first | omega | (simp only [Sm]; omega))) Z (.own Z (by first | decide | omega)) (by decide) (by simp only [Sq, Sp, List.length_nil]; omega) (by decide) Z ?_));refine nZ Z (eZ Z (oN (bN (tN (rG (evI ?_))))));refine eZ Z (oN ?_);refine lQ (_, _, _) ?_ ?_
  ·dsimp only
   subst hm;refine ⟨by omega, by omega, by simp, by simp; omega, ?_⟩;rw [Sy, hd, BO hk0 (by simp; omega), S5]; simp
  ·(show Int.toNat _ < Int.toNat _); omega
 simp only [HS] at h1;refine AN (tE (AJ (AI (tN (sG (eK 2 Z (nB (AQ (Le.gather (u := 2) (id := 3) Z Z (by omega)) (rT (eR ?_))))))))))
 ·(rw [hm, Sy, hd, A5 (by simp; omega)]; rfl)
theorem JW (p : Prog) (hp : p.ok 1048576) : Fun Try.prog 66 [.t p.tt] (A2 [.own (T.ints (p.funcs.map (·.params)))]) := by
 have hl : p.funcs.length ≤ 1048576 := hp.1.1
 refine Fun.begin tys Try.func66 Z Z (N := 25) [(0, .t p.tt)] Z Z (fun w0 G F0 => ?_);refine sG (AV Z Z (AA Z) Z Z (nZ Z (eZ Z (nA (eK 2 Z (evE ?_))))));refine DS tys (.v (.int .i64 0)) _ Z Z (AA Z) Z Z Z Z Z (by repeat (first | exact AbsL.nil' | refine AbsL.v' ?_ | refine AbsL.none' ?_)) Z (by omega) (by decide) ?_;refine nZ Z (eZ Z (nB (sQ (sQ (kY [1,2,3] Z (rG (eK 2 Z (evE ?_))))))));refine eZ Z (nB (AD ?_));refine lK (α := Int × List T) [11, 12] [] (fun x => [(13, .t (.int (x.1))), (3, .sl 9 0 p.funcs.length)]) (fun x => [(9, .L 1 (x.2))]) (fun x => 0 ≤ (x.1) ∧ (x.1) ≤ p.funcs.length ∧ (x.2).length = p.funcs.length ∧ (x.2).take (x.1).toNat = ((p.funcs.map (·.params)).take (x.1).toNat).map T.int) (fun x => Int.toNat (p.funcs.length - (x.1))) (0, List.replicate p.funcs.length (T.int 0)) ?_ (fun x hx => ?_)
 ·exact ⟨by omega, by omega, by simp, by simp⟩
 obtain ⟨k, xs⟩ := x
 obtain ⟨hk0, hk1, hm, hd⟩ := hx
 dsimp only at hk0 hk1 hm hd ⊢;refine nY Z (sG (eZ Z (nB (sQ ?_))));refine AB Z (fun h1 => ?_) (fun h1 => ?_)
 ·
  simp only [HS] at h1;refine AC (tN (sQ (AD (sG (eZ Z ?_)))));refine iY (k := ?_);refine eZ Z ?_
  try refine WO_le (Le.freeze (u := 17) rfl) ?_
  refine nZ Z (AF tys Z Z (AA Z) Z Z Z (nZ Z (eZ Z (sT Z (nZ Z (nB (kY [3,4,5,11,12,13,14,15,16,17] Z (rG (eK 4 Z (Ae tys Z Z (AA Z) Z Z Z Z Z Z Z Z (by omega) (by omega) ?_))))))))));refine BD tys (.v (.int .i64 _)) Z Z Z Z Z Z (by first | exact S7 _ | rfl) (by omega) Z (by repeat (first | exact AbsL.nil' | refine AbsL.v' ?_ | refine AbsL.own' ?_)) Z Z Z ?_;refine nZ Z (oN (bN (tN (rG (evI ?_)))));refine eZ Z (oN ?_);refine lQ (_, _) ?_ ?_
  ·dsimp only
   have q := Oy (g := T.int) (l := p.funcs.map (·.params)) hk0 (by simp; omega) (by simpa using hm) hd
   exact ⟨by omega, by omega, by simpa using hm, by simpa using q⟩
  ·(show Int.toNat _ < Int.toNat _); omega
 simp only [HS] at h1;refine AN (tE (AJ (AI (tN (sG (eK 2 Z (nB (AQ (Le.gather (u := 2) (id := 9) Z Z (by omega)) (rT (eR ?_))))))))))
 ·(rw [Sn (by omega), Qz (l := p.funcs.map (·.params)) (by simp; omega) (by simpa using hm) hd]; rfl)
open Go.Eng
def kids (l : List Stmt) (m : Int) : List Int × List Int := match l[m.toNat]? with
 | some s => (s.thn, s.els)
 | none => ([], [])
theorem kids_at {l : List Stmt} {m : Int} (h : m.toNat < l.length) : kids l m = ((l[m.toNat]).thn, (l[m.toNat]).els) := by
 unfold kids; rw [List.getElem?_eq_getElem h]
def M2 (N i : Int) (b : List Int) : Bool := b.all fun x => decide (i ≤ x ∧ x < N)
theorem inBB_iff {N i : Int} {b : List Int} : M2 N i b = true ↔ inB N i b := by
 unfold M2 inB; rw [Sv]; simp
def MH (l : List Stmt) : Bool := (Bs l.length).all fun m => M2 l.length (m + 1) (kids l m).1 && M2 l.length (m + 1) (kids l m).2
theorem M6 {l : List Stmt} : MH l = true ↔ Bm l.length (kids l) := by
 unfold MH Bm;rw [Sv]
 constructor
 ·intro h m h0 h1
  have := h m (mem_upto.2 ⟨h0, h1⟩)
  rw [Sl, inBB_iff, inBB_iff] at this;exact this
 ·intro h m hm
  have h2 := mem_upto.1 hm
  rw [Sl, inBB_iff, inBB_iff];exact h m h2.1 h2.2
def Bt (l : List Stmt) (body : List Int) : Bool := MH l && (M2 l.length 0 body && (ord l.length (kids l) body == Bs l.length))
theorem shapeB_iff {l : List Stmt} {body : List Int} : Bt l body = true ↔ Bm l.length (kids l) ∧ inB l.length 0 body ∧ ord l.length (kids l) body = Bs l.length := by
 unfold Bt; rw [Sl, Sl, M6, inBB_iff, beq_iff_eq]
def E1 : List Stmt → Int → List (Int × List Int)
 | [], _ => []
 | s :: l, k => (k, s.thn) :: (k, s.els) :: E1 l (k + 1)
def DH (l : List Stmt) (body : List Int) : List (Int × List Int) := (-1, body) :: E1 l 0
theorem KE : ∀ (l : List Stmt) (k : Int), (E1 l k).length = 2 * l.length
 | [], _ => rfl
 | s :: l, k => by rw [E1, Sp, Sp, KE l, Sp]; omega
theorem blkGo_mem : ∀ {l : List Stmt} {k : Int} {p : Int × List Int}, p ∈ E1 l k ↔ ∃ j : Nat, ∃ h : j < l.length, p = (k + j, (l[j]).thn) ∨ p = (k + j, (l[j]).els)
  | [], k, p => by simp [E1]
  | s :: l, k, p => by
    rw [E1, Sw, Sw, blkGo_mem]
    constructor
    · rintro (h | h | ⟨j, hj, h⟩)
      · exact ⟨0, by simp, .inl (by simpa using h)⟩
      · exact ⟨0, by simp, .inr (by simpa using h)⟩
      · refine ⟨j + 1, by simp; omega, ?_⟩
        rcases h with h | h
        · exact .inl (by rw [h]; simp; omega)
        · exact .inr (by rw [h]; simp; omega)
    · rintro ⟨j, hj, h⟩
      cases j with
      | zero => rcases h with h | h
                · exact .inl (by simpa using h)
                · exact .inr (.inl (by simpa using h))
      | succ j =>
        refine .inr (.inr ⟨j, by simpa using hj, ?_⟩)
        rcases h with h | h
        · exact .inl (by rw [h]; simp; omega)
        · exact .inr (by rw [h]; simp; omega)
def JI (l : List Int) (lo hi : Int) : Prop := (∀ x, x ∈ l → lo ≤ x ∧ x ≤ hi) ∧ l.Pairwise (· < ·)
instance (l : List Int) (lo hi : Int) : Decidable (JI l lo hi) := by unfold JI; infer_instance
def HG (l : List Int) (lo hi : Int) : Bool := decide (JI l lo hi)
def cntF (l : List Int) (x : Int) : Int := l.count x
def OO (N : Nat) (l : List Int) : Bool := (Bs N).all fun x => decide (cntF l x = 1)
def SV (N : Int) (p : Int × List Int) : Bool := HG p.2 0 (N - 1) && p.2.all fun n => decide (p.1 < n)
def DR (l : List Stmt) (body : List Int) : Bool := (DH l body).all (SV l.length) && OO l.length ((DH l body).map (·.2)).flatten
theorem NV (N : Nat) : Bs (N + 1) = 0 :: (Bs N).map (· + 1) := by
 unfold Bs;rw [List.range_succ_eq_map, TA, List.map_map, List.map_map];rfl
theorem Ig : ∀ (l : List Stmt) (k : Int), ((E1 l k).map (·.2)).flatten = (Bs l.length).flatMap (It (kids l))
 | [], _ => rfl
 | s :: l, k => by
  rw [E1, TA, TA, List.flatten_cons, List.flatten_cons, Ig l, Sp, NV, S8, List.flatMap_map];rw [show It (kids (s :: l)) 0 = s.thn ++ s.els from rfl, S4]
  congr 2
  refine Cw fun x hx => ?_
  have h := mem_upto.1 hx
  unfold It kids;rw [show (x + 1).toNat = x.toNat + 1 from by omega];rfl
theorem PJ (l : List Stmt) (body : List Int) : ((DH l body).map (·.2)).flatten = NT l.length (kids l) body := by
 rw [DH, TA, List.flatten_cons, Ig, NT]
theorem ON {N : Nat} {l : List Int} : OO N l = true ↔ ∀ x : Int, 0 ≤ x → x < N → l.count x = 1 := by
 unfold OO cntF;rw [Sv]
 constructor
 ·intro h x h0 h1; have := h x (mem_upto.2 ⟨h0, h1⟩); simp at this; omega
 ·intro h x hx; have := h x (mem_upto.1 hx).1 (mem_upto.1 hx).2; simp; omega
theorem blocksB_iff {l : List Stmt} {body : List Int} : DR l body = true ↔ inB l.length 0 body ∧ body.Pairwise (· < ·) ∧ Bm l.length (kids l) ∧ (∀ m : Int, 0 ≤ m → m < l.length → (kids l m).1.Pairwise (· < ·) ∧ (kids l m).2.Pairwise (· < ·)) ∧ ∀ x : Int, 0 ≤ x → x < l.length → (NT l.length (kids l) body).count x = 1 := by
 unfold DR;rw [Sl, ON, PJ, DH, TO, Sl, Sv]
 have hb : ∀ (o : Int) (b : List Int), SV l.length (o, b) = true ↔ inB l.length 0 b ∧ b.Pairwise (· < ·) ∧ ∀ x, x ∈ b → o < x := by
  intro o b;unfold SV HG;rw [Sl, decide_eq_true_iff, Sv];unfold JI inB;simp only [decide_eq_true_eq]
  constructor
  ·rintro ⟨⟨h1, h2⟩, h3⟩; exact ⟨fun x hx => by have := h1 x hx; omega, h2, h3⟩
  ·rintro ⟨h1, h2, h3⟩; exact ⟨⟨fun x hx => by have := h1 x hx; omega, h2⟩, h3⟩
 rw [hb]
 constructor
 ·rintro ⟨⟨⟨h1, h2, _⟩, h4⟩, h5⟩
  have hk : ∀ m : Int, 0 ≤ m → m < l.length → (inB l.length (m + 1) (kids l m).1 ∧ inB l.length (m + 1) (kids l m).2) ∧ (kids l m).1.Pairwise (· < ·) ∧ (kids l m).2.Pairwise (· < ·) := by
   intro m m0 m1
   have q1 := (hb _ _).1 (h4 (m, (l[m.toNat]'(by omega)).thn) (blkGo_mem.2 ⟨m.toNat, by omega, .inl (by congr 1; omega)⟩))
   have q2 := (hb _ _).1 (h4 (m, (l[m.toNat]'(by omega)).els) (blkGo_mem.2 ⟨m.toNat, by omega, .inr (by congr 1; omega)⟩))
   rw [kids_at (by omega)];exact ⟨⟨fun x hx => by have := q1.1 x hx; have := q1.2.2 x hx; omega, fun x hx => by have := q2.1 x hx; have := q2.2.2 x hx; omega⟩, q1.2.1, q2.2.1⟩
  exact ⟨h1, h2, fun m m0 m1 => (hk m m0 m1).1, fun m m0 m1 => (hk m m0 m1).2, h5⟩
 ·rintro ⟨h1, h2, h3, h4, h5⟩
  refine ⟨⟨⟨h1, h2, fun x hx => by have := h1 x hx; omega⟩, fun p hp => ?_⟩, h5⟩
  obtain ⟨j, hj, hp⟩ := blkGo_mem.1 hp
  have q3 := h3 j (by omega) (by omega)
  have q4 := h4 j (by omega) (by omega)
  rw [kids_at (by omega)] at q3 q4
  rcases hp with rfl | rfl
  ·refine (hb _ _).2 ⟨fun x hx => ?_, q4.1, fun x hx => ?_⟩
   ·have := q3.1 x hx; omega
   ·have := q3.1 x hx; omega
  ·refine (hb _ _).2 ⟨fun x hx => ?_, q4.2, fun x hx => ?_⟩
   ·have := q3.2 x hx; omega
   ·have := q3.2 x hx; omega
theorem Aw (N : Nat) : (Bs N).length = N := by unfold Bs; simp
theorem D5 {N k : Nat} (h : k < (Bs N).length) : (Bs N)[k] = k := by simp [Bs]
theorem shape_blocks {l : List Stmt} {body : List Int} : Bt l body = true ↔ DR l body = true ∧ ∀ (k : Nat) (h : k < (ord l.length (kids l) body).length), (ord l.length (kids l) body)[k] = (k : Int) := by
 rw [shapeB_iff, blocksB_iff]
 constructor
 ·rintro ⟨hd, hb, ho⟩
  have := EE hd hb ho
  refine ⟨⟨hb, this.2.1, hd, this.2.2, this.1⟩, fun k h => ?_⟩
  have h2 : k < (Bs l.length).length := by rw [← ho]; exact h
  rw [← D5 h2]
  congr 1
 ·rintro ⟨⟨hb, _, hd, _, ha⟩, ho⟩
  refine ⟨hd, hb, ?_⟩
  have hp := (OL hd hb ha).length_eq
  refine List.ext_getElem hp fun k h1 h2 => ?_
  rw [ho k h1, D5 h2]
theorem NB {l : List Stmt} {body : List Int} (h : DR l body = true) : (ord l.length (kids l) body).length = l.length := by
 have h := blocksB_iff.1 h
 rw [(OL h.2.2.1 h.1 h.2.2.2.2).length_eq, Aw]
def usesF : List Stmt → Nat
 | [] => 0
 | s :: l => s.thn.length + s.els.length + usesF l
theorem MU (l : List Stmt) : usesF l = ((Bs l.length).flatMap (It (kids l))).length := by
 rw [← Ig l 0];generalize (0 : Int) = k
 induction l generalizing k with
 | nil => rfl
 | cons s l ih =>
  rw [usesF, ih (k + 1), E1];simp only [TA, List.flatten_cons, Sm];omega
theorem PB (N : Nat) : ∀ {l : List Int}, (∀ x, x ∈ l → 0 ≤ x ∧ x < N) → (∀ x : Int, 0 ≤ x → x < N → l.count x = 1) → l.length = N := by
 intro l h1 h2
 have : l.Perm (Bs N) := by
  rw [List.perm_iff_count];intro x
  by_cases hx : 0 ≤ x ∧ x < N
  ·rw [h2 x hx.1 hx.2, Dv hx.1 hx.2]
  ·rw [TY fun h => hx (h1 x h), TY fun h => hx (mem_upto.1 h)]
 rw [this.length_eq, Aw]
theorem HZ {l : List Stmt} {body : List Int} (h : Bt l body = true) : body.length + usesF l = l.length := by
 have h := shapeB_iff.1 h
 have h2 := (EE h.1 h.2.1 h.2.2).1
 have := PB l.length (l := NT l.length (kids l) body) (fun x hx => by
  rcases So.1 hx with hx | hx
  ·exact h.2.1 x hx
  ·obtain ⟨m, hm, hx⟩ := TF.1 hx
   have hm := mem_upto.1 hm
   have hk := h.1 m hm.1 hm.2
   rcases So.1 hx with hx | hx
   ·have := hk.1 x hx; omega
   ·have := hk.2 x hx; omega) h2
 unfold NT at this;rw [Sm, ← MU] at this;exact this
theorem Di (l : List Stmt) {k : Nat} (h : k < l.length) : usesF (l.drop k) = (l[k]).thn.length + (l[k]).els.length + usesF (l.drop (k + 1)) := by
 rw [TX h, usesF]
theorem LP (l : List Stmt) : ∀ (n : Nat), usesF (l.drop n) ≤ usesF l := by
 induction l with
 | nil => intro n; simp
 | cons s l ih =>
  intro n
  cases n with
  | zero => exact S2 _
  | succ n => have := ih n; rw [List.drop_succ_cons, usesF]; omega
theorem El {l : List Stmt} (hd : Bm l.length (kids l)) : ∀ (k : Nat) (i : Nat) {b : List Int}, l.length - i ≤ k → inB l.length i b → (ord l.length (kids l) b).length ≤ b.length * 2 ^ usesF (l.drop i)
 | k, i, [], hk, hb => by rw [FL]; simp
 | 0, i, x :: b, hk, hb => by have := hb x (S9 ..); omega
 | k + 1, i, x :: b, hk, hb => by
  have hx := hb x (S9 ..)
  have hr := El hd (k + 1) i (b := b) hk fun y hy => hb y (TC _ hy)
  have hkd := hd x (by omega) hx.2
  rw [Ek hd (Ba hb (by omega))]
  have r1 := El hd k (x.toNat + 1) (b := (kids l x).1) (by omega) (by rw [show ((x.toNat + 1 : Nat) : Int) = x + 1 from by omega]; exact hkd.1)
  have r2 := El hd k (x.toNat + 1) (b := (kids l x).2) (by omega) (by rw [show ((x.toNat + 1 : Nat) : Int) = x + 1 from by omega]; exact hkd.2)
  have hu := Di l (k := x.toNat) (by omega)
  have hle : ∀ (n j : Nat), usesF (l.drop (j + n)) ≤ usesF (l.drop j) := by
   intro n
   induction n with
   | zero => intro j; simp
   | succ n ih =>
    intro j
    have h1 := ih (j + 1)
    rw [show j + 1 + n = j + (n + 1) from by omega] at h1
    by_cases hj : j < l.length
    ·have := Di l hj; omega
    ·rw [List.drop_of_length_le (by omega : l.length ≤ j + (n + 1))]; simp [usesF]
  have h3 := hle (x.toNat - i) i
  rw [show i + (x.toNat - i) = x.toNat from by omega] at h3;rw [kids_at (by omega)] at r1 r2 ⊢;dsimp only at r1 r2 ⊢;generalize (l[x.toNat]'(by omega)).thn = t1 at *;generalize (l[x.toNat]'(by omega)).els = t2 at *;generalize usesF (l.drop (x.toNat + 1)) = u at *;generalize usesF (l.drop x.toNat) = v at *;generalize usesF (l.drop i) = z at *;rw [Sm, Sp, Sm, Sp, Nat.succ_mul]
  have h4 : 1 + (t1.length * 2 ^ u + t2.length * 2 ^ u) ≤ 2 ^ z := by
   have h5 : 2 ^ v ≤ 2 ^ z := Nat.pow_le_pow_right (by omega) h3
   have h6 : 2 ^ v = 2 ^ (t1.length + t2.length) * 2 ^ u := by rw [hu, Nat.pow_add]
   have h7 : t1.length + t2.length + 1 ≤ 2 ^ (t1.length + t2.length) := Nat.lt_two_pow_self
   have h8 : (t1.length + t2.length + 1) * 2 ^ u ≤ 2 ^ (t1.length + t2.length) * 2 ^ u := Td _ h7
   have h9 : 1 ≤ 2 ^ u := Nat.one_le_two_pow
   rw [Nat.add_mul, Nat.add_mul] at h8;omega
  omega
theorem FM {l : List Stmt} (hd : Bm l.length (kids l)) {b : List Int} (hb : inB l.length 0 b) (h : b.length ≤ 16) (hn : usesF l ≤ 16) : (ord l.length (kids l) b).length ≤ 1048576 := by
 have := El hd l.length 0 (b := b) (by omega) hb
 rw [List.drop_zero] at this
 have h2 : 2 ^ usesF l ≤ 2 ^ 16 := Nat.pow_le_pow_right (by omega) (by omega)
 have h3 : b.length * 2 ^ usesF l ≤ 16 * 2 ^ 16 := Nat.mul_le_mul (by omega) h2
 omega
open Go.Eng
theorem JH {l : List Int} {lo hi k : Int} (h0 : 0 ≤ k) (h1 : k < l.length) (h : JI (l.take k.toNat) lo hi) (h2 : lo ≤ l[k.toNat]'(by omega) ∧ l[k.toNat]'(by omega) ≤ hi)
  (h3 : ∀ h : 0 < k, l[(k - 1).toNat]'(by omega) < l[k.toNat]'(by omega)) : JI (l.take (k + 1).toNat) lo hi := by
 rw [BO h0 h1];refine ⟨fun x hx => ?_, ?_⟩
 ·rcases So.1 hx with hx | hx
  ·exact h.1 x hx
  ·rw [S1.1 hx]; exact h2
 ·rw [List.pairwise_append]
  refine ⟨h.2, List.pairwise_singleton _ _, fun a ha b hb => ?_⟩;rw [S1.1 hb]
  obtain ⟨j, hj, rfl⟩ := TH ha
  rw [Sq] at hj
  have h4 := h3 (by omega)
  by_cases hjk : j = (k - 1).toNat
  ·subst hjk; rw [List.getElem_take]; exact h4
  ·have := List.pairwise_iff_getElem.1 h.2 j (k - 1).toNat (by rw [Sq]; omega) (by rw [Sq]; omega) (by omega)
   rw [List.getElem_take, List.getElem_take] at this;rw [List.getElem_take];omega
theorem QF {l : List Int} {lo hi k : Int} (h0 : 0 ≤ k) (h1 : k < l.length) (h2 : ¬ (lo ≤ l[k.toNat]'(by omega) ∧ l[k.toNat]'(by omega) ≤ hi)) : HG l lo hi = false := by
 unfold HG; rw [decide_eq_false_iff_not]; intro h; exact h2 (h.1 _ (Ss _))
theorem QE {l : List Int} {lo hi k : Int} (h0 : 0 < k) (h1 : k < l.length) (h2 : l[k.toNat]'(by omega) ≤ l[(k - 1).toNat]'(by omega)) : HG l lo hi = false := by
 unfold HG; rw [decide_eq_false_iff_not]; intro h
 have := List.pairwise_iff_getElem.1 h.2 (k - 1).toNat k.toNat (by omega) (by omega) (by omega)
 omega
theorem QD {l : List Int} {lo hi k : Int} (h1 : (l.length : Int) ≤ k) (h : JI (l.take k.toNat) lo hi) : HG l lo hi = true := by
 rw [A5 h1] at h; unfold HG; exact decide_eq_true h
theorem Jo (l : List Int) (lo hi : Int) (hl : l.length ≤ 1073741824) : Fun Try.prog 115 [.t (T.ints l), .t (.int lo), .t (.int hi)] (A2 [.t (.bool (HG l lo hi))]) := by
 refine Fun.begin tys Try.func115 Z Z (N := 35) [(0, .t (T.ints l)), (1, .t (.int lo)), (2, .t (.int hi))] Z Z (fun w0 G F0 => ?_);refine sG (eZ Z (nB (sQ (sG (eZ Z (evE ?_))))));refine eZ Z (nB (AD ?_));refine lK (α := Int) [0, 1, 2, 9, 10] [] (fun x => [(11, .t (.int x))]) (fun x => []) (fun x => 0 ≤ x ∧ x ≤ l.length ∧ JI (l.take x.toNat) lo hi) (fun x => Int.toNat (l.length - x)) 0 ?_ (fun k hx => ?_)
 ·exact ⟨by omega, by omega, fun x hx => by simp at hx, by simp⟩
 obtain ⟨hk0, hk1, hk2⟩ := hx
 refine nY Z (sG (eZ Z (nB (sQ ?_))));refine AB Z (fun h1 => ?_) (fun h1 => ?_)
 ·
  simp only [HS] at h1;refine AC (tN (sQ (AD (sG (eZ Z ?_)))));refine iY (k := ?_);refine eK 3 Z (nA (eK 3 Z (kZ [0,1,2,7,8,9,10,11,12,13,14,15,16,17,18] Z (AM ?_))));refine ⟨_, BB _ _ _, rfl, ?_⟩;refine eK 2 Z ?_;refine gB (fun h2 => ?_) (fun h2 => ?_)
  ·
   simp only [HS] at h2;refine xK 6 Z (kZ [0,1,2,7,8,9,10,11,12,13,14,15,16,17,18,19,20,21,22,23,24,25,26,27,28] Z (xK 5 Z (nB (Ao Z (sG (eZ Z (nB (rT (bR (tR (AP (bR (tR (eR ?_))))))))))))))
   ·exact retB (QF hk0 (by omega) h2).symm
  simp only [HS] at h2;refine xK 3 Z ?_;refine gB (fun h3 => ?_) (fun h3 => ?_)
  ·
   simp only [HS] at h3;refine xK 3 Z (kZ [0,1,2,7,8,9,10,11,12,13,14,15,16,17,18,19,20,21,22,23,24,25,26,27,28] Z (xK 5 Z (nB (A8 Z (AC (bN (tN (rG (evI ?_)))))))));refine eZ Z (oN ?_);refine lQ _ ?_ ?_
   ·skip
    exact ⟨by omega, by omega, JH hk0 (by omega) hk2 h2 (fun h => by omega)⟩
   ·(show Int.toNat _ < Int.toNat _); omega
  simp only [HS] at h3;refine xK 2 Z (gY Z (evI ?_));refine kZ [0,1,2,7,8,9,10,11,12,13,14,15,16,17,18,19,20,21,22,23,24,25,26,27] Z (gY Z ?_);refine iY (k := ?_);refine xK 5 Z (nB ?_);refine AB Z (fun h4 => ?_) (fun h4 => ?_)
  ·
   simp only [HS] at h4;refine sG (eZ Z (nB (rT (bR (tR (AP (bR (tR (eR ?_)))))))))
   ·exact retB (QE (by assumption) (by omega) (by assumption)).symm
  simp only [HS] at h4;refine AC (bN (tN (rG (evI ?_))));refine eZ Z (oN ?_);refine lQ _ ?_ ?_
  ·skip
   exact ⟨by omega, by omega, JH hk0 (by omega) hk2 h2 (fun h => by omega)⟩
  ·(show Int.toNat _ < Int.toNat _); omega
 simp only [HS] at h1;refine AN (tE (AJ (AI (tN (sG (eZ Z (nB (rT (eR ?_)))))))))
 ·exact retB (QD (by omega) hk2).symm
theorem N9 (l : List Int) : ∀ x, x ∈ l.map T.int → (T.cells x).length = 1 ∧ ∀ y, y ∈ T.cells x → ∃ v, y = .v v := by
 intro x hx
 obtain ⟨a, _, rfl⟩ := TE.1 hx
 exact ⟨rfl, fun y hy => ⟨_, S1.1 hy⟩⟩
def BK (f : Func) (b : List Int) : List Int := ord f.stmts.length (kids f.stmts) b
theorem Gc {f : Func} (hd : Bm f.stmts.length (kids f.stmts)) {b : List Int} (hb : inB f.stmts.length 0 b) {k : Int} (h0 : 0 ≤ k) (h1 : k < b.length) (hn : (b[k.toNat]'(by omega)).toNat < f.stmts.length) :
  BK f (b.drop k.toNat) = b[k.toNat]'(by omega) :: (BK f (f.stmts[(b[k.toNat]'(by omega)).toNat]'hn).thn ++ (BK f (f.stmts[(b[k.toNat]'(by omega)).toNat]'hn).els ++ BK f (b.drop (k + 1).toNat))) := by
 have e := Cx h0 h1
 rw [e];unfold BK;rw [Ek hd fun x hx => hb x (by rw [← e] at hx; exact Tc hx), kids_at hn];simp only [TZ, S4]
theorem Lo {f : Func} : BK f [] = [] := FL
theorem Jm (f : Func) (b : List Int) (hf : f.ok 1048576) (hd : Bm f.stmts.length (kids f.stmts)) (hb : inB f.stmts.length 0 b) (hbl : b.length ≤ 1048576) (hlen : (BK f b).length ≤ 1048576) (ih : ∀ n, n ∈ b → ∀ h : n.toNat < f.stmts.length, Fun Try.prog 107 [.t f.tt, .t (T.ints (f.stmts[n.toNat]).thn)] (.own (T.ints (BK f (f.stmts[n.toNat]).thn))) ∧ Fun Try.prog 107 [.t f.tt, .t (T.ints (f.stmts[n.toNat]).els)] (.own (T.ints (BK f (f.stmts[n.toNat]).els)))) : Fun Try.prog 107 [.t f.tt, .t (T.ints b)] (A2 [.own (T.ints (BK f b))]) := by
 have hl : f.stmts.length ≤ 1048576 := hf.2.1.1
 refine Fun.begin tys Try.func107 Z Z (N := 40) [(0, .t f.tt), (1, .t (T.ints b))] Z Z (fun w0 G F0 => ?_);refine sG (AV Z Z (AA Z) Z Z (nZ Z (eZ Z (nA (eZ Z (WO_le (Le.nilOwn (u := 5) 1 Z) (WO_le (Le.adoptE (u := 5) 5 Z Z) (nZ Z (nB (sQ (sG (eZ Z (evE ?_)))))))))))));refine eZ Z (nB (AD ?_));refine lK (α := Int × Nat × List T) [2, 8, 9] [2] (fun x => [(10, .t (.int (x.1))), (5, .sl 5 0 (x.2.1))]) (fun x => [(5, .L 1 (x.2.2))]) (fun x => 0 ≤ (x.1) ∧ (x.1) ≤ b.length ∧ (x.2.1) = (x.2.2).length ∧ ∃ done : List Int, (x.2.2) = done.map T.int ∧ BK f b = done ++ BK f (b.drop (x.1).toNat)) (fun x => Int.toNat (b.length - (x.1))) (0, 0, []) ?_ (fun x hx => ?_)
 ·exact ⟨by omega, by omega, rfl, [], rfl, rfl⟩
 obtain ⟨k, m, xs⟩ := x
 obtain ⟨hk0, hk1, hm, done, hx, he⟩ := hx
 dsimp only at hk0 hk1 hm hx he ⊢;refine nY Z (sG (eZ Z (nB (sQ ?_))));refine AB Z (fun h1 => ?_) (fun h1 => ?_)
 ·
  simp only [HS] at h1;refine AC (tN (sQ (AD (sG ?_))));refine iY (k := ?_);refine eZ Z ?_
  have hn := hb _ (Ss (l := b) (n := k.toNat) (by omega))
  have hs := Gc hd hb hk0 h1 (by omega)
  have hq := congrArg List.length he
  rw [hs] at hq;simp only [Sm, Sp] at hq
  have hxl := congrArg List.length hx
  rw [Sk] at hxl;refine eZ Z (nA (eK 2 Z (bZ [T.int (b[k.toNat]'(by omega))] ?_)));refine nZ Z (AE tys Z Z (AA Z) Z Z Z Z Z (.own Z (by first | omega | (simp only [Sm]; omega))) Z (.own Z (by first | decide | omega)) (by decide) (by simp only [Sq, Sp, List.length_nil]; omega) (by decide) Z ?_);refine nZ Z (eZ Z (kZ [2,5,7,8,9,10,11,12,13,14,15,16,17] Z (nB (sQ (BW 9 BE Z (by kernel_rfl) (by kernel_rfl) (evQ ?_))))));refine evQ ?_;refine evQ ?_;refine evQ ?_;refine evQ ?_;refine A9 tys Z Z (AA Z) Z Z Z Z Z Z Z (by omega) _ (EK _ _ (by omega) (by omega)) (AR Z (evQ ?_));refine evQ ?_;refine E0 ?_;refine ⟨_, (ih _ (Ss _) _).1, rfl, ?_⟩;refine A7 (nZ Z (WO_le (Le.freeze (u := 26) Z) (nZ Z (AE tys Z Z (AA Z) Z Z Z Z Z (.own Z (by first | omega | (simp only [Sm]; omega))) Z (.read (N9 _)) (by decide) (by simp only [Sq, Sm, Sk, Sp, List.length_nil]; omega) (by decide) Z ?_))));refine nZ Z (eZ Z (nB (BW 9 BE Z (by kernel_rfl) (by kernel_rfl) (evQ ?_))));refine evQ ?_;refine evQ ?_;refine evQ ?_;refine AR Z (evQ ?_);refine A9 tys Z Z (AA Z) Z Z Z Z Z Z Z (by omega) _ (EK _ _ (by omega) (by omega)) (evQ ?_);refine evQ ?_;refine E0 ?_;refine ⟨_, (ih _ (Ss _) _).2, rfl, ?_⟩;refine A7 (nZ Z (WO_le (Le.freeze (u := 36) Z) (nZ Z (AE tys Z Z (AA Z) Z Z Z Z Z (.own Z (by first | omega | (simp only [Sm]; omega))) Z (.read (N9 _)) (by decide) (by simp only [Sq, Sm, Sk, Sp, List.length_nil]; omega) (by decide) Z ?_))));refine nZ Z (eZ Z (oN (bN (tN (rG (evI ?_))))));refine eZ Z (oN ?_);refine lQ (_, _, _) ?_ ?_
  ·dsimp only
   refine ⟨by omega, by omega, by simp, done ++ b[k.toNat]'(by omega) :: (BK f (f.stmts[(b[k.toNat]'(by omega)).toNat]'(by omega)).thn ++ BK f (f.stmts[(b[k.toNat]'(by omega)).toNat]'(by omega)).els), ?_, ?_⟩
   ·subst hm hx; repeat rw [Sn (by simp)]
    simp
   ·rw [he, hs]; simp
  ·(show Int.toNat _ < Int.toNat _); omega
 simp only [HS] at h1;refine AN (tE (AJ (AI (tN (sG (eK 2 Z (nB (AQ (Le.gather (u := 4) (id := 5) Z Z (by omega)) (rT (eR ?_))))))))))
 ·(rw [he, BC h1, Lo, S3, hm, Sy, hx]; rfl)
theorem Ln {f : Func} (hd : Bm f.stmts.length (kids f.stmts)) : ∀ {b : List Int}, inB f.stmts.length 0 b → ∀ n, n ∈ b → ∀ h : n.toNat < f.stmts.length, (BK f (f.stmts[n.toNat]).thn).length + (BK f (f.stmts[n.toNat]).els).length ≤ (BK f b).length
 | [], _, n, hn, _ => by cases hn
 | x :: b, hb, n, hn, h => by
  have e := Gc hd hb (k := 0) (by omega) (by simp) (by have := hb x (S9 ..); simp; omega)
  have e2 := congrArg List.length e
  simp only [Int.toNat_zero, List.drop_zero, List.getElem_cons_zero, Sp, Sm, Int.zero_add, List.drop_succ_cons, Int.reduceToNat] at e2
  rcases Sw.1 hn with rfl | hn
  ·omega
  ·have := Ln hd (fun y hy => hb y (TC _ hy)) n hn h
   omega
theorem Bw {f : Func} (hf : f.ok 1048576) {n : Nat} (h : n < f.stmts.length) : (f.stmts[n]).thn.length ≤ 1048576 ∧ (f.stmts[n]).els.length ≤ 1048576 ∧ (f.stmts[n]).ex.length ≤ 1048576 := by
 have := hf.2.1.2 _ (Ss h)
 exact ⟨this.2.1, this.2.2.1, this.1⟩
theorem EH (f : Func) (hf : f.ok 1048576) (hd : Bm f.stmts.length (kids f.stmts)) : ∀ (k : Nat) (i : Int) (b : List Int), 0 ≤ i → f.stmts.length - i ≤ k → inB f.stmts.length i b → b.length ≤ 1048576 → (BK f b).length ≤ 1048576 →
  Fun Try.prog 107 [.t f.tt, .t (T.ints b)] (.own (T.ints (BK f b)))
 | k, i, b, hi, hk, hb, hbl, hlen => by
  refine Jm f b hf hd (Ba hb hi) hbl hlen fun n hn h => ?_
  have h1 := hb n hn
  have h2 := hd n (by omega) h1.2
  have h3 := Ln hd (Ba hb hi) n hn h
  have h4 := Bw hf h
  rw [kids_at h] at h2
  match k, hk with
  | 0, hk => omega
  | k + 1, hk => exact ⟨EH f hf hd k (n + 1) _ (by omega) (by omega) h2.1 h4.1 (by omega), EH f hf hd k (n + 1) _ (by omega) (by omega) h2.2 h4.2.1 (by omega)⟩
theorem Fe (f : Func) (hf : f.ok 1048576) (hd : Bm f.stmts.length (kids f.stmts)) {b : List Int} (hb : inB f.stmts.length 0 b) (hbl : b.length ≤ 1048576) (hlen : (BK f b).length ≤ 1048576) :
  Fun Try.prog 107 [.t f.tt, .t (T.ints b)] (.own (T.ints (BK f b))) := EH f hf hd f.stmts.length 0 b (by omega) (by omega) hb hbl hlen
theorem ordO {F : Nat} {ds : List D} {o : List Int} {y : T} {z : List T} (h : z = o.map T.int) (hf : FunO Try.prog F ds (T.ints o) y) : FunO Try.prog F ds (.list 1 z) y := by rw [h]; exact hf
theorem Jb (f : Func) (b o : List Int) (hf : f.ok 1048576) (hd : Bm f.stmts.length (kids f.stmts)) (hb : inB f.stmts.length 0 b) (hbl : b.length ≤ 1048576) (hlen : o.length + (BK f b).length ≤ 2097152) (ih : ∀ n, n ∈ b → ∀ h : n.toNat < f.stmts.length, ∀ o : List Int, (o.length + (BK f (f.stmts[n.toNat]).thn).length ≤ 2097152 → FunO Try.prog 101 [.t f.tt, .t (T.ints (f.stmts[n.toNat]).thn)] (T.ints o) (T.ints (o ++ BK f (f.stmts[n.toNat]).thn))) ∧ (o.length + (BK f (f.stmts[n.toNat]).els).length ≤ 2097152 → FunO Try.prog 101 [.t f.tt, .t (T.ints (f.stmts[n.toNat]).els)] (T.ints o) (T.ints (o ++ BK f (f.stmts[n.toNat]).els)))) : FunO Try.prog 101 [.t f.tt, .t (T.ints b)] ((T.ints o)) ((T.ints (o ++ BK f b))) := by
 have hl : f.stmts.length ≤ 1048576 := hf.2.1.1
 refine FunO.intro tys Try.func101 Z Z (N := 39) (ds := [.t f.tt, .t (T.ints b)]) Z (fun w0 G F0 => ?_);refine nY Z (AQ (Le.adoptE (u := 2) 2 Z Z) (nY Z (sG (AV Z Z (AA Z) Z Z (nZ Z (eZ Z (nB (sQ (sG (eZ Z (evE ?_)))))))))));refine eZ Z (nB (AD ?_));refine lK (α := Int × Nat × List T) [3, 9, 10] [3] (fun x => [(11, .t (.int (x.1))), (2, .sl 2 0 (x.2.1))]) (fun x => [(2, .L 1 (x.2.2))]) (fun x => 0 ≤ (x.1) ∧ (x.1) ≤ b.length ∧ (x.2.1) = (x.2.2).length ∧ ∃ done : List Int, (x.2.2) = done.map T.int ∧ o ++ BK f b = done ++ BK f (b.drop (x.1).toNat)) (fun x => Int.toNat (b.length - (x.1))) (0, (o.map T.int).length, o.map T.int) ?_ (fun x hx => ?_)
 ·exact ⟨by omega, by omega, rfl, o, rfl, rfl⟩
 obtain ⟨k, m, xs⟩ := x
 obtain ⟨hk0, hk1, hm, done, hx, he⟩ := hx
 dsimp only at hk0 hk1 hm hx he ⊢;refine nY Z (sG (eZ Z (nB (sQ ?_))));refine AB Z (fun h1 => ?_) (fun h1 => ?_)
 ·
  simp only [HS] at h1;refine AC (tN (sQ (AD (sG ?_))));refine iY (k := ?_);refine eZ Z ?_
  have hn := hb _ (Ss (l := b) (n := k.toNat) (by omega))
  have hs := Gc hd hb hk0 h1 (by omega)
  have hq := congrArg List.length he
  rw [hs] at hq;simp only [Sm, Sp] at hq
  have hxl := congrArg List.length hx
  rw [Sk] at hxl;refine eZ Z (nA (eK 2 Z (bZ [T.int (b[k.toNat]'(by omega))] ?_)));refine nZ Z (AE tys Z Z (AA Z) Z Z Z Z Z (.own Z (by first | omega | (simp only [Sm]; omega))) Z (.own Z (by first | decide | omega)) (by decide) (by simp only [Sq, Sp, List.length_nil]; omega) (by decide) Z ?_);refine nZ Z (eZ Z (kZ [2,3,8,9,10,11,12,13,14,15,16,17,18] Z (nB (sQ (BW 8 BE Z (by kernel_rfl) (by kernel_rfl) (evQ ?_))))));refine evQ ?_;refine evQ ?_;refine evQ ?_;refine A9 tys Z Z (AA Z) Z Z Z Z Z Z Z (by omega) _ (EK _ _ (by omega) (by omega)) (evQ ?_);refine AR Z (evQ ?_);refine evQ ?_;refine A7 (WO_le (Le.freeze (u := 19) Z) ?_)
  skip
  refine nZ Z (WO_le (Le.gather (u := 26) (id := 2) Z Z (by first | (simp; done) | (simp; omega) | omega)) ?_);refine nZ Z (F8 (u := 26) (az := [.tmp 19, .tmp 25]) Z Z (AA Z) Z Z Z Z (.inl ⟨rfl, rfl⟩) (ordO (o := done ++ [b[k.toNat]'(by omega)]) (by subst hm hx; (repeat rw [Sn (by simp)]); simp) ((ih _ (Ss _) _ _).1 (by simp only [Sm, Sp, List.length_nil]; omega))) ?_);refine WO_le (Le.adoptE (u := 27) 2 Z (by first | exact Iq | exact Z)) ?_;refine nZ Z (eZ Z (nB (BW 8 BE Z (by kernel_rfl) (by kernel_rfl) (evQ ?_))));refine evQ ?_;refine evQ ?_;refine evQ ?_;refine AR Z (A9 tys Z Z (AA Z) Z Z Z Z Z Z Z (by omega) _ (EK _ _ (by omega) (by omega)) (evQ ?_));refine evQ ?_;refine evQ ?_;refine A7 (WO_le (Le.freeze (u := 28) Z) ?_)
  skip
  refine nZ Z (WO_le (Le.gather (u := 35) (id := 2) Z Z (by first | (simp; done) | (simp; omega) | omega)) ?_);refine nZ Z (F8 (u := 35) (az := [.tmp 28, .tmp 34]) Z Z (AA Z) Z Z Z Z (.inl ⟨rfl, rfl⟩) (ordO (o := done ++ [b[k.toNat]'(by omega)] ++ BK f (f.stmts[(b[k.toNat]'(by omega)).toNat]'(by omega)).thn) (by rw [Sn (by simp)]) ((ih _ (Ss _) _ _).2 (by simp only [Sm, Sp, List.length_nil]; omega))) ?_);refine WO_le (Le.adoptE (u := 36) 2 Z (by first | exact Iq | exact Z)) ?_;refine nZ Z (eZ Z (oN (bN (tN (rG (evI ?_))))));refine eZ Z (oN ?_);refine lQ (_, _, _) ?_ ?_
  ·dsimp only
   exact ⟨by omega, by omega, by simp, done ++ [b[k.toNat]'(by omega)] ++ BK f (f.stmts[(b[k.toNat]'(by omega)).toNat]'(by omega)).thn ++ BK f (f.stmts[(b[k.toNat]'(by omega)).toNat]'(by omega)).els, rfl, by rw [he, hs]; simp⟩
  ·(show Int.toNat _ < Int.toNat _); omega
 simp only [HS] at h1;refine AN (tE (AJ (AI (tN (sG (eK 2 Z (nB (AQ (Le.gather (u := 6) (id := 2) Z Z (by omega)) (rT (eR ?_))))))))))
 ·(rw [he, BC h1, Lo, S3, hm, Sy, hx]; rfl)
theorem ED (f : Func) (hf : f.ok 1048576) (hd : Bm f.stmts.length (kids f.stmts)) : ∀ (k : Nat) (i : Int) (b o : List Int), 0 ≤ i → f.stmts.length - i ≤ k → inB f.stmts.length i b → b.length ≤ 1048576 → o.length + (BK f b).length ≤ 2097152 →
  FunO Try.prog 101 [.t f.tt, .t (T.ints b)] (T.ints o) (T.ints (o ++ BK f b))
 | k, i, b, o, hi, hk, hb, hbl, hlen => by
  refine Jb f b o hf hd (Ba hb hi) hbl hlen fun n hn h o => ?_
  have h1 := hb n hn
  have h2 := hd n (by omega) h1.2
  have h4 := Bw hf h
  rw [kids_at h] at h2
  match k, hk with
  | 0, hk => omega
  | k + 1, hk => exact ⟨ED f hf hd k (n + 1) _ o (by omega) (by omega) h2.1 h4.1, ED f hf hd k (n + 1) _ o (by omega) (by omega) h2.2 h4.2.1⟩
theorem Fc (f : Func) (hf : f.ok 1048576) (hd : Bm f.stmts.length (kids f.stmts)) {b : List Int} (hb : inB f.stmts.length 0 b) (hbl : b.length ≤ 1048576) (hlen : (BK f b).length ≤ 1048576) :
  FunO Try.prog 101 [.t f.tt, .t (T.ints b)] (.list 1 []) (T.ints (BK f b)) := ED f hf hd f.stmts.length 0 b [] (by omega) (by omega) hb hbl (by simp; omega)
open Go.Eng
theorem RC (l : List Stmt) (body : List Int) : (DH l body).length = 1 + 2 * l.length := by rw [DH, Sp, KE]; omega
theorem NC (l : List Stmt) : ∀ (n : Nat) (h : n < l.length) (k : Int), (E1 l k).take (2 * (n + 1)) = (E1 l k).take (2 * n) ++ [(k + n, (l[n]).thn), (k + n, (l[n]).els)] := by
 induction l with
 | nil => intro n h; simp at h
 | cons s l ih =>
  intro n h k
  cases n with
  | zero => simp [E1]
  | succ n =>
   have := ih n (by simpa using h) (k + 1)
   rw [E1, show 2 * (n + 1 + 1) = 2 * (n + 1) + 1 + 1 from by omega, List.take_succ_cons, List.take_succ_cons, this, show 2 * (n + 1) = 2 * n + 1 + 1 from by omega, List.take_succ_cons, List.take_succ_cons]
   simp
   omega
theorem blkO_take {l : List Stmt} {body : List Int} {k : Int} (h0 : 0 ≤ k) (h1 : k < l.length) : (DH l body).take (1 + 2 * (k + 1).toNat) = (DH l body).take (1 + 2 * k.toNat) ++ [(k, (l[k.toNat]'(by omega)).thn), (k, (l[k.toNat]'(by omega)).els)] := by
 have := NC l k.toNat (by omega) 0
 rw [DH, show (k + 1).toNat = k.toNat + 1 from by omega, show 1 + 2 * (k.toNat + 1) = 2 * (k.toNat + 1) + 1 from by omega, List.take_succ_cons, this, show 1 + 2 * k.toNat = 2 * k.toNat + 1 from by omega, List.take_succ_cons]
 have e : (0 : Int) + k.toNat = k := by omega
 rw [e]; rfl
theorem Ia {f : Func} (hf : f.ok 1048576) {p : Int × List Int} (h : p ∈ DH f.stmts f.body) : p.2.length ≤ 1048576 := by
 rw [DH] at h
 rcases Sw.1 h with rfl | h
 ·exact hf.1
 ·obtain ⟨j, hj, h⟩ := blkGo_mem.1 h
  have := Bw hf hj
  rcases h with rfl | rfl
  ·exact this.1
  ·exact this.2.1
def cnts (N : Nat) (l : List Int) : List Int := (Bs N).map (cntF l)
theorem B9 (N : Nat) (l : List Int) : (cnts N l).length = N := by rw [cnts, Sk, Aw]
theorem PD {N : Nat} {l : List Int} {n : Int} (h0 : 0 ≤ n) (h1 : n < N) : (cnts N l)[n.toNat]'(by rw [B9]; omega) = cntF l n := by
 unfold cnts;rw [List.getElem_map, D5 (by rw [Aw]; omega), show ((n.toNat : Nat) : Int) = n from by omega]
theorem Q5 {N : Nat} {l : List Int} {n : Int} (h0 : 0 ≤ n) (h1 : n < N) : (cnts N l).set n.toNat (cntF l n + 1) = cnts N (l ++ [n]) := by
 refine List.ext_getElem (by rw [TN, B9, B9]) fun i h2 h3 => ?_
 rw [B9] at h3
 have e : ∀ l, (cnts N l)[i]? = some (cntF l i) := fun l => by
  rw [List.getElem?_eq_getElem (by rw [B9]; omega)]
  have := PD (l := l) (n := (i : Int)) (by omega) (by omega : (i : Int) < N)
  rw [← this]; rfl
 rw [List.getElem_set]
 have e1 := e l
 have e2 := e (l ++ [n])
 rw [List.getElem?_eq_getElem (by rw [B9]; omega), Option.some_inj] at e1 e2;rw [e1, e2];unfold cntF;rw [List.count_append];split
 ·rename_i hi
  rw [show n = (i : Int) from by omega]; simp
 ·rename_i hi
  rw [List.count_singleton]
  have : (n == (i : Int)) = false := by simp; omega
  simp [this]
theorem cntsT {N : Nat} {l : List Int} {n : Int} {ys : List T} (h : ys = (cnts N l).map T.int) (h0 : 0 ≤ n) (h1 : n < N) : ys.set n.toNat (T.int (cntF l n + 1)) = (cnts N (l ++ [n])).map T.int := by
 rw [h, ← Tj, Q5 h0 h1]
theorem argI {F : Nat} {ds : List D} {r : D} {l : List Int} {xs : List T} (h : xs = l.map T.int) (hf : Fun Try.prog F (.t (T.ints l) :: ds) r) : Fun Try.prog F (.t (.list 1 xs) :: ds) r := by rw [h]; exact hf
theorem Q6 (N : Nat) : cnts N [] = List.replicate N 0 := by
 unfold cnts cntF
 have : ∀ l : List Int, l.map (fun x => ((([] : List Int).count x : Nat) : Int)) = List.replicate l.length 0 := by
  intro l
  induction l with
  | nil => rfl
  | cons x l ih => rw [TA, ih]; rfl
 rw [this, Aw]
theorem PC {N : Nat} {l : List Int} : B7 (cnts N l) 1 1 = OO N l := by
 unfold B7 cnts OO;rw [List.all_map]
 congr 1
 funext x
 simp only [Function.comp];exact decide_eq_decide.2 (by omega)
theorem SO (l : List Int) (n : Int) : 0 ≤ cntF l n ∧ cntF l n ≤ l.length := by
 unfold cntF; have := List.count_le_length (l := l) (a := n); omega
theorem ownAt {N : Nat} {l : List Int} {n : Int} (h0 : 0 ≤ n) (h1 : n < N) : ((cnts N l).map T.int)[0 + n.toNat]? = some (T.int (cntF l n)) := by
 rw [S7, List.getElem?_map, List.getElem?_eq_getElem (by rw [B9]; omega), PD h0 h1]; rfl
def FQ (B : List (Int × List Int)) (i : Nat) : List Int := ((B.take i).map (·.2)).flatten
theorem L9 {B : List (Int × List Int)} {i : Int} (h0 : 0 ≤ i) (h1 : i < B.length) : FQ B (i + 1).toNat = FQ B i.toNat ++ (B[i.toNat]'(by omega)).2 := by
 unfold FQ; rw [BO h0 h1, S5, List.flatten_append]; simp
theorem Jx {B : List (Int × List Int)} (hB : ∀ p, p ∈ B → p.2.length ≤ 1048576) : ∀ i : Nat, i ≤ B.length → (FQ B i).length ≤ i * 1048576
 | 0, _ => by simp [FQ]
 | i + 1, h => by
  have h1 := Jx hB i (by omega)
  have h2 := L9 (B := B) (i := (i : Int)) (by omega) (by omega)
  have h3 := hB _ (Ss (l := B) (n := (i : Int).toNat) (by omega))
  have h4 := congrArg List.length h2
  rw [Sm] at h4;rw [show ((i : Int) + 1).toNat = i + 1 from by omega] at h4;rw [show (FQ B (i : Int).toNat).length = (FQ B i).length from by rw [show (i : Int).toNat = i from by omega]] at h4;omega
theorem Fk {α : Type} {p : α → Bool} {l : List α} {k : Int} (h0 : 0 ≤ k) (h1 : k < l.length) (h : p (l[k.toNat]'(by omega)) = false) : l.all p = false :=
 List.all_eq_false.2 ⟨_, Ss _, by simpa using h⟩
theorem DE {α : Type} {p : α → Bool} {l : List α} {k : Int} (h0 : 0 ≤ k) (h1 : k < l.length) (h : (l.take k.toNat).all p = true) (h2 : p (l[k.toNat]'(by omega)) = true) : (l.take (k + 1).toNat).all p = true := by
 rw [BO h0 h1, List.all_append, h]; simpa using h2
theorem E2 {α : Type} {p : α → Bool} {l : List α} {k : Int} (h1 : (l.length : Int) ≤ k) (h : (l.take k.toNat).all p = true) : l.all p = true := by
 rwa [A5 h1] at h
theorem QI {l : List Int} {lo hi : Int} (h : HG l lo hi = true) {n : Int} (hn : n ∈ l) : lo ≤ n ∧ n ≤ hi := (of_decide_eq_true h).1 n hn
theorem Jn (f : Func) (hf : f.ok 1048576) (hN : f.stmts.length ≤ 16) : Fun Try.prog 106 [.t f.tt] (A2 [.t (.bool (DR f.stmts f.body))]) := by
 have hbl := RC f.stmts f.body
 refine Fun.begin tys Try.func106 Z Z (N := 77) [(0, .t f.tt)] Z Z (fun w0 G F0 => ?_);refine sG (AV Z Z (AA Z) Z Z (nZ Z (eZ Z (nA (eK 2 Z (evE ?_))))));refine DS tys (.v (.int .i64 0)) _ Z Z (AA Z) Z Z Z Z Z (by repeat (first | exact AbsL.nil' | refine AbsL.v' ?_ | refine AbsL.none' ?_)) Z (by omega) (by decide) ?_;refine nZ Z (eZ Z (nB (sQ (kY [1,2,3] Z (rG (eK 2 Z (nZ Z ?_)))))));refine G2 (u := 17) 117 Z (fun v17 => ?_);refine nZ Z (bZ [.v v17] ?_);refine nZ Z (eZ Z (nA (bZ [T.int (-1)] ?_)));refine nZ Z (eZ Z (nB (sQ (sG (eK 2 Z (evE ?_))))));refine kZ [1,2,3,4,5,21,22] Z (eZ Z (nB (AD ?_)));refine lK (α := Int × Nat × List T × Nat × List T × List Value × List T) [1, 3, 21, 22] [1, 15] (fun x => [(23, .t (.int (x.1))), (4, .sl 18 0 (x.2.1)), (5, .sl 19 0 (x.2.2.2.1))]) (fun x => [(18, .L 1 (x.2.2.1)), (19, .L 1 (x.2.2.2.2.1)), (117, .ro (x.2.2.2.2.2.1) (x.2.2.2.2.2.2))]) (fun x => 0 ≤ (x.1) ∧ (x.1) ≤ f.stmts.length ∧ (x.2.1) = (x.2.2.1).length ∧ (x.2.2.2.1) = (x.2.2.2.2.1).length ∧ (x.2.2.1) = (x.2.2.2.2.2.1).map T.v ∧ (x.2.2.2.2.2.1).length = 1 + 2 * (x.1).toNat ∧ (x.2.2.2.2.2.2) = ((DH f.stmts f.body).take (1 + 2 * (x.1).toNat)).map (fun p => T.ints p.2) ∧ (x.2.2.2.2.1) = ((DH f.stmts f.body).take (1 + 2 * (x.1).toNat)).map (fun p => T.int p.1)) (fun x => Int.toNat (f.stmts.length - (x.1))) (0, 1, [.v v17], 1, [T.int (-1)], [v17], [T.ints f.body]) ?_ (fun x hx => ?_)
 ·exact ⟨by omega, by omega, rfl, rfl, rfl, rfl, rfl, rfl⟩
 obtain ⟨k, m4, xs4, m5, xs5, us, ts⟩ := x
 obtain ⟨hk0, hk1, hm4, hm5, hx4, hul, hts, hx5⟩ := hx
 dsimp only at hk0 hk1 hm4 hm5 hx4 hul hts hx5 ⊢;refine nY Z (sG (eZ Z (nB (sQ ?_))));refine AB Z (fun h1 => ?_) (fun h1 => ?_)
 ·
  simp only [HS] at h1;refine AC (tN (sQ (AD (sG (eZ Z ?_)))));refine iY (k := ?_);refine eZ Z ?_
  try refine WO_le (Le.freeze (u := 27) rfl) ?_
  refine nZ Z (AF tys Z Z (AA Z) Z Z Z (nZ Z (eZ Z (sT Z (nZ Z (nB (sQ (kY [1,3,4,5,6,7,21,22,23,24,25,26,27] Z (rG (eK 5 Z (nZ Z ?_)))))))))));refine G2 (u := 30) 130 Z (fun v30 => ?_);refine nZ Z ?_;refine G2 (u := 32) 132 Z (fun v32 => ?_);refine nZ Z (WO_le (Le.roJoin 117 130 Z Z) (nZ Z (WO_le (Le.roJoin 117 132 Z Z) (nZ Z (bZ [.v v30, .v v32] ?_)))));refine nZ Z (AE tys Z Z (AA Z) Z Z Z Z Z (.own Z (by first | omega | (simp only [Sm]; omega))) Z (.own Z (by first | decide | omega)) (by decide) (by have q := congrArg List.length hx4; simp only [Sk] at q; simp only [Sq, Sp, List.length_nil]; omega) (by decide) Z ?_);refine nZ Z (eZ Z (nB (kY [1,3,4,5,6,7,21,22,23,24,25,26,27,28,29,30,31,32,33,34] Z (rG (eK 3 Z (bZ [T.int k, T.int k] ?_))))));refine nZ Z (AE tys Z Z (AA Z) Z Z Z Z Z (.own Z (by first | omega | (simp only [Sm]; omega))) Z (.own Z (by first | decide | omega)) (by decide) (by have q := congrArg List.length hx5; simp only [Sk, Sq] at q; simp only [Sq, Sp, List.length_nil]; omega) (by decide) Z ?_);refine nZ Z (eZ Z (oN (bN (tN (rG (evI ?_))))));refine eZ Z (oN ?_);refine lQ (_, _, _, _, _, _, _) ?_ ?_
  ·dsimp only
   refine ⟨by omega, by omega, by simp, by simp, ?_, ?_, ?_, ?_⟩
   ·subst hm4 hx4; rw [Sn (by simp)]; simp
   ·simp; omega
   ·rw [hts, blkO_take hk0 (by omega), S5, S4]; rfl
   ·subst hm5; rw [Sy, hx5, blkO_take hk0 (by omega), S5]; rfl
  ·(show Int.toNat _ < Int.toNat _); omega
 simp only [HS] at h1;refine AN (tE (AJ (AI (tN (sQ (sG (eZ Z ?_)))))))
 have hk : k = f.stmts.length := by omega
 have hx6 : xs5 = (DH f.stmts f.body).map (fun p => T.int p.1) := by rw [hx5, Sn (by omega)]
 refine nZ rfl (WO_le (Le.gather (u := 41) (id := 18) rfl rfl (by omega)) (nZ rfl (WO_le (Le.freeze (u := 41) rfl) (nZ rfl (WO_le (Le.roReadE (u := 41) (id := 117) (ts' := (DH f.stmts f.body).map (fun p => T.ints p.2)) rfl rfl (by rw [hm4, Sy, hx4]) (by rw [hts, Sn (by omega)]) (by rw [hts]; intro t ht; obtain ⟨p, _, rfl⟩ := TE.1 ht; rfl)) ?_)))));refine nZ Z (evE ?_);refine eZ Z (nB (AD ?_));refine lK (α := Int × List T) [1, 3, 5, 41, 42] [1, 19] (fun x => [(43, .t (.int (x.1)))]) (fun x => [(15, .L 1 (x.2))]) (fun x => 0 ≤ (x.1) ∧ (x.1) ≤ (DH f.stmts f.body).length ∧ (x.2) = (cnts f.stmts.length (FQ (DH f.stmts f.body) (x.1).toNat)).map T.int ∧ ((DH f.stmts f.body).take (x.1).toNat).all (SV f.stmts.length) = true) (fun x => Int.toNat ((DH f.stmts f.body).length - (x.1))) (0, List.replicate f.stmts.length (T.int 0)) ?_ (fun x hx => ?_)
 ·exact ⟨by omega, by omega, by rw [show FQ (DH f.stmts f.body) (0 : Int).toNat = [] from rfl, Q6, List.map_replicate], by simp⟩
 obtain ⟨i, xs⟩ := x
 obtain ⟨hi0, hi1, hxs, hall⟩ := hx
 dsimp only at hi0 hi1 hxs hall ⊢;refine nY Z (sG (eZ Z (nB (sQ ?_))));refine AB Z (fun h2 => ?_) (fun h2 => ?_)
 ·
  simp only [HS] at h2;refine AC (tN (sQ (AD (sG (eZ Z ?_)))));refine iY (k := ?_);refine eK 3 Z (nB (sQ (sG (eK 3 Z (kZ [1,3,5,8,9,41,42,43,44,45,46,47,48,49,50] Z (evE ?_))))));refine evI ?_;refine AM ?_;refine ⟨_, Jo _ _ _ (by have := Ia hf (Ss (l := DH f.stmts f.body) (n := i.toNat) (by omega)); omega), rfl, ?_⟩;refine eZ Z (nB ?_);refine AB Z (fun h3 => ?_) (fun h3 => ?_)
  ·
   simp only [HS] at h3;refine sG (eZ Z (nB (rT (tR (bR (tR (AP (bR (tR (eR ?_))))))))))
   ·first
    | exact retB (by rw [DR, Fk hi0 h2 (by unfold SV; rw [h3]; rfl)]; rfl)
  simp only [HS] at h3;refine AC (tN (sG (eZ Z (evE ?_))));refine eZ Z (nB (AD ?_));refine lK (α := Int × List T) [1, 3, 5, 8, 41, 42, 43, 55, 56] [1, 19] (fun x => [(57, .t (.int (x.1)))]) (fun x => [(15, .L 1 (x.2))]) (fun x => 0 ≤ (x.1) ∧ (x.1) ≤ ((DH f.stmts f.body)[i.toNat]'(by omega)).2.length ∧ (x.2) = (cnts f.stmts.length (FQ (DH f.stmts f.body) i.toNat ++ ((DH f.stmts f.body)[i.toNat]'(by omega)).2.take (x.1).toNat)).map T.int ∧ (((DH f.stmts f.body)[i.toNat]'(by omega)).2.take (x.1).toNat).all (fun n => decide (((DH f.stmts f.body)[i.toNat]'(by omega)).1 < n)) = true) (fun x => Int.toNat (((DH f.stmts f.body)[i.toNat]'(by omega)).2.length - (x.1))) (0, xs) ?_ (fun x hx => ?_)
  ·exact ⟨by omega, by omega, by rw [hxs]; simp, by simp⟩
  obtain ⟨j, ys⟩ := x
  obtain ⟨hj0, hj1, hys, halj⟩ := hx
  dsimp only at hj0 hj1 hys halj ⊢;refine nY Z (sG (eZ Z (nB (sQ ?_))));refine AB Z (fun h4 => ?_) (fun h4 => ?_)
  ·
   simp only [HS] at h4;refine AC (tN (sQ (AD (sG ?_))));refine iY (k := ?_);refine eZ Z ?_
   have hn0 := QI h3 (Ss (l := ((DH f.stmts f.body)[i.toNat]'(by omega)).2) (n := j.toNat) (by omega))
   have hn : 0 ≤ ((DH f.stmts f.body)[i.toNat]'(by omega)).2[j.toNat]'(by omega) ∧ ((DH f.stmts f.body)[i.toNat]'(by omega)).2[j.toNat]'(by omega) < f.stmts.length := ⟨hn0.1, by omega⟩
   have hx7 : m5 = (DH f.stmts f.body).length := by rw [hm5, hx6, Sk]
   have hx8 : xs5.length = m5 := hm5.symm
   have hyl : ys.length = f.stmts.length := by rw [hys, Sk, B9]
   have hc := SO (FQ (DH f.stmts f.body) i.toNat ++ ((DH f.stmts f.body)[i.toNat]'(by omega)).2.take j.toNat) (((DH f.stmts f.body)[i.toNat]'(by omega)).2[j.toNat]'(by omega))
   have hg := Jx (B := DH f.stmts f.body) (fun p hp => Ia hf hp) i.toNat (by omega)
   have hg2 := Ia hf (Ss (l := DH f.stmts f.body) (n := i.toNat) (by omega))
   rw [Sm, Sq] at hc;refine eZ Z (nB (sQ (sG (eK 3 Z (Ae tys Z Z (AA Z) Z Z Z Z Z Z Z Z (by omega) (by omega) (Al tys Z Z (AA Z) Z Z Z Z (by rw [hx6]; exact D1 (fun p : Int × List Int => T.int p.1) _ (by omega) (by omega)) Z ?_))))));refine kZ [1,3,5,8,11,41,42,43,55,56,57,58,59,60,61,62,63,64,65] Z (eZ Z (nB ?_));refine AB Z (fun h5 => ?_) (fun h5 => ?_)
   ·
    simp only [HS] at h5;refine sG (eZ Z (nB (rT (tR (bR (tR (AP (bR (bR (tR (AP (bR (tR (eR ?_))))))))))))))
    ·first
     | exact retB (by rw [DR, Fk hi0 h2 (by unfold SV; rw [h3, Fk hj0 h4 (by simp; omega)]; rfl)]; rfl)
   simp only [HS] at h5;refine AC (tN (rG (eK 2 Z (Ae tys Z Z (AA Z) Z Z Z Z Z Z Z Z (by omega) (by omega) (Al tys Z Z (AA Z) Z Z Z Z (by rw [hys]; exact ownAt hn.1 hn.2) Z ?_)))));refine evI ?_;refine Ae tys Z Z (AA Z) Z Z Z Z Z Z Z Z (by omega) (by omega) ?_;refine BD tys (T.int (cntF (FQ (DH f.stmts f.body) i.toNat ++ ((DH f.stmts f.body)[i.toNat]'(by omega)).2.take j.toNat) (((DH f.stmts f.body)[i.toNat]'(by omega)).2[j.toNat]'(by omega)) + 1)) Z Z Z Z Z Z (by first | exact S7 _ | rfl) (by omega) Z (by repeat (first | exact AbsL.nil' | refine AbsL.v' ?_ | refine AbsL.own' ?_)) Z Z Z ?_;refine nZ Z (oN (bN (tN (kY [1,3,5,8,11,41,42,43,55,56,57,58,59,60,61,62,63,64,65,66,67,68,69,70,71,72] Z (rG (evI ?_))))));refine eZ Z (oN ?_);refine lQ (_, _) ?_ ?_
   ·dsimp only
    refine ⟨by omega, by omega, ?_, ?_⟩
    ·exact (cntsT hys hn.1 hn.2).trans (by rw [BO hj0 (by omega), S4])
    ·exact DE hj0 (by omega) halj (by simpa using h5)
   ·(show Int.toNat _ < Int.toNat _); omega
  simp only [HS] at h4;refine AN (tE (AJ (AI (bN (tN (rG (evI ?_)))))));refine eZ Z (oN ?_);refine lQ (_, _) ?_ ?_
  ·dsimp only
   refine ⟨by omega, by omega, ?_, ?_⟩
   ·rw [hys, L9 hi0 (by omega), A5 (by omega)]
   ·exact DE hi0 (by omega) hall (by unfold SV; rw [h3, E2 (by omega) halj]; rfl)
  ·(show Int.toNat _ < Int.toNat _); omega
 simp only [HS] at h2;refine AN (tE (AJ (AI (tN (sG (eZ Z ?_))))))
 have hxl : xs.length = f.stmts.length := by rw [hxs, Sk, B9]
 refine AM ?_;refine ⟨_, argI hxs (Gn _ _ _ (by rw [B9]; omega)), rfl, ?_⟩;refine eZ Z (nB (rT (eR ?_)))
 ·first
  | exact retB (by rw [DR, E2 (by omega) hall, PC, FQ, A5 (by omega)]; rfl)
open Go.Eng
def DZ (f : Func) : Bool := decide (0 ≤ f.params ∧ f.params ≤ 2) && (decide (f.params ≤ f.vars ∧ f.vars ≤ 6) && decide ((f.stmts.length : Int) ≤ 16))
def H3 (f : Func) : Bool := decide (((Ad f.stmts 0).length : Int) ≤ 4)
def Fi (f : Func) (n : Int) : Int := match f.stmts[n.toNat]? with
 | some s => s.kind
 | none => 0
theorem Es {f : Func} {n : Int} (h : n.toNat < f.stmts.length) : Fi f n = (f.stmts[n.toNat]).kind := by
 unfold Fi; rw [List.getElem?_eq_getElem h]
def Kv (f : Func) (b : List Int) : Bool := (BK f b).all fun n => decide (¬ Fi f n = 3)
def CJ (f : Func) (s : Stmt) : Bool := if s.kind = 8 then Kv f s.thn else true
def FV (f : Func) : Bool := f.stmts.all (CJ f)
def Ag (f : Func) : Bool := DZ f && (H3 f && (Bt f.stmts f.body && FV f))
theorem IK (n i : Int) (f : Func) (hN : f.stmts.length ≤ 1048576) (hi : 0 ≤ i ∧ i ≤ 1048576) : Fun Try.prog 99 [.t (.int n), .rp (.agg [T.int i]) 0, .rp f.tt 0] (A2 [.t (.bool (!decide (i + 1 ≤ n ∧ n ≤ f.stmts.length - 1)))]) := by
 refine Fun.begin tys Try.func99 Z Z (N := 14) [(0, .t (.int n)), (1, .rp (.agg [T.int i]) 0), (2, .rp f.tt 0)] Z Z (fun w0 G F0 => ?_);refine sG (eZ Z (nA (eK 2 Z (evI ?_))));refine eK 2 Z (evE ?_);refine evI ?_;refine AM ?_;refine ⟨_, Af _ _ _, rfl, ?_⟩;refine kZ [4,12] Z (eK 2 Z (nB (rT (eR ?_))))
 ·rfl
theorem IJ (n : Int) (f : Func) (hN : f.stmts.length ≤ 1048576) : Fun Try.prog 100 [.t (.int n), .rp f.tt 0] (A2 [.t (.bool (!decide (0 ≤ n ∧ n ≤ f.stmts.length - 1)))]) := by
 refine Fun.begin tys Try.func100 Z Z (N := 11) [(0, .t (.int n)), (1, .rp f.tt 0)] Z Z (fun w0 G F0 => ?_);refine sG (eZ Z (nA (eK 3 Z (evE ?_))));refine evI ?_;refine AM ?_;refine ⟨_, Af _ _ _, rfl, ?_⟩;refine eK 2 Z (kZ [3] Z (nB (rT (eR ?_))))
 ·rfl
theorem Ic {N i : Int} {b : List Int} : (b.any fun n => !decide (i ≤ n ∧ n ≤ N - 1)) = !M2 N i b := by
 unfold M2;rw [List.not_all_eq_any_not]
 congr 1
 funext n
 congr 1
 exact decide_eq_decide.2 (by omega)
def Pt (s : Stmt) (z : Int) : List Int := if z = 0 then s.thn else s.els
theorem pick2 {s : Stmt} {z : Int} (h0 : 0 ≤ z) (h1 : z < 2) : [D.t (.list 1 (s.thn.map T.int)), D.t (.list 1 (s.els.map T.int))][z.toNat]? = some (.t (T.ints (Pt s z))) := by
 unfold Pt
 rcases (by omega : z = 0 ∨ z = 1) with rfl | rfl <;> rfl
def KY (s : Stmt) (z : Int) : Int := if z = 0 then 0 else if z = 1 then s.thn.length else s.thn.length + s.els.length
theorem Pw {l : List Stmt} {k : Int} (h0 : 0 ≤ k) (h1 : k < l.length) : usesF (l.drop k.toNat) = (l[k.toNat]'(by omega)).thn.length + (l[k.toNat]'(by omega)).els.length + usesF (l.drop (k + 1).toNat) := by
 rw [Cx h0 h1, usesF]
def O9 (f : Func) (k : Int) : Prop := ∀ m : Int, 0 ≤ m → m < k → inB f.stmts.length (m + 1) (kids f.stmts m).1 ∧ inB f.stmts.length (m + 1) (kids f.stmts m).2
theorem LB {f : Func} {k : Int} (h0 : 0 ≤ k) (h1 : k < f.stmts.length) (h : O9 f k) (h2 : M2 f.stmts.length (k + 1) (f.stmts[k.toNat]'(by omega)).thn = true) (h3 : M2 f.stmts.length (k + 1) (f.stmts[k.toNat]'(by omega)).els = true) : O9 f (k + 1) := by
 intro m m0 m1
 by_cases hm : m < k
 ·exact h m m0 hm
 ·obtain rfl : m = k := by omega
  rw [kids_at (by omega)];exact ⟨inBB_iff.1 h2, inBB_iff.1 h3⟩
theorem SM {f : Func} {k z : Int} (h0 : 0 ≤ k) (h1 : k < f.stmts.length) (hz0 : 0 ≤ z) (hz1 : z < 2) (h : ¬ M2 f.stmts.length (k + 1) (Pt (f.stmts[k.toNat]'(by omega)) z) = true) : Bt f.stmts f.body = false := by
 rw [Bool.eq_false_iff];intro hs
 have hd := (shapeB_iff.1 hs).1 k h0 h1
 rw [kids_at (by omega)] at hd
 apply h
 unfold Pt;split
 ·exact inBB_iff.2 hd.1
 ·exact inBB_iff.2 hd.2
theorem RT {f : Func} {k : Int} (h0 : 0 ≤ k) (h1 : k < (BK f f.body).length) (h : ¬ (BK f f.body)[k.toNat]'(by omega) = k) : Bt f.stmts f.body = false := by
 rw [Bool.eq_false_iff];intro hs
 have := (shape_blocks.1 hs).2 k.toNat (by unfold BK at h1; omega)
 apply h
 unfold BK;rw [this]; omega
theorem R4 {f : Func} (hd : Bm f.stmts.length (kids f.stmts)) (hb : inB f.stmts.length 0 f.body) (hl : ((BK f f.body).length : Int) = f.stmts.length) (h : ∀ (k : Nat) (h : k < (BK f f.body).length), (BK f f.body)[k] = (k : Int)) : Bt f.stmts f.body = true := by
 rw [shapeB_iff];refine ⟨hd, hb, List.ext_getElem (by rw [Aw]; unfold BK at hl; omega) fun k h1 h2 => ?_⟩;rw [D5 h2];exact h k h1
theorem Nr {f : Func} (h : Bt f.stmts f.body = true) : ((BK f f.body).length : Int) = f.stmts.length := by
 unfold BK; rw [(shapeB_iff.1 h).2.2, Aw]
theorem Rq {f : Func} {k u : Int} (h0 : 0 ≤ k) (h1 : (f.stmts.length : Int) ≤ k) (hu : u + usesF (f.stmts.drop k.toNat) = f.body.length + usesF f.stmts) (h : ¬ u = f.stmts.length) : Bt f.stmts f.body = false := by
 rw [Bool.eq_false_iff];intro hs
 have := HZ hs
 have e := BC h1
 rw [e] at hu;simp only [usesF] at hu;omega
theorem SU {f : Func} (h : (f.body.any fun n => !decide (0 ≤ n ∧ n ≤ (f.stmts.length : Int) - 1)) = true) : Bt f.stmts f.body = false := by
 rw [Ic] at h;rw [Bt];simp only [TR] at h;rw [h]; simp
theorem LO {f : Func} {m : Int} (h0 : 0 ≤ m) (h1 : m < f.stmts.length) (h2 : (f.stmts[m.toNat]'(by omega)).kind = 8) (h : Kv f (f.stmts[m.toNat]'(by omega)).thn = false) : FV f = false := by
 rw [FV];exact Fk h0 h1 (by unfold CJ; rw [if_pos h2, h])
theorem Jq (f : Func) (hf : f.ok 1048576) : Fun Try.prog 68 [.t f.tt] (A2 [.t (.bool (Ag f))]) := by
  have hl : f.stmts.length ≤ 1048576 := hf.2.1.1
  have hbl : f.body.length ≤ 1048576 := hf.1
  refine Fun.begin tys Try.func68 Z Z (N := 140) [(0, .t f.tt)] Z Z (fun w0 G F0 => ?_);refine sG (AV Z Z (AA Z) Z Z (nZ Z (eZ Z (nB (sQ (sG (eK 2 Z (AM ?_))))))));refine ⟨_, Af _ _ _, rfl, ?_⟩;refine eK 2 Z ?_;refine gB (fun h1 => ?_) (fun h1 => ?_)
  ·
    simp only [HS] at h1;refine xK 2 Z (kZ [1,2,19,21,22] Z (xK 9 Z (kZ [1,2,27,31] Z (xK 7 Z (nB (Ao Z (sQ (kY [1,2] Z (rG (eZ Z (nB (rT (tR (eR ?_))))))))))))))
    · first
      | (refine retB ?_; rw [Ag, DZ]; simp only [h1, decide_false, Bool.false_and]; done)
  simp only [HS] at h1;refine xK 2 Z (kZ [1,2,19,21] Z (xK 2 Z (gY Z (AM ?_))));refine ⟨_, Af _ _ _, rfl, ?_⟩;refine xK 3 Z ?_;refine gB (fun h2 => ?_) (fun h2 => ?_)
  ·
    simp only [HS] at h2;refine xK 3 Z (kZ [1,2,27,31] Z (xK 7 Z (nB (Ao Z (sQ (kY [1,2] Z (rG (eZ Z (nB (rT (tR (eR ?_))))))))))))
    · first
      | (refine retB ?_; rw [Ag, DZ]; simp only [h2, decide_false, Bool.false_and, Bool.and_false]; done)
  simp only [HS] at h2;refine xK 2 Z (gY Z (evE ?_));refine kZ [1,2,27,30] Z (xK 3 Z ?_);refine gB (fun h3 => ?_) (fun h3 => ?_)
  ·
    simp only [HS] at h3;refine xK 4 Z (nB (Ao Z (sQ (kY [1,2] Z (rG (eZ Z (nB (rT (tR (eR ?_))))))))))
    · first
      | (refine retB ?_; rw [Ag, DZ]; simp only [Int.not_le.2 h3, decide_false, Bool.false_and, Bool.and_false]; done)
  simp only [HS] at h3;refine eZ Z ?_
  try refine WO_le (Le.freeze (u := 34) rfl) ?_
  refine nZ Z (gY Z (AM ?_));refine ⟨_, Kj f hf, rfl, ?_⟩;refine WO_le (Le.adoptE (u := 35) 35 Z (by first | exact Iq | exact Z)) ?_;refine nZ Z (gY Z (evE ?_));refine xK 2 Z (nB ?_);refine AB Z (fun h4 => ?_) (fun h4 => ?_)
  ·
    simp only [HS] at h4;refine sQ (kY [1,2] Z (rG (eZ Z (nB (rT (tR (eR ?_)))))))
    · first
      | (refine retB ?_; rw [Ag, H3]; simp only [Int.not_le.2 h4, decide_false, Bool.false_and, Bool.and_false]; done)
  simp only [HS] at h4;refine AC (tN (sQ (kY [1,2] Z (rG (eK 2 Z (evE ?_))))));refine eZ Z (nB (sQ (sG (eK 2 Z (evE ?_)))));refine eZ Z (nB (AD ?_));refine lK (α := Int × Int) [1, 43, 44] [1] (fun x => [(45, .t (.int (x.1))), (3, .t (.int (x.2)))]) (fun x => []) (fun x => 0 ≤ (x.1) ∧ (x.1) ≤ f.stmts.length ∧ f.stmts.length ≤ 16 ∧ DZ f = true ∧ H3 f = true ∧ 0 ≤ (x.2) ∧ (x.2) ≤ 1048576 + (x.1) * 2097152 ∧ (x.2) + usesF (f.stmts.drop (x.1).toNat) = f.body.length + usesF f.stmts ∧ O9 f (x.1)) (fun x => Int.toNat (f.stmts.length - (x.1))) (0, f.body.length) ?_ (fun x hx => ?_)
  · exact ⟨by omega, by omega, by omega, by simp [DZ, h1, h2, h3], by simp [H3, h4], by omega, by omega, by simp, fun m h h' => by omega⟩
  obtain ⟨k, u⟩ := x
  obtain ⟨hk0, hk1, hN, hnum, hsite, hu0, hu1, hu, hdn⟩ := hx
  dsimp only at hk0 hk1 hN hnum hsite hu0 hu1 hu hdn ⊢;refine nY Z (sG (eZ Z (nB (sQ ?_))));refine AB Z (fun h5 => ?_) (fun h5 => ?_)
  ·
    simp only [HS] at h5;refine AC (tN (sQ (AD (sG (eZ Z ?_)))));refine iY (k := ?_);refine eZ Z ?_
    try refine WO_le (Le.freeze (u := 49) rfl) ?_
    refine nZ Z (AF tys Z Z (AA Z) Z Z Z (nZ Z (AF tys Z Z (AA Z) Z Z Z (nZ Z (sT Z (nZ Z (sT Z (nZ Z (nB (sQ (kY [1,3,4,5,43,44,45,46,47,48,49] Z (rG (eK 4 Z (Pd (e := 27) Z Z (AA Z) Z (by kernel_rfl) (by kernel_rfl) (by kernel_rfl) Z Z (eZ Z ?_)))))))))))))));refine nB (AD ?_);refine lK (α := Int × Int) [1, 4, 5, 43, 44, 45, 54] [1, 4, 5] (fun x => [(55, .t (.int (x.1))), (3, .t (.int (x.2)))]) (fun x => []) (fun x => 0 ≤ (x.1) ∧ (x.1) ≤ 2 ∧ (x.2) = u + KY (f.stmts[k.toNat]'(by omega)) (x.1) ∧ (1 ≤ (x.1) → M2 f.stmts.length (k + 1) (f.stmts[k.toNat]'(by omega)).thn = true) ∧ (2 ≤ (x.1) → M2 f.stmts.length (k + 1) (f.stmts[k.toNat]'(by omega)).els = true)) (fun x => Int.toNat (2 - (x.1))) (0, u) ?_ (fun x hx => ?_)
    · exact ⟨by omega, by omega, by simp [KY], by omega, by omega⟩
    obtain ⟨z, v⟩ := x
    obtain ⟨hz0, hz1, hv, hz2, hz3⟩ := hx
    dsimp only at hz0 hz1 hv hz2 hz3 ⊢;refine nY Z (sG (eZ Z (nB (sQ ?_))));refine AB Z (fun h6 => ?_) (fun h6 => ?_)
    ·
      simp only [HS] at h6;refine AC (tN (sQ (AD (sG (PZ (e := 27) (len := 2) Z Z (AA Z) Z (by kernel_rfl) (by kernel_rfl) (by kernel_rfl) Z Z Z (by omega) (pick2 (by omega) (by omega)) Z (eZ Z (nA (eK 2 Z (evE ?_)))))))))
      have hbz : 0 ≤ (Pt (f.stmts[k.toNat]'(by omega)) z).length ∧ (Pt (f.stmts[k.toNat]'(by omega)) z).length ≤ 1048576 := by
        have := Bw hf (n := k.toNat) (by omega)
        unfold Pt
        split <;> omega
      have huz : 0 ≤ KY (f.stmts[k.toNat]'(by omega)) z ∧ KY (f.stmts[k.toNat]'(by omega)) z ≤ 2097152 := by
        have := Bw hf (n := k.toNat) (by omega)
        unfold KY;split
        · omega
        · split <;> omega
      refine evI ?_;refine eZ Z (nB (sQ (kY [1,3,4,5,7,43,44,45,54,55,56,57,58,59,60,61] Z (rG (eK 2 Z (AM ?_))))));refine ⟨_, Fz _ (fun n => !decide (k + 1 ≤ n ∧ n ≤ f.stmts.length - 1)) _ [.rp (.agg [T.int k]) 0, .rp f.tt 0] Z (by omega) (fun n _ => IK n k f hl (by omega)), rfl, ?_⟩;refine nB ?_;refine AB Z (fun h7 => ?_) (fun h7 => ?_)
      ·
        refine sG (eZ Z (nB (rT (bR (tR (AP (bR (bR (tR (AP (bR (tR (eR ?_)))))))))))))
        · first
          | (refine retB ?_; rw [Ag, SM hk0 h5 hz0 h6 (by rw [Ic] at h7; simpa using h7)]; simp; done)
      refine AC (bN (tN (rG (evI ?_))));refine eZ Z (oN ?_);refine lQ (_, _) ?_ ?_
      · dsimp only
        have h7' : M2 f.stmts.length (k + 1) (Pt (f.stmts[k.toNat]'(by omega)) z) = true := by rw [Ic] at h7; simpa using h7
        rcases (by omega : z = 0 ∨ z = 1) with rfl | rfl
        · exact ⟨by omega, by omega, by simp [KY, Pt] at hv ⊢; omega, fun _ => h7', by omega⟩
        · exact ⟨by omega, by omega, by simp [KY, Pt] at hv ⊢; omega, fun _ => hz2 (by omega), fun _ => h7'⟩
      · (show Int.toNat _ < Int.toNat _); omega
    simp only [HS] at h6;refine AN (tE (AJ (AI (bN (tN (rG (evI ?_)))))));refine eZ Z (oN ?_);refine lQ (_, _) ?_ ?_
    · dsimp only
      have hz : z = 2 := by omega
      subst hz
      have hua := Pw hk0 h5
      have hv' : v = u + ((f.stmts[k.toNat]'(by omega)).thn.length + (f.stmts[k.toNat]'(by omega)).els.length) := hv
      have hso := Bw hf (n := k.toNat) (by omega)
      exact ⟨by omega, by omega, hN, hnum, hsite, by omega, by omega, by omega, LB hk0 h5 hdn (hz2 (by omega)) (hz3 (by omega))⟩
    · (show Int.toNat _ < Int.toNat _); omega
  simp only [HS] at h5;refine AN (tE (AJ (AI (tN (sQ (sG (eK 3 Z (evE ?_))))))));refine eK 2 Z ?_;refine gB (fun h6 => ?_) (fun h6 => ?_)
  ·
    simp only [HS] at h6;refine xK 2 Z (kZ [1,72,74,75] Z (xK 2 Z (nB (Ao Z (sG (eZ Z (nB (rT (tR (eR ?_))))))))))
    · first
      | (refine retB ?_; rw [Ag, Rq hk0 h5 hu h6]; simp; done)
  simp only [HS] at h6;refine xK 2 Z (kZ [1,72,74] Z (xZ Z (gY Z (AM ?_))));refine ⟨_, Fz _ (fun n => !decide (0 ≤ n ∧ n ≤ f.stmts.length - 1)) _ [.rp f.tt 0] Z (by omega) (fun n _ => IJ n f hl), rfl, ?_⟩;refine eZ Z (nB ?_);refine AB Z (fun h7 => ?_) (fun h7 => ?_)
  ·
    refine sG (eZ Z (nB (rT (tR (eR ?_)))))
    · first
      | (refine retB ?_; rw [Ag, SU h7]; simp; done)
  refine AC (tN (sG ?_))
  have hd : Bm f.stmts.length (kids f.stmts) := fun m m0 m1 => hdn m m0 (by omega)
  have hb : inB f.stmts.length 0 f.body := inBB_iff.1 (by rw [Ic] at h7; simpa using h7)
  have hue : f.body.length + usesF f.stmts = f.stmts.length := by
    have e := BC h5
    rw [e] at hu;simp only [usesF] at hu;omega
  have hol : (BK f f.body).length ≤ 1048576 := FM hd hb (by omega) (by omega)
  refine eZ Z ?_
  try refine WO_le (Le.freeze (u := 78) rfl) ?_
  refine nZ Z (eK 2 Z ?_)
  skip
  skip
  refine nZ Z (F8 (u := 81) (az := [.tmp 78, .tmp 80]) Z Z (AA Z) Z Z Z Z (.inr ⟨rfl, _, rfl⟩) (Fc f hf hd hb hbl hol) (WO_le (Le.adoptE (u := 81) 81 Z (by first | exact Iq | exact Z)) ?_));refine nZ Z (eZ Z (nB (sQ (sQ (kY [1,8] Z (rG (eZ Z (evE ?_))))))));refine eZ Z (nB (AD ?_));refine lK (α := Int) [1, 8, 82, 83] [1, 81] (fun x => [(84, .t (.int x))]) (fun x => []) (fun x => 0 ≤ x ∧ x ≤ (BK f f.body).length ∧ ∀ (q : Nat) (h : q < (BK f f.body).length), q < x → (BK f f.body)[q] = (q : Int)) (fun x => Int.toNat ((BK f f.body).length - x)) 0 ?_ (fun j hx => ?_)
  · exact ⟨by omega, by omega, fun q h h' => by omega⟩
  obtain ⟨hj0, hj1, hj⟩ := hx
  refine nY Z (sG (eZ Z (nB (sQ ?_))));refine AB Z (fun h8 => ?_) (fun h8 => ?_)
  ·
    simp only [HS] at h8;refine AC (tN (sQ (AD (sG (eZ Z (Ae tys Z Z (AA Z) Z Z Z Z Z Z Z Z (by omega) (by omega) (Al tys Z Z (AA Z) Z Z Z Z (D1 _ _ (by omega) (by omega)) Z (eK 2 Z (nA (eK 3 Z (kZ [1,8,9,10,82,83,84,85,86,87,88,89,90,91] Z (nB ?_))))))))))));refine AB Z (fun h9 => ?_) (fun h9 => ?_)
    ·
      simp only [HS] at h9;refine sG (eZ Z (nB (rT (bR (tR (AP (bR (tR (eR ?_)))))))))
      · first
        | (refine retB ?_; rw [Ag, RT hj0 h8 h9]; simp; done)
    simp only [HS] at h9;refine AC (bN (tN (rG (evI ?_))));refine eZ Z (oN ?_);refine lQ _ ?_ ?_
    · skip
      refine ⟨by omega, by omega, fun q h h' => ?_⟩
      by_cases hq : (q : Int) < j
      · exact hj q h hq
      · obtain rfl : q = j.toNat := by omega
        omega
    · (show Int.toNat _ < Int.toNat _); omega
  simp only [HS] at h8;refine AN (tE (AJ (AI (tN (sQ (sG (eK 2 Z (evE ?_))))))));refine eZ Z (nB (AD ?_));refine lK (α := Int) [1, 8, 94, 95] [1, 81] (fun x => [(96, .t (.int x))]) (fun x => []) (fun x => 0 ≤ x ∧ x ≤ f.stmts.length ∧ (((BK f f.body).length : Int) = f.stmts.length → (f.stmts.take x.toNat).all (CJ f) = true)) (fun x => Int.toNat (f.stmts.length - x)) 0 ?_ (fun m hx => ?_)
  · exact ⟨by omega, by omega, fun _ => by simp⟩
  obtain ⟨hm0, hm1, hmw⟩ := hx
  refine nY Z (sG (eZ Z (nB (sQ ?_))));refine AB Z (fun h9 => ?_) (fun h9 => ?_)
  ·
    simp only [HS] at h9;refine AC (tN (sQ (AD (sG (eZ Z ?_)))));refine iY (k := ?_);refine eZ Z ?_
    try refine WO_le (Le.freeze (u := 100) rfl) ?_
    refine nZ Z (AF tys Z Z (AA Z) Z Z Z (nZ Z ?_))
    have hmt : m.toNat < f.stmts.length := by omega
    have hbt : inB f.stmts.length 0 (f.stmts[m.toNat]'hmt).thn := by
      have := (hd m (by omega) (by omega)).1
      rw [kids_at hmt] at this;exact Ba this (by omega)
    have hut := Di f.stmts hmt
    have hul := LP f.stmts m.toNat
    have hot : (BK f (f.stmts[m.toNat]'hmt).thn).length ≤ 1048576 := FM hd hbt (by omega) (by omega)
    refine eZ Z (sT Z (nZ Z (nB (sQ (kY [1,8,11,12,94,95,96,97,98,99,100] Z (rG (eK 4 Z ?_)))))));refine gB (fun h10 => ?_) (fun h10 => ?_)
    ·
      simp only [HS] at h10;refine xK 5 Z (kZ [1,8,11,12,94,95,96,97,98,99,100,101,102,103,104,105,106,107,108,109,110] Z (eZ Z (nB (A8 Z (AC (bN (tN (rG (evI ?_)))))))));refine eZ Z (oN ?_);refine lQ _ ?_ ?_
      · skip
        refine ⟨by omega, by omega, fun he => DE hm0 (by omega) (hmw he) ?_⟩
        first
        | (unfold CJ; rw [if_neg (by omega)]; done)
      · (show Int.toNat _ < Int.toNat _); omega
    simp only [HS] at h10;refine eZ Z (gY Z (evE ?_));refine xK 2 Z (gY Z (evE ?_));refine kZ [1,8,11,12,94,95,96,97,98,99,100,101,102,103,104,105,106,107,108,109] Z (xK 2 Z (nB ?_));refine AB Z (fun h11 => ?_) (fun h11 => ?_)
    ·
      simp only [HS] at h11;refine sQ (LH 7 9 BE Z Z Z Z Z Z Z (AA Z) (by kernel_rfl) (by kernel_rfl) (by kernel_rfl) (by kernel_rfl) (by kernel_rfl) (evQ ?_));refine evQ ?_;refine evQ ?_;refine evQ ?_;refine AR Z (A9 tys Z Z (AA Z) Z Z Z Z Z Z Z (by omega) _ (EK _ _ (by omega) (by omega)) (evQ ?_));refine evQ ?_;refine A7 (WO_le (Le.freeze (u := 112) Z) ?_)
      skip
      refine nZ Z (F8 (u := 119) (az := [.tmp 112, .tmp 118]) Z Z (AA Z) Z Z Z Z (.inr ⟨rfl, _, rfl⟩) (Fc f hf hd hbt (Bw hf _).1 hot) (WO_le (Le.adoptE (u := 119) 119 Z (by first | exact Iq | exact Z)) ?_));refine nZ Z (evE ?_);refine oN (nQ_n (tN (AD ?_)));refine lK (α := Int) [1, 8, 94, 95, 96, 119, 120] [1, 81, 119] (fun x => [(121, .t (.int x))]) (fun x => []) (fun x => 0 ≤ x ∧ x ≤ (BK f (f.stmts[m.toNat]'(by omega)).thn).length ∧ ((BK f (f.stmts[m.toNat]'(by omega)).thn).take x.toNat).all (fun n => decide (¬ Fi f n = 3)) = true) (fun x => Int.toNat ((BK f (f.stmts[m.toNat]'(by omega)).thn).length - x)) 0 ?_ (fun r hx => ?_)
      · exact ⟨by omega, by omega, by simp⟩
      obtain ⟨hr0, hr1, hrw⟩ := hx
      refine nY Z (sG (eZ Z (nB (sQ ?_))));refine AB Z (fun h12 => ?_) (fun h12 => ?_)
      ·
        simp only [HS] at h12;refine AC (tN (sQ (AD (sG (Ae tys Z Z (AA Z) Z Z Z Z Z Z Z Z (by omega) (by omega) (Al tys Z Z (AA Z) Z Z Z Z (D1 _ _ (by omega) (by omega)) Z ?_))))))
        have hn := Ei hd hbt _ (Ss (l := BK f (f.stmts[m.toNat]'(by omega)).thn) (n := r.toNat) (by omega))
        refine eZ Z (nA (eK 3 Z ?_));refine iY (k := ?_);refine eZ Z (kZ [1,8,14,94,95,96,119,120,121,122,123,124,125,126,127,128,129] Z (eK 2 Z (nB ?_)));refine AB Z (fun h13 => ?_) (fun h13 => ?_)
        ·
          simp only [HS] at h13;refine sG (eZ Z (nB (rT (bR (tR (AP (bR (bR (tR (AP (bR (tR (eR ?_)))))))))))))
          · first
            | (have e : Kv f (f.stmts[m.toNat]'(by omega)).thn = false := (by unfold Kv; exact Fk hr0 (by omega) (by rw [Es (by omega)]; simp; omega))
               refine retB ?_; rw [Ag, LO hm0 (by omega) (by omega) e]; simp; done)
        simp only [HS] at h13;refine AC (bN (tN (rG (evI ?_))));refine eZ Z (oN ?_);refine lQ _ ?_ ?_
        · skip
          exact ⟨by omega, by omega, DE hr0 (by omega) hrw (by rw [Es (by omega)]; simp; assumption)⟩
        · (show Int.toNat _ < Int.toNat _); omega
      simp only [HS] at h12;refine AN (tE (AJ (AI (bN (tN (rG (evI ?_)))))));refine eZ Z (oN ?_);refine lQ _ ?_ ?_
      · skip
        refine ⟨by omega, by omega, fun he => DE hm0 (by omega) (hmw he) ?_⟩
        first
        | (unfold CJ; rw [if_pos (by assumption)]; exact E2 (by omega) hrw)
      · (show Int.toNat _ < Int.toNat _); omega
    simp only [HS] at h11;refine AC (bN (tN (rG (evI ?_))));refine eZ Z (oN ?_);refine lQ _ ?_ ?_
    · skip
      refine ⟨by omega, by omega, fun he => DE hm0 (by omega) (hmw he) ?_⟩
      first
      | (unfold CJ; rw [if_neg (by omega)]; done)
    · (show Int.toNat _ < Int.toNat _); omega
  simp only [HS] at h9;refine AN (tE (AJ (AI (tN (sG (eZ Z (evE ?_)))))));refine eK 2 Z (evE ?_);refine eK 2 Z (nB (rT (eR ?_)))
  · first
    | (refine retB ?_
       rw [Ag, hnum, hsite]
       by_cases hle : ((BK f f.body).length : Int) = f.stmts.length
       · rw [R4 hd hb hle (fun q h => hj q h (by omega)), FV, E2 (by omega) (hmw hle)]; simp [hle]
       · have : Bt f.stmts f.body = false := by
           rw [Bool.eq_false_iff]; exact fun h => hle (Nr h)
         rw [this]; simp [hle])
end Go.Proofs.Ytddfnpiikkilhaa
