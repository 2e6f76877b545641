/- Walks and laws of the claim. -/
import Derived.Test.YtljnifnbldfboaaGreatFa
import Derived.Test.YtljnifnbldfboaaGreatMb
import Derived.Test.YtljnifnbldfboaaGreatMd
import Derived.Test.YtljnifnbldfboaaGreatMe
set_option linter.unusedVariables false
set_option linter.unusedSimpArgs false
set_option maxRecDepth 10000
set_option maxHeartbeats 10000000
namespace Go.Proofs.YtljnifnbldfboaaGreat
open Go.Eng
open Go.Eng
def mkI {α : Type} : List α → Int → List Int
 | [], _ => []
 | _ :: l, k => k :: mkI l (k + 1)
theorem JQ {α : Type} : ∀ (l : List α) (k : Int), (mkI l k).length = l.length
 | [], _ => rfl
 | _ :: l, k => by rw [mkI, Q1, JQ l, Q1]
theorem EP {α : Type} {g : α → T} (h : ∀ a, (g a).cells = [g a]) : ∀ l : List α, (l.map g).flatMap T.cells = l.map g
 | [] => rfl
 | a :: l => by rw [RA, Q2, h, EP h l]; rfl
theorem QQ {α : Type} {g : α → T} {done l : List α} {i : Int} (hd : done.length = i.toNat) (h0 : 0 ≤ i) (h1 : i < l.length) : ((done ++ l.drop i.toNat).map g)[i.toNat * 1]? = some (g (l[i.toNat]'(by omega))) := by
 rw [drop_at h0 h1, Nat.mul_one, List.getElem?_map, O9 hd]; rfl
theorem set1 {α : Type} {g : α → T} {done l : List α} {i : Int} (hd : done.length = i.toNat) (h0 : 0 ≤ i) (h1 : i < l.length) (y : α) : ((done ++ l.drop i.toNat).map g).set (i.toNat * 1) (g y) = ((done ++ [y]) ++ l.drop (i + 1).toNat).map g := by
 rw [drop_at h0 h1, Nat.mul_one, ← RR, OS hd]
theorem IM (k : Int) : Fun Tryz.prog 13 [.t (.list 1 []), .t (.int k)] (Ay [.t (.int k)]) := by
 refine Fun.begin tys Tryz.func13 Z Z (N := 19) [(0, .t (.list 1 [])), (1, .t (.int k))] Z Z (fun w0 G F0 => ?_);refine sG (eZ Z (nB (sQ (sG (eZ Z (nB (AH ?_)))))));refine lK (α := Int) [0, 1] [] (fun x => [(5, .t (.int x))]) (fun x => []) (fun x => 0 ≤ x) (fun x => Int.toNat (0)) 0 ?_ (fun z hx => ?_)
 ·exact Q8 0
 have hz := hx
 refine nY Z (sQ (sG (eK 2 Z (evE ?_))));refine eZ Z (nB ?_);refine AC Z (fun h1 => ?_) (fun h1 => ?_)
 ·
  simp only [HS] at h1
  exfalso; simp at h1; omega
 simp only [HS] at h1;refine AW (tE (AN (AO (tN (sG (eK 2 Z (nB (rT (eR ?_)))))))))
 ·rfl
theorem El (l : List Int) (k : Int) (hk : 0 ≤ k) (hb : k + l.length ≤ 1073741824) : MarkF Tryz.prog 13 (.list 1 (l.map T.int)) (k) (k + l.length) (.list 1 ((mkI l k).map T.int)) := by
 refine MarkF.slice Tryz.func13 rfl rfl (N := 19) rfl (fun y hy => (by obtain ⟨a, _, rfl⟩ := RB.1 hy; rfl) ) ( by simp [JQ]) (fun h => by cases l with | nil => (rw [show k + (([] : List Int).length : Int) = k from by simp]; exact IM k) | cons _ _ => simp at h) (fun b cap vs w0 G F0 => ?_);refine sG (eZ Z (nB (sQ (sG (eZ Z (nB (AH ?_)))))));refine lK (α := Int × Int × List Value × List T) [0] [] (fun x => [(5, .t (.int (x.1))), (1, .t (.int (x.2.1)))]) (fun x => [(19, .raw b (cap * 1) (x.2.2.1) (x.2.2.2))]) (fun x => 0 ≤ (x.1) ∧ (x.1) ≤ l.length ∧ (x.2.1) = k + (x.1) ∧ ∃ done : List Int, done.length = (x.1).toNat ∧ (x.2.2.2) = (done ++ l.drop (x.1).toNat).map T.int ∧ mkI l k = done ++ mkI (l.drop (x.1).toNat) (x.2.1)) (fun x => Int.toNat (l.length - (x.1))) (0, k, vs, (l.map T.int).flatMap T.cells) ?_ (fun x hx => ?_)
 ·exact ⟨by omega, by omega, by show k = k + 0; omega, [], rfl, by rw [EP fun _ => rfl]; rfl, rfl⟩
 obtain ⟨i, k', vs', ts⟩ := x
 obtain ⟨hi0, hi1, hk', done, hd, hts, he⟩ := hx
 dsimp only at hi0 hi1 hk' hd hts he ⊢;refine nY Z (sQ (sG (eK 2 Z (Br Z Z (lt_of Z) Z ⟨3, by kernel_rfl⟩ rfl (eZ Z (nB ?_))))));refine AC Z (fun h1 => ?_) (fun h1 => ?_)
 ·
  simp only [HS] at h1;refine AD (tN (sQ (AH (sG (eK 3 Z (Bb tys Z Z (lt_of Z) Z Z Z Z Z Z (by omega) (by first | omega | (simp only [Qc]; omega)) ?_))))));refine Bq tys (id := 19) Z Z Z Z Z Z Z (by rw [hts]; exact QQ hd hi0 (by omega)) Z Z Z ?_;refine nZ Z (kZ [0,1,5,6,7,8,9,12,13,14,15] Z (nB (rG (eZ Z (evI ?_)))));refine eZ Z (oN (bN (tN (rG (eZ Z (evI ?_))))));refine eZ Z (oN ?_);refine lQ (_, _, _, _) ?_ ?_
  ·dsimp only
   exact ⟨by omega, by omega, by omega, done ++ [k'], by simp [hd]; omega, by rw [hts]; exact set1 hd hi0 h1 k', by rw [he, drop_at hi0 h1, mkI]; simp⟩
  ·(show Int.toNat _ < Int.toNat _); omega
 simp only [HS] at h1;refine AW (tE (AN (AO (tN (sG (eK 2 Z (nB (rT ?_))))))));refine CT (.inr Z) Z Z Z ?_ ?_
 ·omega
 ·rw [hts, AX h1, he, AX h1, EP fun _ => rfl]; rfl
def KL {α : Type} : List (List α) → Int → List (List Int)
 | [], _ => []
 | l :: ll, k => mkI l k :: KL ll (k + l.length)
theorem II {α : Type} : ∀ (l : List (List α)) (k : Int), (KL l k).flatten.length = l.flatten.length
 | [], _ => rfl
 | _ :: l, k => by rw [KL, List.flatten_cons, List.flatten_cons, Qf, Qf, JQ, II l]
theorem HD {α : Type} : ∀ (l : List (List α)) (k : Int), (KL l k).length = l.length
 | [], _ => rfl
 | _ :: l, k => by rw [KL, Q1, HD l, Q1]
theorem HF (k : Int) : Fun Tryz.prog 14 [.t (.list 1 []), .t (.int k)] (Ay [.t (.int k)]) := by
 refine Fun.begin tys Tryz.func14 Z Z (N := 19) [(0, .t (.list 1 [])), (1, .t (.int k))] Z Z (fun w0 G F0 => ?_);refine sG (eZ Z (nB (sQ (sG (eZ Z (nB (AH ?_)))))));refine lK (α := Int) [0, 1] [] (fun x => [(5, .t (.int x))]) (fun x => []) (fun x => 0 ≤ x) (fun x => Int.toNat (0)) 0 ?_ (fun z hx => ?_)
 ·exact Q8 0
 have hz := hx
 refine nY Z (sQ (sG (eK 2 Z (evE ?_))));refine eZ Z (nB ?_);refine AC Z (fun h1 => ?_) (fun h1 => ?_)
 ·
  simp only [HS] at h1
  exfalso; simp at h1; omega
 simp only [HS] at h1;refine AW (tE (AN (AO (tN (sG (eK 2 Z (nB (rT (eR ?_)))))))))
 ·rfl
theorem JS (l : List (List Int)) (k : Int) (hk : 0 ≤ k) (hb : k + l.flatten.length ≤ 1073741824) (hl : l.length ≤ 1073741824) : MarkF Tryz.prog 14 (.list 1 (l.map T.ints)) (k) (k + l.flatten.length) (.list 1 ((KL l k).map T.ints)) := by
 refine MarkF.slice Tryz.func14 rfl rfl (N := 19) rfl (fun y hy => (by obtain ⟨a, _, rfl⟩ := RB.1 hy; rfl) ) ( by simp [HD]) (fun h => by cases l with | nil => (rw [show k + (([] : List (List Int)).flatten.length : Int) = k from by simp]; exact HF k) | cons _ _ => simp at h) (fun b cap vs w0 G F0 => ?_);refine sG (eZ Z (nB (sQ (sG (eZ Z (nB (AH ?_)))))));refine lK (α := Int × Int × List Value × List T) [0] [] (fun x => [(5, .t (.int (x.1))), (1, .t (.int (x.2.1)))]) (fun x => [(19, .raw b (cap * 1) (x.2.2.1) (x.2.2.2))]) (fun x => 0 ≤ (x.1) ∧ (x.1) ≤ l.length ∧ k ≤ (x.2.1) ∧ (x.2.1) + (l.drop (x.1).toNat).flatten.length = k + l.flatten.length ∧ ∃ done : List (List Int), done.length = (x.1).toNat ∧ (x.2.2.2) = (done ++ l.drop (x.1).toNat).map T.ints ∧ KL l k = done ++ KL (l.drop (x.1).toNat) (x.2.1)) (fun x => Int.toNat (l.length - (x.1))) (0, k, vs, (l.map T.ints).flatMap T.cells) ?_ (fun x hx => ?_)
 ·exact ⟨by omega, by omega, Q8 k, by simp, [], rfl, by rw [EP fun _ => rfl]; rfl, rfl⟩
 obtain ⟨i, k', vs', ts⟩ := x
 obtain ⟨hi0, hi1, hkk, hk', done, hd, hts, he⟩ := hx
 dsimp only at hi0 hi1 hkk hk' hd hts he ⊢;refine nY Z (sQ (sG (eK 2 Z (Br Z Z (lt_of Z) Z ⟨25, by kernel_rfl⟩ rfl (eZ Z (nB ?_))))));refine AC Z (fun h1 => ?_) (fun h1 => ?_)
 ·
  simp only [HS] at h1;refine AD (tN (sQ (AH (rG (eK 2 Z (Bb tys Z Z (lt_of Z) Z Z Z Z Z Z (by omega) (by first | omega | (simp only [Qc]; omega)) ?_))))));refine EZ tys (id := 19) Z Z (lt_of Z) Z Z Z Z Z (by rw [hts]; exact QQ hd hi0 (by omega)) (fun u15 hu15 => ?_);refine eZ Z (kZ [0,1,5,6,7,8,9,12,13,14,15,16] Z (DC (id := 19) (j := i.toNat * 1) Z Z (lt_of Z) Z Z Z Z Z Z (hu15) (by rw [hts]; exact QQ hd hi0 (by omega)) (El _ k' (by omega) (by rw [HU hi0 h1, Qf] at hk'; omega)) ?_));refine eZ Z (oN (bN (tN (rG (eZ Z (evI ?_))))));refine eZ Z (oN ?_);refine lQ (_, _, _, _) ?_ ?_
  ·dsimp only
   exact ⟨by omega, by omega, by omega, by rw [HU hi0 h1, Qf] at hk'; omega, done ++ [mkI (l[i.toNat]'(by omega)) k'], by simp [hd]; omega, by rw [hts]; exact set1 hd hi0 h1 _, by rw [he, drop_at hi0 h1, KL]; simp⟩
  ·(show Int.toNat _ < Int.toNat _); omega
 simp only [HS] at h1;refine AW (tE (AN (AO (tN (sG (eK 2 Z (nB (rT ?_))))))));refine CT (.inr Z) Z Z Z ?_ ?_
 ·rw [AX h1] at hk'; simp only [List.flatten_nil, Qz] at hk'; omega
 ·rw [hts, AX h1, he, AX h1, EP fun _ => rfl]; simp [KL]
def DN : List Int → Int → Int
 | [], k => k
 | x :: l, k => if x = k then DN l (k + 1) else -1
theorem KU {α : Type} : ∀ (l : List α) (k : Int), DN (mkI l k) k = k + l.length
 | [], k => by simp [mkI, DN]
 | _ :: l, k => by rw [mkI, DN, if_pos rfl, KU l, Q1]; omega
theorem KW {l : List Int} {i k : Int} (h0 : 0 ≤ i) (h1 : i < l.length) : DN (l.drop i.toNat) k = if l[i.toNat]'(by omega) = k then DN (l.drop (i + 1).toNat) (k + 1) else -1 := by
 rw [drop_at h0 h1, DN]
theorem Ih (l : List Int) (k : Int) (hk : 0 ≤ k) (hb : k + l.length ≤ 1073741824) : Fun Tryz.prog 30 [.t (T.ints l), .t (.int k)] (Ay [.t (.int (DN l k))]) := by
 refine Fun.begin tys Tryz.func30 Z Z (N := 21) [(0, .t (T.ints l)), (1, .t (.int k))] Z Z (fun w0 G F0 => ?_);refine sG (eZ Z (nB (sQ (sG (eZ Z (nB (AH ?_)))))));refine lK (α := Int × Int) [0] [] (fun x => [(5, .t (.int (x.1))), (1, .t (.int (x.2)))]) (fun x => []) (fun x => 0 ≤ (x.1) ∧ (x.1) ≤ l.length ∧ (x.2) = k + (x.1) ∧ DN l k = DN (l.drop (x.1).toNat) (x.2)) (fun x => Int.toNat (l.length - (x.1))) (0, k) ?_ (fun x hx => ?_)
 ·exact ⟨by omega, by omega, by show k = k + 0; omega, rfl⟩
 obtain ⟨i, k'⟩ := x
 obtain ⟨hi0, hi1, hk', he⟩ := hx
 dsimp only at hi0 hi1 hk' he ⊢;refine nY Z (sQ (sG (eK 2 Z (evE ?_))));refine eZ Z (nB ?_);refine AC Z (fun h1 => ?_) (fun h1 => ?_)
 ·
  simp only [HS] at h1;refine AD (tN (sQ (AH (sQ (sG (eK 2 Z ?_))))));refine iY (k := ?_);refine eK 2 Z (kZ [0,1,5,6,7,8,9,12,13,14,15,16] Z (eZ Z (nB ?_)));refine AC Z (fun h2 => ?_) (fun h2 => ?_)
  ·
   simp only [HS] at h2;refine sG (eZ Z (nB (rT (tR (bR (tR (AP (bR (tR (eR ?_))))))))))
   ·rw [he, KW hi0 h1, if_neg h2]
    done
  simp only [HS] at h2;refine AD (tN (rG (eZ Z (evI ?_))));refine eZ Z (oN (bN (tN (rG (eZ Z (evI ?_))))));refine eZ Z (oN ?_);refine lQ (_, _) ?_ ?_
  ·dsimp only
   exact ⟨by omega, by omega, by omega, by rw [he, KW hi0 h1, if_pos (by assumption)]⟩
  ·(show Int.toNat _ < Int.toNat _); omega
 simp only [HS] at h1;refine AW (tE (AN (AO (tN (sG (eK 2 Z (nB (rT (eR ?_)))))))))
 ·rw [he, AX h1]
  rfl
def Dm : List (List Int) → Int → Int
 | [], k => k
 | l :: ll, k => if DN l k < 0 then -1 else Dm ll (DN l k)
theorem Ie {α : Type} : ∀ (l : List (List α)) (k : Int), 0 ≤ k → Dm (KL l k) k = k + l.flatten.length
 | [], k, _ => by simp [KL, Dm]
 | l :: ll, k, h => by
  rw [KL, Dm, KU, if_neg (by omega), Ie ll _ (by omega), List.flatten_cons, Qf];omega
theorem Ig {l : List (List Int)} {i k : Int} (h0 : 0 ≤ i) (h1 : i < l.length) : Dm (l.drop i.toNat) k = if DN (l[i.toNat]'(by omega)) k < 0 then -1 else Dm (l.drop (i + 1).toNat) (DN (l[i.toNat]'(by omega)) k) := by
 rw [drop_at h0 h1, Dm]
theorem KV : ∀ (l : List Int) (k : Int), 0 ≤ k → DN l k ≤ k + l.length
 | [], k, _ => by simp [DN]
 | x :: l, k, h => by
  rw [DN];split
  ·have := KV l (k + 1) (by omega); rw [Q1]; omega
  ·omega
theorem HL (l : List (List Int)) (k : Int) (hk : 0 ≤ k) (hb : k + l.flatten.length ≤ 1073741824) (hl : l.length ≤ 1073741824) : Fun Tryz.prog 15 [.t (Fh l), .t (.int k)] (Ay [.t (.int (Dm l k))]) := by
 refine Fun.begin tys Tryz.func15 Z Z (N := 21) [(0, .t (Fh l)), (1, .t (.int k))] Z Z (fun w0 G F0 => ?_);refine sG (eZ Z (nB (sQ (sG (eZ Z (nB (AH ?_)))))));refine lK (α := Int × Int) [0] [] (fun x => [(5, .t (.int (x.1))), (1, .t (.int (x.2)))]) (fun x => []) (fun x => 0 ≤ (x.1) ∧ (x.1) ≤ l.length ∧ 0 ≤ (x.2) ∧ (x.2) + (l.drop (x.1).toNat).flatten.length ≤ 1073741824 ∧ Dm l k = Dm (l.drop (x.1).toNat) (x.2)) (fun x => Int.toNat (l.length - (x.1))) (0, k) ?_ (fun x hx => ?_)
 ·exact ⟨by omega, by omega, hk, by simpa using hb, rfl⟩
 obtain ⟨i, k'⟩ := x
 obtain ⟨hi0, hi1, hkk, hk', he⟩ := hx
 dsimp only at hi0 hi1 hkk hk' he ⊢;refine nY Z (sQ (sG (eK 2 Z (evE ?_))));refine eZ Z (nB ?_);refine AC Z (fun h1 => ?_) (fun h1 => ?_)
 ·
  simp only [HS] at h1;refine AD (tN (sQ (AH (sG (eK 2 Z ?_)))));refine iY (k := ?_);refine eK 2 Z (kZ [0,1,5,6,7,8,9,12,13,14,15,16] Z (AS ?_));refine ⟨_, Ih _ _ hkk (by rw [HU hi0 h1, Qf] at hk'; omega), rfl, ?_⟩;refine eZ Z (nA (eK 2 Z (nB ?_)));refine AC Z (fun h2 => ?_) (fun h2 => ?_)
  ·
   simp only [HS] at h2;refine sG (eZ Z (nB (rT (bR (tR (AP (bR (tR (eR ?_)))))))))
   ·rw [he, Ig hi0 h1, if_pos h2]
    done
  simp only [HS] at h2;refine AD (bN (tN (rG (eZ Z (evI ?_)))));refine eZ Z (oN ?_);refine lQ (_, _) ?_ ?_
  ·dsimp only
   have q := KV (l[i.toNat]'(by omega)) k' hkk; exact ⟨by omega, by omega, by omega, by rw [HU hi0 h1, Qf] at hk'; omega, by rw [he, Ig hi0 h1, if_neg (by omega)]⟩
  ·(show Int.toNat _ < Int.toNat _); omega
 simp only [HS] at h1;refine AW (tE (AN (AO (tN (sG (eK 2 Z (nB (rT (eR ?_)))))))))
 ·rw [he, AX h1]
  rfl
open Go.Eng
def mkL {α : Type} (mk : α → Int → α) (ct : α → Int) : List α → Int → List α
 | [], _ => []
 | x :: l, k => mk x k :: mkL mk ct l (k + ct x)
def ctL {α : Type} (ct : α → Int) (l : List α) : Int := (l.map ct).sum
section
variable {α : Type}
theorem HE (mk : α → Int → α) (ct : α → Int) : ∀ (l : List α) (k : Int), (mkL mk ct l k).length = l.length
 | [], _ => rfl
 | _ :: l, k => by rw [mkL, Q1, HE mk ct l, Q1]
theorem Jn (ct : α → Int) : ctL ct [] = 0 := rfl
theorem ES (ct : α → Int) (x : α) (l : List α) : ctL ct (x :: l) = ct x + ctL ct l := by simp [ctL]
theorem NN (ct : α → Int) {l : List α} {i : Int} (h0 : 0 ≤ i) (h1 : i < l.length) : ctL ct (l.drop i.toNat) = ct (l[i.toNat]'(by omega)) + ctL ct (l.drop (i + 1).toNat) := by
 rw [drop_at h0 h1, ES]
theorem C8 {ct : α → Int} {m : Int} (h : ∀ x, m ≤ ct x) (l : List α) (hm : 0 ≤ m := by decide) : 0 ≤ ctL ct l := by
 induction l with
 | nil => exact Q8 0
 | cons x l ih => have := h x; rw [ES]; omega
theorem Jo {ct : α → Int} (h : ∀ x, 1 ≤ ct x) (l : List α) : (l.length : Int) ≤ ctL ct l := by
 induction l with
 | nil => exact Q8 0
 | cons x l ih => have := h x; rw [ES, Q1]; omega
theorem fget {D L : List α} {m f : Nat} (h : D.length = m) : (D ++ L)[m + f]? = L[f]? := by
 subst h; rw [List.getElem?_append_right (by omega)]; congr 1; omega
theorem Es {D L : List α} {m f : Nat} {y : α} (h : D.length = m) (e : L[f]? = some y) : (D ++ L)[m + f]? = some y := (fget h).trans e
theorem E0 {D L : List α} {m f : Nat} {y : α} (h : D.length = m) : (D ++ L).set (m + f) y = D ++ L.set f y := by
 subst h; rw [List.set_append_right _ _ (by omega)]; congr 2; omega
theorem Fk {cl : α → List T} {n : Nat} (h : ∀ x, (cl x).length = n) (done : List α) {i : Int} (hd : done.length = i.toNat) : (done.flatMap cl).length = i.toNat * n := by
 rw [← hd]; clear hd
 induction done with
 | nil => simp
 | cons x l ih => rw [Q2, Qf, h, ih, Q1, Nat.succ_mul]; omega
end
theorem Ez {α : Type} (l : List (List α)) (k : Int) (hk : 0 ≤ k) (hb : k + l.flatten.length ≤ 1073741824) (hl : l.length ≤ 1073741824) : Fun Tryz.prog 15 [.t (Fh (KL l k)), .t (.int k)] (.t (.int (k + l.flatten.length))) := by
 rw [← Ie l k hk]; exact HL _ k hk (by rw [II]; exact hb) (by rw [HD]; exact hl)
def SzC (f : Int → Int) (c : Int) : Prop := ∀ left : Int, 0 ≤ left → 0 ≤ f left → c + 8 * f left ≤ 8 * left
theorem OK (l : List Int) : SzC (GH l) l.length := by
 intro left h0 h;unfold GH szN at *
 split at h <;> (try split) <;> omega
theorem Jx : SzC (Ck []) 0 := fun left h0 h => by simp [Ck]
theorem E6 {f : Int → Int} {fs : List (Int → Int)} {c d : Int} (h1 : SzC f c) (h2 : SzC (Ck fs) d) : SzC (Ck (f :: fs)) (c + d) := by
 intro left h0 h;rw [Ck] at h ⊢;split at h
 ·omega
 ·rename_i hf
  rw [if_neg hf]
  have := h1 left h0 (by omega)
  have := h2 (f left) (by omega) h
  omega
theorem SzC.mono {f : Int → Int} {c d : Int} (h : SzC f c) (hd : d ≤ c) : SzC f d := fun left h0 hf => by have := h left h0 hf; omega
theorem L8 {α : Type} {f : α → Int → Int} {ct : α → Int} : ∀ (l : List α), (∀ x, x ∈ l → SzC (f x) (ct x - 8)) → ∀ (left : Int), 0 ≤ left → 0 ≤ JE f l left → ctL ct l - 8 * l.length + 8 * JE f l left ≤ 8 * left
 | [], _, left, h0, _ => by simp [JE, ctL]
 | x :: l, h, left, h0, hg => by
  rw [JE] at hg ⊢;split at hg
  ·omega
  ·rename_i hf
   rw [if_neg hf]
   have h1 := h x (Q9 ..) left h0 (by omega)
   have h2 := L8 l (fun y hy => h y (Qy _ hy)) (f x left) (by omega) hg
   rw [ES, Q1];omega
theorem szL_cm {α : Type} {f : α → Int → Int} {ct : α → Int} (l : List α) (h : ∀ x, x ∈ l → SzC (f x) (ct x - 8)) : SzC (szL f l) (ctL ct l) := by
 intro left h0 hg;unfold szL at hg ⊢;split at hg
 ·omega
 ·rename_i hf
  rw [if_neg hf]
  have := L8 l h (left - l.length) (by omega) hg
  omega
theorem szL_c {α : Type} {f : α → Int → Int} {ct : α → Int} (h : ∀ x, SzC (f x) (ct x - 8)) (l : List α) : SzC (szL f l) (ctL ct l) := szL_cm l fun x _ => h x
theorem Jy {α : Type} {ct : α → Int} (h : ∀ x, ct x ≤ 8) (l : List α) : SzC (Eg l) (ctL ct l) := by
 have e : ctL ct l ≤ 8 * l.length := by
  induction l with
  | nil => simp [ctL]
  | cons x l ih => have := h x; rw [ES, Q1]; omega
 intro left h0 hg;unfold Eg szN at *
 split at hg <;> (try split) <;> omega
open Go.Eng
def w64 (n : Int) : Int := IntKind.i64.wrap n
def w32 (n : Int) : Int := IntKind.i64.wrap (IntKind.i32.wrap n)
def A8 (op x y : Int) : Option Int :=
 if op = 3 then some (w32 (w64 (x + y))) else if op = 4 then some (w32 (w64 (x - y))) else if op = 5 then some (w32 (w64 (x * y)))
 else if op = 6 then (if y = 0 then none else some (w32 (w64 (x.tdiv y)))) else if op = 7 then some (if x < y then 1 else 0) else some (if x = y then 1 else 0)
open Go.Eng
def ptr (b : Nat) : Value := .pointer (some ⟨b, 0, none⟩)
theorem F9 {b b' : Int} (h : b = b') : Ay [D.t (T.v (Value.int .i64 b))] = D.t (T.int b') := by rw [h]; rfl
theorem Db (n : Int) : Fun Tryz.prog 89 [.t (.int n)] (Ay [.t (.int (w32 n))]) := by
 refine Fun.begin tys Tryz.func89 Z Z (N := 6) [(0, .t (.int n))] Z Z (fun w0 G F0 => ?_);refine sG (eZ Z (nA (eZ Z (Ci (td := .int .i64) (k := .i32) Z Z (lt_of Z) Z (by kernel_rfl) (by kernel_rfl) Z (Ci (td := .int .i32) (k := .i64) Z Z (lt_of Z) Z (by kernel_rfl) (by kernel_rfl) Z (eZ Z (nB (rT (eR ?_)))))))))
 ·rfl
def reckV (op x y : Int) : Int := (A8 op x y).getD 0
theorem Gw {a a' : Int} {b b' : Bool} (h : a = a') (h' : b = b') : [D.t (T.v (Value.int .i64 a)), D.t (T.v (Value.bool b))] = [D.t (T.int a'), D.t (T.bool b')] := by rw [h, h']
theorem IX (op x y : Int) : Fun Tryz.prog 69 [.t (.int op), .t (.int x), .t (.int y)] (Ay [.t (.int (reckV op x y)), .t (.bool (A8 op x y).isSome)]) := by
 refine Fun.begin tys Tryz.func69 Z Z (N := 45) [(0, .t (.int op)), (1, .t (.int x)), (2, .t (.int y))] Z Z (fun w0 G F0 => ?_);refine sG (eK 2 Z (nA (eZ Z (nB (sQ (sG (eZ Z (nB (AH (sG (eK 2 Z (nB ?_))))))))))));refine AC Z (fun h1 => ?_) (fun h1 => ?_)
 ·
  simp only [HS] at h1;refine sG (eK 3 Z (kZ [6,7,8,17] Z (AS ?_)));refine ⟨_, Db _, rfl, ?_⟩;refine eK 2 Z (nB (rT (bR (tR (eR ?_)))))
  ·exact Gw (by grind [reckV, A8, w64]) (by grind [A8])
 simp only [HS] at h1;refine sG (eK 2 Z (nB ?_));refine AC Z (fun h2 => ?_) (fun h2 => ?_)
 ·
  simp only [HS] at h2;refine sQ (kY [1,2,6,7,8] Z (rG (eK 3 Z (AS ?_))));refine ⟨_, Db _, rfl, ?_⟩;refine eK 2 Z (nB (rT (bR (tR (eR ?_)))))
  ·exact Gw (by grind [reckV, A8, w64]) (by grind [A8])
 simp only [HS] at h2;refine sQ (kY [1,2,6,7,8,9] Z (rG (eK 2 Z (nB ?_))));refine AC Z (fun h3 => ?_) (fun h3 => ?_)
 ·
  simp only [HS] at h3;refine sG (eK 3 Z (AS ?_));refine ⟨_, Db _, rfl, ?_⟩;refine eK 2 Z (nB (rT (bR (tR (eR ?_)))))
  ·exact Gw (by grind [reckV, A8, w64]) (by grind [A8])
 simp only [HS] at h3;refine sG (eK 2 Z (nB ?_));refine AC Z (fun h4 => ?_) (fun h4 => ?_)
 ·
  simp only [HS] at h4;refine sQ (sG (eK 2 Z (nB ?_)));refine AC Z (fun h5 => ?_) (fun h5 => ?_)
  ·
   simp only [HS] at h5;refine sG (eK 2 Z (nB (rT (tR (bR (tR (eR ?_)))))))
   ·exact Gw (by grind [reckV, A8, w64]) (by grind [A8])
  simp only [HS] at h5;refine AD (tN (sG (eK 2 Z (Pm Z Z (lt_of Z) Z Z Z (by first | decide | omega) ?_))));refine kZ [6,7,8,37] Z (AS ?_);refine ⟨_, Db _, rfl, ?_⟩;refine eK 2 Z (nB (rT (bR (tR (eR ?_)))))
  ·exact Gw (by grind [reckV, A8, w64]) (by grind [A8])
 simp only [HS] at h4;refine sG (eK 2 Z (nB ?_));refine AC Z (fun h5 => ?_) (fun h5 => ?_)
 ·
  simp only [HS] at h5;refine rG (eK 3 Z (kZ [6,7,8,43] Z (eZ Z (oN (bN (tN (sQ (sG (eZ Z (nB ?_))))))))));refine AC Z (fun h6 => ?_) (fun h6 => ?_)
  ·
   simp only [HS] at h6;refine sG (eK 2 Z (nB (rT (tR (eR ?_)))))
   ·exact Gw (by grind [reckV, A8, w64]) (by grind [A8])
  simp only [HS] at h6;refine AD (tN (sG (eK 2 Z (nB (rT (eR ?_))))))
  ·exact Gw (by grind [reckV, A8, w64]) (by grind [A8])
 simp only [HS] at h5;refine rG (eK 3 Z (kZ [6,7,8,12] Z (eZ Z (oN (bN (tN (sQ (sG (eZ Z (nB ?_))))))))));refine AC Z (fun h6 => ?_) (fun h6 => ?_)
 ·
  simp only [HS] at h6;refine sG (eK 2 Z (nB (rT (tR (eR ?_)))))
  ·exact Gw (by grind [reckV, A8, w64]) (by grind [A8])
 simp only [HS] at h6;refine AD (tN (sG (eK 2 Z (nB (rT (eR ?_))))))
 ·exact Gw (by grind [reckV, A8, w64]) (by grind [A8])
open Go.Eng
structure Frame where
 id : Int
 fn : Int
 at' : Int
 pile : List Int
 vars : List Int
 flags : List Bool
 res : Int
 mode : Int
 value : Int
 base : Int
 off : Bool
structure Note where
 kind : Int
 id : Int
 site : Int
abbrev T.flags (l : List Bool) : T := .list 1 (l.map T.bool)
abbrev Frame.tt (f : Frame) : T := .agg [T.int f.id, T.int f.fn, T.int f.at', .list 1 (f.pile.map T.int), .list 1 (f.vars.map T.int), T.flags f.flags, T.int f.res, T.int f.mode, T.int f.value, T.int f.base, T.bool f.off]
abbrev Note.tt (n : Note) : T := .agg [T.int n.kind, T.int n.id, T.int n.site]
abbrev T.Frames (l : List Frame) : T := .list 11 (l.map Frame.tt)
structure Vm where
 fs : List Frame
 trace : List Int
 used : Int
 code : Int
 value : Int
 made : Int
 notes : List Note
theorem As {l : List Frame} : ∀ x, x ∈ l.map Frame.tt → (T.cells x).length = 11 := by
 intro x hx
 obtain ⟨f, _, rfl⟩ := RB.1 hx
 rfl
theorem AM {l : List Frame} {k : Nat} {f : Frame} (h : l[k]? = some f) : (l.map Frame.tt)[k]? = some f.tt := by rw [List.getElem?_map, h]; rfl
theorem Av {l : List Frame} {k : Nat} {f : Frame} : (l.map Frame.tt).set k f.tt = (l.set k f).map Frame.tt := by rw [RR]
theorem BQ {l : List Frame} {k : Nat} {f g : Frame} : ((l.set k g).map Frame.tt).set k f.tt = (l.set k f).map Frame.tt := by rw [RR, Q4, RR]
theorem En {l : List Frame} {k : Nat} {f : Frame} {z z' : T} (hk : l[k]? = some f) (hz : z' = f.tt) : ((l.map Frame.tt).set k z).set k z' = l.map Frame.tt := by
 subst hz;rw [Q4]
 refine List.ext_getElem? fun j => ?_
 rw [List.getElem?_set];split
 ·rename_i e; subst e
  rw [if_pos (by rw [Qc]; exact (List.getElem?_eq_some_iff.1 hk).1), List.getElem?_map, hk]; rfl
 ·rfl
theorem ND {l : List Frame} {k : Nat} {f' : Frame} {z z' : T} (hz : z' = f'.tt) : ((l.map Frame.tt).set k z).set k z' = (l.set k f').map Frame.tt := by
 subst hz;rw [Q4, Av]
theorem fr_same {l : List Frame} {k : Nat} {f : Frame} (h : l[k]? = some f) : l.set k f = l := by
 refine List.ext_getElem? fun j => ?_
 rw [List.getElem?_set];split
 ·rename_i e; subst e
  rw [if_pos (List.getElem?_eq_some_iff.1 h).1, h]
 ·rfl
theorem AU {l : List Frame} {k : Nat} {f g : Frame} (h : l[k]? = some f) : (l.set k g)[k]? = some g := List.getElem?_set_self (List.getElem?_eq_some_iff.1 h).1
theorem Bs {l : List Frame} {k : Nat} {f : Frame} (h : l[k]? = some f) : k < l.length := (List.getElem?_eq_some_iff.1 h).1
theorem Bu {l : List Frame} {k : Nat} {f : Frame} (h : l[k]? = some f) : k < (l.map Frame.tt).length := by rw [Qc]; exact Bs h
abbrev mC (u0 u1 : Value) (most : Int) (FC : D) (trace : List Int) (used code value made : Int) (notes : List Note) : List D :=
 [.t (.v u0), .t (.v u1), .t (T.int most), FC, .own (.list 1 (trace.map T.int)), .t (T.int used), .t (T.int code), .t (T.int value), .t (T.int made), .own (.list 3 (notes.map Note.tt))]
abbrev Aq (bf n cap : Nat) : D := .t (.v (.slice (some ⟨bf, 0, none⟩) n cap))
theorem E8 {f : Frame} {v : T} {l : List T} {l' : List Int} (h : l = l'.map T.int) : (T.agg (f.tt.cells.set 3 v)).put (0 + 3) [T.list 1 l] = ({ f with pile := l' } : Frame).tt := by subst h; rfl
theorem rowEq {bf cap k : Nat} {fs : List Frame} {z z' : T} {f' : Frame} (h : z' = f'.tt) : [Blk.row bf cap 11 (((fs.map Frame.tt).set k z).set k z')] = [Blk.row bf cap 11 ((fs.set k f').map Frame.tt)] := by subst h; rw [Q4, Av]
theorem Pc {o : Blk} {bf cap k : Nat} {fs : List Frame} {z z' : T} {f' : Frame} (h : z' = f'.tt) : [o, Blk.row bf cap 11 (((fs.map Frame.tt).set k z).set k z')] = [o, Blk.row bf cap 11 ((fs.set k f').map Frame.tt)] := by subst h; rw [Q4, Av]
def lastI (l : List Int) : Int := l.getLast?.getD 0
theorem HH {l : List Int} (h : 1 ≤ l.length) : l[((l.length : Int) - 1).toNat]'(by omega) = lastI l := by
 have e : ((l.length : Int) - 1).toNat = l.length - 1 := by omega
 simp only [e, lastI, List.getLast?_eq_getElem?];rw [List.getElem?_eq_getElem (by omega)];rfl
def Cc (l : List Bool) (k : Int) : Bool := (l[k.toNat]?).getD false
def goF (f : Frame) : Frame := { f with at' := f.at' + 1 }
def pushF (f : Frame) (n : Int) : Frame := { f with pile := f.pile ++ [n] }
def popF (f : Frame) : Frame := { f with pile := f.pile.take (f.pile.length - 1) }
def raiseF (x : Image) (mode n : Int) (f : Frame) : Frame :=
 { f with mode := mode, value := n, base := if mode = 3 then 3 else f.base, pile := [], at' := padX (codeAt x f.fn).rows f.at' }
def newF (x : Image) (id fn : Int) (given : List Int) (off : Bool) : Frame :=
 ⟨id, fn, 0, [], given ++ List.replicate ((codeAt x fn).vars.toNat - given.length) 0, List.replicate (codeAt x fn).sites.length false, 0, 0, 0, 1, off⟩
open Go.Eng
theorem Ag {a a' b b' : Int} (h : a = a') (h' : b = b') : [D.t (T.v (Value.int .i64 a)), D.t (T.v (Value.int .i64 b))] = [D.t (T.int a'), D.t (T.int b')] := by rw [h, h']
theorem Cn {a b : List Int} (h : a = b) : [D.t (T.ints a)] = [D.t (T.ints b)] := by rw [h]
theorem O5 (op : Int) : Fun Tryz.prog 107 [.t (.int op)] (Ay [.t (.bool (Bo op))]) := by
 refine Fun.begin tys Tryz.func107 Z Z (N := 14) [(0, .t (.int op))] Z Z (fun w0 G F0 => ?_);refine sG (eZ Z (nB (sQ (sG (eZ Z (nB (AH (sQ (sG (eK 2 Z (nB ?_)))))))))));refine CC (α := Bool) [2] [] (fun x => [(4, .t (.bool x))]) (fun x => []) (fun x => x = Bo op) ?_ (fun b hx => ?_)
 ·
  refine AC Z (fun h1 => ?_) (fun h1 => ?_)
  ·
   try simp only [HS] at h1
   refine AD (jQ _ ?_)
   try dsimp only
   grind [Bo]
  try simp only [HS] at h1
  refine sG (eK 2 Z (nB ?_));refine AC Z (fun h2 => ?_) (fun h2 => ?_)
  ·
   try simp only [HS] at h2
   refine AD (jQ _ ?_)
   try dsimp only
   grind [Bo]
  try simp only [HS] at h2
  refine sG (eK 2 Z (nB ?_));refine AC Z (fun h3 => ?_) (fun h3 => ?_)
  ·
   try simp only [HS] at h3
   refine AD (jQ _ ?_)
   try dsimp only
   grind [Bo]
  try simp only [HS] at h3
  refine sQ (kY [2,3,4] Z (rG (eK 2 Z (nB ?_))));refine AC Z (fun h4 => ?_) (fun h4 => ?_)
  ·
   try simp only [HS] at h4
   refine AD (jQ _ ?_)
   try dsimp only
   grind [Bo]
  try simp only [HS] at h4
  refine sG (eK 2 Z (nB ?_));refine AC Z (fun h5 => ?_) (fun h5 => ?_)
  ·
   try simp only [HS] at h5
   refine AD (jQ _ ?_)
   try dsimp only
   grind [Bo]
  try simp only [HS] at h5
  refine sG (eK 2 Z (nB ?_));refine AC Z (fun h6 => ?_) (fun h6 => ?_)
  ·
   try simp only [HS] at h6
   refine AD (jQ _ ?_)
   try dsimp only
   grind [Bo]
  try simp only [HS] at h6
  refine sG (eK 2 Z (nB ?_));refine AC Z (fun h7 => ?_) (fun h7 => ?_)
  ·
   try simp only [HS] at h7
   refine AD (jQ _ ?_)
   try dsimp only
   grind [Bo]
  try simp only [HS] at h7
  refine sQ (kY [2,3,4] Z (rG (eK 2 Z (nB ?_))));refine AC Z (fun h8 => ?_) (fun h8 => ?_)
  ·
   try simp only [HS] at h8
   refine AD (jQ _ ?_)
   try dsimp only
   grind [Bo]
  try simp only [HS] at h8
  refine rG (eK 2 Z (oN (jQ _ ?_)))
  try dsimp only
  grind [Bo]
 have hb := hx
 refine tN ?_;refine AC Z (fun h1 => ?_) (fun h1 => ?_)
 ·
  try simp only [HS] at h1
  refine sQ (kY [2] Z (rG (eZ Z (nB (rT (bR (tR (eR ?_))))))))
  ·exact Ax (by simp_all)
 try simp only [HS] at h1
 refine AD (bN (tN (sQ (kY [2] Z (rG (eZ Z (nB (rT (eR ?_)))))))))
 ·exact Ax (by simp_all)
theorem K9 (op : Int) : Fun Tryz.prog 88 [.t (.int op)] (Ay [.t (.bool (A1 op))]) := by
 refine Fun.begin tys Tryz.func88 Z Z (N := 11) [(0, .t (.int op))] Z Z (fun w0 G F0 => ?_);refine sG (eZ Z (nB (sQ (sG (eZ Z (nB (AH (sQ (sG (eK 2 Z (nB ?_)))))))))));refine CC (α := Bool) [2] [] (fun x => [(4, .t (.bool x))]) (fun x => []) (fun x => x = A1 op) ?_ (fun b hx => ?_)
 ·
  refine AC Z (fun h1 => ?_) (fun h1 => ?_)
  ·
   try simp only [HS] at h1
   refine AD (jQ _ ?_)
   try dsimp only
   grind [A1]
  try simp only [HS] at h1
  refine sG (eK 2 Z (nB ?_));refine AC Z (fun h2 => ?_) (fun h2 => ?_)
  ·
   try simp only [HS] at h2
   refine AD (jQ _ ?_)
   try dsimp only
   grind [A1]
  try simp only [HS] at h2
  refine sG (eK 2 Z (nB ?_));refine AC Z (fun h3 => ?_) (fun h3 => ?_)
  ·
   try simp only [HS] at h3
   refine AD (jQ _ ?_)
   try dsimp only
   grind [A1]
  try simp only [HS] at h3
  refine sQ (kY [2,3,4] Z (rG (eK 2 Z (nB ?_))));refine AC Z (fun h4 => ?_) (fun h4 => ?_)
  ·
   try simp only [HS] at h4
   refine AD (jQ _ ?_)
   try dsimp only
   grind [A1]
  try simp only [HS] at h4
  refine sG (eK 2 Z (nB ?_));refine AC Z (fun h5 => ?_) (fun h5 => ?_)
  ·
   try simp only [HS] at h5
   refine AD (jQ _ ?_)
   try dsimp only
   grind [A1]
  try simp only [HS] at h5
  refine rG (eK 2 Z (oN (jQ _ ?_)))
  try dsimp only
  grind [A1]
 have hb := hx
 refine tN ?_;refine AC Z (fun h1 => ?_) (fun h1 => ?_)
 ·
  try simp only [HS] at h1
  refine sQ (kY [2] Z (rG (eZ Z (nB (rT (bR (tR (eR ?_))))))))
  ·exact Ax (by simp_all)
 try simp only [HS] at h1
 refine AD (bN (tN (sQ (kY [2] Z (rG (eZ Z (nB (rT (eR ?_)))))))))
 ·exact Ax (by simp_all)
theorem Mv (i : Ins) : Fun Tryz.prog 82 [.t i.tt] (Ay [.t (.bool (Ed i))]) := by
 refine Fun.begin tys Tryz.func82 Z Z (N := 32) [(0, .t i.tt)] Z Z (fun w0 G F0 => ?_);refine sG (AZ Z Z (lt_of Z) Z Z (nZ Z (eZ Z (nB (sQ (AH (sG (eK 4 Z (nB ?_)))))))));refine AC Z (fun h1 => ?_) (fun h1 => ?_)
 ·
  try simp only [HS] at h1
  refine sG (eK 2 Z (AS ?_));refine ⟨_, Jc _, rfl, ?_⟩;refine kZ [1,2,9] Z (eZ Z (nB (rT (bR (tR (eR ?_))))))
  ·exact Ax (by grind [Ed])
 try simp only [HS] at h1
 refine sG (eK 3 Z (kZ [1,2,13] Z (eZ Z (nB ?_))));refine AC Z (fun h2 => ?_) (fun h2 => ?_)
 ·
  try simp only [HS] at h2
  refine sG (eK 2 Z (AS ?_));refine ⟨_, BS _ _ _, rfl, ?_⟩;refine eZ Z (nB (rT (bR (tR (eR ?_)))))
  ·exact Ax (by grind [Ed])
 try simp only [HS] at h2
 refine sG (eK 2 Z (AS ?_));refine ⟨_, O5 _, rfl, ?_⟩;refine eZ Z (nB ?_);refine AC Z (fun h3 => ?_) (fun h3 => ?_)
 ·
  try simp only [HS] at h3
  refine sG (eK 2 Z (AS ?_));refine ⟨_, BS _ _ _, rfl, ?_⟩;refine eZ Z (kZ [1,2] Z (nB (rT (bR (tR (eR ?_))))))
  ·exact Ax (by grind [Ed])
 try simp only [HS] at h3
 refine AD (bN (tN (sG (eK 2 Z (AS ?_)))));refine ⟨_, BS _ _ _, rfl, ?_⟩;refine eZ Z (kZ [1,2,27] Z ?_);refine gB (fun h4 => ?_) (fun h4 => ?_)
 ·
  try simp only [HS] at h4
  refine xK 4 Z (nB (rT (eR ?_)))
  ·exact Ax (by grind [Ed])
 try simp only [HS] at h4
 refine xK 5 Z (nB (rT (eR ?_)))
 ·exact Ax (by grind [Ed])
theorem JZ (im : Image) (hx : im.ok 1048576) : Fun Tryz.prog 62 [.t im.tt] (Ay [.t (.bool (BD im))]) := by
  have hxl : im.codes.length ≤ 1048576 := hx.1.1
  refine Fun.begin tys Tryz.func62 Z Z (N := 61) [(0, .t im.tt)] Z Z (fun w0 G F0 => ?_);refine sG (AZ Z Z (lt_of Z) Z Z (nZ Z (eZ Z (nB (sQ (sG (eK 2 Z (evE ?_))))))));refine eZ Z (nB (AH ?_));refine lK (α := Int) [1, 8, 9] [1] (fun x => [(10, .t (.int x))]) (fun x => []) (fun x => 0 ≤ x ∧ x ≤ im.codes.length ∧ (im.codes.take x.toNat).all Bt = true) (fun x => Int.toNat (im.codes.length - x)) 0 ?_ (fun k hx => ?_)
  · exact ⟨by omega, by omega, by simp⟩
  obtain ⟨hk0, hk1, hk2⟩ := hx
  refine nY Z (sG (eZ Z (nB (sQ ?_))));refine AC Z (fun h1 => ?_) (fun h1 => ?_)
  ·
    try simp only [HS] at h1
    refine AD (tN (sQ (AH (sG ?_))))
    have hc := hx.1.2 _ (Qq (l := im.codes) (n := k.toNat) (by omega))
    have hc1 : (im.codes[k.toNat]'(by omega)).sites.length ≤ 1048576 := hc.1
    have hc2 : (im.codes[k.toNat]'(by omega)).ins.length ≤ 1048576 := hc.2.1
    have hc3 : (im.codes[k.toNat]'(by omega)).rows.length ≤ 1048576 := hc.2.2.1
    first | refine BR tys rfl rfl (lt_of rfl) rfl rfl rfl rfl rfl rfl rfl (by omega) _ (BT _ _ (by omega) (by omega)) ?_ | refine AR tys rfl rfl (lt_of rfl) rfl rfl rfl rfl rfl rfl rfl rfl (by omega) (by omega) ?_
    first | (refine ev ?_; try refine WO_le (Le.freeze (u := 13) rfl) ?_) | refine AG tys rfl rfl (lt_of rfl) rfl rfl rfl rfl (BT _ _ (by omega) (by omega)) rfl ?_ | refine AG tys rfl rfl (lt_of rfl) rfl rfl rfl rfl (BN _ _ (by omega) (by omega)) rfl ?_
    refine nZ Z (AY tys Z Z (lt_of Z) Z Z Z (nZ Z (sT Z (nZ Z (nB (sQ (sG (eK 2 Z (AS ?_)))))))));refine ⟨_, BS _ _ _, rfl, ?_⟩;refine eZ Z (kZ [1,4,8,9,10,11,12,13,14,15,16,17] Z (eZ Z ?_));refine gB (fun h2 => ?_) (fun h2 => ?_)
    ·
      try simp only [HS] at h2
      refine xK 8 Z (kZ [1,4,8,9,10,11,12,13,14,15,16,17,18,19,20,21,22,23,24,25,26,27] Z (xK 9 Z (kZ [1,4,8,9,10,11,12,13,14,15,16,17,18,19,20,21,22,23,24,25,26,27,28,29,30,31,32,33,34,35,36] Z (xK 8 Z (nB (A5 Z (sQ (kY [1,4,8,9,10,11,12,13,14,15,16,17,18,19,20,21,22,23,24,25,26,27,28,29,30,31,32,33,34,35,36,37,38,39,40,41,42,43,44] Z (rG (eZ Z (nB (rT (tR (bR (tR ?_)))))))))))))));refine AP (bR (tR (eR ?_)))
      · first
        | (have hno : Bt (im.codes[k.toNat]'(by omega)) = false := (by rw [← RZ]; intro h; obtain ⟨a, b, d, e, f, g⟩ := A0 h; first | omega | (have := g _ (Qq (l := (im.codes[k.toNat]'(by omega)).ins) (n := j.toNat) (by omega)); simp_all; done))
           exact Ax (by rw [BD, CR hk0 (by omega) hno, Bool.and_false]))
        | exact Ax (by rw [BD, B8 (by omega) hk2, Bool.and_true]; exact decide_eq_decide.2 (by omega))
    try simp only [HS] at h2
    refine xK 4 Z (gY Z (AS ?_));refine ⟨_, BS _ _ _, rfl, ?_⟩;refine xK 3 Z (kZ [1,4,8,9,10,11,12,13,14,15,16,17,18,19,20,21,22,23,24,25,26] Z ?_);refine gB (fun h3 => ?_) (fun h3 => ?_)
    ·
      try simp only [HS] at h3
      refine xK 9 Z (kZ [1,4,8,9,10,11,12,13,14,15,16,17,18,19,20,21,22,23,24,25,26,27,28,29,30,31,32,33,34,35,36] Z (xK 8 Z (nB (A5 Z (sQ (kY [1,4,8,9,10,11,12,13,14,15,16,17,18,19,20,21,22,23,24,25,26,27,28,29,30,31,32,33,34,35,36,37,38,39,40,41,42,43,44] Z (rG (eZ Z (nB (rT (tR (bR (tR (AP (bR ?_)))))))))))))));refine tR (eR ?_)
      · first
        | (have hno : Bt (im.codes[k.toNat]'(by omega)) = false := (by rw [← RZ]; intro h; obtain ⟨a, b, d, e, f, g⟩ := A0 h; first | omega | (have := g _ (Qq (l := (im.codes[k.toNat]'(by omega)).ins) (n := j.toNat) (by omega)); simp_all; done))
           exact Ax (by rw [BD, CR hk0 (by omega) hno, Bool.and_false]))
        | exact Ax (by rw [BD, B8 (by omega) hk2, Bool.and_true]; exact decide_eq_decide.2 (by omega))
    try simp only [HS] at h3
    refine xK 2 Z (gY Z (evE ?_));refine xK 3 Z ?_;refine gB (fun h4 => ?_) (fun h4 => ?_)
    ·
      try simp only [HS] at h4
      refine xK 3 Z (kZ [1,4,8,9,10,11,12,13,14,15,16,17,18,19,20,21,22,23,24,25,26,27,28,29,30,31,32,33,34,35,36] Z (xK 8 Z (nB (A5 Z (sQ (kY [1,4,8,9,10,11,12,13,14,15,16,17,18,19,20,21,22,23,24,25,26,27,28,29,30,31,32,33,34,35,36,37,38,39,40,41,42,43,44] Z (rG (eZ Z (nB (rT (tR (bR (tR (AP (bR ?_)))))))))))))));refine tR (eR ?_)
      · first
        | (have hno : Bt (im.codes[k.toNat]'(by omega)) = false := (by rw [← RZ]; intro h; obtain ⟨a, b, d, e, f, g⟩ := A0 h; first | omega | (have := g _ (Qq (l := (im.codes[k.toNat]'(by omega)).ins) (n := j.toNat) (by omega)); simp_all; done))
           exact Ax (by rw [BD, CR hk0 (by omega) hno, Bool.and_false]))
        | exact Ax (by rw [BD, B8 (by omega) hk2, Bool.and_true]; exact decide_eq_decide.2 (by omega))
    try simp only [HS] at h4
    refine xK 2 Z (gY Z (evE ?_));refine kZ [1,4,8,9,10,11,12,13,14,15,16,17,18,19,20,21,22,23,24,25,26,27,28,29,30,31,32,33,34,35] Z (gY Z (AS ?_));refine ⟨_, BS _ _ _, rfl, ?_⟩;refine xK 3 Z ?_;refine gB (fun h5 => ?_) (fun h5 => ?_)
    ·
      try simp only [HS] at h5
      refine xK 4 Z (nB (A5 Z (sQ (kY [1,4,8,9,10,11,12,13,14,15,16,17,18,19,20,21,22,23,24,25,26,27,28,29,30,31,32,33,34,35,36,37,38,39,40,41,42,43,44] Z (rG (eZ Z (nB (rT (tR (bR (tR (AP (bR (tR (eR ?_)))))))))))))))
      · first
        | (have hno : Bt (im.codes[k.toNat]'(by omega)) = false := (by rw [← RZ]; intro h; obtain ⟨a, b, d, e, f, g⟩ := A0 h; first | omega | (have := g _ (Qq (l := (im.codes[k.toNat]'(by omega)).ins) (n := j.toNat) (by omega)); simp_all; done))
           exact Ax (by rw [BD, CR hk0 (by omega) hno, Bool.and_false]))
        | exact Ax (by rw [BD, B8 (by omega) hk2, Bool.and_true]; exact decide_eq_decide.2 (by omega))
    try simp only [HS] at h5
    refine xK 2 Z (gY Z (evE ?_));refine xK 2 Z (kZ [1,4,8,9,10,11,12,13,14,15,16,17,18,19,20,21,22,23,24,25,26,27,28,29,30,31,32,33,34,35,36,37,38,39,40,41,42,43,44] Z (nB ?_));refine AC Z (fun h6 => ?_) (fun h6 => ?_)
    ·
      try simp only [HS] at h6
      refine sG (eZ Z (nB (rT (tR (bR (tR (AP (bR (tR (eR ?_))))))))))
      · first
        | (have hno : Bt (im.codes[k.toNat]'(by omega)) = false := (by rw [← RZ]; intro h; obtain ⟨a, b, d, e, f, g⟩ := A0 h; first | omega | (have := g _ (Qq (l := (im.codes[k.toNat]'(by omega)).ins) (n := j.toNat) (by omega)); simp_all; done))
           exact Ax (by rw [BD, CR hk0 (by omega) hno, Bool.and_false]))
        | exact Ax (by rw [BD, B8 (by omega) hk2, Bool.and_true]; exact decide_eq_decide.2 (by omega))
    try simp only [HS] at h6
    refine AD (tN (sG (eK 2 Z (evE ?_))));refine eZ Z (nB (AH ?_));refine lK (α := Int) [1, 8, 9, 10, 46, 47] [1] (fun x => [(48, .t (.int x))]) (fun x => []) (fun x => 0 ≤ x ∧ x ≤ (im.codes[k.toNat]'(by omega)).ins.length ∧ ((im.codes[k.toNat]'(by omega)).ins.take x.toNat).all Ed = true) (fun x => Int.toNat ((im.codes[k.toNat]'(by omega)).ins.length - x)) 0 ?_ (fun j hx => ?_)
    · exact ⟨by omega, by omega, by simp⟩
    obtain ⟨hj0, hj1, hj2⟩ := hx
    refine nY Z (sG (eZ Z (nB (sQ ?_))));refine AC Z (fun h7 => ?_) (fun h7 => ?_)
    ·
      try simp only [HS] at h7
      refine AD (tN (sQ (AH (sG ?_))))
      first | refine BR tys rfl rfl (lt_of rfl) rfl rfl rfl rfl rfl rfl rfl (by omega) _ (BT _ _ (by omega) (by omega)) ?_ | refine AR tys rfl rfl (lt_of rfl) rfl rfl rfl rfl rfl rfl rfl rfl (by omega) (by omega) ?_
      first | (refine ev ?_; try refine WO_le (Le.freeze (u := 51) rfl) ?_) | refine AG tys rfl rfl (lt_of rfl) rfl rfl rfl rfl (BT _ _ (by omega) (by omega)) rfl ?_ | refine AG tys rfl rfl (lt_of rfl) rfl rfl rfl rfl (BN _ _ (by omega) (by omega)) rfl ?_
      refine nZ Z (AY tys Z Z (lt_of Z) Z Z Z (nZ Z (sT Z (nZ Z (nA ?_)))))
      first | (refine ev ?_; try refine WO_le (Le.freeze (u := 52) rfl) ?_) | refine CS tys rfl rfl (lt_of rfl) rfl rfl rfl rfl rfl rfl ?_
      refine nZ Z (AS ?_);refine ⟨_, Mv _, rfl, ?_⟩;refine eZ Z (nB ?_);refine AC Z (fun h8 => ?_) (fun h8 => ?_)
      ·
        try simp only [HS] at h8
        refine sQ (kY [1,6,8,9,10,46,47,48,49,50,51,52,53,54] Z (rG (eZ Z (nB (rT (bR (tR (AP (bR (bR (tR (AP (bR (tR (eR ?_)))))))))))))))
        · first
          | (have hno : Bt (im.codes[k.toNat]'(by omega)) = false := (by rw [← RZ]; intro h; obtain ⟨a, b, d, e, f, g⟩ := A0 h; first | omega | (have := g _ (Qq (l := (im.codes[k.toNat]'(by omega)).ins) (n := j.toNat) (by omega)); simp_all; done))
             exact Ax (by rw [BD, CR hk0 (by omega) hno, Bool.and_false]))
          | exact Ax (by rw [BD, B8 (by omega) hk2, Bool.and_true]; exact decide_eq_decide.2 (by omega))
      try simp only [HS] at h8
      refine AD (bN (tN (kY [1,6,8,9,10,46,47,48,49,50,51,52,53,54] Z (rG (evI ?_)))));refine eZ Z (oN ?_);refine lQ _ ?_ ?_
      · try dsimp only
        exact ⟨by omega, by omega, EX hj0 (by omega) hj2 (by assumption)⟩
      · (show Int.toNat _ < Int.toNat _); omega
    try simp only [HS] at h7
    refine AW (tE (AN (AO (bN (tN (rG (evI ?_)))))));refine eZ Z (oN ?_);refine lQ _ ?_ ?_
    · try dsimp only
      refine ⟨by omega, by omega, EX hk0 (by omega) hk2 ?_⟩
      have hall := B8 (by omega) hj2
      unfold Bt;rw [hall]
      simp_all <;> omega
    · (show Int.toNat _ < Int.toNat _); omega
  try simp only [HS] at h1
  refine AW (tE (AN (AO (tN (sG (eK 2 Z (evE ?_)))))));refine AS ?_;refine ⟨_, BS _ _ _, rfl, ?_⟩;refine eZ Z (nB (rT (eR ?_)))
  · first
    | (have hno : Bt (im.codes[k.toNat]'(by omega)) = false := (by rw [← RZ]; intro h; obtain ⟨a, b, d, e, f, g⟩ := A0 h; first | omega | (have := g _ (Qq (l := (im.codes[k.toNat]'(by omega)).ins) (n := j.toNat) (by omega)); simp_all; done))
       exact Ax (by rw [BD, CR hk0 (by omega) hno, Bool.and_false]))
    | exact Ax (by rw [BD, B8 (by omega) hk2, Bool.and_true]; exact decide_eq_decide.2 (by omega))
theorem BA {x : Image} {i : Ins} (h7 : i.op = 7 → 0 ≤ i.n ∧ i.n < x.codes.length) (h : i.op = 7) : (x.codes[i.n.toNat]'(by have := h7 h; omega)).params = tkX x i := by
 have := h7 h
 rw [tkX, if_neg (by omega), if_neg (by omega), if_pos h, Aa this.1 this.2]
theorem JY (im : Image) (i : Ins) (hxl : im.codes.length ≤ 1048576) (hcall : i.op = 7 → 0 ≤ i.n ∧ i.n < im.codes.length) : Fun Tryz.prog 109 [.t im.tt, .t i.tt] (Ay [.t (.int (tkX im i)), .t (.int (ptX i))]) := by
 refine Fun.begin tys Tryz.func109 Z Z (N := 31) [(0, .t im.tt), (1, .t i.tt)] Z Z (fun w0 G F0 => ?_);refine sG (AZ Z Z (lt_of Z) Z Z (nZ Z (AZ Z Z (lt_of Z) Z Z (nZ Z (eK 2 Z (nB (sQ (sG (eK 2 Z (nB (AH (sQ (sG (eK 2 Z (nB ?_)))))))))))))));refine CC (α := Bool) [2, 3, 4, 5, 7] [2, 3] (fun x => [(8, .t (.bool x))]) (fun x => []) (fun x => x = decide (i.op = 1 ∨ i.op = 2 ∨ i.op = 5 ∨ i.op = 6)) ?_ (fun b hx => ?_)
 ·
  refine AC Z (fun h1 => ?_) (fun h1 => ?_)
  ·
   try simp only [HS] at h1
   refine AD (jQ _ ?_)
   try dsimp only
   grind
  try simp only [HS] at h1
  refine sQ (kY [2,3,4,5,7,8] Z (rG (eK 2 Z (nB ?_))));refine AC Z (fun h2 => ?_) (fun h2 => ?_)
  ·
   try simp only [HS] at h2
   refine AD (jQ _ ?_)
   try dsimp only
   grind
  try simp only [HS] at h2
  refine sG (eK 2 Z (nB ?_));refine AC Z (fun h3 => ?_) (fun h3 => ?_)
  ·
   try simp only [HS] at h3
   refine AD (jQ _ ?_)
   try dsimp only
   grind
  try simp only [HS] at h3
  refine rG (eK 2 Z (oN (jQ _ ?_)))
  try dsimp only
  grind
 have hb := hx
 refine tN ?_;refine AC Z (fun h1 => ?_) (fun h1 => ?_)
 ·
  try simp only [HS] at h1
  refine sQ (kY [4,5] Z (rG (eK 2 Z (nB (rT (bR (tR (eR ?_))))))))
  ·first
   | exact Ag (BA hcall (by assumption)) (by grind [ptX])
   | exact Ag (by grind [tkX]) (by grind [ptX])
 try simp only [HS] at h1
 refine sQ (sQ (kY [2,3,4,5,7] Z (rG (eK 2 Z (nB ?_)))));refine AC Z (fun h2 => ?_) (fun h2 => ?_)
 ·
  try simp only [HS] at h2
  refine AD (tN ?_);refine AC Z (fun h3 => ?_) (fun h3 => ?_)
  ·
   try simp only [HS] at h3
   refine sG (eK 2 Z (nB (rT (bR (tR (eR ?_))))))
   ·first
    | exact Ag (BA hcall (by assumption)) (by grind [ptX])
    | exact Ag (by grind [tkX]) (by grind [ptX])
  try simp only [HS] at h3
  refine sG (eK 2 Z (nB ?_));refine AC Z (fun h4 => ?_) (fun h4 => ?_)
  ·
   try simp only [HS] at h4
   refine sG (eK 2 Z (nB (rT (bR (tR (eR ?_))))))
   ·first
    | exact Ag (BA hcall (by assumption)) (by grind [ptX])
    | exact Ag (by grind [tkX]) (by grind [ptX])
  try simp only [HS] at h4
  refine sG (eK 2 Z (nB ?_));refine AC Z (fun h5 => ?_) (fun h5 => ?_)
  ·
   try simp only [HS] at h5
   refine sG (eK 3 Z (kZ [4,5,25,26] Z (eZ Z ?_)))
   have h77 := hcall (by assumption)
   first | refine BR tys rfl rfl (lt_of rfl) rfl rfl rfl rfl rfl rfl rfl (by omega) _ (BT _ _ (by omega) (by omega)) ?_ | refine AR tys rfl rfl (lt_of rfl) rfl rfl rfl rfl rfl rfl rfl rfl (by omega) (by omega) ?_
   refine eZ Z ?_
   first | refine ev ?_ | refine AG tys rfl rfl (lt_of rfl) rfl rfl rfl rfl (BT _ _ (by omega) (by omega)) rfl ?_ | refine AG tys rfl rfl (lt_of rfl) rfl rfl rfl rfl (BN _ _ (by omega) (by omega)) rfl ?_
   refine eK 2 Z (nB (rT (bR (tR (eR ?_)))))
   ·first
    | exact Ag (BA hcall (by assumption)) (by grind [ptX])
    | exact Ag (by grind [tkX]) (by grind [ptX])
  try simp only [HS] at h5
  refine AD (bN (tN (sG (eK 2 Z (nB (rT (eR ?_)))))))
  ·first
   | exact Ag (BA hcall (by assumption)) (by grind [ptX])
   | exact Ag (by grind [tkX]) (by grind [ptX])
 try simp only [HS] at h2
 refine sG (eK 2 Z (nB ?_));refine AC Z (fun h3 => ?_) (fun h3 => ?_)
 ·
  try simp only [HS] at h3
  refine AD (tN ?_);refine AC Z (fun h4 => ?_) (fun h4 => ?_)
  ·
   try simp only [HS] at h4
   refine sG (eK 2 Z (nB (rT (bR (tR (eR ?_))))))
   ·first
    | exact Ag (BA hcall (by assumption)) (by grind [ptX])
    | exact Ag (by grind [tkX]) (by grind [ptX])
  try simp only [HS] at h4
  refine sG (eK 2 Z (nB ?_));refine AC Z (fun h5 => ?_) (fun h5 => ?_)
  ·
   try simp only [HS] at h5
   refine sG (eK 2 Z (nB (rT (bR (tR (eR ?_))))))
   ·first
    | exact Ag (BA hcall (by assumption)) (by grind [ptX])
    | exact Ag (by grind [tkX]) (by grind [ptX])
  try simp only [HS] at h5
  refine sG (eK 2 Z (nB ?_));refine AC Z (fun h6 => ?_) (fun h6 => ?_)
  ·
   try simp only [HS] at h6
   refine sQ (kY [2,3,4,5] Z (rG (eK 4 Z ?_)))
   have h77 := hcall (by assumption)
   first | refine BR tys rfl rfl (lt_of rfl) rfl rfl rfl rfl rfl rfl rfl (by omega) _ (BT _ _ (by omega) (by omega)) ?_ | refine AR tys rfl rfl (lt_of rfl) rfl rfl rfl rfl rfl rfl rfl rfl (by omega) (by omega) ?_
   refine eZ Z ?_
   first | refine ev ?_ | refine AG tys rfl rfl (lt_of rfl) rfl rfl rfl rfl (BT _ _ (by omega) (by omega)) rfl ?_ | refine AG tys rfl rfl (lt_of rfl) rfl rfl rfl rfl (BN _ _ (by omega) (by omega)) rfl ?_
   refine eK 2 Z (kZ [4,5] Z (nB (rT (bR (tR (eR ?_))))))
   ·first
    | exact Ag (BA hcall (by assumption)) (by grind [ptX])
    | exact Ag (by grind [tkX]) (by grind [ptX])
  try simp only [HS] at h6
  refine AD (bN (tN (sQ (kY [4,5] Z (rG (eK 2 Z (nB (rT (eR ?_)))))))))
  ·first
   | exact Ag (BA hcall (by assumption)) (by grind [ptX])
   | exact Ag (by grind [tkX]) (by grind [ptX])
 try simp only [HS] at h3
 refine sG (eK 2 Z (nB ?_));refine AC Z (fun h4 => ?_) (fun h4 => ?_)
 ·
  try simp only [HS] at h4
  refine AD (tN ?_);refine AC Z (fun h5 => ?_) (fun h5 => ?_)
  ·
   try simp only [HS] at h5
   refine sG (eK 2 Z (nB (rT (bR (tR (eR ?_))))))
   ·first
    | exact Ag (BA hcall (by assumption)) (by grind [ptX])
    | exact Ag (by grind [tkX]) (by grind [ptX])
  try simp only [HS] at h5
  refine sG (eK 2 Z (nB ?_));refine AC Z (fun h6 => ?_) (fun h6 => ?_)
  ·
   try simp only [HS] at h6
   refine sQ (kY [4,5] Z (rG (eK 2 Z (nB (rT (bR (tR (eR ?_))))))))
   ·first
    | exact Ag (BA hcall (by assumption)) (by grind [ptX])
    | exact Ag (by grind [tkX]) (by grind [ptX])
  try simp only [HS] at h6
  refine sQ (kY [2,3,4,5,7] Z (rG (eK 2 Z (nB ?_))));refine AC Z (fun h7 => ?_) (fun h7 => ?_)
  ·
   try simp only [HS] at h7
   refine sG (eK 4 Z ?_)
   have h77 := hcall (by assumption)
   first | refine BR tys rfl rfl (lt_of rfl) rfl rfl rfl rfl rfl rfl rfl (by omega) _ (BT _ _ (by omega) (by omega)) ?_ | refine AR tys rfl rfl (lt_of rfl) rfl rfl rfl rfl rfl rfl rfl rfl (by omega) (by omega) ?_
   refine eZ Z ?_
   first | refine ev ?_ | refine AG tys rfl rfl (lt_of rfl) rfl rfl rfl rfl (BT _ _ (by omega) (by omega)) rfl ?_ | refine AG tys rfl rfl (lt_of rfl) rfl rfl rfl rfl (BN _ _ (by omega) (by omega)) rfl ?_
   refine kZ [4,5,30] Z (eK 2 Z (nB (rT (bR (tR (eR ?_))))))
   ·first
    | exact Ag (BA hcall (by assumption)) (by grind [ptX])
    | exact Ag (by grind [tkX]) (by grind [ptX])
  try simp only [HS] at h7
  refine AD (bN (tN (sG (eK 2 Z (nB (rT (eR ?_)))))))
  ·first
   | exact Ag (BA hcall (by assumption)) (by grind [ptX])
   | exact Ag (by grind [tkX]) (by grind [ptX])
 try simp only [HS] at h4
 refine sG (eK 2 Z (nB ?_));refine AC Z (fun h5 => ?_) (fun h5 => ?_)
 ·
  try simp only [HS] at h5
  refine AD (tN ?_);refine AC Z (fun h6 => ?_) (fun h6 => ?_)
  ·
   try simp only [HS] at h6
   refine sQ (kY [4,5] Z (rG (eK 2 Z (nB (rT (bR (tR (eR ?_))))))))
   ·first
    | exact Ag (BA hcall (by assumption)) (by grind [ptX])
    | exact Ag (by grind [tkX]) (by grind [ptX])
  try simp only [HS] at h6
  refine sQ (kY [2,3,4,5,7] Z (rG (eK 2 Z (nB ?_))));refine AC Z (fun h7 => ?_) (fun h7 => ?_)
  ·
   try simp only [HS] at h7
   refine sG (eK 2 Z (nB (rT (bR (tR (eR ?_))))))
   ·first
    | exact Ag (BA hcall (by assumption)) (by grind [ptX])
    | exact Ag (by grind [tkX]) (by grind [ptX])
  try simp only [HS] at h7
  refine sG (eK 2 Z (nB ?_));refine AC Z (fun h8 => ?_) (fun h8 => ?_)
  ·
   try simp only [HS] at h8
   refine sG (eK 4 Z ?_)
   have h77 := hcall (by assumption)
   first | refine BR tys rfl rfl (lt_of rfl) rfl rfl rfl rfl rfl rfl rfl (by omega) _ (BT _ _ (by omega) (by omega)) ?_ | refine AR tys rfl rfl (lt_of rfl) rfl rfl rfl rfl rfl rfl rfl rfl (by omega) (by omega) ?_
   refine kZ [4,5,28] Z (eZ Z ?_)
   first | refine ev ?_ | refine AG tys rfl rfl (lt_of rfl) rfl rfl rfl rfl (BT _ _ (by omega) (by omega)) rfl ?_ | refine AG tys rfl rfl (lt_of rfl) rfl rfl rfl rfl (BN _ _ (by omega) (by omega)) rfl ?_
   refine eK 2 Z (nB (rT (bR (tR (eR ?_)))))
   ·first
    | exact Ag (BA hcall (by assumption)) (by grind [ptX])
    | exact Ag (by grind [tkX]) (by grind [ptX])
  try simp only [HS] at h8
  refine AD (bN (tN (sG (eK 2 Z (nB (rT (eR ?_)))))))
  ·first
   | exact Ag (BA hcall (by assumption)) (by grind [ptX])
   | exact Ag (by grind [tkX]) (by grind [ptX])
 try simp only [HS] at h5
 refine sQ (kY [2,3,4,5,7,13] Z (rG (eK 2 Z (nB ?_))));refine AC Z (fun h6 => ?_) (fun h6 => ?_)
 ·
  try simp only [HS] at h6
  refine AD (tN ?_);refine AC Z (fun h7 => ?_) (fun h7 => ?_)
  ·
   try simp only [HS] at h7
   refine sG (eK 2 Z (nB (rT (bR (tR (eR ?_))))))
   ·first
    | exact Ag (BA hcall (by assumption)) (by grind [ptX])
    | exact Ag (by grind [tkX]) (by grind [ptX])
  try simp only [HS] at h7
  refine sG (eK 2 Z (nB ?_));refine AC Z (fun h8 => ?_) (fun h8 => ?_)
  ·
   try simp only [HS] at h8
   refine sG (eK 2 Z (nB (rT (bR (tR (eR ?_))))))
   ·first
    | exact Ag (BA hcall (by assumption)) (by grind [ptX])
    | exact Ag (by grind [tkX]) (by grind [ptX])
  try simp only [HS] at h8
  refine sG (eK 2 Z (nB ?_));refine AC Z (fun h9 => ?_) (fun h9 => ?_)
  ·
   try simp only [HS] at h9
   refine sG (eK 3 Z (kZ [4,5,25,26] Z (eZ Z ?_)))
   have h77 := hcall (by assumption)
   first | refine BR tys rfl rfl (lt_of rfl) rfl rfl rfl rfl rfl rfl rfl (by omega) _ (BT _ _ (by omega) (by omega)) ?_ | refine AR tys rfl rfl (lt_of rfl) rfl rfl rfl rfl rfl rfl rfl rfl (by omega) (by omega) ?_
   refine eZ Z ?_
   first | refine ev ?_ | refine AG tys rfl rfl (lt_of rfl) rfl rfl rfl rfl (BT _ _ (by omega) (by omega)) rfl ?_ | refine AG tys rfl rfl (lt_of rfl) rfl rfl rfl rfl (BN _ _ (by omega) (by omega)) rfl ?_
   refine eK 2 Z (nB (rT (bR (tR (eR ?_)))))
   ·first
    | exact Ag (BA hcall (by assumption)) (by grind [ptX])
    | exact Ag (by grind [tkX]) (by grind [ptX])
  try simp only [HS] at h9
  refine AD (bN (tN (sG (eK 2 Z (nB (rT (eR ?_)))))))
  ·first
   | exact Ag (BA hcall (by assumption)) (by grind [ptX])
   | exact Ag (by grind [tkX]) (by grind [ptX])
 try simp only [HS] at h6
 refine rG (eK 2 Z (nB ?_));refine AC Z (fun h7 => ?_) (fun h7 => ?_)
 ·
  try simp only [HS] at h7
  refine sG (eK 2 Z (nB (rT (bR (tR (eR ?_))))))
  ·first
   | exact Ag (BA hcall (by assumption)) (by grind [ptX])
   | exact Ag (by grind [tkX]) (by grind [ptX])
 try simp only [HS] at h7
 refine sG (eK 2 Z (nB ?_));refine AC Z (fun h8 => ?_) (fun h8 => ?_)
 ·
  try simp only [HS] at h8
  refine sG (eK 2 Z (nB (rT (bR (tR (eR ?_))))))
  ·first
   | exact Ag (BA hcall (by assumption)) (by grind [ptX])
   | exact Ag (by grind [tkX]) (by grind [ptX])
 try simp only [HS] at h8
 refine sG (eK 2 Z (nB ?_));refine AC Z (fun h9 => ?_) (fun h9 => ?_)
 ·
  try simp only [HS] at h9
  refine sQ (kY [2,3,4,5] Z (rG (eK 4 Z ?_)))
  have h77 := hcall (by assumption)
  first | refine BR tys rfl rfl (lt_of rfl) rfl rfl rfl rfl rfl rfl rfl (by omega) _ (BT _ _ (by omega) (by omega)) ?_ | refine AR tys rfl rfl (lt_of rfl) rfl rfl rfl rfl rfl rfl rfl rfl (by omega) (by omega) ?_
  refine eZ Z ?_
  first | refine ev ?_ | refine AG tys rfl rfl (lt_of rfl) rfl rfl rfl rfl (BT _ _ (by omega) (by omega)) rfl ?_ | refine AG tys rfl rfl (lt_of rfl) rfl rfl rfl rfl (BN _ _ (by omega) (by omega)) rfl ?_
  refine eK 2 Z (kZ [4,5] Z (nB (rT (bR (tR (eR ?_))))))
  ·first
   | exact Ag (BA hcall (by assumption)) (by grind [ptX])
   | exact Ag (by grind [tkX]) (by grind [ptX])
 try simp only [HS] at h9
 refine AD (bN (tN (sQ (kY [4,5] Z (rG (eK 2 Z (nB (rT (eR ?_)))))))))
 ·first
  | exact Ag (BA hcall (by assumption)) (by grind [ptX])
  | exact Ag (by grind [tkX]) (by grind [ptX])
theorem G5 {a n : Int} : put [a] n = if a < n then [a, n] else if a = n then [a] else [n, a] := by
 unfold put
 by_cases h1 : a < n
 ·rw [if_pos h1, if_neg (by simp; omega)]
  simp [h1]
 ·rw [if_neg h1]
  by_cases h2 : a = n
  ·subst h2; simp
  ·rw [if_neg h2, if_neg (by simp; omega)]
   simp [h1]
theorem GU (i : Ins) (k : Int) (hk : 0 ≤ k ∧ k ≤ 1048576) : Fun Tryz.prog 108 [.t i.tt, .t (.int k)] (Ay [.t (T.ints (Af i k))]) := by
 refine Fun.begin tys Tryz.func108 Z Z (N := 28) [(0, .t i.tt), (1, .t (.int k))] Z Z (fun w0 G F0 => ?_);refine sG (AZ Z Z (lt_of Z) Z Z (nZ Z (eZ Z (nB (sQ (sG (eK 2 Z (nB (AH (sG (eK 2 Z (nB ?_))))))))))));refine AC Z (fun h1 => ?_) (fun h1 => ?_)
 ·
  try simp only [HS] at h1
  refine sG (eK 2 Z ?_);refine Cy tys [_] Z Z (lt_of Z) Z Z Z Z Z (by decide) (by repeat (first | exact PartsF.nil' | refine PartsF.cons' rfl Z ?_)) Z ?_;refine nZ Z (kZ [1,4,11] Z (eZ Z (nB ?_)))
  try (refine W_le (Le.nilT (u := 4) 1 rfl) ?_; refine W_norm rfl ?_)
  refine rT (bR (tR (eR ?_)))
  ·first
   | exact Cn (a := [i.n]) (by rw [Af, if_pos (by assumption)])
   | exact Cn (a := put [k + 1] i.n) (by rw [G5]; unfold Af; rw [if_neg h1, if_pos h2])
   | exact Cn (a := []) (by grind [Af])
   | exact Cn (a := [k + 1]) (by grind [Af])
 try simp only [HS] at h1
 refine sG (eK 2 Z (nB ?_));refine AC Z (fun h2 => ?_) (fun h2 => ?_)
 ·
  try simp only [HS] at h2
  refine sQ (kY [1,2,4] Z (rG (eZ Z (evI ?_))));refine Cy tys [_] Z Z (lt_of Z) Z Z Z Z Z (by decide) (by repeat (first | exact PartsF.nil' | refine PartsF.cons' rfl Z ?_)) Z ?_;refine nZ Z (eK 2 Z (Dg Z Z (lt_of Z) Z Z Z Z Z (Mw [k + 1] i.n (by simp) (by simp)) Z ?_));refine eZ Z (nB ?_)
  try (refine W_le (Le.nilT (u := 4) 1 rfl) ?_; refine W_norm rfl ?_)
  refine rT (bR (tR (eR ?_)))
  ·first
   | exact Cn (a := [i.n]) (by rw [Af, if_pos (by assumption)])
   | exact Cn (a := put [k + 1] i.n) (by rw [G5]; unfold Af; rw [if_neg h1, if_pos h2])
   | exact Cn (a := []) (by grind [Af])
   | exact Cn (a := [k + 1]) (by grind [Af])
 try simp only [HS] at h2
 refine sQ (sQ (kY [1,4,6] Z (rG (eK 2 Z (nB ?_)))));refine CC (α := Bool) [1, 4] [2] (fun x => [(20, .t (.bool x))]) (fun x => []) (fun x => x = decide (i.op = 13 ∨ i.op = 14 ∨ i.op = 16 ∨ i.op = 18)) ?_ (fun b hx => ?_)
 ·
  refine AC Z (fun h3 => ?_) (fun h3 => ?_)
  ·
   try simp only [HS] at h3
   refine AD (jQ _ ?_)
   try dsimp only
   grind
  try simp only [HS] at h3
  refine sG (eK 2 Z (nB ?_));refine AC Z (fun h4 => ?_) (fun h4 => ?_)
  ·
   try simp only [HS] at h4
   refine AD (jQ _ ?_)
   try dsimp only
   grind
  try simp only [HS] at h4
  refine sG (eK 2 Z (nB ?_));refine AC Z (fun h5 => ?_) (fun h5 => ?_)
  ·
   try simp only [HS] at h5
   refine AD (jQ _ ?_)
   try dsimp only
   grind
  try simp only [HS] at h5
  refine rG (eK 2 Z (oN (jQ _ ?_)))
  try dsimp only
  grind
 have hb := hx
 refine tN ?_;refine AC Z (fun h3 => ?_) (fun h3 => ?_)
 ·
  try simp only [HS] at h3
  refine sQ (kY [1,4] Z (rG (eZ Z (nB ?_))))
  try (refine W_le (Le.nilT (u := 4) 1 rfl) ?_; refine W_norm rfl ?_)
  refine rT (bR (tR (eR ?_)))
  ·first
   | exact Cn (a := [i.n]) (by rw [Af, if_pos (by assumption)])
   | exact Cn (a := put [k + 1] i.n) (by rw [G5]; unfold Af; rw [if_neg h1, if_pos h2])
   | exact Cn (a := []) (by grind [Af])
   | exact Cn (a := [k + 1]) (by grind [Af])
 try simp only [HS] at h3
 refine AD (bN (tN (sQ (kY [1,4] Z (rG (eZ Z (evI ?_)))))));refine Cy tys [_] Z Z (lt_of Z) Z Z Z Z Z (by decide) (by repeat (first | exact PartsF.nil' | refine PartsF.cons' rfl Z ?_)) Z ?_;refine nZ Z (eZ Z (nB ?_))
 try (refine W_le (Le.nilT (u := 4) 1 rfl) ?_; refine W_norm rfl ?_)
 refine rT (eR ?_)
 ·first
  | exact Cn (a := [i.n]) (by rw [Af, if_pos (by assumption)])
  | exact Cn (a := put [k + 1] i.n) (by rw [G5]; unfold Af; rw [if_neg h1, if_pos h2])
  | exact Cn (a := []) (by grind [Af])
  | exact Cn (a := [k + 1]) (by grind [Af])
theorem Jb (im : Image) (c : Code) (hxl : im.codes.length ≤ 1048576) (hcl : c.ins.length ≤ 1048576) (hsl : c.sites.length ≤ 1048576) : Fun Tryz.prog 83 [.t im.tt, .t c.tt] (Ay [.t (.bool (BM im c))]) := by
 refine Fun.begin tys Tryz.func83 Z Z (N := 42) [(0, .t im.tt), (1, .t c.tt)] Z Z (fun w0 G F0 => ?_);refine sG (AZ Z Z (lt_of Z) Z Z (nZ Z (AZ Z Z (lt_of Z) Z Z (nZ Z (eZ Z (nB (sQ (sG (eK 2 Z (evE ?_))))))))));refine eZ Z (nB (AH ?_));refine lK (α := Int) [2, 3, 8, 9] [2, 3] (fun x => [(10, .t (.int x))]) (fun x => []) (fun x => 0 ≤ x ∧ x ≤ c.ins.length ∧ (c.ins.take x.toNat).all (BB im c) = true) (fun x => Int.toNat (c.ins.length - x)) 0 ?_ (fun k hx => ?_)
 ·exact ⟨by omega, by omega, by simp⟩
 obtain ⟨hk0, hk1, hk2⟩ := hx
 refine nY Z (sG (eZ Z (nB (sQ ?_))));refine AC Z (fun h1 => ?_) (fun h1 => ?_)
 ·
  try simp only [HS] at h1
  refine AD (tN (sQ (AH (sG ?_))))
  first | refine BR tys rfl rfl (lt_of rfl) rfl rfl rfl rfl rfl rfl rfl (by omega) _ (BT _ _ (by omega) (by omega)) ?_ | refine AR tys rfl rfl (lt_of rfl) rfl rfl rfl rfl rfl rfl rfl rfl (by omega) (by omega) ?_
  first | (refine ev ?_; try refine WO_le (Le.freeze (u := 13) rfl) ?_) | refine AG tys rfl rfl (lt_of rfl) rfl rfl rfl rfl (BT _ _ (by omega) (by omega)) rfl ?_ | refine AG tys rfl rfl (lt_of rfl) rfl rfl rfl rfl (BN _ _ (by omega) (by omega)) rfl ?_
  refine nZ Z (AY tys Z Z (lt_of Z) Z Z Z (nZ Z (sT Z (nZ Z (nA (eK 2 Z (nB (AH (sQ (sQ (kY [2,3,6,8,9,10,11,12,13,14,15] Z (rG (eK 2 Z (nB ?_))))))))))))));refine CC (α := Bool) [2, 3, 6, 8, 9, 10, 11, 12, 13, 14, 15, 17] [2, 3, 6] (fun x => [(16, .t (.bool x))]) (fun x => []) (fun x => x = decide ((c.ins[k.toNat]'(by omega)).op = 2 ∨ (c.ins[k.toNat]'(by omega)).op = 3)) ?_ (fun b hx => ?_)
  ·
   refine AC Z (fun h2 => ?_) (fun h2 => ?_)
   ·
    try simp only [HS] at h2
    refine AD (jQ _ ?_)
    try dsimp only
    grind
   try simp only [HS] at h2
   refine rG (eK 2 Z (oN (jQ _ ?_)))
   try dsimp only
   grind
  have hb := hx
  refine tN ?_;refine AC Z (fun h2 => ?_) (fun h2 => ?_)
  ·
   try simp only [HS] at h2
   refine sQ (kY [2,3,6,8,9,10,11,12,13,14,15,16,17] Z (rG (eK 5 Z (nB ?_))));refine AC Z (fun h3 => ?_) (fun h3 => ?_)
   ·
    try simp only [HS] at h3
    refine sG (eZ Z (nB (rT (bR (bR (tR (AP (bR (tR (eR ?_))))))))))
    ·first
     | exact Ax (by rw [BM, B8 (by omega) hk2])
     | exact Ax (by rw [BM, CR hk0 (by omega) (by grind [BB])])
   try simp only [HS] at h3
   refine AD (bN (bN (tN (rG (evI ?_)))));refine eZ Z (oN ?_);refine lQ _ ?_ ?_
   ·try dsimp only
    exact ⟨by omega, by omega, EX hk0 (by omega) hk2 (by grind [BB])⟩
   ·(show Int.toNat _ < Int.toNat _); omega
  try simp only [HS] at h2
  refine sQ (sQ (kY [2,3,6,8,9,10,11,12,13,14,15,16,17] Z (rG (eK 2 Z (nB ?_)))));refine CC (α := Bool) [2, 3, 6, 8, 9, 10, 11, 12, 13, 14, 15, 16, 17, 25] [2, 3, 6] (fun x => [(24, .t (.bool x))]) (fun x => []) (fun x => x = decide ((c.ins[k.toNat]'(by omega)).op = 12 ∨ (c.ins[k.toNat]'(by omega)).op = 17)) ?_ (fun d hx => ?_)
  ·
   refine AC Z (fun h3 => ?_) (fun h3 => ?_)
   ·
    try simp only [HS] at h3
    refine AD (jQ _ ?_)
    try dsimp only
    grind
   try simp only [HS] at h3
   refine rG (eK 2 Z (oN (jQ _ ?_)))
   try dsimp only
   grind
  have hd := hx
  refine tN ?_;refine AC Z (fun h3 => ?_) (fun h3 => ?_)
  ·
   try simp only [HS] at h3
   refine sQ (kY [2,3,6,8,9,10,11,12,13,14,15,16,17,24,25] Z (rG (eK 4 Z (evE ?_))));refine eZ Z (nB ?_);refine AC Z (fun h4 => ?_) (fun h4 => ?_)
   ·
    try simp only [HS] at h4
    refine sG (eZ Z (nB (rT (bR (bR (tR (AP (bR (tR (eR ?_))))))))))
    ·first
     | exact Ax (by rw [BM, B8 (by omega) hk2])
     | exact Ax (by rw [BM, CR hk0 (by omega) (by grind [BB])])
   try simp only [HS] at h4
   refine AD (bN (bN (tN (rG (evI ?_)))));refine eZ Z (oN ?_);refine lQ _ ?_ ?_
   ·try dsimp only
    exact ⟨by omega, by omega, EX hk0 (by omega) hk2 (by grind [BB])⟩
   ·(show Int.toNat _ < Int.toNat _); omega
  try simp only [HS] at h3
  refine sQ (kY [2,3,6,8,9,10,11,12,13,14,15,16,17,24,25] Z (rG (eK 2 Z (nB ?_))));refine AC Z (fun h4 => ?_) (fun h4 => ?_)
  ·
   try simp only [HS] at h4
   refine sG (eK 4 Z (evE ?_));refine eZ Z (nB ?_);refine AC Z (fun h5 => ?_) (fun h5 => ?_)
   ·
    try simp only [HS] at h5
    refine sQ (kY [2,3,6,8,9,10,11,12,13,14,15,16,17,24,25,33,34,35,36,37,38,39,40] Z (rG (eZ Z (nB (rT (bR (bR (tR (AP (bR (tR (eR ?_))))))))))))
    ·first
     | exact Ax (by rw [BM, B8 (by omega) hk2])
     | exact Ax (by rw [BM, CR hk0 (by omega) (by grind [BB])])
   try simp only [HS] at h5
   refine AD (bN (bN (tN (kY [2,3,6,8,9,10,11,12,13,14,15,16,17,24,25,33,34,35,36,37,38,39,40] Z (rG (evI ?_))))));refine eZ Z (oN ?_);refine lQ _ ?_ ?_
   ·try dsimp only
    exact ⟨by omega, by omega, EX hk0 (by omega) hk2 (by grind [BB])⟩
   ·(show Int.toNat _ < Int.toNat _); omega
  try simp only [HS] at h4
  refine AD (bN (bN (tN (rG (evI ?_)))));refine eZ Z (oN ?_);refine lQ _ ?_ ?_
  ·try dsimp only
   exact ⟨by omega, by omega, EX hk0 (by omega) hk2 (by grind [BB])⟩
  ·(show Int.toNat _ < Int.toNat _); omega
 try simp only [HS] at h1
 refine AW (tE (AN (AO (tN (sG (eZ Z (nB (rT (eR ?_)))))))))
 ·first
  | exact Ax (by rw [BM, B8 (by omega) hk2])
  | exact Ax (by rw [BM, CR hk0 (by omega) (by grind [BB])])
theorem D3 {x : Image} {n : Int} (h0 : 0 ≤ n) (h1 : n < x.codes.length) : E2 x n = decide ((x.codes[n.toNat]'(by omega)).params = 0) := by
 rw [E2, Aa h0 h1, decide_eq_true (show 0 ≤ n ∧ n < (x.codes.length : Int) from ⟨h0, h1⟩), Bool.true_and]
theorem Ja (im : Image) (c : Code) (hxl : im.codes.length ≤ 1048576) (hsl : c.sites.length ≤ 1048576) : Fun Tryz.prog 84 [.t im.tt, .t c.tt] (Ay [.t (.bool (Bk im c))]) := by
 refine Fun.begin tys Tryz.func84 Z Z (N := 31) [(0, .t im.tt), (1, .t c.tt)] Z Z (fun w0 G F0 => ?_);refine sG (AZ Z Z (lt_of Z) Z Z (nZ Z (AZ Z Z (lt_of Z) Z Z (nZ Z (eZ Z (nB (sQ (sG (eK 2 Z (evE ?_))))))))));refine eZ Z (nB (AH ?_));refine lK (α := Int) [2, 3, 8, 9] [2, 3] (fun x => [(10, .t (.int x))]) (fun x => []) (fun x => 0 ≤ x ∧ x ≤ c.sites.length ∧ (c.sites.take x.toNat).all (E2 im) = true) (fun x => Int.toNat (c.sites.length - x)) 0 ?_ (fun k hx => ?_)
 ·exact ⟨by omega, by omega, by simp⟩
 obtain ⟨hk0, hk1, hk2⟩ := hx
 refine nY Z (sG (eZ Z (nB (sQ ?_))));refine AC Z (fun h1 => ?_) (fun h1 => ?_)
 ·
  try simp only [HS] at h1
  refine AD (tN (sQ (AH (sG ?_))))
  first | refine BR tys rfl rfl (lt_of rfl) rfl rfl rfl rfl rfl rfl rfl (by omega) _ (BT _ _ (by omega) (by omega)) ?_ | refine AR tys rfl rfl (lt_of rfl) rfl rfl rfl rfl rfl rfl rfl rfl (by omega) (by omega) ?_
  first | refine ev ?_ | refine AG tys rfl rfl (lt_of rfl) rfl rfl rfl rfl (BT _ _ (by omega) (by omega)) rfl ?_ | refine AG tys rfl rfl (lt_of rfl) rfl rfl rfl rfl (BN _ _ (by omega) (by omega)) rfl ?_
  refine eZ Z (nA (eK 3 Z (evE ?_)));refine evI ?_;refine kZ [2,3,6,8,9,10,11,12,13,14,15,16,17,18] Z (AS ?_);refine ⟨_, BS _ _ _, rfl, ?_⟩;refine eK 2 Z ?_;refine gB (fun h2 => ?_) (fun h2 => ?_)
  ·
   try simp only [HS] at h2
   refine xK 6 Z (kZ [2,3,6,8,9,10,11,12,13,14,15,16,17,18,19,20,21,22,23,24,25,26,27,28] Z (eZ Z (nB (A5 Z (sG (eZ Z (nB (rT (bR (tR (AP (bR (tR (eR ?_))))))))))))))
   ·first
    | exact Ax (by rw [Bk, B8 (by omega) hk2])
    | exact Ax (by rw [Bk, CR hk0 (by omega) (by first | (rw [D3 (by omega) (by omega)]; simp_all; done) | (rw [E2, decide_eq_false (by omega)]; rfl))])
  try simp only [HS] at h2
  refine xK 3 Z (gY Z ?_)
  first | refine BR tys rfl rfl (lt_of rfl) rfl rfl rfl rfl rfl rfl rfl (by omega) _ (BT _ _ (by omega) (by omega)) ?_ | refine AR tys rfl rfl (lt_of rfl) rfl rfl rfl rfl rfl rfl rfl rfl (by omega) (by omega) ?_
  refine xZ Z (gY Z ?_)
  first | refine ev ?_ | refine AG tys rfl rfl (lt_of rfl) rfl rfl rfl rfl (BT _ _ (by omega) (by omega)) rfl ?_ | refine AG tys rfl rfl (lt_of rfl) rfl rfl rfl rfl (BN _ _ (by omega) (by omega)) rfl ?_
  refine kZ [2,3,6,8,9,10,11,12,13,14,15,16,17,18,19,20,21,22,23,24,25,26,27] Z (xK 2 Z (nB ?_));refine AC Z (fun h3 => ?_) (fun h3 => ?_)
  ·
   try simp only [HS] at h3
   refine sG (eZ Z (nB (rT (bR (tR (AP (bR (tR (eR ?_)))))))))
   ·first
    | exact Ax (by rw [Bk, B8 (by omega) hk2])
    | exact Ax (by rw [Bk, CR hk0 (by omega) (by first | (rw [D3 (by omega) (by omega)]; simp_all; done) | (rw [E2, decide_eq_false (by omega)]; rfl))])
  try simp only [HS] at h3
  refine AD (bN (tN (rG (evI ?_))));refine eZ Z (oN ?_);refine lQ _ ?_ ?_
  ·try dsimp only
   exact ⟨by omega, by omega, EX hk0 (by omega) hk2 (by rw [D3 (by omega) (by omega)]; simp_all)⟩
  ·(show Int.toNat _ < Int.toNat _); omega
 try simp only [HS] at h1
 refine AW (tE (AN (AO (tN (sG (eZ Z (nB (rT (eR ?_)))))))))
 ·first
  | exact Ax (by rw [Bk, B8 (by omega) hk2])
  | exact Ax (by rw [Bk, CR hk0 (by omega) (by first | (rw [D3 (by omega) (by omega)]; simp_all; done) | (rw [E2, decide_eq_false (by omega)]; rfl))])
theorem HA {i : Ins} (h : Ed i = true) {k N : Int} (hk : 0 ≤ k) : DR (Af i k) 0 (N - 1) = (Af i k).all fun n => decide (n < N) := by
 have hn := KJ h hk
 unfold DR;rw [Bool.eq_iff_iff, Ql, Ql]
 constructor
 ·intro g n hm; have := of_decide_eq_true (g n hm); exact decide_eq_true (by omega)
 ·intro g n hm; have := of_decide_eq_true (g n hm); have := hn n hm; exact decide_eq_true (by omega)
theorem LR (c : Code) (hcl : c.ins.length ≤ 1048576) (hi : c.ins.all Ed = true) : Fun Tryz.prog 85 [.t c.tt] (Ay [.t (.bool (EN c))]) := by
 refine Fun.begin tys Tryz.func85 Z Z (N := 23) [(0, .t c.tt)] Z Z (fun w0 G F0 => ?_);refine sG (AZ Z Z (lt_of Z) Z Z (nZ Z (eZ Z (nB (sQ (sG (eK 2 Z (evE ?_))))))));refine eZ Z (nB (AH ?_));refine lK (α := Int) [1, 6, 7] [1] (fun x => [(8, .t (.int x))]) (fun x => []) (fun x => 0 ≤ x ∧ x ≤ c.ins.length ∧ EN c = goesGo c.ins.length (c.ins.drop x.toNat) x) (fun x => Int.toNat (c.ins.length - x)) 0 ?_ (fun k hx => ?_)
 ·exact ⟨by omega, by omega, rfl⟩
 obtain ⟨hk0, hk1, hk2⟩ := hx
 refine nY Z (sG (eZ Z (nB (sQ ?_))));refine AC Z (fun h1 => ?_) (fun h1 => ?_)
 ·
  try simp only [HS] at h1
  refine AD (tN (sQ (AH (sG (eZ Z ?_)))))
  first | refine BR tys rfl rfl (lt_of rfl) rfl rfl rfl rfl rfl rfl rfl (by omega) _ (BT _ _ (by omega) (by omega)) ?_ | refine AR tys rfl rfl (lt_of rfl) rfl rfl rfl rfl rfl rfl rfl rfl (by omega) (by omega) ?_
  first | (refine ev ?_; try refine WO_le (Le.freeze (u := 12) rfl) ?_) | refine AG tys rfl rfl (lt_of rfl) rfl rfl rfl rfl (BT _ _ (by omega) (by omega)) rfl ?_ | refine AG tys rfl rfl (lt_of rfl) rfl rfl rfl rfl (BN _ _ (by omega) (by omega)) rfl ?_
  refine nZ Z (AY tys Z Z (lt_of Z) Z Z Z (nZ Z (eZ Z (sT Z (nZ Z (nB (sQ (kY [1,3,4,6,7,8,9,10,11,12] Z (AV mixed (by kernel_rfl) ?_)))))))))
  first | refine Ko tys rfl rfl (lt_of rfl) rfl rfl ?_ | refine evQ ?_ | refine CS tys rfl rfl (lt_of rfl) rfl rfl rfl rfl rfl rfl ?_
  refine evQ ?_;refine PU Z Z (lt_of Z) Z Z Z Z Z (GU _ _ (by omega)) Z (evQ ?_);refine evQ ?_;refine evEQ ?_;refine AI Z (Lx ?_);refine Dp ?_;refine ⟨_, IY _ _ _ (by have := EG (c.ins[k.toNat]'(by omega)) k; omega), rfl, ?_⟩;refine evQ ?_;refine Ak (tN ?_);refine AC Z (fun h2 => ?_) (fun h2 => ?_)
  ·
   try simp only [HS] at h2
   refine sG (eZ Z (nB (rT (bR (tR (AP (bR (tR (eR ?_)))))))))
   ·first
    | exact Ax (by rw [hk2, AX (by omega)]; rfl)
    | exact Ax (by rw [hk2, drop_at hk0 (by omega), goesGo, ← HA (Ql.1 hi _ (Qq _)) hk0, h2]; rfl)
  try simp only [HS] at h2
  refine AD (bN (tN (rG (evI ?_))));refine eZ Z (oN ?_);refine lQ _ ?_ ?_
  ·try dsimp only
   refine ⟨by omega, by omega, ?_⟩;rw [hk2, drop_at hk0 (by omega), goesGo, ← HA (Ql.1 hi _ (Qq _)) hk0, h2, Bool.true_and]
  ·(show Int.toNat _ < Int.toNat _); omega
 try simp only [HS] at h1
 refine AW (tE (AN (AO (tN (sG (eZ Z (nB (rT (eR ?_)))))))))
 ·first
  | exact Ax (by rw [hk2, AX (by omega)]; rfl)
  | exact Ax (by rw [hk2, drop_at hk0 (by omega), goesGo, ← HA (Ql.1 hi _ (Qq _)) hk0, h2]; rfl)
theorem LQ (rows : List Row) (many : Int) (hl : rows.length ≤ 1048576) (hm : 0 ≤ many ∧ many ≤ 1048576) : Fun Tryz.prog 86 [.t (T.Rows rows), .t (.int many)] (Ay [.t (.bool (D6 rows many))]) := by
 refine Fun.begin tys Tryz.func86 Z Z (N := 42) [(0, .t (T.Rows rows)), (1, .t (.int many))] Z Z (fun w0 G F0 => ?_);refine sG (eZ Z (nA (eZ Z (nB (sQ (sG (eZ Z (evE ?_))))))));refine eZ Z (nB (AH ?_));refine lK (α := Int × Int) [0, 1, 8, 9] [] (fun x => [(10, .t (.int (x.1))), (5, .t (.int (x.2)))]) (fun x => []) (fun x => 0 ≤ (x.1) ∧ (x.1) ≤ rows.length ∧ D6 rows many = B4 many (rows.drop (x.1).toNat) (x.2)) (fun x => Int.toNat (rows.length - (x.1))) (0, 0) ?_ (fun x hx => ?_)
 ·exact ⟨by omega, by omega, rfl⟩
 obtain ⟨k, e⟩ := x
 obtain ⟨hk0, hk1, hk2⟩ := hx
 try dsimp only at hk0 hk1 hk2 ⊢
 refine nY Z (sG (eZ Z (nB (sQ ?_))));refine AC Z (fun h1 => ?_) (fun h1 => ?_)
 ·
  try simp only [HS] at h1
  refine AD (tN (sQ (AH (sG ?_))))
  first | refine BR tys rfl rfl (lt_of rfl) rfl rfl rfl rfl rfl rfl rfl (by omega) _ (BT _ _ (by omega) (by omega)) ?_ | refine AR tys rfl rfl (lt_of rfl) rfl rfl rfl rfl rfl rfl rfl rfl (by omega) (by omega) ?_
  first | (refine ev ?_; try refine WO_le (Le.freeze (u := 13) rfl) ?_) | refine AG tys rfl rfl (lt_of rfl) rfl rfl rfl rfl (BT _ _ (by omega) (by omega)) rfl ?_ | refine AG tys rfl rfl (lt_of rfl) rfl rfl rfl rfl (BN _ _ (by omega) (by omega)) rfl ?_
  refine nZ Z (AY tys Z Z (lt_of Z) Z Z Z (nZ Z (sT Z (nZ Z (nB (sQ (sG (eK 4 Z (kZ [0,1,5,7,8,9,10,11,12,13,14,15,16,17] Z (eZ Z ?_))))))))));refine gB (fun h2 => ?_) (fun h2 => ?_)
  ·
   try simp only [HS] at h2
   refine xK 8 Z (kZ [0,1,5,7,8,9,10,11,12,13,14,15,16,17,18,19,20,21,22,23,24,25,26,27] Z (xK 9 Z (kZ [0,1,5,7,8,9,10,11,12,13,14,15,16,17,18,19,20,21,22,23,24,25,26,27,28,29,30,31,32,33,34,35,36] Z (xK 2 Z (nB (A5 Z (sG (eZ Z (nB (rT (tR (bR (tR (AP (bR ?_)))))))))))))));refine tR (eR ?_)
   ·first
    | exact Ax (by rw [hk2, AX (by omega)]; rfl)
    | exact Ax (by rw [hk2, drop_at hk0 (by omega), B4]; simp_all <;> omega)
  try simp only [HS] at h2
  refine xK 7 Z ?_;refine gB (fun h3 => ?_) (fun h3 => ?_)
  ·
   try simp only [HS] at h3
   refine xZ Z (kZ [0,1,5,7,8,9,10,11,12,13,14,15,16,17,18,19,20,21,22,23,24,25,26,27] Z (xK 9 Z (kZ [0,1,5,7,8,9,10,11,12,13,14,15,16,17,18,19,20,21,22,23,24,25,26,27,28,29,30,31,32,33,34,35,36] Z (xK 2 Z (nB (A5 Z (sG (eZ Z (nB (rT (tR (bR (tR (AP (bR ?_)))))))))))))));refine tR (eR ?_)
   ·first
    | exact Ax (by rw [hk2, AX (by omega)]; rfl)
    | exact Ax (by rw [hk2, drop_at hk0 (by omega), B4]; simp_all <;> omega)
  try simp only [HS] at h3
  refine xK 2 Z (kZ [0,1,5,7,8,9,10,11,12,13,14,15,16,17,18,19,20,21,22,23,24,25,26,27] Z (xK 4 Z ?_));refine gB (fun h4 => ?_) (fun h4 => ?_)
  ·
   try simp only [HS] at h4
   refine xK 5 Z (kZ [0,1,5,7,8,9,10,11,12,13,14,15,16,17,18,19,20,21,22,23,24,25,26,27,28,29,30,31,32,33,34,35,36,37] Z (eZ Z (nB (A5 Z (sG (eZ Z (nB (rT (tR (bR (tR (AP (bR (tR (eR ?_)))))))))))))))
   ·first
    | exact Ax (by rw [hk2, AX (by omega)]; rfl)
    | exact Ax (by rw [hk2, drop_at hk0 (by omega), B4]; simp_all <;> omega)
  try simp only [HS] at h4
  refine xK 3 Z (gY Z (evI ?_));refine gY Z (AS ?_);refine ⟨_, BS _ _ _, rfl, ?_⟩;refine kZ [0,1,5,7,8,9,10,11,12,13,14,15,16,17,18,19,20,21,22,23,24,25,26,27,28,29,30,31,32,33,34,35,36] Z (xK 2 Z (nB ?_));refine AC Z (fun h5 => ?_) (fun h5 => ?_)
  ·
   try simp only [HS] at h5
   refine sG (eZ Z (nB (rT (tR (bR (tR (AP (bR (tR (eR ?_))))))))))
   ·first
    | exact Ax (by rw [hk2, AX (by omega)]; rfl)
    | exact Ax (by rw [hk2, drop_at hk0 (by omega), B4]; simp_all <;> omega)
  try simp only [HS] at h5
  refine AD (tN (rG (eK 3 Z (oN (bN (tN (rG (evI ?_))))))));refine eZ Z (oN ?_);refine lQ (_, _) ?_ ?_
  ·try dsimp only
   refine ⟨by omega, by omega, ?_⟩;rw [hk2, drop_at hk0 (by omega), B4]
   simp_all <;> omega
  ·(show Int.toNat _ < Int.toNat _); omega
 try simp only [HS] at h1
 refine AW (tE (AN (AO (tN (sG (eZ Z (nB (rT (eR ?_)))))))))
 ·first
  | exact Ax (by rw [hk2, AX (by omega)]; rfl)
  | exact Ax (by rw [hk2, drop_at hk0 (by omega), B4]; simp_all <;> omega)
theorem Fe (rows : List Row) (at' : Int) (hl : rows.length ≤ 1048576) (hr : ∀ r, r ∈ rows → -1048576 ≤ r.hi ∧ r.hi ≤ 1048576) : Fun Tryz.prog 70 [.t (T.Rows rows), .t (.int at')] (Ay [.t (.int (rowX rows at'))]) := by
 refine Fun.begin tys Tryz.func70 Z Z (N := 23) [(0, .t (T.Rows rows)), (1, .t (.int at'))] Z Z (fun w0 G F0 => ?_);refine sG (eZ Z (nB (sQ (sG (eZ Z (evE ?_))))));refine eZ Z (nB (AH ?_));refine lK (α := Int) [0, 1, 7, 8] [] (fun x => [(9, .t (.int x))]) (fun x => []) (fun x => 0 ≤ x ∧ x ≤ rows.length ∧ rowX rows at' = rowGo at' (rows.drop x.toNat) x.toNat) (fun x => Int.toNat (rows.length - x)) 0 ?_ (fun k hx => ?_)
 ·exact ⟨by omega, by omega, rfl⟩
 obtain ⟨hk0, hk1, hk2⟩ := hx
 refine nY Z (sG (eZ Z (nB (sQ ?_))));refine AC Z (fun h1 => ?_) (fun h1 => ?_)
 ·
  try simp only [HS] at h1
  refine AD (tN (sQ (AH (sG (eZ Z ?_)))))
  have hrk := hr _ (Qq (l := rows) (n := k.toNat) (by omega))
  first | refine BR tys rfl rfl (lt_of rfl) rfl rfl rfl rfl rfl rfl rfl (by omega) _ (BT _ _ (by omega) (by omega)) ?_ | refine AR tys rfl rfl (lt_of rfl) rfl rfl rfl rfl rfl rfl rfl rfl (by omega) (by omega) ?_
  first | (refine ev ?_; try refine WO_le (Le.freeze (u := 13) rfl) ?_) | refine AG tys rfl rfl (lt_of rfl) rfl rfl rfl rfl (BT _ _ (by omega) (by omega)) rfl ?_ | refine AG tys rfl rfl (lt_of rfl) rfl rfl rfl rfl (BN _ _ (by omega) (by omega)) rfl ?_
  refine nZ Z (AY tys Z Z (lt_of Z) Z Z Z (nZ Z (eZ Z (sT Z (nZ Z (nB (sQ (kY [0,1,5,6,7,8,9,10,11,12,13] Z (rG (eK 5 Z (evI ?_)))))))))));refine AS ?_;refine ⟨_, BS _ _ _, rfl, ?_⟩;refine nB ?_;refine AC Z (fun h2 => ?_) (fun h2 => ?_)
  ·
   try simp only [HS] at h2
   refine sQ (kY [0,1,5,6,7,8,9,10,11,12,13,14,15,16,17,18,19,20] Z (rG (eK 2 Z (nB (rT (bR (tR (AP (bR (tR (eR ?_)))))))))))
   ·first
    | (refine I3 ?_; rw [hk2, drop_at hk0 (by omega), rowGo, if_pos (by omega)]; omega)
    | (refine I3 ?_; rw [hk2, AX (by omega)]; rfl)
  try simp only [HS] at h2
  refine AD (bN (tN (kY [0,1,5,6,7,8,9,10,11,12,13,14,15,16,17,18,19,20] Z (rG (evI ?_)))));refine eZ Z (oN ?_);refine lQ _ ?_ ?_
  ·try dsimp only
   refine ⟨by omega, by omega, ?_⟩;rw [hk2, drop_at hk0 (by omega), rowGo, if_neg (by omega), show (k + 1).toNat = k.toNat + 1 from by omega]
  ·(show Int.toNat _ < Int.toNat _); omega
 try simp only [HS] at h1
 refine AW (tE (AN (AO (tN (sG (eZ Z (nB (rT (eR ?_)))))))))
 ·first
  | (refine I3 ?_; rw [hk2, drop_at hk0 (by omega), rowGo, if_pos (by omega)]; omega)
  | (refine I3 ?_; rw [hk2, AX (by omega)]; rfl)
open Go.Eng
def Ly (c : Code) (hs met : List Int) (k : Nat) : Prop :=
 hs.length = c.ins.length ∧ (∀ v, v ∈ hs → v = -1 ∨ v = 0) ∧ atI hs 0 = 0 ∧ (∀ r, r ∈ c.rows.take k → atI hs r.pad = 0) ∧ (∀ j, j ∈ met → 0 ≤ j ∧ j < c.ins.length ∧ 0 ≤ atI hs j) ∧
 (∀ j : Int, 0 ≤ j → j < c.ins.length → 0 ≤ atI hs j → j ∈ met ∧ (j = 0 ∨ ∃ r, r ∈ c.rows ∧ r.pad = j)) ∧ met.length + negs hs = c.ins.length
theorem Oo (n : Nat) : negs (List.replicate n (-1)) = n := by simp [negs, List.countP_replicate]
section
variable {x : Image} {c : Code} {hs met : List Int} {k : Int}
theorem Nj {n : Nat} {j : Int} (h0 : 0 ≤ j) (h1 : j < n) : atI (List.replicate n (-1)) j = -1 := by
 rw [atI, List.getElem?_replicate, if_pos (by omega)]; rfl
theorem Ga (h : 1 ≤ c.ins.length) : Ly c ((List.replicate c.ins.length (-1)).set 0 0) [0] 0 := by
 have hl : (0 : Int) < (List.replicate c.ins.length (-1 : Int)).length := by rw [Q5]; omega
 have hs : ∀ j : Int, 0 ≤ j → atI ((List.replicate c.ins.length (-1)).set 0 0) j = if j = 0 then 0 else atI (List.replicate c.ins.length (-1)) j := fun j hj => Fx (n := 0) (by omega) hl hj
 refine ⟨by simp, fun v hv => ?_, by rw [hs 0 (by omega)]; rfl, by simp, fun j hj => ?_, fun j h0 h1 h2 => ?_, ?_⟩
 ·rcases RD hv with hv | rfl
  ·exact .inl (List.eq_of_mem_replicate hv)
  ·exact .inr rfl
 ·rw [Qw] at hj; subst hj
  exact ⟨by omega, by omega, by rw [hs 0 (by omega)]; simp⟩
 ·rw [hs j h0] at h2
  split at h2
  ·rename_i e; subst e; exact ⟨by simp, .inl rfl⟩
  ·rw [Nj h0 h1] at h2; omega
 ·have := E9 (l := List.replicate c.ins.length (-1)) (n := 0) (v := 0) (by omega) hl (by rw [Nj (by omega) (by omega)]; omega) (by omega)
  rw [Oo] at this;simp only [List.length_singleton];rw [show ((0 : Int).toNat) = 0 from rfl] at this;omega
theorem Ir (h : Ly c hs met k.toNat) (h0 : 0 ≤ k) (h1 : k < c.rows.length) (hp0 : 0 ≤ (c.rows[k.toNat]'(by omega)).pad) (hp1 : (c.rows[k.toNat]'(by omega)).pad < c.ins.length) (hv : ¬ atI hs (c.rows[k.toNat]'(by omega)).pad < 0) : Ly c hs met (k + 1).toNat := by
 obtain ⟨a1, a2, a3, a4, a5, a6, a7⟩ := h
 refine ⟨a1, a2, a3, fun r hr => ?_, a5, a6, a7⟩;rw [CK h0 h1, Qg, Qw] at hr
 rcases hr with hr | rfl
 ·exact a4 r hr
 ·have := a2 _ (atI_in hp0 (by omega) : atI hs (c.rows[k.toNat]'(by omega)).pad ∈ hs)
  omega
theorem PG (h : Ly c hs met k.toNat) (h0 : 0 ≤ k) (h1 : k < c.rows.length) (hp0 : 0 ≤ (c.rows[k.toNat]'(by omega)).pad) (hp1 : (c.rows[k.toNat]'(by omega)).pad < c.ins.length) (hv : atI hs (c.rows[k.toNat]'(by omega)).pad < 0) : Ly c (hs.set (c.rows[k.toNat]'(by omega)).pad.toNat 0) (met ++ [(c.rows[k.toNat]'(by omega)).pad]) (k + 1).toNat := by
 obtain ⟨a1, a2, a3, a4, a5, a6, a7⟩ := h
 generalize hq : (c.rows[k.toNat]'(by omega)).pad = q at *
 have hset : ∀ j : Int, 0 ≤ j → atI (hs.set q.toNat 0) j = if j = q then 0 else atI hs j := fun j hj => Fx hp0 (by omega) hj
 have hge : ∀ j : Int, atI hs j = 0 → atI (hs.set q.toNat 0) j = 0 := fun j hj => by
  unfold atI at hj ⊢
  by_cases e : j.toNat = q.toNat
  ·rw [e, List.getElem?_set_self (by omega)]; rfl
  ·rw [List.getElem?_set_ne (by omega)]; exact hj
 refine ⟨by rw [Qo]; exact a1, fun v hv => ?_, hge 0 a3, fun r hr => ?_, fun j hj => ?_, fun j g0 g1 g2 => ?_, ?_⟩
 ·rcases RD hv with hv | rfl
  ·exact a2 v hv
  ·exact .inr rfl
 ·rw [CK h0 h1, Qg, Qw] at hr
  rcases hr with hr | rfl
  ·exact hge _ (a4 r hr)
  ·rw [hq, hset q hp0, if_pos rfl]
 ·rcases Qg.1 hj with hj | hj
  ·obtain ⟨b1, b2, b3⟩ := a5 j hj
   exact ⟨b1, b2, by rw [hset j b1]; split <;> omega⟩
  ·rw [Qw] at hj; subst hj
   exact ⟨hp0, hp1, by rw [hset j hp0, if_pos rfl]; omega⟩
 ·rw [hset j g0] at g2
  split at g2
  ·rename_i e; subst e
   exact ⟨by simp, .inr ⟨_, Qq _, hq⟩⟩
  ·have := a6 j g0 g1 g2
   exact ⟨by simp [this.1], this.2⟩
 ·have := E9 (l := hs) (v := 0) hp0 (by omega) hv (by omega)
  rw [Qf, List.length_singleton];omega
theorem Nc (h : Ly c hs met k.toNat) (h0 : 0 ≤ k) (h1 : k < c.rows.length) (hp0 : 0 ≤ (c.rows[k.toNat]'(by omega)).pad) (hp1 : (c.rows[k.toNat]'(by omega)).pad < c.ins.length) (hv : atI hs (c.rows[k.toNat]'(by omega)).pad < 0) {xs ms : List T} (e1 : xs = (hs.map T.int).set (c.rows[k.toNat]'(by omega)).pad.toNat (T.int 0)) (e2 : ms = met.map T.int ++ [T.int (c.rows[k.toNat]'(by omega)).pad]) :
  ∃ hs met : List Int, xs = hs.map T.int ∧ ms = met.map T.int ∧ Ly c hs met (k + 1).toNat :=
 ⟨_, _, by rw [e1, RR], by rw [e2]; simp, PG h h0 h1 hp0 hp1 hv⟩
theorem PF (h : Ly c hs met k.toNat) (h0 : 0 ≤ k) (h1 : k < c.rows.length) (hp0 : 0 ≤ (c.rows[k.toNat]'(by omega)).pad) (hp1 : (c.rows[k.toNat]'(by omega)).pad < c.ins.length) (hv : ¬ atI hs (c.rows[k.toNat]'(by omega)).pad < 0) {xs : List T} (e1 : xs = (hs.map T.int).set (c.rows[k.toNat]'(by omega)).pad.toNat (T.int 0)) :
  ∃ hs' met' : List Int, xs = hs'.map T.int ∧ met.map T.int = met'.map T.int ∧ Ly c hs' met' (k + 1).toNat := by
 refine ⟨hs, met, ?_, rfl, Ir h h0 h1 hp0 hp1 hv⟩
 have hl := h.1
 have h2 := h.2.1 _ (atI_in hp0 (by omega) : atI hs (c.rows[k.toNat]'(by omega)).pad ∈ hs)
 have h3 : atI hs (c.rows[k.toNat]'(by omega)).pad = 0 := by omega
 rw [BV hp0 (by omega)] at h3;rw [e1, ← RR]
 congr 1
 refine List.ext_getElem (by simp) fun j h4 h5 => ?_
 rw [List.getElem_set];split
 ·rename_i e; subst e; exact h3.symm
 ·rfl
theorem It (h : Ly c hs met c.rows.length) : FW x c hs met := by
 obtain ⟨a1, a2, a3, a4, a5, a6, a7⟩ := h
 rw [RO] at a4;refine ⟨⟨a1, fun v hv => by have := a2 v hv; omega⟩, ⟨a3, a4⟩, fun h' hf j h0 h1 h2 => ?_, fun j hj => by have := a5 j hj; omega, fun j h0 h1 h2 => .inl (a6 j h0 (by omega) h2).1⟩
 have hz : atI hs j = 0 := by
  have := a2 _ (atI_in h0 h1 : atI hs j ∈ hs)
  omega
 rw [hz]
 rcases (a6 j h0 (by omega) h2).2 with rfl | ⟨r, hr, rfl⟩
 ·exact hf.2.1.1
 ·exact hf.2.1.2 r hr
end
theorem RdyX.tk {x : Image} {c : Code} (h : RdyX x c) {i : Ins} (hi : i ∈ c.ins) : 0 ≤ tkX x i ∧ tkX x i ≤ 2 := by
 unfold tkX;split
 ·omega
 ·split
  ·omega
  ·split
   ·rename_i h7
    have := h.call i hi h7
    rw [Aa this.1 this.2];exact h.par _ (Qq _)
   ·omega
section
variable {x : Image} {c : Code} {hs met done : List Int} {k k0 n v : Int}
def seekX (x : Image) (c : Code) (xs ms : List T) (k : Int) : Prop := ∃ hs met : List Int, xs = hs.map T.int ∧ ms = met.map T.int ∧ 0 ≤ k ∧ k ≤ met.length ∧ met.length + negs hs = c.ins.length ∧ FW x c hs (met.drop k.toNat)
def H0 (x : Image) (c : Code) (xs ms : List T) (k k0 hi : Int) (done : List Int) : Prop := ∃ hs met : List Int, xs = hs.map T.int ∧ ms = met.map T.int ∧ 0 ≤ k ∧ k + 1 ≤ met.length ∧ met.length + negs hs = c.ins.length ∧ LH x c hs (met.drop (k + 1).toNat) k0 done ∧ hi = atI hs k0 - tkX x (Ac c k0) + ptX (Ac c k0)
theorem K3 (h0 : 0 ≤ k) (h1 : k < met.length) (hm : met.length + negs hs = c.ins.length) (h : FW x c hs (met.drop k.toNat)) (hk : k0 = met[k.toNat]'(by omega)) (ht : tkX x (Ac c k0) ≤ atI hs k0) {hi : Int} (hh : hi = atI hs k0 - tkX x (Ac c k0) + ptX (Ac c k0)) :
  H0 x c (hs.map T.int) (met.map T.int) k k0 hi [] := by
 refine ⟨hs, met, rfl, rfl, h0, by omega, hm, G8 h (by rw [drop_at h0 h1, hk]; simp) (fun j hj => by rw [drop_at h0 h1]; simp [hj]) (fun j hj => ?_) ht, hh⟩;rw [drop_at h0 h1, Qn] at hj
 rcases hj with hj | hj
 ·exact .inl (hj.trans hk.symm)
 ·exact .inr hj
theorem MP {xs ms : List T} {hi : Int} (h : H0 x c xs ms k k0 hi done) (hd : ∀ n, n ∈ Af (Ac c k0) k0 → n ∈ done) : seekX x c xs ms (k + 1) := by
 obtain ⟨hs, met, e1, e2, h0, h1, h2, h3, h4⟩ := h
 exact ⟨hs, met, e1, e2, by omega, by omega, h2, KN h3 hd⟩
theorem GL {hi : Int} (h0 : 0 ≤ k) (h1 : k + 1 ≤ met.length) (hm : met.length + negs hs = c.ins.length) (h : LH x c hs (met.drop (k + 1).toNat) k0 done) (hh : hi = atI hs k0 - tkX x (Ac c k0) + ptX (Ac c k0)) (hn : ¬ atI hs n < 0) (hs' : ¬ (0 ≤ atI hs n ∧ ¬ atI hs n = hi)) :
  H0 x c (hs.map T.int) (met.map T.int) k k0 hi (done ++ [n]) :=
 ⟨hs, met, rfl, rfl, h0, h1, hm, KM h (by omega), hh⟩
theorem Hz {hi : Int} (hR : RdyX x c) (h0 : 0 ≤ k) (h1 : k + 1 ≤ met.length) (hm : met.length + negs hs = c.ins.length) (h : LH x c hs (met.drop (k + 1).toNat) k0 done) (hh : hi = atI hs k0 - tkX x (Ac c k0) + ptX (Ac c k0)) (hnx : n ∈ Af (Ac c k0) k0) (hn0 : 0 ≤ n) (hn1 : n < hs.length) (hn : atI hs n < 0) (h40 : hi ≤ 40)
  {xs ms : List T} (e1 : xs = (hs.map T.int).set n.toNat (T.int hi)) (e2 : ms = met.map T.int ++ [T.int n]) : H0 x c xs ms k k0 hi (done ++ [n]) := by
 have hk := h.2.2.2.2.2.1
 have hv : 0 ≤ hi := by have := EB (Ac c k0); omega
 have hne : k0 ≠ n := fun e => by rw [← e] at hn; omega
 refine ⟨hs.set n.toNat hi, met ++ [n], by rw [e1, RR], by rw [e2]; simp, h0, by rw [Qf]; omega, ?_, ?_, ?_⟩
 ·have := E9 (l := hs) (v := hi) hn0 hn1 hn hv
  rw [Qf, List.length_singleton]; omega
 ·have := Mm h hnx hn0 hn1 hn (EB _) (by omega) hh (fun r hr => (hR.pads r hr).1)
  rw [List.drop_append_of_le_length (by omega)];exact this
 ·rw [Fx hn0 hn1 hk.1, if_neg hne]; exact hh
end
theorem P5 {i : Ins} (h : 0 < ptX i) (k : Int) : Af i k = [k + 1] := by
 unfold ptX at h;split at h
 ·unfold Af
  rw [if_neg (by omega), if_neg (by omega), if_neg (by omega)]
 ·omega
theorem J8 {x : Image} {c : Code} {hs open' : List Int} {k0 : Int} (h : FW x c hs open') (hk : k0 ∈ open') (ht : atI hs k0 < tkX x (Ac c k0)) : heiX x c = none := Mc h hk (by omega)
theorem MI {x : Image} {c : Code} {hs open' : List Int} {k0 : Int} (hR : RdyX x c) (h : FW x c hs open') (hk : k0 ∈ open') (ht : tkX x (Ac c k0) ≤ atI hs k0) (h40 : 40 < atI hs k0 - tkX x (Ac c k0) + ptX (Ac c k0)) : heiX x c = none := by
 obtain ⟨b1, b2, b3⟩ := h.2.2.2.1 _ hk
 have hl := h.1.1
 have hr := h.1.2 _ (atI_in b1 b2 : atI hs k0 ∈ hs)
 have hm : Ac c k0 ∈ c.ins := by rw [BK b1 (by omega)]; exact Qq _
 have htk := hR.tk hm
 have hn := P5 (i := Ac c k0) (by have := EB (Ac c k0); have := MX (Ac c k0); omega) k0
 have hin : k0 + 1 ∈ Af (Ac c k0) k0 := by rw [hn]; simp
 have hnn := hR.next k0 b1 (by omega) _ hin
 exact FA (G8 (open'' := open') h hk (fun k hk => hk) (fun k hk => .inr hk) ht) hin hnn.1 (by omega) (.inl h40)
theorem Pu {h : Option (List Int)} (e : h = none) : [D.own (T.list 1 []), D.t (T.v (Value.bool false))] = [D.own (T.ints (h.getD [])), D.t (T.bool h.isSome)] := by rw [e]; rfl
theorem retHS {h : Option (List Int)} {l : List Int} {l' : List T} (e : h = some l) (hl : l' = l.map T.int) : [D.own (T.list 1 l'), D.t (T.v (Value.bool true))] = [D.own (T.ints (h.getD [])), D.t (T.bool h.isSome)] := by rw [e, hl]; rfl
theorem MR {h : Option (List Int)} (e : h = none) : [D.t (T.list 1 []), D.t (T.v (Value.bool false))] = [D.t (T.ints (h.getD [])), D.t (T.bool h.isSome)] := by rw [e]; rfl
theorem retHSt {h : Option (List Int)} {l : List Int} {l' : List T} (e : h = some l) (hl : l' = l.map T.int) : [D.t (T.list 1 l'), D.t (T.v (Value.bool true))] = [D.t (T.ints (h.getD [])), D.t (T.bool h.isSome)] := by rw [e, hl]; rfl
theorem HI (im : Image) (c : Code) (hR : RdyX im c) : Fun Tryz.prog 87 [.t im.tt, .t c.tt] (Ay [.t (T.ints ((heiX im c).getD [])), .t (.bool (heiX im c).isSome)]) := by
 have hxl := hR.xl
 have hn1 := hR.n1
 have hn2 := hR.n2
 have hrl := hR.rl
 refine Fun.begin tys Tryz.func87 Z Z (N := 135) [(0, .t im.tt), (1, .t c.tt)] Z Z (fun w0 G F0 => ?_);refine sG (AZ Z Z (lt_of Z) Z Z (nZ Z (AZ Z Z (lt_of Z) Z Z (nZ Z (eK 2 Z (nA (eK 2 Z (evE ?_))))))));refine Ch tys (.v (.int .i64 0)) _ Z Z (lt_of Z) Z Z Z Z Z (by repeat (first | exact AbsL.nil' | refine AbsL.v' ?_ | refine AbsL.none' ?_)) Z (by omega) (by decide) ?_;refine nZ Z (eZ Z (kZ [2,3,4,5,6] Z (nB (sQ (sG (eZ Z (evE ?_)))))));refine eZ Z (nB (AH ?_));refine lK (α := Int × List T) [2, 3, 6, 22, 23] [2, 3] (fun x => [(24, .t (.int (x.1)))]) (fun x => [(21, .L 1 (x.2))]) (fun x => 0 ≤ (x.1) ∧ (x.1) ≤ c.ins.length ∧ (x.2) = (List.replicate (x.1).toNat (-1 : Int) ++ List.replicate (c.ins.length - (x.1).toNat) 0).map T.int) (fun x => Int.toNat (c.ins.length - (x.1))) (0, List.replicate c.ins.length (T.int 0)) ?_ (fun x hx => ?_)
 ·exact ⟨by omega, by omega, by simp⟩
 obtain ⟨k, xs⟩ := x
 obtain ⟨hk0, hk1, hxs⟩ := hx
 dsimp only at hk0 hk1 hxs ⊢;refine nY Z (sG (eZ Z (nB (sQ ?_))));refine AC Z (fun h1 => ?_) (fun h1 => ?_)
 ·
  simp only [HS] at h1;refine AD (tN (sQ (AH (sG (eK 2 Z (nB (rG ?_)))))))
  have hxl2 : xs.length = c.ins.length := by rw [hxs, Qc, Qf, Q5, Q5]; omega
  refine eK 2 Z (AR tys Z Z (lt_of Z) Z Z Z Z Z Z Z Z (by omega) (by omega) ?_);refine Al tys (T.int (-1)) Z Z Z Z Z Z (Qv _) (by omega) Z (by repeat (first | exact AbsL.nil' | refine AbsL.v' ?_ | refine AbsL.own' ?_)) Z Z Z ?_;refine nZ Z (nZ Z (oN (bN (tN (kY [2,3,6,7,22,23,24,25,26,27,28,29] Z (rG (evI ?_)))))));refine eZ Z (oN ?_);refine lQ (_, _) ?_ ?_
  ·dsimp only
   refine ⟨by omega, by omega, ?_⟩;rw [hxs, ← RR, List.set_append_right _ _ (by rw [Q5]; exact Q0 _), Q5, Nat.sub_self, show c.ins.length - k.toNat = (c.ins.length - (k + 1).toNat) + 1 from by omega, List.replicate_succ, List.set_cons_zero, show (k + 1).toNat = k.toNat + 1 from by omega, List.replicate_succ', Qt];rfl
  ·(show Int.toNat _ < Int.toNat _); omega
 simp only [HS] at h1;refine AW (tE (AN (AO (tN (sG ?_)))))
 have hxl2 : xs.length = c.ins.length := by rw [hxs, Qc, Qf, Q5, Q5]; omega
 have hxe : xs = (List.replicate c.ins.length (-1 : Int)).map T.int := by rw [hxs, show k.toNat = c.ins.length from by omega]; simp
 refine eZ Z (AR tys Z Z (lt_of Z) Z Z Z Z Z Z Z Z (by omega) (by omega) ?_);refine Al tys (T.int 0) Z Z Z Z Z Z (Qv _) (by omega) Z (by repeat (first | exact AbsL.nil' | refine AbsL.v' ?_ | refine AbsL.own' ?_)) Z Z Z ?_;refine nZ Z (nZ Z (nA (bZ [T.int 0] ?_)));refine nZ Z (eZ Z (nB (sQ (sG (eK 2 Z (evE ?_))))));refine kZ [2,3,6,8,35,36] Z (eZ Z (nB (AH ?_)));refine lK (α := Int × Nat × List T × List T) [2, 3, 6, 35, 36] [2, 3] (fun x => [(37, .t (.int (x.1))), (8, .sl 33 0 (x.2.1))]) (fun x => [(21, .L 1 (x.2.2.1)), (33, .L 1 (x.2.2.2))]) (fun x => 0 ≤ (x.1) ∧ (x.1) ≤ c.rows.length ∧ (x.2.1) = (x.2.2.2).length ∧ ∃ hs met : List Int, (x.2.2.1) = hs.map T.int ∧ (x.2.2.2) = met.map T.int ∧ Ly c hs met (x.1).toNat) (fun x => Int.toNat (c.rows.length - (x.1))) (0, 1, xs.set 0 (T.int 0), [T.int 0]) ?_ (fun x hx => ?_)
 ·exact ⟨by omega, by omega, rfl, _, _, by rw [hxe, ← RR], rfl, Ga hn1⟩
 obtain ⟨k, m, xs, ms⟩ := x
 obtain ⟨hk0, hk1, hm, hs, met, hxs, hms, hb⟩ := hx
 dsimp only at hk0 hk1 hm hs hxs hms hb ⊢;subst hxs hms hm;refine nY Z (sG (eZ Z (nB (sQ ?_))));refine AC Z (fun h2 => ?_) (fun h2 => ?_)
 ·
  simp only [HS] at h2;refine AD (tN (sQ (AH (sG ?_))))
  have hrm := Qq (l := c.rows) (n := k.toNat) (by omega)
  have hpd := hR.pads _ hrm
  have hsl := hb.1
  have hml : (met.map T.int).length = met.length := Qc _
  have hmn := hb.2.2.2.2.2.2
  have eP : atI hs (c.rows[k.toNat]'(by omega)).pad = hs[(c.rows[k.toNat]'(by omega)).pad.toNat]'(by omega) := BV hpd.1 (by omega)
  refine iY (k := ?_);refine eZ Z ?_
  try refine WO_le (Le.freeze (u := 40) rfl) ?_
  refine nZ Z (AY tys Z Z (lt_of Z) Z Z Z (nZ Z (sT Z (nZ Z (nB (sQ (sG (eK 3 Z (AR tys Z Z (lt_of Z) Z Z Z Z Z Z Z Z (by omega) (by omega) (kZ [2,3,6,8,10,35,36,37,38,39,40,41,42,43,44] Z (AG tys Z Z (lt_of Z) Z Z Z Z (BN _ _ (by omega) (by omega)) Z (eZ Z (nB ?_)))))))))))));refine AC Z (fun h3 => ?_) (fun h3 => ?_)
  ·
   simp only [HS] at h3;refine rG (eK 3 Z (bZ [T.int (c.rows[k.toNat]'(by omega)).pad] ?_));refine nZ Z (Am tys Z Z (lt_of Z) Z Z Z Z Z (.own Z (by first | omega | (simp only [Qf]; omega))) Z (.own Z (by first | decide | omega)) (by decide) (by simp; omega) (by decide) Z ?_);refine nZ Z (eZ Z (nB (kY [2,3,6,8,10,35,36,37,38,39,40,41,42,43,44,45,46,47,48,49,50,51] Z (rG (eK 3 Z (AR tys Z Z (lt_of Z) Z Z Z Z Z Z Z Z (by omega) (by omega) ?_))))));refine Al tys (T.int 0) Z Z Z Z Z Z (Qv _) (by rw [Qc]; omega) Z (by repeat (first | exact AbsL.nil' | refine AbsL.v' ?_ | refine AbsL.own' ?_)) Z Z Z ?_;refine nZ Z (nZ Z (oN (bN (tN (rG (evI ?_))))));refine eZ Z (oN ?_);refine lQ (_, _, _, _) ?_ ?_
   ·dsimp only
    first
    | exact ⟨by omega, by omega, by simp, Nc hb hk0 (by omega) hpd.1 hpd.2 (by rw [eP]; assumption) rfl (by simp only [RO])⟩
   ·(show Int.toNat _ < Int.toNat _); omega
  simp only [HS] at h3;refine AD (tN (rG (eK 3 Z (AR tys Z Z (lt_of Z) Z Z Z Z Z Z Z Z (by omega) (by omega) ?_))));refine Al tys (T.int 0) Z Z Z Z Z Z (Qv _) (by rw [Qc]; omega) Z (by repeat (first | exact AbsL.nil' | refine AbsL.v' ?_ | refine AbsL.own' ?_)) Z Z Z ?_;refine nZ Z (nZ Z (oN (bN (tN (kY [2,3,6,8,10,35,36,37,38,39,40,41,42,43,44,45,46,52,53,54,55] Z (rG (evI ?_)))))));refine eZ Z (oN ?_);refine lQ (_, _, _, _) ?_ ?_
  ·dsimp only
   first
   | exact ⟨by omega, by omega, rfl, PF hb hk0 (by omega) hpd.1 hpd.2 (by rw [eP]; omega) rfl⟩
  ·(show Int.toNat _ < Int.toNat _); omega
 simp only [HS] at h2;refine AW (tE (AN (AO (tN (sQ (sG (eZ Z (nB (AH ?_)))))))));refine lK (α := Int × Nat × List T × List T) [2, 3, 6] [2, 3] (fun x => [(11, .t (.int (x.1))), (8, .sl 33 0 (x.2.1))]) (fun x => [(21, .L 1 (x.2.2.1)), (33, .L 1 (x.2.2.2))]) (fun x => (x.2.1) = (x.2.2.2).length ∧ seekX im c (x.2.2.1) (x.2.2.2) (x.1)) (fun x => Int.toNat (c.ins.length - (x.1))) (0, (met.map T.int).length, hs.map T.int, met.map T.int) ?_ (fun x hx => ?_)
 ·exact ⟨rfl, hs, met, rfl, rfl, by omega, by omega, hb.2.2.2.2.2.2, It (by rw [show k.toNat = c.rows.length from by omega] at hb; exact hb)⟩
 obtain ⟨k, m, xs, ms⟩ := x
 obtain ⟨hm, hs, met, hxs, hms, hk0, hk1, hmn, hpa⟩ := hx
 dsimp only at hm hs hxs hms hk0 hk1 hmn hpa ⊢;subst hxs hms hm;refine nY Z (sQ (sG (eK 2 Z (evE ?_))));refine eZ Z (nB ?_);refine AC Z (fun h3 => ?_) (fun h3 => ?_)
 ·
  simp only [HS] at h3;refine AD (tN (sQ (AH (sG ?_))))
  have hml : (met.map T.int).length = met.length := Qc _
  have hkm : k.toNat < met.length := by omega
  have hop : (met[k.toNat]'hkm) ∈ met.drop k.toNat := by rw [drop_at hk0 (by omega)]; simp
  obtain ⟨hq0, hq1, hq2⟩ := hpa.2.2.2.1 _ hop
  have hsl : hs.length = c.ins.length := hpa.1.1
  have hqi : (met[k.toNat]'hkm).toNat < c.ins.length := by omega
  have hqs : (met[k.toNat]'hkm).toNat < hs.length := by omega
  have hIn := Qq hqi
  have hrng := hpa.1.2 _ (Qq hqs)
  have htk := hR.tk hIn
  have hpt := EB (c.ins[(met[k.toNat]'hkm).toNat]'hqi)
  have hpt2 := MX (c.ins[(met[k.toNat]'hkm).toNat]'hqi)
  have eA : atI hs (met[k.toNat]'hkm) = hs[(met[k.toNat]'hkm).toNat]'hqs := BV hq0 (by omega)
  have eI : Ac c (met[k.toNat]'hkm) = c.ins[(met[k.toNat]'hkm).toNat]'hqi := BK hq0 (by omega)
  have hnx2 : (Af (c.ins[(met[k.toNat]'hkm).toNat]'hqi) (met[k.toNat]'hkm)).length ≤ 2 := EG _ _
  refine eK 2 Z (AR tys Z Z (lt_of Z) Z Z Z Z Z Z Z Z (by omega) (by omega) (AG tys Z Z (lt_of Z) Z Z Z Z (BN _ _ (by omega) (by omega)) Z (eZ Z (kZ [2,3,6,8,11,12,57,58,59,60,63,64,65,66] Z (nB (sQ ?_))))));generalize hKe : met[k.toNat]'hkm = K at *;refine AV mixed (by kernel_rfl) (Ko tys Z Z (lt_of Z) Z Z (evQ ?_));refine evQ ?_;refine evQ ?_;refine Ai tys Z Z (lt_of Z) Z Z Z Z Z Z Z (by omega) _ (BT _ _ (by omega) (by omega)) (evQ ?_);refine AI Z ?_;generalize hIe : c.ins[K.toNat]'hqi = I at *;refine Dp ?_;refine ⟨_, JY im _ (by omega) (hR.call _ hIn), rfl, ?_⟩;refine evQ ?_;refine evQ ?_;refine evQ ?_;refine evQ ?_;refine evQ ?_;refine AI Z (Ak (tN (sG (eK 2 Z (AR tys Z Z (lt_of Z) Z Z Z Z Z Z Z Z (by omega) (by omega) (AG tys Z Z (lt_of Z) Z Z Z Z (BN _ _ (by omega) (by omega)) Z (eZ Z ?_)))))));generalize hHe : hs[K.toNat]'hqs = HV at *;refine evI ?_;refine eZ Z (evI ?_);refine eZ Z (kZ [2,3,6,8,11,12,13,14,15,57,58,59,60,63,64,65,66,67,68,69,70,71,72,73,74,75,76,77,78,79,80,81,82,83,84] Z (nB (sQ (sG (eK 2 Z (AR tys Z Z (lt_of Z) Z Z Z Z Z Z Z Z (by omega) (by omega) (AG tys Z Z (lt_of Z) Z Z Z Z (BN _ _ (by omega) (by omega)) Z ?_)))))));rw [hHe];refine eK 3 Z ?_;refine gB (fun h4 => ?_) (fun h4 => ?_)
  ·
   simp only [HS] at h4;refine xK 2 Z (kZ [2,3,6,8,11,12,13,14,15,57,58,59,60,63,64,65,66,67,68,69,70,71,72,73,74,75,76,77,78,79,80,81,82,83,84,85,86,87,88,89,90,91,92,93,94] Z (nB (A5 Z (sG (eK 2 Z (nB (W_le (Le.nilT (u := 4) 1 Z) (rT (tR (bR (tR (AP (bR (tR (eR ?_)))))))))))))))
   ·first
    | exact MR (J8 hpa hop (by rw [eA, eI]; assumption))
  simp only [HS] at h4;refine xK 2 Z (kZ [2,3,6,8,11,12,13,14,15,57,58,59,60,63,64,65,66,67,68,69,70,71,72,73,74,75,76,77,78,79,80,81,82,83,84,85,86,87,88,89,90,91,92,93] Z (eZ Z (nB ?_)));refine AC Z (fun h5 => ?_) (fun h5 => ?_)
  ·
   simp only [HS] at h5;refine sG (eK 2 Z (nB (W_le (Le.nilT (u := 4) 1 Z) (rT (tR (bR (tR (AP (bR (tR (eR ?_)))))))))))
   ·first
    | exact MR (MI hR hpa hop (by rw [eA, eI]; assumption) (by rw [eA, eI]; assumption))
  simp only [HS] at h5;refine AD (tN (sG (eK 3 Z ?_)));refine iY (k := ?_);refine eZ Z ?_
  try refine WO_le (Le.freeze (u := 99) rfl) ?_
  refine nZ Z ?_;rw [hIe];refine eZ Z (Dg Z Z (lt_of Z) Z Z Z Z Z (GU _ _ (by omega)) Z (evE ?_));refine kZ [2,3,6,8,11,12,13,14,15,57,58,59,60,63,64,65,66,67,68,69,70,71,72,73,74,75,76,77,78,79,80,81,82,83,84,85,86,87,88,89,90,91,92,93,94,95,96,97,98,99,100,101,102] Z (eZ Z (nB (AH ?_)));refine lK (α := Int × Nat × List T × List T) [2, 3, 6, 11, 12, 15, 101, 102] [2, 3] (fun x => [(103, .t (.int (x.1))), (8, .sl 33 0 (x.2.1))]) (fun x => [(21, .L 1 (x.2.2.1)), (33, .L 1 (x.2.2.2))]) (fun x => 0 ≤ (x.1) ∧ (x.1) ≤ (Af I K).length ∧ (x.2.1) = (x.2.2.2).length ∧ H0 im c (x.2.2.1) (x.2.2.2) k K (HV - tkX im I + ptX I) ((Af I K).take (x.1).toNat)) (fun x => Int.toNat ((Af I K).length - (x.1))) (0, (met.map T.int).length, hs.map T.int, met.map T.int) ?_ (fun x hx => ?_)
  ·exact ⟨by omega, by omega, rfl, K3 hk0 (by omega) hmn hpa hKe.symm (by rw [eA, eI]; omega) (by rw [eA, eI])⟩
  obtain ⟨j, m, xs, ms⟩ := x
  obtain ⟨hj0, hj1, hm, hs2, met2, hxs, hms, hk2, hk3, hmn2, hmi, hhi⟩ := hx
  dsimp only at hj0 hj1 hm hs2 hxs hms hk2 hk3 hmn2 hmi hhi ⊢;subst hxs hms hm;refine nY Z (sG (eZ Z (nB (sQ ?_))));refine AC Z (fun h6 => ?_) (fun h6 => ?_)
  ·
   simp only [HS] at h6;refine AD (tN (sQ (AH (sG ?_))))
   have hjl : j.toNat < (Af I K).length := by omega
   have hNm : (Af I K)[j.toNat]'hjl ∈ Af (Ac c K) K := by rw [eI]; exact Qq hjl
   have hnn := hR.next K hq0 (by omega) _ hNm
   have hs2l : hs2.length = c.ins.length := hmi.1.1
   have hnl : ((Af I K)[j.toNat]'hjl).toNat < hs2.length := by omega
   have eN : atI hs2 ((Af I K)[j.toNat]'hjl) = hs2[((Af I K)[j.toNat]'hjl).toNat]'hnl := BV hnn.1 (by omega)
   have hml2 : (met2.map T.int).length = met2.length := Qc _
   refine iY (k := ?_);refine eK 2 Z (nB (sQ (sG (eK 2 Z (AR tys Z Z (lt_of Z) Z Z Z Z Z Z Z Z (by omega) (by omega) (AG tys Z Z (lt_of Z) Z Z Z Z (BN _ _ (by omega) (by omega)) Z (eZ Z (kZ [2,3,6,8,11,12,15,17,101,102,103,104,105,106,107,108,109,110,111] Z (eZ Z ?_)))))))));refine gB (fun h7 => ?_) (fun h7 => ?_)
   ·
    simp only [HS] at h7;refine xK 6 Z (nB (Ao Z (AD (tN (sQ (kY [2,3,6,8,11,12,15,17,101,102,103,104,105,106,107,108,109,110,111,112,113,114,115,116,117,118,119] Z (rG (eK 2 Z (AR tys Z Z (lt_of Z) Z Z Z Z Z Z Z Z (by omega) (by omega) (AG tys Z Z (lt_of Z) Z Z Z Z (BN _ _ (by omega) (by omega)) Z (eZ Z (nB ?_))))))))))));refine AC Z (fun h8 => ?_) (fun h8 => ?_)
    ·
     simp only [HS] at h8;refine sG (eK 2 Z (bZ [T.int ((Af I K)[j.toNat]'hjl)] ?_));refine nZ Z (Am tys Z Z (lt_of Z) Z Z Z Z Z (.own Z (by first | omega | (simp only [Qf]; omega))) Z (.own Z (by first | decide | omega)) (by decide) (by simp; omega) (by decide) Z ?_);refine nZ Z (kZ [2,3,6,8,11,12,15,17,101,102,103,104,105,106,107,108,109,110,111,112,113,114,115,116,117,118,119,120,121,122,123,124,125,126,127,128] Z (eZ Z (nB (rG (eK 3 Z (AR tys Z Z (lt_of Z) Z Z Z Z Z Z Z Z (by omega) (by omega) ?_))))));refine Al tys (T.int (HV - tkX im I + ptX I)) Z Z Z Z Z Z (Qv _) (by rw [Qc]; omega) Z (by repeat (first | exact AbsL.nil' | refine AbsL.v' ?_ | refine AbsL.own' ?_)) Z Z Z ?_;refine nZ Z (nZ Z (oN (bN (tN (rG (evI ?_))))));refine eZ Z (oN ?_);refine lQ (_, _, _, _) ?_ ?_
     ·dsimp only
      first
      | exact ⟨by omega, by omega, by simp, by rw [CK hj0 (by omega)]; exact Hz hR hk2 hk3 hmn2 hmi hhi hNm hnn.1 (by omega) (by rw [eN]; omega) (by omega) rfl (by simp only [RO])⟩
     ·(show Int.toNat _ < Int.toNat _); omega
    simp only [HS] at h8;refine AD (bN (tN (rG (evI ?_))));refine eZ Z (oN ?_);refine lQ (_, _, _, _) ?_ ?_
    ·dsimp only
     first
     | exact ⟨by omega, by omega, rfl, by rw [CK hj0 (by omega)]; exact GL hk2 hk3 hmn2 hmi hhi (by rw [eN]; omega) (by rw [eN]; omega)⟩
    ·(show Int.toNat _ < Int.toNat _); omega
   simp only [HS] at h7;refine xK 2 Z (gY Z (AR tys Z Z (lt_of Z) Z Z Z Z Z Z Z Z (by omega) (by omega) (gY Z (AG tys Z Z (lt_of Z) Z Z Z Z (BN _ _ (by omega) (by omega)) Z (xK 3 Z (nB ?_))))));refine AC Z (fun h8 => ?_) (fun h8 => ?_)
   ·
    simp only [HS] at h8;refine sQ (kY [2,3,6,8,11,12,15,17,101,102,103,104,105,106,107,108,109,110,111,112,113,114,115,116,117,118,119] Z (rG (eK 2 Z (nB (W_le (Le.nilT (u := 4) 1 Z) (rT (tR (bR (tR (AP (bR (bR (tR (AP (bR ?_)))))))))))))));refine tR (eR ?_)
    ·first
     | exact MR (FA hmi hNm hnn.1 (by omega) (.inr ⟨by rw [eN]; assumption, by rw [eN, ← hhi]; assumption⟩))
   simp only [HS] at h8;refine AD (tN (sQ (kY [2,3,6,8,11,12,15,17,101,102,103,104,105,106,107,108,109,110,111,112,113,114,115,116,117,118,119] Z (rG (eK 2 Z (AR tys Z Z (lt_of Z) Z Z Z Z Z Z Z Z (by omega) (by omega) (AG tys Z Z (lt_of Z) Z Z Z Z (BN _ _ (by omega) (by omega)) Z (eZ Z (nB ?_)))))))));refine AC Z (fun h9 => ?_) (fun h9 => ?_)
   ·
    simp only [HS] at h9;refine sG (eK 2 Z (bZ [T.int ((Af I K)[j.toNat]'hjl)] ?_));refine nZ Z (Am tys Z Z (lt_of Z) Z Z Z Z Z (.own Z (by first | omega | (simp only [Qf]; omega))) Z (.own Z (by first | decide | omega)) (by decide) (by simp; omega) (by decide) Z ?_);refine nZ Z (kZ [2,3,6,8,11,12,15,17,101,102,103,104,105,106,107,108,109,110,111,112,113,114,115,116,117,118,119,120,121,122,123,124,125,126,127,128] Z (eZ Z (nB (rG (eK 3 Z (AR tys Z Z (lt_of Z) Z Z Z Z Z Z Z Z (by omega) (by omega) ?_))))));refine Al tys (T.int (HV - tkX im I + ptX I)) Z Z Z Z Z Z (Qv _) (by rw [Qc]; omega) Z (by repeat (first | exact AbsL.nil' | refine AbsL.v' ?_ | refine AbsL.own' ?_)) Z Z Z ?_;refine nZ Z (nZ Z (oN (bN (tN (rG (evI ?_))))));refine eZ Z (oN ?_);refine lQ (_, _, _, _) ?_ ?_
    ·dsimp only
     first
     | exact ⟨by omega, by omega, by simp, by rw [CK hj0 (by omega)]; exact Hz hR hk2 hk3 hmn2 hmi hhi hNm hnn.1 (by omega) (by rw [eN]; omega) (by omega) rfl (by simp only [RO])⟩
    ·(show Int.toNat _ < Int.toNat _); omega
   simp only [HS] at h9;refine AD (bN (tN (rG (evI ?_))));refine eZ Z (oN ?_);refine lQ (_, _, _, _) ?_ ?_
   ·dsimp only
    first
    | exact ⟨by omega, by omega, rfl, by rw [CK hj0 (by omega)]; exact GL hk2 hk3 hmn2 hmi hhi (by rw [eN]; omega) (by rw [eN]; omega)⟩
   ·(show Int.toNat _ < Int.toNat _); omega
  simp only [HS] at h6;refine AW (tE (AN (AO (bN (tN (rG (eZ Z (evI ?_))))))));refine eZ Z (oN ?_);refine lQ (_, _, _, _) ?_ ?_
  ·dsimp only
   refine ⟨rfl, MP ⟨hs2, met2, rfl, rfl, hk2, hk3, hmn2, hmi, hhi⟩ (fun n hn => ?_)⟩;rw [Gm (by omega), ← eI];exact hn
  ·(show Int.toNat _ < Int.toNat _); omega
 simp only [HS] at h3;refine AW (tE (AN (AO (tN (sG (eK 3 Z (nB ?_)))))))
 (refine W_le (Le.gather (u := 4) (id := 21) rfl rfl (by rw [Qc, hpa.1.1]; exact Q0 _)) ?_; refine W_norm rfl ?_; refine W_le (Le.freeze (u := 4) rfl) ?_)
 refine rT (eR ?_)
 ·first
  | exact retHSt (KE hpa (List.drop_eq_nil_of_le (by omega))) (Qi (by rw [Qc, hpa.1.1]; exact Q0 _))
end Go.Proofs.YtljnifnbldfboaaGreat
