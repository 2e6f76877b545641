/- Walks and laws of the claim. -/
import Derived.Test.YtddfnpiikkilhaaGf
import Derived.Test.YtddfnpiikkilhaaIk
set_option linter.unusedVariables false
set_option linter.unusedSimpArgs false
set_option maxRecDepth 10000
set_option maxHeartbeats 4000000
namespace Go.Proofs.Ytddfnpiikkilhaa
open Go.Eng
open Go.Eng
def Cz (kind op : Int) (s : Stmt) : Bool := decide (s.kind = kind) || s.ex.any fun t => decide (t.op = op)
theorem Ga (p : Prog) (kind op : Int) (hp : p.ok 1048576) (hg : AZ p = true) : Fun Try.prog 46 [.t p.tt, .t (.int kind), .t (.int op)] (Aw [.t (.bool (LU p (Cz kind op)))]) := by
  have hgl := BZ hg
  have hrl := GU hg 0
  refine Fun.begin tys Try.func46 Z Z (N := 49) [(0, .t p.tt), (1, .t (.int kind)), (2, .t (.int op))] Z Z (fun w0 G F0 => ?_);refine sG (AU Z Z (AA Z) Z Z (nZ Z (eZ Z (nB (sQ (sG (eZ Z ?_)))))))
  try refine WO_le (Le.freeze (u := 13) rfl) ?_
  refine nZ Z (BE Z Z (AA Z) Z Z Z Z Z (II p 0 hp hg (by omega) (by omega)) Z (evE ?_));refine eZ Z (nB (AD ?_));refine lK (α := Int) [1, 2, 3, 14, 15] [3] (fun x => [(16, .t (.int x))]) (fun x => []) (fun x => 0 ≤ x ∧ x ≤ (reachP p 0).length ∧ ((reachP p 0).take x.toNat).any (fun n => (funcAt p n).stmts.any (Cz kind op)) = false) (fun x => Int.toNat ((reachP p 0).length - x)) 0 ?_ (fun k hx => ?_)
  · exact ⟨by omega, by omega, by simp⟩
  obtain ⟨hk0, hk1, hk2⟩ := hx
  refine nY Z (sG (eZ Z (nB (sQ ?_))));refine AB Z (fun h1 => ?_) (fun h1 => ?_)
  ·
    simp only [HS] at h1;refine AC (tN (sQ (AD (sG ?_))));refine iY (k := ?_);refine eK 2 Z (nA ?_)
    have hx := FQ (Qb (l := reachP p 0) (n := k.toNat) (by omega))
    have hff := CL hp (n := ((reachP p 0)[k.toNat]'(by omega)).toNat) (by omega)
    have hfa := BC (p := p) (n := (reachP p 0)[k.toNat]'(by omega)) (by omega)
    have hl := hff.2.1.1
    refine eK 3 Z ?_;refine iY (k := ?_)
    revert hff hfa hl
    generalize p.funcs[((reachP p 0)[k.toNat]'(by omega)).toNat]'(by omega) = f;intro hff hfa hl;refine eZ Z (kZ [1,2,3,8,14,15,16,17,18,19,20,21,22,23,24] Z (eZ Z (evE ?_)));refine eZ Z (nB (AD ?_));refine lK (α := Int) [1, 2, 3, 14, 15, 16, 25, 26] [3] (fun x => [(27, .t (.int x))]) (fun x => []) (fun x => 0 ≤ x ∧ x ≤ f.stmts.length ∧ (f.stmts.take x.toNat).any (Cz kind op) = false) (fun x => Int.toNat (f.stmts.length - x)) 0 ?_ (fun j hx => ?_)
    · exact ⟨by omega, by omega, by simp⟩
    obtain ⟨hj0, hj1, hj2⟩ := hx
    refine nY Z (sG (eZ Z (nB (sQ ?_))));refine AB Z (fun h2 => ?_) (fun h2 => ?_)
    ·
      simp only [HS] at h2;refine AC (tN (sQ (AD (sG ?_))));refine iY (k := ?_);refine eZ Z ?_
      try refine WO_le (Le.freeze (u := 30) rfl) ?_
      refine nZ Z (AJ tys Z Z (AA Z) Z Z Z (nZ Z (sT Z (nZ Z (nB (sQ (sG (eK 4 Z (kZ [1,2,3,10,14,15,16,25,26,27,28,29,30,31,32,33,34] Z (nB ?_))))))))));refine AB Z (fun h3 => ?_) (fun h3 => ?_)
      ·
        simp only [HS] at h3;refine sG (eZ Z (nB (rT (tR (bR (tR (AN (bR (bR (tR (AN (bR (tR (eR ?_))))))))))))))
        · first
          | (have e2 : f.stmts.any (Cz kind op) = true := Fp hj0 (by omega) (by unfold Cz; rw [decide_eq_true (by assumption)]; rfl)
             refine retB ?_; rw [LU, Fp hk0 (by omega) (by rw [← hfa]; exact e2)]; done)
      simp only [HS] at h3;refine AC (tN (sG ?_))
      have hel := (CB hff (n := j.toNat) (by omega)).2.2
      refine eK 2 Z (evE ?_);refine eZ Z (nB (AD ?_));refine lK (α := Int) [1, 2, 3, 14, 15, 16, 25, 26, 27, 36, 37] [3] (fun x => [(38, .t (.int x))]) (fun x => []) (fun x => 0 ≤ x ∧ x ≤ (f.stmts[j.toNat]'(by omega)).ex.length ∧ ((f.stmts[j.toNat]'(by omega)).ex.take x.toNat).any (fun t => decide (t.op = op)) = false) (fun x => Int.toNat ((f.stmts[j.toNat]'(by omega)).ex.length - x)) 0 ?_ (fun i hx => ?_)
      · exact ⟨by omega, by omega, by simp⟩
      obtain ⟨hi0, hi1, hi2⟩ := hx
      refine nY Z (sG (eZ Z (nB (sQ ?_))));refine AB Z (fun h4 => ?_) (fun h4 => ?_)
      ·
        simp only [HS] at h4;refine AC (tN (sQ (AD (sG ?_))));refine iY (k := ?_);refine eZ Z ?_
        try refine WO_le (Le.freeze (u := 41) rfl) ?_
        refine nZ Z (AJ tys Z Z (AA Z) Z Z Z (nZ Z (sT Z (nZ Z (nA (eK 4 Z (kZ [1,2,3,12,14,15,16,25,26,27,36,37,38,39,40,41,42,43,44,45] Z (nB ?_))))))));refine AB Z (fun h5 => ?_) (fun h5 => ?_)
        ·
          simp only [HS] at h5;refine sG (eZ Z (nB (rT (bR (tR (AN (bR (bR (tR (AN (bR (bR (tR (AN (bR ?_)))))))))))))));refine tR (eR ?_)
          · first
            | (have e1 : ((f.stmts[j.toNat]'(by omega)).ex.any fun t => decide (t.op = op)) = true := Fp hi0 (by omega) (decide_eq_true (by assumption))
               have e2 : f.stmts.any (Cz kind op) = true := Fp hj0 (by omega) (by unfold Cz; rw [e1]; simp)
               refine retB ?_; rw [LU, Fp hk0 (by omega) (by rw [← hfa]; exact e2)]; done)
        simp only [HS] at h5;refine AC (bN (tN (rG (evI ?_))));refine eZ Z (oN ?_);refine lQ _ ?_ ?_
        · skip
          exact ⟨by omega, by omega, M3 hi0 (by omega) hi2 (decide_eq_false (by assumption))⟩
        · (show Int.toNat _ < Int.toNat _); omega
      simp only [HS] at h4;refine AP (tE (AM (AK (bN (tN (rG (evI ?_)))))));refine eZ Z (oN ?_);refine lQ _ ?_ ?_
      · skip
        exact ⟨by omega, by omega, M3 hj0 (by omega) hj2 (by unfold Cz; rw [decide_eq_false (by assumption), JX (by omega) hi2]; rfl)⟩
      · (show Int.toNat _ < Int.toNat _); omega
    simp only [HS] at h2;refine AP (tE (AM (AK (bN (tN (rG (evI ?_)))))));refine eZ Z (oN ?_);refine lQ _ ?_ ?_
    · skip
      exact ⟨by omega, by omega, M3 hk0 (by omega) hk2 (by rw [← hfa]; exact JX (by omega) hj2)⟩
    · (show Int.toNat _ < Int.toNat _); omega
  simp only [HS] at h1;refine AP (tE (AM (AK (tN (sG (eZ Z (nB (rT (eR ?_)))))))))
  · first
    | (refine retB ?_; rw [LU, JX (by omega) hk2]; done)
theorem Kx (l : List Tok) (p : Tok → Bool) (f : Nat) (caps : List D) (hcaps : caps.all D.imm = true) (hl : l.length ≤ 9223372036854775807) (hf : ∀ x, x ∈ l → Fun Try.prog f (.t x.tt :: caps) (.t (.bool (p x)))) : Fun Try.prog 105 [.t (T.Toks l), .clo f caps] (Aw [.t (.int (Db p l 0))]) := by
 refine Fun.begin tys Try.func105 Z Z (N := 19) [(0, .t (T.Toks l)), (1, .clo f caps)] Z Z (fun w0 G F0 => ?_);refine sG (eZ Z (nB (sQ (sG (eZ Z (evE ?_))))));refine eZ Z (nB (AD ?_));refine lK (α := Int) [0, 1, 7] [] (fun x => [(8, .t (.int x))]) (fun x => []) (fun x => 0 ≤ x ∧ x ≤ l.length ∧ Db p l 0 = Db p (l.drop x.toNat) x) (fun x => Int.toNat (l.length - x)) 0 ?_ (fun k hx => ?_)
 ·exact ⟨by omega, by omega, rfl⟩
 obtain ⟨hk0, hk1, hk2⟩ := hx
 refine nY Z (sG (eZ Z (nB (sQ ?_))));refine AB Z (fun h1 => ?_) (fun h1 => ?_)
 ·
  simp only [HS] at h1;refine AC (tN (sQ (AD (sG (eK 2 Z (nA (CA tys Z Z (AA Z) Z Z (by assumption) ?_)))))));refine eK 2 Z ?_;refine iY (k := ?_);refine eZ Z ?_
  try refine WO_le (Le.freeze (u := 15) rfl) ?_
  refine nZ Z ?_;refine C3 Z Z (AA Z) Z Z (by repeat (first | exact ResL.done | exact ResL.imms (by first | rfl | assumption) | refine ResL.t ?_ | refine ResL.own ?_ | refine ResL.slA Z (by first | rfl | (simp; done) | (simp; omega)) ?_ | refine ResL.sl Z (by first | omega | (simp; done) | (simp; omega)) ?_ | refine ResL.rp ?_ | refine ResL.clo ?_ ?_ | refine ResL.aggT ?_ ?_ | refine ResL.ref Z ?_ ?_ | refine ResL.nil' ?_ | refine ResL.nil 1 ?_)) (hf _ (Qb _)) Z ?_;refine kZ [0,1,5,7,8,9,10,11,12,13,14,15,16] Z (nB ?_);refine AB Z (fun h2 => ?_) (fun h2 => ?_)
  ·
   refine sG (eK 2 Z (nB (rT (bR (tR (AN (bR (tR (eR ?_)))))))))
   ·rw [hk2, Gb hk0 h1]
    simp [h2]
    done
  refine AC (bN (tN (rG (evI ?_))));refine eZ Z (oN ?_);refine lQ _ ?_ ?_
  ·skip
   refine ⟨by omega, by omega, ?_⟩; rw [hk2, Gb hk0 h1]; simp [h2]
  ·(show Int.toNat _ < Int.toNat _); omega
 simp only [HS] at h1;refine AP (tE (AM (AK (tN (sG (eZ Z (nB (rT (eR ?_)))))))))
 ·rw [hk2, Av h1]
  rfl
theorem JN (l : List Tok) (p : Tok → Bool) (f : Nat) (caps : List D) (hcaps : caps.all D.imm = true) (hl : l.length ≤ 9223372036854775807) (hf : ∀ x, x ∈ l → Fun Try.prog f (.t x.tt :: caps) (.t (.bool (p x)))) : Fun Try.prog 74 [.t (T.Toks l), .clo f caps] (Aw [.t (.bool (l.any p))]) := by
 refine Fun.begin tys Try.func74 Z Z (N := 9) [(0, .t (T.Toks l)), (1, .clo f caps)] Z Z (fun w0 G F0 => ?_);refine sG (eZ Z (nA (eZ Z (CA tys Z Z (AA Z) Z Z (by assumption) ?_))));refine C3 Z Z (AA Z) Z Z (by repeat (first | exact ResL.done | exact ResL.imms (by first | rfl | assumption) | refine ResL.t ?_ | refine ResL.own ?_ | refine ResL.slA Z (by first | rfl | (simp; done) | (simp; omega)) ?_ | refine ResL.sl Z (by first | omega | (simp; done) | (simp; omega)) ?_ | refine ResL.rp ?_ | refine ResL.clo ?_ ?_ | refine ResL.aggT ?_ ?_ | refine ResL.ref Z ?_ ?_ | refine ResL.nil' ?_ | refine ResL.nil 1 ?_)) (Kx l p f caps hcaps hl hf) Z ?_;refine eK 2 Z (nB (rT (eR ?_)))
 ·rw [← D6 (RR 0)]
theorem JO (t : Tok) (op : Int) : Fun Try.prog 75 [.t t.tt, .rp (.agg [T.int op]) 0] (Aw [.t (.bool (decide (t.op = op)))]) := by
 refine Fun.begin tys Try.func75 Z Z (N := 8) [(0, .t t.tt), (1, .rp (.agg [T.int op]) 0)] Z Z (fun w0 G F0 => ?_);refine sG (AU Z Z (AA Z) Z Z (nZ Z (eZ Z (nA (eK 5 Z (nB (rT (eR ?_))))))))
 ·rfl
theorem Ky (l : List Tok) (op : Int) (hl : l.length ≤ 1048576) : Fun Try.prog 42 [.t (T.Toks l), .t (.int op)] (Aw [.t (.bool (l.any fun t => decide (t.op = op)))]) := by
 refine Fun.begin tys Try.func42 Z Z (N := 8) [(0, .t (T.Toks l)), (1, .t (.int op))] Z Z (fun w0 G F0 => ?_);refine sG (AU Z Z (AA Z) Z Z (nZ Z (eZ Z (nA (eK 2 Z (AI ?_))))));refine ⟨_, JN l (fun t => decide (t.op = op)) _ [.rp (.agg [T.int op]) 0] Z (by omega) (fun t _ => JO t op), rfl, ?_⟩;refine eZ Z (nB (rT (eR ?_)))
 ·rfl
theorem FW (s : Stmt) (hs : s.ok 1048576) : Fun Try.prog 43 [.t s.tt] (Aw [.t (.bool (decide (s.kind = 6)))]) := by
 refine Fun.begin tys Try.func43 Z Z (N := 6) [(0, .t s.tt)] Z Z (fun w0 G F0 => ?_);refine sG (AU Z Z (AA Z) Z Z (nZ Z (eZ Z (nA (eK 4 Z (nB (rT (eR ?_))))))))
 ·rfl
theorem Es (s : Stmt) (hs : s.ok 1048576) : Fun Try.prog 41 [.t s.tt] (Aw [.t (.bool (Cz 4 6 s))]) := by
 refine Fun.begin tys Try.func41 Z Z (N := 11) [(0, .t s.tt)] Z Z (fun w0 G F0 => ?_);refine sG (AU Z Z (AA Z) Z Z (nZ Z (eZ Z (nA (eK 4 Z ?_)))));refine gB (fun h1 => ?_) (fun h1 => ?_)
 ·
  simp only [HS] at h1;refine xK 3 Z (kZ [2,10] Z (eZ Z (nB (rT (eR ?_)))))
  ·exact retB (by rw [Cz, decide_eq_true (by assumption)]; rfl)
 simp only [HS] at h1;refine xK 2 Z (gY Z (AI ?_));refine ⟨_, Ky s.ex 6 hs.1, rfl, ?_⟩;refine kZ [2,6,9] Z (eK 2 Z (nB (rT (eR ?_))))
 ·exact retB (by rw [Cz, decide_eq_false (by assumption)]; simp)
theorem OJ {vars m : Int} {t : Tok} (h : knownT vars m t = true) : ¬ t.op = -1 := by
 unfold knownT at h
 grind
theorem OD {p : Prog} (hg : AZ p = true) (kind : Int) : LU p (Cz kind (-1)) = LU p fun s => decide (s.kind = kind) := by
 unfold LU;rw [Bool.eq_iff_iff, RJ, RJ]
 have key : ∀ n, (funcAt p n).stmts.any (Cz kind (-1)) = (funcAt p n).stmts.any fun s => decide (s.kind = kind) := by
  intro n
  rcases funcAt_mem (p := p) n with hm | hm
  ·obtain ⟨k, hk, he⟩ := Qs hm
   have hgf := DL hg hk
   rw [he] at hgf;rw [Bool.eq_iff_iff, RJ, RJ]
   have h1 : ∀ s, s ∈ (funcAt p n).stmts → Cz kind (-1) s = decide (s.kind = kind) := by
    intro s hs
    obtain ⟨m, hm, rfl⟩ := Qs hs
    have hgs := D8 hgf hm
    unfold Cz;rw [show ((((funcAt p n).stmts[m]).ex).any fun t => decide (t.op = -1)) = false from ?_, RO];rw [List.any_eq_false];intro t ht
    rcases stmtG_ex hgs with h | h
    ·rw [h] at ht; cases ht
    ·simpa using OJ (Fg h ht)
   constructor
   ·rintro ⟨s, hs, h⟩; exact ⟨s, hs, by rwa [h1 s hs] at h⟩
   ·rintro ⟨s, hs, h⟩; exact ⟨s, hs, by rwa [h1 s hs]⟩
  ·rw [hm]; rfl
 constructor
 ·rintro ⟨n, hn, h⟩; exact ⟨n, hn, by rwa [key n] at h⟩
 ·rintro ⟨n, hn, h⟩; exact ⟨n, hn, by rwa [key n]⟩
def G7 (p : Prog) : Bool := AZ p && !LU p fun s => decide (s.kind = 6)
def Du (p : Prog) : Bool := AZ p && !LU p (Cz 4 6)
theorem BV (p : Prog) (hp : p.ok 1048576) : Fun Try.prog 13 [.t p.tt] (Aw [.t (.bool (G7 p)), .t (.bool (AZ p))]) := by
 refine Fun.begin tys Try.func13 Z Z (N := 10) [(0, .t p.tt)] Z Z (fun w0 G F0 => ?_);refine sG (AU Z Z (AA Z) Z Z (nZ Z (eK 2 Z (nB (sQ (sG (eZ Z ?_)))))))
 try refine WO_le (Le.freeze (u := 4) rfl) ?_
 refine nZ Z (AI ?_);refine ⟨_, DB p hp, rfl, ?_⟩;refine eZ Z (nB ?_);refine AB Z (fun h1 => ?_) (fun h1 => ?_)
 ·
  simp only [HS] at h1;refine sG (eK 2 Z (nB (rT (tR (eR ?_)))))
  ·exact Hh (by rw [G7, h1]; rfl) h1.symm
 simp only [HS] at h1;refine AC (tN (sG (eZ Z ?_)))
 try refine WO_le (Le.freeze (u := 7) rfl) ?_
 refine nZ Z (AI ?_);refine ⟨_, Ga p 6 (-1) hp h1, rfl, ?_⟩;refine eZ Z (kZ [2,3,9] Z (eK 2 Z (nB (rT (eR ?_)))))
 ·exact Hh (by rw [G7, h1, OD h1]; rfl) h1.symm
theorem BD (p : Prog) (hp : p.ok 1048576) : Fun Try.prog 10 [.t p.tt] (Aw [.t (.bool (G7 p)), .t (.bool (AZ p))]) := by
 refine Fun.begin tys Try.func10 Z Z (N := 10) [(0, .t p.tt)] Z Z (fun w0 G F0 => ?_);refine sG (AU Z Z (AA Z) Z Z (nZ Z (eK 2 Z (nB (sQ (sG (eZ Z ?_)))))))
 try refine WO_le (Le.freeze (u := 4) rfl) ?_
 refine nZ Z (AI ?_);refine ⟨_, Ea p hp, rfl, ?_⟩;refine eZ Z (nB ?_);refine AB Z (fun h1 => ?_) (fun h1 => ?_)
 ·
  simp only [HS] at h1;refine sG (eK 2 Z (nB (rT (tR (eR ?_)))))
  ·exact Hh (by rw [G7, h1]; rfl) h1.symm
 simp only [HS] at h1;refine AC (tN (sG (eZ Z ?_)))
 try refine WO_le (Le.freeze (u := 7) rfl) ?_
 refine nZ Z (AI ?_);refine ⟨_, Fq p _ (fun s => decide (s.kind = 6)) hp h1 FW, rfl, ?_⟩;refine eZ Z (kZ [2,3,9] Z (eK 2 Z (nB (rT (eR ?_)))))
 ·exact Hh (by rw [G7, h1]; rfl) h1.symm
theorem BH (p : Prog) (hp : p.ok 1048576) : Fun Try.prog 12 [.t p.tt] (Aw [.t (.bool (Du p)), .t (.bool (AZ p))]) := by
 refine Fun.begin tys Try.func12 Z Z (N := 10) [(0, .t p.tt)] Z Z (fun w0 G F0 => ?_);refine sG (AU Z Z (AA Z) Z Z (nZ Z (eK 2 Z (nB (sQ (sG (eZ Z ?_)))))))
 try refine WO_le (Le.freeze (u := 4) rfl) ?_
 refine nZ Z (AI ?_);refine ⟨_, DB p hp, rfl, ?_⟩;refine eZ Z (nB ?_);refine AB Z (fun h1 => ?_) (fun h1 => ?_)
 ·
  simp only [HS] at h1;refine sG (eK 2 Z (nB (rT (tR (eR ?_)))))
  ·exact Hh (by rw [Du, h1]; rfl) h1.symm
 simp only [HS] at h1;refine AC (tN (sG (eZ Z ?_)))
 try refine WO_le (Le.freeze (u := 7) rfl) ?_
 refine nZ Z (AI ?_);refine ⟨_, Ga p 4 6 hp h1, rfl, ?_⟩;refine eZ Z (kZ [2,3,9] Z (eK 2 Z (nB (rT (eR ?_)))))
 ·exact Hh (by rw [Du, h1]; rfl) h1.symm
theorem A4 (p : Prog) (hp : p.ok 1048576) : Fun Try.prog 9 [.t p.tt] (Aw [.t (.bool (Du p)), .t (.bool (AZ p))]) := by
 refine Fun.begin tys Try.func9 Z Z (N := 10) [(0, .t p.tt)] Z Z (fun w0 G F0 => ?_);refine sG (AU Z Z (AA Z) Z Z (nZ Z (eK 2 Z (nB (sQ (sG (eZ Z ?_)))))))
 try refine WO_le (Le.freeze (u := 4) rfl) ?_
 refine nZ Z (AI ?_);refine ⟨_, Ea p hp, rfl, ?_⟩;refine eZ Z (nB ?_);refine AB Z (fun h1 => ?_) (fun h1 => ?_)
 ·
  simp only [HS] at h1;refine sG (eK 2 Z (nB (rT (tR (eR ?_)))))
  ·exact Hh (by rw [Du, h1]; rfl) h1.symm
 simp only [HS] at h1;refine AC (tN (sG (eZ Z ?_)))
 try refine WO_le (Le.freeze (u := 7) rfl) ?_
 refine nZ Z (AI ?_);refine ⟨_, Fq p _ (Cz 4 6) hp h1 Es, rfl, ?_⟩;refine eZ Z (kZ [2,3,9] Z (eK 2 Z (nB (rT (eR ?_)))))
 ·exact Hh (by rw [Du, h1]; rfl) h1.symm
open Go.Eng
structure GH (p : Prog) (most : Nat) (I C : Int → Nat → Prop) (R : Int → Prop) : Prop where
 hI : ∀ fn d c, I fn d → c ∈ Ka p fn → C c d
 hC : ∀ fn d, C fn d → d ≠ most → I fn (d + 1)
 h4 : ∀ fn d, C fn d → d = most → R 4
 h0 : R 0
 h1 : R 1
 h5 : R 5
 h6 : ∀ fn d t, I fn d → t ∈ (funcAt p fn).stmts → t.kind = 6 → R 3
 hp : ∀ fn d t, I fn d → t ∈ (funcAt p fn).stmts → t.kind = 4 → R 2
 hd : ∀ fn d t x, I fn d → t ∈ (funcAt p fn).stmts → x ∈ t.ex → x.op = 6 → R 2
def ByR (R : Int → Prop) (b : Option By) : Prop := ∀ x, b = some x → R x.how ∧ (x.exd = true → R 3)
section
variable {p : Prog} {inp : List Int} {most : Nat} {I C : Int → Nat → Prop} {R : Int → Prop} {L : Lev}
theorem recS_R (h1 : R 1) {b : Option By} (h : ByR R b) : ByR R (HJ b).2 := by
 unfold HJ;split
 ·exact h
 ·rename_i x
  split
  ·intro y hy
   cases hy
   obtain ⟨g1, g2⟩ := h x rfl
   dsimp only;refine ⟨?_, g2⟩;split
   ·rename_i he; exact g2 he
   ·exact h1
  ·exact h
structure Sg (p : Prog) (inp : List Int) (I : Int → Nat → Prop) (R : Int → Prop) (fn : Int) (s : Sx) : Prop where
 ok : s.ok p inp (funcAt p fn)
 by' : ByR R s.by'
 off : ∀ x, x ∈ s.off → x ∈ Ka p fn
 inv : I fn s.m.deep
structure Sh (p : Prog) (R : Int → Prop) (fn : Int) (h : Int) (s : Sx) : Prop where
 code : R h
 by' : ByR R s.by'
 off : ∀ x, x ∈ s.off → x ∈ Ka p fn
theorem Sh.go {fn h : Int} {s s' : Sx} (hs : Sg p inp I R fn s) (ht : Sx.to p inp (funcAt p fn) h s s') (hh : Sh p R fn h s') (h4 : h < 4) : Sg p inp I R fn s' :=
 ⟨ht.ok, hh.by', hh.off, by rw [ht.deep h4]; exact hs.inv⟩
structure QP (p : Prog) (inp : List Int) (I C : Int → Nat → Prop) (R : Int → Prop) (L : Lev) : Prop where
 stmt : ∀ fn : Int, 0 ≤ fn → fn < p.funcs.length → ∀ t, t ∈ (funcAt p fn).stmts → ∀ s : Sx, Sg p inp I R fn s → Sh p R fn (L.stmt (funcAt p fn) t s).1 (L.stmt (funcAt p fn) t s).2.2
 call : ∀ (fn : Int) (args : List Int) (b : Option By) (m : Ms), 0 ≤ fn → fn < p.funcs.length → args.length = (atI (paramsL p) fn).toNat → m.used ≤ inp.length → C fn m.deep → ByR R b → R (L.call fn args b m).1 ∧ ByR R (L.call fn args b m).2.2.1
theorem Lb {fn : Int} {t : Stmt} {x : Tok} (ht : t ∈ (funcAt p fn).stmts) (hx : x ∈ t.ex) (h : x.op = 11) : x.n ∈ Ka p fn :=
 Qr.2 ⟨t, ht, Q0 _ (RN.2 ⟨x, List.mem_filter.2 ⟨hx, by simpa using h⟩, rfl⟩)⟩
theorem def_named {fn : Int} {t : Stmt} (ht : t ∈ (funcAt p fn).stmts) (h : t.kind = 3) : t.n ∈ Ka p fn :=
 Qr.2 ⟨t, ht, Qv _ (by rw [d3, if_pos h]; simp)⟩
theorem L2 {op x y : Int} (h : Bf op x y = none) : op = 6 := by
 unfold Bf at h
 repeat' split at h
 all_goals first | (cases h; done) | assumption
theorem tokX_R (hk : GH p most I C R) (hL : QP p inp I C R L) {fn : Int} {vs : Int} {t : Stmt} {x : Tok} {pile : List Int} {s : Sx} (hs : Sg p inp I R fn s) (ht : t ∈ (funcAt p fn).stmts) (hx : x ∈ t.ex) (hkn : knownT vs (paramsL p).length x = true) (hn : Ak (paramsL p) x ≤ pile.length) :
  Sh p R fn (EP L.cal (paramsL p) inp x pile s).1 (EP L.cal (paramsL p) inp x pile s).2.2.2 := by
 have h0 : Sh p R fn 0 s := ⟨hk.h0, hs.by', hs.off⟩
 unfold EP
 by_cases o1 : x.op = 1
 ·rw [if_pos o1]; exact h0
 rw [if_neg o1]
 by_cases o2 : x.op = 2
 ·rw [if_pos o2]; exact h0
 rw [if_neg o2]
 by_cases o9 : x.op = 9
 ·rw [if_pos o9]; exact ⟨hk.h0, hs.by', hs.off⟩
 rw [if_neg o9]
 by_cases o10 : x.op = 10
 ·rw [if_pos o10]; exact ⟨hk.h0, recS_R hk.h1 hs.by', hs.off⟩
 rw [if_neg o10]
 by_cases o11 : x.op = 11
 ·rw [if_pos o11]
  obtain ⟨k0, k1⟩ := CY hkn o11
  rw [BN] at k1
  have hne : Ak (paramsL p) x = atI (paramsL p) x.n := by simp [Ak, o11]
  rw [hne] at hn
  have hc := hL.call x.n (pile.drop (pile.length - (atI (paramsL p) x.n).toNat)) none s.m k0 k1 (by rw [RE]; omega) hs.ok.used (hk.hI _ _ _ hs.inv (Lb ht hx o11)) (fun y hy => by cases hy)
  dsimp only [Lev.cal];split
  ·exact ⟨hk.h0, hs.by', hs.off⟩
  ·exact ⟨hc.1, hs.by', hs.off⟩
 rw [if_neg o11];split
 ·rename_i hr
  exact ⟨hk.hd _ _ _ _ hs.inv ht hx (L2 hr), hs.by', hs.off⟩
 ·exact h0
theorem Mg (hk : GH p most I C R) (hO : Ee p inp L) (hL : QP p inp I C R L) (hg : AZ p = true) {fn : Int} {vs : Int} {t : Stmt} (ht : t ∈ (funcAt p fn).stmts) : ∀ {l : List Tok} {pile : List Int} {s : Sx} {mx : Int} {r : Int × Int}, (∀ x, x ∈ l → x ∈ t.ex) → Sg p inp I R fn s → Cw vs (paramsL p) l pile.length mx = some r →
  Sh p R fn (exprS L.cal (paramsL p) inp l pile s).1 (exprS L.cal (paramsL p) inp l pile s).2.2
 | [], pile, s, mx, r, _, hs, _ => ⟨hk.h0, hs.by', hs.off⟩
 | x :: l, pile, s, mx, r, hl, hs, hr => by
  rw [Cw] at hr;split at hr
  ·rename_i hc
   rw [QR, decide_eq_true_eq] at hc
   obtain ⟨h1, h2⟩ := Iz hO hg hs.ok hc.1 hc.2
   have h3 := tokX_R hk hL hs ht (hl x (by simp)) hc.1 hc.2
   rw [exprS];split
   ·rename_i h0
    rw [← h2 h0] at hr;exact Mg hk hO hL hg ht (fun y hy => hl y (by simp [hy])) (h3.go hs h1 (by omega)) hr
   ·exact h3
  ·cases hr
theorem EG (hk : GH p most I C R) (hO : Ee p inp L) (hL : QP p inp I C R L) {fn : Int} (f0 : 0 ≤ fn) (f1 : fn < p.funcs.length) : ∀ {b : List Int} {s : Sx}, Pm (funcAt p fn) b → Sg p inp I R fn s →
  Sh p R fn (blockS (L.stmt (funcAt p fn)) (funcAt p fn) b s).1 (blockS (L.stmt (funcAt p fn)) (funcAt p fn) b s).2.2
 | [], s, _, hs => ⟨hk.h0, hs.by', hs.off⟩
 | k :: b, s, hb, hs => by
  have hkk := hb k (by simp)
  have hm : BU (funcAt p fn) k ∈ (funcAt p fn).stmts := by rw [← Dg (by omega)]; exact Qb _
  have h1 := hO.stmt _ (BB f0 f1) _ hm s hs.ok
  have h2 := hL.stmt fn f0 f1 _ hm s hs
  rw [blockS];split
  ·rename_i h0
   exact EG hk hO hL f0 f1 (fun x hx => hb x (by simp [hx])) (h2.go hs h1 (by omega))
  ·exact h2
theorem PO (hk : GH p most I C R) (hO : Ee p inp L) (hL : QP p inp I C R L) (hg : AZ p = true) {fn : Int} (f0 : 0 ≤ fn) (f1 : fn < p.funcs.length) {t : Stmt} (ht : t ∈ (funcAt p fn).stmts) {s : Sx} (hs : Sg p inp I R fn s) :
  Sh p R fn (ER L (paramsL p) inp (funcAt p fn) t s).1 (ER L (paramsL p) inp (funcAt p fn) t s).2.2 := by
 have hf := BB f0 f1
 have hgv := CK hg hf
 have hst : A6 (funcAt p fn).vars (paramsL p) t = true := by
  obtain ⟨q, hq, he⟩ := Qs hf
  have hgf := DL hg hq
  rw [he] at hgf
  obtain ⟨i, hi, rfl⟩ := Qs ht
  exact D8 hgf hi
 obtain ⟨hk1, hk2, _⟩ := Gz hgv.2.2.2.2.1 ht
 unfold ER
 by_cases hz : s.m.fuel = 0
 ·rw [if_pos hz]; exact ⟨hk.h5, hs.by', hs.off⟩
 rw [if_neg hz]
 by_cases k3 : t.kind = 3
 ·rw [if_pos k3]
  refine ⟨hk.h0, hs.by', fun x hx => ?_⟩
  rcases QV.1 hx with hx | hx
  ·exact hs.off x hx
  ·rw [Qf] at hx; subst hx; exact def_named ht k3
 rw [if_neg k3]
 by_cases k6 : t.kind = 6
 ·rw [if_pos k6]; exact ⟨hk.h6 _ _ _ hs.inv ht k6, hs.by', hs.off⟩
 rw [if_neg k6]
 obtain ⟨mx, hr⟩ := FF hst k3 k6
 have hb : Sg p inp I R fn { s with m := A7 s.m } := ⟨⟨hs.ok.vars, hs.ok.off, hs.ok.used⟩, hs.by', hs.off, hs.inv⟩
 have he := E5 hO hg (pile := []) hb.ok (l := t.ex) (mx := 0) (by simpa using hr)
 have hR := Mg hk hO hL hg ht (pile := []) (l := t.ex) (mx := 0) (fun _ h => h) hb (by simpa using hr)
 dsimp only;generalize exprS L.cal (paramsL p) inp t.ex [] { s with m := A7 s.m } = r at he hR
 obtain ⟨h, v, s2⟩ := r
 dsimp only at he hR ⊢;split
 ·rename_i hh
  subst hh
  have h2 := hR.go hb he (by omega)
  unfold doS;dsimp only;split
  ·exact ⟨hk.h0, h2.by', h2.off⟩
  split
  ·exact ⟨hk.h0, h2.by', h2.off⟩
  split
  ·rename_i _ _ k4
   exact ⟨hk.hp _ _ _ h2.inv ht k4, h2.by', h2.off⟩
  split
  ·exact ⟨hk.h1, h2.by', h2.off⟩
  split
  ·split
   ·exact EG hk hO hL f0 f1 hk1 h2
   ·exact EG hk hO hL f0 f1 hk2 h2
  split
  ·split
   ·exact ⟨hk.h0, h2.by', h2.off⟩
   ·have hbl := EG hk hO hL f0 f1 hk1 h2
    have hbo := Bb (hO.stmt _ hf) hk1 h2.ok
    split
    ·rename_i h0
     exact hL.stmt fn f0 f1 _ ht _ (hbl.go h2 hbo (by omega))
    ·exact hbl
  ·exact ⟨hk.h0, h2.by', h2.off⟩
 ·exact hR
theorem endS_R (h0 : R 1) {h v : Int} (hh : R h) : R (endS h v).how ∧ ((endS h v).exd = true → R 3) := by
 unfold endS;dsimp only;refine ⟨?_, fun h3 => ?_⟩
 ·split
  ·exact h0
  ·exact hh
 ·rw [decide_eq_true_eq] at h3; subst h3; exact hh
theorem MC (hk : GH p most I C R) (hO : Ee p inp L) (hL : QP p inp I C R L) {d : Nat} : ∀ {l : List Int} {b : By} {m : Ms}, (∀ x, x ∈ l → (0 ≤ x ∧ x < p.funcs.length ∧ atI (paramsL p) x = 0) ∧ C x d) → m.used ≤ inp.length → m.deep = d → R b.how ∧ (b.exd = true → R 3) →
  R (offR (fun k b m => L.call k [] b m) l b m).1 ∧ R (offR (fun k b m => L.call k [] b m) l b m).2.1.how
 | [], b, m, _, _, _, hb => ⟨hk.h0, hb.1⟩
 | k :: l, b, m, hl, hu, hd, hb => by
  obtain ⟨⟨q0, q1, q2⟩, q3⟩ := hl k (by simp)
  have ho := hO.call k [] (some b) m q0 q1 (by rw [q2]; rfl) hu
  have hr := hL.call k [] (some b) m q0 q1 (by rw [q2]; rfl) hu (by rw [hd]; exact q3) (fun x hx => by cases hx; exact hb)
  have hb1 : ∃ b1, (L.call k [] (some b) m).2.2.1 = some b1 := by
   have := ho.by'
   cases h : (L.call k [] (some b) m).2.2.1 with
   | none => rw [h] at this; cases this
   | some b1 => exact ⟨b1, rfl⟩
  obtain ⟨b1, hb1⟩ := hb1
  have hb2 := hr.2 b1 hb1
  rw [offR];rw [hb1];split
  ·exact ⟨hr.1, hb2.1⟩
  ·rename_i h4
   split
   ·exact MC hk hO hL (fun x hx => hl x (by simp [hx])) ho.le.2.2 ((ho.deep (by omega)).trans hd) hb2
   ·refine MC hk hO hL (fun x hx => hl x (by simp [hx])) ho.le.2.2 ((ho.deep (by omega)).trans hd) ⟨hr.1, fun h => ?_⟩
    simp only [Option.getD_some, RP, decide_eq_true_eq] at h
    rcases h with h | h
    ·exact hb2.2 h
    ·have := hr.1; rw [h] at this; exact this
theorem P5 (hk : GH p most I C R) (hO : Ee p inp L) (hL : QP p inp I C R L) (hg : AZ p = true) {fn : Int} {args : List Int} {b : Option By} {m : Ms} (f0 : 0 ≤ fn) (f1 : fn < p.funcs.length) (ha : args.length = (atI (paramsL p) fn).toNat) (hu : m.used ≤ inp.length) (hc : C fn m.deep) (hb : ByR R b) :
  R (EE L p most fn args b m).1 ∧ ByR R (EE L p most fn args b m).2.2.1 := by
 have hm := BB f0 f1
 obtain ⟨g1, g2, g3, g4, hsh, g6⟩ := CK hg hm
 rw [B7 f0 f1] at ha;unfold EE
 by_cases hz : m.fuel = 0
 ·rw [if_pos hz]; exact ⟨hk.h5, hb⟩
 rw [if_neg hz]
 by_cases hd : m.deep = most
 ·rw [if_pos hd]; exact ⟨hk.h4 _ _ hc hd, hb⟩
 rw [if_neg hd];dsimp only
 have hs : Sg p inp I R fn (startS (funcAt p fn) args b m) := ⟨FG (by omega) hu, hb, (fun x hx => absurd hx List.not_mem_nil), hk.hC _ _ hc hd⟩
 have hbo := Bb (hO.stmt _ hm) (EF hsh) hs.ok
 have hbr := EG hk hO hL f0 f1 (EF hsh) hs
 generalize blockS (L.stmt (funcAt p fn)) (funcAt p fn) (funcAt p fn).body (startS (funcAt p fn) args b m) = r at hbo hbr
 obtain ⟨h, v, s1⟩ := r
 dsimp only at hbo hbr ⊢;split
 ·exact ⟨hbr.code, hbr.by'⟩
 ·rename_i h4
  have hs1 := hbr.go hs hbo (by omega)
  have he := endS_R hk.h1 (v := v) hbr.code
  have ho := MC hk hO hL (d := s1.m.deep) (l := s1.off.reverse) (b := endS h v) (m := s1.m) (fun x hx => ⟨hs1.ok.off x (by simpa using hx), hk.hI _ _ _ hs1.inv (hs1.off x (by simpa using hx))⟩) hs1.ok.used rfl he
  generalize offR (fun k b m => L.call k [] b m) s1.off.reverse (endS h v) s1.m = q at ho
  obtain ⟨h2, b2, m2⟩ := q
  dsimp only at ho ⊢;split
  ·exact ⟨ho.1, hbr.by'⟩
  ·exact ⟨ho.2, hbr.by'⟩
theorem Pg (hk : GH p most I C R) (hg : AZ p = true) : ∀ n, QP p inp I C R (lev p inp most n)
 | 0 => ⟨fun fn f0 f1 t ht s hs => ⟨hk.h5, hs.by', hs.off⟩, fun fn args b m _ _ _ _ _ hb => ⟨hk.h5, hb⟩⟩
 | n + 1 => ⟨fun fn f0 f1 t ht s hs => PO hk (FY hg most n) (Pg hk hg n) hg f0 f1 ht hs, fun fn args b m f0 f1 ha hu hc hb => P5 hk (FY hg most n) (Pg hk hg n) hg f0 f1 ha hu hc hb⟩
theorem run_R (hk : GH p most I C R) (hg : AZ p = true) (fuel : Nat) (h : C 0 0) : R (F5 p inp most fuel).1 := by
 have hm := Ck hg
 exact ((Pg hk hg fuel).call 0 [] none ⟨0, fuel, 0, []⟩ (by omega) hm.1 (by rw [hm.2]; rfl) (Nat.zero_le _) h (fun x hx => by cases hx)).1
end
open Go.Eng
section
variable {p : Prog} {inp : List Int} {most fuel : Nat}
theorem Ha (hg : AZ p = true) {fn c : Int} (h : c ∈ Ka p fn) : c ∈ Ao p fn := by
 have h1 := Gp hg fn c h
 have h2 := BZ hg
 exact mem_setN.2 ⟨⟨h1.1, by omega⟩, h⟩
theorem Km (hg : AZ p = true) {fn : Int} (h : HN (Ao p) 0 fn) : fn ∈ reachP p 0 := by
 have hm := Ck hg
 exact (GZ (Fm hg) (by omega) hm.1).2 h
theorem JW {q : Stmt → Bool} (hg : AZ p = true) (h : LU p q = false) {fn : Int} (hl : HN (Ao p) 0 fn) {t : Stmt} (ht : t ∈ (funcAt p fn).stmts) : q t = false := by
 unfold LU at h;rw [List.any_eq_false] at h
 have h1 := h fn (Km hg hl)
 rw [Bool.not_eq_true, List.any_eq_false] at h1;exact Bool.not_eq_true _ ▸ h1 t ht
theorem H4 (h : Du p = true) : ¬ (F5 p inp most fuel).1 = 2 := by
  unfold Du at h;rw [QR, Q5] at h
  obtain ⟨hg, hn⟩ := h
  have hk : GH p most (fun fn _ => HN (Ao p) 0 fn) (fun fn _ => HN (Ao p) 0 fn) (fun h => ¬ h = 2) :=
    ⟨(fun fn d c hl hc => .step hl (Ha hg hc)),
     (fun fn d hl _ => hl),
     (fun _ _ _ _ => by omega),
     (by omega),
     (by omega),
     (by omega),
     (fun _ _ _ _ _ _ => by omega),
     (fun fn d t hl ht hk => by
        have := JW hg hn hl ht
        unfold Cz at this;rw [Qk, decide_eq_false_iff_not] at this
        exact absurd hk this.1),
     (fun fn d t x hl ht hx hop => by
        have := JW hg hn hl ht
        unfold Cz at this;rw [Qk, List.any_eq_false] at this
        exact absurd (decide_eq_true hop) (this.2 x hx))⟩
  exact run_R hk hg fuel .refl
theorem JD (h : G7 p = true) : ¬ (F5 p inp most fuel).1 = 3 := by
  unfold G7 at h;rw [QR, Q5] at h
  obtain ⟨hg, hn⟩ := h
  have hk : GH p most (fun fn _ => HN (Ao p) 0 fn) (fun fn _ => HN (Ao p) 0 fn) (fun h => ¬ h = 3) :=
    ⟨(fun fn d c hl hc => .step hl (Ha hg hc)),
     (fun fn d hl _ => hl),
     (fun _ _ _ _ => by omega),
     (by omega),
     (by omega),
     (by omega),
     (fun fn d t hl ht hk => by
        have := JW hg hn hl ht
        rw [decide_eq_false_iff_not] at this
        exact absurd hk this),
     (fun _ _ _ _ _ _ => by omega),
     (fun _ _ _ _ _ _ _ _ => by omega)⟩
  exact run_R hk hg fuel .refl
end
open Go.Eng
theorem OW {l : List Func} (h4 : l.length ≤ 4) (h : ∀ f, f ∈ l → Dfn f) : Prog.ok 1048576 ⟨l⟩ := by
 refine ⟨⟨by simp only; omega, fun f hf => ?_⟩, trivial⟩
 have d := h f hf
 refine ⟨Qu d.b3 (by decide), ⟨Qu d.s12 (by decide), fun x hx => ?_⟩, trivial⟩
 obtain ⟨e1, e2, e3⟩ := d.st x hx
 exact ⟨Qu e1 (by decide), Qu e2 (by decide), Qu e3 (by decide), trivial⟩
theorem Py {cd : List Int} (hcd : B3 cd) : (dpP cd).ok 1048576 := by
 have p1 := AH (cd := cd) (n := 2) (c := cu0)
 have p0 : cu0.1 = 0 := rfl
 unfold dpP;split
 ·obtain ⟨hq1, hq4, hqd⟩ := CU (c := curC cd 2 cu0) hcd (by omega)
  have h := J7 (cd := cd) 0 (programR cd (curC cd 2 cu0)).1.funcs (programR cd (curC cd 2 cu0)).2 hqd
  exact OW (by rw [h.2.1]; exact hq4) h.1
 ·exact M4 hcd (by omega) (by decide)
abbrev mostL : List Int := [12, 12, 12, 6, 3, 2, 1, 0, 13]
abbrev Ps : List Int := [600, 600, 100, 100, 40, 20, 10, 5, 0, 601]
def OC (cd : List Int) (c : Cu) : Int := at0 0 mostL (pickV cd 9 c)
theorem M1 {P : Int → Prop} {l : List Int} {i : Int} (h : ∀ x, x ∈ l → P x) (h0 : 0 ≤ i) (h1 : i < l.length) : P (at0 0 l i) := by
 rw [DE h0 h1]; exact h _ (Qb _)
theorem OB {cd : List Int} {c : Cu} (hcd : B3 cd) (h0 : 0 ≤ c.1) : 0 ≤ OC cd c ∧ OC cd c ≤ 13 := by
 have hv := AQ (n := 9) (c := c) hcd h0
 exact M1 (P := fun x => 0 ≤ x ∧ x ≤ 13) (by decide) hv.1 (hv.2.1 (by decide))
theorem OA (cd : List Int) (c : Cu) (bw : Nat) (pv : Value) (hcd : B3 cd) (h0 : 0 ≤ c.1) (h1 : c.1 ≤ 268435456) : Proc Try.prog 34 [.t (.v (.pointer (some ⟨bw, 0, none⟩)))] ([pv]) ([T.bytes cd]) [.obox (.pointer (some ⟨bw, 0, none⟩)) (cuC pv c)] (.t (.int (OC cd c))) [.obox (.pointer (some ⟨bw, 0, none⟩)) (cuC pv (curC cd 9 c))] := by
 refine Proc.intro tys Try.func34 Z Z (N := 6) [100] 99 ([(0, .t (.v (.pointer (some ⟨bw, 0, none⟩))))]) ([(100, .obox (.pointer (some ⟨bw, 0, none⟩)) (cuC pv c)), (99, .ro [pv] [T.bytes cd])]) Z Z Z Z (by decide) (by decide) Z (fun w0 G F0 => ?_);refine nY Z (sG (eZ Z (nA (eZ Z (bZ [T.int 12, T.int 12, T.int 12, T.int 6, T.int 3, T.int 2, T.int 1, T.int 0, T.int 13] ?_)))));refine nZ Z (WO_le (Le.gather (u := 4) (id := 4) Z Z (by first | (simp; done) | (simp; omega) | omega)) ?_);refine nZ Z ?_;refine cP [100] (hm := (CN cd mostL c bw pv hcd h0 (by omega) (by decide) (by decide))) (k := ?_);refine nZ Z (eZ Z (nB (rT ?_)));refine eP [_] ?_ ?_
 ·rfl
 ·rfl
def rbP (cd : List Int) : Prog := (F6 cd cu0).1
def rbC (cd : List Int) : Cu := (Ir cd (F6 cd cu0).2).2
def rbI (cd : List Int) : List Int := (Ir cd (F6 cd cu0).2).1
def rbM (cd : List Int) : Int := OC cd (rbC cd)
def rbF (cd : List Int) : Int := at0 0 Ps (pickV cd 10 (curC cd 9 (rbC cd)))
theorem rb_at {cd : List Int} (hcd : B3 cd) : 0 ≤ (F6 cd cu0).2.1 ∧ (F6 cd cu0).2.1 ≤ 10040 ∧ 0 ≤ (rbC cd).1 ∧ (rbC cd).1 ≤ 10060 ∧ (rbI cd).length ≤ 3 ∧ 0 ≤ rbM cd ∧ rbM cd ≤ 13 ∧ 0 ≤ rbF cd ∧ rbF cd ≤ 601 := by
 have p0 : cu0.1 = 0 := rfl
 have h := QC (c := cu0) hcd (by decide)
 have h2 := Pl (c := (F6 cd cu0).2) hcd (by omega)
 have e1 : (rbC cd).1 = (Ir cd (F6 cd cu0).2).2.1 := rfl
 have e2 : (rbI cd).length = (Ir cd (F6 cd cu0).2).1.length := rfl
 have h3 := AH (cd := cd) (n := 9) (c := rbC cd)
 have hm := OB (c := rbC cd) hcd (by omega)
 have hv := AQ (n := 10) (c := curC cd 9 (rbC cd)) hcd (by omega)
 have hf := M1 (P := fun x => 0 ≤ x ∧ x ≤ 601) (l := Ps) (by decide) hv.1 (hv.2.1 (by decide))
 exact ⟨by omega, by omega, by omega, by omega, by omega, hm.1, hm.2, hf.1, hf.2⟩
theorem Ba (cd : List Int) (hcd : B3 cd) : Fun Try.prog 11 [.t (T.bytes cd)] (Aw [.agg [.t (T.Funcs (dpP cd).funcs)]]) := by
 refine Fun.begin tys Try.func11 Z Z (N := 5) [(0, .t (T.bytes cd))] Z Z (fun w0 G F0 => ?_);refine sG (AJ tys Z Z (AA Z) Z Z Z (nZ Z (nA (eZ Z (BE Z Z (AA Z) Z Z Z Z Z (G8 cd hcd) Z (sT Z (nZ Z (nB (rT (eR ?_))))))))))
 ·rfl
theorem JQ (cd : List Int) (hcd : B3 cd) : Fun Try.prog 7 [.t (T.bytes cd)] (Aw [.agg [.t (T.Funcs (rbP cd).funcs)], .own (T.ints (rbI cd)), .t (.int (rbM cd)), .t (.int (rbF cd))]) := by
 have hrb := rb_at hcd
 obtain ⟨hr1, hr2, hr3, hr4, hr5, hr6, hr7, hr8, hr9⟩ := hrb
 have hc9 := AH (cd := cd) (n := 9) (c := rbC cd)
 refine Fun.begin tys Try.func7 Z Z (N := 19) [(0, .t (T.bytes cd))] Z Z (fun w0 G F0 => ?_);refine sG (AJ tys Z Z (AA Z) Z Z Z (nZ Z (eK 3 Z (nA (eZ Z ?_)))));refine Fs (u := 7) 99 Z (fun pv => ?_);refine nZ Z (AL tys Z Z (AA Z) Z Z Z (by kernel_rfl) Z Z Z Z Z Z (AU Z Z (AA Z) Z Z (nZ Z (eZ Z (nB (sQ (kY [2,3,4,5,6] Z (rG ?_))))))));refine PG (u := 9) (pid := 1009) Z Z (fun bw => ?_);refine nZ Z (eZ Z (WO_le (Le.close (u := 9) 1009 Z Z Z) (nZ Z ?_)));refine Im (rid := 99) [9] Z Z (AA Z) Z Z (by repeat (first | exact ResQ.done | refine ResQ.pin0 1009 Z ?_ | refine ResQ.t ?_ | refine ResQ.nil 1 ?_)) Z (by repeat (first | exact trivial | refine ⟨rfl, rfl, ?_⟩)) (by decide) (Fr cd cu0 bw pv hcd (by decide) (by decide)) Z Z Z ?_;refine nZ Z (WO_le (Le.open (u := 9) 1009 Z Z Z Z) (nZ Z (WO_le (Le.freeze (u := 11) Z) (nZ Z (eZ Z (WO_le (Le.close (u := 9) 1009 Z Z Z) (nZ Z ?_)))))));refine cP [9] (hm := (Kv cd (F6 cd cu0).2 bw pv hcd (by omega) (by omega))) (k := ?_);refine nZ Z (WO_le (Le.open (u := 9) 1009 Z Z Z Z) (nZ Z (eZ Z (WO_le (Le.close (u := 9) 1009 Z Z Z) (nZ Z ?_)))));refine cP [9] (hm := (OA cd (rbC cd) bw pv hcd (by omega) (by omega))) (k := ?_);refine nZ Z (WO_le (Le.open (u := 9) 1009 Z Z Z Z) (nZ Z (eZ Z (bZ [T.int 600, T.int 600, T.int 100, T.int 100, T.int 40, T.int 20, T.int 10, T.int 5, T.int 0, T.int 601] ?_))));refine nZ Z (WO_le (Le.gather (u := 17) (id := 17) Z Z (by first | (simp; done) | (simp; omega) | omega)) ?_);refine nZ Z (WO_le (Le.close (u := 9) 1009 Z Z Z) (nZ Z ?_));refine cP [9] (hm := (CN cd Ps (curC cd 9 (rbC cd)) bw pv hcd (by omega) (by omega) (by decide) (by decide))) (k := ?_);refine nZ Z (WO_le (Le.open (u := 9) 1009 Z Z Z Z) (nZ Z (kZ [2,3,4,5,11,13,15,18] Z (sT Z (nZ Z (WO_le (Le.adoptE (u := 13) 113 Z Z) (nZ Z (eK 3 Z (nB (AO (Le.gather (u := 3) (id := 113) Z Z (by first | omega | (simp; done) | (simp; omega))) ?_))))))))));refine nY Z (rT (eR ?_))
 ·rw [QU (by simp)]; rfl
theorem rbP_ok {cd : List Int} (hcd : B3 cd) : (rbP cd).ok 1048576 := M4 hcd (by decide) (by decide)
theorem Jo {p : Prog} {inp : List Int} {most fuel : Nat} (h : Dm p inp most fuel = true) : AZ p = true := by
 unfold Dm at h;rw [QR] at h;exact M2 h.1
theorem Hz {p : Prog} {inp : List Int} {most fuel : Nat} : (Du p = true → ¬ (N5 p inp most fuel).code = 2) ∧ (G7 p = true → ¬ (N5 p inp most fuel).code = 3) := by
 unfold N5;split
 ·exact ⟨fun h => H4 h, fun h => JD h⟩
 ·exact ⟨fun _ => by show ¬ (0 : Int) = 2; omega, fun _ => by show ¬ (0 : Int) = 3; omega⟩
theorem IA (a b : List Int) (ha : a.length ≤ 9223372036854775807) (hb : b.length ≤ 9223372036854775807) (hab : ∀ x, x ∈ a → 0 ≤ x ∧ x ≤ 255) (hbb : ∀ x, x ∈ b → 0 ≤ x ∧ x ≤ 255) : Fun Try.prog 3 [.t (T.bytes a), .t (T.bytes b)] (Aw [.t (.bool true)]) := by
  refine Fun.begin tys Try.func3 Z Z (N := 130) [(0, .t (T.bytes a)), (1, .t (T.bytes b))] Z Z (fun w0 G F0 => ?_);refine sG (eZ Z (nB (sQ (sG (eK 2 Z (AI ?_))))));refine ⟨_, P8 a b ha hb, rfl, ?_⟩;refine nB ?_;refine AB Z (fun h1 => ?_) (fun h1 => ?_)
  ·
    refine sG (eZ Z (nB (rT (tR (eR ?_)))))
    · rfl
  refine AC (tN (sQ ?_))
  have hca : B3 a := ⟨by simp_all; omega, hab⟩
  have hcb : B3 b := ⟨by simp_all; omega, hbb⟩
  have hpo := rbP_ok hca
  have hqo := Py hcb
  have hrb := rb_at hca
  obtain ⟨hr1, hr2, hr3, hr4, hr5, hr6, hr7, hr8, hr9⟩ := hrb
  obtain ⟨n1, n2⟩ := Hz (p := rbP a) (inp := rbI a) (most := (rbM a).toNat) (fuel := (rbF a).toNat)
  have n3 := (Hz (p := dpP b) (inp := rbI a) (most := 12) (fuel := 600)).1
  have hrun : Fun Try.prog 8 [.t (rbP a).tt, .t (T.ints (rbI a)), .t (.int (rbM a)), .t (.int (rbF a))] (.tup [(N5 (rbP a) (rbI a) (rbM a).toNat (rbF a).toNat).dd, .t (.bool (Dm (rbP a) (rbI a) (rbM a).toNat (rbF a).toNat))]) := by
   have h := Bl (rbP a) (rbI a) (rbM a).toNat (rbF a).toNat hpo (by omega) (by omega) (by omega)
   rw [show (((rbM a).toNat : Nat) : Int) = rbM a from by omega, show (((rbF a).toNat : Nat) : Int) = rbF a from by omega] at h;exact h
  refine rG (eZ Z (BE Z Z (AA Z) Z Z Z Z Z (JQ a hca) Z (Bm Z Z (AA Z) (.inr Z) Z Z (nZ Z (BS Z Z (AA Z) Z Z Z Z (WO_le (Le.freeze (u := 26) Z) (nZ Z (BS Z Z (AA Z) Z Z Z Z ?_))))))))
  first | refine WO_le (Le.adoptE (u := 27) 27 rfl (by first | exact Kl | exact rfl)) ?_ | skip
  refine nZ Z (kZ [1,4,23,26,27] Z (WO_evF tys Z Z (AA Z) (d := .t _) Z (nZ Z (WO_evF tys Z Z (AA Z) (d := .t _) Z (nZ Z (AJ tys Z Z (AA Z) Z Z Z (nZ Z (sT Z (nZ Z (eK 3 Z (nB (sQ (kY [1,4,5,6,7,8] Z (rG (eZ Z ?_)))))))))))))))
  try refine WO_le (Le.freeze (u := 31) rfl) ?_
  refine nZ Z (eK 3 Z (AI ?_));refine ⟨_, hrun, rfl, ?_⟩;refine Bm Z Z (AA Z) (.inr Z) Z Z (nZ Z (BS Z Z (AA Z) Z Z Z Z (WO_le (Le.freeze (u := 36) Z) (nZ Z (WO_evF tys Z Z (AA Z) (d := .t _) Z (nZ Z (AJ tys Z Z (AA Z) Z Z Z (nZ Z (kZ [1,4,5,6,9,36,37] Z (sT Z (nZ Z (eZ Z (nA (eZ Z ?_))))))))))))))
  try refine WO_le (Le.freeze (u := 39) rfl) ?_
  refine nZ Z (AI ?_);refine ⟨_, A4 _ hpo, rfl, ?_⟩;refine eZ Z (WO_evF tys Z Z (AA Z) (d := .t _) Z (nZ Z (WO_evF tys Z Z (AA Z) (d := .t _) Z (nZ Z (eK 2 Z (kZ [1,4,5,6,9,10,11,12] Z (nA (eZ Z ?_))))))))
  try refine WO_le (Le.freeze (u := 44) rfl) ?_
  refine nZ Z (AI ?_);refine ⟨_, BD _ hpo, rfl, ?_⟩;refine eZ Z (WO_evF tys Z Z (AA Z) (d := .t _) Z (nZ Z (WO_evF tys Z Z (AA Z) (d := .t _) Z (nZ Z (eK 2 Z (nB (sQ (sQ (kY [1,4,6,9,10,11,12,13,14] Z (rG (eK 2 Z ?_)))))))))));refine gB (fun h2 => ?_) (fun h2 => ?_)
  ·
    simp only [HS] at h2;refine xK 7 Z (kZ [1,4,6,9,10,11,12,13,14,49,56,57] Z (xK 9 Z (kZ [1,4,6,9,10,11,12,13,14,49,64,66] Z (xK 6 Z (nB (Aq Z (AC (tN (sG (eZ Z (BE Z Z (AA Z) Z Z Z Z Z (Ba b hcb) Z (AJ tys Z Z (AA Z) Z Z Z (nZ Z (kZ [4,6,9,10,11,12,13,14,15,74] Z (sT Z ?_)))))))))))))));refine nZ Z (nA (eZ Z ?_))
    try refine WO_le (Le.freeze (u := 76) rfl) ?_
    refine nZ Z (AI ?_);refine ⟨_, A4 _ hqo, rfl, ?_⟩;refine eZ Z (WO_evF tys Z Z (AA Z) (d := .t _) Z (nZ Z (WO_evF tys Z Z (AA Z) (d := .t _) Z (nZ Z (eK 2 Z (nB (sQ (kY [4,6,9,10,11,12,13,14,15] Z (rG (eZ Z ?_))))))))))
    try refine WO_le (Le.freeze (u := 81) rfl) ?_
    refine nZ Z (AI ?_);refine ⟨_, BH _ hqo, rfl, ?_⟩;refine eZ Z (WO_evF tys Z Z (AA Z) (d := .t _) Z (nZ Z (WO_evF tys Z Z (AA Z) (d := .t _) Z (nZ Z (eK 2 Z (nB (sQ (kY [4,6,9,10,11,12,13,14,15,16,17] Z (rG (eZ Z ?_))))))))))
    try refine WO_le (Le.freeze (u := 86) rfl) ?_
    refine nZ Z (AI ?_);refine ⟨_, BD _ hqo, rfl, ?_⟩;refine eZ Z (WO_evF tys Z Z (AA Z) (d := .t _) Z (nZ Z (WO_evF tys Z Z (AA Z) (d := .t _) Z (nZ Z (eK 2 Z (nB (sQ (kY [4,6,9,10,11,12,13,14,15,16,17] Z (rG (eZ Z ?_))))))))))
    try refine WO_le (Le.freeze (u := 91) rfl) ?_
    refine nZ Z (AI ?_);refine ⟨_, BV _ hqo, rfl, ?_⟩;refine eZ Z (WO_evF tys Z Z (AA Z) (d := .t _) Z (nZ Z (WO_evF tys Z Z (AA Z) (d := .t _) Z (nZ Z (eK 2 Z (nB (sQ (sQ (kY [4,6,9,10,11,12,13,14,15,16,17,18,19] Z (rG (eK 3 Z (WO_le (Le.known (t := 97) false Z (by simp)) ?_))))))))))));refine eZ Z (WO_le (Le.known (t := 98) false Z (by simp)) ?_);refine xK 3 Z (WO_le (Le.known (t := 101) false Z (by simp)) ?_);refine eK 2 Z (WO_le (Le.known (t := 103) false Z (by simp)) ?_);refine kZ [4,6,9,10,11,13,14,15,18,19,103] Z (xK 3 Z (WO_le (Le.known (t := 106) false Z (by simp)) ?_));refine eK 2 Z (WO_le (Le.known (t := 108) false Z (by simp)) ?_);refine xK 3 Z (WO_le (Le.known (t := 111) false Z (by simp)) ?_);refine eZ Z (WO_le (Le.known (t := 112) false Z (by simp)) ?_);refine kZ [4,6,9,10,11,15,112] Z (nB (Aq Z (AC (tN (sG (eZ Z ?_))))))
    try refine WO_le (Le.freeze (u := 114) rfl) ?_
    refine nZ Z (eZ Z (AI ?_));refine ⟨_, Bl (dpP b) (rbI a) 12 600 hqo (by omega) (by omega) (by omega), rfl, ?_⟩;refine Bm Z Z (AA Z) (.inr Z) Z Z (nZ Z (BS Z Z (AA Z) Z Z Z Z (WO_le (Le.freeze (u := 117) Z) (nZ Z (WO_evF tys Z Z (AA Z) (d := .t _) Z (nZ Z (sT Z (nZ Z (eZ Z (nB (sQ (kY [4,9,10,11] Z (rG (eK 3 Z ?_))))))))))))));refine gB (fun h3 => ?_) (fun h3 => ?_)
    ·
      simp only [HS] at h3;refine xK 6 Z (kZ [4,125,128] Z (eK 2 Z (nB (rT (eR ?_)))))
      · rfl
    simp only [HS] at h3;refine xK 4 Z ?_;refine gB (fun h4 => ?_) (fun h4 => ?_)
    ·
      simp only [HS] at h4;refine xK 2 Z (kZ [4,125,128] Z (eK 2 Z (nB (rT (eR ?_)))))
      · rfl
    simp only [HS] at h4;refine xK 2 Z (kZ [4,125,127] Z (xK 3 Z (nB (rT (eR ?_)))))
    · simp_all
      done
  refine xK 3 Z (WO_le (Le.known (t := 52) false Z (by rw [Jo (by assumption)]; rfl)) ?_);refine xK 4 Z (WO_le (Le.known (t := 56) false Z (by rw [Jo (by assumption)]; rfl)) ?_);refine kZ [1,4,6,9,10,11,12,13,14,49,56] Z (xK 2 Z ?_);refine gB (fun h3 => ?_) (fun h3 => ?_)
  ·
    simp only [HS] at h3;refine xK 7 Z (kZ [1,4,6,9,10,11,12,13,14,49,64,66] Z ?_);refine gB (fun h4 => ?_) (fun h4 => ?_)
    ·
      simp only [HS] at h4;refine xK 5 Z (nB (Aq Z (AC (tN (sG (eZ Z (BE Z Z (AA Z) Z Z Z Z Z (Ba b hcb) Z (AJ tys Z Z (AA Z) Z Z Z (nZ Z (sT Z (nZ Z (kZ [4,6,9,10,11,12,13,14,15] Z (nA (eZ Z ?_))))))))))))))
      try refine WO_le (Le.freeze (u := 76) rfl) ?_
      refine nZ Z (AI ?_);refine ⟨_, A4 _ hqo, rfl, ?_⟩;refine eZ Z (WO_evF tys Z Z (AA Z) (d := .t _) Z (nZ Z (WO_evF tys Z Z (AA Z) (d := .t _) Z (nZ Z (eK 2 Z (nB (sQ (kY [4,6,9,10,11,12,13,14,15] Z (rG (eZ Z ?_))))))))))
      try refine WO_le (Le.freeze (u := 81) rfl) ?_
      refine nZ Z (AI ?_);refine ⟨_, BH _ hqo, rfl, ?_⟩;refine eZ Z (WO_evF tys Z Z (AA Z) (d := .t _) Z (nZ Z (WO_evF tys Z Z (AA Z) (d := .t _) Z (nZ Z (eK 2 Z (nB (sQ (kY [4,6,9,10,11,12,13,14,15,16,17] Z (rG (eZ Z ?_))))))))))
      try refine WO_le (Le.freeze (u := 86) rfl) ?_
      refine nZ Z (AI ?_);refine ⟨_, BD _ hqo, rfl, ?_⟩;refine eZ Z (WO_evF tys Z Z (AA Z) (d := .t _) Z (nZ Z (WO_evF tys Z Z (AA Z) (d := .t _) Z (nZ Z (eK 2 Z (nB (sQ (kY [4,6,9,10,11,12,13,14,15,16,17] Z (rG (eZ Z ?_))))))))))
      try refine WO_le (Le.freeze (u := 91) rfl) ?_
      refine nZ Z (AI ?_);refine ⟨_, BV _ hqo, rfl, ?_⟩;refine eZ Z (WO_evF tys Z Z (AA Z) (d := .t _) Z (nZ Z (WO_evF tys Z Z (AA Z) (d := .t _) Z (nZ Z (eK 2 Z (nB (sQ (sQ (kY [4,6,9,10,11,12,13,14,15,16,17,18,19] Z (rG (eK 3 Z (WO_le (Le.known (t := 97) false Z (by simp)) ?_))))))))))));refine eZ Z (WO_le (Le.known (t := 98) false Z (by simp)) ?_);refine xK 3 Z (WO_le (Le.known (t := 101) false Z (by simp)) ?_);refine eK 2 Z (WO_le (Le.known (t := 103) false Z (by simp)) ?_);refine kZ [4,6,9,10,11,13,14,15,18,19,103] Z (xK 3 Z (WO_le (Le.known (t := 106) false Z (by simp)) ?_));refine eK 2 Z (WO_le (Le.known (t := 108) false Z (by simp)) ?_);refine xK 3 Z (WO_le (Le.known (t := 111) false Z (by simp)) ?_);refine eZ Z (WO_le (Le.known (t := 112) false Z (by simp)) ?_);refine kZ [4,6,9,10,11,15,112] Z (nB (Aq Z (AC (tN (sG (eZ Z ?_))))))
      try refine WO_le (Le.freeze (u := 114) rfl) ?_
      refine nZ Z (eZ Z (AI ?_));refine ⟨_, Bl (dpP b) (rbI a) 12 600 hqo (by omega) (by omega) (by omega), rfl, ?_⟩;refine Bm Z Z (AA Z) (.inr Z) Z Z (nZ Z (BS Z Z (AA Z) Z Z Z Z (WO_le (Le.freeze (u := 117) Z) (nZ Z (WO_evF tys Z Z (AA Z) (d := .t _) Z (nZ Z (sT Z (nZ Z (eZ Z (nB (sQ (kY [4,9,10,11] Z (rG (eK 3 Z ?_))))))))))))));refine gB (fun h5 => ?_) (fun h5 => ?_)
      ·
        simp only [HS] at h5;refine xK 6 Z (kZ [4,125,128] Z (eK 2 Z (nB (rT (eR ?_)))))
        · rfl
      simp only [HS] at h5;refine xK 4 Z ?_;refine gB (fun h6 => ?_) (fun h6 => ?_)
      ·
        simp only [HS] at h6;refine xK 2 Z (kZ [4,125,128] Z (eK 2 Z (nB (rT (eR ?_)))))
        · rfl
      simp only [HS] at h6;refine xK 2 Z (kZ [4,125,127] Z (xK 3 Z (nB (rT (eR ?_)))))
      · simp_all
        done
    refine xK 6 Z (nB ?_);refine AB Z (fun h5 => ?_) (fun h5 => ?_)
    ·
      simp only [HS] at h5;refine sG (eZ Z (nB (rT (tR (eR ?_)))))
      · simp_all
        done
    simp only [HS] at h5;refine AC (tN (sG (eZ Z (BE Z Z (AA Z) Z Z Z Z Z (Ba b hcb) Z (AJ tys Z Z (AA Z) Z Z Z (nZ Z (kZ [4,6,9,10,11,12,13,14,15,74] Z (sT Z (nZ Z (nA (eZ Z ?_)))))))))))
    try refine WO_le (Le.freeze (u := 76) rfl) ?_
    refine nZ Z (AI ?_);refine ⟨_, A4 _ hqo, rfl, ?_⟩;refine eZ Z (WO_evF tys Z Z (AA Z) (d := .t _) Z (nZ Z (WO_evF tys Z Z (AA Z) (d := .t _) Z (nZ Z (eK 2 Z (nB (sQ (kY [4,6,9,10,11,12,13,14,15] Z (rG (eZ Z ?_))))))))))
    try refine WO_le (Le.freeze (u := 81) rfl) ?_
    refine nZ Z (AI ?_);refine ⟨_, BH _ hqo, rfl, ?_⟩;refine eZ Z (WO_evF tys Z Z (AA Z) (d := .t _) Z (nZ Z (WO_evF tys Z Z (AA Z) (d := .t _) Z (nZ Z (eK 2 Z (nB (sQ (kY [4,6,9,10,11,12,13,14,15,16,17] Z (rG (eZ Z ?_))))))))))
    try refine WO_le (Le.freeze (u := 86) rfl) ?_
    refine nZ Z (AI ?_);refine ⟨_, BD _ hqo, rfl, ?_⟩;refine eZ Z (WO_evF tys Z Z (AA Z) (d := .t _) Z (nZ Z (WO_evF tys Z Z (AA Z) (d := .t _) Z (nZ Z (eK 2 Z (nB (sQ (kY [4,6,9,10,11,12,13,14,15,16,17] Z (rG (eZ Z ?_))))))))))
    try refine WO_le (Le.freeze (u := 91) rfl) ?_
    refine nZ Z (AI ?_);refine ⟨_, BV _ hqo, rfl, ?_⟩;refine eZ Z (WO_evF tys Z Z (AA Z) (d := .t _) Z (nZ Z (WO_evF tys Z Z (AA Z) (d := .t _) Z (nZ Z (eK 2 Z (nB (sQ (sQ (kY [4,6,9,10,11,12,13,14,15,16,17,18,19] Z (rG (eK 3 Z (WO_le (Le.known (t := 97) false Z (by simp)) ?_))))))))))));refine eZ Z (WO_le (Le.known (t := 98) false Z (by simp)) ?_);refine xK 3 Z (WO_le (Le.known (t := 101) false Z (by simp)) ?_);refine eK 2 Z (WO_le (Le.known (t := 103) false Z (by simp)) ?_);refine kZ [4,6,9,10,11,13,14,15,18,19,103] Z (xK 3 Z (WO_le (Le.known (t := 106) false Z (by simp)) ?_));refine eK 2 Z (WO_le (Le.known (t := 108) false Z (by simp)) ?_);refine xK 3 Z (WO_le (Le.known (t := 111) false Z (by simp)) ?_);refine eZ Z (WO_le (Le.known (t := 112) false Z (by simp)) ?_);refine kZ [4,6,9,10,11,15,112] Z (nB (Aq Z (AC (tN (sG (eZ Z ?_))))))
    try refine WO_le (Le.freeze (u := 114) rfl) ?_
    refine nZ Z (eZ Z (AI ?_));refine ⟨_, Bl (dpP b) (rbI a) 12 600 hqo (by omega) (by omega) (by omega), rfl, ?_⟩;refine Bm Z Z (AA Z) (.inr Z) Z Z (nZ Z (BS Z Z (AA Z) Z Z Z Z (WO_le (Le.freeze (u := 117) Z) (nZ Z (WO_evF tys Z Z (AA Z) (d := .t _) Z (nZ Z (sT Z (nZ Z (eZ Z (nB (sQ (kY [4,9,10,11] Z (rG (eK 3 Z ?_))))))))))))));refine gB (fun h6 => ?_) (fun h6 => ?_)
    ·
      simp only [HS] at h6;refine xK 6 Z (kZ [4,125,128] Z (eK 2 Z (nB (rT (eR ?_)))))
      · rfl
    simp only [HS] at h6;refine xK 4 Z ?_;refine gB (fun h7 => ?_) (fun h7 => ?_)
    ·
      simp only [HS] at h7;refine xK 2 Z (kZ [4,125,128] Z (eK 2 Z (nB (rT (eR ?_)))))
      · rfl
    simp only [HS] at h7;refine xK 2 Z (kZ [4,125,127] Z (xK 3 Z (nB (rT (eR ?_)))))
    · simp_all
      done
  refine xK 6 Z ?_;refine gB (fun h4 => ?_) (fun h4 => ?_)
  ·
    simp only [HS] at h4;refine xZ Z (kZ [1,4,6,9,10,11,12,13,14,49,64,66] Z (xK 6 Z (nB (Ap Z (sG (eZ Z (nB (rT (tR (eR ?_))))))))))
    · simp_all
      done
  simp only [HS] at h4;refine xK 2 Z (kZ [1,4,6,9,10,11,12,13,14,49,64,66] Z ?_);refine gB (fun h5 => ?_) (fun h5 => ?_)
  ·
    simp only [HS] at h5;refine xK 5 Z (nB (Aq Z (AC (tN (sG (eZ Z (BE Z Z (AA Z) Z Z Z Z Z (Ba b hcb) Z (AJ tys Z Z (AA Z) Z Z Z (nZ Z (sT Z (nZ Z (kZ [4,6,9,10,11,12,13,14,15] Z (nA (eZ Z ?_))))))))))))))
    try refine WO_le (Le.freeze (u := 76) rfl) ?_
    refine nZ Z (AI ?_);refine ⟨_, A4 _ hqo, rfl, ?_⟩;refine eZ Z (WO_evF tys Z Z (AA Z) (d := .t _) Z (nZ Z (WO_evF tys Z Z (AA Z) (d := .t _) Z (nZ Z (eK 2 Z (nB (sQ (kY [4,6,9,10,11,12,13,14,15] Z (rG (eZ Z ?_))))))))))
    try refine WO_le (Le.freeze (u := 81) rfl) ?_
    refine nZ Z (AI ?_);refine ⟨_, BH _ hqo, rfl, ?_⟩;refine eZ Z (WO_evF tys Z Z (AA Z) (d := .t _) Z (nZ Z (WO_evF tys Z Z (AA Z) (d := .t _) Z (nZ Z (eK 2 Z (nB (sQ (kY [4,6,9,10,11,12,13,14,15,16,17] Z (rG (eZ Z ?_))))))))))
    try refine WO_le (Le.freeze (u := 86) rfl) ?_
    refine nZ Z (AI ?_);refine ⟨_, BD _ hqo, rfl, ?_⟩;refine eZ Z (WO_evF tys Z Z (AA Z) (d := .t _) Z (nZ Z (WO_evF tys Z Z (AA Z) (d := .t _) Z (nZ Z (eK 2 Z (nB (sQ (kY [4,6,9,10,11,12,13,14,15,16,17] Z (rG (eZ Z ?_))))))))))
    try refine WO_le (Le.freeze (u := 91) rfl) ?_
    refine nZ Z (AI ?_);refine ⟨_, BV _ hqo, rfl, ?_⟩;refine eZ Z (WO_evF tys Z Z (AA Z) (d := .t _) Z (nZ Z (WO_evF tys Z Z (AA Z) (d := .t _) Z (nZ Z (eK 2 Z (nB (sQ (sQ (kY [4,6,9,10,11,12,13,14,15,16,17,18,19] Z (rG (eK 3 Z (WO_le (Le.known (t := 97) false Z (by simp)) ?_))))))))))));refine eZ Z (WO_le (Le.known (t := 98) false Z (by simp)) ?_);refine xK 3 Z (WO_le (Le.known (t := 101) false Z (by simp)) ?_);refine eK 2 Z (WO_le (Le.known (t := 103) false Z (by simp)) ?_);refine kZ [4,6,9,10,11,13,14,15,18,19,103] Z (xK 3 Z (WO_le (Le.known (t := 106) false Z (by simp)) ?_));refine eK 2 Z (WO_le (Le.known (t := 108) false Z (by simp)) ?_);refine xK 3 Z (WO_le (Le.known (t := 111) false Z (by simp)) ?_);refine eZ Z (WO_le (Le.known (t := 112) false Z (by simp)) ?_);refine kZ [4,6,9,10,11,15,112] Z (nB (Aq Z (AC (tN (sG (eZ Z ?_))))))
    try refine WO_le (Le.freeze (u := 114) rfl) ?_
    refine nZ Z (eZ Z (AI ?_));refine ⟨_, Bl (dpP b) (rbI a) 12 600 hqo (by omega) (by omega) (by omega), rfl, ?_⟩;refine Bm Z Z (AA Z) (.inr Z) Z Z (nZ Z (BS Z Z (AA Z) Z Z Z Z (WO_le (Le.freeze (u := 117) Z) (nZ Z (WO_evF tys Z Z (AA Z) (d := .t _) Z (nZ Z (sT Z (nZ Z (eZ Z (nB (sQ (kY [4,9,10,11] Z (rG (eK 3 Z ?_))))))))))))));refine gB (fun h6 => ?_) (fun h6 => ?_)
    ·
      simp only [HS] at h6;refine xK 6 Z (kZ [4,125,128] Z (eK 2 Z (nB (rT (eR ?_)))))
      · rfl
    simp only [HS] at h6;refine xK 4 Z ?_;refine gB (fun h7 => ?_) (fun h7 => ?_)
    ·
      simp only [HS] at h7;refine xK 2 Z (kZ [4,125,128] Z (eK 2 Z (nB (rT (eR ?_)))))
      · rfl
    simp only [HS] at h7;refine xK 2 Z (kZ [4,125,127] Z (xK 3 Z (nB (rT (eR ?_)))))
    · simp_all
      done
  refine xK 6 Z (nB ?_);refine AB Z (fun h6 => ?_) (fun h6 => ?_)
  ·
    simp only [HS] at h6;refine sG (eZ Z (nB (rT (tR (eR ?_)))))
    · simp_all
      done
  simp only [HS] at h6;refine AC (tN (sG (eZ Z (BE Z Z (AA Z) Z Z Z Z Z (Ba b hcb) Z (AJ tys Z Z (AA Z) Z Z Z (nZ Z (kZ [4,6,9,10,11,12,13,14,15,74] Z (sT Z (nZ Z (nA (eZ Z ?_)))))))))))
  try refine WO_le (Le.freeze (u := 76) rfl) ?_
  refine nZ Z (AI ?_);refine ⟨_, A4 _ hqo, rfl, ?_⟩;refine eZ Z (WO_evF tys Z Z (AA Z) (d := .t _) Z (nZ Z (WO_evF tys Z Z (AA Z) (d := .t _) Z (nZ Z (eK 2 Z (nB (sQ (kY [4,6,9,10,11,12,13,14,15] Z (rG (eZ Z ?_))))))))))
  try refine WO_le (Le.freeze (u := 81) rfl) ?_
  refine nZ Z (AI ?_);refine ⟨_, BH _ hqo, rfl, ?_⟩;refine eZ Z (WO_evF tys Z Z (AA Z) (d := .t _) Z (nZ Z (WO_evF tys Z Z (AA Z) (d := .t _) Z (nZ Z (eK 2 Z (nB (sQ (kY [4,6,9,10,11,12,13,14,15,16,17] Z (rG (eZ Z ?_))))))))))
  try refine WO_le (Le.freeze (u := 86) rfl) ?_
  refine nZ Z (AI ?_);refine ⟨_, BD _ hqo, rfl, ?_⟩;refine eZ Z (WO_evF tys Z Z (AA Z) (d := .t _) Z (nZ Z (WO_evF tys Z Z (AA Z) (d := .t _) Z (nZ Z (eK 2 Z (nB (sQ (kY [4,6,9,10,11,12,13,14,15,16,17] Z (rG (eZ Z ?_))))))))))
  try refine WO_le (Le.freeze (u := 91) rfl) ?_
  refine nZ Z (AI ?_);refine ⟨_, BV _ hqo, rfl, ?_⟩;refine eZ Z (WO_evF tys Z Z (AA Z) (d := .t _) Z (nZ Z (WO_evF tys Z Z (AA Z) (d := .t _) Z (nZ Z (eK 2 Z (nB (sQ (sQ (kY [4,6,9,10,11,12,13,14,15,16,17,18,19] Z (rG (eK 3 Z (WO_le (Le.known (t := 97) false Z (by simp)) ?_))))))))))));refine eZ Z (WO_le (Le.known (t := 98) false Z (by simp)) ?_);refine xK 3 Z (WO_le (Le.known (t := 101) false Z (by simp)) ?_);refine eK 2 Z (WO_le (Le.known (t := 103) false Z (by simp)) ?_);refine kZ [4,6,9,10,11,13,14,15,18,19,103] Z (xK 3 Z (WO_le (Le.known (t := 106) false Z (by simp)) ?_));refine eK 2 Z (WO_le (Le.known (t := 108) false Z (by simp)) ?_);refine xK 3 Z (WO_le (Le.known (t := 111) false Z (by simp)) ?_);refine eZ Z (WO_le (Le.known (t := 112) false Z (by simp)) ?_);refine kZ [4,6,9,10,11,15,112] Z (nB (Aq Z (AC (tN (sG (eZ Z ?_))))))
  try refine WO_le (Le.freeze (u := 114) rfl) ?_
  refine nZ Z (eZ Z (AI ?_));refine ⟨_, Bl (dpP b) (rbI a) 12 600 hqo (by omega) (by omega) (by omega), rfl, ?_⟩;refine Bm Z Z (AA Z) (.inr Z) Z Z (nZ Z (BS Z Z (AA Z) Z Z Z Z (WO_le (Le.freeze (u := 117) Z) (nZ Z (WO_evF tys Z Z (AA Z) (d := .t _) Z (nZ Z (sT Z (nZ Z (eZ Z (nB (sQ (kY [4,9,10,11] Z (rG (eK 3 Z ?_))))))))))))));refine gB (fun h7 => ?_) (fun h7 => ?_)
  ·
    simp only [HS] at h7;refine xK 6 Z (kZ [4,125,128] Z (eK 2 Z (nB (rT (eR ?_)))))
    · rfl
  simp only [HS] at h7;refine xK 4 Z ?_;refine gB (fun h8 => ?_) (fun h8 => ?_)
  ·
    simp only [HS] at h8;refine xK 2 Z (kZ [4,125,128] Z (eK 2 Z (nB (rT (eR ?_)))))
    · rfl
  simp only [HS] at h8;refine xK 2 Z (kZ [4,125,127] Z (xK 3 Z (nB (rT (eR ?_)))))
  · simp_all
    done
end Go.Proofs.Ytddfnpiikkilhaa
