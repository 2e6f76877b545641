/- Walks and laws of the claim. -/
import Derived.Test.YtddfnpiikkilhaaGreatIj
import Derived.Test.YtddfnpiikkilhaaGreatGf
import Derived.Test.YtddfnpiikkilhaaGreatFa
import Derived.Test.YtddfnpiikkilhaaGreatMb
import Derived.Test.YtddfnpiikkilhaaGreatMc
import Derived.Test.YtddfnpiikkilhaaGreatMd
import Derived.Test.YtddfnpiikkilhaaGreatMe
import Derived.Test.YtddfnpiikkilhaaGreatGb
set_option linter.unusedVariables false
set_option linter.unusedSimpArgs false
set_option maxRecDepth 10000
set_option maxHeartbeats 4000000
namespace Go.Proofs.YtddfnpiikkilhaaGreat
open Go.Eng
open Go.Eng
def dpP (cd : List Int) : Prog := if pickV cd 2 cu0 = 0 then (layR cd (curC cd 2 cu0)).1 else (Ie cd (curC cd 2 cu0)).1
theorem IC (cd : List Int) (hcd : CU cd) : Fun Tryz.prog 36 [.t (T.bytes cd)] (Av [.agg [.t (T.Funcs (dpP cd).funcs)]]) := by
 have p1 := AM (cd := cd) (n := 2) (c := cu0)
 have p0 : cu0.1 = 0 := rfl
 refine Fun.begin tys Tryz.func36 Z Z (N := 13) [(0, .t (T.bytes cd))] Z Z (fun w0 G F0 => ?_);refine sG (AL tys Z Z (AA Z) Z Z Z (nZ Z (nA (eZ Z ?_))));refine Gu (u := 4) 99 Z (fun pv => ?_);refine nZ Z (AN tys Z Z (AA Z) Z Z Z (by kernel_rfl) Z Z Z Z Z Z (AR Z Z (AA Z) Z Z (nZ Z (eZ Z (nB (sQ (sG ?_)))))));refine Qw (u := 6) (pid := 1006) Z Z (fun bw => ?_);refine nZ Z (eZ Z (WO_le (Le.close (u := 6) 1006 Z Z Z) (nZ Z ?_)));refine cP [6] (hm := (Cq cd 2 cu0 bw pv hcd (by decide) (by decide))) (k := ?_);refine nZ Z (WO_le (Le.open (u := 6) 1006 Z Z Z Z) (nZ Z (nB ?_)));refine AB Z (fun h1 => ?_) (fun h1 => ?_)
 ·
  simp only [HS] at h1;refine sQ (kY [2,3] Z (rG (eZ Z (WO_le (Le.close (u := 6) 1006 Z Z Z) (nZ Z ?_)))));refine cP [6] (hm := (Kf cd (curC cd 2 cu0) bw pv hcd (by omega) (by omega))) (k := ?_);refine nZ Z (WO_le (Le.open (u := 6) 1006 Z Z Z Z) (nZ Z (WO_le (Le.freeze (u := 10) Z) (nZ Z (sT Z (nZ Z (nB (rT (tR (eR ?_))))))))))
  ·unfold dpP
   (rw [if_pos (by assumption)]; done)
 simp only [HS] at h1;refine AC (tN (sQ (kY [2,3] Z (rG (eZ Z (WO_le (Le.close (u := 6) 1006 Z Z Z) (nZ Z ?_)))))));refine KG (rid := 99) [6] Z Z (AA Z) Z Z (by repeat (first | exact ResQ.done | refine ResQ.pin0 1006 Z ?_ | refine ResQ.t ?_ | refine ResQ.nil 1 ?_)) Z (by repeat (first | exact trivial | refine ⟨rfl, rfl, ?_⟩)) (by decide) (Gt cd (curC cd 2 cu0) bw pv hcd (by omega) (by omega)) Z Z Z ?_;refine nZ Z (WO_le (Le.open (u := 6) 1006 Z Z Z Z) (nZ Z (sT Z (nZ Z (nB (rT (eR ?_)))))))
 ·unfold dpP
  (rw [if_neg (by assumption)]; done)
theorem Jz (cd : List Int) (hcd : CU cd) : Fun Tryz.prog 6 [.t (T.bytes cd)] (Av [.agg [.t (T.Funcs (dpP cd).funcs)]]) := by
 refine Fun.begin tys Tryz.func6 Z Z (N := 5) [(0, .t (T.bytes cd))] Z Z (fun w0 G F0 => ?_);refine sG (AL tys Z Z (AA Z) Z Z Z (nZ Z (nA (eZ Z (A2 Z Z (AA Z) Z Z Z Z Z (IC cd hcd) Z (sT Z (nZ Z (nB (rT (eR ?_))))))))))
 ·rfl
open Go.Eng
def Fi (kind op : Int) (s : Stmt) : Bool := decide (s.kind = kind) || s.ex.any fun t => decide (t.op = op)
theorem Ha (p : Prog) (kind op : Int) (hp : p.ok 1048576) (hg : goodP p = true) : Fun Tryz.prog 46 [.t p.tt, .t (.int kind), .t (.int op)] (Av [.t (.bool (Mh p (Fi kind op)))]) := by
  have hgl := AV hg
  have hrl := CN hg 0
  refine Fun.begin tys Tryz.func46 Z Z (N := 49) [(0, .t p.tt), (1, .t (.int kind)), (2, .t (.int op))] Z Z (fun w0 G F0 => ?_);refine sG (AR Z Z (AA Z) Z Z (nZ Z (eZ Z (nB (sQ (sG (eZ Z ?_)))))))
  try refine WO_le (Le.freeze (u := 13) rfl) ?_
  refine nZ Z (A2 Z Z (AA Z) Z Z Z Z Z (Cm p 0 hp hg (by omega) (by omega)) Z (evE ?_));refine eZ Z (nB (AD ?_));refine lK (α := Int) [1, 2, 3, 14, 15] [3] (fun x => [(16, .t (.int x))]) (fun x => []) (fun x => 0 ≤ x ∧ x ≤ (reachP p 0).length ∧ ((reachP p 0).take x.toNat).any (fun n => (funcAt p n).stmts.any (Fi kind op)) = false) (fun x => Int.toNat ((reachP p 0).length - x)) 0 ?_ (fun k hx => ?_)
  · exact ⟨by omega, by omega, by simp⟩
  obtain ⟨hk0, hk1, hk2⟩ := hx
  refine nY Z (sG (eZ Z (nB (sQ ?_))));refine AB Z (fun h1 => ?_) (fun h1 => ?_)
  ·
    simp only [HS] at h1;refine AC (tN (sQ (AD (sG ?_))));refine iY (k := ?_);refine eK 2 Z (nA ?_)
    have hx := C3 (SJ (l := reachP p 0) (n := k.toNat) (by omega))
    have hff := Be hp (n := ((reachP p 0)[k.toNat]'(by omega)).toNat) (by omega)
    have hfa := Ay (p := p) (n := (reachP p 0)[k.toNat]'(by omega)) (by omega)
    have hl := hff.2.1.1
    refine eK 3 Z ?_;refine iY (k := ?_)
    revert hff hfa hl
    generalize p.funcs[((reachP p 0)[k.toNat]'(by omega)).toNat]'(by omega) = f;intro hff hfa hl;refine eZ Z (kZ [1,2,3,8,14,15,16,17,18,19,20,21,22,23,24] Z (eZ Z (evE ?_)));refine eZ Z (nB (AD ?_));refine lK (α := Int) [1, 2, 3, 14, 15, 16, 25, 26] [3] (fun x => [(27, .t (.int x))]) (fun x => []) (fun x => 0 ≤ x ∧ x ≤ f.stmts.length ∧ (f.stmts.take x.toNat).any (Fi kind op) = false) (fun x => Int.toNat (f.stmts.length - x)) 0 ?_ (fun j hx => ?_)
    · exact ⟨by omega, by omega, by simp⟩
    obtain ⟨hj0, hj1, hj2⟩ := hx
    refine nY Z (sG (eZ Z (nB (sQ ?_))));refine AB Z (fun h2 => ?_) (fun h2 => ?_)
    ·
      simp only [HS] at h2;refine AC (tN (sQ (AD (sG ?_))));refine iY (k := ?_);refine eZ Z ?_
      try refine WO_le (Le.freeze (u := 30) rfl) ?_
      refine nZ Z (AL tys Z Z (AA Z) Z Z Z (nZ Z (sT Z (nZ Z (nB (sQ (sG (eK 4 Z (kZ [1,2,3,10,14,15,16,25,26,27,28,29,30,31,32,33,34] Z (nB ?_))))))))));refine AB Z (fun h3 => ?_) (fun h3 => ?_)
      ·
        simp only [HS] at h3;refine sG (eZ Z (nB (rT (tR (bR (tR (AO (bR (bR (tR (AO (bR (tR (eR ?_))))))))))))))
        · first
          | (have e2 : f.stmts.any (Fi kind op) = true := EM hj0 (by omega) (by unfold Fi; rw [decide_eq_true (by assumption)]; rfl)
             refine retB ?_; rw [Mh, EM hk0 (by omega) (by rw [← hfa]; exact e2)]; done)
      simp only [HS] at h3;refine AC (tN (sG ?_))
      have hel := (CQ hff (n := j.toNat) (by omega)).2.2
      refine eK 2 Z (evE ?_);refine eZ Z (nB (AD ?_));refine lK (α := Int) [1, 2, 3, 14, 15, 16, 25, 26, 27, 36, 37] [3] (fun x => [(38, .t (.int x))]) (fun x => []) (fun x => 0 ≤ x ∧ x ≤ (f.stmts[j.toNat]'(by omega)).ex.length ∧ ((f.stmts[j.toNat]'(by omega)).ex.take x.toNat).any (fun t => decide (t.op = op)) = false) (fun x => Int.toNat ((f.stmts[j.toNat]'(by omega)).ex.length - x)) 0 ?_ (fun i hx => ?_)
      · exact ⟨by omega, by omega, by simp⟩
      obtain ⟨hi0, hi1, hi2⟩ := hx
      refine nY Z (sG (eZ Z (nB (sQ ?_))));refine AB Z (fun h4 => ?_) (fun h4 => ?_)
      ·
        simp only [HS] at h4;refine AC (tN (sQ (AD (sG ?_))));refine iY (k := ?_);refine eZ Z ?_
        try refine WO_le (Le.freeze (u := 41) rfl) ?_
        refine nZ Z (AL tys Z Z (AA Z) Z Z Z (nZ Z (sT Z (nZ Z (nA (eK 4 Z (kZ [1,2,3,12,14,15,16,25,26,27,36,37,38,39,40,41,42,43,44,45] Z (nB ?_))))))));refine AB Z (fun h5 => ?_) (fun h5 => ?_)
        ·
          simp only [HS] at h5;refine sG (eZ Z (nB (rT (bR (tR (AO (bR (bR (tR (AO (bR (bR (tR (AO (bR ?_)))))))))))))));refine tR (eR ?_)
          · first
            | (have e1 : ((f.stmts[j.toNat]'(by omega)).ex.any fun t => decide (t.op = op)) = true := EM hi0 (by omega) (decide_eq_true (by assumption))
               have e2 : f.stmts.any (Fi kind op) = true := EM hj0 (by omega) (by unfold Fi; rw [e1]; simp)
               refine retB ?_; rw [Mh, EM hk0 (by omega) (by rw [← hfa]; exact e2)]; done)
        simp only [HS] at h5;refine AC (bN (tN (rG (evI ?_))));refine eZ Z (oN ?_);refine lQ _ ?_ ?_
        · skip
          exact ⟨by omega, by omega, J8 hi0 (by omega) hi2 (decide_eq_false (by assumption))⟩
        · (show Int.toNat _ < Int.toNat _); omega
      simp only [HS] at h4;refine AP (tE (AK (AI (bN (tN (rG (evI ?_)))))));refine eZ Z (oN ?_);refine lQ _ ?_ ?_
      · skip
        exact ⟨by omega, by omega, J8 hj0 (by omega) hj2 (by unfold Fi; rw [decide_eq_false (by assumption), Gr (by omega) hi2]; rfl)⟩
      · (show Int.toNat _ < Int.toNat _); omega
    simp only [HS] at h2;refine AP (tE (AK (AI (bN (tN (rG (evI ?_)))))));refine eZ Z (oN ?_);refine lQ _ ?_ ?_
    · skip
      exact ⟨by omega, by omega, J8 hk0 (by omega) hk2 (by rw [← hfa]; exact Gr (by omega) hj2)⟩
    · (show Int.toNat _ < Int.toNat _); omega
  simp only [HS] at h1;refine AP (tE (AK (AI (tN (sG (eZ Z (nB (rT (eR ?_)))))))))
  · first
    | (refine retB ?_; rw [Mh, Gr (by omega) hk2]; done)
theorem Jp (s : Stmt) (hs : s.ok 1048576) : Fun Tryz.prog 48 [.t s.tt] (Av [.t (.bool (decide (s.kind = 8)))]) := by
 refine Fun.begin tys Tryz.func48 Z Z (N := 6) [(0, .t s.tt)] Z Z (fun w0 G F0 => ?_);refine sG (AR Z Z (AA Z) Z Z (nZ Z (eZ Z (nA (eK 4 Z (nB (rT (eR ?_))))))))
 ·rfl
theorem HG (s : Stmt) (hs : s.ok 1048576) : Fun Tryz.prog 44 [.t s.tt] (Av [.t (.bool (decide (s.kind = 8)))]) := by
 refine Fun.begin tys Tryz.func44 Z Z (N := 6) [(0, .t s.tt)] Z Z (fun w0 G F0 => ?_);refine sG (AR Z Z (AA Z) Z Z (nZ Z (eZ Z (nA (eK 4 Z (nB (rT (eR ?_))))))))
 ·rfl
theorem Pu {vars m : Int} {t : Tok} (h : knownT vars m t = true) : ¬ t.op = -1 := by
 unfold knownT at h
 grind
theorem Fs {p : Prog} (hg : goodP p = true) (kind : Int) : Mh p (Fi kind (-1)) = Mh p fun s => decide (s.kind = kind) := by
 unfold Mh;rw [Bool.eq_iff_iff, Su, Su]
 have key : ∀ n, (funcAt p n).stmts.any (Fi kind (-1)) = (funcAt p n).stmts.any fun s => decide (s.kind = kind) := by
  intro n
  rcases funcAt_mem (p := p) n with hm | hm
  ·obtain ⟨k, hk, he⟩ := Se hm
   have hgf := CH hg hk
   rw [he] at hgf;rw [Bool.eq_iff_iff, Su, Su]
   have h1 : ∀ s, s ∈ (funcAt p n).stmts → Fi kind (-1) s = decide (s.kind = kind) := by
    intro s hs
    obtain ⟨m, hm, rfl⟩ := Se hs
    have hgs := Cn hgf hm
    unfold Fi;rw [show ((((funcAt p n).stmts[m]).ex).any fun t => decide (t.op = -1)) = false from ?_, TB];rw [List.any_eq_false];intro t ht
    rcases stmtG_ex hgs with h | h
    ·rw [h] at ht; cases ht
    ·simpa using Pu (Gf h ht)
   constructor
   ·rintro ⟨s, hs, h⟩; exact ⟨s, hs, by rwa [h1 s hs] at h⟩
   ·rintro ⟨s, hs, h⟩; exact ⟨s, hs, by rwa [h1 s hs]⟩
  ·rw [hm]; rfl
 constructor
 ·rintro ⟨n, hn, h⟩; exact ⟨n, hn, by rwa [key n] at h⟩
 ·rintro ⟨n, hn, h⟩; exact ⟨n, hn, by rwa [key n]⟩
def JY (p : Prog) : Bool := goodP p && Mh p fun s => decide (s.kind = 8)
def EB (p : Prog) : Bool := goodP p && roundP p
theorem Iu (p : Prog) (hp : p.ok 1048576) : Fun Tryz.prog 14 [.t p.tt] (Av [.t (.bool (JY p)), .t (.bool (goodP p))]) := by
 refine Fun.begin tys Tryz.func14 Z Z (N := 9) [(0, .t p.tt)] Z Z (fun w0 G F0 => ?_);refine sG (AR Z Z (AA Z) Z Z (nZ Z (eK 2 Z (nB (sQ (sG (eZ Z ?_)))))))
 try refine WO_le (Le.freeze (u := 4) rfl) ?_
 refine nZ Z (AJ ?_);refine ⟨_, BZ p hp, rfl, ?_⟩;refine eZ Z (nB ?_);refine AB Z (fun h1 => ?_) (fun h1 => ?_)
 ·
  simp only [HS] at h1;refine sG (eK 2 Z (nB (rT (tR (eR ?_)))))
  ·exact I7 (by rw [JY, h1]; rfl) h1.symm
 simp only [HS] at h1;refine AC (tN (sG (eZ Z ?_)))
 try refine WO_le (Le.freeze (u := 7) rfl) ?_
 refine nZ Z (AJ ?_);refine ⟨_, Ha p 8 (-1) hp h1, rfl, ?_⟩;refine eZ Z (kZ [2,3] Z (eZ Z (nB (rT (eR ?_)))))
 ·exact I7 (by rw [JY, h1, Fs h1]; rfl) h1.symm
theorem Jk (p : Prog) (hp : p.ok 1048576) : Fun Tryz.prog 13 [.t p.tt] (Av [.t (.bool (JY p)), .t (.bool (goodP p))]) := by
 refine Fun.begin tys Tryz.func13 Z Z (N := 9) [(0, .t p.tt)] Z Z (fun w0 G F0 => ?_);refine sG (AR Z Z (AA Z) Z Z (nZ Z (eK 2 Z (nB (sQ (sG (eZ Z ?_)))))))
 try refine WO_le (Le.freeze (u := 4) rfl) ?_
 refine nZ Z (AJ ?_);refine ⟨_, CP p hp, rfl, ?_⟩;refine eZ Z (nB ?_);refine AB Z (fun h1 => ?_) (fun h1 => ?_)
 ·
  simp only [HS] at h1;refine sG (eK 2 Z (nB (rT (tR (eR ?_)))))
  ·exact I7 (by rw [JY, h1]; rfl) h1.symm
 simp only [HS] at h1;refine AC (tN (sG (eZ Z ?_)))
 try refine WO_le (Le.freeze (u := 7) rfl) ?_
 refine nZ Z (AJ ?_);refine ⟨_, Gs p _ (fun s => decide (s.kind = 8)) hp h1 Jp, rfl, ?_⟩;refine eZ Z (kZ [2,3] Z (eZ Z (nB (rT (eR ?_)))))
 ·exact I7 (by rw [JY, h1]; rfl) h1.symm
theorem Hp (p : Prog) (hp : p.ok 1048576) : Fun Tryz.prog 10 [.t p.tt] (Av [.t (.bool (EB p)), .t (.bool (goodP p))]) := by
 refine Fun.begin tys Tryz.func10 Z Z (N := 9) [(0, .t p.tt)] Z Z (fun w0 G F0 => ?_);refine sG (AR Z Z (AA Z) Z Z (nZ Z (eK 2 Z (nB (sQ (sG (eZ Z ?_)))))))
 try refine WO_le (Le.freeze (u := 4) rfl) ?_
 refine nZ Z (AJ ?_);refine ⟨_, BZ p hp, rfl, ?_⟩;refine eZ Z (nB ?_);refine AB Z (fun h1 => ?_) (fun h1 => ?_)
 ·
  simp only [HS] at h1;refine sG (eK 2 Z (nB (rT (tR (eR ?_)))))
  ·exact I7 (by rw [EB, h1]; rfl) h1.symm
 simp only [HS] at h1;refine AC (tN (sG (eZ Z ?_)))
 try refine WO_le (Le.freeze (u := 7) rfl) ?_
 refine nZ Z (AJ ?_);refine ⟨_, Dh p hp h1, rfl, ?_⟩;refine eZ Z (kZ [2,3] Z (eZ Z (nB (rT (eR ?_)))))
 ·exact I7 (by rw [EB, h1]; rfl) h1.symm
theorem H4 (p : Prog) (hp : p.ok 1048576) : Fun Tryz.prog 9 [.t p.tt] (Av [.t (.bool (EB p)), .t (.bool (goodP p))]) := by
 refine Fun.begin tys Tryz.func9 Z Z (N := 9) [(0, .t p.tt)] Z Z (fun w0 G F0 => ?_);refine sG (AR Z Z (AA Z) Z Z (nZ Z (eK 2 Z (nB (sQ (sG (eZ Z ?_)))))))
 try refine WO_le (Le.freeze (u := 4) rfl) ?_
 refine nZ Z (AJ ?_);refine ⟨_, CP p hp, rfl, ?_⟩;refine eZ Z (nB ?_);refine AB Z (fun h1 => ?_) (fun h1 => ?_)
 ·
  simp only [HS] at h1;refine sG (eK 2 Z (nB (rT (tR (eR ?_)))))
  ·exact I7 (by rw [EB, h1]; rfl) h1.symm
 simp only [HS] at h1;refine AC (tN (sG (eZ Z ?_)))
 try refine WO_le (Le.freeze (u := 7) rfl) ?_
 refine nZ Z (AJ ?_);refine ⟨_, Dj p hp h1, rfl, ?_⟩;refine eZ Z (kZ [2,3] Z (eZ Z (nB (rT (eR ?_)))))
 ·exact I7 (by rw [EB, h1]; rfl) h1.symm
open Go.Eng
structure G2 (p : Prog) (most : Nat) (I C : Int → Nat → Prop) (R : Int → Prop) : Prop where
 hI : ∀ fn d c, I fn d → c ∈ FE p fn → C c d
 hC : ∀ fn d, C fn d → d ≠ most → I fn (d + 1)
 h4 : ∀ fn d, C fn d → d = most → R 4
 h0 : R 0
 h1 : R 1
 h5 : R 5
 h6 : ∀ fn d t, I fn d → t ∈ (funcAt p fn).stmts → t.kind = 6 → R 3
 hp : ∀ fn d t, I fn d → t ∈ (funcAt p fn).stmts → t.kind = 4 → R 2
 hd : ∀ fn d t x, I fn d → t ∈ (funcAt p fn).stmts → x ∈ t.ex → x.op = 6 → R 2
def ByR (R : Int → Prop) (b : Option By) : Prop := ∀ x, b = some x → R x.how ∧ (x.exd = true → R 3)
section
variable {p : Prog} {inp : List Int} {most : Nat} {I C : Int → Nat → Prop} {R : Int → Prop} {L : Lev}
theorem recS_R (h1 : R 1) {b : Option By} (h : ByR R b) : ByR R (IY b).2 := by
 unfold IY;split
 ·exact h
 ·rename_i x
  split
  ·intro y hy
   cases hy
   obtain ⟨g1, g2⟩ := h x rfl
   dsimp only;refine ⟨?_, g2⟩;split
   ·rename_i he; exact g2 he
   ·exact h1
  ·exact h
structure Sg (p : Prog) (inp : List Int) (I : Int → Nat → Prop) (R : Int → Prop) (fn : Int) (s : Sx) : Prop where
 ok : s.ok p inp (funcAt p fn)
 by' : ByR R s.by'
 off : ∀ x, x ∈ s.off → x ∈ FE p fn
 inv : I fn s.m.deep
structure Sh (p : Prog) (R : Int → Prop) (fn : Int) (h : Int) (s : Sx) : Prop where
 code : R h
 by' : ByR R s.by'
 off : ∀ x, x ∈ s.off → x ∈ FE p fn
theorem Sh.go {fn h : Int} {s s' : Sx} (hs : Sg p inp I R fn s) (ht : Sx.to p inp (funcAt p fn) h s s') (hh : Sh p R fn h s') (h4 : h < 4) : Sg p inp I R fn s' :=
 ⟨ht.ok, hh.by', hh.off, by rw [ht.deep h4]; exact hs.inv⟩
structure O8 (p : Prog) (inp : List Int) (I C : Int → Nat → Prop) (R : Int → Prop) (L : Lev) : Prop where
 stmt : ∀ fn : Int, 0 ≤ fn → fn < p.funcs.length → ∀ t, t ∈ (funcAt p fn).stmts → ∀ s : Sx, Sg p inp I R fn s → Sh p R fn (L.stmt (funcAt p fn) t s).1 (L.stmt (funcAt p fn) t s).2.2
 call : ∀ (fn : Int) (args : List Int) (b : Option By) (m : Ms), 0 ≤ fn → fn < p.funcs.length → args.length = (atI (paramsL p) fn).toNat → m.used ≤ inp.length → C fn m.deep → ByR R b → R (L.call fn args b m).1 ∧ ByR R (L.call fn args b m).2.2.1
theorem Ii {fn : Int} {t : Stmt} {x : Tok} (ht : t ∈ (funcAt p fn).stmts) (hx : x ∈ t.ex) (h : x.op = 11) : x.n ∈ FE p fn :=
 Sc.2 ⟨t, ht, Sk _ (Sq.2 ⟨x, List.mem_filter.2 ⟨hx, by simpa using h⟩, rfl⟩)⟩
theorem def_named {fn : Int} {t : Stmt} (ht : t ∈ (funcAt p fn).stmts) (h : t.kind = 3) : t.n ∈ FE p fn :=
 Sc.2 ⟨t, ht, Sj _ (by rw [d3, if_pos h]; simp)⟩
theorem NW {op x y : Int} (h : Bi op x y = none) : op = 6 := by
 unfold Bi at h
 repeat' split at h
 all_goals first | (cases h; done) | assumption
theorem tokX_R (hk : G2 p most I C R) (hL : O8 p inp I C R L) {fn : Int} {vs : Int} {t : Stmt} {x : Tok} {pile : List Int} {s : Sx} (hs : Sg p inp I R fn s) (ht : t ∈ (funcAt p fn).stmts) (hx : x ∈ t.ex) (hkn : knownT vs (paramsL p).length x = true) (hn : Aq (paramsL p) x ≤ pile.length) :
  Sh p R fn (DI L.cal (paramsL p) inp x pile s).1 (DI L.cal (paramsL p) inp x pile s).2.2.2 := by
 have h0 : Sh p R fn 0 s := ⟨hk.h0, hs.by', hs.off⟩
 unfold DI
 by_cases o1 : x.op = 1
 ·rw [if_pos o1]; exact h0
 rw [if_neg o1]
 by_cases o2 : x.op = 2
 ·rw [if_pos o2]; exact h0
 rw [if_neg o2]
 by_cases o9 : x.op = 9
 ·rw [if_pos o9]; exact ⟨hk.h0, hs.by', hs.off⟩
 rw [if_neg o9]
 by_cases o10 : x.op = 10
 ·rw [if_pos o10]; exact ⟨hk.h0, recS_R hk.h1 hs.by', hs.off⟩
 rw [if_neg o10]
 by_cases o11 : x.op = 11
 ·rw [if_pos o11]
  obtain ⟨k0, k1⟩ := CG hkn o11
  rw [BV] at k1
  have hne : Aq (paramsL p) x = atI (paramsL p) x.n := by simp [Aq, o11]
  rw [hne] at hn
  have hc := hL.call x.n (pile.drop (pile.length - (atI (paramsL p) x.n).toNat)) none s.m k0 k1 (by rw [S0]; omega) hs.ok.used (hk.hI _ _ _ hs.inv (Ii ht hx o11)) (fun y hy => by cases hy)
  dsimp only [Lev.cal];split
  ·exact ⟨hk.h0, hs.by', hs.off⟩
  ·exact ⟨hc.1, hs.by', hs.off⟩
 rw [if_neg o11];split
 ·rename_i hr
  exact ⟨hk.hd _ _ _ _ hs.inv ht hx (NW hr), hs.by', hs.off⟩
 ·exact h0
theorem OI (hk : G2 p most I C R) (hO : Db p inp L) (hL : O8 p inp I C R L) (hg : goodP p = true) {fn : Int} {vs : Int} {t : Stmt} (ht : t ∈ (funcAt p fn).stmts) : ∀ {l : List Tok} {pile : List Int} {s : Sx} {mx : Int} {r : Int × Int}, (∀ x, x ∈ l → x ∈ t.ex) → Sg p inp I R fn s → C2 vs (paramsL p) l pile.length mx = some r →
  Sh p R fn (exprS L.cal (paramsL p) inp l pile s).1 (exprS L.cal (paramsL p) inp l pile s).2.2
 | [], pile, s, mx, r, _, hs, _ => ⟨hk.h0, hs.by', hs.off⟩
 | x :: l, pile, s, mx, r, hl, hs, hr => by
  rw [C2] at hr;split at hr
  ·rename_i hc
   rw [SC, decide_eq_true_eq] at hc
   obtain ⟨h1, h2⟩ := Hl hO hg hs.ok hc.1 hc.2
   have h3 := tokX_R hk hL hs ht (hl x (by simp)) hc.1 hc.2
   rw [exprS];split
   ·rename_i h0
    rw [← h2 h0] at hr;exact OI hk hO hL hg ht (fun y hy => hl y (by simp [hy])) (h3.go hs h1 (by omega)) hr
   ·exact h3
  ·cases hr
theorem D3 (hk : G2 p most I C R) (hO : Db p inp L) (hL : O8 p inp I C R L) {fn : Int} (f0 : 0 ≤ fn) (f1 : fn < p.funcs.length) : ∀ {b : List Int} {s : Sx}, RT (funcAt p fn) b → Sg p inp I R fn s →
  Sh p R fn (blockS (L.stmt (funcAt p fn)) (funcAt p fn) b s).1 (blockS (L.stmt (funcAt p fn)) (funcAt p fn) b s).2.2
 | [], s, _, hs => ⟨hk.h0, hs.by', hs.off⟩
 | k :: b, s, hb, hs => by
  have hkk := hb k (by simp)
  have hm : stmtAt (funcAt p fn) k ∈ (funcAt p fn).stmts := by rw [← Bv (by omega)]; exact SJ _
  have h1 := hO.stmt _ (Ao f0 f1) _ hm s hs.ok
  have h2 := hL.stmt fn f0 f1 _ hm s hs
  rw [blockS];split
  ·rename_i h0
   exact D3 hk hO hL f0 f1 (fun x hx => hb x (by simp [hx])) (h2.go hs h1 (by omega))
  ·exact h2
theorem Q7 (hk : G2 p most I C R) (hO : Db p inp L) (hL : O8 p inp I C R L) (hg : goodP p = true) {fn : Int} (f0 : 0 ≤ fn) (f1 : fn < p.funcs.length) {t : Stmt} (ht : t ∈ (funcAt p fn).stmts) {s : Sx} (hs : Sg p inp I R fn s) :
  Sh p R fn (Dd L (paramsL p) inp (funcAt p fn) t s).1 (Dd L (paramsL p) inp (funcAt p fn) t s).2.2 := by
 have hf := Ao f0 f1
 have hgv := BI hg hf
 have hst : BD (funcAt p fn).vars (paramsL p) t = true := by
  obtain ⟨q, hq, he⟩ := Se hf
  have hgf := CH hg hq
  rw [he] at hgf
  obtain ⟨i, hi, rfl⟩ := Se ht
  exact Cn hgf hi
 obtain ⟨hk1, hk2, _⟩ := H1 hgv.2.2.2.2.1 ht
 unfold Dd
 by_cases hz : s.m.fuel = 0
 ·rw [if_pos hz]; exact ⟨hk.h5, hs.by', hs.off⟩
 rw [if_neg hz]
 by_cases k3 : t.kind = 3
 ·rw [if_pos k3]
  refine ⟨hk.h0, hs.by', fun x hx => ?_⟩
  rcases SF.1 hx with hx | hx
  ·exact hs.off x hx
  ·rw [SN] at hx; subst hx; exact def_named ht k3
 rw [if_neg k3]
 by_cases k6 : t.kind = 6
 ·rw [if_pos k6]; exact ⟨hk.h6 _ _ _ hs.inv ht k6, hs.by', hs.off⟩
 rw [if_neg k6]
 obtain ⟨mx, hr⟩ := ES hst k3 k6
 have hb : Sg p inp I R fn { s with m := A8 s.m } := ⟨⟨hs.ok.vars, hs.ok.off, hs.ok.used⟩, hs.by', hs.off, hs.inv⟩
 have he := Eu hO hg (pile := []) hb.ok (l := t.ex) (mx := 0) (by simpa using hr)
 have hR := OI hk hO hL hg ht (pile := []) (l := t.ex) (mx := 0) (fun _ h => h) hb (by simpa using hr)
 dsimp only;generalize exprS L.cal (paramsL p) inp t.ex [] { s with m := A8 s.m } = r at he hR
 obtain ⟨h, v, s2⟩ := r
 dsimp only at he hR ⊢;split
 ·rename_i hh
  subst hh
  have h2 := hR.go hb he (by omega)
  unfold doS;dsimp only;split
  ·exact ⟨hk.h0, h2.by', h2.off⟩
  split
  ·exact ⟨hk.h0, h2.by', h2.off⟩
  split
  ·rename_i _ _ k4
   exact ⟨hk.hp _ _ _ h2.inv ht k4, h2.by', h2.off⟩
  split
  ·exact ⟨hk.h1, h2.by', h2.off⟩
  split
  ·split
   ·exact D3 hk hO hL f0 f1 hk1 h2
   ·exact D3 hk hO hL f0 f1 hk2 h2
  split
  ·split
   ·exact ⟨hk.h0, h2.by', h2.off⟩
   ·have hbl := D3 hk hO hL f0 f1 hk1 h2
    have hbo := BP (hO.stmt _ hf) hk1 h2.ok
    split
    ·rename_i h0
     exact hL.stmt fn f0 f1 _ ht _ (hbl.go h2 hbo (by omega))
    ·exact hbl
  ·exact ⟨hk.h0, h2.by', h2.off⟩
 ·exact hR
theorem endS_R (h0 : R 1) {h v : Int} (hh : R h) : R (endS h v).how ∧ ((endS h v).exd = true → R 3) := by
 unfold endS;dsimp only;refine ⟨?_, fun h3 => ?_⟩
 ·split
  ·exact h0
  ·exact hh
 ·rw [decide_eq_true_eq] at h3; subst h3; exact hh
theorem Nl (hk : G2 p most I C R) (hO : Db p inp L) (hL : O8 p inp I C R L) {d : Nat} : ∀ {l : List Int} {b : By} {m : Ms}, (∀ x, x ∈ l → (0 ≤ x ∧ x < p.funcs.length ∧ atI (paramsL p) x = 0) ∧ C x d) → m.used ≤ inp.length → m.deep = d → R b.how ∧ (b.exd = true → R 3) →
  R (offR (fun k b m => L.call k [] b m) l b m).1 ∧ R (offR (fun k b m => L.call k [] b m) l b m).2.1.how
 | [], b, m, _, _, _, hb => ⟨hk.h0, hb.1⟩
 | k :: l, b, m, hl, hu, hd, hb => by
  obtain ⟨⟨q0, q1, q2⟩, q3⟩ := hl k (by simp)
  have ho := hO.call k [] (some b) m q0 q1 (by rw [q2]; rfl) hu
  have hr := hL.call k [] (some b) m q0 q1 (by rw [q2]; rfl) hu (by rw [hd]; exact q3) (fun x hx => by cases hx; exact hb)
  have hb1 : ∃ b1, (L.call k [] (some b) m).2.2.1 = some b1 := by
   have := ho.by'
   cases h : (L.call k [] (some b) m).2.2.1 with
   | none => rw [h] at this; cases this
   | some b1 => exact ⟨b1, rfl⟩
  obtain ⟨b1, hb1⟩ := hb1
  have hb2 := hr.2 b1 hb1
  rw [offR];rw [hb1];split
  ·exact ⟨hr.1, hb2.1⟩
  ·rename_i h4
   split
   ·exact Nl hk hO hL (fun x hx => hl x (by simp [hx])) ho.le.2.2 ((ho.deep (by omega)).trans hd) hb2
   ·refine Nl hk hO hL (fun x hx => hl x (by simp [hx])) ho.le.2.2 ((ho.deep (by omega)).trans hd) ⟨hr.1, fun h => ?_⟩
    simp only [Option.getD_some, TE, decide_eq_true_eq] at h
    rcases h with h | h
    ·exact hb2.2 h
    ·have := hr.1; rw [h] at this; exact this
theorem Ro (hk : G2 p most I C R) (hO : Db p inp L) (hL : O8 p inp I C R L) (hg : goodP p = true) {fn : Int} {args : List Int} {b : Option By} {m : Ms} (f0 : 0 ≤ fn) (f1 : fn < p.funcs.length) (ha : args.length = (atI (paramsL p) fn).toNat) (hu : m.used ≤ inp.length) (hc : C fn m.deep) (hb : ByR R b) :
  R (DZ L p most fn args b m).1 ∧ ByR R (DZ L p most fn args b m).2.2.1 := by
 have hm := Ao f0 f1
 obtain ⟨g1, g2, g3, g4, hsh, g6⟩ := BI hg hm
 rw [Bf f0 f1] at ha;unfold DZ
 by_cases hz : m.fuel = 0
 ·rw [if_pos hz]; exact ⟨hk.h5, hb⟩
 rw [if_neg hz]
 by_cases hd : m.deep = most
 ·rw [if_pos hd]; exact ⟨hk.h4 _ _ hc hd, hb⟩
 rw [if_neg hd];dsimp only
 have hs : Sg p inp I R fn (startS (funcAt p fn) args b m) := ⟨ET (by omega) hu, hb, (fun x hx => absurd hx List.not_mem_nil), hk.hC _ _ hc hd⟩
 have hbo := BP (hO.stmt _ hm) (DQ hsh) hs.ok
 have hbr := D3 hk hO hL f0 f1 (DQ hsh) hs
 generalize blockS (L.stmt (funcAt p fn)) (funcAt p fn) (funcAt p fn).body (startS (funcAt p fn) args b m) = r at hbo hbr
 obtain ⟨h, v, s1⟩ := r
 dsimp only at hbo hbr ⊢;split
 ·exact ⟨hbr.code, hbr.by'⟩
 ·rename_i h4
  have hs1 := hbr.go hs hbo (by omega)
  have he := endS_R hk.h1 (v := v) hbr.code
  have ho := Nl hk hO hL (d := s1.m.deep) (l := s1.off.reverse) (b := endS h v) (m := s1.m) (fun x hx => ⟨hs1.ok.off x (by simpa using hx), hk.hI _ _ _ hs1.inv (hs1.off x (by simpa using hx))⟩) hs1.ok.used rfl he
  generalize offR (fun k b m => L.call k [] b m) s1.off.reverse (endS h v) s1.m = q at ho
  obtain ⟨h2, b2, m2⟩ := q
  dsimp only at ho ⊢;split
  ·exact ⟨ho.1, hbr.by'⟩
  ·exact ⟨ho.2, hbr.by'⟩
theorem Ns (hk : G2 p most I C R) (hg : goodP p = true) : ∀ n, O8 p inp I C R (lev p inp most n)
 | 0 => ⟨fun fn f0 f1 t ht s hs => ⟨hk.h5, hs.by', hs.off⟩, fun fn args b m _ _ _ _ _ hb => ⟨hk.h5, hb⟩⟩
 | n + 1 => ⟨fun fn f0 f1 t ht s hs => Q7 hk (El hg most n) (Ns hk hg n) hg f0 f1 ht hs, fun fn args b m f0 f1 ha hu hc hb => Ro hk (El hg most n) (Ns hk hg n) hg f0 f1 ha hu hc hb⟩
theorem run_R (hk : G2 p most I C R) (hg : goodP p = true) (fuel : Nat) (h : C 0 0) : R (G6 p inp most fuel).1 := by
 have hm := BK hg
 exact ((Ns hk hg fuel).call 0 [] none ⟨0, fuel, 0, []⟩ (by omega) hm.1 (by rw [hm.2]; rfl) (Nat.zero_le _) h (fun x hx => by cases hx)).1
end
open Go.Eng
def EA (p : Prog) (fn : Int) : Int := FO p.funcs.length (AE p) fn
theorem J0 {p : Prog} (hg : goodP p = true) (fn : Int) : 0 ≤ EA p fn ∧ EA p fn ≤ 5 := by
 have := J1 (AE p) p.funcs.length fn
 have := AV hg
 unfold EA FO; omega
theorem Lv {p : Prog} (hg : goodP p = true) (hr : roundP p = false) {fn : Int} (hl : Lead (AE p) 0 fn) : EA p fn = My ((AE p fn).map (EA p)) + 1 :=
 F1 (Ax hg) (by have := AV hg; omega) hr hl
theorem Nr {l : List Int} {g : Int → Int} {k : Int} (h0 : 0 ≤ k) (h1 : k < l.length) : My ((l.take (k + 1).toNat).map g) = max (My ((l.take k.toNat).map g)) (g (l[k.toNat]'(by omega))) := by
 unfold My;rw [BU h0 h1, Sf, List.foldl_append];rfl
theorem NS {a b : Int} (h : a = b) : [D.t (T.v (Value.int .i64 a))] = [D.t (T.int b)] := by rw [h]
theorem Jh (p : Prog) (fn : Int) (hp : p.ok 1048576) (hg : goodP p = true) (hr : roundP p = false) (hl : Lead (AE p) 0 fn) (hn0 : 0 ≤ fn) (hn1 : fn < p.funcs.length) (ih : ∀ n, n ∈ AE p fn → Fun Tryz.prog 42 [.t p.tt, .t (.int n)] (.t (.int (EA p n)))) : Fun Tryz.prog 42 [.t p.tt, .t (.int fn)] (Av [.t (.int (EA p fn))]) := by
 have hgl := AV hg
 have hcl := Bo p fn
 refine Fun.begin tys Tryz.func42 Z Z (N := 24) [(0, .t p.tt), (1, .t (.int fn))] Z Z (fun w0 G F0 => ?_);refine sG (AR Z Z (AA Z) Z Z (nZ Z (eZ Z (nA (eZ Z (nB (sQ (sG (eZ Z ?_)))))))))
 try refine WO_le (Le.freeze (u := 8) rfl) ?_
 refine nZ Z (eZ Z (A2 Z Z (AA Z) Z Z Z Z Z (Di p fn hp hg hn0 hn1) Z (evE ?_)));refine eZ Z (nB (AD ?_));refine lK (α := Int × Int) [2, 10, 11] [2] (fun x => [(12, .t (.int (x.1))), (5, .t (.int (x.2)))]) (fun x => []) (fun x => 0 ≤ (x.1) ∧ (x.1) ≤ (AE p fn).length ∧ 0 ≤ (x.2) ∧ (x.2) ≤ 5 ∧ (x.2) = My (((AE p fn).take (x.1).toNat).map (EA p))) (fun x => Int.toNat ((AE p fn).length - (x.1))) (0, 0) ?_ (fun x hx => ?_)
 ·exact ⟨by omega, by omega, by omega, by omega, rfl⟩
 obtain ⟨j, d⟩ := x
 obtain ⟨hj0, hj1, hd0, hd1, hd⟩ := hx
 dsimp only at hj0 hj1 hd0 hd1 hd ⊢;refine nY Z (sG (eZ Z (nB (sQ ?_))));refine AB Z (fun h1 => ?_) (fun h1 => ?_)
 ·
  simp only [HS] at h1;refine AC (tN (sQ (AD (sG ?_))));refine iY (k := ?_);refine eK 2 Z (nB (rG (eK 2 Z ?_)))
  try refine WO_le (Le.freeze (u := 17) rfl) ?_
  refine nZ Z (eZ Z (AJ ?_));refine ⟨_, ih _ (SJ _), rfl, ?_⟩;refine AJ ?_;refine ⟨_, HZ _ _, rfl, ?_⟩;refine kZ [2,5,7,10,11,12,13,14,15,16,17,18,19,20] Z (eZ Z (oN (bN (tN (rG (evI ?_))))));refine eZ Z (oN ?_);refine lQ (_, _) ?_ ?_
  ·dsimp only
   have hb := J0 hg ((AE p fn)[j.toNat]'(by omega))
   refine ⟨by omega, by omega, by omega, by omega, ?_⟩;rw [Nr hj0 (by omega), ← hd]
   all_goals omega
  ·(show Int.toNat _ < Int.toNat _); omega
 simp only [HS] at h1;refine AP (tE (AK (AI (tN (sG (eZ Z (evI ?_)))))));refine eZ Z (nB (rT (eR ?_)))
 ·refine NS ?_
  rw [Lv hg hr hl, hd, Af (by omega)]
theorem HH (p : Prog) (fn : Int) (hp : p.ok 1048576) (hg : goodP p = true) (hr : roundP p = false) (hl : Lead (AE p) 0 fn) (hn0 : 0 ≤ fn) (hn1 : fn < p.funcs.length) (ih : ∀ n, n ∈ AE p fn → Fun Tryz.prog 39 [.t p.tt, .t (.int n)] (.t (.int (EA p n)))) : Fun Tryz.prog 39 [.t p.tt, .t (.int fn)] (Av [.t (.int (EA p fn))]) := by
 have hgl := AV hg
 have hcl := Bo p fn
 refine Fun.begin tys Tryz.func39 Z Z (N := 27) [(0, .t p.tt), (1, .t (.int fn))] Z Z (fun w0 G F0 => ?_);refine sG (AR Z Z (AA Z) Z Z (nZ Z (eZ Z (nA (eZ Z (nB (sQ (sG (eK 3 Z ?_)))))))));refine iY (k := ?_);refine eZ Z ?_
 try refine WO_le (Le.freeze (u := 12) rfl) ?_
 refine nZ Z (AJ ?_);refine ⟨_, FP p fn hp hg _, rfl, ?_⟩;refine WO_le (Le.adoptE (u := 13) 13 Z (by first | exact Ia | exact Z)) ?_;refine nZ Z (kZ [2,4,5,13] Z (evE ?_));refine eZ Z (nB (AD ?_));refine lK (α := Int × Int) [2, 13, 14] [2, 13] (fun x => [(15, .t (.int (x.1))), (5, .t (.int (x.2)))]) (fun x => []) (fun x => 0 ≤ (x.1) ∧ (x.1) ≤ (AE p fn).length ∧ 0 ≤ (x.2) ∧ (x.2) ≤ 5 ∧ (x.2) = My (((AE p fn).take (x.1).toNat).map (EA p))) (fun x => Int.toNat ((AE p fn).length - (x.1))) (0, 0) ?_ (fun x hx => ?_)
 ·exact ⟨by omega, by omega, by omega, by omega, rfl⟩
 obtain ⟨j, d⟩ := x
 obtain ⟨hj0, hj1, hd0, hd1, hd⟩ := hx
 dsimp only at hj0 hj1 hd0 hd1 hd ⊢;refine nY Z (sG (eZ Z (nB (sQ ?_))));refine AB Z (fun h1 => ?_) (fun h1 => ?_)
 ·
  simp only [HS] at h1;refine AC (tN (sQ (AD (sG (Ac tys Z Z (AA Z) Z Z Z Z Z Z Z Z (by omega) (by omega) (AS tys Z Z (AA Z) Z Z Z Z (Dk _ _ (by omega) (by omega)) Z (eZ Z (nB (rG (eK 2 Z ?_))))))))))
  try refine WO_le (Le.freeze (u := 20) rfl) ?_
  refine nZ Z (eZ Z (AJ ?_));refine ⟨_, ih _ (SJ _), rfl, ?_⟩;refine eZ Z (kZ [2,5,7,13,14,15,16,17,18,19,20,21,22,23] Z (eZ Z (oN (bN (tN (rG (evI ?_)))))));refine eZ Z (oN ?_);refine lQ (_, _) ?_ ?_
  ·dsimp only
   have hb := J0 hg ((AE p fn)[j.toNat]'(by omega))
   refine ⟨by omega, by omega, by omega, by omega, ?_⟩;rw [Nr hj0 (by omega), ← hd]
   all_goals omega
  ·(show Int.toNat _ < Int.toNat _); omega
 simp only [HS] at h1;refine AP (tE (AK (AI (tN (sG (eZ Z (evI ?_)))))));refine eZ Z (nB (rT (eR ?_)))
 ·refine NS ?_
  rw [Lv hg hr hl, hd, Af (by omega)]
theorem Dq {p : Prog} (hg : goodP p = true) (hr : roundP p = false) {K : Int → Prop} (h : ∀ fn, Lead (AE p) 0 fn → 0 ≤ fn → fn < p.funcs.length → (∀ n, n ∈ AE p fn → K n) → K fn) :
  ∀ (k : Nat) (fn : Int), Lead (AE p) 0 fn → (reachP p fn).length ≤ k → K fn
 | 0, fn, hl, hk => by
  have hgl := AV hg
  have h1 := BW (Ax hg) (by omega) (by omega) hl
  have := Bk (Ax hg) h1.1 h1.2
  unfold reachP at hk; omega
 | k + 1, fn, hl, hk => by
  have hgl := AV hg
  have h1 := BW (Ax hg) (by omega) (by omega) hl
  refine h fn hl h1.1 h1.2 fun n hn => Dq hg hr h k n (.step hl hn) ?_
  have := FF (Ax hg) (by omega) hr hl hn
  unfold reachP at hk ⊢; omega
theorem Kj (p : Prog) (hp : p.ok 1048576) (hg : goodP p = true) (hr : roundP p = false) : Fun Tryz.prog 42 [.t p.tt, .t (.int 0)] (.t (.int (EA p 0))) :=
 Dq hg hr (K := fun n => Fun Tryz.prog 42 [.t p.tt, .t (.int n)] (.t (.int (EA p n)))) (fun fn hl h0 h1 ih => Jh p fn hp hg hr hl h0 h1 ih) _ 0 .refl (SR _)
theorem IH (p : Prog) (hp : p.ok 1048576) (hg : goodP p = true) (hr : roundP p = false) : Fun Tryz.prog 39 [.t p.tt, .t (.int 0)] (.t (.int (EA p 0))) :=
 Dq hg hr (K := fun n => Fun Tryz.prog 39 [.t p.tt, .t (.int n)] (.t (.int (EA p n)))) (fun fn hl h0 h1 ih => HH p fn hp hg hr hl h0 h1 ih) _ 0 .refl (SR _)
def A4 (p : Prog) : Bool := goodP p && !roundP p
def B8 (p : Prog) : Int := if A4 p then EA p 0 else 0
theorem Iw (p : Prog) (hp : p.ok 1048576) : Fun Tryz.prog 8 [.t p.tt] (Av [.t (.int (B8 p)), .t (.bool (A4 p))]) := by
  refine Fun.begin tys Tryz.func8 Z Z (N := 13) [(0, .t p.tt)] Z Z (fun w0 G F0 => ?_);refine sG (AR Z Z (AA Z) Z Z (nZ Z (eK 2 Z (nB (sQ (sG (eZ Z ?_)))))))
  try refine WO_le (Le.freeze (u := 4) rfl) ?_
  refine nZ Z (AJ ?_);refine ⟨_, BZ p hp, rfl, ?_⟩;refine eK 2 Z ?_;refine gB (fun h1 => ?_) (fun h1 => ?_)
  ·
    simp only [HS] at h1;refine xK 2 Z (kZ [1,2,3,10] Z (nB (Ab Z (sG (eK 2 Z (nB (rT (tR (eR ?_)))))))))
    · have e : A4 p = (goodP p && !roundP p) := rfl
      first
      | (have e1 : A4 p = false := (by rw [A4, h1]; rfl)
         exact MB (by rw [B8, e1]; rfl) e1.symm)
  simp only [HS] at h1;refine eZ Z ?_
  try refine WO_le (Le.freeze (u := 8) rfl) ?_
  refine nZ Z (gY Z (AJ ?_));refine ⟨_, Dh p hp h1, rfl, ?_⟩;refine kZ [1,2,3,7,9] Z (eZ Z (nB ?_));refine AB Z (fun h2 => ?_) (fun h2 => ?_)
  ·
    refine sG (eK 2 Z (nB (rT (tR (eR ?_)))))
    · have e : A4 p = (goodP p && !roundP p) := rfl
      first
      | (have e1 : A4 p = false := (by rw [A4, h2]; simp)
         exact MB (by rw [B8, e1]; rfl) e1.symm)
  refine AC (tN (sG (eZ Z ?_)))
  try refine WO_le (Le.freeze (u := 11) rfl) ?_
  refine nZ Z (AJ ?_);refine ⟨_, Kj p hp h1 h2, rfl, ?_⟩;refine eK 2 Z (nB (rT (eR ?_)))
  · have e : A4 p = (goodP p && !roundP p) := rfl
    first
    | (have e1 : A4 p = true := (by rw [A4, h1, h2]; rfl)
       exact MB (by rw [B8, e1]; rfl) e1.symm)
theorem Jm (p : Prog) (hp : p.ok 1048576) : Fun Tryz.prog 7 [.t p.tt] (Av [.t (.int (B8 p)), .t (.bool (A4 p))]) := by
  refine Fun.begin tys Tryz.func7 Z Z (N := 13) [(0, .t p.tt)] Z Z (fun w0 G F0 => ?_);refine sG (AR Z Z (AA Z) Z Z (nZ Z (eK 2 Z (nB (sQ (sG (eZ Z ?_)))))))
  try refine WO_le (Le.freeze (u := 4) rfl) ?_
  refine nZ Z (AJ ?_);refine ⟨_, CP p hp, rfl, ?_⟩;refine eK 2 Z ?_;refine gB (fun h1 => ?_) (fun h1 => ?_)
  ·
    simp only [HS] at h1;refine xK 2 Z (kZ [1,2,3,10] Z (nB (Ab Z (sG (eK 2 Z (nB (rT (tR (eR ?_)))))))))
    · have e : A4 p = (goodP p && !roundP p) := rfl
      first
      | (have e1 : A4 p = false := (by rw [A4, h1]; rfl)
         exact MB (by rw [B8, e1]; rfl) e1.symm)
  simp only [HS] at h1;refine eZ Z ?_
  try refine WO_le (Le.freeze (u := 8) rfl) ?_
  refine nZ Z (gY Z (AJ ?_));refine ⟨_, Dj p hp h1, rfl, ?_⟩;refine kZ [1,2,3,7,9] Z (eZ Z (nB ?_));refine AB Z (fun h2 => ?_) (fun h2 => ?_)
  ·
    refine sG (eK 2 Z (nB (rT (tR (eR ?_)))))
    · have e : A4 p = (goodP p && !roundP p) := rfl
      first
      | (have e1 : A4 p = false := (by rw [A4, h2]; simp)
         exact MB (by rw [B8, e1]; rfl) e1.symm)
  refine AC (tN (sG (eZ Z ?_)))
  try refine WO_le (Le.freeze (u := 11) rfl) ?_
  refine nZ Z (AJ ?_);refine ⟨_, IH p hp h1 h2, rfl, ?_⟩;refine eK 2 Z (nB (rT (eR ?_)))
  · have e : A4 p = (goodP p && !roundP p) := rfl
    first
    | (have e1 : A4 p = true := (by rw [A4, h1, h2]; rfl)
       exact MB (by rw [B8, e1]; rfl) e1.symm)
def Qb (p : Prog) (fn : Int) : Int := 1 + (funcAt p fn).stmts.length
def Al (p : Prog) (fn : Int) : Int := P5 (Qb p) p.funcs.length (FE p) fn
theorem LP (p : Prog) (fn : Int) : 0 ≤ Qb p fn := by unfold Qb; omega
theorem Dm (p : Prog) (fn : Int) : 0 ≤ Al p fn ∧ Al p fn ≤ 100001 := Gh (LP p) _ _ _
def ER (g : Int → Int) (l : List Int) : Int := (l.map g).sum
theorem Br (g : Int → Int) (a b : List Int) : ER g (a ++ b) = ER g a + ER g b := by unfold ER; rw [Sf, List.sum_append]
theorem Fl (g : Int → Int) (x : Int) : ER g [x] = g x := by simp [ER]
theorem Dv (g : Int → Int) : ER g [] = 0 := rfl
theorem K7 (p : Prog) (l : List Int) : 0 ≤ ER (Al p) l := by
 unfold ER
 exact Cx fun x hx => by
  obtain ⟨n, _, rfl⟩ := Sq.1 hx
  exact (Dm p n).1
theorem GS {p : Prog} (hg : goodP p = true) {f n : Int} (h : n ∈ FE p f) : n ∈ AE p f := by
 have hgl := AV hg
 have := FD hg f n h
 exact mem_setN.2 ⟨⟨this.1, by omega⟩, h⟩
theorem Fw {p : Prog} (hg : goodP p = true) (hr : roundP p = false) {fn : Int} (hl : Lead (AE p) 0 fn) : Al p fn = min (Qb p fn + ER (Al p) (FE p fn)) 100001 :=
 P4 (fun f n h => GS hg h) (Ax hg) (by have := AV hg; omega) hr hl
theorem L6 (l : List Stmt) (k : Int) (g : Int → Int) : ER g (EP l) = ER g (EP (l.take k.toNat)) + ER g (EP (l.drop k.toNat)) := by
 rw [← Br]; unfold EP; rw [← TA, S4]
def tab (N : Nat) (g : Int → Int) : List T := (CL N).map fun n => T.int (g n)
theorem GB (N : Nat) (g : Int → Int) : (tab N g).length = N := by rw [tab, SE, Ar]
theorem Q6 {N : Nat} {g : Int → Int} {n : Int} (h0 : 0 ≤ n) (h1 : n < N) : (tab N g)[0 + n.toNat]? = some (T.int (g n)) := by
 rw [SS, tab, List.getElem?_map, List.getElem?_eq_getElem (by rw [Ar]; omega), Cp (by rw [Ar]; omega)];simp only [TD];rw [show ((n.toNat : Nat) : Int) = n from by omega]
theorem Q5 {N : Nat} {g : Int → Int} {n v : Int} (h0 : 0 ≤ n) (h1 : n < N) : (tab N g).set n.toNat (T.int v) = tab N fun x => if x = n then v else g x := by
 refine List.ext_getElem (by rw [Sv, GB, GB]) fun k h2 h3 => ?_
 rw [GB] at h3;rw [List.getElem_set];simp only [tab, List.getElem_map];rw [Cp (by rw [Ar]; exact h3)];split
 ·rename_i e; rw [if_pos (by omega)]
 ·rename_i e; rw [if_neg (by omega)]
theorem PG (N : Nat) : List.replicate N (T.int 0) = tab N fun _ => 0 := by
 refine List.ext_getElem (by rw [GB]; simp) fun k h1 h2 => ?_
 simp [tab]
theorem Im {N : Nat} {g h : Int → Int} (e : ∀ x : Int, 0 ≤ x → x < N → g x = h x) : tab N g = tab N h :=
 List.map_congr_left fun x hx => by rw [e x (mem_upto.1 hx).1 (mem_upto.1 hx).2]
theorem Jg (p : Prog) (fn : Int) (hp : p.ok 1048576) (hg : goodP p = true) (hr : roundP p = false) (hl : Lead (AE p) 0 fn) (hn0 : 0 ≤ fn) (hn1 : fn < p.funcs.length) (ih : ∀ n, n ∈ AE p fn → Fun Tryz.prog 47 [.t p.tt, .t (.int n)] (.t (.int (Al p n)))) : Fun Tryz.prog 47 [.t p.tt, .t (.int fn)] (Av [.t (.int (Al p fn))]) := by
  have hgl := AV hg
  have hff := Be hp (n := fn.toNat) (by omega)
  have hgf := CH hg (n := fn.toNat) (by omega)
  have hsl := Ge hgf
  have hfe := Fw hg hr hl
  have hq : ∀ x, x ∈ EP (funcAt p fn).stmts → Fun Tryz.prog 47 [.t p.tt, .t (.int x)] (.t (.int (Al p x))) := fun x hx => ih x (GS hg hx)
  unfold FE Qb at hfe;rw [← Ay (by omega)] at hfe hq;refine Fun.begin tys Tryz.func47 Z Z (N := 59) [(0, .t p.tt), (1, .t (.int fn))] Z Z (fun w0 G F0 => ?_);refine sG (AR Z Z (AA Z) Z Z (nZ Z (eZ Z (nA (eK 3 Z ?_)))));refine iY (k := ?_);refine eK 2 Z (evE ?_);refine kZ [1,2,4,16] Z ?_;generalize hf0 : p.funcs[fn.toNat]'(by omega) = f at hff hgf hfe hq hsl ⊢;refine evI ?_;refine eZ Z (nB (sQ (sG (eK 3 Z ?_))));refine iY (k := ?_);rw [hf0];refine eK 2 Z (evE ?_);refine kZ [2,4,5,23,24] Z (eZ Z (nB (AD ?_)));refine lK (α := Int × Int) [2, 23, 24] [2] (fun x => [(25, .t (.int (x.1))), (5, .t (.int (x.2)))]) (fun x => []) (fun x => 0 ≤ (x.1) ∧ (x.1) ≤ f.stmts.length ∧ 0 ≤ (x.2) ∧ (x.2) ≤ 100000 ∧ (x.2) = 1 + f.stmts.length + ER (Al p) (EP (f.stmts.take (x.1).toNat))) (fun x => Int.toNat (f.stmts.length - (x.1))) (0, 1 + f.stmts.length) ?_ (fun x hx => ?_)
  · exact ⟨by omega, by omega, by omega, by omega, by rw [show f.stmts.take (0 : Int).toNat = [] from rfl]; show _ = _ + ER _ []; rw [Dv]; omega⟩
  obtain ⟨k, b⟩ := x
  obtain ⟨hk0, hk1, hb0, hb1, hb⟩ := hx
  dsimp only at hk0 hk1 hb0 hb1 hb ⊢;refine nY Z (sG (eZ Z (nB (sQ ?_))));refine AB Z (fun h1 => ?_) (fun h1 => ?_)
  ·
    simp only [HS] at h1;refine AC (tN (sQ (AD (sG ?_))));refine iY (k := ?_);refine eZ Z ?_
    try refine WO_le (Le.freeze (u := 28) rfl) ?_
    refine nZ Z (AL tys Z Z (AA Z) Z Z Z (nZ Z (sT Z (nZ Z (nB (sQ (sG (eK 3 Z (nB ?_)))))))));refine As (α := Int) [2, 7, 23, 24, 25, 26, 27, 28, 29, 30, 31] [2, 7] (fun x => [(5, .t (.int x))]) (fun x => []) (fun x => x = b + ER (Al p) (d3 (f.stmts[k.toNat]'(by omega))) ∧ 0 ≤ x ∧ x ≤ 200001) ?_ (fun c hx => ?_)
    ·
      refine AB Z (fun h2 => ?_) (fun h2 => ?_)
      ·
        simp only [HS] at h2;refine kY [2,5,7,23,24,25,26,27,28,29,30,31] Z (rG (eK 2 Z ?_))
        try refine WO_le (Le.freeze (u := 33) rfl) ?_
        refine nZ Z (eK 2 Z (AJ ?_));refine ⟨_, hq _ (Sc.2 ⟨_, SJ _, Sj _ (by rw [d3, if_pos (by assumption)]; exact SN.2 Z)⟩), rfl, ?_⟩
        have hb := Dm p (f.stmts[k.toNat]'(by omega)).n
        refine evI ?_;refine eZ Z (oN (jQ _ ?_))
        first
        | (refine ⟨?_, by omega, by omega⟩; rw [d3, if_pos h2, Fl]; done)
      simp only [HS] at h2;refine AC (jQ _ ?_)
      first
      | (refine ⟨?_, by omega, by omega⟩; rw [d3, if_neg h2, Dv]; omega)
    obtain ⟨hc, hc0, hc1⟩ := hx
    refine tN (sQ (sQ (kY [2,5,7,23,24,25,26,27,28,29,30,31] Z (rG ?_))))
    have hel : (f.stmts[k.toNat]'(by omega)).ex.length ≤ 12 := GC (Cn hgf _)
    refine eK 2 Z (evE ?_);refine eZ Z (nB (AD ?_));refine lK (α := Int × Int) [2, 23, 24, 25, 39, 40] [2] (fun x => [(41, .t (.int (x.1))), (5, .t (.int (x.2)))]) (fun x => []) (fun x => 0 ≤ (x.1) ∧ (x.1) ≤ (f.stmts[k.toNat]'(by omega)).ex.length ∧ 0 ≤ (x.2) ∧ (x.2) ≤ 200001 + 100001 * (x.1) ∧ (x.2) = c + ER (Al p) (G3 ((f.stmts[k.toNat]'(by omega)).ex.take (x.1).toNat))) (fun x => Int.toNat ((f.stmts[k.toNat]'(by omega)).ex.length - (x.1))) (0, c) ?_ (fun x hx => ?_)
    · exact ⟨by omega, by omega, by omega, by omega, by show _ = _ + ER _ []; rw [Dv]; omega⟩
    obtain ⟨j, d⟩ := x
    obtain ⟨hj0, hj1, hd0, hd1, hd⟩ := hx
    dsimp only at hj0 hj1 hd0 hd1 hd ⊢;refine nY Z (sG (eZ Z (nB (sQ ?_))));refine AB Z (fun h2 => ?_) (fun h2 => ?_)
    ·
      simp only [HS] at h2;refine AC (tN (sQ (AD (sG ?_))));refine iY (k := ?_);refine eZ Z ?_
      try refine WO_le (Le.freeze (u := 44) rfl) ?_
      refine nZ Z (AL tys Z Z (AA Z) Z Z Z (nZ Z (sT Z (nZ Z (nA (eK 3 Z (nB ?_)))))));refine AB Z (fun h3 => ?_) (fun h3 => ?_)
      ·
        simp only [HS] at h3;refine kY [2,5,9,23,24,25,39,40,41,42,43,44,45,46,47] Z (rG (eK 2 Z ?_))
        try refine WO_le (Le.freeze (u := 49) rfl) ?_
        refine nZ Z (eK 2 Z (AJ ?_));refine ⟨_, hq _ (Sc.2 ⟨_, SJ _, Sk _ (Sq.2 ⟨_, List.mem_filter.2 ⟨SJ _, by simpa using h3⟩, rfl⟩)⟩), rfl, ?_⟩
        have hb := Dm p ((f.stmts[k.toNat]'(by omega)).ex[j.toNat]'(by omega)).n
        refine evI ?_;refine eZ Z (oN (bN (tN (kY [2,5,9,23,24,25,39,40,41,42,43,44,45,46,47,48,49,50,51,52,53] Z (rG (evI ?_))))));refine eZ Z (oN ?_);refine lQ (_, _) ?_ ?_
        · dsimp only
          first
          | (refine ⟨by omega, by omega, by omega, by omega, ?_⟩; rw [Dc hj0 (by omega), if_pos h3, Br, Fl, hd]; omega)
        · (show Int.toNat _ < Int.toNat _); omega
      simp only [HS] at h3;refine AC (bN (tN (kY [2,5,9,23,24,25,39,40,41,42,43,44,45,46,47] Z (rG (evI ?_)))));refine eZ Z (oN ?_);refine lQ (_, _) ?_ ?_
      · dsimp only
        first
        | (refine ⟨by omega, by omega, by omega, by omega, ?_⟩; rw [Dc hj0 (by omega), if_neg h3, SW, hd]; done)
      · (show Int.toNat _ < Int.toNat _); omega
    simp only [HS] at h2;refine AP (tE (AK (AI (tN (sG (eK 2 Z (nB ?_)))))));refine AB Z (fun h3 => ?_) (fun h3 => ?_)
    ·
      simp only [HS] at h3;refine sG (eZ Z (nB (rT (bR (tR (AO (bR (tR (eR ?_)))))))))
      · refine NS ?_
        rw [hfe]
        first
        | (have e := L6 f.stmts (k + 1) (Al p)
           have e2 := K7 p (EP (f.stmts.drop (k + 1).toNat))
           rw [GF hk0 (by omega), Br, Br] at e;rw [Af (l := (f.stmts[k.toNat]'(by omega)).ex) (k := j) (by omega)] at hd
           omega)
    simp only [HS] at h3;refine AC (bN (tN (rG (evI ?_))));refine eZ Z (oN ?_);refine lQ (_, _) ?_ ?_
    · dsimp only
      refine ⟨by omega, by omega, by omega, by omega, ?_⟩;rw [GF hk0 (by omega), Br, Br];rw [Af (l := (f.stmts[k.toNat]'(by omega)).ex) (k := j) (by omega)] at hd;omega
    · (show Int.toNat _ < Int.toNat _); omega
  simp only [HS] at h1;refine AP (tE (AK (AI (tN (sG (eK 2 Z (nB (rT (eR ?_)))))))))
  · refine NS ?_
    rw [hfe]
    first
    | (rw [Af (by omega)] at hb; omega)
def bndG (p : Prog) (l : List Int) (x : Int) : Int := if x ∈ l then Al p x else 0
theorem Oa {p : Prog} {ws : List T} {l : List Int} {N : Nat} (hws : ws = tab N (bndG p l)) {n : Int} (hn : n ∈ l) (h0 : 0 ≤ n) (h1 : n < N) : ws[0 + n.toNat]? = some (T.int (Al p n)) := by
 rw [hws, Q6 h0 h1, bndG, if_pos hn]
theorem HF (p : Prog) (fn : Int) (hp : p.ok 1048576) (hg : goodP p = true) (hr : roundP p = false) (hl : Lead (AE p) 0 fn) (hn0 : 0 ≤ fn) (hn1 : fn < p.funcs.length) (ih : ∀ n, n ∈ AE p fn → Fun Tryz.prog 45 [.t p.tt, .t (.int n)] (.t (.int (Al p n)))) : Fun Tryz.prog 45 [.t p.tt, .t (.int fn)] (Av [.t (.int (Al p fn))]) := by
 have hgl := AV hg
 have hin := Ax hg
 have hff := Be hp (n := fn.toNat) (by omega)
 have hgf := CH hg (n := fn.toNat) (by omega)
 have hsl := Ge hgf
 have hcl := Bo p fn
 have hfe := Fw hg hr hl
 have hq : ∀ x, x ∈ EP (funcAt p fn).stmts → x ∈ AE p fn := fun x hx => GS hg hx
 have hco := FP p fn hp hg (by omega)
 unfold FE Qb at hfe;rw [← Ay (by omega)] at hfe hq;refine Fun.begin tys Tryz.func45 Z Z (N := 79) [(0, .t p.tt), (1, .t (.int fn))] Z Z (fun w0 G F0 => ?_);refine sG (AR Z Z (AA Z) Z Z (nZ Z (eZ Z (nA (eK 3 Z ?_)))));refine iY (k := ?_);generalize hf0 : p.funcs[fn.toNat]'(by omega) = f at hff hgf hfe hq hsl hco ⊢;refine eZ Z ?_
 try refine WO_le (Le.freeze (u := 18) rfl) ?_
 refine nZ Z (AL tys Z Z (AA Z) Z Z Z (nZ Z (sT Z (nZ Z (kZ [2,4,5] Z (nA (eK 2 Z (evE ?_))))))));refine FQ tys (.v (.int .i64 0)) _ Z Z (AA Z) Z Z Z Z Z (by repeat (first | exact AbsL.nil' | refine AbsL.v' ?_ | refine AbsL.none' ?_)) Z (by omega) (by decide) ?_;refine nZ Z (eZ Z (nB (sQ (sG (eZ Z ?_)))))
 try refine WO_le (Le.freeze (u := 23) rfl) ?_
 refine nZ Z (AJ ?_);refine ⟨_, hco, rfl, ?_⟩;refine WO_le (Le.adoptE (u := 24) 24 Z (by first | exact Ia | exact Z)) ?_;refine nZ Z (evE ?_);refine eZ Z (kZ [2,4,5,6,24,25,26] Z (nB (AD ?_)));refine lK (α := Int × List T) [2, 5, 24, 25] [2, 5, 24] (fun x => [(26, .t (.int (x.1))), (6, .sl 22 0 p.funcs.length)]) (fun x => [(22, .L 1 (x.2))]) (fun x => 0 ≤ (x.1) ∧ (x.1) ≤ (AE p fn).length ∧ (x.2) = tab p.funcs.length (bndG p ((AE p fn).take (x.1).toNat))) (fun x => Int.toNat ((AE p fn).length - (x.1))) (0, List.replicate p.funcs.length (T.int 0)) ?_ (fun x hx => ?_)
 ·exact ⟨by omega, by omega, by rw [PG]; exact Im fun x _ _ => by simp [bndG]⟩
 obtain ⟨i, ws⟩ := x
 obtain ⟨hi0, hi1, hws⟩ := hx
 dsimp only at hi0 hi1 hws ⊢;refine nY Z (sG (eZ Z (nB (sQ ?_))));refine AB Z (fun h1 => ?_) (fun h1 => ?_)
 ·
  simp only [HS] at h1;refine AC (tN (sQ (AD (sG (Ac tys Z Z (AA Z) Z Z Z Z Z Z Z Z (by omega) (by omega) ?_)))))
  have hnc : (AE p fn)[i.toNat]'(by omega) ∈ AE p fn := SJ _
  have hni := hin _ _ hnc
  have hwl : ws.length = p.funcs.length := by rw [hws, GB]
  refine AS tys Z Z (AA Z) Z Z Z Z (Dk _ _ (by omega) (by omega)) Z (eZ Z (nB (rG (eK 3 Z ?_))))
  try refine WO_le (Le.freeze (u := 32) rfl) ?_
  refine nZ Z (eZ Z (AJ ?_));refine ⟨_, ih _ (SJ _), rfl, ?_⟩;refine kZ [2,5,6,8,24,25,26,27,28,29,30,31,32,33,34] Z (Ac tys Z Z (AA Z) Z Z Z Z Z Z Z Z (by omega) (by omega) ?_);refine B5 tys (T.int (Al p ((AE p fn)[i.toNat]'(by omega)))) Z Z Z Z Z Z (by first | exact SS _ | rfl) (by omega) Z (by repeat (first | exact AbsL.nil' | refine AbsL.v' ?_ | refine AbsL.own' ?_)) Z Z Z ?_;refine nZ Z (oN (bN (tN (rG (evI ?_)))));refine eZ Z (oN ?_);refine lQ (_, _) ?_ ?_
  ·dsimp only
   refine ⟨by omega, by omega, ?_⟩;rw [hws, Q5 hni.1 hni.2]
   refine Im fun x _ _ => ?_
   unfold bndG;rw [BU hi0 (by omega)]
   by_cases hx : x = (AE p fn)[i.toNat]'(by omega)
   ·rw [if_pos hx, if_pos (by rw [hx]; exact Sk _ (SN.2 rfl)), hx]
   ·rw [if_neg hx]
    simp only [SF, SN, hx, or_false]
  ·(show Int.toNat _ < Int.toNat _); omega
 simp only [HS] at h1;refine AP (tE (AK (AI (tN (sG (eK 2 Z (evE ?_)))))));refine evI ?_;refine eZ Z (nB (sQ (sG (eK 2 Z (evE ?_)))));refine kZ [6,9,42,43] Z (eZ Z (nB (AD ?_)));refine lK (α := Int × Int) [6, 42, 43] [22] (fun x => [(44, .t (.int (x.1))), (9, .t (.int (x.2)))]) (fun x => []) (fun x => 0 ≤ (x.1) ∧ (x.1) ≤ f.stmts.length ∧ 0 ≤ (x.2) ∧ (x.2) ≤ 17 + 1300013 * (x.1) ∧ (x.2) = 1 + f.stmts.length + ER (Al p) (EP (f.stmts.take (x.1).toNat))) (fun x => Int.toNat (f.stmts.length - (x.1))) (0, 1 + f.stmts.length) ?_ (fun x hx => ?_)
 ·exact ⟨by omega, by omega, by omega, by omega, by rw [show f.stmts.take (0 : Int).toNat = [] from rfl]; show _ = _ + ER _ []; rw [Dv]; omega⟩
 obtain ⟨k, b⟩ := x
 obtain ⟨hk0, hk1, hb0, hb1, hb⟩ := hx
 dsimp only at hk0 hk1 hb0 hb1 hb ⊢;refine nY Z (sG (eZ Z (nB (sQ ?_))));refine AB Z (fun h2 => ?_) (fun h2 => ?_)
 ·
  simp only [HS] at h2;refine AC (tN (sQ (AD (sG ?_))));refine iY (k := ?_);refine eZ Z ?_
  try refine WO_le (Le.freeze (u := 47) rfl) ?_
  refine nZ Z (AL tys Z Z (AA Z) Z Z Z (nZ Z (sT Z (nZ Z (nB (sQ (sG (eK 3 Z (nB ?_)))))))));refine As (α := Int) [6, 11, 42, 43, 44, 45, 46, 47, 48, 49, 50] [11, 22] (fun x => [(9, .t (.int x))]) (fun x => []) (fun x => x = b + ER (Al p) (d3 (f.stmts[k.toNat]'(by omega))) ∧ 0 ≤ x ∧ x ≤ 17 + 1300013 * k + 100001) ?_ (fun c hx => ?_)
  ·
   refine AB Z (fun h3 => ?_) (fun h3 => ?_)
   ·
    simp only [HS] at h3;refine kY [6,9,11,42,43,44,45,46,47,48,49,50] Z (rG ?_)
    have hnq := hq _ (Sc.2 ⟨_, SJ (l := f.stmts) (n := k.toNat) (by omega), Sj _ (by rw [d3, if_pos h3]; exact SN.2 rfl)⟩)
    have hni := hin _ _ hnq
    refine eK 4 Z (Ac tys Z Z (AA Z) Z Z Z Z Z Z Z Z (by omega) (by omega) (AS tys Z Z (AA Z) Z Z Z Z (Oa hws (by rw [Af (l := AE p fn) (by omega)]; exact hnq) hni.1 hni.2) Z ?_))
    have hb := Dm p (f.stmts[k.toNat]'(by omega)).n
    refine evI ?_;refine eZ Z (oN (jQ _ ?_))
    first
    | (refine ⟨?_, by omega, by omega⟩; rw [d3, if_pos h3, Fl]; done)
   simp only [HS] at h3;refine AC (jQ _ ?_)
   first
   | (refine ⟨?_, by omega, by omega⟩; rw [d3, if_neg h3, Dv]; omega)
  obtain ⟨hc, hc0, hc1⟩ := hx
  refine tN (sQ (kY [6,9,11,42,43,44,45,46,47,48,49,50] Z (rG ?_)))
  have hel : (f.stmts[k.toNat]'(by omega)).ex.length ≤ 12 := GC (Cn hgf _)
  refine eK 2 Z (evE ?_);refine eZ Z (nB (AD ?_));refine lK (α := Int × Int) [6, 42, 43, 44, 59, 60] [22] (fun x => [(61, .t (.int (x.1))), (9, .t (.int (x.2)))]) (fun x => []) (fun x => 0 ≤ (x.1) ∧ (x.1) ≤ (f.stmts[k.toNat]'(by omega)).ex.length ∧ 0 ≤ (x.2) ∧ (x.2) ≤ 17 + 1300013 * k + 100001 + 100001 * (x.1) ∧ (x.2) = c + ER (Al p) (G3 ((f.stmts[k.toNat]'(by omega)).ex.take (x.1).toNat))) (fun x => Int.toNat ((f.stmts[k.toNat]'(by omega)).ex.length - (x.1))) (0, c) ?_ (fun x hx => ?_)
  ·exact ⟨by omega, by omega, by omega, by omega, by show _ = _ + ER _ []; rw [Dv]; omega⟩
  obtain ⟨j, d⟩ := x
  obtain ⟨hj0, hj1, hd0, hd1, hd⟩ := hx
  dsimp only at hj0 hj1 hd0 hd1 hd ⊢;refine nY Z (sG (eZ Z (nB (sQ ?_))));refine AB Z (fun h3 => ?_) (fun h3 => ?_)
  ·
   simp only [HS] at h3;refine AC (tN (sQ (AD (sG ?_))));refine iY (k := ?_);refine eZ Z ?_
   try refine WO_le (Le.freeze (u := 64) rfl) ?_
   refine nZ Z (AL tys Z Z (AA Z) Z Z Z (nZ Z (sT Z (nZ Z (nA (eK 3 Z (nB ?_)))))));refine AB Z (fun h4 => ?_) (fun h4 => ?_)
   ·
    simp only [HS] at h4;refine kY [6,9,13,42,43,44,59,60,61,62,63,64,65,66,67] Z (rG ?_)
    have hnq := hq _ (Sc.2 ⟨_, SJ (l := f.stmts) (n := k.toNat) (by omega), Sk _ (Sq.2 ⟨_, List.mem_filter.2 ⟨SJ (l := (f.stmts[k.toNat]'(by omega)).ex) (n := j.toNat) (by omega), by simpa using h4⟩, rfl⟩)⟩)
    have hni := hin _ _ hnq
    refine eK 4 Z (Ac tys Z Z (AA Z) Z Z Z Z Z Z Z Z (by omega) (by omega) (AS tys Z Z (AA Z) Z Z Z Z (Oa hws (by rw [Af (l := AE p fn) (by omega)]; exact hnq) hni.1 hni.2) Z ?_))
    have hb := Dm p ((f.stmts[k.toNat]'(by omega)).ex[j.toNat]'(by omega)).n
    refine evI ?_;refine eZ Z (oN (bN (tN (kY [6,9,13,42,43,44,59,60,61,62,63,64,65,66,67,68,69,70,71,72,73,74] Z (rG (evI ?_))))));refine eZ Z (oN ?_);refine lQ (_, _) ?_ ?_
    ·dsimp only
     first
     | (refine ⟨by omega, by omega, by omega, by omega, ?_⟩; rw [Dc hj0 (by omega), if_pos h4, Br, Fl, hd]; omega)
    ·(show Int.toNat _ < Int.toNat _); omega
   simp only [HS] at h4;refine AC (bN (tN (kY [6,9,13,42,43,44,59,60,61,62,63,64,65,66,67] Z (rG (evI ?_)))));refine eZ Z (oN ?_);refine lQ (_, _) ?_ ?_
   ·dsimp only
    first
    | (refine ⟨by omega, by omega, by omega, by omega, ?_⟩; rw [Dc hj0 (by omega), if_neg h4, SW, hd]; done)
   ·(show Int.toNat _ < Int.toNat _); omega
  simp only [HS] at h3;refine AP (tE (AK (AI (bN (tN (rG (evI ?_)))))));refine eZ Z (oN ?_);refine lQ (_, _) ?_ ?_
  ·dsimp only
   refine ⟨by omega, by omega, by omega, by omega, ?_⟩;rw [GF hk0 (by omega), Br, Br];rw [Af (l := (f.stmts[k.toNat]'(by omega)).ex) (k := j) (by omega)] at hd;omega
  ·(show Int.toNat _ < Int.toNat _); omega
 simp only [HS] at h2;refine AP (tE (AK (AI (tN (sG (eK 3 Z (nB (rT (eR ?_)))))))))
 ·refine NS ?_
  rw [hfe];rw [Af (by omega)] at hb;omega
theorem GZ (p : Prog) (hp : p.ok 1048576) (hg : goodP p = true) (hr : roundP p = false) : Fun Tryz.prog 47 [.t p.tt, .t (.int 0)] (.t (.int (Al p 0))) :=
 Dq hg hr (K := fun n => Fun Tryz.prog 47 [.t p.tt, .t (.int n)] (.t (.int (Al p n)))) (fun fn hl h0 h1 ih => Jg p fn hp hg hr hl h0 h1 ih) _ 0 .refl (SR _)
theorem H8 (p : Prog) (hp : p.ok 1048576) (hg : goodP p = true) (hr : roundP p = false) : Fun Tryz.prog 45 [.t p.tt, .t (.int 0)] (.t (.int (Al p 0))) :=
 Dq hg hr (K := fun n => Fun Tryz.prog 45 [.t p.tt, .t (.int n)] (.t (.int (Al p n)))) (fun fn hl h0 h1 ih => HF p fn hp hg hr hl h0 h1 ih) _ 0 .refl (SR _)
def fuelOk (p : Prog) : Bool := goodP p && (!roundP p && (!(Mh p fun s => decide (s.kind = 8)) && decide (Al p 0 ≤ 100000)))
def Cr (p : Prog) : Int := if fuelOk p then Al p 0 else 0
theorem Bs {p : Prog} {n : Int} {b : Bool} (e : fuelOk p = b) (h : n = if b then Al p 0 else 0) : [D.t (T.v (Value.int .i64 n)), D.t (T.v (Value.bool b))] = [D.t (T.int (Cr p)), D.t (T.bool (fuelOk p))] := by
 rw [Cr, e, h]
theorem Iv (p : Prog) (hp : p.ok 1048576) : Fun Tryz.prog 12 [.t p.tt] (Av [.t (.int (Cr p)), .t (.bool (fuelOk p))]) := by
 refine Fun.begin tys Tryz.func12 Z Z (N := 22) [(0, .t p.tt)] Z Z (fun w0 G F0 => ?_);refine sG (AR Z Z (AA Z) Z Z (nZ Z (eK 2 Z (nB (sQ (sG (eZ Z ?_)))))))
 try refine WO_le (Le.freeze (u := 4) rfl) ?_
 refine nZ Z (AJ ?_);refine ⟨_, BZ p hp, rfl, ?_⟩;refine eK 2 Z ?_;refine gB (fun h1 => ?_) (fun h1 => ?_)
 ·
  simp only [HS] at h1;refine xK 2 Z (kZ [1,2,3,10] Z (xK 9 Z (kZ [1,2,3,19] Z (nB (Ab Z (sG (eK 2 Z (nB (rT (tR (eR ?_)))))))))))
  ·first
   | exact Bs (by rw [fuelOk, h1]; rfl) rfl
 simp only [HS] at h1;refine eZ Z ?_
 try refine WO_le (Le.freeze (u := 8) rfl) ?_
 refine nZ Z (gY Z (AJ ?_));refine ⟨_, Dh p hp h1, rfl, ?_⟩;refine kZ [1,2,3,7,9] Z (eK 2 Z ?_);refine gB (fun h2 => ?_) (fun h2 => ?_)
 ·
  simp only [HS] at h2;refine xK 7 Z (kZ [1,2,3,19] Z (nB (Ab Z (sG (eK 2 Z (nB (rT (tR (eR ?_)))))))))
  ·first
   | exact Bs (by rw [fuelOk, h1, h2]; rfl) rfl
 refine eZ Z ?_
 try refine WO_le (Le.freeze (u := 12) rfl) ?_
 refine nZ Z (gY Z (AJ ?_));refine ⟨_, Ha p 8 (-1) hp h1, rfl, ?_⟩;refine eK 2 Z ?_;refine gB (fun h3 => ?_) (fun h3 => ?_)
 ·
  simp only [HS] at h3;refine xK 3 Z (kZ [1,2,3,19] Z (nB (Ab Z (sG (eK 2 Z (nB (rT (tR (eR ?_)))))))))
  ·first
   | exact Bs (by rw [fuelOk, h1, h2, ← Fs h1, h3]; rfl) rfl
 refine eZ Z ?_
 try refine WO_le (Le.freeze (u := 16) rfl) ?_
 refine nZ Z (gY Z (AJ ?_));refine ⟨_, GZ p hp h1 h2, rfl, ?_⟩;refine xZ Z (kZ [1,2,3,15,18] Z (eZ Z (nB ?_)));refine AB Z (fun h4 => ?_) (fun h4 => ?_)
 ·
  simp only [HS] at h4;refine sG (eK 2 Z (nB (rT (tR (eR ?_)))))
  ·first
   | exact Bs (by rw [fuelOk, h1, h2, ← Fs h1, h3, decide_eq_false (by omega)]; rfl) rfl
 simp only [HS] at h4;refine AC (tN (sG (eZ Z ?_)))
 try refine WO_le (Le.freeze (u := 20) rfl) ?_
 refine nZ Z (AJ ?_);refine ⟨_, GZ p hp h1 h2, rfl, ?_⟩;refine eK 2 Z (nB (rT (eR ?_)))
 ·first
  | exact Bs (by rw [fuelOk, h1, h2, ← Fs h1, h3, decide_eq_true (by omega)]; rfl) rfl
theorem Jl (p : Prog) (hp : p.ok 1048576) : Fun Tryz.prog 11 [.t p.tt] (Av [.t (.int (Cr p)), .t (.bool (fuelOk p))]) := by
 refine Fun.begin tys Tryz.func11 Z Z (N := 21) [(0, .t p.tt)] Z Z (fun w0 G F0 => ?_);refine sG (AR Z Z (AA Z) Z Z (nZ Z (eK 2 Z (nB (sQ (sG (eZ Z ?_)))))))
 try refine WO_le (Le.freeze (u := 5) rfl) ?_
 refine nZ Z (AJ ?_);refine ⟨_, CP p hp, rfl, ?_⟩;refine eK 2 Z ?_;refine gB (fun h1 => ?_) (fun h1 => ?_)
 ·
  simp only [HS] at h1;refine xK 2 Z (kZ [1,2,3,11] Z (xK 4 Z (nB (Ab Z (sG (eK 2 Z (nB (rT (tR (eR ?_))))))))))
  ·first
   | exact Bs (by rw [fuelOk, h1]; rfl) rfl
 simp only [HS] at h1;refine eZ Z ?_
 try refine WO_le (Le.freeze (u := 9) rfl) ?_
 refine nZ Z (gY Z (AJ ?_));refine ⟨_, Dj p hp h1, rfl, ?_⟩;refine kZ [1,2,3,8,10] Z (eK 2 Z ?_);refine gB (fun h2 => ?_) (fun h2 => ?_)
 ·
  simp only [HS] at h2;refine xK 2 Z (nB (Ab Z (sG (eK 2 Z (nB (rT (tR (eR ?_))))))))
  ·first
   | exact Bs (by rw [fuelOk, h1, h2]; rfl) rfl
 refine eZ Z ?_
 try refine WO_le (Le.freeze (u := 13) rfl) ?_
 refine nZ Z (gY Z (AJ ?_));refine ⟨_, Gs p _ (fun s => decide (s.kind = 8)) hp h1 HG, rfl, ?_⟩;refine eZ Z (nB ?_);refine AB Z (fun h3 => ?_) (fun h3 => ?_)
 ·
  refine sG (eK 2 Z (nB (rT (tR (eR ?_)))))
  ·first
   | exact Bs (by rw [fuelOk, h1, h2, h3]; rfl) rfl
 refine AC (tN (sG (eZ Z ?_)))
 try refine WO_le (Le.freeze (u := 16) rfl) ?_
 refine nZ Z (AJ ?_);refine ⟨_, H8 p hp h1 h2, rfl, ?_⟩;refine eZ Z (nB (sQ (sQ (kY [2,3,4] Z (rG (eK 2 Z (nB ?_)))))));refine AB Z (fun h4 => ?_) (fun h4 => ?_)
 ·
  simp only [HS] at h4;refine sG (eK 2 Z (nB (rT (tR (eR ?_)))))
  ·first
   | exact Bs (by rw [fuelOk, h1, h2, h3, decide_eq_false (by omega)]; rfl) rfl
 simp only [HS] at h4;refine AC (tN (sG (eK 3 Z (nB (rT (eR ?_))))))
 ·first
  | exact Bs (by rw [fuelOk, h1, h2, h3, decide_eq_true (by omega)]; rfl) rfl
open Go.Eng
section
variable {p : Prog} {inp : List Int} {most fuel : Nat}
theorem EW (hg : goodP p = true) {fn c : Int} (h : c ∈ FE p fn) : c ∈ AE p fn := by
 have h1 := FD hg fn c h
 have h2 := AV hg
 exact mem_setN.2 ⟨⟨h1.1, by omega⟩, h⟩
theorem MI (hg : goodP p = true) {fn : Int} (h : Lead (AE p) 0 fn) : fn ∈ reachP p 0 := by
 have hm := BK hg
 exact (CO (Ax hg) (by omega) hm.1).2 h
theorem Rv {q : Stmt → Bool} (hg : goodP p = true) (h : Mh p q = false) {fn : Int} (hl : Lead (AE p) 0 fn) {t : Stmt} (ht : t ∈ (funcAt p fn).stmts) : q t = false := by
 unfold Mh at h;rw [List.any_eq_false] at h
 have h1 := h fn (MI hg hl)
 rw [Bool.not_eq_true, List.any_eq_false] at h1;exact Bool.not_eq_true _ ▸ h1 t ht
theorem RN {l : List Int} {x : Int} (h : x ∈ l) : x ≤ My l := by
 have key : ∀ (l : List Int) (m : Int), x ∈ l → x ≤ l.foldl max m := by
  intro l
  induction l with
  | nil => intro m h; cases h
  | cons y l ih =>
   intro m h;rw [List.foldl_cons]
   rcases SL.1 h with rfl | h
   ·have := B0 l (max m x); omega
   ·exact ih _ h
 exact key l 0 h
theorem No (hg : goodP p = true) (hr : roundP p = false) (hm : FO p.funcs.length (AE p) 0 ≤ most) : ¬ (G6 p inp most fuel).1 = 4 := by
 have hc := Ax hg
 have hN := (BK hg).1
 have hN' : 0 < p.funcs.length := by omega
 have hk : G2 p most (fun fn d => Lead (AE p) 0 fn ∧ (d : Int) + FO p.funcs.length (AE p) fn ≤ most + 1) (fun fn d => Lead (AE p) 0 fn ∧ (d : Int) + FO p.funcs.length (AE p) fn ≤ most) (fun h => ¬ h = 4) :=
  ⟨(fun fn d c hl hcs => by
    have h1 := EW hg hcs
    have h2 := F1 hc hN' hr hl.1
    have h3 := RN (Sq.2 ⟨c, h1, rfl⟩ : FO p.funcs.length (AE p) c ∈ (AE p fn).map (FO p.funcs.length (AE p)))
    exact ⟨.step hl.1 h1, by omega⟩),
   (fun fn d hl _ => ⟨hl.1, by have := hl.2; omega⟩),
   (fun fn d hl hd => by
    have h2 := F1 hc hN' hr hl.1
    have h3 := B0 ((AE p fn).map (FO p.funcs.length (AE p))) 0
    have h4 := hl.2
    unfold My at h2;omega),
   (by omega),
   (by omega),
   (by omega),
   (fun _ _ _ _ _ _ => by omega),
   (fun _ _ _ _ _ _ => by omega),
   (fun _ _ _ _ _ _ _ _ => by omega)⟩
 exact run_R hk hg fuel ⟨.refl, by simpa using hm⟩
end
open Go.Eng
def Cw (p : Prog) (l : List Int) : Int := (l.map (Al p)).sum
def wS (p : Prog) (t : Stmt) : Int := 1 + Cw p (seqS t)
def wB (p : Prog) (f : Func) (b : List Int) : Int := ((ord f.stmts.length (kids f.stmts) b).map fun k => wS p (stmtAt f k)).sum
def DU (p : Prog) (s : Sx) : Int := s.m.fuel - Cw p s.off
section
variable {p : Prog} {inp : List Int} {most : Nat} {f : Func} {L : Lev}
theorem Gg (p : Prog) (n : Int) : 0 ≤ Al p n := (Gh (fun f => by unfold Qb; omega) (FE p) _ n).1
theorem Ce (p : Prog) (l : List Int) : 0 ≤ Cw p l := Cx fun x hx => by
 obtain ⟨n, _, rfl⟩ := Sq.1 hx
 exact Gg p n
theorem Ho (a b : List Int) : Cw p (a ++ b) = Cw p a + Cw p b := by unfold Cw; rw [Sf, List.sum_append]
theorem Cy (a : Int) (b : List Int) : Cw p (a :: b) = Al p a + Cw p b := by unfold Cw; rw [Si, List.sum_cons]
theorem K8 (l : List Int) : Cw p l.reverse = Cw p l := by
 induction l with
 | nil => rfl
 | cons x l ih => rw [List.reverse_cons, Ho, ih, Cy, Cy]; unfold Cw; simp; omega
theorem QW (p : Prog) (t : Stmt) : 1 ≤ wS p t := by have := Ce p (seqS t); unfold wS; omega
theorem FS (p : Prog) (f : Func) (b : List Int) : 0 ≤ wB p f b := Cx fun x hx => by
 obtain ⟨n, _, rfl⟩ := Sq.1 hx
 have := QW p (stmtAt f n)
 omega
theorem N4 {k : Int} (h0 : 0 ≤ k) (h1 : k < f.stmts.length) : kids f.stmts k = ((stmtAt f k).thn, (stmtAt f k).els) := by
 rw [kids_at (l := f.stmts) (m := k) (by omega), Bv (n := k) (by omega)]
theorem Hj (hd : BM f.stmts.length (kids f.stmts)) {k : Int} {b : List Int} (hb : inB f.stmts.length 0 (k :: b)) : wB p f (k :: b) = wS p (stmtAt f k) + wB p f (stmtAt f k).thn + wB p f (stmtAt f k).els + wB p f b := by
 have hk := hb k (by simp)
 unfold wB;rw [Dz hd hb, N4 hk.1 hk.2];simp only [Sf, Si, List.sum_append, List.sum_cons];omega
theorem M1 : wB p f [] = 0 := by unfold wB; rw [EH]; rfl
theorem O9 (hd : BM f.stmts.length (kids f.stmts)) {k : Int} {b : List Int} (hb : inB f.stmts.length 0 (k :: b)) : wB p f (k :: b) = wB p f [k] + wB p f b := by
 have hk := hb k (by simp)
 rw [Hj hd hb, Hj hd (b := []) (fun x hx => by rw [SN] at hx; subst hx; exact hk), M1];omega
structure LevF (p : Prog) (inp : List Int) (n : Nat) (L : Lev) : Prop where
 stmt : ∀ fn : Int, Lead (AE p) 0 fn → ∀ k : Int, 0 ≤ k → k < (funcAt p fn).stmts.length → ∀ s : Sx, s.ok p inp (funcAt p fn) → (∀ x, x ∈ s.off → x ∈ FE p fn) → s.m.fuel ≤ n → wB p (funcAt p fn) [k] ≤ DU p s →
  ¬ (L.stmt (funcAt p fn) (stmtAt (funcAt p fn) k) s).1 = 5 ∧ ((L.stmt (funcAt p fn) (stmtAt (funcAt p fn) k) s).1 < 4 → DU p s - wB p (funcAt p fn) [k] ≤ DU p (L.stmt (funcAt p fn) (stmtAt (funcAt p fn) k) s).2.2)
 call : ∀ (fn : Int) (args : List Int) (b : Option By) (m : Ms), Lead (AE p) 0 fn → args.length = (atI (paramsL p) fn).toNat → m.used ≤ inp.length → m.fuel ≤ n → Al p fn ≤ m.fuel →
  ¬ (L.call fn args b m).1 = 5 ∧ ((L.call fn args b m).1 < 4 → (m.fuel : Int) - Al p fn ≤ (L.call fn args b m).2.2.2.fuel)
theorem GV (hg : goodP p = true) {fn : Int} (h : Lead (AE p) 0 fn) : 0 ≤ fn ∧ fn < p.funcs.length := BW (Ax hg) (by omega) (BK hg).1 h
theorem M7 {x : Tok} {pile : List Int} {s : Sx} : (DI L.cal (paramsL p) inp x pile s).2.2.2.off = s.off := by
 unfold DI;dsimp only
 repeat' split
 all_goals rfl
theorem OJ (hg : goodP p = true) {n : Nat} (hO : Db p inp L) (hL : LevF p inp n L) {fn : Int} (hf : Lead (AE p) 0 fn) {vs : Int} {t : Stmt} (ht : t ∈ (funcAt p fn).stmts) : ∀ {l : List Tok} {pile : List Int} {s : Sx} {mx : Int} {r : Int × Int}, (∀ x, x ∈ l → x ∈ t.ex) → s.ok p inp (funcAt p fn) → s.m.fuel ≤ n → Cw p (G3 l) ≤ DU p s → C2 vs (paramsL p) l pile.length mx = some r →
  ¬ (exprS L.cal (paramsL p) inp l pile s).1 = 5 ∧ (exprS L.cal (paramsL p) inp l pile s).2.2.off = s.off ∧ ((exprS L.cal (paramsL p) inp l pile s).1 < 4 → DU p s - Cw p (G3 l) ≤ DU p (exprS L.cal (paramsL p) inp l pile s).2.2)
 | [], pile, s, mx, r, _, hs, _, _, _ => ⟨by show ¬ (0 : Int) = 5; omega, rfl, fun _ => by show DU p s - Cw p (G3 []) ≤ DU p s; have : Cw p (G3 []) = 0 := rfl; omega⟩
 | x :: l, pile, s, mx, r, hl, hs, hn, hp, hr => by
  rw [C2] at hr;split at hr
  ·rename_i hc
   rw [SC, decide_eq_true_eq] at hc
   obtain ⟨h1, h2⟩ := Hl hO hg hs hc.1 hc.2
   have hoff := M7 (p := p) (inp := inp) (L := L) (x := x) (pile := pile) (s := s)
   have hcost : Cw p (G3 (x :: l)) = (if x.op = 11 then Al p x.n else 0) + Cw p (G3 l) := by
    unfold G3;rw [S1];split
    ·rename_i h; rw [if_pos (by simpa using h), Si, Cy]
    ·rename_i h; rw [if_neg (by simpa using h)]; omega
   have hl0 := Ce p (G3 l)
   have ho0 := Ce p s.off
   have hpd : DU p s = s.m.fuel - Cw p s.off := rfl
   have h3 : ¬ (DI L.cal (paramsL p) inp x pile s).1 = 5 ∧ ((DI L.cal (paramsL p) inp x pile s).1 < 4 → (s.m.fuel : Int) - (if x.op = 11 then Al p x.n else 0) ≤ (DI L.cal (paramsL p) inp x pile s).2.2.2.m.fuel) := by
    unfold DI
    by_cases o1 : x.op = 1
    ·rw [if_pos o1, if_neg (by omega)]; exact ⟨by show ¬ (0 : Int) = 5; omega, fun _ => by show (s.m.fuel : Int) - 0 ≤ s.m.fuel; omega⟩
    rw [if_neg o1]
    by_cases o2 : x.op = 2
    ·rw [if_pos o2, if_neg (by omega)]; exact ⟨by show ¬ (0 : Int) = 5; omega, fun _ => by show (s.m.fuel : Int) - 0 ≤ s.m.fuel; omega⟩
    rw [if_neg o2]
    by_cases o9 : x.op = 9
    ·rw [if_pos o9, if_neg (by omega)]
     refine ⟨by show ¬ (0 : Int) = 5; omega, fun _ => ?_⟩
     have := (Qj hs.used).2.2
     show (s.m.fuel : Int) - 0 ≤ (inS inp s.m).2.fuel;omega
    rw [if_neg o9]
    by_cases o10 : x.op = 10
    ·rw [if_pos o10, if_neg (by omega)]; exact ⟨by show ¬ (0 : Int) = 5; omega, fun _ => by show (s.m.fuel : Int) - 0 ≤ s.m.fuel; omega⟩
    rw [if_neg o10]
    by_cases o11 : x.op = 11
    ·rw [if_pos o11, if_pos o11]
     rw [if_pos o11] at hcost
     obtain ⟨k0, k1⟩ := CG hc.1 o11
     have hne : Aq (paramsL p) x = atI (paramsL p) x.n := by simp [Aq, o11]
     have hcn := hc.2
     rw [hne] at hcn
     have hcl := hL.call x.n (pile.drop (pile.length - (atI (paramsL p) x.n).toNat)) none s.m (.step hf (EW hg (Ii ht (hl x (by simp)) o11))) (by rw [S0]; omega) hs.used hn (by omega)
     dsimp only [Lev.cal];split
     ·rename_i e1
      refine ⟨by show ¬ (0 : Int) = 5; omega, fun _ => ?_⟩;exact hcl.2 (by omega)
     ·exact ⟨hcl.1, fun h4 => hcl.2 h4⟩
    rw [if_neg o11, if_neg o11];split
    ·exact ⟨by show ¬ (2 : Int) = 5; omega, fun _ => by show (s.m.fuel : Int) - 0 ≤ s.m.fuel; omega⟩
    ·exact ⟨by show ¬ (0 : Int) = 5; omega, fun _ => by show (s.m.fuel : Int) - 0 ≤ s.m.fuel; omega⟩
   rw [exprS];split
   ·rename_i h0
    rw [← h2 h0] at hr
    have h4 := h3.2 (by omega)
    have hle : (DI L.cal (paramsL p) inp x pile s).2.2.2.m.fuel ≤ s.m.fuel := h1.le.1
    have hpd2 : DU p (DI L.cal (paramsL p) inp x pile s).2.2.2 = (DI L.cal (paramsL p) inp x pile s).2.2.2.m.fuel - Cw p s.off := by unfold DU; rw [hoff]
    have ih := OJ hg hO hL hf ht (l := l) (fun y hy => hl y (by simp [hy])) h1.ok (by omega) (by omega) hr
    exact ⟨ih.1, ih.2.1.trans hoff, fun h => by have := ih.2.2 h; omega⟩
   ·refine ⟨h3.1, hoff, fun h => ?_⟩
    have h4 := h3.2 h
    have hpd2 : DU p (DI L.cal (paramsL p) inp x pile s).2.2.2 = (DI L.cal (paramsL p) inp x pile s).2.2.2.m.fuel - Cw p s.off := by unfold DU; rw [hoff]
    show DU p s - Cw p (G3 (x :: l)) ≤ DU p (DI L.cal (paramsL p) inp x pile s).2.2.2;omega
  ·cases hr
theorem F3 {n : Nat} (hO : Db p inp L) (hK : O8 p inp (fun fn _ => Lead (AE p) 0 fn) (fun fn _ => Lead (AE p) 0 fn) (fun _ => True) L) (hL : LevF p inp n L) (hg : goodP p = true) {fn : Int} (hf : Lead (AE p) 0 fn) (hd : BM (funcAt p fn).stmts.length (kids (funcAt p fn).stmts)) : ∀ {b : List Int} {s : Sx}, inB (funcAt p fn).stmts.length 0 b → s.ok p inp (funcAt p fn) → (∀ x, x ∈ s.off → x ∈ FE p fn) → s.m.fuel ≤ n → wB p (funcAt p fn) b ≤ DU p s →
  ¬ (blockS (L.stmt (funcAt p fn)) (funcAt p fn) b s).1 = 5 ∧ ((blockS (L.stmt (funcAt p fn)) (funcAt p fn) b s).1 < 4 → DU p s - wB p (funcAt p fn) b ≤ DU p (blockS (L.stmt (funcAt p fn)) (funcAt p fn) b s).2.2)
 | [], s, _, hs, _, _, _ => ⟨by show ¬ (0 : Int) = 5; omega, fun _ => by show DU p s - wB p (funcAt p fn) [] ≤ DU p s; rw [M1]; omega⟩
 | k :: b, s, hb, hs, ho, hn, hp => by
  have hk := hb k (by simp)
  have hfl := GV hg hf
  have hsp := O9 (p := p) hd hb
  have hb0 := FS p (funcAt p fn) b
  have hm : stmtAt (funcAt p fn) k ∈ (funcAt p fn).stmts := by rw [← Bv (by omega)]; exact SJ _
  have h1 := hO.stmt _ (Ao hfl.1 hfl.2) _ hm s hs
  have h2 := hL.stmt fn hf k hk.1 hk.2 s hs ho hn (by omega)
  have h3 := hK.stmt fn hfl.1 hfl.2 _ hm s ⟨hs, fun x _ => ⟨trivial, fun _ => trivial⟩, ho, hf⟩
  have hle := h1.le.1
  rw [blockS];split
  ·rename_i h0
   have h4 := h2.2 (by omega)
   have ih := F3 hO hK hL hg hf hd (b := b) (s := (L.stmt (funcAt p fn) (stmtAt (funcAt p fn) k) s).2.2) (fun x hx => hb x (by simp [hx])) h1.ok h3.off (by omega) (by omega)
   exact ⟨ih.1, fun h => by have := ih.2 h; omega⟩
  ·exact ⟨h2.1, fun h => by have := h2.2 h; omega⟩
theorem Q8 {n : Nat} (hO : Db p inp L) (hK : O8 p inp (fun fn _ => Lead (AE p) 0 fn) (fun fn _ => Lead (AE p) 0 fn) (fun _ => True) L) (hL : LevF p inp n L) (hg : goodP p = true) (hlp : ∀ fn : Int, Lead (AE p) 0 fn → ∀ t, t ∈ (funcAt p fn).stmts → ¬ t.kind = 8) {fn : Int} (hf : Lead (AE p) 0 fn) {k : Int} (k0 : 0 ≤ k) (k1 : k < (funcAt p fn).stmts.length) {s : Sx} (hs : s.ok p inp (funcAt p fn)) (ho : ∀ x, x ∈ s.off → x ∈ FE p fn) (hn : s.m.fuel ≤ n + 1) (hp : wB p (funcAt p fn) [k] ≤ DU p s) :
  ¬ (Dd L (paramsL p) inp (funcAt p fn) (stmtAt (funcAt p fn) k) s).1 = 5 ∧ ((Dd L (paramsL p) inp (funcAt p fn) (stmtAt (funcAt p fn) k) s).1 < 4 → DU p s - wB p (funcAt p fn) [k] ≤ DU p (Dd L (paramsL p) inp (funcAt p fn) (stmtAt (funcAt p fn) k) s).2.2) := by
 have hfl := GV hg hf
 have hfm := Ao hfl.1 hfl.2
 have hgv := BI hg hfm
 obtain ⟨hd, hbo, hor⟩ := CM hgv.2.2.2.2.1
 have ht : stmtAt (funcAt p fn) k ∈ (funcAt p fn).stmts := by rw [← Bv (by omega)]; exact SJ _
 have hkd := hd k k0 k1
 rw [N4 k0 k1] at hkd
 have hw := Hj (p := p) hd (k := k) (b := []) (fun x hx => by rw [SN] at hx; subst hx; exact ⟨k0, k1⟩)
 rw [M1] at hw
 have ht0 := FS p (funcAt p fn) (stmtAt (funcAt p fn) k).thn
 have he0 := FS p (funcAt p fn) (stmtAt (funcAt p fn) k).els
 have hlk := hlp fn hf _ ht
 generalize stmtAt (funcAt p fn) k = t at *
 have hst : BD (funcAt p fn).vars (paramsL p) t = true := by
  obtain ⟨q, hq, he⟩ := Se hfm
  have hgf := CH hg hq
  rw [he] at hgf
  obtain ⟨i, hi, rfl⟩ := Se ht
  exact Cn hgf hi
 have hthn : inB (funcAt p fn).stmts.length 0 t.thn := fun x hx => ⟨by have := (hkd.1 x hx).1; omega, (hkd.1 x hx).2⟩
 have hels : inB (funcAt p fn).stmts.length 0 t.els := fun x hx => ⟨by have := (hkd.2 x hx).1; omega, (hkd.2 x hx).2⟩
 have hws : wS p t = 1 + (Cw p (d3 t) + Cw p (G3 t.ex)) := by unfold wS seqS; rw [Ho]
 have hd0 := Ce p (d3 t)
 have hx0 := Ce p (G3 t.ex)
 have ho0 := Ce p s.off
 have hpd : DU p s = s.m.fuel - Cw p s.off := rfl
 unfold Dd
 by_cases hz : s.m.fuel = 0
 ·omega
 rw [if_neg hz]
 have hbp : DU p { s with m := A8 s.m } = DU p s - 1 := by
  show ((s.m.fuel - 1 : Nat) : Int) - Cw p s.off = _;omega
 by_cases k3 : t.kind = 3
 ·rw [if_pos k3]
  have e3 : Cw p (d3 t) = Al p t.n := by rw [d3, if_pos k3, Cy]; unfold Cw; simp
  refine ⟨by show ¬ (0 : Int) = 5; omega, fun _ => ?_⟩;show _ ≤ ((s.m.fuel - 1 : Nat) : Int) - Cw p (s.off ++ [t.n])
  have e4 : Cw p (s.off ++ [t.n]) = Cw p s.off + Al p t.n := by rw [Ho, Cy]; unfold Cw; simp
  omega
 rw [if_neg k3]
 by_cases k6 : t.kind = 6
 ·rw [if_pos k6]
  refine ⟨by show ¬ (3 : Int) = 5; omega, fun _ => ?_⟩;show _ ≤ DU p { s with m := A8 s.m };omega
 rw [if_neg k6]
 obtain ⟨mx, hr⟩ := ES hst k3 k6
 have hb := hs.burn hz
 have he := Eu hO hg (pile := []) hb.ok (l := t.ex) (mx := 0) (by simpa using hr)
 have hE := OJ hg hO hL hf ht (pile := []) (l := t.ex) (mx := 0) (fun _ h => h) hb.ok (by show s.m.fuel - 1 ≤ n; omega) (by omega) (by simpa using hr)
 dsimp only;generalize exprS L.cal (paramsL p) inp t.ex [] { s with m := A8 s.m } = r at he hE
 obtain ⟨h, v, s2⟩ := r
 dsimp only at he hE ⊢
 obtain ⟨E1, E2, E3⟩ := hE
 have hle : s2.m.fuel ≤ s.m.fuel - 1 := he.le.1
 split
 ·rename_i hh
  subst hh
  have E4 := E3 (by omega)
  have hp2 : DU p s - wS p t ≤ DU p s2 := by omega
  have ho2 : ∀ x, x ∈ s2.off → x ∈ FE p fn := fun x hx => ho x (by rw [← E2]; exact hx)
  unfold doS;dsimp only;split
  ·exact ⟨by show ¬ (0 : Int) = 5; omega, fun _ => by show _ ≤ DU p s2; omega⟩
  split
  ·exact ⟨by show ¬ (0 : Int) = 5; omega, fun _ => by show _ ≤ DU p s2; omega⟩
  split
  ·exact ⟨by show ¬ (2 : Int) = 5; omega, fun _ => by show _ ≤ DU p s2; omega⟩
  split
  ·exact ⟨by show ¬ (1 : Int) = 5; omega, fun _ => by show _ ≤ DU p s2; omega⟩
  split
  ·split
   ·have hB := F3 hO hK hL hg hf hd hthn he.ok ho2 (by omega) (by omega)
    exact ⟨hB.1, fun h => by have := hB.2 h; omega⟩
   ·have hB := F3 hO hK hL hg hf hd hels he.ok ho2 (by omega) (by omega)
    exact ⟨hB.1, fun h => by have := hB.2 h; omega⟩
  exact ⟨by show ¬ (0 : Int) = 5; omega, fun _ => by show _ ≤ DU p s2; omega⟩
 ·refine ⟨E1, fun h => ?_⟩
  have := E3 h
  show _ ≤ DU p s2;omega
theorem Nm {n : Nat} (hO : Db p inp L) (hL : LevF p inp n L) (hg : goodP p = true) : ∀ {l : List Int} {b : By} {m : Ms}, (∀ x, x ∈ l → (0 ≤ x ∧ x < p.funcs.length ∧ atI (paramsL p) x = 0) ∧ Lead (AE p) 0 x) → m.used ≤ inp.length → m.fuel ≤ n → Cw p l ≤ m.fuel →
  ¬ (offR (fun k b m => L.call k [] b m) l b m).1 = 5 ∧ ((offR (fun k b m => L.call k [] b m) l b m).1 < 4 → (m.fuel : Int) - Cw p l ≤ (offR (fun k b m => L.call k [] b m) l b m).2.2.fuel)
 | [], b, m, _, _, _, _ => ⟨by show ¬ (0 : Int) = 5; omega, fun _ => by show (m.fuel : Int) - Cw p [] ≤ m.fuel; have : Cw p [] = 0 := rfl; omega⟩
 | k :: l, b, m, hl, hu, hn, hs => by
  obtain ⟨⟨q0, q1, q2⟩, q3⟩ := hl k (by simp)
  rw [Cy] at hs ⊢
  have hl0 := Ce p l
  have ho := hO.call k [] (some b) m q0 q1 (by rw [q2]; rfl) hu
  have hc := hL.call k [] (some b) m q3 (by rw [q2]; rfl) hu hn (by omega)
  have hle := ho.le.1
  rw [offR];split
  ·exact ⟨hc.1, fun h => by omega⟩
  ·rename_i h4
   have h5 := hc.2 (by omega)
   split
   ·have ih := Nm hO hL hg (l := l) (b := (L.call k [] (some b) m).2.2.1.getD b) (m := (L.call k [] (some b) m).2.2.2) (fun x hx => hl x (by simp [hx])) ho.le.2.2 (by omega) (by omega)
    exact ⟨ih.1, fun h => by have := ih.2 h; omega⟩
   ·have ih := Nm hO hL hg (l := l) (b := ⟨(L.call k [] (some b) m).1, if (L.call k [] (some b) m).1 = 2 then (L.call k [] (some b) m).2.1 else ((L.call k [] (some b) m).2.2.1.getD b).pan, ((L.call k [] (some b) m).2.2.1.getD b).exd || decide ((L.call k [] (some b) m).1 = 3)⟩) (m := (L.call k [] (some b) m).2.2.2) (fun x hx => hl x (by simp [hx])) ho.le.2.2 (by omega) (by omega)
    exact ⟨ih.1, fun h => by have := ih.2 h; omega⟩
theorem Jt (hg : goodP p = true) (hr : roundP p = false) {fn : Int} (hf : Lead (AE p) 0 fn) (hb : Al p fn ≤ 100000) : Al p fn = 1 + wB p (funcAt p fn) (funcAt p fn).body := by
 have h := Fw hg hr hf
 have hfl := GV hg hf
 have hgv := BI hg (Ao hfl.1 hfl.2)
 obtain ⟨hd, hbo, hor⟩ := CM hgv.2.2.2.2.1
 have key : wB p (funcAt p fn) (funcAt p fn).body = (funcAt p fn).stmts.length + ER (Al p) (FE p fn) := by
  unfold wB;rw [hor]
  have e1 : (CL (funcAt p fn).stmts.length).map (fun k => wS p (stmtAt (funcAt p fn) k)) = (funcAt p fn).stmts.map (wS p) := by
   refine List.ext_getElem (by simp [Ar]) fun i h1 h2 => ?_
   rw [SE] at h2;rw [List.getElem_map, List.getElem_map, Cp];rw [← Bv (f := funcAt p fn) (n := (i : Int)) (by simpa using h2)]
   simp
  rw [e1];unfold FE EP;generalize (funcAt p fn).stmts = l
  induction l with
  | nil => rfl
  | cons t l ih =>
   rw [Si, List.sum_cons, Sd, Br, ih, SG];unfold wS Cw ER;omega
 unfold Qb at h;omega
theorem MV (hg : goodP p = true) (hr : roundP p = false) {fn c : Int} (hf : Lead (AE p) 0 fn) (hb : Al p fn ≤ 100000) (hc : c ∈ AE p fn) : Al p c ≤ Al p fn := by
 have h := Fw hg hr hf
 have hc2 := (mem_setN.1 hc).2
 have key : ∀ l : List Int, c ∈ l → Al p c ≤ ER (Al p) l := by
  intro l
  induction l with
  | nil => intro h; cases h
  | cons x l ih =>
   intro h
   have h0 := K7 p l
   have h1 := Gg p x
   have e : ER (Al p) (x :: l) = Al p x + ER (Al p) l := by unfold ER; rw [Si, List.sum_cons]
   rcases SL.1 h with rfl | h
   ·omega
   ·have := ih h; omega
 have := key _ hc2
 have := LP p fn
 omega
theorem Ju (hg : goodP p = true) (hr : roundP p = false) (hb : Al p 0 ≤ 100000) {fn : Int} (hf : Lead (AE p) 0 fn) : Al p fn ≤ 100000 := by
 induction hf with
 | refl => exact hb
 | step h hc ih => have := MV hg hr h ih hc; omega
theorem Rp {n : Nat} (hO : Db p inp L) (hK : O8 p inp (fun fn _ => Lead (AE p) 0 fn) (fun fn _ => Lead (AE p) 0 fn) (fun _ => True) L) (hL : LevF p inp n L) (hg : goodP p = true) (hr : roundP p = false) (hb0 : Al p 0 ≤ 100000) (hkk : G2 p most (fun fn _ => Lead (AE p) 0 fn) (fun fn _ => Lead (AE p) 0 fn) (fun _ => True)) {fn : Int} {args : List Int} {b : Option By} {m : Ms} (hf : Lead (AE p) 0 fn) (ha : args.length = (atI (paramsL p) fn).toNat) (hu : m.used ≤ inp.length) (hn : m.fuel ≤ n + 1) (hp : Al p fn ≤ m.fuel) :
  ¬ (DZ L p most fn args b m).1 = 5 ∧ ((DZ L p most fn args b m).1 < 4 → (m.fuel : Int) - Al p fn ≤ (DZ L p most fn args b m).2.2.2.fuel) := by
 have hfl := GV hg hf
 have hm := Ao hfl.1 hfl.2
 obtain ⟨g1, g2, g3, g4, hsh, g6⟩ := BI hg hm
 obtain ⟨hd, hbo, hor⟩ := CM hsh
 rw [Bf hfl.1 hfl.2] at ha
 have hown := Jt hg hr hf (Ju hg hr hb0 hf)
 have hw0 := FS p (funcAt p fn) (funcAt p fn).body
 unfold DZ
 by_cases hz : m.fuel = 0
 ·omega
 rw [if_neg hz]
 by_cases hdd : m.deep = most
 ·rw [if_pos hdd]; exact ⟨by show ¬ (4 : Int) = 5; omega, fun h => absurd (show (4 : Int) < 4 from h) (by omega)⟩
 rw [if_neg hdd];dsimp only
 have hs := ET (p := p) (inp := inp) (f := funcAt p fn) (args := args) (b := b) (m := m) (by omega) hu
 have hpot : DU p (startS (funcAt p fn) args b m) = m.fuel - 1 := by
  show ((m.fuel - 1 : Nat) : Int) - Cw p [] = _
  have : Cw p [] = 0 := rfl
  omega
 have hsf : (startS (funcAt p fn) args b m).m.fuel = m.fuel - 1 := rfl
 have hbk := BP (hO.stmt _ hm) (DQ hsh) hs
 have hbr := D3 hkk hO hK hfl.1 hfl.2 (DQ hsh) ⟨hs, fun x _ => ⟨trivial, fun _ => trivial⟩, (fun x hx => absurd hx List.not_mem_nil), hf⟩
 have hbF := F3 hO hK hL hg hf hd (b := (funcAt p fn).body) hbo hs (fun x hx => absurd hx List.not_mem_nil) (by omega) (by omega)
 generalize blockS (L.stmt (funcAt p fn)) (funcAt p fn) (funcAt p fn).body (startS (funcAt p fn) args b m) = r at hbk hbr hbF
 obtain ⟨h, v, s1⟩ := r
 dsimp only at hbk hbr hbF ⊢;split
 ·exact ⟨hbF.1, fun h => by omega⟩
 ·rename_i h4
  have hp1 := hbF.2 (by omega)
  have hpd : DU p s1 = s1.m.fuel - Cw p s1.off := rfl
  have hle : s1.m.fuel ≤ m.fuel - 1 := hbk.le.1
  have ho := Nm hO hL hg (l := s1.off.reverse) (b := endS h v) (m := s1.m) (fun x hx => ⟨hbk.ok.off x (by simpa using hx), .step hf (EW hg (hbr.off x (by simpa using hx)))⟩) hbk.ok.used (by omega) (by rw [K8]; omega)
  rw [K8] at ho
  have he := Kr (v := v) hbk.h0 (by omega)
  have hor2 := Hy (p := p) (inp := inp) (cal := fun k b m => L.call k [] b m) (fun k b m k0 k1 k2 ku => hO.call k [] b m k0 k1 (by rw [k2]; rfl) ku) (l := s1.off.reverse) (b := endS h v) (m := s1.m) (fun x hx => hbk.ok.off x (by simpa using hx)) hbk.ok.used he.1 he.2
  generalize offR (fun k b m => L.call k [] b m) s1.off.reverse (endS h v) s1.m = q at ho hor2
  obtain ⟨h2, b2, m2⟩ := q
  dsimp only at ho hor2 ⊢;split
  ·exact ⟨ho.1, fun h => by omega⟩
  ·rename_i h5
   have h6 := ho.2 (by omega)
   have h7 := (hor2.2.2.2 (by omega)).2.2
   refine ⟨?_, fun _ => by show _ ≤ (m2.fuel : Int); omega⟩;show ¬ b2.how = 5;omega
theorem lev_F (hg : goodP p = true) (hr : roundP p = false) (hb0 : Al p 0 ≤ 100000) (hlp : ∀ fn : Int, Lead (AE p) 0 fn → ∀ t, t ∈ (funcAt p fn).stmts → ¬ t.kind = 8) : ∀ n, LevF p inp n (lev p inp most n) := by
 have hkk : G2 p most (fun fn _ => Lead (AE p) 0 fn) (fun fn _ => Lead (AE p) 0 fn) (fun _ => True) :=
  ⟨(fun fn d c hl hc => .step hl (EW hg hc)),
   (fun fn d hl _ => hl),
   (fun _ _ _ _ => trivial),
   (trivial),
   (trivial),
   (trivial),
   (fun _ _ _ _ _ _ => trivial),
   (fun _ _ _ _ _ _ => trivial),
   (fun _ _ _ _ _ _ _ _ => trivial)⟩
 intro n
 induction n with
 | zero =>
  refine ⟨fun fn hf k k0 k1 s hs ho hn hp => ?_, fun fn args b m hf ha hu hn hp => ?_⟩
  ·have hfl := GV hg hf
   obtain ⟨hd, -, -⟩ := CM (BI hg (Ao hfl.1 hfl.2)).2.2.2.2.1
   have hw := Hj (p := p) hd (k := k) (b := []) (fun x hx => by rw [SN] at hx; subst hx; exact ⟨k0, k1⟩)
   have h1 := QW p (stmtAt (funcAt p fn) k)
   have h2 := FS p (funcAt p fn) (stmtAt (funcAt p fn) k).thn
   have h3 := FS p (funcAt p fn) (stmtAt (funcAt p fn) k).els
   have h4 := FS p (funcAt p fn) []
   have h5 := Ce p s.off
   have h6 : DU p s = s.m.fuel - Cw p s.off := rfl
   omega
  ·have hown := Jt hg hr hf (Ju hg hr hb0 hf)
   have hw0 := FS p (funcAt p fn) (funcAt p fn).body
   omega
 | succ n ih => exact ⟨fun fn hf k k0 k1 s hs ho hn hp => Q8 (El hg most n) (Ns hkk hg n) ih hg hlp hf k0 k1 hs ho hn hp, fun fn args b m hf ha hu hn hp => Rp (El hg most n) (Ns hkk hg n) ih hg hr hb0 hkk hf ha hu hn hp⟩
theorem Ko (hg : goodP p = true) (hr : roundP p = false) (hl : Mh p (fun t => decide (t.kind = 8)) = false) (hb : Al p 0 ≤ 100000) (fuel : Nat) (h : Al p 0 ≤ fuel) : ¬ (G6 p inp most fuel).1 = 5 := by
 have hm := BK hg
 exact ((lev_F hg hr hb (fun fn hf t ht => by have := Rv hg hl hf ht; rwa [decide_eq_false_iff_not] at this) fuel).call 0 [] none ⟨0, fuel, 0, []⟩ .refl (by rw [hm.2]; rfl) (Nat.zero_le _) (SR _) h).1
end
open Go.Eng
theorem Ri {l : List Func} (h4 : l.length ≤ 4) (h : ∀ f, f ∈ l → Dfn f) : Prog.ok 1048576 ⟨l⟩ := by
 refine ⟨⟨by simp only; omega, fun f hf => ?_⟩, trivial⟩
 have d := h f hf
 refine ⟨Sl d.b3 (by decide), ⟨Sl d.s12 (by decide), fun x hx => ?_⟩, trivial⟩
 obtain ⟨e1, e2, e3⟩ := d.st x hx
 exact ⟨Sl e1 (by decide), Sl e2 (by decide), Sl e3 (by decide), trivial⟩
theorem dpP_ok {cd : List Int} (hcd : CU cd) : (dpP cd).ok 1048576 := by
 have p1 := AM (cd := cd) (n := 2) (c := cu0)
 have p0 : cu0.1 = 0 := rfl
 unfold dpP;split
 ·obtain ⟨hq1, hq4, hqd⟩ := Ch (c := curC cd 2 cu0) hcd (by omega)
  have h := Ld (cd := cd) 0 (programR cd (curC cd 2 cu0)).1.funcs (programR cd (curC cd 2 cu0)).2 hqd
  exact Ri (by rw [h.2.1]; exact hq4) h.1
 ·exact Od hcd (by omega) (by decide)
theorem J6 {p : Prog} {most : Int} (hg : goodP p = true) (h1 : 1 ≤ most) (h2 : most ≤ 12) : Cb p [] most = true := by
 unfold Cb;rw [hg, decide_eq_true (show 1 ≤ most ∧ most ≤ 12 from ⟨h1, h2⟩)];rfl
theorem MX {p : Prog} (h : A4 p = true) (h12 : B8 p ≤ 12) : DJ p [] (B8 p).toNat 600 = true ∧ ¬ (Nf p [] (B8 p).toNat 600).code = 4 ∧ 0 ≤ B8 p := by
 have h' := h
 unfold A4 at h';rw [SC, Sp] at h'
 obtain ⟨hg, hr⟩ := h'
 have hN := (BK hg).1
 have e : B8 p = FO p.funcs.length (AE p) 0 := by rw [B8, if_pos h]; rfl
 have e1 := F1 (Ax hg) (by omega) hr (Lead.refl (calls := AE p) (a := 0))
 have e2 := B0 ((AE p 0).map (FO p.funcs.length (AE p))) 0
 unfold My at e1
 have hp : 1 ≤ B8 p := by omega
 have hk : DJ p [] (B8 p).toNat 600 = true := by
  unfold DJ;rw [J6 hg (by omega) (by omega)];rfl
 refine ⟨hk, ?_, by omega⟩;rw [Nf, if_pos hk];exact No hg hr (by omega)
theorem MU {p : Prog} (h : fuelOk p = true) (h6 : Cr p ≤ 600) : DJ p [] 12 (Cr p).toNat = true ∧ ¬ (Nf p [] 12 (Cr p).toNat).code = 5 ∧ 0 ≤ Cr p := by
 have h' := h
 unfold fuelOk at h';simp only [SC, Sp, decide_eq_true_eq] at h'
 obtain ⟨hg, hr, hl, hb⟩ := h'
 have e : Cr p = Al p 0 := by rw [Cr, if_pos h]
 have e0 := Gg p 0
 have hk : DJ p [] 12 (Cr p).toNat = true := by
  unfold DJ;rw [J6 hg (by decide) (by decide), decide_eq_true (show (Cr p).toNat ≤ 600 from by omega)];rfl
 refine ⟨hk, ?_, by omega⟩;rw [Nf, if_pos hk];exact Ko hg hr hl hb _ (by omega)
theorem Nc {p : Prog} {fn : Int} (h : A6 p fn = true) : fn ∈ Cg p fn := by
 have h' := h
 unfold A6 at h';rw [SC, decide_eq_true_eq] at h'
 obtain ⟨hg, h0, h1⟩ := h'
 rw [Cg, if_pos h];exact (CO (Ax hg) h0 (by omega)).2 .refl
theorem OS (p : Prog) : A4 p = (goodP p && !EB p) := by
 unfold A4 EB
 cases goodP p <;> cases roundP p <;> rfl
theorem Kn {p : Prog} (h : fuelOk p = true) : EB p = false ∧ JY p = false := by
 unfold fuelOk at h;simp only [SC, Sp] at h;unfold EB JY;rw [h.2.1, h.2.2.1]
 simp
theorem RV (a : List Int) (v : Int) (ha : a.length ≤ 1073741824) : Fun Tryz.prog 20 [.t (T.ints a), .t (.int v)] (Av [.t (.bool (decide (v ∈ a)))]) := by
 refine Fun.begin tys Tryz.func20 Z Z (N := 17) [(0, .t (T.ints a)), (1, .t (.int v))] Z Z (fun w0 G F0 => ?_);refine sG (eZ Z (nB (sQ (sG (eZ Z (evE ?_))))));refine eZ Z (nB (AD ?_));refine lK (α := Int) [0, 1, 7, 8] [] (fun x => [(9, .t (.int x))]) (fun x => []) (fun x => 0 ≤ x ∧ x ≤ a.length ∧ (v ∈ a ↔ v ∈ a.drop x.toNat)) (fun x => Int.toNat (a.length - x)) 0 ?_ (fun k hx => ?_)
 ·exact ⟨by omega, by omega, by simp⟩
 obtain ⟨hk0, hk1, hkv⟩ := hx
 refine nY Z (sG (eZ Z (nB (sQ ?_))));refine AB Z (fun h1 => ?_) (fun h1 => ?_)
 ·
  simp only [HS] at h1;refine AC (tN (sQ (AD (sG ?_))));refine iY (k := ?_);refine eK 2 Z (nA ?_)
  have hkl : k.toNat < a.length := by omega
  have hdr : a.drop k.toNat = a[k.toNat] :: a.drop (k.toNat + 1) := Sr hkl
  refine eK 3 Z (nB ?_);refine AB Z (fun h2 => ?_) (fun h2 => ?_)
  ·
   simp only [HS] at h2;refine sQ (kY [0,1,6,7,8,9,10,11,12,13,14,15] Z (rG (eZ Z (nB (rT (bR (tR (AO (bR (tR (eR ?_)))))))))))
   ·first
    | (have hv : v ∈ a := (by rw [hkv, hdr]; exact SL.2 (Or.inl (Eq.symm (by assumption)))); rw [decide_eq_true hv]; done)
  simp only [HS] at h2;refine AC (bN (tN (kY [0,1,6,7,8,9,10,11,12,13,14,15] Z (rG (evI ?_)))));refine eZ Z (oN ?_);refine lQ _ ?_ ?_
  ·skip
   refine ⟨by omega, by omega, ?_⟩;rw [hkv, hdr, SL, show (k + 1).toNat = k.toNat + 1 from by omega]
   constructor
   ·rintro (h | h)
    ·exact absurd h.symm (by assumption)
    ·exact h
   ·exact Or.inr
  ·(show Int.toNat _ < Int.toNat _); omega
 simp only [HS] at h1;refine AP (tE (AK (AI (tN (sG (eZ Z (nB (rT (eR ?_)))))))))
 ·first
  | (have hv : ¬ v ∈ a := (by rw [hkv, List.drop_eq_nil_of_le (by omega)]; exact List.not_mem_nil); rw [decide_eq_false hv]; done)
theorem H0 (a b : List Int) (ha : a.length ≤ 9223372036854775807) (hb : b.length ≤ 9223372036854775807) (hab : ∀ x, x ∈ a → 0 ≤ x ∧ x ≤ 255) (hbb : ∀ x, x ∈ b → 0 ≤ x ∧ x ≤ 255) : Fun Tryz.prog 3 [.t (T.bytes a), .t (T.bytes b)] (Av [.t (.bool true)]) := by
  refine Fun.begin tys Tryz.func3 Z Z (N := 203) [(0, .t (T.bytes a)), (1, .t (T.bytes b))] Z Z (fun w0 G F0 => ?_);refine sG (eZ Z (nB (sQ (sG (eK 2 Z (AJ ?_))))));refine ⟨_, Rs a b ha hb, rfl, ?_⟩;refine nB ?_;refine AB Z (fun h1 => ?_) (fun h1 => ?_)
  ·
    refine sG (eZ Z (nB (rT (tR (eR ?_)))))
    · rfl
  refine AC (tN (sQ ?_))
  have hca : CU a := ⟨by simp_all; omega, hab⟩
  have hcb : CU b := ⟨by simp_all; omega, hbb⟩
  have hpo := dpP_ok hca
  have hro : (pR b).ok 1048576 := Od hcb (by decide) (by decide)
  have hrl := MD (pR b) (fnV b)
  have hrp : (pR b).funcs.length ≤ 1048576 := hro.1.1
  refine rG (eZ Z (A2 Z Z (AA Z) Z Z Z Z Z (Jz a hca) Z (AL tys Z Z (AA Z) Z Z Z (nZ Z (sT Z (nZ Z (nB (sQ (kY [1,4,5] Z (rG (eZ Z ?_)))))))))))
  try refine WO_le (Le.freeze (u := 38) rfl) ?_
  refine nZ Z (AJ ?_);refine ⟨_, Jm _ hpo, rfl, ?_⟩;refine eZ Z (WO_evF tys Z Z (AA Z) (d := .t _) Z (nZ Z (WO_evF tys Z Z (AA Z) (d := .t _) Z (nZ Z (eK 2 Z (nB (sQ (kY [1,4,5,6,7] Z (rG (eZ Z ?_))))))))))
  try refine WO_le (Le.freeze (u := 43) rfl) ?_
  refine nZ Z (AJ ?_);refine ⟨_, Iw _ hpo, rfl, ?_⟩;refine eZ Z (WO_evF tys Z Z (AA Z) (d := .t _) Z (nZ Z (WO_evF tys Z Z (AA Z) (d := .t _) Z (nZ Z (eK 2 Z (nB (sQ (kY [1,4,5,6,7,8,9] Z (rG (eZ Z ?_))))))))))
  try refine WO_le (Le.freeze (u := 48) rfl) ?_
  refine nZ Z (AJ ?_);refine ⟨_, H4 _ hpo, rfl, ?_⟩;refine eZ Z (WO_evF tys Z Z (AA Z) (d := .t _) Z (nZ Z (WO_evF tys Z Z (AA Z) (d := .t _) Z (nZ Z (eK 2 Z (nB (sQ (kY [1,4,5,6,7,8,9,10,11] Z (rG (eZ Z ?_))))))))))
  try refine WO_le (Le.freeze (u := 53) rfl) ?_
  refine nZ Z (AJ ?_);refine ⟨_, Hp _ hpo, rfl, ?_⟩;refine eZ Z (WO_evF tys Z Z (AA Z) (d := .t _) Z (nZ Z (WO_evF tys Z Z (AA Z) (d := .t _) Z (nZ Z (eK 2 Z (nB (sQ (kY [1,4,5,6,7,8,9,10,11,12,13] Z (rG (eZ Z ?_))))))))))
  try refine WO_le (Le.freeze (u := 58) rfl) ?_
  refine nZ Z (AJ ?_);refine ⟨_, Jl _ hpo, rfl, ?_⟩;refine eZ Z (WO_evF tys Z Z (AA Z) (d := .t _) Z (nZ Z (WO_evF tys Z Z (AA Z) (d := .t _) Z (nZ Z (eK 2 Z (nB (sQ (kY [1,4,5,6,7,8,9,10,11,12,13,14,15] Z (rG (eZ Z ?_))))))))))
  try refine WO_le (Le.freeze (u := 63) rfl) ?_
  refine nZ Z (AJ ?_);refine ⟨_, Iv _ hpo, rfl, ?_⟩;refine eZ Z (WO_evF tys Z Z (AA Z) (d := .t _) Z (nZ Z (WO_evF tys Z Z (AA Z) (d := .t _) Z (nZ Z (eK 2 Z (nB (sQ (kY [1,4,5,6,7,8,9,10,11,12,13,14,15,16,17] Z (rG (eZ Z ?_))))))))))
  try refine WO_le (Le.freeze (u := 68) rfl) ?_
  refine nZ Z (AJ ?_);refine ⟨_, Jk _ hpo, rfl, ?_⟩;refine eZ Z (WO_evF tys Z Z (AA Z) (d := .t _) Z (nZ Z (WO_evF tys Z Z (AA Z) (d := .t _) Z (nZ Z (eK 2 Z (nB (sQ (kY [1,4,5,6,7,8,9,10,11,12,13,14,15,16,17,18,19] Z (rG (eZ Z ?_))))))))))
  try refine WO_le (Le.freeze (u := 73) rfl) ?_
  refine nZ Z (AJ ?_);refine ⟨_, Iu _ hpo, rfl, ?_⟩;refine eZ Z (WO_evF tys Z Z (AA Z) (d := .t _) Z (nZ Z (WO_evF tys Z Z (AA Z) (d := .t _) Z (nZ Z (eK 2 Z (nB (sQ (sQ (kY [1,4,5,6,7,8,9,10,11,12,13,14,15,16,17,18,19,20,21] Z (rG (eK 3 Z (WO_le (Le.known (t := 79) false Z (by simp)) ?_))))))))))));refine xK 4 Z (WO_le (Le.known (t := 83) false Z (by simp)) ?_);refine eK 2 Z (kZ [1,4,5,6,7,10,11,12,13,14,15,16,17,18,19,20,21,85] Z (xK 3 Z (WO_le (Le.known (t := 88) false Z (by simp)) ?_)));refine xK 5 Z (WO_le (Le.known (t := 93) false Z (by simp)) ?_);refine eZ Z (kZ [1,4,5,6,7,10,11,14,15,16,17,18,19,20,21,94] Z (xK 4 Z (WO_le (Le.known (t := 98) false Z (by simp)) ?_)));refine xK 5 Z (WO_le (Le.known (t := 103) false Z (by simp)) ?_);refine kZ [1,4,5,6,7,10,11,14,15,18,19,20,21,100,103] Z (xK 5 Z (WO_le (Le.known (t := 108) false Z (by simp)) ?_));refine xK 4 Z (kZ [1,4,5,6,7,10,11,14,15,18,110,111,112] Z (xZ Z (WO_le (Le.known (t := 113) false Z (by simp)) ?_)));refine xK 3 Z ?_;refine DS (α := Bool) 6 Z Z [1, 4, 5, 6, 7, 10, 14, 15, 18, 115] [5] (fun (x : Bool) => [(122, .t (.bool x))]) (fun (x : Bool) => []) (fun (x : Bool) => x = false) ?_ (fun e1 hx => ?_)
  ·
    refine xK 2 Z ?_;refine gB (fun h2 => ?_) (fun h2 => ?_)
    ·
      simp only [HS] at h2;refine xK 3 Z (WO_le (Le.known (t := 122) false Z (by rw [OS]; first | (simp; done) | (simp_all; done))) ?_);refine kZ [1,4,5,6,7,10,14,15,18,115,122] Z (oN (jQ _ ?_));dsimp only
      all_goals rfl
    refine xK 3 Z (kZ [1,4,5,6,7,10,14,15,18,115,116,121] Z (xZ Z (WO_le (Le.known (t := 122) false Z (by rw [OS]; first | (simp; done) | (simp_all; done))) ?_)));refine oN (jQ _ ?_);dsimp only
    all_goals rfl
  have he1 := hx
  refine nZ Z (eZ Z (WO_le (Le.known (t := 123) false Z (by simp [he1])) ?_));refine xK 2 Z ?_;refine DS (α := Bool) 6 Z Z [1, 4, 5, 6, 7, 14, 15, 124] [5] (fun (x : Bool) => [(131, .t (.bool x))]) (fun (x : Bool) => []) (fun (x : Bool) => x = false) ?_ (fun e2 hx => ?_)
  ·
    refine xZ Z ?_;refine gB (fun h2 => ?_) (fun h2 => ?_)
    ·
      simp only [HS] at h2;refine xK 4 Z (WO_le (Le.known (t := 131) false Z (by rcases Bool.eq_false_or_eq_true (fuelOk (dpP a)) with hq | hq <;> first | rfl | (obtain ⟨q1, q2⟩ := Kn hq; first | rfl | (simp [q1, q2]; done) | (simp_all; done)) | (simp_all; done))) ?_);refine oN (jQ _ ?_);dsimp only
      all_goals rfl
    refine xK 2 Z ?_;refine gB (fun h3 => ?_) (fun h3 => ?_)
    ·
      simp only [HS] at h3;refine xK 2 Z (WO_le (Le.known (t := 131) false Z (by rcases Bool.eq_false_or_eq_true (fuelOk (dpP a)) with hq | hq <;> first | rfl | (obtain ⟨q1, q2⟩ := Kn hq; first | rfl | (simp [q1, q2]; done) | (simp_all; done)) | (simp_all; done))) ?_);refine oN (jQ _ ?_);dsimp only
      all_goals rfl
    refine xK 3 Z (WO_le (Le.known (t := 131) false Z (by rcases Bool.eq_false_or_eq_true (fuelOk (dpP a)) with hq | hq <;> first | rfl | (obtain ⟨q1, q2⟩ := Kn hq; first | rfl | (simp [q1, q2]; done) | (simp_all; done)) | (simp_all; done))) ?_);refine kZ [1,4,5,6,7,14,15,124,131] Z (oN (jQ _ ?_));dsimp only
    all_goals rfl
  have he2 := hx
  refine nZ Z (eZ Z (WO_le (Le.known (t := 132) false Z (by simp [he2])) ?_));refine nB (BA Z (AC (tN (sQ (sG (eZ Z ?_))))));refine DS (α := Bool) 4 Z Z [1, 4, 5, 6, 14, 15] [5] (fun (x : Bool) => [(137, .t (.bool x))]) (fun (x : Bool) => []) (fun (x : Bool) => x = (A4 (dpP a) && decide (B8 (dpP a) ≤ 12))) ?_ (fun k1 hx => ?_)
  ·
    refine eZ Z ?_;refine gB (fun h2 => ?_) (fun h2 => ?_)
    ·
      simp only [HS] at h2;refine xK 2 Z (oN (jQ _ ?_))
      all_goals (first | rfl | (simp_all; done))
    refine xK 3 Z (oN (jQ _ ?_))
    all_goals (first | rfl | (simp_all; done))
  have hk1 := hx
  refine nZ Z (nB ?_);refine As (α := Bool) [1, 5, 14, 15] [5] (fun x => [(4, .t (.bool x))]) (fun x => []) (fun x => x = false) ?_ (fun u0 hx => ?_)
  ·
    refine AB Z (fun h2 => ?_) (fun h2 => ?_)
    ·
      refine sQ ?_
      have hq : (A4 (dpP a) && decide (B8 (dpP a) ≤ 12)) = true := by rw [← hk1]; assumption
      rw [SC, decide_eq_true_eq] at hq
      have hq12 := hq.2
      obtain ⟨d1, d2, d3⟩ := MX (p := dpP a) hq.1 hq.2
      have hrun : Fun Tryz.prog 15 [.t (dpP a).tt, .t (T.ints []), .t (.int (B8 (dpP a))), .t (.int 600)] (.tup [(Nf (dpP a) [] (B8 (dpP a)).toNat 600).dd, .t (.bool (DJ (dpP a) [] (B8 (dpP a)).toNat 600))]) := by
       have h := Gb (dpP a) [] (B8 (dpP a)).toNat 600 hpo (by simp) (by omega) (by omega)
       rw [show (((B8 (dpP a)).toNat : Nat) : Int) = B8 (dpP a) from by omega] at h;exact h
      refine rG (eZ Z ?_)
      try refine WO_le (Le.freeze (u := 139) rfl) ?_
      refine nZ Z (eZ Z (DT Z Z (AA Z) Z Z (es := [.t (dpP a).tt, .t (T.ints []), .t (.int (B8 (dpP a))), .t (.int 600)]) (by first | exact ResL.t (ResL.nil 1 (ResL.t (ResL.t ResL.done))) | exact ResL.aggT (ResL.t ResL.done) (ResL.nil 1 (ResL.t (ResL.t ResL.done)))) hrun Z ?_));refine nZ Z (D7 Z Z (AA Z) (.inr Z) Z Z (nZ Z (DC Z Z (AA Z) Z Z Z Z (WO_le (Le.freeze (u := 142) Z) (nZ Z (WO_evF tys Z Z (AA Z) (d := .t _) Z (nZ Z (AL tys Z Z (AA Z) Z Z Z (nZ Z (sT Z (nZ Z (eZ Z (kZ [1,4,5,14,15,22,23] Z (nA (eK 2 Z ?_)))))))))))))));refine WO_le (Le.known (t := 145) false Z (by simp [d1])) ?_;refine xK 4 Z (WO_le (Le.known (t := 149) false Z (by simp [d2])) ?_);refine eZ Z (nB (BA Z (AC (jQ _ ?_))));dsimp only
      all_goals rfl
    refine AC (jQ _ ?_);dsimp only
    all_goals rfl
  have hu0 := hx
  refine tN (sQ (sQ (kY [1,4,5,14,15] Z (rG (eZ Z ?_)))));refine DS (α := Bool) 4 Z Z [1, 4, 5, 14] [5] (fun (x : Bool) => [(155, .t (.bool x))]) (fun (x : Bool) => []) (fun (x : Bool) => x = (fuelOk (dpP a) && decide (Cr (dpP a) ≤ 600))) ?_ (fun k2 hx => ?_)
  ·
    refine eZ Z ?_;refine gB (fun h2 => ?_) (fun h2 => ?_)
    ·
      simp only [HS] at h2;refine xK 2 Z (oN (jQ _ ?_))
      all_goals (first | rfl | (simp_all; done))
    refine xK 3 Z (oN (jQ _ ?_))
    all_goals (first | rfl | (simp_all; done))
  have hk2 := hx
  refine nZ Z (nB ?_);refine As (α := Bool) [1] [] (fun x => [(4, .t (.bool x))]) (fun x => []) (fun x => x = false) ?_ (fun u1 hx => ?_)
  ·
    refine AB Z (fun h2 => ?_) (fun h2 => ?_)
    ·
      refine sQ ?_
      have hq : (fuelOk (dpP a) && decide (Cr (dpP a) ≤ 600)) = true := by rw [← hk2]; assumption
      rw [SC, decide_eq_true_eq] at hq
      have hq6 := hq.2
      obtain ⟨f1, f2, f3⟩ := MU (p := dpP a) hq.1 hq.2
      have hrun2 : Fun Tryz.prog 15 [.t (dpP a).tt, .t (T.ints []), .t (.int 12), .t (.int (Cr (dpP a)))] (.tup [(Nf (dpP a) [] 12 (Cr (dpP a)).toNat).dd, .t (.bool (DJ (dpP a) [] 12 (Cr (dpP a)).toNat))]) := by
       have h := Gb (dpP a) [] 12 (Cr (dpP a)).toNat hpo (by simp) (by omega) (by omega)
       rw [show (((Cr (dpP a)).toNat : Nat) : Int) = Cr (dpP a) from by omega] at h;exact h
      refine rG (eZ Z ?_)
      try refine WO_le (Le.freeze (u := 157) rfl) ?_
      refine nZ Z (eZ Z (DT Z Z (AA Z) Z Z (es := [.t (dpP a).tt, .t (T.ints []), .t (.int 12), .t (.int (Cr (dpP a)))]) (by first | exact ResL.t (ResL.nil 1 (ResL.t (ResL.t ResL.done))) | exact ResL.aggT (ResL.t ResL.done) (ResL.nil 1 (ResL.t (ResL.t ResL.done)))) hrun2 Z ?_));refine nZ Z (D7 Z Z (AA Z) (.inr Z) Z Z (nZ Z (DC Z Z (AA Z) Z Z Z Z (WO_le (Le.freeze (u := 160) Z) (nZ Z (WO_evF tys Z Z (AA Z) (d := .t _) Z (nZ Z (AL tys Z Z (AA Z) Z Z Z (nZ Z (sT Z (nZ Z (eZ Z (kZ [1,4,24,25] Z (nA (eK 2 Z ?_)))))))))))))));refine WO_le (Le.known (t := 163) false Z (by simp [f1])) ?_;refine xK 4 Z (WO_le (Le.known (t := 167) false Z (by simp [f2])) ?_);refine eZ Z (nB (BA Z (AC (jQ _ ?_))));exact hu0
    refine AC (jQ _ ?_);exact hu0
  have hu1 := hx
  refine tN (sQ (kY [1,4] Z (rG (eZ Z (A2 Z Z (AA Z) Z Z Z Z Z (IE b hcb) Z (eZ Z (DC Z Z (AA Z) Z Z Z Z ?_)))))))
  first | refine WO_le (Le.adoptE (u := 172) 172 rfl (by first | exact Ia | exact rfl)) ?_ | skip
  refine nZ Z (WO_evF tys Z Z (AA Z) (d := .t _) Z (nZ Z (AL tys Z Z (AA Z) Z Z Z (nZ Z (sT Z (nZ Z (eZ Z (nB (sQ (kY [4,26,27] Z (rG (eZ Z ?_))))))))))))
  try refine WO_le (Le.freeze (u := 175) rfl) ?_
  refine nZ Z (eZ Z (AJ ?_));refine ⟨_, H5 _ _ hro, rfl, ?_⟩;refine D7 Z Z (AA Z) (.inr Z) Z Z (nZ Z (DC Z Z (AA Z) Z Z Z Z (WO_le (Le.freeze (u := 178) Z) (nZ Z (WO_evF tys Z Z (AA Z) (d := .t _) Z (nZ Z (eK 2 Z (nB (sQ (kY [4,26,27,28,29] Z (rG (eZ Z ?_))))))))))))
  try refine WO_le (Le.freeze (u := 181) rfl) ?_
  refine nZ Z (eZ Z (A2 Z Z (AA Z) Z Z Z Z Z (Hq _ _ hro) Z (eZ Z (WO_evF tys Z Z (AA Z) (d := .t _) Z (nZ Z (WO_evF tys Z Z (AA Z) (d := .t _) Z (nZ Z (eK 2 Z (nB (sQ (kY [4,27,28,29,30,31] Z (rG (eK 3 Z (WO_le (Le.known (t := 188) true Z (by simp)) ?_))))))))))))));refine xK 3 Z (gY Z (AJ ?_));refine ⟨_, Iy _ (by omega), rfl, ?_⟩;refine WO_le (Le.known (t := 192) true Z (by simp)) ?_;refine eK 2 Z (WO_le (Le.known (t := 194) true Z (by simp)) ?_);refine kZ [4,27,28,29,194] Z (xK 3 Z ?_);refine gB (fun h2 => ?_) (fun h2 => ?_)
  ·
    simp only [HS] at h2;refine xK 5 Z (nB (rT (eR ?_)))
    · rfl
  simp only [HS] at h2;refine xK 2 Z (gY Z (AJ ?_));refine ⟨_, RV _ _ (by omega), rfl, ?_⟩;refine xK 3 Z (kZ [4] Z (nB (rT (eR ?_))))
  · (rw [decide_eq_true (Nc (by assumption))]; done)
end Go.Proofs.YtddfnpiikkilhaaGreat
