/- The law of functions that are moved or left out, walked. -/
import Derived.Test.YtddfnpiikkilhaaGq
import Derived.Test.YtddfnpiikkilhaaGf
set_option linter.unusedVariables false
set_option linter.unusedSimpArgs false
set_option maxRecDepth 10000
set_option maxHeartbeats 4000000
namespace Go.Proofs.Ytddfnpiikkilhaa
open Go.Eng
theorem J8 (cd : List Int) (hcd : Ct cd) : Fun Try.prog 47 [.t (T.bytes cd)] (A2 [.agg [.t (T.Funcs (pR cd).funcs)]]) := by
 refine Fun.begin tys Try.func47 Z Z (N := 9) [(0, .t (T.bytes cd))] Z Z (fun w0 G F0 => ?_);refine sG (AF tys Z Z (AA Z) Z Z Z (nZ Z (nA (eZ Z ?_))));refine G2 (u := 4) 99 Z (fun pv => ?_);refine nZ Z (AH tys Z Z (AA Z) Z Z Z (by kernel_rfl) Z Z Z Z Z Z (AV Z Z (AA Z) Z Z (nZ Z (eZ Z (nA ?_)))));refine Rk (u := 6) (pid := 1006) Z Z (fun bw => ?_);refine nZ Z (eZ Z (WO_le (Le.close (u := 6) 1006 Z Z Z) (nZ Z ?_)));refine KQ (rid := 99) [6] Z Z (AA Z) Z Z (by repeat (first | exact ResQ.done | refine ResQ.pin0 1006 Z ?_ | refine ResQ.t ?_ | refine ResQ.nil 1 ?_)) Z (by repeat (first | exact trivial | refine ⟨rfl, rfl, ?_⟩)) (by decide) (G0 cd cu0 bw pv hcd (by decide) (by decide)) Z Z Z ?_;refine nZ Z (WO_le (Le.open (u := 6) 1006 Z Z Z Z) (nZ Z (WO_le (Le.freeze (u := 8) Z) (nZ Z (sT Z (nZ Z (nB (rT (eR ?_)))))))))
 ·rfl
theorem HN (cd : List Int) (hcd : Ct cd) : Fun Try.prog 27 [.t (T.bytes cd)] (A2 [.agg [.t (T.Funcs (pR cd).funcs)]]) := by
 refine Fun.begin tys Try.func27 Z Z (N := 5) [(0, .t (T.bytes cd))] Z Z (fun w0 G F0 => ?_);refine sG (AF tys Z Z (AA Z) Z Z Z (nZ Z (nA (eZ Z (CA Z Z (AA Z) Z Z Z Z Z (J8 cd hcd) Z (sT Z (nZ Z (nB (rT (eR ?_))))))))))
 ·rfl
def I0 (l : List Int) (k i : Int) : List Int := (l.set k.toNat (at0 0 l i)).set i.toNat (at0 0 l k)
def HH (cd : List Int) : Nat → Int → List Int → Cu → List Int × Cu
 | 0, _, l, c => (l, c)
 | m + 1, k, l, c => HH cd m (k + 1) (I0 l k (1 + pickV cd k c)) (curC cd k c)
def mv0 (cd : List Int) : List Int × Cu := HH cd ((pR cd).funcs.length - 1) 1 (Bs (pR cd).funcs.length) (pC cd)
def Qe (cd : List Int) : List Int := if pickV cd 20 (mv0 cd).2 = 0 then (mv0 cd).1.set 0 (pickV cd 3 (curC cd 20 (mv0 cd).2)) else (mv0 cd).1
theorem Lj {cd : List Int} : ∀ (m : Nat) (k : Int) (l : List Int) (c : Cu), (HH cd m k l c).1.length = l.length ∧ c.1 ≤ (HH cd m k l c).2.1 ∧ (HH cd m k l c).2.1 ≤ c.1 + 2 * m
 | 0, k, l, c => by simp [HH]
 | m + 1, k, l, c => by
  have h1 := AL (cd := cd) (n := k) (c := c)
  have h2 := Lj (cd := cd) m (k + 1) (I0 l k (1 + pickV cd k c)) (curC cd k c)
  rw [HH]
  have h3 : (I0 l k (1 + pickV cd k c)).length = l.length := by simp [I0]
  omega
theorem NW (n : Nat) : Bs (n + 1) = Bs n ++ [(n : Int)] := by simp [Bs, List.range_succ]
theorem Qd (cd : List Int) : (Qe cd).length = (pR cd).funcs.length := by
 have h := (Lj (cd := cd) ((pR cd).funcs.length - 1) 1 (Bs (pR cd).funcs.length) (pC cd)).1
 rw [Aw] at h;unfold Qe;split
 ·rw [TN]; exact h
 ·exact h
theorem J7 (cd : List Int) (hcd : Ct cd) : Fun Try.prog 23 [.t (T.bytes cd)] (A2 [.agg [.t (T.Funcs (pR cd).funcs)], .own (T.ints (Qe cd))]) := by
  have hpc := pC_at hcd
  obtain ⟨hl1, hl4, hlf⟩ := MN (c := cu0) hcd (by decide)
  have e0 : (pR cd).funcs.length = (KG cd cu0).1.funcs.length := rfl
  refine Fun.begin tys Try.func23 Z Z (N := 60) [(0, .t (T.bytes cd))] Z Z (fun w0 G F0 => ?_);refine sG (AF tys Z Z (AA Z) Z Z Z (nZ Z (eZ Z (nA (eZ Z ?_)))));refine G2 (u := 11) 99 Z (fun pv => ?_);refine nZ Z (AH tys Z Z (AA Z) Z Z Z (by kernel_rfl) Z Z Z Z Z Z (AV Z Z (AA Z) Z Z (nZ Z (eZ Z (nA ?_)))));refine Rk (u := 13) (pid := 1013) Z Z (fun bw => ?_);refine nZ Z (eZ Z (WO_le (Le.close (u := 13) 1013 Z Z Z) (nZ Z ?_)));refine KQ (rid := 99) [13] Z Z (AA Z) Z Z (by repeat (first | exact ResQ.done | refine ResQ.pin0 1013 Z ?_ | refine ResQ.t ?_ | refine ResQ.nil 1 ?_)) Z (by repeat (first | exact trivial | refine ⟨rfl, rfl, ?_⟩)) (by decide) (G0 cd cu0 bw pv hcd (by decide) (by decide)) Z Z Z ?_;refine nZ Z (WO_le (Le.open (u := 13) 1013 Z Z Z Z) (nZ Z (WO_le (Le.freeze (u := 15) Z) (nZ Z (AF tys Z Z (AA Z) Z Z Z (nZ Z (kZ [2,3,4,5,15] Z (sT Z (nZ Z (nA (eZ Z (WO_le (Le.nilOwn (u := 6) 1 Z) (nZ Z (WO_le (Le.adoptE (u := 6) 106 Z Z) (nZ Z ?_)))))))))))))));refine nB (sQ (sG (eK 2 Z (evE ?_))));refine eZ Z (nB (AD ?_));refine lK (α := Int × List T × Nat) [2, 3, 4, 5, 18] [2, 5, 13, 99, 1013] (fun x => [(19, .t (.int (x.1))), (6, .sl 106 0 (x.2.2))]) (fun x => [(106, .L 1 (x.2.1))]) (fun x => 0 ≤ (x.1) ∧ (x.1) ≤ (pR cd).funcs.length ∧ (x.2.2) = (x.2.1).length ∧ (x.2.1) = (Bs (x.1).toNat).map T.int) (fun x => Int.toNat ((pR cd).funcs.length - (x.1))) (0, [], 0) ?_ (fun x hx => ?_)
  · exact ⟨by omega, by omega, rfl, rfl⟩
  obtain ⟨k, ys, n⟩ := x
  obtain ⟨hk0, hk1, hn, hys⟩ := hx
  dsimp only at hk0 hk1 hn hys ⊢;refine nY Z (sG (eZ Z (nB (sQ ?_))));refine AB Z (fun h1 => ?_) (fun h1 => ?_)
  ·
    simp only [HS] at h1;refine AC (tN (sQ (AD (sG (eK 2 Z (nB (rG (eK 2 Z (bZ [T.int k] ?_)))))))));refine nZ Z (AE tys Z Z (AA Z) Z Z Z Z Z (.own Z (by first | omega | (simp only [Sm]; omega))) Z (.own Z (by first | decide | omega)) (by decide) (by simp only [Sq, Sp, List.length_nil]; rw [hys, Sk, Aw]; omega) (by decide) Z ?_);refine nZ Z (eZ Z (oN (bN (tN (kY [2,3,4,5,6,7,18,19,20,21,22,23,24,25] Z (rG (evI ?_)))))));refine eZ Z (oN ?_);refine lQ (_, _, _) ?_ ?_
    · dsimp only
      subst hn;refine ⟨by omega, by omega, by simp, ?_⟩;rw [Sy, hys, show (k + 1).toNat = k.toNat + 1 from by omega, NW, S5, show ((k.toNat : Nat) : Int) = k from by omega];rfl
    · (show Int.toNat _ < Int.toNat _); omega
  simp only [HS] at h1;refine AN (tE (AJ (AI (tN (sQ (sQ ?_))))))
  have hkk : k.toNat = (pR cd).funcs.length := by omega
  subst hn;rw [hkk] at hys;subst hys;rw [Sk, Aw];refine nY Z (rG (eZ Z (nB (AD ?_))));refine lK (α := Int × List Int × Cu) [2, 3, 4, 5] [2, 5, 99, 1013] (fun x => [(8, .t (.int (x.1))), (6, .sl 106 0 (pR cd).funcs.length)]) (fun x => [(106, .L 1 ((x.2.1).map T.int)), (13, .box (cuC pv (x.2.2)))]) (fun x => 1 ≤ (x.1) ∧ (x.1) ≤ (pR cd).funcs.length ∧ (x.2.1).length = (pR cd).funcs.length ∧ HH cd ((pR cd).funcs.length - (x.1)).toNat (x.1) (x.2.1) (x.2.2) = mv0 cd ∧ (pC cd).1 ≤ (x.2.2).1 ∧ (x.2.2).1 ≤ (pC cd).1 + 2 * (x.1)) (fun x => Int.toNat ((pR cd).funcs.length - (x.1))) (1, Bs (pR cd).funcs.length, pC cd) ?_ (fun x hx => ?_)
  · dsimp only
    exact ⟨by omega, by omega, Aw _, by unfold mv0; rw [show ((pR cd).funcs.length - 1 : Int).toNat = (pR cd).funcs.length - 1 from by omega], by omega, by omega⟩
  obtain ⟨k, l, c'⟩ := x
  obtain ⟨hk0, hk1, hl, hre, hca, hcb⟩ := hx
  dsimp only at hk0 hk1 hl hre hca hcb ⊢;refine nY Z (sQ (sG (eK 2 Z (evE ?_))));refine eZ Z (nB ?_);refine AB Z (fun h2 => ?_) (fun h2 => ?_)
  ·
    simp only [HS] at h2;refine AC (tN (sQ (AD (sQ ?_))))
    have hv := Aa (n := k) (c := c') hcd (by omega)
    have hv' := hv.2.1 (by omega)
    have hcc := AL (cd := cd) (n := k) (c := c')
    refine rG (eK 2 Z (WO_le (Le.close (u := 13) 1013 Z Z Z) (nZ Z ?_)));refine cP [13] (hm := (AY cd k c' bw pv hcd (by omega) (by omega))) (k := ?_);refine nZ Z (WO_le (Le.open (u := 13) 1013 Z Z Z Z) (nZ Z (evI ?_)));refine eZ Z (kZ [2,3,4,5,6,8,9,27,28,29,30,33,34,35,36] Z (nA (eK 2 Z (Ae tys Z Z (AA Z) Z Z Z Z Z Z Z Z (by omega) (by omega) (Al tys Z Z (AA Z) Z Z Z Z (D1 _ _ (by omega) (by omega)) Z (eZ Z (nA (eK 4 Z (kZ [2,3,4,5,6,8,9,10,27,28,29,30,33,34,35,36,37,38,39,40,41,42,43,44] Z (Ae tys Z Z (AA Z) Z Z Z Z Z Z Z Z (by omega) (by omega) (Al tys Z Z (AA Z) Z Z Z Z (D1 _ _ (by omega) (by omega)) Z (Ae tys Z Z (AA Z) Z Z Z Z Z Z Z Z (by omega) (by omega) (BD tys (T.int (l[(1 + pickV cd k c').toNat]'(by omega))) Z Z Z Z Z Z (S7 _) (by rw [Sk]; omega) Z (AbsL.v' AbsL.nil') Z Z Z ?_)))))))))))));refine nZ Z (nB (rG (eK 3 Z (Ae tys Z Z (AA Z) Z Z Z Z Z Z Z Z (by omega) (by omega) (BD tys (T.int (l[k.toNat]'(by omega))) Z Z Z Z Z Z (S7 _) (by rw [TN, Sk]; omega) Z (AbsL.v' AbsL.nil') Z Z Z ?_)))));refine nZ Z (kZ [2,3,4,5,6,8,9,10,27,28,29,30,33,34,35,36,37,38,39,40,41,42,43,44,45,46,47,48,49,50,51] Z (oN (bN (tN ?_))))
    have hsw : ((List.map T.int l).set k.toNat (T.int (l[(1 + pickV cd k c').toNat]'(by omega)))).set (1 + pickV cd k c').toNat (T.int (l[k.toNat]'(by omega))) = (I0 l k (1 + pickV cd k c')).map T.int := by
     rw [I0, Tj, Tj, DU (by omega) (by omega), DU (by omega) (by omega)]
    rw [hsw];refine rG (eZ Z (evI ?_));refine eZ Z (oN ?_);refine lQ (_, I0 l k (1 + pickV cd k c'), curC cd k c') ?_ ?_
    · dsimp only
      refine ⟨by omega, by omega, by simp only [I0, TN]; exact hl, ?_, by omega, by omega⟩;rw [← hre, show ((pR cd).funcs.length - k).toNat = ((pR cd).funcs.length - (k + 1)).toNat + 1 from by omega, HH]
    · (show Int.toNat _ < Int.toNat _); omega
  simp only [HS] at h2;refine AN (tE (AJ (AI (tN (sQ (sQ ?_))))))
  have hz : ((pR cd).funcs.length - k).toNat = 0 := by omega
  rw [hz, HH] at hre
  obtain ⟨rfl, rfl⟩ : l = (mv0 cd).1 ∧ c' = (mv0 cd).2 := ⟨congrArg Prod.fst hre, congrArg Prod.snd hre⟩
  have hco := AL (cd := cd) (n := 20) (c := (mv0 cd).2)
  refine rG (eZ Z (WO_le (Le.close (u := 13) 1013 Z Z Z) (nZ Z ?_)));refine cP [13] (hm := (DJ cd 20 (mv0 cd).2 bw pv hcd (by omega) (by omega))) (k := ?_);refine nZ Z (WO_le (Le.open (u := 13) 1013 Z Z Z Z) (nZ Z (nB ?_)));refine AB Z (fun h3 => ?_) (fun h3 => ?_)
  ·
    simp only [HS] at h3;refine rG (eK 2 Z (WO_le (Le.close (u := 13) 1013 Z Z Z) (nZ Z ?_)));refine cP [13] (hm := (AY cd 3 (curC cd 20 (mv0 cd).2) bw pv hcd (by omega) (by omega))) (k := ?_);refine nZ Z (WO_le (Le.open (u := 13) 1013 Z Z Z Z) (nZ Z (kZ [2,3,5,6,54,56] Z (Ae tys Z Z (AA Z) Z Z Z Z Z Z Z Z (by omega) (by omega) (BD tys (T.int (pickV cd 3 (curC cd 20 (mv0 cd).2))) Z Z Z Z Z Z (S7 _) (by rw [Sk]; omega) Z (AbsL.v' AbsL.nil') Z Z Z ?_)))));refine nZ Z (nA (eZ Z ?_))
    try refine WO_le (Le.freeze (u := 58) rfl) ?_
    refine nZ Z (eZ Z (sT Z (nZ Z (eZ Z (nB (AQ (Le.gather (u := 3) (id := 106) Z Z (by first | omega | (simp; done) | (simp; omega))) ?_))))));refine nY Z (rT (eR ?_))
    · have hlm : (mv0 cd).1.length = (KG cd cu0).1.funcs.length := by omega
      unfold Qe
      first
      | (rw [if_pos (by assumption), Sn (by rw [TN, Sk]; omega), T.ints, Tj]; rfl)
  simp only [HS] at h3;refine AC (tN (sG (eZ Z ?_)))
  try refine WO_le (Le.freeze (u := 58) rfl) ?_
  refine nZ Z (eZ Z (sT Z (nZ Z (kZ [2,3,59] Z (eZ Z (nB (AQ (Le.gather (u := 3) (id := 106) Z Z (by first | omega | (simp; done) | (simp; omega))) ?_)))))));refine nY Z (rT (eR ?_))
  · have hlm : (mv0 cd).1.length = (KG cd cu0).1.funcs.length := by omega
    unfold Qe
    first
    | (rw [if_neg (by assumption), Sn (by rw [Sk]; omega)]; rfl)
def Ou.tt (o : Ou) : T := .agg [.int o.code, .int o.value, T.ints o.trace, .int o.used]
theorem Ja {p : Prog} {inp : List Int} {most fuel : Nat} : (Ks p inp most fuel).trace.length ≤ fuel := by
 unfold Ks;split
 ·rename_i h
  have hg := PL (by unfold C2 at h; rw [Sl] at h; exact h.1)
  have hm := CV hg
  have := ((Hm (inp := inp) hg most fuel).call 0 [] none ⟨0, fuel, 0, []⟩ (by omega) hm.1 (by rw [hm.2]; rfl) (Tm _)).le.2.1
  simp only [List.length_nil] at this;show (Fn p inp most fuel).2.2.2.trace.length ≤ fuel;unfold Fn;omega
 ·exact Tm _
theorem EX {p : Prog} {most fuel : Nat} (hg : AS p = true) (h1 : 1 ≤ most) (h2 : most ≤ 12) (h3 : fuel ≤ 600) : C2 p [] most fuel = true := by
 unfold C2 Cq;rw [hg, decide_eq_true (show 1 ≤ (most : Int) ∧ (most : Int) ≤ 12 from ⟨by omega, by omega⟩), decide_eq_true h3];rfl
theorem Lb {p q : Prog} {most fuel : Nat} (hp : C2 p [] most fuel = true) (hq : C2 q [] most fuel = true) (h : Fn q [] most fuel = Fn p [] most fuel) : Ks q [] most fuel = Ks p [] most fuel := by
 rw [Ks, Ks, if_pos hp, if_pos hq];unfold outP;rw [h]
theorem Qg {p : Prog} {to : List Int} (h : Bz p to = true) : AS (CF p to) = true ∧ C2 p [] 12 200 = true ∧ C2 (CF p to) [] 12 200 = true ∧ Ks (CF p to) [] 12 200 = Ks p [] 12 200 := by
 obtain ⟨h1, h2, h3⟩ := Qf h
 have hg : AS p = true := by unfold Bz at h; simp only [Sl] at h; exact h.1.1.1.1
 have hgl := AX hg
 have a := EX (most := 12) (fuel := 200) hg (by decide) (by decide) (by decide)
 have b := EX (most := 12) (fuel := 200) h1 (by decide) (by decide) (by decide)
 exact ⟨h1, a, b, Lb a b (Nv h2 ⟨by omega, by omega⟩ h3 200)⟩
theorem Q4 {p : Prog} (hg : AS p = true) : AS (Bb p) = true ∧ C2 p [] 12 200 = true ∧ C2 (Bb p) [] 12 200 = true ∧ Ks (Bb p) [] 12 200 = Ks p [] 12 200 := by
 obtain ⟨h1, h2, h3, h4⟩ := IV hg
 have a := EX (most := 12) (fuel := 200) hg (by decide) (by decide) (by decide)
 have b := EX (most := 12) (fuel := 200) h1 (by decide) (by decide) (by decide)
 exact ⟨h1, a, b, Lb a b (Nv h2 (OB hg) h3 200)⟩
theorem JB (o : Ou) (ho : o.trace.length ≤ 1048576) : Fun Try.prog 26 [.t o.tt, .t o.tt] (A2 [.t (.bool true)]) := by
 refine Fun.begin tys Try.func26 Z Z (N := 31) [(0, .t o.tt), (1, .t o.tt)] Z Z (fun w0 G F0 => ?_);refine sG (AV Z Z (AA Z) Z Z (nZ Z (AV Z Z (AA Z) Z Z (nZ Z (eZ Z (nA (eK 5 Z (WO_le (Le.known (t := 9) true Z (by simp)) ?_))))))));refine eZ Z (kZ [2,3,4,10] Z (xK 5 Z (WO_le (Le.known (t := 15) true Z (by simp)) ?_)));refine eZ Z (WO_le (Le.known (t := 16) true Z (by simp)) ?_);refine xK 3 Z (kZ [2,3,4,17,19] Z (xK 3 Z (WO_le (Le.known (t := 22) true Z (by simp)) ?_)));refine eZ Z (WO_le (Le.known (t := 23) true Z (by simp)) ?_);refine xK 5 Z (kZ [4,24,26,28] Z (gY Z (AM ?_)));refine ⟨_, CD _ (by omega), rfl, ?_⟩;refine eK 2 Z (nB (rT (eR ?_)))
 ·rfl
theorem GP (o q : Ou) (h : q = o) (ho : o.trace.length ≤ 1048576) : Fun Try.prog 26 [.t o.tt, .t q.tt] (A2 [.t (.bool true)]) := by
 rw [h];exact JB o ho
theorem Jk (a b : List Int) (ha : a.length ≤ 9223372036854775807) (hb : b.length ≤ 9223372036854775807) (hab : ∀ x, x ∈ a → 0 ≤ x ∧ x ≤ 255) (hbb : ∀ x, x ∈ b → 0 ≤ x ∧ x ≤ 255) : Fun Try.prog 5 [.t (T.bytes a), .t (T.bytes b)] (A2 [.t (.bool true)]) := by
 refine Fun.begin tys Try.func5 Z Z (N := 174) [(0, .t (T.bytes a)), (1, .t (T.bytes b))] Z Z (fun w0 G F0 => ?_);refine sG (eZ Z (nB (sQ (sG (eK 2 Z (AM ?_))))));refine ⟨_, SW a b ha hb, rfl, ?_⟩;refine nB ?_;refine AB Z (fun h1 => ?_) (fun h1 => ?_)
 ·
  refine sG (eZ Z (nB (rT (tR (eR ?_)))))
  ·rfl
 refine AC (tN (sQ ?_))
 have hca : Ct a := ⟨by simp_all; omega, hab⟩
 have hcb : Ct b := ⟨by simp_all; omega, hbb⟩
 have hpo : (pR a).ok 1048576 := PM hca (by decide) (by decide)
 have hro : (pR b).ok 1048576 := PM hcb (by decide) (by decide)
 have hmo : (CF (pR a) (Qe a)).ok 1048576 := Qa hpo
 have hdo : (Bb (pR b)).ok 1048576 := Qb hro
 have htl := Qd a
 have hpl : (pR a).funcs.length ≤ 1048576 := hpo.1.1
 have hrl : (pR b).funcs.length ≤ 1048576 := hro.1.1
 have hdl : (Bb (pR b)).funcs.length ≤ 1048576 := hdo.1.1
 have hul := Ka (pR b)
 refine rG (eZ Z (CA Z Z (AA Z) Z Z Z Z Z (J7 a hca) Z (A0 Z Z (AA Z) (.inr Z) Z Z (nZ Z (A1 Z Z (AA Z) Z Z Z Z (WO_le (Le.freeze (u := 36) Z) (nZ Z (A1 Z Z (AA Z) Z Z Z Z ?_))))))))
 first | refine WO_le (Le.adoptE (u := 37) 37 rfl (by first | exact Iq | exact rfl)) ?_ | skip
 refine nZ Z (kZ [1,4,36,37] Z (AF tys Z Z (AA Z) Z Z Z (nZ Z (sT Z (nZ Z (eZ Z (nA (eZ Z ?_))))))))
 try refine WO_le (Le.freeze (u := 39) rfl) ?_
 refine nZ Z (eZ Z (AM ?_));refine ⟨_, Jr _ _ hpo (by omega), rfl, ?_⟩;refine A0 Z Z (AA Z) (.inr Z) Z Z (nZ Z (A1 Z Z (AA Z) Z Z Z Z (WO_le (Le.freeze (u := 42) Z) (nZ Z (WO_evF tys Z Z (AA Z) (d := .t _) Z (nZ Z (kZ [1,4,5,6,42,43] Z (AF tys Z Z (AA Z) Z Z Z (nZ Z (sT Z (nZ Z (eZ Z (nA (eZ Z ?_))))))))))))))
 try refine WO_le (Le.freeze (u := 45) rfl) ?_
 refine nZ Z (eZ Z (AM ?_));refine ⟨_, I8 _ _ hpo (by omega), rfl, ?_⟩;refine A0 Z Z (AA Z) (.inr Z) Z Z (nZ Z (A1 Z Z (AA Z) Z Z Z Z (WO_le (Le.freeze (u := 48) Z) (nZ Z (WO_evF tys Z Z (AA Z) (d := .t _) Z (nZ Z (kZ [1,4,5,7,8,48,49] Z (AF tys Z Z (AA Z) Z Z Z (nZ Z (sT Z (nZ Z (eZ Z (nB (sQ (sG ?_)))))))))))))));refine eK 3 Z (WO_le (Le.known (t := 52) false Z (by simp)) ?_);refine eZ Z (WO_le (Le.known (t := 53) false Z (by simp)) ?_);refine xZ Z ?_
 try refine WO_le (Le.freeze (u := 54) rfl) ?_
 refine nZ Z (xZ Z ?_)
 try refine WO_le (Le.freeze (u := 55) rfl) ?_
 refine nZ Z (kZ [1,4,5,7,8,53,54,55] Z (gY Z (AM ?_)));refine ⟨_, FX _ hmo, rfl, ?_⟩;refine xZ Z (WO_le (Le.known (t := 57) false Z (by simp)) ?_);refine eZ Z (WO_le (Le.known (t := 58) false Z (by simp)) ?_);refine nB (A8 Z (AC (tN (sQ (sG (eZ Z (nB ?_)))))));refine A4 (α := Bool) [1] [] (fun x => [(4, .t (.bool x))]) (fun x => []) (fun x => x = false) ?_ (fun u0 hx => ?_)
 ·
  refine AB Z (fun h2 => ?_) (fun h2 => ?_)
  ·
   refine sQ ?_
   obtain ⟨m1, m2, m3, m4⟩ := Qg (p := pR a) (to := Qe a) (by assumption)
   have hrun1 := DN (pR a) [] 12 200 hpo (by decide) (by decide) (by decide)
   have hrun2 := DN (CF (pR a) (Qe a)) [] 12 200 hmo (by decide) (by decide) (by decide)
   have ht1 := Ja (p := pR a) (inp := []) (most := 12) (fuel := 200)
   refine rG (eZ Z ?_)
   try refine WO_le (Le.freeze (u := 61) rfl) ?_
   refine nZ Z (CO Z Z (AA Z) Z Z (es := [.t (pR a).tt, .t (T.ints []), .t (.int 12), .t (.int 200)]) (by first | exact ResL.t (ResL.nil 1 (ResL.t (ResL.t ResL.done))) | exact ResL.aggT (ResL.t ResL.done) (ResL.nil 1 (ResL.t (ResL.t ResL.done)))) hrun1 Z ?_);refine nZ Z (A0 Z Z (AA Z) (.inr Z) Z Z (nZ Z (A1 Z Z (AA Z) Z Z Z Z (WO_le (Le.freeze (u := 63) Z) (nZ Z (WO_evF tys Z Z (AA Z) (d := .t _) Z (nZ Z (kZ [1,4,7,63,64] Z (AF tys Z Z (AA Z) Z Z Z (nZ Z (sT Z (nZ Z (eZ Z (nA (eZ Z ?_)))))))))))))))
   try refine WO_le (Le.freeze (u := 66) rfl) ?_
   refine nZ Z (CO Z Z (AA Z) Z Z (es := [.t (CF (pR a) (Qe a)).tt, .t (T.ints []), .t (.int 12), .t (.int 200)]) (by first | exact ResL.t (ResL.nil 1 (ResL.t (ResL.t ResL.done))) | exact ResL.aggT (ResL.t ResL.done) (ResL.nil 1 (ResL.t (ResL.t ResL.done)))) hrun2 Z ?_);refine nZ Z (A0 Z Z (AA Z) (.inr Z) Z Z (nZ Z (A1 Z Z (AA Z) Z Z Z Z (WO_le (Le.freeze (u := 68) Z) (nZ Z (WO_evF tys Z Z (AA Z) (d := .t _) Z (nZ Z (AF tys Z Z (AA Z) Z Z Z (nZ Z (kZ [1,4,7,11,12,13,68,69] Z (sT Z (nZ Z (eZ Z (nA (eZ Z ?_)))))))))))))))
   try refine WO_le (Le.freeze (u := 70) rfl) ?_
   refine nZ Z (AM ?_);refine ⟨_, Js _ hmo, rfl, ?_⟩;refine eZ Z (WO_le (Le.known (t := 72) false Z (by simp [m1])) ?_);refine xK 3 Z (WO_le (Le.known (t := 75) false Z (by simp [m2])) ?_);refine eZ Z (WO_le (Le.known (t := 76) false Z (by simp [m1, m2])) ?_);refine kZ [1,4,11,13,14,76] Z (xK 3 Z (WO_le (Le.known (t := 79) false Z (by simp [m3])) ?_));refine eZ Z (WO_le (Le.known (t := 80) false Z (by simp [m3])) ?_);refine xK 2 Z ?_
   try refine WO_le (Le.freeze (u := 82) rfl) ?_
   refine nZ Z (xZ Z ?_)
   try refine WO_le (Le.freeze (u := 83) rfl) ?_
   refine nZ Z (gY Z (AM ?_));refine ⟨_, GP _ _ m4 (by omega), rfl, ?_⟩;refine xZ Z (WO_le (Le.known (t := 85) false Z (by simp)) ?_);refine kZ [1,4,81,85] Z (eZ Z (WO_le (Le.known (t := 86) false Z (by simp)) ?_));refine nB (A8 Z (AC (jQ _ ?_)));dsimp only
   all_goals rfl
  refine AC (jQ _ ?_);dsimp only
  all_goals rfl
 have hu0 := hx
 refine tN (sQ (kY [1,4] Z (rG (eZ Z (CA Z Z (AA Z) Z Z Z Z Z (HN b hcb) Z (AF tys Z Z (AA Z) Z Z Z (nZ Z (sT Z (nZ Z (nA (eZ Z ?_)))))))))))
 try refine WO_le (Le.freeze (u := 90) rfl) ?_
 refine nZ Z (AM ?_);refine ⟨_, IL _ hro, rfl, ?_⟩;refine A0 Z Z (AA Z) (.inr Z) Z Z (nZ Z (A1 Z Z (AA Z) Z Z Z Z (WO_le (Le.freeze (u := 92) Z) (nZ Z (WO_evF tys Z Z (AA Z) (d := .t _) Z (nZ Z (kZ [4,15,92,93] Z (AF tys Z Z (AA Z) Z Z Z (nZ Z (sT Z (nZ Z (eZ Z (nA (eZ Z ?_))))))))))))))
 try refine WO_le (Le.freeze (u := 95) rfl) ?_
 refine nZ Z (AM ?_);refine ⟨_, H2 _ hro, rfl, ?_⟩;refine A0 Z Z (AA Z) (.inr Z) Z Z (nZ Z (A1 Z Z (AA Z) Z Z Z Z (WO_le (Le.freeze (u := 97) Z) (nZ Z (WO_evF tys Z Z (AA Z) (d := .t _) Z (nZ Z (AF tys Z Z (AA Z) Z Z Z (nZ Z (kZ [4,15,16,17,18,97,98] Z (sT Z (nZ Z (eZ Z (nA (eZ Z ?_))))))))))))))
 try refine WO_le (Le.freeze (u := 100) rfl) ?_
 refine nZ Z (AM ?_);refine ⟨_, D4 _ hro, rfl, ?_⟩;refine A0 Z Z (AA Z) (.inr Z) Z Z (A1 Z Z (AA Z) Z Z Z Z ?_)
 first | refine WO_le (Le.adoptE (u := 102) 102 rfl (by first | exact Iq | exact rfl)) ?_ | skip
 refine nZ Z (WO_evF tys Z Z (AA Z) (d := .t _) Z (nZ Z (eK 2 Z (kZ [4,15,16,17,18,19,20,21] Z (nA (eZ Z ?_))))))
 try refine WO_le (Le.freeze (u := 105) rfl) ?_
 refine nZ Z (AM ?_);refine ⟨_, HE _ hro, rfl, ?_⟩;refine A0 Z Z (AA Z) (.inr Z) Z Z (A1 Z Z (AA Z) Z Z Z Z ?_)
 first | refine WO_le (Le.adoptE (u := 107) 107 rfl (by first | exact Iq | exact rfl)) ?_ | skip
 refine nZ Z (WO_evF tys Z Z (AA Z) (d := .t _) Z (nZ Z (eK 2 Z (nB (sQ (sQ (kY [4,15,16,17,18,19,20,21,22,23] Z (rG (eK 3 Z (WO_le (Le.known (t := 111) false Z (by simp)) ?_))))))))));refine xK 2 Z ?_
 try refine WO_le (Le.freeze (u := 113) rfl) ?_
 refine nZ Z (xZ Z ?_)
 try refine WO_le (Le.freeze (u := 114) rfl) ?_
 refine nZ Z (gY Z (AM ?_));refine ⟨_, FX _ hdo, rfl, ?_⟩;refine xZ Z (WO_le (Le.known (t := 116) false Z (by simp)) ?_);refine eZ Z (WO_le (Le.known (t := 117) false Z (by simp)) ?_);refine kZ [4,15,16,17,20,21,22,23,117] Z (xK 4 Z (WO_le (Le.known (t := 121) false Z (by simp)) ?_));refine eZ Z (WO_le (Le.known (t := 122) false Z (by simp)) ?_);refine xK 3 Z (gY Z (AM ?_));refine ⟨_, CD _ (by omega), rfl, ?_⟩;refine kZ [4,15,16,17,20,123,126] Z (xZ Z (WO_le (Le.known (t := 127) false Z (by simp)) ?_));refine eZ Z (WO_le (Le.known (t := 128) false Z (by simp)) ?_);refine nB (A8 Z (AC (tN (sQ (sG (eZ Z (nB ?_)))))));refine AB Z (fun h2 => ?_) (fun h2 => ?_)
 ·
  refine sQ ?_
  obtain ⟨d1, d2, d3, d4⟩ := Q4 (p := pR b) (by assumption)
  obtain ⟨d5, d6⟩ := LA (p := pR b) (by assumption)
  have hrun3 := DN (pR b) [] 12 200 hro (by decide) (by decide) (by decide)
  have hrun4 := DN (Bb (pR b)) [] 12 200 hdo (by decide) (by decide) (by decide)
  have ht2 := Ja (p := pR b) (inp := []) (most := 12) (fuel := 200)
  refine rG (eZ Z ?_)
  try refine WO_le (Le.freeze (u := 131) rfl) ?_
  refine nZ Z (CO Z Z (AA Z) Z Z (es := [.t (pR b).tt, .t (T.ints []), .t (.int 12), .t (.int 200)]) (by first | exact ResL.t (ResL.nil 1 (ResL.t (ResL.t ResL.done))) | exact ResL.aggT (ResL.t ResL.done) (ResL.nil 1 (ResL.t (ResL.t ResL.done)))) hrun3 Z ?_);refine nZ Z (A0 Z Z (AA Z) (.inr Z) Z Z (nZ Z (A1 Z Z (AA Z) Z Z Z Z (WO_le (Le.freeze (u := 133) Z) (nZ Z (WO_evF tys Z Z (AA Z) (d := .t _) Z (nZ Z (AF tys Z Z (AA Z) Z Z Z (nZ Z (kZ [4,15,16,20,24,133,134] Z (sT Z (nZ Z (eZ Z (nA (eZ Z ?_)))))))))))))))
  try refine WO_le (Le.freeze (u := 136) rfl) ?_
  refine nZ Z (CO Z Z (AA Z) Z Z (es := [.t (Bb (pR b)).tt, .t (T.ints []), .t (.int 12), .t (.int 200)]) (by first | exact ResL.t (ResL.nil 1 (ResL.t (ResL.t ResL.done))) | exact ResL.aggT (ResL.t ResL.done) (ResL.nil 1 (ResL.t (ResL.t ResL.done)))) hrun4 Z ?_);refine nZ Z (A0 Z Z (AA Z) (.inr Z) Z Z (nZ Z (A1 Z Z (AA Z) Z Z Z Z (WO_le (Le.freeze (u := 138) Z) (nZ Z (WO_evF tys Z Z (AA Z) (d := .t _) Z (nZ Z (AF tys Z Z (AA Z) Z Z Z (nZ Z (sT Z (nZ Z (kZ [4,15,16,20,24,25,26,139] Z (eZ Z (nA (eZ Z ?_)))))))))))))))
  try refine WO_le (Le.freeze (u := 141) rfl) ?_
  refine nZ Z (AM ?_);refine ⟨_, D4 _ hdo, rfl, ?_⟩;refine A0 Z Z (AA Z) (.inr Z) Z Z (A1 Z Z (AA Z) Z Z Z Z ?_)
  first | refine WO_le (Le.adoptE (u := 143) 143 rfl (by first | exact Iq | exact rfl)) ?_ | skip
  refine nZ Z (WO_evF tys Z Z (AA Z) (d := .t _) Z (nZ Z (eK 2 Z (nB (sQ (kY [4,15,16,20,24,25,26,27,28,29] Z (rG (eK 2 Z (WO_le (Le.known (t := 146) true Z (by simp [d2])) ?_)))))))));refine xK 3 Z (WO_le (Le.known (t := 149) true Z (by simp [d3])) ?_);refine xZ Z ?_
  try refine WO_le (Le.freeze (u := 150) rfl) ?_
  refine nZ Z (xZ Z ?_)
  try refine WO_le (Le.freeze (u := 151) rfl) ?_
  refine nZ Z (gY Z (AM ?_));refine ⟨_, GP _ _ d4 (by omega), rfl, ?_⟩;refine eZ Z (kZ [4,15,16,20,28,29,153] Z (eZ Z (WO_le (Le.known (t := 154) true Z (by simp)) ?_)));refine xK 3 Z (WO_le (Le.known (t := 157) true Z (by simp [d1])) ?_);refine xZ Z (gY Z (evE ?_));refine xK 3 Z (WO_le (Le.known (t := 162) true Z (by simp [d5])) ?_);refine kZ [4,15,16,20,162] Z (xK 2 Z (gY Z (evE ?_)));refine xZ Z (gY Z (evE ?_));refine gY Z (evI ?_);refine xK 2 Z (gY Z (evE ?_));refine kZ [4,162,168,171] Z (xK 3 Z (nB (rT (tR (eR ?_)))))
  ·simp_all
   omega
 refine AC (tN (sG (eZ Z (nB (rT (eR ?_))))))
 ·rfl
end Go.Proofs.Ytddfnpiikkilhaa
