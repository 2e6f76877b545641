/- Walks: an instruction read from its text, the reference's way. -/
import Derived.Test.YthinnpkpafmbcaaGreatDoorFa
set_option linter.unusedVariables false
set_option linter.unusedSimpArgs false
set_option maxRecDepth 10000
set_option maxHeartbeats 1000000
namespace Go.Proofs.YthinnpkpafmbcaaGreatDoor
open Go.Eng
noncomputable def int19 (s : Tx) : Int × Bool := ((readTok s).1.n, (readTok s).2 && decide ((readTok s).1.op = 1))
theorem Jz (s : Tx) (hs : s.length ≤ 1048576) : Fun Tryz.prog 82 [.t (T.str s)] (Aq [.t (.int (int19 s).1), .t (.bool (int19 s).2)]) := by
 refine Fun.begin tys Tryz.func82 Z Z (N := 19) [(0, .t (T.str s))] Z Z (fun w0 G F0 => ?_);refine sG (eK 2 Z (nA (eZ Z (AJ ?_))));refine ⟨_, GO _ (by assumption), rfl, ?_⟩;refine eZ Z (Ao Z Z (AA Z) Z Z Z Z ?_)
 first | refine AI (Le.adoptE (u := 9) 9 rfl (by first | exact NL | exact rfl)) ?_ | skip
 refine nZ Z (WO_evF tys Z Z (AA Z) (d := .t _) Z (nZ Z (AR tys Z Z (AA Z) Z Z Z (nZ Z (sT Z (nZ Z (kZ [2,3,4,10] Z (eZ Z (nB (sQ (A4 mixed (by kernel_rfl) (evQ ?_))))))))))));refine evQ ?_;refine evQ ?_;refine evQ ?_;refine Ma (fun h1 => ?_) (fun h1 => ?_)
 ·
  refine FV Z Z Z Z (AA Z) (evQ ?_);refine AS Z (FV Z Z Z Z (AA Z) (evQ ?_));refine FV Z Z Z Z (AA Z) (evQ ?_);refine evQ ?_;refine evQ ?_;refine evQ ?_;refine Bo (tN (rT (eR ?_)))
  ·simp_all [int19]
 iterate 3 (refine LZ rfl rfl rfl rfl rfl (AA rfl) ?_)
 refine evQ ?_;refine AS Z (evQ ?_);refine evQ ?_;refine Bo (tN (rT (eR ?_)))
 ·simp_all [int19]
theorem A8 {c : UInt8} : ∀ {l pre : Tx}, ∃ w ws, AH c pre l = w :: ws
 | [], pre => ⟨pre, [], rfl⟩
 | x :: l, pre => by
  rw [AH];split
  ·exact ⟨_, _, rfl⟩
  ·exact A8
noncomputable def numI (k : Int) (W : List Tx) : Option Int :=
 if Aw k then (if W.length = 2 then (if (int19 (W.getD 1 [])).2 then some (int19 (W.getD 1 [])).1 else none) else none) else if W.length = 1 then some 0 else none
noncomputable def insRd' (k : Int) (W : List Tx) : Ins × Bool :=
 if k < 0 then (⟨0, 0⟩, false) else match numI k W with
  | none => (⟨0, 0⟩, false)
  | some n => if Ca ⟨k, n⟩ then (⟨k, n⟩, true) else (⟨0, 0⟩, false)
noncomputable def insRd (s : Tx) : Ins × Bool := insRd' (BM ((AH 32 [] s).getD 0 []) (wordsL.drop 1) 1) (AH 32 [] s)
theorem Av {c : UInt8} : ∀ {l pre : Tx}, (AH c pre l).length ≤ l.length + 1
 | [], pre => by simp [AH]
 | x :: l, pre => by
  rw [AH];split
  ·have := Av (c := c) (l := l) (pre := []); simp; omega
  ·have := Av (c := c) (l := l) (pre := pre ++ [x]); simp; omega
theorem A1 {c : UInt8} : ∀ {l pre : Tx} {w : Tx}, w ∈ AH c pre l → w.length ≤ pre.length + l.length
 | [], pre, w, h => by simp [AH] at h; subst h; simp
 | x :: l, pre, w, h => by
  rw [AH] at h;split at h
  ·rcases N6.1 h with h | h
   ·subst h; simp
   ·have := A1 h; simp at this ⊢; omega
  ·have := A1 h; simp at this ⊢; omega
theorem GI {k : Int} {u0 : Tx} {ws : List Tx} (hh : Aw k = true) (h : ¬ ((ws.length : Int) + 1 = 2)) : numI k (u0 :: ws) = none := by
 unfold numI; rw [if_pos hh, if_neg (by simp; omega)]
theorem GK {k : Int} {u0 : Tx} {ws : List Tx} (hh : Aw k = true) (h : (ws.length : Int) + 1 = 2) (hb : ¬ (int19 ((u0 :: ws)[(1 : Int).toNat]'(by show 1 < (u0 :: ws).length; simp; omega))).2 = true) : numI k (u0 :: ws) = none := by
 unfold numI; rw [if_pos hh, if_pos (by simp; omega)]
 match ws, h, hb with
 | [x], _, hb => exact if_neg hb
theorem ND {k : Int} {u0 : Tx} {ws : List Tx} (hh : Aw k = true) (h : (ws.length : Int) + 1 = 2) (hb : (int19 ((u0 :: ws)[(1 : Int).toNat]'(by show 1 < (u0 :: ws).length; simp; omega))).2 = true) :
  numI k (u0 :: ws) = some (int19 ((u0 :: ws)[(1 : Int).toNat]'(by show 1 < (u0 :: ws).length; simp; omega))).1 := by
 unfold numI; rw [if_pos hh, if_pos (by simp; omega)]
 match ws, h, hb with
 | [x], _, hb => exact if_pos hb
theorem GJ {k : Int} {u0 : Tx} {ws : List Tx} (hh : Aw k = false) (h : ¬ ((ws.length : Int) + 1 = 1)) : numI k (u0 :: ws) = none := by
 unfold numI; rw [if_neg (by rw [hh]; decide), if_neg (by show ¬ ws.length + 1 = 1; omega)]
theorem numI_1 {k : Int} {u0 : Tx} {ws : List Tx} (hh : Aw k = false) (h : (ws.length : Int) + 1 = 1) : numI k (u0 :: ws) = some 0 := by
 unfold numI; rw [if_neg (by rw [hh]; decide), if_pos (by show ws.length + 1 = 1; omega)]
theorem El (s : Tx) (hs : s.length ≤ 1048576) : Fun Tryz.prog 40 [.t (T.str s)] (Aq [.agg [.t (T.int (insRd s).1.op), .t (T.int (insRd s).1.n)], .t (.bool (insRd s).2)]) := by
 have hw : wordsL.length = 19 := rfl
 obtain ⟨u0, ws, hW⟩ : ∃ u0 ws, AH 32 [] s = u0 :: ws := A8
 have hsp := CV s 32 hs
 rw [hW] at hsp
 have hln := Av (c := 32) (l := s) (pre := [])
 rw [hW] at hln
 have hl2 : ((u0 :: ws).length : Int) = (ws.length : Int) + 1 := by simp
 have hR : insRd s = insRd' (BM u0 (wordsL.drop 1) 1) (u0 :: ws) := by unfold insRd; rw [hW]; rfl
 have heach : ∀ w, w ∈ u0 :: ws → w.length ≤ 1048576 := fun w h => by have := A1 (hW ▸ h); simp at this; omega
 refine Fun.begin tys Tryz.func40 Z Z (N := 59) [(0, .t (T.str s))] Z Z (fun w0 G F0 => ?_);refine sG (AR tys Z Z (AA Z) Z Z Z (nZ Z (eZ Z (nA (eZ Z (AJ ?_))))));refine ⟨_, hsp, rfl, ?_⟩;refine AI (Le.freeze (u := 11) Z) (nZ Z (eZ Z (nB (sQ (sG (AJ ?_))))));refine ⟨_, DG, rfl, ?_⟩;refine AI (Le.freeze (u := 12) Z) (nZ Z (evE ?_));refine eZ Z (nB (AD ?_));refine lK (α := Int) [0, 2, 3, 4, 12, 13] [] (fun x => [(14, .t (.int x))]) (fun x => [(2, .box [.t (.int 0), .t (.int 0)])]) (fun x => 0 ≤ x ∧ x ≤ 19 ∧ (1 ≤ x → BM u0 (wordsL.drop 1) 1 = BM u0 (wordsL.drop x.toNat) x)) (fun x => Int.toNat (19 - x)) 0 ?_ (fun k hx => ?_)
 ·exact ⟨OC 0, by decide, fun h => absurd h (by decide)⟩
 obtain ⟨hk0, hk1, he⟩ := hx
 refine nY Z (sG (eZ Z (nB (sQ ?_))));refine AC Z (fun h1 => ?_) (fun h1 => ?_)
 ·
  simp only [HS] at h1;refine AB (tN (sQ (AD (sG (eZ Z ?_)))));refine iY (k := ?_);refine eK 3 Z (nB (sQ (sG (eK 3 Z (kZ [0,2,3,4,5,6,12,13,14,15,16,17,18,19,20,21] Z ?_)))));refine gB (fun h2 => ?_) (fun h2 => ?_)
  ·
   simp only [HS] at h2;refine xK 5 Z (nB (AW Z (AU (tE (AK (tN (rG (evI ?_))))))));refine eZ Z (oN ?_);refine lQ _ ?_ ?_
   ·skip
    refine ⟨by omega, by omega, fun h => ?_⟩
    by_cases hk : k = 0
    ·subst hk; rfl
    ·have hq := he (by omega)
     rw [Bh hk0 (by omega), if_neg (fun e => by first | omega | exact (by assumption : ¬ _ = _) e.symm)] at hq;exact hq
   ·(show Int.toNat _ < Int.toNat _); omega
  simp only [HS] at h2;refine xK 2 Z (gY Z ?_);refine iY (k := ?_);refine xZ Z (gY Z (AG Z Z (AA Z) Z Z Z CW Z (eZ Z (nB ?_))));refine AC Z (fun h3 => ?_) (fun h3 => ?_)
  ·
   simp only [HS] at h3;refine AU (tE (AK (tN (rG (evI ?_)))));refine eZ Z (oN ?_);refine lQ _ ?_ ?_
   ·skip
    refine ⟨by omega, by omega, fun h => ?_⟩
    by_cases hk : k = 0
    ·subst hk; rfl
    ·have hq := he (by omega)
     rw [Bh hk0 (by omega), if_neg (fun e => by first | omega | exact (by assumption : ¬ _ = _) e.symm)] at hq;exact hq
   ·(show Int.toNat _ < Int.toNat _); omega
  simp only [HS] at h3;refine AB (tN (sG (eZ Z (AN tys Z Z (AA Z) Z Z Z (by kernel_rfl) Z Z Z Z Z Z (AR tys Z Z (AA Z) Z Z Z (nZ Z (kZ [0,2,3,4,5,6,7,12,13,14,15,16,17,18,19,20,21,22,23,24,25,26,27,28,29] Z (sT Z (nZ Z (nB (sQ (sG (eZ Z (AJ ?_))))))))))))));refine ⟨_, EY _, rfl, ?_⟩;refine nB ?_;refine FQ (α := Int) [0, 2, 3, 4, 5, 6, 7, 12, 13, 14, 15, 16, 17, 18, 19, 20, 21, 22, 23, 24, 25, 26, 27, 28, 29, 30, 31] [2] (fun x => []) (fun x => [(7, .box [.t (.int k), .t (.int x)])]) (fun x => numI k (u0 :: ws) = some x) ?_ (fun n hx => ?_)
  ·
   refine AC Z (fun h4 => ?_) (fun h4 => ?_)
   ·
    refine sQ (sG (eZ Z (evE ?_)));refine eZ Z (nB ?_);refine AC Z (fun h5 => ?_) (fun h5 => ?_)
    ·
     simp only [HS] at h5;refine sG (AN tys Z Z (AA Z) Z Z Z (by kernel_rfl) Z Z Z Z Z Z (sT Z (nZ Z (eZ Z (kZ [0,2,3,4,5,6,7,12,13,14,15,16,17,18,19,20,21,22,23,24,25,26,27,28,29,30,31,32,33,34,35] Z (nB (rT (tR (D1 (tR (bR (tR (AO (bR (tR ?_)))))))))))))));refine eR ?_
     ·first
      | (have hq := he (by omega); rw [Bh hk0 (by omega), if_pos (Eq.symm (by assumption))] at hq; have hk3 : ¬ k < 0 := (by omega); suffices hnn : numI k (u0 :: ws) = none from (by rw [hR, hq]; simp only [insRd', if_neg hk3, hnn]); first | exact GI (by assumption) (by omega) | exact GK (by assumption) (by omega) (Bool.eq_false_iff.1 (by assumption)) | (refine GJ ?_ (by omega); first | assumption | (simp_all; done)))
    simp only [HS] at h5;refine AB (tN (sG (eZ Z ?_)));refine iY (k := ?_);refine eZ Z (kZ [0,2,3,4,5,6,7,12,13,14,15,16,17,18,19,20,21,22,23,24,25,26,27,28,29,30,31,32,33,34,37,38,39] Z (AJ ?_));refine ⟨_, Jz _ (heach _ (N9 _)), rfl, ?_⟩;refine eZ Z (WO_evF tys Z Z (AA Z) (d := .t _) Z (nZ Z (WO_evF tys Z Z (AA Z) (d := .t _) Z (nZ Z (eK 2 Z (nB (sQ (sG (eK 2 Z (nB ?_))))))))));refine AC Z (fun h6 => ?_) (fun h6 => ?_)
    ·
     simp only [HS] at h6;refine sQ (kY [0,2,3,4,5,6,7,8,9,12,13,14,15,16,17,18,19,20,21,22,23,24,25,26,27,28,29,30,31,32,33,34,36,37,38,39,40,41,42,43,44] Z (rG (AN tys Z Z (AA Z) Z Z Z (by kernel_rfl) Z Z Z Z Z Z (sT Z (nZ Z (eZ Z (nB (rT (tR (D1 (tR (bR (tR (AO (bR ?_)))))))))))))));refine tR (eR ?_)
     ·first
      | (have hq := he (by omega); rw [Bh hk0 (by omega), if_pos (Eq.symm (by assumption))] at hq; have hk3 : ¬ k < 0 := (by omega); suffices hnn : numI k (u0 :: ws) = none from (by rw [hR, hq]; simp only [insRd', if_neg hk3, hnn]); first | exact GI (by assumption) (by omega) | exact GK (by assumption) (by omega) (Bool.eq_false_iff.1 (by assumption)) | (refine GJ ?_ (by omega); first | assumption | (simp_all; done)))
    simp only [HS] at h6;refine AB (tN (kY [0,2,3,4,5,6,7,8,9,12,13,14,15,16,17,18,19,20,21,22,23,24,25,26,27,28,29,30,31,32,33,34,36,37,38,39,40,41,42,43,44] Z (rG (eK 2 Z (sT Z (nZ Z (oN (jQ _ ?_))))))))
    first
    | exact ND (by assumption) (by omega) (by first | assumption | (simp_all; done))
   refine sG (eZ Z (evE ?_));refine eZ Z (nB ?_);refine AC Z (fun h5 => ?_) (fun h5 => ?_)
   ·
    simp only [HS] at h5;refine sG (AN tys Z Z (AA Z) Z Z Z (by kernel_rfl) Z Z Z Z Z Z (sT Z (nZ Z (eZ Z (kZ [0,2,3,4,5,6,7,12,13,14,15,16,17,18,19,20,21,22,23,24,25,26,27,28,29,30,31,48,49,50,51] Z (nB (rT (D1 (tR (bR (tR (AO (bR (tR (eR ?_)))))))))))))))
    ·first
     | (have hq := he (by omega); rw [Bh hk0 (by omega), if_pos (Eq.symm (by assumption))] at hq; have hk3 : ¬ k < 0 := (by omega); suffices hnn : numI k (u0 :: ws) = none from (by rw [hR, hq]; simp only [insRd', if_neg hk3, hnn]); first | exact GI (by assumption) (by omega) | exact GK (by assumption) (by omega) (Bool.eq_false_iff.1 (by assumption)) | (refine GJ ?_ (by omega); first | assumption | (simp_all; done)))
   simp only [HS] at h5;refine AB (jQ _ ?_)
   first
   | exact numI_1 (by first | assumption | (simp_all; done)) (by omega)
  have hnum := hx
  refine tN (sQ (sQ (kY [0,2,3,4,5,6,7,12,13,14,15,16,17,18,19,20,21,22,23,24,25,26,27,28,29,30,31] Z (rG (eZ Z ?_)))))
  try refine AI (Le.freeze (u := 52) rfl) ?_
  refine nZ Z (AJ ?_);refine ⟨_, Ey ⟨_, _⟩, rfl, ?_⟩;refine eZ Z (nB ?_);refine AC Z (fun h4 => ?_) (fun h4 => ?_)
  ·
   simp only [HS] at h4;refine sG (AN tys Z Z (AA Z) Z Z Z (by kernel_rfl) Z Z Z Z Z Z (sT Z (nZ Z (eZ Z (nB (rT (tR (bR (tR (AO (bR (tR (eR ?_)))))))))))))
   ·first
    | (have hq := he (by omega); rw [Bh hk0 (by omega), if_pos (Eq.symm (by assumption))] at hq; have hk3 : ¬ k < 0 := (by omega); rw [hR, hq]; simp only [insRd', if_neg hk3, hnum]; simp_all; done)
  simp only [HS] at h4;refine AB (tN (sG (eZ Z ?_)))
  try refine AI (Le.freeze (u := 56) rfl) ?_
  refine nZ Z (sT Z (nZ Z (eZ Z (nB (rT (bR (tR (AO (bR (tR (eR ?_)))))))))))
  ·first
   | (have hq := he (by omega); rw [Bh hk0 (by omega), if_pos (Eq.symm (by assumption))] at hq; have hk3 : ¬ k < 0 := (by omega); rw [hR, hq]; simp only [insRd', if_neg hk3, hnum]; simp_all; done)
 simp only [HS] at h1;refine AU (tE (AP (AK (tN (sG (AN tys Z Z (AA Z) Z Z Z (by kernel_rfl) Z Z Z Z Z Z (sT Z (nZ Z (eZ Z (nB (rT (eR ?_))))))))))))
 ·first
  | (have hq : BM u0 (wordsL.drop 1) 1 = -1 := (he (by omega)).trans (by simp only [AQ (show ((wordsL.length : Nat) : Int) ≤ k by omega), BM]); rw [hR, hq]; rfl)
end Go.Proofs.YthinnpkpafmbcaaGreatDoor
