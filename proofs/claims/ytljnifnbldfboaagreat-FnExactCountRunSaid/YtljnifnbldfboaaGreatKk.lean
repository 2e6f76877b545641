/- Walks and laws of the claim. -/
import Derived.Test.YtljnifnbldfboaaGreatKe
import Derived.Test.YtljnifnbldfboaaGreatFq
import Derived.Test.YtljnifnbldfboaaGreatMe
set_option linter.unusedVariables false
set_option linter.unusedSimpArgs false
set_option maxRecDepth 10000
set_option maxHeartbeats 10000000
namespace Go.Proofs.YtljnifnbldfboaaGreat
open Go.Eng
open Go.Eng
theorem MG {x : Image} {c : Code} (h : (c.sites.any fun n => !E2 x n) = false) : Bk x c = true := by
 rw [DB, Bool.not_eq_false'] at h;exact h
theorem QE {x : Image} {c : Code} {n : Int} (h : codeX x c = n) (hn : n ≠ 0) : heiR x c = [] := by rw [heiR, h, if_neg hn]
theorem O2 {x : Image} {c : Code} (h : codeX x c = 0) : heiR x c = (heiX x c).getD [] := by rw [heiR, if_pos h]
theorem FS {x : Image} {c : Code} {n : Int} (h : codeX x c = n) (hn : n ≠ 0) : [D.own (T.list 1 []), D.t (T.v (Value.int .i64 n))] = [D.own (T.ints (heiR x c)), D.t (T.int (codeX x c))] := by rw [QE h hn, h]; rfl
theorem retCY {x : Image} {c : Code} {l : List T} (h : codeX x c = 0) (hl : l = ((heiX x c).getD []).map T.int) : [D.own (T.list 1 l), D.t (T.v (Value.int .i64 0))] = [D.own (T.ints (heiR x c)), D.t (T.int (codeX x c))] := by rw [O2 h, h, hl]; rfl
theorem HZ (im : Image) (k : Int) (hx : BD im = true) (hk0 : 0 ≤ k) (hk1 : k < im.codes.length) : Fun Tryz.prog 74 [.t im.tt, .t (.int k)] (Ay [.own (T.ints (heiR im (codeAt im k))), .t (.int (codeX im (codeAt im k)))]) := by
 obtain ⟨hx1, hx2⟩ := B3 hx
 have hkk : k.toNat < im.codes.length := by omega
 have hc := Qq hkk
 obtain ⟨hz1, hz2, hz3, hz4, hz5, hz6⟩ := A0 (hx2 _ hc)
 rw [Aa hk0 hk1];refine Fun.begin tys Tryz.func74 Z Z (N := 122) [(0, .t im.tt), (1, .t (.int k))] Z Z (fun w0 G F0 => ?_);refine sG (AZ Z Z (lt_of Z) Z Z (nZ Z (eK 2 Z (nA (eK 3 Z ?_)))));refine iY (k := ?_);refine eZ Z ?_
 try refine WO_le (Le.freeze (u := 18) rfl) ?_
 refine nZ Z (AY tys Z Z (lt_of Z) Z Z Z (nZ Z (kZ [2,4,5,6,18] Z (sT Z (nZ Z (nB (sQ (AH (sG ?_)))))))));generalize im.codes[k.toNat]'hkk = c at *;refine eZ Z ?_
 try refine WO_le (Le.freeze (u := 20) rfl) ?_
 refine nZ Z (eZ Z ?_)
 try refine WO_le (Le.freeze (u := 21) rfl) ?_
 refine nZ Z (AS ?_);refine ⟨_, Iv im c (by omega) (by omega) (by omega), rfl, ?_⟩;refine eK 2 Z (nB ?_);refine AC Z (fun h1 => ?_) (fun h1 => ?_)
 ·
  simp only [HS] at h1;refine sG (eK 2 Z (nB (W_le (Le.nilOwn (u := 4) 1 Z) (rT (bR (tR (eR ?_)))))))
  ·first
   | exact FS (NU (by assumption)) (by decide)
 simp only [HS] at h1;refine sG (eK 3 Z (kZ [2,4,5,6,26,27] Z (AS ?_)));refine ⟨_, HO c.sites (fun n => !E2 im n) _ [.rp im.tt 0] Z (by omega) (fun n _ => GC n im (by omega)), rfl, ?_⟩;refine eZ Z (nB ?_);refine AC Z (fun h2 => ?_) (fun h2 => ?_)
 ·
  refine sG (eK 2 Z (nB (W_le (Le.nilOwn (u := 4) 1 Z) (rT (bR (tR (eR ?_)))))))
  ·first
   | exact FS (NT (by assumption) (by rw [DB, Q3] at h2; exact h2)) (by decide)
 refine sG (eZ Z ?_)
 have hs2 := MG h2
 refine eZ Z (AS ?_);refine ⟨_, LW c (by omega), rfl, ?_⟩;refine eK 2 Z (nB ?_);refine AC Z (fun h3 => ?_) (fun h3 => ?_)
 ·
  simp only [HS] at h3;refine sQ (kY [2,4,5,6] Z (rG (eK 2 Z (nB (W_le (Le.nilOwn (u := 4) 1 Z) (rT (bR (tR (eR ?_)))))))))
  ·first
   | exact FS (NS (by assumption) (by assumption) (by assumption)) (by decide)
 simp only [HS] at h3;refine sQ (kY [2,4,5,6] Z (rG (eK 4 Z (evE ?_))));refine AS ?_;refine ⟨_, Jp c.rows _ (by omega) (by omega), rfl, ?_⟩;refine eK 2 Z (nB ?_);refine AC Z (fun h4 => ?_) (fun h4 => ?_)
 ·
  simp only [HS] at h4;refine sQ (kY [2,4,5,6] Z (rG (eK 2 Z (nB (W_le (Le.nilOwn (u := 4) 1 Z) (rT (bR (tR (eR ?_)))))))))
  ·first
   | exact FS (NR (by assumption) (by assumption) (by assumption) (by assumption)) (by decide)
 simp only [HS] at h4;refine AD (bN (tN (sQ (kY [2,4,5,6] Z (rG ?_)))))
 have hR := ready hx hc (by assumption) (by assumption) (by assumption)
 refine eZ Z ?_
 try refine WO_le (Le.freeze (u := 43) rfl) ?_
 refine nZ Z (eZ Z ?_)
 try refine WO_le (Le.freeze (u := 44) rfl) ?_
 refine nZ Z (AS ?_);refine ⟨_, HM im c hR, rfl, ?_⟩;refine Cw Z Z (lt_of Z) (.inr Z) Z Z (Cx Z Z (lt_of Z) Z Z Z Z ?_)
 first | refine WO_le (Le.adoptE (u := 46) 46 rfl (by first | exact lenN | exact rfl)) ?_ | skip
 refine nZ Z (WO_evF tys Z Z (lt_of Z) (d := .t _) Z (nZ Z (eK 2 Z (nB (sQ (sQ (kY [4,5,6,7,8] Z (rG (eK 2 Z (nB ?_))))))))));refine AC Z (fun h5 => ?_) (fun h5 => ?_)
 ·
  simp only [HS] at h5;refine sG (eK 2 Z (nB (W_le (Le.nilOwn (u := 4) 1 Z) (rT (tR (eR ?_))))))
  ·first
   | exact FS (NQ (by assumption) (by assumption) (by assumption) (by assumption) (by assumption)) (by decide)
 simp only [HS] at h5;refine AD (tN (sQ (sG ?_)))
 have hes := MF (h := heiX im c) (by assumption)
 have hfit := (HN hes).1
 have hhl : ((heiX im c).getD []).length = c.ins.length := hfit.1.1
 have hhm : (((heiX im c).getD []).map T.int).length = c.ins.length := by rw [Qc]; exact hhl
 refine eK 2 Z (evE ?_);refine eZ Z (nB (AH ?_));refine lK (α := Int) [5, 6, 7, 51, 52] [6, 46] (fun x => [(53, .t (.int x))]) (fun x => []) (fun x => 0 ≤ x ∧ x ≤ c.ins.length ∧ upTo (fun j => ¬ Nf c ((heiX im c).getD []) j) x) (fun x => Int.toNat (c.ins.length - x)) 0 ?_ (fun k2 hx => ?_)
 ·exact ⟨by omega, by omega, fun j h0 h1 => by omega⟩
 obtain ⟨hj0, hj1, hup⟩ := hx
 refine nY Z (sG (eZ Z (nB (sQ ?_))));refine AC Z (fun h6 => ?_) (fun h6 => ?_)
 ·
  simp only [HS] at h6;refine AD (tN (sQ (AH (sG ?_))))
  have hkl : k2.toNat < ((heiX im c).getD []).length := by omega
  have hrx := Dw c.rows k2
  refine eZ Z ?_;refine iY (k := ?_);refine eZ Z ?_
  try refine WO_le (Le.freeze (u := 57) rfl) ?_
  refine nZ Z (AY tys Z Z (lt_of Z) Z Z Z (nZ Z (eZ Z (sT Z (nZ Z (nB (sQ (kY [5,6,7,9,10,51,52,53,54,55,56,57] Z (rG (eK 3 Z (AS ?_)))))))))));refine ⟨_, Hx c.rows k2 (by omega), rfl, ?_⟩;refine eZ Z (nA (eK 2 Z (AR tys Z Z (lt_of Z) Z Z Z Z Z Z Z Z (by omega) (by omega) (AG tys Z Z (lt_of Z) Z Z Z Z (BN _ _ (by omega) (by omega)) Z (kZ [5,6,7,9,10,11,51,52,53,54,55,56,57,58,59,60,61,62,63,64,65] Z (eK 2 Z ?_))))));refine gB (fun h7 => ?_) (fun h7 => ?_)
  ·
   simp only [HS] at h7;refine xK 7 Z (kZ [5,6,7,9,10,11,51,52,53,54,55,56,57,58,59,60,61,62,63,64,65,66,67,68,69,70,71,72,73,74,75] Z (xK 9 Z (kZ [5,6,7,9,10,11,51,52,53,54,55,56,57,58,59,60,61,62,63,64,65,66,67,68,69,70,71,72,73,74,75,76,77,78,79,80,81,82,83,84] Z (eZ Z (nB (Ao Z (AD (bN (tN (rG (evI ?_)))))))))));refine eZ Z (oN ?_);refine lQ _ ?_ ?_
   ·skip
    first
    | exact ⟨by omega, by omega, BG hup (not6 hj0 (by omega) hkl (.inl (by omega)))⟩
   ·(show Int.toNat _ < Int.toNat _); omega
  simp only [HS] at h7;refine xK 2 Z (gY Z (AS ?_));refine ⟨_, IK _, rfl, ?_⟩;refine eK 2 Z ?_;refine gB (fun h8 => ?_) (fun h8 => ?_)
  ·
   simp only [HS] at h8;refine xK 2 Z (kZ [5,6,7,9,10,11,51,52,53,54,55,56,57,58,59,60,61,62,63,64,65,66,67,68,69,70,71,72,73,74,75] Z (xK 9 Z (kZ [5,6,7,9,10,11,51,52,53,54,55,56,57,58,59,60,61,62,63,64,65,66,67,68,69,70,71,72,73,74,75,76,77,78,79,80,81,82,83,84] Z (eZ Z (nB (Ao Z (AD (bN (tN (rG (evI ?_)))))))))));refine eZ Z (oN ?_);refine lQ _ ?_ ?_
   ·skip
    first
    | exact ⟨by omega, by omega, BG hup (not6 hj0 (by omega) hkl (.inr (.inl (by assumption))))⟩
   ·(show Int.toNat _ < Int.toNat _); omega
  refine xK 2 Z (kZ [5,6,7,9,10,11,51,52,53,54,55,56,57,58,59,60,61,62,63,64,65,66,67,68,69,70,71,72,73,74] Z (xZ Z ?_));refine gB (fun h9 => ?_) (fun h9 => ?_)
  ·
   simp only [HS] at h9;refine xK 8 Z (kZ [5,6,7,9,10,11,51,52,53,54,55,56,57,58,59,60,61,62,63,64,65,66,67,68,69,70,71,72,73,74,75,76,77,78,79,80,81,82,83,84] Z (eZ Z (nB (A5 Z (sG (eK 2 Z (nB (W_le (Le.nilOwn (u := 4) 1 Z) (rT (bR (tR (AP (bR (tR (eR ?_)))))))))))))))
   ·first
    | exact FS (Io (by assumption) (by assumption) (by assumption) (by assumption) hes hj0 (by omega) (is6 hj0 (by omega) hkl (by omega) (by assumption) (by first | (left; omega) | (right; rw [C5 (by omega)]; omega)))) (by decide)
  simp only [HS] at h9;refine xK 3 Z (gY Z ?_);refine iY (k := ?_);refine xK 4 Z (kZ [5,6,7,9,10,11,51,52,53,54,55,56,57,58,59,60,61,62,63,64,65,66,67,68,69,70,71,72,73,74,75,76,77,78,79,80,81,82,83] Z (xK 2 Z (nB ?_)));refine AC Z (fun h10 => ?_) (fun h10 => ?_)
  ·
   simp only [HS] at h10;refine sG (eK 2 Z (nB (W_le (Le.nilOwn (u := 4) 1 Z) (rT (bR (tR (AP (bR (tR (eR ?_))))))))))
   ·first
    | exact FS (Io (by assumption) (by assumption) (by assumption) (by assumption) hes hj0 (by omega) (is6 hj0 (by omega) hkl (by omega) (by assumption) (by first | (left; omega) | (right; rw [C5 (by omega)]; omega)))) (by decide)
  simp only [HS] at h10;refine AD (bN (tN (rG (evI ?_))));refine eZ Z (oN ?_);refine lQ _ ?_ ?_
  ·skip
   first
   | exact ⟨by omega, by omega, BG hup (not6 hj0 (by omega) hkl (.inr (.inr ⟨by omega, by rw [C5 (by omega)]; omega⟩)))⟩
  ·(show Int.toNat _ < Int.toNat _); omega
 simp only [HS] at h6;refine AW (tE (AN (AO (tN (sQ (sG (eK 2 Z (evE ?_))))))));refine eZ Z (nB (AH ?_));refine lK (α := Int) [5, 6, 7, 88, 89] [6, 46] (fun x => [(90, .t (.int x))]) (fun x => []) (fun x => 0 ≤ x ∧ x ≤ c.ins.length ∧ upTo (fun j => ¬ OC c ((heiX im c).getD []) j) x) (fun x => Int.toNat (c.ins.length - x)) 0 ?_ (fun k2 hx => ?_)
 ·exact ⟨by omega, by omega, fun j h0 h1 => by omega⟩
 obtain ⟨hj0, hj1, hup7⟩ := hx
 refine nY Z (sG (eZ Z (nB (sQ ?_))));refine AC Z (fun h7 => ?_) (fun h7 => ?_)
 ·
  simp only [HS] at h7;refine AD (tN (sQ (AH (sG ?_))))
  have hkl : k2.toNat < ((heiX im c).getD []).length := by omega
  refine eZ Z ?_;refine iY (k := ?_);refine eZ Z ?_
  try refine WO_le (Le.freeze (u := 94) rfl) ?_
  refine nZ Z (AY tys Z Z (lt_of Z) Z Z Z (nZ Z (eZ Z (sT Z (nZ Z (nB (sQ (kY [5,6,7,12,13,88,89,90,91,92,93,94] Z (rG (eK 2 Z (AR tys Z Z (lt_of Z) Z Z Z Z Z Z Z Z (by omega) (by omega) (AG tys Z Z (lt_of Z) Z Z Z Z (BN _ _ (by omega) (by omega)) Z (eK 2 Z ?_)))))))))))));refine gB (fun h8 => ?_) (fun h8 => ?_)
  ·
   simp only [HS] at h8;refine xK 3 Z (kZ [5,6,7,12,13,88,89,90,91,92,93,94,95,96,97,98,99,100,101,102,103,104] Z (xK 9 Z (kZ [5,6,7,12,13,88,89,90,91,92,93,94,95,96,97,98,99,100,101,102,103,104,105,106,107,108,109,110,111,112,113] Z (xK 6 Z (nB (Ao Z (AD (bN (tN (rG (evI ?_)))))))))));refine eZ Z (oN ?_);refine lQ _ ?_ ?_
   ·skip
    first
    | exact ⟨by omega, by omega, BG hup7 (P4 hj0 (by omega) hkl (.inl (by omega)))⟩
   ·(show Int.toNat _ < Int.toNat _); omega
  simp only [HS] at h8;refine xK 3 Z (kZ [5,6,7,12,13,88,89,90,91,92,93,94,95,96,97,98,99,100,101,102,103] Z (xZ Z ?_));refine gB (fun h9 => ?_) (fun h9 => ?_)
  ·
   simp only [HS] at h9;refine xK 8 Z (kZ [5,6,7,12,13,88,89,90,91,92,93,94,95,96,97,98,99,100,101,102,103,104,105,106,107,108,109,110,111,112,113] Z (xK 6 Z (nB (A5 Z (sG (eK 2 Z (nB (W_le (Le.nilOwn (u := 4) 1 Z) (rT (bR (tR (AP (bR (tR (eR ?_)))))))))))))))
   ·first
    | exact FS (EV (by assumption) (by assumption) (by assumption) (by assumption) hes (fun j g0 g1 => hup j g0 (by omega)) hj0 (by omega) (is7 hj0 (by omega) hkl (by omega) (by unfold Ep; rw [decide_eq_true_eq]; omega))) (by decide)
  simp only [HS] at h9;refine xK 5 Z ?_;refine gB (fun h10 => ?_) (fun h10 => ?_)
  ·
   simp only [HS] at h10;refine xK 3 Z (kZ [5,6,7,12,13,88,89,90,91,92,93,94,95,96,97,98,99,100,101,102,103,104,105,106,107,108,109,110,111,112,113] Z (xK 6 Z (nB (A5 Z (sG (eK 2 Z (nB (W_le (Le.nilOwn (u := 4) 1 Z) (rT (bR (tR (AP (bR (tR (eR ?_)))))))))))))))
   ·first
    | exact FS (EV (by assumption) (by assumption) (by assumption) (by assumption) hes (fun j g0 g1 => hup j g0 (by omega)) hj0 (by omega) (is7 hj0 (by omega) hkl (by omega) (by unfold Ep; rw [decide_eq_true_eq]; omega))) (by decide)
  simp only [HS] at h10;refine xK 3 Z (kZ [5,6,7,12,13,88,89,90,91,92,93,94,95,96,97,98,99,100,101,102,103,104,105,106,107,108,109,110,111,112] Z (xK 2 Z ?_));refine gB (fun h11 => ?_) (fun h11 => ?_)
  ·
   simp only [HS] at h11;refine xK 4 Z (nB (A5 Z (sG (eK 2 Z (nB (W_le (Le.nilOwn (u := 4) 1 Z) (rT (bR (tR (AP (bR (tR (eR ?_)))))))))))))
   ·first
    | exact FS (EV (by assumption) (by assumption) (by assumption) (by assumption) hes (fun j g0 g1 => hup j g0 (by omega)) hj0 (by omega) (is7 hj0 (by omega) hkl (by omega) (by unfold Ep; rw [decide_eq_true_eq]; omega))) (by decide)
  simp only [HS] at h11;refine xK 5 Z (nB ?_);refine AC Z (fun h12 => ?_) (fun h12 => ?_)
  ·
   simp only [HS] at h12;refine sQ (kY [5,6,7,12,13,88,89,90,91,92,93,94,95,96,97,98,99,100,101,102,103,104,105,106,107,108,109,110,111,112,113,114,115,116,117,118,119] Z (rG (eK 2 Z (nB (W_le (Le.nilOwn (u := 4) 1 Z) (rT (bR (tR (AP (bR (tR (eR ?_))))))))))))
   ·first
    | exact FS (EV (by assumption) (by assumption) (by assumption) (by assumption) hes (fun j g0 g1 => hup j g0 (by omega)) hj0 (by omega) (is7 hj0 (by omega) hkl (by omega) (by unfold Ep; rw [decide_eq_true_eq]; omega))) (by decide)
  simp only [HS] at h12;refine AD (bN (tN (kY [5,6,7,12,13,88,89,90,91,92,93,94,95,96,97,98,99,100,101,102,103,104,105,106,107,108,109,110,111,112,113,114,115,116,117,118,119] Z (rG (evI ?_)))));refine eZ Z (oN ?_);refine lQ _ ?_ ?_
  ·skip
   first
   | exact ⟨by omega, by omega, BG hup7 (P4 hj0 (by omega) hkl (.inr (by unfold Ep; rw [decide_eq_false_iff_not]; omega)))⟩
  ·(show Int.toNat _ < Int.toNat _); omega
 simp only [HS] at h7;refine AW (tE (AN (AO (tN (sG (eK 3 Z (nB (W_le (Le.gather (u := 4) (id := 46) Z Z (by rw [Qc]; exact Q0 _)) ?_))))))));refine rT (eR ?_)
 ·first
  | exact retCY (Pj (by assumption) (by assumption) (by assumption) (by assumption) hes (fun j g0 g1 => hup j g0 (by omega)) (fun j g0 g1 => hup7 j g0 (by omega))) (Qi (by rw [hhm, hhl]; exact Q0 _))
open Go.Eng
theorem topI_v (bm : Nat) (c0 c1 c2 c4 c5 c6 c7 c8 c9 : Value) (bf n0 cap : Nat) (rv : List Value) (rt : List T) (hn : 1 ≤ n0) (hc : n0 ≤ cap) (hc2 : n0 ≤ 1048576) : Proc Tryz.prog 26 [.t (.v (.pointer (some ⟨bm, 0, none⟩)))] (rv) (rt) [.obox (.pointer (some ⟨bm, 0, none⟩)) [.t (.v c0), .t (.v c1), .t (.v c2), Aq bf n0 cap, .t (.v c4), .t (.v c5), .t (.v c6), .t (.v c7), .t (.v c8), .t (.v c9)]] (.t (.v (.pointer (some ⟨bf, (n0 - 1) * 11, none⟩)))) [.obox (.pointer (some ⟨bm, 0, none⟩)) [.t (.v c0), .t (.v c1), .t (.v c2), Aq bf n0 cap, .t (.v c4), .t (.v c5), .t (.v c6), .t (.v c7), .t (.v c8), .t (.v c9)]] := by
 refine Proc.intro tys Tryz.func26 Z Z (N := 16) [100] 99 ([(0, .t (.v (.pointer (some ⟨bm, 0, none⟩))))]) ([(100, .obox (.pointer (some ⟨bm, 0, none⟩)) [.t (.v c0), .t (.v c1), .t (.v c2), Aq bf n0 cap, .t (.v c4), .t (.v c5), .t (.v c6), .t (.v c7), .t (.v c8), .t (.v c9)]), (99, .ro rv rt)]) Z Z Z Z (by decide) (by decide) Z (fun w0 G F0 => ?_);refine nY Z (W_le (Le.openNew (u := 100) 1100 Z Z Z Z Z) (nY Z (W_le (Le.named (t := 0) (u := 100) 1100 Z Z) (nY Z (sG (eZ Z (nB (sQ (AV mixed (by kernel_rfl) (evQ ?_))))))))));refine AL rfl Z (lt_of Z) Z Z Z (evQ ?_);refine evQ ?_;refine evQ ?_;refine AI Z (evQ ?_);refine AL rfl Z (lt_of Z) Z Z Z (evQ ?_);refine evQ ?_;refine evQ ?_;refine DD Z Z (lt_of Z) Z ⟨61, by kernel_rfl⟩ rfl (AI Z (Lx ?_));refine DU tys Z Z (lt_of Z) Z Z Z Z Z Z (by omega) (by omega) (evQ ?_);refine Ak (tN (W_le (Le.close (u := 100) 1100 Z Z Z) (nY Z (rT ?_))));refine eP [_] ?_ ?_
 ·(rw [show ((n0 : Int) - 1).toNat = n0 - 1 from by omega]; rfl)
 ·rfl
theorem Jv (bm bf n0 cap : Nat) (rv : List Value) (rt : List T) (hn1 : 1 ≤ n0) (hc : n0 ≤ cap) (hc2 : n0 ≤ 1048576) (cells : List D) (hcell : cells[3]? = some (Aq bf n0 cap)) (hn : cells.length = 10) (hno : D.noImm.noImmL cells = true) :
  Proc Tryz.prog 26 [.t (.v (.pointer (some ⟨bm, 0, none⟩)))] rv rt (.obox (.pointer (some ⟨bm, 0, none⟩)) cells :: []) (.t (.v (.pointer (some ⟨bf, (n0 - 1) * 11, none⟩)))) (.obox (.pointer (some ⟨bm, 0, none⟩)) cells :: []) :=
 Proc.frame (n := 10) (j := 3) hcell hn hno (fun vs hl hu => by
  match vs, hl with
  | [c0, c1, c2, c3, c4, c5, c6, c7, c8, c9], _ =>
   obtain rfl : c3 = _ := Option.some.inj hu
   exact topI_v bm c0 c1 c2 c4 c5 c6 c7 c8 c9 bf n0 cap rv rt hn1 hc hc2) ⟨_, Tryz.func26, rfl, rfl⟩ (by simp)
theorem CU (bm : Nat) (x : Image) (inp : List Int) (u0 u1 : Value) (most : Int) (bf n0 cap : Nat) (trace : List Int) (used code value made : Int) (notes : List Note) (hn : 1 ≤ n0) (hc : n0 ≤ cap) (hc2 : n0 ≤ 1048576) :
  Proc Tryz.prog 26 [.t (.v (.pointer (some ⟨bm, 0, none⟩)))] [u0, u1] [T.Codes x.codes, T.ints inp] [.obox (.pointer (some ⟨bm, 0, none⟩)) (mC u0 u1 most (Aq bf n0 cap) trace used code value made notes)] (.t (.v (.pointer (some ⟨bf, (n0 - 1) * 11, none⟩)))) [.obox (.pointer (some ⟨bm, 0, none⟩)) (mC u0 u1 most (Aq bf n0 cap) trace used code value made notes)] := Jv bm bf n0 cap _ _ hn hc hc2 _ rfl rfl rfl
theorem Ho (bm : Nat) (c0 c1 c2 c4 c5 c6 c7 c8 c9 : Value) (bf n0 cap : Nat) (rv : List Value) (rt : List T) (hn : 1 ≤ n0) (hc : n0 ≤ cap) (hc2 : n0 ≤ 1048576) : Proc Tryz.prog 20 [.t (.v (.pointer (some ⟨bm, 0, none⟩)))] (rv) (rt) [.obox (.pointer (some ⟨bm, 0, none⟩)) [.t (.v c0), .t (.v c1), .t (.v c2), Aq bf n0 cap, .t (.v c4), .t (.v c5), .t (.v c6), .t (.v c7), .t (.v c8), .t (.v c9)]] (.t (.v (.pointer (some ⟨bf, (n0 - 1) * 11, none⟩)))) [.obox (.pointer (some ⟨bm, 0, none⟩)) [.t (.v c0), .t (.v c1), .t (.v c2), Aq bf n0 cap, .t (.v c4), .t (.v c5), .t (.v c6), .t (.v c7), .t (.v c8), .t (.v c9)]] := by
 refine Proc.intro tys Tryz.func20 Z Z (N := 16) [100] 99 ([(0, .t (.v (.pointer (some ⟨bm, 0, none⟩))))]) ([(100, .obox (.pointer (some ⟨bm, 0, none⟩)) [.t (.v c0), .t (.v c1), .t (.v c2), Aq bf n0 cap, .t (.v c4), .t (.v c5), .t (.v c6), .t (.v c7), .t (.v c8), .t (.v c9)]), (99, .ro rv rt)]) Z Z Z Z (by decide) (by decide) Z (fun w0 G F0 => ?_);refine nY Z (W_le (Le.openNew (u := 100) 1100 Z Z Z Z Z) (nY Z (W_le (Le.named (t := 0) (u := 100) 1100 Z Z) (nY Z (sG (eZ Z (nB (sQ (AV mixed (by kernel_rfl) (evQ ?_))))))))));refine AL rfl Z (lt_of Z) Z Z Z (evQ ?_);refine evQ ?_;refine evQ ?_;refine AI Z (evQ ?_);refine AL rfl Z (lt_of Z) Z Z Z (evQ ?_);refine evQ ?_;refine evQ ?_;refine DD Z Z (lt_of Z) Z ⟨61, by kernel_rfl⟩ rfl (AI Z (Lx ?_));refine DU tys Z Z (lt_of Z) Z Z Z Z Z Z (by omega) (by omega) (evQ ?_);refine Ak (tN (W_le (Le.close (u := 100) 1100 Z Z Z) (nY Z (rT ?_))));refine eP [_] ?_ ?_
 ·(rw [show ((n0 : Int) - 1).toNat = n0 - 1 from by omega]; rfl)
 ·rfl
theorem Az (bm bf n0 cap : Nat) (rv : List Value) (rt : List T) (hn1 : 1 ≤ n0) (hc : n0 ≤ cap) (hc2 : n0 ≤ 1048576) (cells : List D) (hcell : cells[3]? = some (Aq bf n0 cap)) (hn : cells.length = 10) (hno : D.noImm.noImmL cells = true) :
  Proc Tryz.prog 20 [.t (.v (.pointer (some ⟨bm, 0, none⟩)))] rv rt (.obox (.pointer (some ⟨bm, 0, none⟩)) cells :: []) (.t (.v (.pointer (some ⟨bf, (n0 - 1) * 11, none⟩)))) (.obox (.pointer (some ⟨bm, 0, none⟩)) cells :: []) :=
 Proc.frame (n := 10) (j := 3) hcell hn hno (fun vs hl hu => by
  match vs, hl with
  | [c0, c1, c2, c3, c4, c5, c6, c7, c8, c9], _ =>
   obtain rfl : c3 = _ := Option.some.inj hu
   exact Ho bm c0 c1 c2 c4 c5 c6 c7 c8 c9 bf n0 cap rv rt hn1 hc hc2) ⟨_, Tryz.func20, rfl, rfl⟩ (by simp)
theorem E5 (bm : Nat) (x : Image) (inp : List Int) (u0 u1 : Value) (most : Int) (bf n0 cap : Nat) (trace : List Int) (used code value made : Int) (notes : List Note) (hn : 1 ≤ n0) (hc : n0 ≤ cap) (hc2 : n0 ≤ 1048576) :
  Proc Tryz.prog 20 [.t (.v (.pointer (some ⟨bm, 0, none⟩)))] [u0, u1] [T.Codes x.codes, T.ints inp] [.obox (.pointer (some ⟨bm, 0, none⟩)) (mC u0 u1 most (Aq bf n0 cap) trace used code value made notes)] (.t (.v (.pointer (some ⟨bf, (n0 - 1) * 11, none⟩)))) [.obox (.pointer (some ⟨bm, 0, none⟩)) (mC u0 u1 most (Aq bf n0 cap) trace used code value made notes)] := Az bm bf n0 cap _ _ hn hc hc2 _ rfl rfl rfl
theorem BL (bf cap k : Nat) (fs : List Frame) (f : Frame) (n : Int) (hk : fs[k]? = some f) (hp : f.pile.length ≤ 1000) (rv : List Value) (rt : List T) : Proc Tryz.prog 50 [.t (.v (.pointer (some ⟨bf, k * 11, none⟩))), .t (T.int n)] (rv) (rt) [.row bf cap 11 (fs.map Frame.tt)] (.tup []) [.row bf cap 11 ((fs.set k (pushF f n)).map Frame.tt)] := by
 refine Proc.intro tys Tryz.func50 Z Z (N := 14) [100] 99 ([(0, .t (.v (.pointer (some ⟨bf, k * 11, none⟩)))), (1, .t (T.int n))]) ([(100, .row bf cap 11 (fs.map Frame.tt)), (99, .ro rv rt)]) Z Z Z Z (by decide) (by decide) Z (fun w0 G F0 => ?_);refine nY Z (W_le (Le.nameR (u := 100) 1100 Z Z Z Z) (nY Z (W_le (Le.namedR (t := 0) (u := 100) 1100 (k) 0 Z Z (by omega)) (nY Z (B1 ?_)))));refine Jq (id := 100) (i := k) (off := 3) 200 Z (AM hk) Z Z Z (fun ad cp => ?_);refine nY Z (rG (eK 2 Z (AE rfl Z (lt_of Z) Z Z Z (eZ Z ?_))));refine AG tys Z Z (lt_of Z) Z Z Z Z (List.getElem?_set_self (Bu hk)) Z ?_;refine WO_le (Le.ownBack0 (t := 8) (id := 200) Z Z) (nZ Z (WO_le (Le.adoptE (u := 8) 8 Z Z) (nZ Z (eZ Z (bZ [T.int n] ?_)))));refine nZ Z (Am tys Z Z (lt_of Z) Z Z Z Z Z (.own Z (by first | omega | (simp only [Qf]; omega))) Z (.own Z (by first | decide | omega)) (by decide) (by simp; omega) (by decide) Z ?_);refine nZ Z (WO_le (Le.gather (u := 11) (id := 8) Z Z (by first | (simp; done) | (simp; omega) | omega)) ?_);refine nZ Z (AE rfl Z (lt_of Z) Z Z Z (kZ [11,12] Z (eZ Z ?_)));refine AJ tys _ Z Z Z Z Z Z (List.getElem?_set_self (Bu hk)) Z (AbsL.own' AbsL.nil') Z (by decide) (Qe Z) ?_;refine nZ Z (oN (AA (Le.closeR (u := 100) 1100 Z Z) (AB Z (AF ?_))));refine eP [_] ?_ ?_
 ·rfl
 ·exact rowEq (E8 (by simp [Qi]))
theorem Pd (bf cap k : Nat) (xs : List T) (hxs : ∀ x, x ∈ xs → (T.cells x).length = 11) (c0 c1 c2 c4 c5 c6 c7 c8 c9 c10 : T) (pile : List Int) (hk : xs[k]? = some (.agg [c0, c1, c2, .list 1 (pile.map T.int), c4, c5, c6, c7, c8, c9, c10])) (hp : pile.length ≤ 1000) (hp1 : 1 ≤ pile.length) (rv : List Value) (rt : List T) : Proc Tryz.prog 47 [.t (.v (.pointer (some ⟨bf, k * 11, none⟩)))] (rv) (rt) [.row bf cap 11 xs] (.t (T.int (lastI pile))) [.row bf cap 11 (xs.set k (.agg [c0, c1, c2, .list 1 ((pile.take (pile.length - 1)).map T.int), c4, c5, c6, c7, c8, c9, c10]))] := by
 have hml : (pile.map T.int).length = pile.length := Qc ..
 have hlx : k < xs.length := (List.getElem?_eq_some_iff.1 hk).1
 refine Proc.intro tys Tryz.func47 Z Z (N := 28) [100] 99 ([(0, .t (.v (.pointer (some ⟨bf, k * 11, none⟩))))]) ([(100, .row bf cap 11 xs), (99, .ro rv rt)]) Z Z Z Z (by decide) (by decide) Z (fun w0 G F0 => ?_);refine nY Z (W_le (Le.nameR (u := 100) 1100 Z Z Z Z) (nY Z (W_le (Le.namedR (t := 0) (u := 100) 1100 (k) 0 Z Z (by omega)) (nY Z (sG (eZ Z (nB (sQ ?_))))))));refine Bg (id := 100) (i := k) (off := 3) 200 1200 133 Z hxs hk Z (by intro h; have := congrArg List.length h; rw [Qc, Qz] at this; omega) Z Z Z Z Z Z (fun b2 cap2 hcap2 => ?_);refine nY Z ?_
 have hz := List.getElem?_set_self (a := (T.agg [c0, c1, c2, .v (.slice (some ⟨b2, 0, none⟩) (pile.map T.int).length cap2), c4, c5, c6, c7, c8, c9, c10])) hlx
 refine rG (eZ Z (AE rfl Z (lt_of Z) Z Z Z (eZ Z (AG tys Z Z (lt_of Z) Z Z Z Z hz Z (WO_le (Le.namedS (t := 8) (id := 200) 1200 Z Z hcap2) (nZ Z (evE ?_)))))));refine evI ?_;refine eZ Z (nB (sQ (kY [0,2,3] Z (rG (eZ Z (AE rfl Z (lt_of Z) Z Z Z (eZ Z (AG tys Z Z (lt_of Z) Z Z Z Z hz Z (WO_le (Le.namedS (t := 14) (id := 200) 1200 Z Z hcap2) (nZ Z (eZ Z (AR tys Z Z (lt_of Z) Z Z Z Z Z Z Z Z (by omega) (by omega) (AG tys Z Z (lt_of Z) Z Z Z Z (BN _ _ (by omega) (by omega)) Z (eZ Z (nB ?_)))))))))))))));refine sQ (kY [0,2,3,4] Z (rG (eK 2 Z (AE rfl Z (lt_of Z) Z Z Z (eZ Z (AG tys Z Z (lt_of Z) Z Z Z Z hz Z (WO_le (Le.namedS (t := 22) (id := 200) 1200 Z Z hcap2) (nZ Z (eZ Z (Cv tys Z Z (lt_of Z) Z Z Z Z Z Z Z Z Z (by omega) (by omega) (by omega) (WO_le (Le.gather (u := 24) (id := 200) Z Z (by first | (simp; done) | (simp; omega) | omega)) ?_)))))))))));refine nZ Z (AE rfl Z (lt_of Z) Z Z Z (eZ Z (kZ [2,4,24,26] Z (AJ tys _ Z Z Z Z Z Z hz Z (AbsL.own' AbsL.nil') Z (by decide) (Qe Z) (nZ Z (nA (eK 2 Z (nB (W_le (Le.closeR (u := 100) 1100 Z Z) (nY Z (rT ?_)))))))))));refine eP [_] ?_ ?_
 ·exact F9 (HH hp1)
 ·(rw [Q4]; simp [T.put, Eng.splice]; try rfl)
theorem C3 (bf cap k : Nat) (fs : List Frame) (f : Frame) (hk : fs[k]? = some f) (hp : f.pile.length ≤ 1000) (hp1 : 1 ≤ f.pile.length) (rv : List Value) (rt : List T) :
  Proc Tryz.prog 47 [.t (.v (.pointer (some ⟨bf, k * 11, none⟩)))] rv rt [.row bf cap 11 (fs.map Frame.tt)] (.t (T.int (lastI f.pile))) [.row bf cap 11 ((fs.set k (popF f)).map Frame.tt)] := by
 rw [← Av];exact Pd bf cap k (fs.map Frame.tt) As _ _ _ _ _ _ _ _ _ _ f.pile (AM hk) hp hp1 rv rt
theorem Pz (bm : Nat) (c0 c1 c2 c4 c5 c6 c7 c8 c9 : Value) (bf n0 cap : Nat) (rv : List Value) (rt : List T) (fs : List Frame) (hn0 : fs.length = n0) (hc : n0 ≤ cap) (hc2 : n0 ≤ 1048576) (k : Nat) (f : Frame) (hk : fs[k]? = some f) (hkl : k = n0 - 1) (hp : f.pile.length ≤ 1000) (n : Int) : Proc Tryz.prog 65 [.t (.v (.pointer (some ⟨bm, 0, none⟩))), .t (T.int n)] (rv) (rt) [.obox (.pointer (some ⟨bm, 0, none⟩)) [.t (.v c0), .t (.v c1), .t (.v c2), Aq bf n0 cap, .t (.v c4), .t (.v c5), .t (.v c6), .t (.v c7), .t (.v c8), .t (.v c9)], .row bf cap 11 (fs.map Frame.tt)] (.tup []) [.obox (.pointer (some ⟨bm, 0, none⟩)) [.t (.v c0), .t (.v c1), .t (.v c2), Aq bf n0 cap, .t (.v c4), .t (.v c5), .t (.v c6), .t (.v c7), .t (.v c8), .t (.v c9)], .row bf cap 11 ((fs.set k (pushF f n)).map Frame.tt)] := by
 have hlt := Bs hk
 refine Proc.intro tys Tryz.func65 Z Z (N := 16) [100, 101] 99 ([(0, .t (.v (.pointer (some ⟨bm, 0, none⟩)))), (1, .t (T.int n))]) ([(100, .obox (.pointer (some ⟨bm, 0, none⟩)) [.t (.v c0), .t (.v c1), .t (.v c2), Aq bf n0 cap, .t (.v c4), .t (.v c5), .t (.v c6), .t (.v c7), .t (.v c8), .t (.v c9)]), (101, .row bf cap 11 (fs.map Frame.tt)), (99, .ro rv rt)]) Z Z Z Z (by decide) (by decide) Z (fun w0 G F0 => ?_);refine nY Z (W_le (Le.nameR (u := 101) 1101 Z Z Z Z) (nY Z (B1 ?_)));refine Jq (id := 101) (i := k) (off := 3) 200 Z (AM hk) Z Z Z (fun ad cp => ?_);refine nY Z (rG (eZ Z ?_));refine cP [100] (hm := (Ho bm c0 c1 c2 c4 c5 c6 c7 c8 c9 bf n0 cap rv rt (by omega) hc hc2)) (k := ?_);refine nZ Z (WO_le (Le.namedR (t := 5) (u := 101) 1101 k 0 Z Z (by rw [hkl]; rfl)) ?_);refine nZ Z (eZ Z ?_);refine cP [100] (hm := (Ho bm c0 c1 c2 c4 c5 c6 c7 c8 c9 bf n0 cap rv rt (by omega) hc hc2)) (k := ?_);refine nZ Z (WO_le (Le.namedR (t := 7) (u := 101) 1101 k 0 Z Z (by rw [hkl]; rfl)) ?_);refine nZ Z (AE rfl Z (lt_of Z) Z Z Z (eZ Z ?_));refine AG tys Z Z (lt_of Z) Z Z Z Z (List.getElem?_set_self (Bu hk)) Z ?_;refine WO_le (Le.ownBack0 (t := 10) (id := 200) Z Z) (nZ Z (WO_le (Le.adoptE (u := 10) 10 Z Z) (nZ Z (eZ Z (bZ [T.int n] ?_)))));refine nZ Z (kZ [5,10,12] Z (Am tys Z Z (lt_of Z) Z Z Z Z Z (.own Z (by first | omega | (simp only [Qf]; omega))) Z (.own Z (by first | decide | omega)) (by decide) (by simp; omega) (by decide) Z ?_));refine nZ Z (WO_le (Le.gather (u := 13) (id := 10) Z Z (by first | (simp; done) | (simp; omega) | omega)) ?_);refine nZ Z (AE rfl Z (lt_of Z) Z Z Z (eZ Z ?_));refine AJ tys _ Z Z Z Z Z Z (List.getElem?_set_self (Bu hk)) Z (AbsL.own' AbsL.nil') Z (by decide) (Qe Z) ?_;refine nZ Z (oN (AA (Le.closeR (u := 101) 1101 Z Z) (AB Z (AF ?_))));refine eP [_, _] ?_ ?_
 ·rfl
 ·exact Pc (E8 (by simp [Qi]))
theorem popS_v (bm : Nat) (c0 c1 c2 c4 c5 c6 c7 c8 c9 : Value) (bf n0 cap : Nat) (rv : List Value) (rt : List T) (fs : List Frame) (hn0 : fs.length = n0) (hc : n0 ≤ cap) (hc2 : n0 ≤ 1048576) (k : Nat) (f : Frame) (hk : fs[k]? = some f) (hkl : k = n0 - 1) (hp : f.pile.length ≤ 1000) (hp1 : 1 ≤ f.pile.length) : Proc Tryz.prog 38 [.t (.v (.pointer (some ⟨bm, 0, none⟩)))] (rv) (rt) [.obox (.pointer (some ⟨bm, 0, none⟩)) [.t (.v c0), .t (.v c1), .t (.v c2), Aq bf n0 cap, .t (.v c4), .t (.v c5), .t (.v c6), .t (.v c7), .t (.v c8), .t (.v c9)], .row bf cap 11 (fs.map Frame.tt)] (.t (T.int (lastI f.pile))) [.obox (.pointer (some ⟨bm, 0, none⟩)) [.t (.v c0), .t (.v c1), .t (.v c2), Aq bf n0 cap, .t (.v c4), .t (.v c5), .t (.v c6), .t (.v c7), .t (.v c8), .t (.v c9)], .row bf cap 11 ((fs.set k (popF f)).map Frame.tt)] := by
 have hlt := Bs hk
 refine Proc.intro tys Tryz.func38 Z Z (N := 31) [100, 101] 99 ([(0, .t (.v (.pointer (some ⟨bm, 0, none⟩))))]) ([(100, .obox (.pointer (some ⟨bm, 0, none⟩)) [.t (.v c0), .t (.v c1), .t (.v c2), Aq bf n0 cap, .t (.v c4), .t (.v c5), .t (.v c6), .t (.v c7), .t (.v c8), .t (.v c9)]), (101, .row bf cap 11 (fs.map Frame.tt)), (99, .ro rv rt)]) Z Z Z Z (by decide) (by decide) Z (fun w0 G F0 => ?_);refine nY Z (W_le (Le.nameR (u := 101) 1101 Z Z Z Z) (nY Z (sG (eZ Z (nA (eZ Z ?_))))));refine cP [100] (hm := (Ho bm c0 c1 c2 c4 c5 c6 c7 c8 c9 bf n0 cap rv rt (by omega) hc hc2)) (k := ?_);refine nZ Z (WO_le (Le.namedR (t := 7) (u := 101) 1101 k 0 Z Z (by rw [hkl]; rfl)) ?_);refine nZ Z (eZ Z (nB (sQ ?_)))
 have hml : (f.pile.map T.int).length = f.pile.length := Qc ..
 refine Bg (id := 101) (i := k) (off := 3) (z := f.tt) 200 1200 133 Z As (AM hk) Z (by intro h; have := congrArg List.length h; rw [Qc, Qz] at this; omega) Z Z Z Z Z Z (fun b2 cap2 hcap2 => ?_);refine nY Z ?_
 have hz := List.getElem?_set_self (a := (T.agg (f.tt.cells.set 3 (.v (.slice (some ⟨b2, 0, none⟩) (f.pile.map T.int).length cap2))))) (Bu hk)
 refine rG (eZ Z (AE rfl Z (lt_of Z) Z Z Z (eZ Z (AG tys Z Z (lt_of Z) Z Z Z Z hz Z (WO_le (Le.namedS (t := 11) (id := 200) 1200 Z Z hcap2) (nZ Z (evE ?_)))))));refine kZ [2,3,12] Z (evI ?_);refine eZ Z (nA (eZ Z (AE rfl Z (lt_of Z) Z Z Z (eZ Z (AG tys Z Z (lt_of Z) Z Z Z Z hz Z (WO_le (Le.namedS (t := 17) (id := 200) 1200 Z Z hcap2) (nZ Z (eZ Z (AR tys Z Z (lt_of Z) Z Z Z Z Z Z Z Z (by omega) (by omega) (AG tys Z Z (lt_of Z) Z Z Z Z (BN _ _ (by omega) (by omega)) Z (kZ [2,3,4,20] Z (eZ Z (nA (eK 2 Z (AE rfl Z (lt_of Z) Z Z Z ?_)))))))))))))));refine eZ Z (AG tys Z Z (lt_of Z) Z Z Z Z hz Z (WO_le (Le.namedS (t := 25) (id := 200) 1200 Z Z hcap2) (nZ Z (eZ Z (Cv tys Z Z (lt_of Z) Z Z Z Z Z Z Z Z Z (by omega) (by omega) (by omega) (WO_le (Le.gather (u := 27) (id := 200) Z Z (by first | (simp; done) | (simp; omega) | omega)) ?_))))));refine nZ Z (AE rfl Z (lt_of Z) Z Z Z (kZ [2,5,27,28] Z (eZ Z (AJ tys _ Z Z Z Z Z Z hz Z (AbsL.own' AbsL.nil') Z (by decide) (Qe Z) (nZ Z (nA (eK 2 Z (nB (W_le (Le.closeR (u := 101) 1101 Z Z) (nY Z (rT ?_)))))))))));refine eP [_, _] ?_ ?_
 ·exact F9 (HH hp1)
 ·exact Pc (E8 (l' := f.pile.take (f.pile.length - 1)) (by simp))
theorem MW (bm bf n0 cap : Nat) (rv : List Value) (rt : List T) (fs : List Frame) (hn0 : fs.length = n0) (hc : n0 ≤ cap) (hc2 : n0 ≤ 1048576) (k : Nat) (f : Frame) (hk : fs[k]? = some f) (hkl : k = n0 - 1) (hp : f.pile.length ≤ 1000) (n : Int) (cells : List D) (hcell : cells[3]? = some (Aq bf n0 cap)) (hn : cells.length = 10) (hno : D.noImm.noImmL cells = true) :
  Proc Tryz.prog 65 [.t (.v (.pointer (some ⟨bm, 0, none⟩))), .t (T.int n)] rv rt (.obox (.pointer (some ⟨bm, 0, none⟩)) cells :: [.row bf cap 11 (fs.map Frame.tt)]) (.tup []) (.obox (.pointer (some ⟨bm, 0, none⟩)) cells :: [.row bf cap 11 ((fs.set k (pushF f n)).map Frame.tt)]) :=
 Proc.frame (n := 10) (j := 3) hcell hn hno (fun vs hl hu => by
  match vs, hl with
  | [c0, c1, c2, c3, c4, c5, c6, c7, c8, c9], _ =>
   obtain rfl : c3 = _ := Option.some.inj hu
   exact Pz bm c0 c1 c2 c4 c5 c6 c7 c8 c9 bf n0 cap rv rt fs hn0 hc hc2 k f hk hkl hp n) ⟨_, Tryz.func65, rfl, rfl⟩ (by simp)
theorem G6 (bm bf n0 cap : Nat) (rv : List Value) (rt : List T) (fs : List Frame) (hn0 : fs.length = n0) (hc : n0 ≤ cap) (hc2 : n0 ≤ 1048576) (k : Nat) (f : Frame) (hk : fs[k]? = some f) (hkl : k = n0 - 1) (hp : f.pile.length ≤ 1000) (hp1 : 1 ≤ f.pile.length) (cells : List D) (hcell : cells[3]? = some (Aq bf n0 cap)) (hn : cells.length = 10) (hno : D.noImm.noImmL cells = true) :
  Proc Tryz.prog 38 [.t (.v (.pointer (some ⟨bm, 0, none⟩)))] rv rt (.obox (.pointer (some ⟨bm, 0, none⟩)) cells :: [.row bf cap 11 (fs.map Frame.tt)]) (.t (T.int (lastI f.pile))) (.obox (.pointer (some ⟨bm, 0, none⟩)) cells :: [.row bf cap 11 ((fs.set k (popF f)).map Frame.tt)]) :=
 Proc.frame (n := 10) (j := 3) hcell hn hno (fun vs hl hu => by
  match vs, hl with
  | [c0, c1, c2, c3, c4, c5, c6, c7, c8, c9], _ =>
   obtain rfl : c3 = _ := Option.some.inj hu
   exact popS_v bm c0 c1 c2 c4 c5 c6 c7 c8 c9 bf n0 cap rv rt fs hn0 hc hc2 k f hk hkl hp hp1) ⟨_, Tryz.func38, rfl, rfl⟩ (by simp)
theorem Bm (bm : Nat) (x : Image) (inp : List Int) (u0 u1 : Value) (most : Int) (bf cap : Nat) (fs : List Frame) (n0 : Nat) (hn0 : fs.length = n0) (trace : List Int) (used code value made : Int) (notes : List Note) (hc : n0 ≤ cap) (hc2 : n0 ≤ 1048576) (k : Nat) (f : Frame) (n : Int) (hk : fs[k]? = some f) (hkl : k = n0 - 1) (hp : f.pile.length ≤ 1000) :
  Proc Tryz.prog 65 [.t (.v (.pointer (some ⟨bm, 0, none⟩))), .t (T.int n)] [u0, u1] [T.Codes x.codes, T.ints inp] [.obox (.pointer (some ⟨bm, 0, none⟩)) (mC u0 u1 most (Aq bf n0 cap) trace used code value made notes), .row bf cap 11 (fs.map Frame.tt)] (.tup []) [.obox (.pointer (some ⟨bm, 0, none⟩)) (mC u0 u1 most (Aq bf n0 cap) trace used code value made notes), .row bf cap 11 ((fs.set k (pushF f n)).map Frame.tt)] := MW bm bf n0 cap _ _ fs hn0 hc hc2 k f hk hkl hp n _ rfl rfl rfl
theorem DZ (bm : Nat) (x : Image) (inp : List Int) (u0 u1 : Value) (most : Int) (bf cap : Nat) (fs : List Frame) (n0 : Nat) (hn0 : fs.length = n0) (trace : List Int) (used code value made : Int) (notes : List Note) (hc : n0 ≤ cap) (hc2 : n0 ≤ 1048576) (k : Nat) (f : Frame) (hk : fs[k]? = some f) (hkl : k = n0 - 1) (hp : f.pile.length ≤ 1000) (hp1 : 1 ≤ f.pile.length) :
  Proc Tryz.prog 38 [.t (.v (.pointer (some ⟨bm, 0, none⟩)))] [u0, u1] [T.Codes x.codes, T.ints inp] [.obox (.pointer (some ⟨bm, 0, none⟩)) (mC u0 u1 most (Aq bf n0 cap) trace used code value made notes), .row bf cap 11 (fs.map Frame.tt)] (.t (T.int (lastI f.pile))) [.obox (.pointer (some ⟨bm, 0, none⟩)) (mC u0 u1 most (Aq bf n0 cap) trace used code value made notes), .row bf cap 11 ((fs.set k (popF f)).map Frame.tt)] := G6 bm bf n0 cap _ _ fs hn0 hc hc2 k f hk hkl hp hp1 _ rfl rfl rfl
open Go.Eng
theorem KG (bm : Nat) (x : Image) (inp : List Int) (u0 u1 : Value) (most : Int) (bf cap : Nat) (fs : List Frame) (n0 : Nat) (hn0 : fs.length = n0) (trace : List Int) (used code value made : Int) (notes : List Note) (hc : n0 ≤ cap) (hc2 : n0 ≤ 1048576) (k : Nat) (f : Frame) (hk : fs[k]? = some f) (h0 : 0 ≤ f.fn) (h1 : f.fn < x.codes.length) (hxl : x.codes.length ≤ 1048576) (hrl : (codeAt x f.fn).rows.length ≤ 1048576) (hrow : 0 ≤ rowX (codeAt x f.fn).rows f.at') : Proc Tryz.prog 51 [.t (.v (.pointer (some ⟨bm, 0, none⟩))), .t (.v (.pointer (some ⟨bf, k * 11, none⟩)))] ([u0, u1]) ([T.Codes x.codes, T.ints inp]) [.obox (.pointer (some ⟨bm, 0, none⟩)) (mC u0 u1 most (Aq bf n0 cap) trace used code value made notes), .row bf cap 11 (fs.map Frame.tt)] (.t (T.int (padX (codeAt x f.fn).rows f.at'))) [.obox (.pointer (some ⟨bm, 0, none⟩)) (mC u0 u1 most (Aq bf n0 cap) trace used code value made notes), .row bf cap 11 (fs.map Frame.tt)] := by
 have hlt := Bs hk
 have hca := Aa h0 h1
 rw [hca] at hrl hrow ⊢
 have hrx := Dw (x.codes[f.fn.toNat]'(by omega)).rows f.at'
 refine Proc.intro tys Tryz.func51 Z Z (N := 29) [100, 101] 99 ([(0, .t (.v (.pointer (some ⟨bm, 0, none⟩)))), (1, .t (.v (.pointer (some ⟨bf, k * 11, none⟩))))]) ([(100, .obox (.pointer (some ⟨bm, 0, none⟩)) (mC u0 u1 most (Aq bf n0 cap) trace used code value made notes)), (101, .row bf cap 11 (fs.map Frame.tt)), (99, .ro [u0, u1] [T.Codes x.codes, T.ints inp])]) Z Z Z Z (by decide) (by decide) Z (fun w0 G F0 => ?_);refine nY Z (W_le (Le.nameR (u := 101) 1101 Z Z Z Z) (nY Z (W_le (Le.namedR (t := 1) (u := 101) 1101 (k) 0 Z Z (by omega)) (nY Z (W_le (Le.openNew (u := 100) 1100 Z Z Z Z Z) (nY Z (W_le (Le.named (t := 0) (u := 100) 1100 Z Z) (nY Z (sG (eZ Z (nB (sQ (B0 12 mixed Z (by kernel_rfl) (by kernel_rfl) (QG_ev tys Z Z (lt_of Z) Z (QG_nil' rfl Z (lt_of Z) Z Z Z ?_)))))))))))))));refine QG_ev tys Z Z (lt_of Z) Z (QG_ev tys Z Z (lt_of Z) Z (F3 tys 99 0 Z Z (lt_of Z) Z Z Z Z (BX Z (QG_ev tys Z Z (lt_of Z) Z (QG_nil' rfl Z (lt_of Z) Z Z Z (QG_ev tys Z Z (lt_of Z) Z (DE tys Z Z (lt_of Z) Z Z Z Z (AM hk) Z (F6 tys Z Z (lt_of Z) Z Z Z Z Z Z Z (by omega) _ (BT _ _ (by omega) (by omega)) (QG_ev tys Z Z (lt_of Z) Z (BX Z (Di tys Z Z (lt_of Z) Z Z Z Z (QG_nil ?_))))))))))));refine ⟨by kernel_rfl, ?_⟩;refine nZ Z (sT Z (nZ Z (nB (sQ (AV mixed (by kernel_rfl) (evQ ?_))))));refine evQ ?_;refine evQ ?_;refine evQ ?_;refine evQ ?_;refine AI Z (AL rfl Z (lt_of Z) Z Z Z (evQ ?_));refine Ae tys Z Z (lt_of Z) Z Z Z Z (AM hk) Z (Dp ?_);refine ⟨_, Hx _ _ (by omega), rfl, ?_⟩;refine Ai tys Z Z (lt_of Z) Z Z Z Z Z Z Z (by omega) _ (BT _ _ (by omega) (by omega)) (evQ ?_);refine AI Z (evQ ?_);refine evQ ?_;refine Ak (tN (W_le (Le.closeR (u := 101) 1101 Z Z) (nY Z (W_le (Le.close (u := 100) 1100 Z Z Z) (nY Z (rT ?_))))));refine eP [_, _] ?_ ?_
 ·exact F9 (C5 (by omega)).symm
 ·rfl
theorem KF (bm : Nat) (x : Image) (inp : List Int) (u0 u1 : Value) (most : Int) (bf cap : Nat) (fs : List Frame) (n0 : Nat) (hn0 : fs.length = n0) (trace : List Int) (used code value made : Int) (notes : List Note) (hc : n0 ≤ cap) (hc2 : n0 ≤ 1048576) (k : Nat) (f : Frame) (hk : fs[k]? = some f) (hkl : k = n0 - 1) (h0 : 0 ≤ f.fn) (h1 : f.fn < x.codes.length) (hxl : x.codes.length ≤ 1048576) (hrl : (codeAt x f.fn).rows.length ≤ 1048576) (hrow : 0 ≤ rowX (codeAt x f.fn).rows f.at') (hrr : ∀ r, r ∈ (codeAt x f.fn).rows → -1048576 ≤ r.hi ∧ r.hi ≤ 1048576) : Proc Tryz.prog 40 [.t (.v (.pointer (some ⟨bm, 0, none⟩)))] ([u0, u1]) ([T.Codes x.codes, T.ints inp]) [.obox (.pointer (some ⟨bm, 0, none⟩)) (mC u0 u1 most (Aq bf n0 cap) trace used code value made notes), .row bf cap 11 (fs.map Frame.tt)] (.t (T.int (padX (codeAt x f.fn).rows f.at'))) [.obox (.pointer (some ⟨bm, 0, none⟩)) (mC u0 u1 most (Aq bf n0 cap) trace used code value made notes), .row bf cap 11 (fs.map Frame.tt)] := by
 have hlt := Bs hk
 have hca := Aa h0 h1
 rw [hca] at hrl hrow hrr ⊢
 have hrx := Dw (x.codes[f.fn.toNat]'(by omega)).rows f.at'
 refine Proc.intro tys Tryz.func40 Z Z (N := 28) [100, 101] 99 ([(0, .t (.v (.pointer (some ⟨bm, 0, none⟩))))]) ([(100, .obox (.pointer (some ⟨bm, 0, none⟩)) (mC u0 u1 most (Aq bf n0 cap) trace used code value made notes)), (101, .row bf cap 11 (fs.map Frame.tt)), (99, .ro [u0, u1] [T.Codes x.codes, T.ints inp])]) Z Z Z Z (by decide) (by decide) Z (fun w0 G F0 => ?_);refine nY Z (W_le (Le.nameR (u := 101) 1101 Z Z Z Z) (nY Z (W_le (Le.openNew (u := 100) 1100 Z Z Z Z Z) (nY Z (W_le (Le.named (t := 0) (u := 100) 1100 Z Z) (nY Z (sG (eZ Z (nB (sQ (AV mixed (by kernel_rfl) (evQ ?_))))))))))));refine AL rfl Z (lt_of Z) Z Z Z (evQ ?_);refine evQ ?_;refine A7 tys 99 0 Z Z (lt_of Z) Z Z Z Z (AI Z (evQ ?_));refine Lt (rid := 99) [100] 1101 (k) Z Z (lt_of Z) Z Z (by repeat (first | exact ResP.done | refine ResP.t ?_ | refine ResP.pin0 1100 Z ?_ | refine ResP.pinR 1100 Z (by first | rfl | omega) ?_ | refine ResP.nil 1 ?_ | refine ResP.nil' ?_ | refine ResP.own ?_ | refine ResP.sl Z Z (by first | omega | (simp; omega)) ?_)) Z (by repeat (first | exact trivial | refine ⟨OpenAs.same Z rfl, ?_⟩ | refine ⟨OpenAs.box 1100 Z Z Z Z rfl, ?_⟩ | refine ⟨OpenAs.row 1100 Z Z rfl, ?_⟩)) (by decide) (E5 bm x inp u0 u1 most bf n0 cap trace used code value made notes (by omega) hc hc2) Z Z (by first | rfl | omega) ?_;refine AL rfl Z (lt_of Z) Z Z Z (evQ ?_);refine Ae tys Z Z (lt_of Z) Z Z Z Z (AM hk) Z (Ai tys Z Z (lt_of Z) Z Z Z Z Z Z Z (by omega) _ (BT _ _ (by omega) (by omega)) (AI Z (evQ ?_)));refine evQ ?_;refine evQ ?_;refine Ak (tN (sG (eK 3 Z ?_)));refine AQ (rid := 99) [100] 1101 (k) Z Z (lt_of Z) Z Z (by repeat (first | exact ResP.done | refine ResP.t ?_ | refine ResP.pin0 1100 Z ?_ | refine ResP.pinR 1100 Z (by first | rfl | omega) ?_ | refine ResP.nil 1 ?_ | refine ResP.nil' ?_ | refine ResP.own ?_ | refine ResP.sl Z Z (by first | omega | (simp; omega)) ?_)) Z (by repeat (first | exact trivial | refine ⟨OpenAs.same Z rfl, ?_⟩ | refine ⟨OpenAs.box 1100 Z Z Z Z rfl, ?_⟩ | refine ⟨OpenAs.row 1100 Z Z rfl, ?_⟩)) (by decide) (E5 bm x inp u0 u1 most bf n0 cap trace used code value made notes (by omega) hc hc2) Z Z (by first | rfl | omega) ?_;refine AE rfl Z (lt_of Z) Z Z Z (eZ Z (kZ [2,17,18,22] Z (AG tys Z Z (lt_of Z) Z Z Z Z (AM hk) Z (AS ?_))));refine ⟨_, Fe _ _ (by omega) hrr, rfl, ?_⟩;refine iY (k := ?_);refine eK 3 Z (nB (W_le (Le.closeR (u := 101) 1101 Z Z) (nY Z (W_le (Le.close (u := 100) 1100 Z Z Z) (nY Z (rT ?_))))));refine eP [_, _] ?_ ?_
 ·exact F9 (C5 (by omega)).symm
 ·rfl
theorem BI (bm : Nat) (x : Image) (inp : List Int) (u0 u1 : Value) (most : Int) (bf cap : Nat) (fs : List Frame) (n0 : Nat) (hn0 : fs.length = n0) (trace : List Int) (used code value made : Int) (notes : List Note) (hc : n0 ≤ cap) (hc2 : n0 ≤ 1048576) (k : Nat) (f : Frame) (mode n : Int) (hk : fs[k]? = some f) (hkl : k = n0 - 1) (h0 : 0 ≤ f.fn) (h1 : f.fn < x.codes.length) (hxl : x.codes.length ≤ 1048576) (hrl : (codeAt x f.fn).rows.length ≤ 1048576) (hrow : 0 ≤ rowX (codeAt x f.fn).rows f.at') : Proc Tryz.prog 49 [.t (.v (.pointer (some ⟨bm, 0, none⟩))), .t (T.int mode), .t (T.int n)] ([u0, u1]) ([T.Codes x.codes, T.ints inp]) [.obox (.pointer (some ⟨bm, 0, none⟩)) (mC u0 u1 most (Aq bf n0 cap) trace used code value made notes), .row bf cap 11 (fs.map Frame.tt)] (.tup []) [.obox (.pointer (some ⟨bm, 0, none⟩)) (mC u0 u1 most (Aq bf n0 cap) trace used code value made notes), .row bf cap 11 ((fs.set k (raiseF x mode n f)).map Frame.tt)] := by
 have hlt := Bs hk
 refine Proc.intro tys Tryz.func49 Z Z (N := 31) [100, 101] 99 ([(0, .t (.v (.pointer (some ⟨bm, 0, none⟩)))), (1, .t (T.int mode)), (2, .t (T.int n))]) ([(100, .obox (.pointer (some ⟨bm, 0, none⟩)) (mC u0 u1 most (Aq bf n0 cap) trace used code value made notes)), (101, .row bf cap 11 (fs.map Frame.tt)), (99, .ro [u0, u1] [T.Codes x.codes, T.ints inp])]) Z Z Z Z (by decide) (by decide) Z (fun w0 G F0 => ?_);refine nY Z (W_le (Le.nameR (u := 101) 1101 Z Z Z Z) (nY Z (B1 (sG (eZ Z ?_)))));refine AQ (rid := 99) [100] 1101 (k) Z Z (lt_of Z) Z Z (by repeat (first | exact ResP.done | refine ResP.t ?_ | refine ResP.pin0 1100 Z ?_ | refine ResP.pinR 1100 Z (by first | rfl | omega) ?_ | refine ResP.nil 1 ?_ | refine ResP.nil' ?_ | refine ResP.own ?_ | refine ResP.sl Z Z (by first | omega | (simp; omega)) ?_)) Z (by repeat (first | exact trivial | refine ⟨OpenAs.same Z rfl, ?_⟩ | refine ⟨OpenAs.box 1100 Z Z Z Z rfl, ?_⟩ | refine ⟨OpenAs.row 1100 Z Z rfl, ?_⟩)) (by decide) (CU bm x inp u0 u1 most bf n0 cap trace used code value made notes (by omega) hc hc2) Z Z (by first | rfl | omega) ?_;refine eZ Z (nA (eK 5 Z (AE rfl Z (lt_of Z) Z Z Z (kZ [0,1,6,10,11,12,13,14] Z (eZ Z (AJ tys _ Z Z Z Z Z Z (AM hk) Z (AbsL.v' AbsL.nil') Z (by decide) (Qe Z) (nZ Z (WO_le (Le.eqK (id := 101) Z (congrArg (Blk.L 11) (Av (k := k) (f := { f with mode := mode })))) (nZ Z ?_)))))))))
 have hk1 : (fs.set k { f with mode := mode })[k]? = some { f with mode := mode } := AU hk
 refine nZ Z (AE rfl Z (lt_of Z) Z Z Z (eZ Z (AJ tys _ Z Z Z Z Z Z (AM hk1) Z (AbsL.v' AbsL.nil') Z (by decide) (Qe Z) (nZ Z (WO_le (Le.eqK (id := 101) Z (congrArg (Blk.L 11) (BQ (k := k) (f := { f with mode := mode, value := n })))) (nZ Z ?_))))))
 have hk2 : (fs.set k { f with mode := mode, value := n })[k]? = some { f with mode := mode, value := n } := AU hk
 refine nZ Z (AE rfl Z (lt_of Z) Z Z Z (eZ Z (AJ tys [T.list 1 []] Z Z Z Z Z Z (AM hk2) Z (AbsL.none' AbsL.nil') Z (by decide) (Qe Z) (nZ Z (WO_le (Le.eqK (id := 101) Z (congrArg (Blk.L 11) (BQ (k := k) (f := { f with mode := mode, value := n, pile := [] })))) (nZ Z ?_))))))
 have hk3 : (fs.set k { f with mode := mode, value := n, pile := [] })[k]? = some { f with mode := mode, value := n, pile := [] } := AU hk
 refine nZ Z (nB (sQ (sQ (kY [0,1,6] Z (rG (eK 2 Z (nB ?_)))))));refine CC (α := Int) [0, 6] [99, 100, 1101] (fun x => []) (fun x => [(101, .L 11 ((fs.set k { f with mode := mode, value := n, pile := [], base := x }).map Frame.tt))]) (fun x => x = if mode = 3 then 3 else f.base) ?_ (fun b hx => ?_)
 ·
  refine AC Z (fun h1 => ?_) (fun h1 => ?_)
  ·
   simp only [HS] at h1;refine rG (eZ Z (AE rfl Z (lt_of Z) Z Z Z (eZ Z (AJ tys _ Z Z Z Z Z Z (AM hk3) Z (AbsL.v' AbsL.nil') Z (by decide) (Qe Z) (nZ Z (WO_le (Le.eqK (id := 101) Z (congrArg (Blk.L 11) (BQ (k := k) (f := { f with mode := mode, value := n, pile := [], base := 3 })))) (nZ Z (nZ Z (oN (jQ _ ?_))))))))))
   simp_all
  simp only [HS] at h1;refine AD (jQ _ ?_)
  simp_all
 have hb := hx
 refine tN ?_
 have hk4 : (fs.set k { f with mode := mode, value := n, pile := [], base := b })[k]? = some { f with mode := mode, value := n, pile := [], base := b } := AU hk
 refine kY [0,6] Z (rG (eK 3 Z ?_));refine DT (rid := 99) [100, 101] Z Z (lt_of Z) Z Z (by repeat (first | exact ResP.done | refine ResP.t ?_ | refine ResP.pin0 1100 Z ?_ | refine ResP.pinR 1100 Z (by first | rfl | omega) ?_ | refine ResP.pin0 1101 Z ?_ | refine ResP.pinR 1101 Z (by first | rfl | omega) ?_ | refine ResP.nil 1 ?_ | refine ResP.nil' ?_ | refine ResP.own ?_ | refine ResP.sl Z Z (by first | omega | (simp; omega)) ?_)) Z (by repeat (first | exact trivial | refine ⟨OpenAs.same Z rfl, ?_⟩ | refine ⟨OpenAs.box 1100 Z Z Z Z rfl, ?_⟩ | refine ⟨OpenAs.row 1100 Z Z rfl, ?_⟩ | refine ⟨OpenAs.box 1101 Z Z Z Z rfl, ?_⟩ | refine ⟨OpenAs.row 1101 Z Z rfl, ?_⟩)) (by decide) (KG bm x inp u0 u1 most bf cap _ n0 (by rw [Qo]; exact hn0) trace used code value made notes hc hc2 k _ hk4 h0 h1 hxl hrl hrow) Z Z ?_;refine AE rfl Z (lt_of Z) Z Z Z (eZ Z (AJ tys _ Z Z Z Z Z Z (AM hk4) Z (AbsL.v' AbsL.nil') Z (by decide) (Qe Z) (nZ Z ?_)));subst hb;refine WO_le (Le.eqK (id := 101) Z (congrArg (Blk.L 11) (BQ (k := k) (f := raiseF x mode n f)))) (nZ Z (nZ Z (oN (AA (Le.closeR (u := 101) 1101 Z Z) (AB Z (AF ?_))))));refine eP [_, _] ?_ ?_
 ·rfl
 ·rfl
theorem BH (bm : Nat) (x : Image) (inp : List Int) (u0 u1 : Value) (most : Int) (bf cap : Nat) (fs : List Frame) (n0 : Nat) (hn0 : fs.length = n0) (trace : List Int) (used code value made : Int) (notes : List Note) (hc : n0 ≤ cap) (hc2 : n0 ≤ 1048576) (k : Nat) (f : Frame) (mode n : Int) (hk : fs[k]? = some f) (hkl : k = n0 - 1) (h0 : 0 ≤ f.fn) (h1 : f.fn < x.codes.length) (hxl : x.codes.length ≤ 1048576) (hrl : (codeAt x f.fn).rows.length ≤ 1048576) (hrow : 0 ≤ rowX (codeAt x f.fn).rows f.at') (hrr : ∀ r, r ∈ (codeAt x f.fn).rows → -1048576 ≤ r.hi ∧ r.hi ≤ 1048576) : Proc Tryz.prog 39 [.t (.v (.pointer (some ⟨bm, 0, none⟩))), .t (T.int mode), .t (T.int n)] ([u0, u1]) ([T.Codes x.codes, T.ints inp]) [.obox (.pointer (some ⟨bm, 0, none⟩)) (mC u0 u1 most (Aq bf n0 cap) trace used code value made notes), .row bf cap 11 (fs.map Frame.tt)] (.tup []) [.obox (.pointer (some ⟨bm, 0, none⟩)) (mC u0 u1 most (Aq bf n0 cap) trace used code value made notes), .row bf cap 11 ((fs.set k (raiseF x mode n f)).map Frame.tt)] := by
 have hlt := Bs hk
 refine Proc.intro tys Tryz.func39 Z Z (N := 30) [100, 101] 99 ([(0, .t (.v (.pointer (some ⟨bm, 0, none⟩)))), (1, .t (T.int mode)), (2, .t (T.int n))]) ([(100, .obox (.pointer (some ⟨bm, 0, none⟩)) (mC u0 u1 most (Aq bf n0 cap) trace used code value made notes)), (101, .row bf cap 11 (fs.map Frame.tt)), (99, .ro [u0, u1] [T.Codes x.codes, T.ints inp])]) Z Z Z Z (by decide) (by decide) Z (fun w0 G F0 => ?_);refine nY Z (W_le (Le.nameR (u := 101) 1101 Z Z Z Z) (nY Z (B1 (sG (eZ Z ?_)))));refine AQ (rid := 99) [100] 1101 (k) Z Z (lt_of Z) Z Z (by repeat (first | exact ResP.done | refine ResP.t ?_ | refine ResP.pin0 1100 Z ?_ | refine ResP.pinR 1100 Z (by first | rfl | omega) ?_ | refine ResP.nil 1 ?_ | refine ResP.nil' ?_ | refine ResP.own ?_ | refine ResP.sl Z Z (by first | omega | (simp; omega)) ?_)) Z (by repeat (first | exact trivial | refine ⟨OpenAs.same Z rfl, ?_⟩ | refine ⟨OpenAs.box 1100 Z Z Z Z rfl, ?_⟩ | refine ⟨OpenAs.row 1100 Z Z rfl, ?_⟩)) (by decide) (E5 bm x inp u0 u1 most bf n0 cap trace used code value made notes (by omega) hc hc2) Z Z (by first | rfl | omega) ?_;refine eZ Z (nA (eK 2 Z (AE rfl Z (lt_of Z) Z Z Z (eZ Z (AJ tys _ Z Z Z Z Z Z (AM hk) Z (AbsL.v' AbsL.nil') Z (by decide) (Qe Z) (nZ Z (WO_le (Le.eqK (id := 101) Z (congrArg (Blk.L 11) (Av (k := k) (f := { f with mode := mode })))) (nZ Z ?_))))))))
 have hk1 : (fs.set k { f with mode := mode })[k]? = some { f with mode := mode } := AU hk
 refine nZ Z (nB (sQ (kY [0,1,2,6] Z (rG (eK 2 Z (AE rfl Z (lt_of Z) Z Z Z (eZ Z (AJ tys _ Z Z Z Z Z Z (AM hk1) Z (AbsL.v' AbsL.nil') Z (by decide) (Qe Z) (nZ Z (WO_le (Le.eqK (id := 101) Z (congrArg (Blk.L 11) (BQ (k := k) (f := { f with mode := mode, value := n })))) (nZ Z (nZ Z (nB (sQ (sQ ?_)))))))))))))))
 have hk3 : (fs.set k { f with mode := mode, value := n })[k]? = some { f with mode := mode, value := n } := AU hk
 refine rG (eK 2 Z (nB ?_));refine CC (α := Int) [0, 6] [99, 100, 1101] (fun x => []) (fun x => [(101, .L 11 ((fs.set k { f with mode := mode, value := n, base := x }).map Frame.tt))]) (fun x => x = if mode = 3 then 3 else f.base) ?_ (fun b hx => ?_)
 ·
  refine AC Z (fun h1 => ?_) (fun h1 => ?_)
  ·
   simp only [HS] at h1;refine kY [0,6] Z (rG (eZ Z (AE rfl Z (lt_of Z) Z Z Z (eZ Z (AJ tys _ Z Z Z Z Z Z (AM hk3) Z (AbsL.v' AbsL.nil') Z (by decide) (Qe Z) (nZ Z (WO_le (Le.eqK (id := 101) Z (congrArg (Blk.L 11) (BQ (k := k) (f := { f with mode := mode, value := n, base := 3 })))) (nZ Z (nZ Z (oN (jQ _ ?_)))))))))))
   simp_all
  simp only [HS] at h1;refine AD (jQ _ ?_)
  simp_all
 have hb := hx
 refine tN (sQ ?_)
 have hk2 : (fs.set k { f with mode := mode, value := n, base := b })[k]? = some { f with mode := mode, value := n, base := b } := AU hk
 refine kY [0,6] Z (rG (eZ Z (AE rfl Z (lt_of Z) Z Z Z (eZ Z (AJ tys [T.list 1 []] Z Z Z Z Z Z (AM hk2) Z (AbsL.none' AbsL.nil') Z (by decide) (Qe Z) (nZ Z (WO_le (Le.eqK (id := 101) Z (congrArg (Blk.L 11) (BQ (k := k) (f := { f with mode := mode, value := n, base := b, pile := [] })))) (nZ Z (nZ Z (nB ?_))))))))))
 have hk4 : (fs.set k { f with mode := mode, value := n, base := b, pile := [] })[k]? = some { f with mode := mode, value := n, base := b, pile := [] } := AU hk
 refine rG (eK 2 Z ?_);refine DT (rid := 99) [100, 101] Z Z (lt_of Z) Z Z (by repeat (first | exact ResP.done | refine ResP.t ?_ | refine ResP.pin0 1100 Z ?_ | refine ResP.pinR 1100 Z (by first | rfl | omega) ?_ | refine ResP.pin0 1101 Z ?_ | refine ResP.pinR 1101 Z (by first | rfl | omega) ?_ | refine ResP.nil 1 ?_ | refine ResP.nil' ?_ | refine ResP.own ?_ | refine ResP.sl Z Z (by first | omega | (simp; omega)) ?_)) Z (by repeat (first | exact trivial | refine ⟨OpenAs.same Z rfl, ?_⟩ | refine ⟨OpenAs.box 1100 Z Z Z Z rfl, ?_⟩ | refine ⟨OpenAs.row 1100 Z Z rfl, ?_⟩ | refine ⟨OpenAs.box 1101 Z Z Z Z rfl, ?_⟩ | refine ⟨OpenAs.row 1101 Z Z rfl, ?_⟩)) (by decide) (KF bm x inp u0 u1 most bf cap _ n0 (by rw [Qo]; exact hn0) trace used code value made notes hc hc2 k _ hk4 hkl h0 h1 hxl hrl hrow hrr) Z Z ?_;refine AE rfl Z (lt_of Z) Z Z Z (eZ Z (kZ [27,29] Z (AJ tys _ Z Z Z Z Z Z (AM hk4) Z (AbsL.v' AbsL.nil') Z (by decide) (Qe Z) (nZ Z ?_))));subst hb;refine WO_le (Le.eqK (id := 101) Z (congrArg (Blk.L 11) (BQ (k := k) (f := raiseF x mode n f)))) (nZ Z (nZ Z (oN (AA (Le.closeR (u := 101) 1101 Z Z) (AB Z (AF ?_))))));refine eP [_, _] ?_ ?_
 ·rfl
 ·rfl
theorem FZ (bm : Nat) (x : Image) (inp : List Int) (u0 u1 : Value) (most : Int) (bf cap : Nat) (fs : List Frame) (n0 : Nat) (hn0 : fs.length = n0) (trace : List Int) (used code value made : Int) (notes : List Note) (hc : n0 ≤ cap) (hc2 : n0 ≤ 1048576) (kind id site : Int) (hnl : notes.length ≤ 1000000) : Proc Tryz.prog 53 [.t (.v (.pointer (some ⟨bm, 0, none⟩))), .t (T.int kind), .t (T.int id), .t (T.int site)] ([u0, u1]) ([T.Codes x.codes, T.ints inp]) [.obox (.pointer (some ⟨bm, 0, none⟩)) (mC u0 u1 most (Aq bf n0 cap) trace used code value made notes)] (.tup []) [.obox (.pointer (some ⟨bm, 0, none⟩)) (mC u0 u1 most (Aq bf n0 cap) trace used code value made (notes ++ [⟨kind, id, site⟩]))] := by
 refine Proc.intro tys Tryz.func53 Z Z (N := 23) [100] 99 ([(0, .t (.v (.pointer (some ⟨bm, 0, none⟩)))), (1, .t (T.int kind)), (2, .t (T.int id)), (3, .t (T.int site))]) ([(100, .obox (.pointer (some ⟨bm, 0, none⟩)) (mC u0 u1 most (Aq bf n0 cap) trace used code value made notes)), (99, .ro [u0, u1] [T.Codes x.codes, T.ints inp])]) Z Z Z Z (by decide) (by decide) Z (fun w0 G F0 => ?_);refine nY Z (W_le (Le.openNew (u := 100) 1100 Z Z Z Z Z) (nY Z (W_le (Le.named (t := 0) (u := 100) 1100 Z Z) (nY Z (W_le (Le.adoptBox (u := 100) (j := 9) (id := 300) Z Z Z) (nY Z (B1 (rG (eK 2 Z (AE rfl Z (lt_of Z) Z Z Z (eK 6 Z (kZ [8,13,14,15,16] Z (Fy tys Z Z (lt_of Z) Z Z Z (by kernel_rfl) Z Z Z Z Z Z (bZ [.agg [T.int kind, T.int id, T.int site]] ?_))))))))))))));refine nZ Z (Am tys Z Z (lt_of Z) Z Z Z Z Z (.own Z (by first | omega | (simp only [Qf]; omega))) Z (.own Z (by first | decide | omega)) (by decide) (by simp; omega) (by decide) Z ?_);refine nZ Z (AE rfl Z (lt_of Z) Z Z Z (eK 2 Z (sT Z (nZ Z (oN (AA (Le.gatherBox (u := 100) (j := 9) (id := 300) Z Z Z (by simp) Z) ?_))))));refine AB Z (AA (Le.close (u := 100) 1100 Z Z Z) (AB Z (AF ?_)));refine eP [_] ?_ ?_
 ·rfl
 ·simp [Qi]
theorem FY (bm : Nat) (x : Image) (inp : List Int) (u0 u1 : Value) (most : Int) (bf cap : Nat) (fs : List Frame) (n0 : Nat) (hn0 : fs.length = n0) (trace : List Int) (used code value made : Int) (notes : List Note) (hc : n0 ≤ cap) (hc2 : n0 ≤ 1048576) (k : Nat) (f : Frame) (kind site : Int) (hk : fs[k]? = some f) (hkl : k = n0 - 1) (hnl : notes.length ≤ 1000000) : Proc Tryz.prog 68 [.t (.v (.pointer (some ⟨bm, 0, none⟩))), .t (T.int kind), .t (T.int site)] ([u0, u1]) ([T.Codes x.codes, T.ints inp]) [.obox (.pointer (some ⟨bm, 0, none⟩)) (mC u0 u1 most (Aq bf n0 cap) trace used code value made notes), .row bf cap 11 (fs.map Frame.tt)] (.tup []) [.obox (.pointer (some ⟨bm, 0, none⟩)) (mC u0 u1 most (Aq bf n0 cap) trace used code value made (notes ++ [⟨kind, f.id, site⟩])), .row bf cap 11 (fs.map Frame.tt)] := by
 have hlt := Bs hk
 refine Proc.intro tys Tryz.func68 Z Z (N := 25) [100, 101] 99 ([(0, .t (.v (.pointer (some ⟨bm, 0, none⟩)))), (1, .t (T.int kind)), (2, .t (T.int site))]) ([(100, .obox (.pointer (some ⟨bm, 0, none⟩)) (mC u0 u1 most (Aq bf n0 cap) trace used code value made notes)), (101, .row bf cap 11 (fs.map Frame.tt)), (99, .ro [u0, u1] [T.Codes x.codes, T.ints inp])]) Z Z Z Z (by decide) (by decide) Z (fun w0 G F0 => ?_);refine nY Z (W_le (Le.nameR (u := 101) 1101 Z Z Z Z) (nY Z (W_le (Le.openNew (u := 100) 1100 Z Z Z Z Z) (nY Z (W_le (Le.named (t := 0) (u := 100) 1100 Z Z) (nY Z ?_))))));refine Ad (u := 100) (idp := 300) (j := 9) Z Z Z (fun v9 => ?_);refine nY Z (B1 (BJ 16 [[300], [], [], [], [], [], [300], [300], [300], [300], [300], [300], [300], [300], [300], []] mixed Z (by kernel_rfl) (by kernel_rfl) (QH_G (QG_ev tys Z Z (lt_of Z) Z (QG_nil (Ab (QG_ev tys Z Z (lt_of Z) Z (QG_nil (Ab (QG_nil' rfl Z (lt_of Z) Z Z Z (QG_nil (Ab (QG_ev tys Z Z (lt_of Z) Z (QG_nil (Ab ?_)))))))))))))));refine QG_ev tys Z Z (lt_of Z) Z (QG_nil (DV tys 300 Z Z (lt_of Z) Z Z (QH_G (QG_ev tys Z Z (lt_of Z) Z (QG_nil (QH_G (QG_ev tys Z Z (lt_of Z) Z (QG_nil (QH_G ?_)))))))));refine Lv (rid := 99) [100] 1101 (k) Z Z (lt_of Z) Z Z (by repeat (first | exact ResP.done | refine ResP.t ?_ | refine ResP.pin0 1100 Z ?_ | refine ResP.pinR 1100 Z (by first | rfl | omega) ?_ | refine ResP.nil 1 ?_ | refine ResP.nil' ?_ | refine ResP.own ?_ | refine ResP.sl Z Z (by first | omega | (simp; omega)) ?_)) Z (by repeat (first | exact trivial | refine ⟨OpenAs.same Z rfl, ?_⟩ | refine ⟨OpenAs.box 1100 Z Z Z Z rfl, ?_⟩ | refine ⟨OpenAs.row 1100 Z Z rfl, ?_⟩)) (by decide) (Az bm bf n0 cap _ _ (by omega) hc hc2 [.t (.v u0), .t (.v u1), .t (T.int most), Aq bf n0 cap, .own (.list 1 (trace.map T.int)), .t (T.int used), .t (T.int code), .t (T.int value), .t (T.int made), .t (.v v9)] Z Z Z) Z Z (by first | rfl | omega) ?_;refine QG_nil (QH_G (QG_nil' rfl Z (lt_of Z) Z Z Z (QG_nil (QH_G (QG_ev tys Z Z (lt_of Z) Z (QG_nil (QH_G (DE tys Z Z (lt_of Z) Z Z Z Z (AM hk) Z (QG_nil (QH_G (QG_ev tys Z Z (lt_of Z) Z (QG_nil (QH_G (F4 tys Z Z (lt_of Z) Z Z Z (by kernel_rfl) Z Z Z Z Z Z (QG_nil ?_)))))))))))))));refine QH_G ?_;refine Cz tys [.agg [T.int kind, T.int f.id, T.int site]] Z Z (lt_of Z) Z Z Z Z Z (lt_of Z) (by repeat (first | exact PartsOk.nil' | refine PartsOk.cons' rfl (by repeat (first | exact AbsL.nil' | refine AbsL.v' ?_ | refine AbsL.own' ?_ | refine AbsL.none' ?_)) Z ?_)) Z Z Z (by decide) ?_;refine QG_nil (Ab (CJ tys Z Z (lt_of Z) Z Z Z Z Z Z Z Z Z ((fun x hx => by rw [Qw] at hx; subst hx; exact ⟨rfl, fun z hz => by simp only [T.cells, Qn, List.not_mem_nil, or_false] at hz; rcases hz with rfl | rfl | rfl <;> exact ⟨_, rfl⟩⟩)) (by simp; omega) (by decide) Z ?_));refine QG_nil (QH_nil ?_);refine ⟨by kernel_rfl, ?_⟩;refine nZ Z (AE rfl Z (lt_of Z) Z Z Z (eK 2 Z (sT Z (nZ Z (oN (AA (Le.closeR (u := 101) 1101 Z Z) (AB Z (AA (Le.close (u := 100) 1100 Z Z Z) (AB Z (AF ?_))))))))));refine eP [_, _] ?_ ?_
 ·rfl
 ·simp [Qi]
open Go.Eng
def inN (inp : List Int) (used : Int) : Int := if used < inp.length then atI inp used else 0
def plainF (inp : List Int) (used : Int) (i : Ins) (f : Frame) : Frame :=
 if i.op = 1 then pushF f i.n else if i.op = 2 then pushF f (atI f.vars i.n) else if i.op = 3 then { popF f with vars := f.vars.set i.n.toNat (lastI f.pile) }
 else if i.op = 5 then pushF f (inN inp used) else if i.op = 8 then popF f else if i.op = 9 then popF f
 else if i.op = 15 then { popF f with res := lastI f.pile } else if i.op = 12 then { f with flags := f.flags.set i.n.toNat true } else f
def D9 (k : Nat) (f : Frame) (fs : List Frame) : List Frame :=
 if f.off = true then (match fs[k - 1]? with
  | some g => if g.mode = 2 then (fs.set (k - 1) { g with mode := g.base }).set k (pushF f g.value) else fs.set k (pushF f 0)
  | none => fs.set k (pushF f 0)) else fs.set k (pushF f 0)
def Ah (inp : List Int) (used : Int) (i : Ins) (k : Nat) (f : Frame) (fs : List Frame) : List Frame := if i.op = 6 then D9 k f fs else fs.set k (plainF inp used i f)
def plainTr (i : Ins) (f : Frame) (trace : List Int) : List Int := if i.op = 8 then trace ++ [lastI f.pile] else trace
def plainUs (inp : List Int) (i : Ins) (used : Int) : Int := if i.op = 5 ∧ used < inp.length then used + 1 else used
def plainNo (i : Ins) (f : Frame) (notes : List Note) : List Note := if i.op = 12 then notes ++ [⟨1, f.id, i.n⟩] else notes
theorem NF {fs : List Frame} {k j : Nat} {f : Frame} {v : T} : (((fs.map Frame.tt).set k (T.agg (f.tt.cells.set 4 v))).set k (T.agg ((popF f).tt.cells.set 4 v))).set k (.agg ((T.agg ((popF f).tt.cells.set 4 v)).cells.set 4 (.list 1 ((f.vars.map T.int).set j (T.int (lastI f.pile)))))) = (fs.set k { popF f with vars := f.vars.set j (lastI f.pile) }).map Frame.tt := by
 rw [Q4, Q4, ← Av, ← RR]; rfl
theorem Kd {fs : List Frame} {k j : Nat} {f : Frame} {v : T} : ((fs.map Frame.tt).set k (T.agg (f.tt.cells.set 5 v))).set k (.agg ((T.agg (f.tt.cells.set 5 v)).cells.set 5 (.list 1 ((f.flags.map T.bool).set j (T.bool true))))) = (fs.set k { f with flags := f.flags.set j true }).map Frame.tt := by
 rw [Q4, ← Av, ← RR]; rfl
structure Ju (inp : List Int) (used : Int) (i : Ins) (k : Nat) (f : Frame) : Prop where
 pile : f.pile.length ≤ 100
 pop : i.op = 3 ∨ i.op = 8 ∨ i.op = 9 ∨ i.op = 15 → 1 ≤ f.pile.length
 vars : i.op = 2 ∨ i.op = 3 → 0 ≤ i.n ∧ i.n < f.vars.length
 flags : i.op = 12 → 0 ≤ i.n ∧ i.n < f.flags.length
 below : i.op = 6 → f.off = true → 1 ≤ k
 used0 : 0 ≤ used
 used1 : used ≤ 1000000
 inl : inp.length ≤ 1000000
 vl : f.vars.length ≤ 1000
 fl : f.flags.length ≤ 1000
theorem LC (bm : Nat) (x : Image) (inp : List Int) (u0 u1 : Value) (most : Int) (bf cap : Nat) (fs : List Frame) (n0 : Nat) (hn0 : fs.length = n0) (trace : List Int) (used code value made : Int) (notes : List Note) (hc : n0 ≤ cap) (hc2 : n0 ≤ 1048576) (k : Nat) (f : Frame) (i : Ins) (hk : fs[k]? = some f) (hkl : k = n0 - 1) (hnl : notes.length ≤ 1000000) (htl : trace.length ≤ 1000000) (hok : Ju inp used i k f) : Proc Tryz.prog 55 [.t (.v (.pointer (some ⟨bm, 0, none⟩))), .t (.v (.pointer (some ⟨bf, k * 11, none⟩))), .t i.tt] ([u0, u1]) ([T.Codes x.codes, T.ints inp]) [.obox (.pointer (some ⟨bm, 0, none⟩)) (mC u0 u1 most (Aq bf n0 cap) trace used code value made notes), .row bf cap 11 (fs.map Frame.tt)] (.tup []) [.obox (.pointer (some ⟨bm, 0, none⟩)) (mC u0 u1 most (Aq bf n0 cap) (plainTr i f trace) (plainUs inp i used) code value made (plainNo i f notes)), .row bf cap 11 ((Ah inp used i k f fs).map Frame.tt)] := by
 have hlt := Bs hk
 have hvl : (f.vars.map T.int).length = f.vars.length := Qc ..
 have hfl : (f.flags.map T.bool).length = f.flags.length := Qc ..
 have hpl := hok.pile
 have hul := hok.used0
 have hul2 := hok.used1
 have hil := hok.inl
 have hvl2 := hok.vl
 have hfl2 := hok.fl
 refine Proc.intro tys Tryz.func55 Z Z (N := 157) [100, 101] 99 ([(0, .t (.v (.pointer (some ⟨bm, 0, none⟩)))), (1, .t (.v (.pointer (some ⟨bf, k * 11, none⟩)))), (2, .t i.tt)]) ([(100, .obox (.pointer (some ⟨bm, 0, none⟩)) (mC u0 u1 most (Aq bf n0 cap) trace used code value made notes)), (101, .row bf cap 11 (fs.map Frame.tt)), (99, .ro [u0, u1] [T.Codes x.codes, T.ints inp])]) Z Z Z Z (by decide) (by decide) Z (fun w0 G F0 => ?_);refine nY Z (W_le (Le.nameR (u := 101) 1101 Z Z Z Z) (nY Z (W_le (Le.namedR (t := 1) (u := 101) 1101 (k) 0 Z Z (by omega)) (nY Z (W_le (Le.openNew (u := 100) 1100 Z Z Z Z Z) (nY Z (W_le (Le.named (t := 0) (u := 100) 1100 Z Z) (nY Z (B1 (sG (AZ Z Z (lt_of Z) Z Z (nZ Z (nA (eK 2 Z (nB ?_)))))))))))))));refine AH (sG (eK 2 Z (nB ?_)));refine AC Z (fun h1 => ?_) (fun h1 => ?_)
 ·
  simp only [HS] at h1;refine rG (eK 3 Z (WO_le (Le.closeR (u := 101) 1101 Z Z) (nZ Z ?_)));refine AK (rid := 99) [101] Z Z (lt_of Z) Z Z (by repeat (first | exact ResP.done | refine ResP.pin0 1101 Z ?_ | refine ResP.t ?_ | refine ResP.pinR 1101 Z (by first | rfl | omega) ?_ | refine ResP.nil 1 ?_ | refine ResP.nil' ?_ | refine ResP.own ?_ | refine ResP.sl Z Z (by first | omega | (simp; omega)) ?_ | refine ResP.aggT (by repeat (first | exact ResP.done | refine ResP.t ?_)) ?_)) Z (by repeat (first | exact trivial | refine ⟨rfl, rfl, ?_⟩)) (by decide) (BL bf cap k fs f i.n hk (by omega) _ _) Z Z Z ?_;refine nZ Z (WO_le (Le.openR (u := 101) 1101 Z Z) (nZ Z (kZ [] Z (oN (bN (AA (Le.closeR (u := 101) 1101 Z Z) (AB Z (AA (Le.close (u := 100) 1100 Z Z Z) (AB Z (AF ?_))))))))));refine eP [_, _] ?_ ?_
  ·rfl
  ·first
   | (have hop : i.op = 1 := (by assumption); simp [plainTr, plainUs, plainNo, Ah, plainF, hop]; done)
 simp only [HS] at h1;refine sG (eK 2 Z (nB ?_));refine AC Z (fun h2 => ?_) (fun h2 => ?_)
 ·
  simp only [HS] at h2
  have hv := hok.vars (by omega)
  refine Bg (id := 101) (i := k) (off := 4) (z := f.tt) 201 1201 334 Z As (AM hk) Z (by intro h; have := congrArg List.length h; rw [Qc, Qz] at this; omega) Z Z Z Z Z Z (fun b2 cap2 hcap2 => ?_);refine nY Z ?_
  have hz := List.getElem?_set_self (a := (T.agg (f.tt.cells.set 4 (.v (.slice (some ⟨b2, 0, none⟩) (f.vars.map T.int).length cap2))))) (Bu hk)
  refine kY [1,5] Z (A4 9 mixed Z (by kernel_rfl) (by kernel_rfl) (evQ ?_));refine evQ ?_;refine AL rfl Z (lt_of Z) Z Z Z (evQ ?_);refine CA tys 1201 Z Z (lt_of Z) Z Z Z Z hz Z Z hcap2 (evQ ?_);refine AI Z (evQ ?_);refine CD tys Z Z (lt_of Z) Z Z Z Z Z Z Z Z (by omega) (by omega) (Ae tys Z Z (lt_of Z) Z Z Z Z (BN _ _ (by omega) (by omega)) Z (Ak (WO_le (Le.claimL (id := 101) (id2 := 201) (pid := 1201) (i := k) (off := 4) Z Z Z hz Z (by rfl) Z) ?_)));refine nZ Z (WO_le (Le.eqK (id := 101) Z (congrArg (Blk.L 11) (En hk Z))) (nZ Z (WO_le (Le.closeR (u := 101) 1101 Z Z) (nZ Z ?_))));refine AK (rid := 99) [101] Z Z (lt_of Z) Z Z (by repeat (first | exact ResP.done | refine ResP.pin0 1101 Z ?_ | refine ResP.t ?_ | refine ResP.pinR 1101 Z (by first | rfl | omega) ?_ | refine ResP.nil 1 ?_ | refine ResP.nil' ?_ | refine ResP.own ?_ | refine ResP.sl Z Z (by first | omega | (simp; omega)) ?_ | refine ResP.aggT (by repeat (first | exact ResP.done | refine ResP.t ?_)) ?_)) Z (by repeat (first | exact trivial | refine ⟨rfl, rfl, ?_⟩)) (by decide) (BL bf cap k fs f _ hk (by omega) _ _) Z Z Z ?_;refine nZ Z (WO_le (Le.openR (u := 101) 1101 Z Z) (nZ Z (oN (bN (AA (Le.closeR (u := 101) 1101 Z Z) (AB Z (AA (Le.close (u := 100) 1100 Z Z Z) (AB Z (AF ?_)))))))));refine eP [_, _] ?_ ?_
  ·rfl
  ·first
   | (have hop : i.op = 2 := (by assumption); have hv := hok.vars (by omega); simp [plainTr, plainUs, plainNo, Ah, plainF, hop, BV hv.1 hv.2]; done)
 simp only [HS] at h2;refine sQ (kY [0,1,5,10] Z (rG (eK 2 Z (nB ?_))));refine AC Z (fun h3 => ?_) (fun h3 => ?_)
 ·
  simp only [HS] at h3
  have hv := hok.vars (by omega)
  have hp1 := hok.pop (by omega)
  refine Bg (id := 101) (i := k) (off := 4) (z := f.tt) 201 1201 334 Z As (AM hk) Z (by intro h; have := congrArg List.length h; rw [Qc, Qz] at this; omega) Z Z Z Z Z Z (fun b2 cap2 hcap2 => ?_);refine nY Z ?_
  have hz := List.getElem?_set_self (a := (T.agg (f.tt.cells.set 4 (.v (.slice (some ⟨b2, 0, none⟩) (f.vars.map T.int).length cap2))))) (Bu hk)
  refine W_le (Le.closeR (u := 101) 1101 Z Z) (nY Z ?_)
  have hz2 : (((fs.map Frame.tt).set k (T.agg (f.tt.cells.set 4 (.v (.slice (some ⟨b2, 0, none⟩) (f.vars.map T.int).length cap2))))).set k (T.agg ((popF f).tt.cells.set 4 (.v (.slice (some ⟨b2, 0, none⟩) (f.vars.map T.int).length cap2)))))[k]? = some (T.agg ((popF f).tt.cells.set 4 (.v (.slice (some ⟨b2, 0, none⟩) (f.vars.map T.int).length cap2)))) := List.getElem?_set_self (by rw [Qo]; exact Bu hk)
  have hcl : ∀ x, x ∈ ((fs.map Frame.tt).set k (T.agg (f.tt.cells.set 4 (.v (.slice (some ⟨b2, 0, none⟩) (f.vars.map T.int).length cap2))))) → (T.cells x).length = 11 := fun x hx => by
   rcases RD hx with hx | rfl
   ·exact As x hx
   ·rfl
  refine Eu 9 (fun s' => lookM s'.M 101 = some (Blk.row bf cap 11 ((fs.map Frame.tt).set k (T.agg (f.tt.cells.set 4 (.v (.slice (some ⟨b2, 0, none⟩) (f.vars.map T.int).length cap2)))))) ∨ lookM s'.M 101 = some (Blk.row bf cap 11 (((fs.map Frame.tt).set k (T.agg (f.tt.cells.set 4 (.v (.slice (some ⟨b2, 0, none⟩) (f.vars.map T.int).length cap2))))).set k (T.agg ((popF f).tt.cells.set 4 (.v (.slice (some ⟨b2, 0, none⟩) (f.vars.map T.int).length cap2))))))) [[101], [101], [101], [101], [101], [101], [], [], []] mixed Z (by kernel_rfl) (by kernel_rfl) (QV_H (QH_G (QG_ev tys Z Z (lt_of Z) Z (QG_nil (QH_nil (QV_H (QH_G (QG_nil' rfl Z (lt_of Z) Z Z Z (QG_nil (QH_nil (QV_H (QH_G (QG_ev tys Z Z (lt_of Z) Z (QG_nil (QH_nil ?_)))))))))))))));refine Gg tys 1101 1201 Z Z (lt_of Z) Z Z Z (fun s' h => h) Z Z hz hz2 Z Z Z hcap2 (QV_H (QH_G (QG_ev tys Z Z (lt_of Z) Z (QG_nil (QH_nil (QV_H (QH_G (QG_ev tys Z Z (lt_of Z) Z (QG_nil (QH_nil (QV_H (Ab (QG_ev tys Z Z (lt_of Z) Z (QG_nil (QH_nil ?_)))))))))))))));refine QV_H ?_;refine Dh (rid := 99) [101] Z Z (lt_of Z) Z Z (by repeat (first | exact ResP.done | refine ResP.pin0 1101 Z ?_ | refine ResP.t ?_ | refine ResP.pinR 1101 Z (by first | rfl | omega) ?_ | refine ResP.nil 1 ?_ | refine ResP.nil' ?_ | refine ResP.own ?_ | refine ResP.sl Z Z (by first | omega | (simp; omega)) ?_ | refine ResP.aggT (by repeat (first | exact ResP.done | refine ResP.t ?_)) ?_)) Z (by repeat (first | exact trivial | refine ⟨rfl, rfl, ?_⟩)) (by decide) (Pd bf cap k _ hcl _ _ _ _ _ _ _ _ _ _ f.pile hz (by omega) hp1 _ _) Z Z Z ?_;refine QH_nil (QV_H (Ab (QZ tys Z Z (lt_of Z) Z Z Z Z Z Z Z Z (by omega) (by omega) (QG_nil (QH_nil (N0 ?_))))));refine ⟨by kernel_rfl, (fun X => HB (id := 101) Z (by repeat (first | exact trivial | refine ⟨fun p hp he => by first | (cases hp; done) | (rcases Qw.1 hp with rfl; rfl), ?_⟩)) X _), ?_⟩;refine nZ Z (Al tys (T.int (lastI f.pile)) Z Z Z Z Z Z (Qv _) (by omega) Z (AbsL.v' AbsL.nil') Z Z Z (nZ Z (WO_le (Le.openR (u := 101) 1101 Z Z) (nZ Z (WO_le (Le.claimL (id := 101) (id2 := 201) (pid := 1201) (i := k) (off := 4) Z Z Z hz2 Z (by rw [Qo]) Z) ?_)))));refine nZ Z (WO_le (Le.eqK (id := 101) Z (congrArg (Blk.L 11) (NF (fs := fs) (k := k) (f := f) (j := i.n.toNat)))) (nZ Z (nZ Z (oN (bN (AA (Le.closeR (u := 101) 1101 Z Z) (AB Z (AA (Le.close (u := 100) 1100 Z Z Z) (AB Z (AF ?_))))))))));refine eP [_, _] ?_ ?_
  ·rfl
  ·first
   | (have hop : i.op = 3 := (by assumption); simp [plainTr, plainUs, plainNo, Ah, plainF, hop]; done)
 simp only [HS] at h3;refine sG (eK 2 Z (nB ?_));refine AC Z (fun h4 => ?_) (fun h4 => ?_)
 ·
  simp only [HS] at h4;refine sG (eZ Z (nB (sQ (sQ (AV mixed (by kernel_rfl) (evQ ?_))))));refine AI Z (AL rfl Z (lt_of Z) Z Z Z (evQ ?_));refine evQ ?_;refine evQ ?_;refine evQ ?_;refine AL rfl Z (lt_of Z) Z Z Z (AI Z (evQ ?_));refine A7 tys 99 1 Z Z (lt_of Z) Z Z Z Z (evEQ ?_);refine evQ ?_;refine Ak (tN ?_);refine AC Z (fun h5 => ?_) (fun h5 => ?_)
  ·
   simp only [HS] at h5;refine sQ (AV mixed (by kernel_rfl) (evQ ?_));refine AL rfl Z (lt_of Z) Z Z Z (AI Z (evQ ?_));refine A7 tys 99 1 Z Z (lt_of Z) Z Z Z Z (evQ ?_);refine AL rfl Z (lt_of Z) Z Z Z (evQ ?_);refine evQ ?_;refine AI Z (evQ ?_);refine Ai tys Z Z (lt_of Z) Z Z Z Z Z Z Z (by omega) _ (BT _ _ (by omega) (by omega)) (evQ ?_);refine evQ ?_;refine Ak (tN (rG (eZ Z (AE rfl Z (lt_of Z) Z Z Z (eK 3 Z (kZ [1,6,64,68] Z (evI ?_)))))));refine AE rfl Z (lt_of Z) Z Z Z (eK 2 Z (sT Z (nZ Z (nB (rG (eK 2 Z (WO_le (Le.closeR (u := 101) 1101 Z Z) (nZ Z ?_))))))));refine AK (rid := 99) [101] Z Z (lt_of Z) Z Z (by repeat (first | exact ResP.done | refine ResP.pin0 1101 Z ?_ | refine ResP.t ?_ | refine ResP.pinR 1101 Z (by first | rfl | omega) ?_ | refine ResP.nil 1 ?_ | refine ResP.nil' ?_ | refine ResP.own ?_ | refine ResP.sl Z Z (by first | omega | (simp; omega)) ?_ | refine ResP.aggT (by repeat (first | exact ResP.done | refine ResP.t ?_)) ?_)) Z (by repeat (first | exact trivial | refine ⟨rfl, rfl, ?_⟩)) (by decide) (BL bf cap k fs f _ hk (by omega) _ _) Z Z Z ?_;refine nZ Z (WO_le (Le.openR (u := 101) 1101 Z Z) (nZ Z (oN (bN (AA (Le.closeR (u := 101) 1101 Z Z) (AB Z (AA (Le.close (u := 100) 1100 Z Z Z) (AB Z (AF ?_)))))))));refine eP [_, _] ?_ ?_
   ·rfl
   ·first
    | (have hop : i.op = 5 := (by assumption); have hlt : used < inp.length := (by assumption); simp [plainTr, plainUs, plainNo, Ah, plainF, hop, inN, hlt, BV hul hlt]; done)
  simp only [HS] at h5;refine AD (tN (rG (eK 2 Z (WO_le (Le.closeR (u := 101) 1101 Z Z) (nZ Z ?_)))));refine AK (rid := 99) [101] Z Z (lt_of Z) Z Z (by repeat (first | exact ResP.done | refine ResP.pin0 1101 Z ?_ | refine ResP.t ?_ | refine ResP.pinR 1101 Z (by first | rfl | omega) ?_ | refine ResP.nil 1 ?_ | refine ResP.nil' ?_ | refine ResP.own ?_ | refine ResP.sl Z Z (by first | omega | (simp; omega)) ?_ | refine ResP.aggT (by repeat (first | exact ResP.done | refine ResP.t ?_)) ?_)) Z (by repeat (first | exact trivial | refine ⟨rfl, rfl, ?_⟩)) (by decide) (BL bf cap k fs f _ hk (by omega) _ _) Z Z Z ?_;refine nZ Z (WO_le (Le.openR (u := 101) 1101 Z Z) (nZ Z (oN (bN (AA (Le.closeR (u := 101) 1101 Z Z) (AB Z (AA (Le.close (u := 100) 1100 Z Z Z) (AB Z (AF ?_)))))))));refine eP [_, _] ?_ ?_
  ·rfl
  ·first
   | (have hop : i.op = 5 := (by assumption); have hlt : ¬ used < inp.length := (by omega); simp [plainTr, plainUs, plainNo, Ah, plainF, hop, inN, hlt]; done)
 simp only [HS] at h4;refine sG (eK 2 Z (nB ?_));refine AC Z (fun h5 => ?_) (fun h5 => ?_)
 ·
  simp only [HS] at h5;refine sG (eZ Z (nB (sQ (sQ (kY [0,1,7] Z (rG (eZ Z (AE rfl Z (lt_of Z) Z Z Z (eZ Z (AG tys Z Z (lt_of Z) Z Z Z Z (AM hk) Z (nB ?_)))))))))));refine AC Z (fun h6 => ?_) (fun h6 => ?_)
  ·
   refine sQ ?_
   have hk1 := hok.below (by omega) (by assumption)
   obtain ⟨g, hg⟩ : ∃ g, fs[k - 1]? = some g := ⟨_, List.getElem?_eq_getElem (by omega)⟩
   refine AV mixed (by kernel_rfl) (evQ ?_);refine AL rfl Z (lt_of Z) Z Z Z (AI Z (evQ ?_));refine evQ ?_;refine evQ ?_;refine evQ ?_;refine AL rfl Z (lt_of Z) Z Z Z (evQ ?_);refine AI Z (evQ ?_);refine evQ ?_;refine DD Z Z (lt_of Z) Z ⟨61, by kernel_rfl⟩ rfl (Lx ?_);refine DU tys Z Z (lt_of Z) Z Z Z Z Z Z (by omega) (by omega) (evQ ?_);refine AI Z (Ak (tN (sQ (W_le (Le.namedR (t := 8) (u := 101) 1101 (k - 1) 0 Z Z (by show ((n0 : Int) - 2).toNat * 11 = (k - 1) * 11 + 0; omega)) ?_))));refine nY Z (rG (eZ Z (AE rfl Z (lt_of Z) Z Z Z (eZ Z (AG tys Z Z (lt_of Z) Z Z Z Z (AM hg) Z (eZ Z (nB ?_)))))));refine AC Z (fun h7 => ?_) (fun h7 => ?_)
   ·
    simp only [HS] at h7;refine sG (eZ Z (AE rfl Z (lt_of Z) Z Z Z (eZ Z (AG tys Z Z (lt_of Z) Z Z Z Z (AM hg) Z (kZ [1,7,8,103] Z (eZ Z (nB (rG (eK 2 Z (AE rfl Z (lt_of Z) Z Z Z (eZ Z (AG tys Z Z (lt_of Z) Z Z Z Z (AM hg) Z (AE rfl Z (lt_of Z) Z Z Z (eZ Z (AJ tys _ Z Z Z Z Z Z (AM hg) Z (AbsL.v' AbsL.nil') Z (by decide) (Qe Z) ?_)))))))))))))));refine nZ Z (WO_le (Le.eqK (id := 101) Z (congrArg (Blk.L 11) (Av (k := k - 1) (f := { g with mode := g.base })))) (nZ Z ?_))
    have hkg : (fs.set (k - 1) { g with mode := g.base })[k]? = some f := by rw [List.getElem?_set_ne (by omega)]; exact hk
    refine nZ Z (kZ [1,7] Z (nB (rG (eK 2 Z (WO_le (Le.closeR (u := 101) 1101 Z Z) (nZ Z ?_))))));refine AK (rid := 99) [101] Z Z (lt_of Z) Z Z (by repeat (first | exact ResP.done | refine ResP.pin0 1101 Z ?_ | refine ResP.t ?_ | refine ResP.pinR 1101 Z (by first | rfl | omega) ?_ | refine ResP.nil 1 ?_ | refine ResP.nil' ?_ | refine ResP.own ?_ | refine ResP.sl Z Z (by first | omega | (simp; omega)) ?_ | refine ResP.aggT (by repeat (first | exact ResP.done | refine ResP.t ?_)) ?_)) Z (by repeat (first | exact trivial | refine ⟨rfl, rfl, ?_⟩)) (by decide) (BL bf cap k _ f _ (by first | exact hkg | exact hk) (by omega) _ _) Z Z Z ?_;refine nZ Z (WO_le (Le.openR (u := 101) 1101 Z Z) (nZ Z (oN (bN (AA (Le.closeR (u := 101) 1101 Z Z) (AB Z (AA (Le.close (u := 100) 1100 Z Z Z) (AB Z (AF ?_)))))))));refine eP [_, _] ?_ ?_
    ·rfl
    ·first
     | (have hop : i.op = 6 := (by assumption); have hof : f.off = true := (by assumption); have hmo : g.mode = 2 := (by assumption); simp [plainTr, plainUs, plainNo, Ah, D9, hop, hof, hg, hmo]; done)
   simp only [HS] at h7;refine AD (tN (rG (eK 2 Z (WO_le (Le.closeR (u := 101) 1101 Z Z) (nZ Z ?_)))));refine AK (rid := 99) [101] Z Z (lt_of Z) Z Z (by repeat (first | exact ResP.done | refine ResP.pin0 1101 Z ?_ | refine ResP.t ?_ | refine ResP.pinR 1101 Z (by first | rfl | omega) ?_ | refine ResP.nil 1 ?_ | refine ResP.nil' ?_ | refine ResP.own ?_ | refine ResP.sl Z Z (by first | omega | (simp; omega)) ?_ | refine ResP.aggT (by repeat (first | exact ResP.done | refine ResP.t ?_)) ?_)) Z (by repeat (first | exact trivial | refine ⟨rfl, rfl, ?_⟩)) (by decide) (BL bf cap k _ f _ (by first | exact hkg | exact hk) (by omega) _ _) Z Z Z ?_;refine nZ Z (WO_le (Le.openR (u := 101) 1101 Z Z) (nZ Z (oN (bN (AA (Le.closeR (u := 101) 1101 Z Z) (AB Z (AA (Le.close (u := 100) 1100 Z Z Z) (AB Z (AF ?_)))))))));refine eP [_, _] ?_ ?_
   ·rfl
   ·first
    | (have hop : i.op = 6 := (by assumption); have hof : f.off = true := (by assumption); have hmo : ¬ g.mode = 2 := (by assumption); simp [plainTr, plainUs, plainNo, Ah, D9, hop, hof, hg, hmo]; done)
  refine AD (tN (rG (eK 2 Z (WO_le (Le.closeR (u := 101) 1101 Z Z) (nZ Z ?_)))));refine AK (rid := 99) [101] Z Z (lt_of Z) Z Z (by repeat (first | exact ResP.done | refine ResP.pin0 1101 Z ?_ | refine ResP.t ?_ | refine ResP.pinR 1101 Z (by first | rfl | omega) ?_ | refine ResP.nil 1 ?_ | refine ResP.nil' ?_ | refine ResP.own ?_ | refine ResP.sl Z Z (by first | omega | (simp; omega)) ?_ | refine ResP.aggT (by repeat (first | exact ResP.done | refine ResP.t ?_)) ?_)) Z (by repeat (first | exact trivial | refine ⟨rfl, rfl, ?_⟩)) (by decide) (BL bf cap k _ f _ (by first | exact hkg | exact hk) (by omega) _ _) Z Z Z ?_;refine nZ Z (WO_le (Le.openR (u := 101) 1101 Z Z) (nZ Z (oN (bN (AA (Le.closeR (u := 101) 1101 Z Z) (AB Z (AA (Le.close (u := 100) 1100 Z Z Z) (AB Z (AF ?_)))))))));refine eP [_, _] ?_ ?_
  ·rfl
  ·first
   | (have hop : i.op = 6 := (by assumption); have hof : f.off = false := (by assumption); simp [plainTr, plainUs, plainNo, Ah, D9, hop, hof]; done)
 simp only [HS] at h5;refine sG (eK 2 Z (nB ?_));refine AC Z (fun h6 => ?_) (fun h6 => ?_)
 ·
  simp only [HS] at h6
  have hp1 := hok.pop (by omega)
  refine Ad (u := 100) (idp := 301) (j := 4) Z Z Z (fun v4 => ?_);refine nY Z (W_le (Le.closeR (u := 101) 1101 Z Z) (nY Z (kY [0,1] Z (BJ 10 [[101, 301], [101], [101], [101], [101], [101], [301], [301], [301], []] mixed Z (by kernel_rfl) (by kernel_rfl) (QH_G (QG_ev tys Z Z (lt_of Z) Z (QG_nil (QH_G (QG_ev tys Z Z (lt_of Z) Z (QG_nil (QH_G (QG_nil' rfl Z (lt_of Z) Z Z Z (QG_nil (QH_G (QG_ev tys Z Z (lt_of Z) Z ?_)))))))))))))));refine QG_nil (QH_G (QG_ev tys Z Z (lt_of Z) Z (QG_nil (DV tys 301 Z Z (lt_of Z) Z Z (QH_G (QG_ev tys Z Z (lt_of Z) Z (QG_nil ?_)))))));refine Dh (rid := 99) [101] Z Z (lt_of Z) Z Z (by repeat (first | exact ResP.done | refine ResP.pin0 1101 Z ?_ | refine ResP.t ?_ | refine ResP.pinR 1101 Z (by first | rfl | omega) ?_ | refine ResP.nil 1 ?_ | refine ResP.nil' ?_ | refine ResP.own ?_ | refine ResP.sl Z Z (by first | omega | (simp; omega)) ?_ | refine ResP.aggT (by repeat (first | exact ResP.done | refine ResP.t ?_)) ?_)) Z (by repeat (first | exact trivial | refine ⟨rfl, rfl, ?_⟩)) (by decide) (C3 bf cap k fs f hk (by omega) hp1 _ _) Z Z Z ?_;refine QH_G ?_;refine Cz tys [T.int (lastI f.pile)] Z Z (lt_of Z) Z Z Z Z Z (lt_of Z) (by repeat (first | exact PartsOk.nil' | refine PartsOk.cons' rfl (by repeat (first | exact AbsL.nil' | refine AbsL.v' ?_ | refine AbsL.own' ?_ | refine AbsL.none' ?_)) Z ?_)) Z Z Z (by decide) ?_;refine QG_nil (Ab (CJ tys Z Z (lt_of Z) Z Z Z Z Z Z Z Z Z ((fun x hx => by rw [Qw] at hx; subst hx; exact ⟨rfl, fun z hz => ⟨_, by simpa [T.cells] using hz⟩⟩)) (by simp; omega) (by decide) Z ?_));refine QG_nil (QH_nil ?_);refine ⟨by kernel_rfl, ?_⟩;refine nZ Z (WO_le (Le.openR (u := 101) 1101 Z Z) (nZ Z (AE rfl Z (lt_of Z) Z Z Z (eK 2 Z (sT Z (nZ Z (oN (bN (AA (Le.closeR (u := 101) 1101 Z Z) (AB Z (AA (Le.close (u := 100) 1100 Z Z Z) (AB Z (AF ?_)))))))))))));refine eP [_, _] ?_ ?_
  ·rfl
  ·first
   | (have hop : i.op = 8 := (by assumption); simp [plainTr, plainUs, plainNo, Ah, plainF, hop]; done)
 simp only [HS] at h6;refine sQ (kY [0,1,5,10] Z (rG (eK 2 Z (nB ?_))));refine AC Z (fun h7 => ?_) (fun h7 => ?_)
 ·
  simp only [HS] at h7
  have hp1 := hok.pop (by omega)
  refine rG (eZ Z (WO_le (Le.closeR (u := 101) 1101 Z Z) (nZ Z ?_)));refine AK (rid := 99) [101] Z Z (lt_of Z) Z Z (by repeat (first | exact ResP.done | refine ResP.pin0 1101 Z ?_ | refine ResP.t ?_ | refine ResP.pinR 1101 Z (by first | rfl | omega) ?_ | refine ResP.nil 1 ?_ | refine ResP.nil' ?_ | refine ResP.own ?_ | refine ResP.sl Z Z (by first | omega | (simp; omega)) ?_ | refine ResP.aggT (by repeat (first | exact ResP.done | refine ResP.t ?_)) ?_)) Z (by repeat (first | exact trivial | refine ⟨rfl, rfl, ?_⟩)) (by decide) (C3 bf cap k fs f hk (by omega) hp1 _ _) Z Z Z ?_;refine nZ Z (WO_le (Le.openR (u := 101) 1101 Z Z) (nZ Z (oN (bN (AA (Le.closeR (u := 101) 1101 Z Z) (AB Z (AA (Le.close (u := 100) 1100 Z Z Z) (AB Z (AF ?_)))))))));refine eP [_, _] ?_ ?_
  ·rfl
  ·first
   | (have hop : i.op = 9 := (by assumption); simp [plainTr, plainUs, plainNo, Ah, plainF, hop]; done)
 simp only [HS] at h7;refine sG (eK 2 Z (nB ?_));refine AC Z (fun h8 => ?_) (fun h8 => ?_)
 ·
  simp only [HS] at h8
  have hp1 := hok.pop (by omega)
  refine rG (eK 2 Z (WO_le (Le.closeR (u := 101) 1101 Z Z) (nZ Z ?_)));refine AK (rid := 99) [101] Z Z (lt_of Z) Z Z (by repeat (first | exact ResP.done | refine ResP.pin0 1101 Z ?_ | refine ResP.t ?_ | refine ResP.pinR 1101 Z (by first | rfl | omega) ?_ | refine ResP.nil 1 ?_ | refine ResP.nil' ?_ | refine ResP.own ?_ | refine ResP.sl Z Z (by first | omega | (simp; omega)) ?_ | refine ResP.aggT (by repeat (first | exact ResP.done | refine ResP.t ?_)) ?_)) Z (by repeat (first | exact trivial | refine ⟨rfl, rfl, ?_⟩)) (by decide) (C3 bf cap k fs f hk (by omega) hp1 _ _) Z Z Z ?_;refine nZ Z (WO_le (Le.openR (u := 101) 1101 Z Z) (nZ Z (AE rfl Z (lt_of Z) Z Z Z (eZ Z (kZ [137,139] Z (AJ tys _ Z Z Z Z Z Z (AM (AU (g := popF f) hk)) Z (AbsL.v' AbsL.nil') Z (by decide) (Qe Z) (nZ Z (WO_le (Le.eqK (id := 101) Z (congrArg (Blk.L 11) (BQ (k := k) (f := { popF f with res := lastI f.pile })))) (nZ Z (nZ Z (oN (bN (AA (Le.closeR (u := 101) 1101 Z Z) (AB Z (AA (Le.close (u := 100) 1100 Z Z Z) ?_)))))))))))))));refine AB Z (AF ?_);refine eP [_, _] ?_ ?_
  ·rfl
  ·first
   | (have hop : i.op = 15 := (by assumption); simp [plainTr, plainUs, plainNo, Ah, plainF, hop]; done)
 simp only [HS] at h8;refine sG (eK 2 Z (nB ?_));refine AC Z (fun h9 => ?_) (fun h9 => ?_)
 ·
  simp only [HS] at h9;refine sQ ?_
  have hv := hok.flags (by omega)
  refine Bg (id := 101) (i := k) (off := 5) (z := f.tt) 202 1202 335 Z As (AM hk) Z (by intro h; have := congrArg List.length h; rw [Qc, Qz] at this; omega) Z Z Z Z Z Z (fun b2 cap2 hcap2 => ?_);refine nY Z ?_
  have hz := List.getElem?_set_self (a := (T.agg (f.tt.cells.set 5 (.v (.slice (some ⟨b2, 0, none⟩) (f.flags.map T.bool).length cap2))))) (Bu hk)
  refine A4 7 mixed Z (by kernel_rfl) (by kernel_rfl) (evQ ?_);refine AI Z (AL rfl Z (lt_of Z) Z Z Z (evQ ?_));refine CA tys 1202 Z Z (lt_of Z) Z Z Z Z hz Z Z hcap2 (evQ ?_);refine evQ ?_;refine CD tys Z Z (lt_of Z) Z Z Z Z Z Z Z Z (by omega) (by omega) (AI Z (Ak (Al tys (T.bool true) Z Z Z Z Z Z (Qv _) (by omega) Z (AbsL.v' AbsL.nil') Z Z Z (nZ Z (WO_le (Le.claimL (id := 101) (id2 := 202) (pid := 1202) (i := k) (off := 5) Z Z Z hz Z (by rw [Qo]) Z) ?_)))));refine nZ Z (WO_le (Le.eqK (id := 101) Z (congrArg (Blk.L 11) (Kd (fs := fs) (k := k) (f := f) (j := i.n.toNat)))) (nZ Z (nZ Z (nB (A4 7 mixed Z (by kernel_rfl) (by kernel_rfl) (evQ ?_))))));refine evQ ?_;refine AL rfl Z (lt_of Z) Z Z Z (evQ ?_);refine Ae tys Z Z (lt_of Z) Z Z Z Z (AM (AU (g := { f with flags := f.flags.set i.n.toNat true }) hk)) Z (AI Z (evQ ?_));refine evQ ?_;refine Ak (WO_le (Le.close (u := 100) 1100 Z Z Z) (nZ Z ?_));refine cP [100] (hm := (FZ bm x inp u0 u1 most bf cap fs n0 hn0 trace used code value made notes hc hc2 1 f.id i.n hnl)) (k := ?_);refine nZ Z (WO_le (Le.open (u := 100) 1100 Z Z Z Z) (nZ Z (oN (bN (AA (Le.closeR (u := 101) 1101 Z Z) (AB Z (AA (Le.close (u := 100) 1100 Z Z Z) (AB Z (AF ?_)))))))));refine eP [_, _] ?_ ?_
  ·rfl
  ·first
   | (have hop : i.op = 12 := (by assumption); simp [plainTr, plainUs, plainNo, Ah, plainF, hop]; done)
 simp only [HS] at h9;refine AD (bN (AA (Le.closeR (u := 101) 1101 Z Z) (AB Z (AA (Le.close (u := 100) 1100 Z Z Z) (AB Z (AF ?_))))));refine eP [_, _] ?_ ?_
 ·rfl
 ·first
  | (have hfs : Ah inp used i k f fs = fs := (by rw [Ah, if_neg (by assumption)]; unfold plainF; (repeat rw [if_neg (by assumption)]); exact fr_same hk); rw [hfs, show plainTr i f trace = trace from if_neg (by assumption), show plainUs inp i used = used from if_neg (fun h => absurd h.1 (by assumption)), show plainNo i f notes = notes from if_neg (by assumption)])
open Go.Eng
abbrev Frame.dd (f : Frame) : D := .agg [.t (T.int f.id), .t (T.int f.fn), .t (T.int f.at'), .nil, .own (.list 1 (f.vars.map T.int)), .own (T.flags f.flags), .t (T.int f.res), .t (T.int f.mode), .t (T.int f.value), .t (T.int f.base), .t (T.bool f.off)]
theorem Fd (x : Image) (c : Code) (fn : Int) (hcx : codeAt x fn = c) (hv : 0 ≤ c.vars ∧ c.vars ≤ 1000) (hs : c.sites.length ≤ 1000) : Fun Tryz.prog 34 [.t c.tt, .t (T.int fn)] (Ay [(newF x 0 fn [] false).dd]) := by
 refine Fun.begin tys Tryz.func34 Z Z (N := 14) [(0, .t c.tt), (1, .t (T.int fn))] Z Z (fun w0 G F0 => ?_);refine sG (AZ Z Z (lt_of Z) Z Z (nZ Z (AY tys Z Z (lt_of Z) Z Z Z (nZ Z (nB (sQ (B0 9 mixed Z (by kernel_rfl) (by kernel_rfl) ?_)))))))
 iterate 3 (refine QG_ev tys rfl rfl (lt_of rfl) rfl ?_)
 refine FJ tys (T.int 0) Z Z (lt_of Z) Z Z Z Z Z (by repeat (first | exact AbsL.nil' | refine AbsL.v' ?_ | refine AbsL.none' ?_)) Z (by omega) (by omega) (by decide) ?_;refine BX Z (QG_ev tys Z Z (lt_of Z) Z (QG_ev tys Z Z (lt_of Z) Z (Pn tys Z Z (lt_of Z) Z (by first | exact lenM | exact Z) ?_)));refine FJ tys (T.bool false) Z Z (lt_of Z) Z Z Z Z Z (by repeat (first | exact AbsL.nil' | refine AbsL.v' ?_ | refine AbsL.none' ?_)) Z (by omega) (by omega) (by decide) ?_;refine F4 tys Z Z (lt_of Z) Z Z Z (by kernel_rfl) Z Z Z Z Z Z (QG_nil ?_);refine ⟨by kernel_rfl, ?_⟩;refine nZ Z (sT Z (nZ Z (nB (rT (eR ?_)))))
 ·(subst hcx; simp [newF])
theorem Mu (x : Image) (hx : 1 ≤ x.codes.length) (hxl : x.codes.length ≤ 1048576) (hv : 0 ≤ (codeAt x 0).vars ∧ (codeAt x 0).vars ≤ 1000) (hs : (codeAt x 0).sites.length ≤ 1000) : Fun Tryz.prog 19 [.t x.tt] (Ay [.agg [.own (T.Frames [newF x 0 0 [] false]), .nil, .t (T.int 0), .t (T.int 0), .t (T.int 0), .t (T.int 1), .nil]]) := by
 have hc0 : codeAt x 0 = x.codes[(0 : Int).toNat]'(by show 0 < _; omega) := Aa (by decide) (by omega)
 refine Fun.begin tys Tryz.func19 Z Z (N := 10) [(0, .t x.tt)] Z Z (fun w0 G F0 => ?_);refine sG (AZ Z Z (lt_of Z) Z Z (nZ Z (AY tys Z Z (lt_of Z) Z Z Z (nZ Z (nA (eK 2 Z ?_))))));refine iY (k := ?_);refine eZ Z ?_
 try refine WO_le (Le.freeze (u := 6) rfl) ?_
 refine nZ Z (AS ?_);refine ⟨_, Fd x _ 0 hc0 (by rw [← hc0]; exact hv) (by rw [← hc0]; exact hs), rfl, ?_⟩;refine bZ [(newF x 0 0 [] false).tt] ?_;refine nZ Z (WO_le (Le.gather (u := 8) (id := 8) Z Z (by first | (simp; done) | (simp; omega) | omega)) ?_);refine nZ Z (Fy tys Z Z (lt_of Z) Z Z Z (by kernel_rfl) Z Z Z Z Z Z (kZ [2,9] Z (sT Z (nZ Z (nB (rT (eR ?_)))))))
 ·rfl
theorem C6 (x : Image) (id fn : Int) (given : List Int) (off : Bool) (h0 : 0 ≤ fn) (h1 : fn < x.codes.length) (hxl : x.codes.length ≤ 1048576) (hv : 0 ≤ (codeAt x fn).vars ∧ (codeAt x fn).vars ≤ 1000) (hs : (codeAt x fn).sites.length ≤ 1000) (hg : (given.length : Int) ≤ (codeAt x fn).vars) : Fun Tryz.prog 46 [.t x.tt, .t (T.int id), .t (T.int fn), .t (.list 1 (given.map T.int)), .t (T.bool off)] (Ay [(newF x id fn given off).dd]) := by
 have hca := Aa h0 h1
 have hv' := hca ▸ hv
 have hs' := hca ▸ hs
 have hg' := hca ▸ hg
 refine Fun.begin tys Tryz.func46 Z Z (N := 34) [(0, .t x.tt), (1, .t (T.int id)), (2, .t (T.int fn)), (3, .t (.list 1 (given.map T.int))), (4, .t (T.bool off))] Z Z (fun w0 G F0 => ?_);refine sG (AZ Z Z (lt_of Z) Z Z (nZ Z (AY tys Z Z (lt_of Z) Z Z Z (nZ Z (nA (eK 3 Z ?_))))));refine iY (k := ?_);refine eZ Z ?_
 try refine WO_le (Le.freeze (u := 17) rfl) ?_
 refine nZ Z (AY tys Z Z (lt_of Z) Z Z Z (nZ Z (sT Z (nZ Z (kZ [1,2,3,4,10,11] Z (nB (sQ (B0 12 mixed Z (by kernel_rfl) (by kernel_rfl) ?_))))))))
 iterate 4 (refine QG_ev tys rfl rfl (lt_of rfl) rfl ?_)
 refine FJ tys (T.int 0) Z Z (lt_of Z) Z Z Z Z Z (by repeat (first | exact AbsL.nil' | refine AbsL.v' ?_ | refine AbsL.none' ?_)) Z (by omega) (by omega) (by decide) ?_;refine QG_ev tys Z Z (lt_of Z) Z (BX Z (QG_ev tys Z Z (lt_of Z) Z (Pn tys Z Z (lt_of Z) Z (by first | exact lenM | exact Z) ?_)));refine FJ tys (T.bool false) Z Z (lt_of Z) Z Z Z Z Z (by repeat (first | exact AbsL.nil' | refine AbsL.v' ?_ | refine AbsL.none' ?_)) Z (by omega) (by omega) (by decide) ?_;refine QG_ev tys Z Z (lt_of Z) Z (F4 tys Z Z (lt_of Z) Z Z Z (by kernel_rfl) Z Z Z Z Z Z (Di tys Z Z (lt_of Z) Z Z Z Z (BX Z (QG_nil ?_))));refine ⟨by kernel_rfl, ?_⟩;refine nZ Z (sT Z (nZ Z (nB (sQ (W_le (Le.adoptBox (u := 12) (j := 4) (id := 191) Z Z Z) (nY Z (W_le (Le.eqK (id := 191) Z (k' := .L 1 ((List.replicate (x.codes[fn.toNat]'(by omega)).vars.toNat (0 : Int)).map T.int)) (by rw [List.map_replicate])) ?_)))))));refine nY Z (rG (eK 3 Z (Kn (e := 3) Z Z (lt_of Z) Z (by kernel_rfl) (by kernel_rfl) Z Z (by simp) Z (by simp; omega) ?_)));refine nZ Z (WO_le (Le.gatherBox (u := 12) (j := 4) (id := 191) Z Z Z (by simp; omega) Z) ?_);refine nZ Z (nA (CS tys Z Z (lt_of Z) Z Z Z Z Z Z (nZ Z (sT Z (nZ Z (nB (rT (eR ?_))))))))
 ·(unfold newF; rw [hca]; simp; rw [Qi (by simp; omega)])
theorem LG (x : Image) (hx : 1 ≤ x.codes.length) (hxl : x.codes.length ≤ 1048576) (hv : 0 ≤ (codeAt x 0).vars ∧ (codeAt x 0).vars ≤ 1000) (hs : (codeAt x 0).sites.length ≤ 1000) : Fun Tryz.prog 25 [.t x.tt] (Ay [.agg [.own (T.Frames [newF x 0 0 [] false]), .nil, .t (T.int 0), .t (T.int 0), .t (T.int 0), .t (T.int 1), .nil]]) := by
 refine Fun.begin tys Tryz.func25 Z Z (N := 7) [(0, .t x.tt)] Z Z (fun w0 G F0 => ?_);refine sG (AZ Z Z (lt_of Z) Z Z (nZ Z (AY tys Z Z (lt_of Z) Z Z Z (nZ Z (nA (eZ Z ?_))))))
 try refine WO_le (Le.freeze (u := 3) rfl) ?_
 refine nZ Z ?_;refine BW Z Z (lt_of Z) Z Z (by repeat (first | exact ResL.done | exact ResL.imms (by first | rfl | assumption) | refine ResL.t ?_ | refine ResL.own ?_ | refine ResL.slA Z (by first | rfl | (simp; done) | (simp; omega)) ?_ | refine ResL.sl Z (by first | omega | (simp; done) | (simp; omega)) ?_ | refine ResL.rp ?_ | refine ResL.clo ?_ ?_ | refine ResL.aggT ?_ ?_ | refine ResL.ref Z ?_ ?_ | refine ResL.nil' ?_ | refine ResL.nil 1 ?_)) (C6 x 0 0 [] false (by decide) (by omega) hxl hv hs (by simp; omega)) Z ?_;refine bZ [(newF x 0 0 [] false).tt] ?_;refine nZ Z (WO_le (Le.gather (u := 5) (id := 5) Z Z (by first | (simp; done) | (simp; omega) | omega)) ?_);refine nZ Z (Fy tys Z Z (lt_of Z) Z Z Z (by kernel_rfl) Z Z Z Z Z Z (sT Z (nZ Z (nB (rT (eR ?_))))))
 ·rfl
open Go.Eng
theorem OW {s : St} {id off len : Nat} {hl : List Int} {ds es : List D} (hM : lookM s.M id = some (.L 1 (hl.map T.int))) (h : off + len = hl.length) (k : ResL s ds es) : ResL s (.sl id off len :: ds) (.t (.list 1 ((hl.drop off).map T.int)) :: es) := by
 have h1 : ResL s (.sl id off len :: ds) (.t (.list 1 (((hl.map T.int).drop off).take len)) :: es) := .sl hM (by rw [Qc]; omega) k
 rw [Qi (by rw [RJ, Qc]; omega), ← List.map_drop] at h1;exact h1
theorem app_at {l : List T} {z : T} {n : Nat} (h : l.length = n) : (l ++ [z])[n]? = some z := by subst h; exact List.getElem?_concat_length
theorem DA {l : List T} {z z' : T} {n : Nat} (h : l.length = n) : (l ++ [z]).set n z' = l ++ [z'] := by subst h; rw [List.set_append_right _ _ (Q0 _), Nat.sub_self]; rfl
def cutF (f : Frame) (p : Int) : Frame := { f with pile := f.pile.take (f.pile.length - p.toNat) }
def Cu (x : Image) (most made : Int) (fs : List Frame) (k : Nat) (f : Frame) (fn p : Int) (off : Bool) : List Frame :=
 if most ≤ fs.length then fs else fs.set k (cutF f p) ++ [newF x made fn (f.pile.drop (f.pile.length - p.toNat)) off]
structure F8 (x : Image) (made fn p : Int) (f : Frame) : Prop where
 fn0 : 0 ≤ fn
 fn1 : fn < x.codes.length
 xl : x.codes.length ≤ 1048576
 vars : 0 ≤ (codeAt x fn).vars ∧ (codeAt x fn).vars ≤ 1000
 sites : (codeAt x fn).sites.length ≤ 1000
 p0 : 0 ≤ p
 p1 : p ≤ f.pile.length
 p2 : p ≤ (codeAt x fn).vars
 pile : f.pile.length ≤ 100
 made0 : 0 ≤ made
 made1 : made ≤ 1000000
abbrev mO (u0 u1 : Value) (most : Int) (fs : List Frame) (trace : List Int) (used code value made : Int) (notes : List Note) : List D := mC u0 u1 most (.own (T.Frames fs)) trace used code value made notes
theorem Pk {p0 : Value} {u0 u1 : Value} {x : Image} {most made : Int} {fs : List Frame} {k : Nat} {f : Frame} {fn p : Int} {off : Bool} {trace : List Int} {used code value : Int} {notes : List Note} (h : most ≤ (fs.length : Int)) :
  [Blk.obox p0 (mO u0 u1 most fs trace used 4 value made notes)] = [Blk.obox p0 (mO u0 u1 most (Cu x most made fs k f fn p off) trace used (if most ≤ (fs.length : Int) then 4 else code) value (if most ≤ (fs.length : Int) then made else made + 1) notes)] := by
 simp only [Cu, if_pos h]
theorem NY {x : Image} {made fn : Int} {fs : List Frame} {k : Nat} {f : Frame} {p : Int} {g : List Int} {off : Bool} (h : g = f.pile.drop (f.pile.length - p.toNat)) :
  (fs.set k (cutF f p)).map Frame.tt ++ [(newF x made fn g off).tt] = (fs.set k (cutF f p) ++ [newF x made fn (f.pile.drop (f.pile.length - p.toNat)) off]).map Frame.tt := by
 subst h; rw [List.map_append]; rfl
theorem NW {p0 : Value} {u0 u1 : Value} {x : Image} {most made : Int} {fs : List Frame} {k : Nat} {f : Frame} {fn p : Int} {off : Bool} {trace : List Int} {used code value : Int} {notes : List Note} {z : T} (h : (fs.length : Int) < most) (e : z = T.list 11 ((fs.set k (cutF f p) ++ [newF x made fn (f.pile.drop (f.pile.length - p.toNat)) off]).map Frame.tt)) :
  [Blk.obox p0 (mC u0 u1 most (.own z) trace used code value (made + 1) notes)] = [Blk.obox p0 (mO u0 u1 most (Cu x most made fs k f fn p off) trace used (if most ≤ (fs.length : Int) then 4 else code) value (if most ≤ (fs.length : Int) then made else made + 1) notes)] := by
 have h' := Int.not_le.2 h
 subst e;simp only [Cu, if_neg h']
theorem Iq (bm : Nat) (x : Image) (inp : List Int) (u0 u1 : Value) (most : Int) (fs : List Frame) (trace : List Int) (used code value made : Int) (notes : List Note) (k : Nat) (f : Frame) (fn p : Int) (off : Bool) (hk : fs[k]? = some f) (hkl : k = fs.length - 1) (hfl : fs.length ≤ 1000) (hok : F8 x made fn p f) : Proc Tryz.prog 52 [.t (.v (.pointer (some ⟨bm, 0, none⟩))), .t (T.int fn), .t (T.int p), .t (T.bool off)] ([u0, u1]) ([T.Codes x.codes, T.ints inp]) [.obox (.pointer (some ⟨bm, 0, none⟩)) (mO u0 u1 most fs trace used code value made notes)] (.t (T.bool (!decide (most ≤ (fs.length : Int))))) [.obox (.pointer (some ⟨bm, 0, none⟩)) (mO u0 u1 most (Cu x most made fs k f fn p off) trace used (if most ≤ fs.length then 4 else code) value (if most ≤ fs.length then made else made + 1) notes)] := by
 have hlt := Bs hk
 obtain ⟨g0, g1, g2, g3, g4, g5, g6, g7, g8, g9, g10⟩ := hok
 refine Proc.intro tys Tryz.func52 Z Z (N := 84) [100] 99 ([(0, .t (.v (.pointer (some ⟨bm, 0, none⟩)))), (1, .t (T.int fn)), (2, .t (T.int p)), (3, .t (T.bool off))]) ([(100, .obox (.pointer (some ⟨bm, 0, none⟩)) (mO u0 u1 most fs trace used code value made notes)), (99, .ro [u0, u1] [T.Codes x.codes, T.ints inp])]) Z Z Z Z (by decide) (by decide) Z (fun w0 G F0 => ?_);refine nY Z (W_le (Le.openNew (u := 100) 1100 Z Z Z Z Z) (nY Z (W_le (Le.named (t := 0) (u := 100) 1100 Z Z) (nY Z ?_))));refine Ad (u := 100) (j := 3) 101 Z Z Z (fun v3 => ?_);refine nY Z ?_;refine Dq (id := 101) Z (by intro h; have := congrArg List.length h; rw [Qc, Qz] at this; omega) (fun bf cap hv3 hcap => ?_);rw [Qc] at hv3 hcap;subst hv3;refine nY Z (W_le (Le.nameR (u := 101) 1101 Z Z Z Z) (nY Z (sG (eZ Z (nB (sQ (sQ (AV mixed (by kernel_rfl) (evQ ?_)))))))));refine AL rfl Z (lt_of Z) Z Z Z (evQ ?_);refine evQ ?_;refine evQ ?_;refine AI Z (DD Z Z (lt_of Z) Z ⟨61, by kernel_rfl⟩ rfl (evQ ?_));refine AL rfl Z (lt_of Z) Z Z Z (evQ ?_);refine evQ ?_;refine evQ ?_;refine AI Z (Ak (tN ?_));refine AC Z (fun h1 => ?_) (fun h1 => ?_)
 ·
  simp only [HS] at h1;refine sG (eZ Z (AE rfl Z (lt_of Z) Z Z Z (eK 2 Z (sT Z (nZ Z (nA (eZ Z (nB ?_))))))))
  (refine W_le (Le.closeR (u := 101) 1101 rfl rfl) ?_; refine W_norm rfl ?_; refine W_le (Le.rowVn (id := 101) fs.length rfl (by simp)) ?_; refine W_norm rfl ?_; refine W_le (Le.claimBox (u := 100) (j := 3) (idp := 101) rfl rfl rfl rfl) ?_; refine W_norm rfl ?_)
  refine W_le (Le.close (u := 100) 1100 Z Z Z) (nY Z (rT (tR ?_)));refine eP [_] ?_ ?_
  ·rw [decide_eq_true h1]; rfl
  ·exact Pk h1
 simp only [HS] at h1;refine AD (tN (sG (eZ Z ?_)));refine AQ (rid := 99) [100] 1101 (k) Z Z (lt_of Z) Z Z (by repeat (first | exact ResP.done | refine ResP.t ?_ | refine ResP.pin0 1100 Z ?_ | refine ResP.pinR 1100 Z (by first | rfl | omega) ?_ | refine ResP.nil 1 ?_ | refine ResP.nil' ?_ | refine ResP.own ?_ | refine ResP.sl Z Z (by first | omega | (simp; omega)) ?_)) Z (by repeat (first | exact trivial | refine ⟨OpenAs.same Z rfl, ?_⟩ | refine ⟨OpenAs.box 1100 Z Z Z Z rfl, ?_⟩ | refine ⟨OpenAs.row 1100 Z Z rfl, ?_⟩)) (by decide) (CU bm x inp u0 u1 most bf fs.length cap trace used code value made notes (by omega) hcap (by omega)) Z Z (by first | rfl | omega) ?_;refine eZ Z (nB ?_)
 rcases Classical.em (f.pile = []) with hE | hE
 ·
  refine sQ ?_
  obtain ⟨fid, ffn, fat, fpile, fvars, fflags, fres, fmode, fvalue, fbase, foff⟩ := f
  obtain rfl : fpile = [] := hE
  have hp0 : p = 0 := by simp at g6; omega
  refine Jq (id := 101) (i := k) (off := 3) 200 Z (AM hk) Z Z Z (fun ad cp => ?_);refine nY Z ?_
  have hz := List.getElem?_set_self (a := (T.agg ((Frame.tt ⟨fid, ffn, fat, [], fvars, fflags, fres, fmode, fvalue, fbase, foff⟩).cells.set 3 (.v (.slice ad 0 cp))))) (Bu hk)
  refine rG (eZ Z (AE rfl Z (lt_of Z) Z Z Z (eZ Z (AG tys Z Z (lt_of Z) Z Z Z Z hz Z (Br Z Z (lt_of Z) Z ⟨3, by kernel_rfl⟩ rfl (eZ Z (kZ [0,1,3,8,9,33,34] Z (evI ?_))))))));refine eZ Z (nB (sQ (B0 19 mixed Z (by kernel_rfl) (by kernel_rfl) (QG_ev tys Z Z (lt_of Z) Z (QG_nil' rfl Z (lt_of Z) Z Z Z (QG_ev tys Z Z (lt_of Z) Z (Gh tys 99 0 Z Z (lt_of Z) Z Z Z Z (BX Z (QG_ev tys Z Z (lt_of Z) Z (QG_nil' rfl Z (lt_of Z) Z Z Z (QG_ev tys Z Z (lt_of Z) Z (QG_ev tys Z Z (lt_of Z) Z (QG_ev tys Z Z (lt_of Z) Z (QG_ev tys Z Z (lt_of Z) Z (BX Z ?_)))))))))))))));refine QG_ev tys Z Z (lt_of Z) Z (QG_nil' rfl Z (lt_of Z) Z Z Z (QG_ev tys Z Z (lt_of Z) Z (DE tys Z Z (lt_of Z) Z Z Z Z hz Z (QG_ev tys Z Z (lt_of Z) Z (Lu tys Z Z (lt_of Z) Z Z Z Z Z Z Z (by simp; omega) Z ?_)))));refine BX Z (QG_ev tys Z Z (lt_of Z) Z (Jt Z Z (lt_of Z) Z Z (.t (.t (.t (.raw (id := 200) (j := 0) Z Z Z (.t .done))))) (C6 x made fn [] off g0 g1 g2 g3 g4 (by simp; omega)) Z ?_));refine Di tys Z Z (lt_of Z) Z Z Z Z (QG_nil ?_);refine ⟨by kernel_rfl, ?_⟩;refine nZ Z (sT Z (nZ Z (nA (eK 2 Z (AE rfl Z (lt_of Z) Z Z Z (eZ Z (AG tys Z Z (lt_of Z) Z Z Z Z hz Z (eZ Z (Gd tys Z Z (lt_of Z) Z Z Z Z Z Z Z Z (by simp; omega) ?_)))))))));refine AE rfl Z (lt_of Z) Z Z Z (kZ [0,8,11,60,61] Z (eZ Z (AJ tys _ Z Z Z Z Z Z hz Z (AbsL.v' AbsL.nil') Z (by decide) (Qe Z) (nZ Z (WO_le (Le.eqK (id := 101) Z (k' := .L 11 ((fs.map Frame.tt).set k (T.agg ((Frame.tt ⟨fid, ffn, fat, [], fvars, fflags, fres, fmode, fvalue, fbase, foff⟩).cells.set 3 (.v (.slice ad 0 cp)))))) (by rw [Q4]; rfl)) ?_)))));refine nZ Z (WO_le (Le.putBack (id := 101) (idq := 200) (i := k) (off := 3) (Frame.tt ⟨fid, ffn, fat, [], fvars, fflags, fres, fmode, fvalue, fbase, foff⟩) Z Z hz Z Z Z) (nZ Z (WO_le (Le.eqK (id := 101) Z (congrArg (Blk.L 11) (ND (f' := cutF ⟨fid, ffn, fat, [], fvars, fflags, fres, fmode, fvalue, fbase, foff⟩ p) (by simp [cutF])))) ?_)));refine nZ Z (nZ Z (nA (eZ Z (AE rfl Z (lt_of Z) Z Z Z (eK 3 Z (evI ?_))))));refine AE rfl Z (lt_of Z) Z Z Z (kZ [0,8,11,68,69] Z (eK 2 Z (sT Z (nZ Z (nB (sQ (W_le (Le.closeR (u := 101) 1101 Z Z) (nY Z (W_le (Le.rowVn (id := 101) fs.length Z (by simp)) ?_)))))))));refine nY Z (W_le (Le.nilTold (u := 11) (j := 3) Z Z) (nY Z ?_));refine Ad (u := 11) (j := 4) 304 Z Z Z (fun v4 => ?_);refine nY Z ?_;refine Ad (u := 11) (j := 5) 305 Z Z Z (fun v5 => ?_);refine nY Z (BJ 9 [[101], [], [], [], [], [], [101], [101], []] mixed Z (by kernel_rfl) (by kernel_rfl) (QH_G (QG_ev tys Z Z (lt_of Z) Z (QG_nil (Ab (QG_ev tys Z Z (lt_of Z) Z (QG_nil (Ab (QG_nil' rfl Z (lt_of Z) Z Z Z (QG_nil (Ab (QG_ev tys Z Z (lt_of Z) Z (QG_nil (Ab (QG_ev tys Z Z (lt_of Z) Z ?_)))))))))))))));refine QG_nil (DV tys 101 Z Z (lt_of Z) Z Z (QH_G (F7 tys Z Z (lt_of Z) Z Z (QG_nil (QH_G ?_)))));refine Cz tys [.agg [T.int made, T.int fn, T.int 0, .v (.slice none 0 0), .v v4, .v v5, T.int 0, T.int 0, T.int 0, T.int 1, T.bool off]] Z Z (lt_of Z) Z Z Z Z Z (lt_of Z) (by repeat (first | exact PartsOk.nil' | refine PartsOk.cons' rfl (by repeat (first | exact AbsL.nil' | refine AbsL.v' ?_ | refine AbsL.own' ?_ | refine AbsL.none' ?_)) Z ?_)) Z Z Z (by decide) ?_;refine QG_nil (Ab (CJ tys Z Z (lt_of Z) Z Z Z Z Z Z Z Z Z ((fun x hx => by rw [Qw] at hx; subst hx; exact ⟨rfl, fun z hz => by simp only [T.cells, Qn, List.not_mem_nil, or_false] at hz; rcases hz with rfl | rfl | rfl | rfl | rfl | rfl | rfl | rfl | rfl | rfl | rfl <;> exact ⟨_, rfl⟩⟩)) (by simp; omega) (by decide) Z ?_));refine QG_nil (QH_nil ?_);refine ⟨by kernel_rfl, ?_⟩;refine nZ Z (AE rfl Z (lt_of Z) Z Z Z (eK 2 Z (sT Z (nZ Z (nA (eZ Z (nB ?_)))))))
  (refine W_le (Le.adoptBox (u := 100) (j := 3) (id := 310) rfl rfl rfl) ?_; refine W_norm rfl ?_; refine W_le (Le.putBack (id := 310) (idq := 304) (i := fs.length) (off := 4) (T.agg (((newF x made fn [] off).tt.cells.set 5 (.v v5)).set 3 (.v (.slice none 0 0)))) rfl rfl (app_at (by simp)) rfl rfl rfl) ?_; refine W_norm rfl ?_; refine W_le (Le.eqK (id := 310) rfl (congrArg (Blk.L 11) (DA (by simp)))) ?_; refine W_norm rfl ?_; refine W_le (Le.putBack (id := 310) (idq := 305) (i := fs.length) (off := 5) (T.agg ((newF x made fn [] off).tt.cells.set 3 (.v (.slice none 0 0)))) rfl rfl (app_at (by simp)) rfl rfl rfl) ?_; refine W_norm rfl ?_; refine W_le (Le.eqK (id := 310) rfl (congrArg (Blk.L 11) (DA (by simp)))) ?_; refine W_norm rfl ?_; refine W_le (Le.rawNil 306 1 rfl) ?_; refine W_norm rfl ?_; refine W_le (Le.putBack (id := 310) (idq := 306) (i := fs.length) (off := 3) (newF x made fn [] off).tt rfl rfl (app_at (by simp)) rfl rfl rfl) ?_; refine W_norm rfl ?_; refine W_le (Le.eqK (id := 310) rfl (congrArg (Blk.L 11) (DA (by simp)))) ?_; refine W_norm rfl ?_; refine W_le (Le.gatherBox (u := 100) (j := 3) (id := 310) rfl rfl rfl (Nat.le_of_eq (by rw [Qf, Qc, Qf, Qc]; rfl)) rfl) ?_; refine W_norm rfl ?_)
  refine W_le (Le.close (u := 100) 1100 Z Z Z) (nY Z (rT ?_));refine eP [_] ?_ ?_
  ·rw [decide_eq_false (Int.not_le.2 h1)]; rfl
  ·exact NW h1 ((congrArg (T.list 11) ((Qi (Nat.le_of_eq (by rw [Qf, Qf]; rfl))).trans (NY (by first | (congr 1; omega) | simp)))))
 ·
  refine sQ ?_
  have hml : (f.pile.map T.int).length = f.pile.length := Qc ..
  have hpl : 1 ≤ f.pile.length := by rcases hq : f.pile with _ | ⟨a, l⟩; exact absurd hq hE; simp
  refine Bg (id := 101) (i := k) (off := 3) (z := f.tt) 200 1200 133 Z As (AM hk) Z (by intro h; exact hE (List.map_eq_nil_iff.1 h)) Z Z Z Z Z Z (fun b2 cap2 hcap2 => ?_);refine nY Z ?_
  have hz := List.getElem?_set_self (a := (T.agg (f.tt.cells.set 3 (.v (.slice (some ⟨b2, 0, none⟩) (f.pile.map T.int).length cap2))))) (Bu hk)
  refine rG (eZ Z (AE rfl Z (lt_of Z) Z Z Z (eZ Z (AG tys Z Z (lt_of Z) Z Z Z Z hz Z (WO_le (Le.namedS (t := 32) (id := 200) 1200 Z Z hcap2) (nZ Z (evE ?_)))))));refine eZ Z (kZ [0,1,3,8,9,33,34] Z (evI ?_));refine eZ Z (nB (sQ (B0 19 mixed Z (by kernel_rfl) (by kernel_rfl) (QG_ev tys Z Z (lt_of Z) Z (QG_nil' rfl Z (lt_of Z) Z Z Z (QG_ev tys Z Z (lt_of Z) Z (Gh tys 99 0 Z Z (lt_of Z) Z Z Z Z (BX Z (QG_ev tys Z Z (lt_of Z) Z (QG_nil' rfl Z (lt_of Z) Z Z Z (QG_ev tys Z Z (lt_of Z) Z (QG_ev tys Z Z (lt_of Z) Z (QG_ev tys Z Z (lt_of Z) Z (QG_ev tys Z Z (lt_of Z) Z (BX Z ?_)))))))))))))));refine QG_ev tys Z Z (lt_of Z) Z (QG_nil' rfl Z (lt_of Z) Z Z Z (QG_ev tys Z Z (lt_of Z) Z (N5 tys 1200 Z Z (lt_of Z) Z Z Z Z hz Z Z hcap2 (QG_ev tys Z Z (lt_of Z) Z (F5 tys Z Z (lt_of Z) Z Z Z Z Z Z Z Z Z (by omega) (by omega) (by omega) (BX Z (QG_ev tys Z Z (lt_of Z) Z (Jt Z Z (lt_of Z) Z Z (.t (.t (.t (OW (id := 200) Z (by omega) (.t .done))))) (C6 x made fn (f.pile.drop _) off g0 g1 g2 g3 g4 (by rw [RJ]; omega)) Z ?_))))))));refine Di tys Z Z (lt_of Z) Z Z Z Z (QG_nil ?_);refine ⟨by kernel_rfl, ?_⟩;refine nZ Z (sT Z (nZ Z (nA (eK 2 Z (AE rfl Z (lt_of Z) Z Z Z (eZ Z (AG tys Z Z (lt_of Z) Z Z Z Z hz Z (WO_le (Le.namedS (t := 58) (id := 200) 1200 Z Z hcap2) (nZ Z (eZ Z (Cv tys Z Z (lt_of Z) Z Z Z Z Z Z Z Z Z (by omega) (by omega) (by omega) (WO_le (Le.gather (u := 60) (id := 200) Z Z (by first | (simp; done) | (simp; omega) | omega)) ?_))))))))))));refine nZ Z (AE rfl Z (lt_of Z) Z Z Z (kZ [0,8,11,60,61] Z (eZ Z (AJ tys _ Z Z Z Z Z Z hz Z (AbsL.own' AbsL.nil') Z (by decide) (Qe Z) (nZ Z (WO_le (Le.eqK (id := 101) Z (congrArg (Blk.L 11) (ND (f' := cutF f p) (E8 (l' := f.pile.take (f.pile.length - p.toNat)) (by rw [List.map_take]; congr 1; omega))))) ?_))))));refine nZ Z (nZ Z (nA (eZ Z (AE rfl Z (lt_of Z) Z Z Z (eK 3 Z (evI ?_))))));refine AE rfl Z (lt_of Z) Z Z Z (kZ [0,8,11,68,69] Z (eK 2 Z (sT Z (nZ Z (nB (sQ (W_le (Le.closeR (u := 101) 1101 Z Z) (nY Z (W_le (Le.rowVn (id := 101) fs.length Z (by simp)) ?_)))))))));refine nY Z (W_le (Le.nilTold (u := 11) (j := 3) Z Z) (nY Z ?_));refine Ad (u := 11) (j := 4) 304 Z Z Z (fun v4 => ?_);refine nY Z ?_;refine Ad (u := 11) (j := 5) 305 Z Z Z (fun v5 => ?_);refine nY Z (BJ 9 [[101], [], [], [], [], [], [101], [101], []] mixed Z (by kernel_rfl) (by kernel_rfl) (QH_G (QG_ev tys Z Z (lt_of Z) Z (QG_nil (Ab (QG_ev tys Z Z (lt_of Z) Z (QG_nil (Ab (QG_nil' rfl Z (lt_of Z) Z Z Z (QG_nil (Ab (QG_ev tys Z Z (lt_of Z) Z (QG_nil (Ab (QG_ev tys Z Z (lt_of Z) Z ?_)))))))))))))));refine QG_nil (DV tys 101 Z Z (lt_of Z) Z Z (QH_G (F7 tys Z Z (lt_of Z) Z Z (QG_nil (QH_G ?_)))));refine Cz tys [.agg [T.int made, T.int fn, T.int 0, .v (.slice none 0 0), .v v4, .v v5, T.int 0, T.int 0, T.int 0, T.int 1, T.bool off]] Z Z (lt_of Z) Z Z Z Z Z (lt_of Z) (by repeat (first | exact PartsOk.nil' | refine PartsOk.cons' rfl (by repeat (first | exact AbsL.nil' | refine AbsL.v' ?_ | refine AbsL.own' ?_ | refine AbsL.none' ?_)) Z ?_)) Z Z Z (by decide) ?_;refine QG_nil (Ab (CJ tys Z Z (lt_of Z) Z Z Z Z Z Z Z Z Z ((fun x hx => by rw [Qw] at hx; subst hx; exact ⟨rfl, fun z hz => by simp only [T.cells, Qn, List.not_mem_nil, or_false] at hz; rcases hz with rfl | rfl | rfl | rfl | rfl | rfl | rfl | rfl | rfl | rfl | rfl <;> exact ⟨_, rfl⟩⟩)) (by simp; omega) (by decide) Z ?_));refine QG_nil (QH_nil ?_);refine ⟨by kernel_rfl, ?_⟩;refine nZ Z (AE rfl Z (lt_of Z) Z Z Z (eK 2 Z (sT Z (nZ Z (nA (eZ Z (nB ?_)))))))
  (refine W_le (Le.adoptBox (u := 100) (j := 3) (id := 310) rfl rfl rfl) ?_; refine W_norm rfl ?_; refine W_le (Le.putBack (id := 310) (idq := 304) (i := fs.length) (off := 4) (T.agg (((newF x made fn (f.pile.drop (0 + ((f.pile.length : Int) - p).toNat)) off).tt.cells.set 5 (.v v5)).set 3 (.v (.slice none 0 0)))) rfl rfl (app_at (by simp)) rfl rfl rfl) ?_; refine W_norm rfl ?_; refine W_le (Le.eqK (id := 310) rfl (congrArg (Blk.L 11) (DA (by simp)))) ?_; refine W_norm rfl ?_; refine W_le (Le.putBack (id := 310) (idq := 305) (i := fs.length) (off := 5) (T.agg ((newF x made fn (f.pile.drop (0 + ((f.pile.length : Int) - p).toNat)) off).tt.cells.set 3 (.v (.slice none 0 0)))) rfl rfl (app_at (by simp)) rfl rfl rfl) ?_; refine W_norm rfl ?_; refine W_le (Le.eqK (id := 310) rfl (congrArg (Blk.L 11) (DA (by simp)))) ?_; refine W_norm rfl ?_; refine W_le (Le.rawNil 306 1 rfl) ?_; refine W_norm rfl ?_; refine W_le (Le.putBack (id := 310) (idq := 306) (i := fs.length) (off := 3) (newF x made fn (f.pile.drop (0 + ((f.pile.length : Int) - p).toNat)) off).tt rfl rfl (app_at (by simp)) rfl rfl rfl) ?_; refine W_norm rfl ?_; refine W_le (Le.eqK (id := 310) rfl (congrArg (Blk.L 11) (DA (by simp)))) ?_; refine W_norm rfl ?_; refine W_le (Le.gatherBox (u := 100) (j := 3) (id := 310) rfl rfl rfl (Nat.le_of_eq (by rw [Qf, Qc, Qf, Qc]; rfl)) rfl) ?_; refine W_norm rfl ?_)
  refine W_le (Le.close (u := 100) 1100 Z Z Z) (nY Z (rT ?_));refine eP [_] ?_ ?_
  ·rw [decide_eq_false (Int.not_le.2 h1)]; rfl
  ·exact NW h1 ((congrArg (T.list 11) ((Qi (Nat.le_of_eq (by rw [Qf, Qf]; rfl))).trans (NY (by first | (congr 1; omega) | simp)))))
end Go.Proofs.YtljnifnbldfboaaGreat
