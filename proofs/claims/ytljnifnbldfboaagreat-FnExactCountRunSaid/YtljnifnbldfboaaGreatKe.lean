/- Walks and laws of the claim. -/
import Derived.Test.YtljnifnbldfboaaGreatFq
import Derived.Test.YtljnifnbldfboaaGreatFa
import Derived.Shelf.Bits.Mul64
import Derived.Lib.BitFns
import Derived.Lib.Walk
import Derived.Test.YtljnifnbldfboaaGreatMe
set_option linter.unusedVariables false
set_option linter.unusedSimpArgs false
set_option maxRecDepth 100000
set_option maxHeartbeats 10000000
namespace Go.Proofs.YtljnifnbldfboaaGreat
open Go.Eng
open Go.Eng
theorem MF {h : Option (List Int)} (e : h.isSome = true) : h = some (h.getD []) := by
 cases h with
 | none => cases e
 | some l => rfl
theorem not6 {c : Code} {h : List Int} {k : Int} (h0 : 0 ≤ k) (h1 : k < c.ins.length) (hl : k.toNat < h.length) (e : (h[k.toNat]'hl) < 0 ∨ A1 (c.ins[k.toNat]'(by omega)).op = false ∨ (0 ≤ rowX c.rows k ∧ k < padX c.rows k)) : ¬ Nf c h k := by
 rintro ⟨a, b, d⟩
 rw [BV h0 (by omega)] at a;rw [BK h0 h1] at b
 rcases e with e | e | e
 ·omega
 ·rw [e] at b; cases b
 ·omega
theorem is6 {c : Code} {h : List Int} {k : Int} (h0 : 0 ≤ k) (h1 : k < c.ins.length) (hl : k.toNat < h.length) (a : 0 ≤ (h[k.toNat]'hl)) (b : A1 (c.ins[k.toNat]'(by omega)).op = true) (d : rowX c.rows k < 0 ∨ padX c.rows k ≤ k) : Nf c h k :=
 ⟨by rw [BV h0 (by omega)]; exact a, by rw [BK h0 h1]; exact b, d⟩
theorem P4 {c : Code} {h : List Int} {k : Int} (h0 : 0 ≤ k) (h1 : k < c.ins.length) (hl : k.toNat < h.length) (e : ¬ 0 < (h[k.toNat]'hl) ∨ Ep (c.ins[k.toNat]'(by omega)).op = false) : ¬ OC c h k := by
 rintro ⟨a, b⟩
 rw [BV h0 (by omega)] at a;rw [BK h0 h1] at b
 rcases e with e | e
 ·exact e a
 ·rw [e] at b; cases b
theorem is7 {c : Code} {h : List Int} {k : Int} (h0 : 0 ≤ k) (h1 : k < c.ins.length) (hl : k.toNat < h.length) (a : 0 < (h[k.toNat]'hl)) (b : Ep (c.ins[k.toNat]'(by omega)).op = true) : OC c h k :=
 ⟨by rw [BV h0 (by omega)]; exact a, by rw [BK h0 h1]; exact b⟩
def upTo (p : Int → Prop) (k : Int) : Prop := ∀ j : Int, 0 ≤ j → j < k → p j
theorem BG {p : Int → Prop} {k : Int} (h : upTo p k) (hk : p k) : upTo p (k + 1) := fun j h0 h1 => by
 by_cases e : j = k
 ·subst e; exact hk
 ·exact h j h0 (by omega)
theorem LS (im : Image) (c : Code) (hx : BD im = true) (hc : c ∈ im.codes) : Fun Tryz.prog 63 [.t im.tt, .t c.tt] (Ay [.t (.int (codeX im c))]) := by
 obtain ⟨hx1, hx2⟩ := B3 hx
 obtain ⟨hz1, hz2, hz3, hz4, hz5, hz6⟩ := A0 (hx2 c hc)
 refine Fun.begin tys Tryz.func63 Z Z (N := 115) [(0, .t im.tt), (1, .t c.tt)] Z Z (fun w0 G F0 => ?_);refine sG (AZ Z Z (lt_of Z) Z Z (nZ Z (AZ Z Z (lt_of Z) Z Z (nZ Z (eZ Z (nB (sQ (AH (sG (eZ Z ?_))))))))))
 try refine WO_le (Le.freeze (u := 14) rfl) ?_
 refine nZ Z (eZ Z ?_)
 try refine WO_le (Le.freeze (u := 15) rfl) ?_
 refine nZ Z (AS ?_);refine ⟨_, Jb im c (by omega) (by omega) (by omega), rfl, ?_⟩;refine eK 2 Z (nB ?_);refine AC Z (fun h1 => ?_) (fun h1 => ?_)
 ·
  simp only [HS] at h1;refine sQ (kY [2,3,4] Z (rG (eZ Z (nB (rT (bR (tR (eR ?_))))))))
  ·first
   | exact I3 (NU (by assumption)).symm
 simp only [HS] at h1;refine sQ (kY [2,3,4] Z (rG (eZ Z ?_)))
 try refine WO_le (Le.freeze (u := 19) rfl) ?_
 refine nZ Z (eZ Z ?_)
 try refine WO_le (Le.freeze (u := 20) rfl) ?_
 refine nZ Z (AS ?_);refine ⟨_, Ja im c (by omega) (by omega), rfl, ?_⟩;refine eK 2 Z (nB ?_);refine AC Z (fun h2 => ?_) (fun h2 => ?_)
 ·
  simp only [HS] at h2;refine sG (eZ Z (nB (rT (bR (tR (eR ?_))))))
  ·first
   | exact I3 (NT (by assumption) (by assumption)).symm
 simp only [HS] at h2;refine sG (eZ Z ?_)
 try refine WO_le (Le.freeze (u := 24) rfl) ?_
 refine nZ Z (AS ?_);refine ⟨_, LR c (by omega) (Ql.2 hz6), rfl, ?_⟩;refine eK 2 Z (kZ [2,3,4,23] Z (nB ?_));refine AC Z (fun h3 => ?_) (fun h3 => ?_)
 ·
  simp only [HS] at h3;refine sG (eZ Z (nB (rT (bR (tR (eR ?_))))))
  ·first
   | exact I3 (NS (by assumption) (by assumption) (by assumption)).symm
 simp only [HS] at h3;refine sG (eK 4 Z (evE ?_));refine AS ?_;refine ⟨_, LQ c.rows _ (by omega) (by omega), rfl, ?_⟩;refine eK 2 Z (nB ?_);refine AC Z (fun h4 => ?_) (fun h4 => ?_)
 ·
  simp only [HS] at h4;refine sQ (kY [2,3,4] Z (rG (eZ Z (nB (rT (bR (tR (eR ?_))))))))
  ·first
   | exact I3 (NR (by assumption) (by assumption) (by assumption) (by assumption)).symm
 simp only [HS] at h4;refine AD (bN (tN (sQ (kY [2,3,4] Z (rG ?_)))))
 have hR := ready hx hc h1 h3 h4
 refine eZ Z ?_
 try refine WO_le (Le.freeze (u := 36) rfl) ?_
 refine nZ Z (eZ Z ?_)
 try refine WO_le (Le.freeze (u := 37) rfl) ?_
 refine nZ Z (Dg Z Z (lt_of Z) Z Z Z Z Z (HI im c hR) Z (eZ Z (WO_evF tys Z Z (lt_of Z) (d := .t _) Z (nZ Z (WO_evF tys Z Z (lt_of Z) (d := .t _) Z (nZ Z (eK 2 Z (nB (sQ (sQ (kY [3,4,5,6] Z (rG (eK 2 Z (nB ?_))))))))))))));refine AC Z (fun h5 => ?_) (fun h5 => ?_)
 ·
  simp only [HS] at h5;refine sG (eZ Z (nB (rT (tR (eR ?_)))))
  ·first
   | exact I3 (NQ (by assumption) (by assumption) (by assumption) (by assumption) (by assumption)).symm
 simp only [HS] at h5;refine AD (tN (sQ (sG ?_)))
 have hes := MF (h := heiX im c) (by assumption)
 have hfit := (HN hes).1
 have hhl : ((heiX im c).getD []).length = c.ins.length := hfit.1.1
 refine eK 2 Z (evE ?_);refine eZ Z (nB (AH ?_));refine lK (α := Int) [2, 3, 5, 44, 45] [2, 3] (fun x => [(46, .t (.int x))]) (fun x => []) (fun x => 0 ≤ x ∧ x ≤ c.ins.length ∧ upTo (fun j => ¬ Nf c ((heiX im c).getD []) j) x) (fun x => Int.toNat (c.ins.length - x)) 0 ?_ (fun k hx => ?_)
 ·exact ⟨by omega, by omega, fun j h0 h1 => by omega⟩
 obtain ⟨hk0, hk1, hup⟩ := hx
 refine nY Z (sG (eZ Z (nB (sQ ?_))));refine AC Z (fun h6 => ?_) (fun h6 => ?_)
 ·
  simp only [HS] at h6;refine AD (tN (sQ (AH (sG ?_))))
  have hkl : k.toNat < ((heiX im c).getD []).length := by omega
  have hrx := Dw c.rows k
  refine eZ Z ?_;refine iY (k := ?_);refine eZ Z ?_
  try refine WO_le (Le.freeze (u := 50) rfl) ?_
  refine nZ Z (AY tys Z Z (lt_of Z) Z Z Z (nZ Z (eZ Z (sT Z (nZ Z (nB (sQ (kY [2,3,5,7,8,44,45,46,47,48,49,50] Z (rG (eK 3 Z (AS ?_)))))))))));refine ⟨_, Fe c.rows k (by omega) (fun r hr => by have := hR.his r hr; omega), rfl, ?_⟩;refine eZ Z (nA (eK 2 Z ?_));refine iY (k := ?_);refine eZ Z (kZ [2,3,5,7,8,9,44,45,46,47,48,49,50,51,52,53,54,55,56,57,58] Z (eK 2 Z ?_));refine gB (fun h7 => ?_) (fun h7 => ?_)
  ·
   simp only [HS] at h7;refine xK 7 Z (kZ [2,3,5,7,8,9,44,45,46,47,48,49,50,51,52,53,54,55,56,57,58,59,60,61,62,63,64,65,66,67,68] Z (xK 9 Z (kZ [2,3,5,7,8,9,44,45,46,47,48,49,50,51,52,53,54,55,56,57,58,59,60,61,62,63,64,65,66,67,68,69,70,71,72,73,74,75,76,77] Z (eZ Z (nB (Ao Z (AD (bN (tN (rG (evI ?_)))))))))));refine eZ Z (oN ?_);refine lQ _ ?_ ?_
   ·skip
    first
    | exact ⟨by omega, by omega, BG hup (not6 hk0 (by omega) hkl (.inl (by omega)))⟩
   ·(show Int.toNat _ < Int.toNat _); omega
  simp only [HS] at h7;refine xK 2 Z (gY Z (AS ?_));refine ⟨_, K9 _, rfl, ?_⟩;refine eK 2 Z ?_;refine gB (fun h8 => ?_) (fun h8 => ?_)
  ·
   simp only [HS] at h8;refine xK 2 Z (kZ [2,3,5,7,8,9,44,45,46,47,48,49,50,51,52,53,54,55,56,57,58,59,60,61,62,63,64,65,66,67,68] Z (xK 9 Z (kZ [2,3,5,7,8,9,44,45,46,47,48,49,50,51,52,53,54,55,56,57,58,59,60,61,62,63,64,65,66,67,68,69,70,71,72,73,74,75,76,77] Z (eZ Z (nB (Ao Z (AD (bN (tN (rG (evI ?_)))))))))));refine eZ Z (oN ?_);refine lQ _ ?_ ?_
   ·skip
    first
    | exact ⟨by omega, by omega, BG hup (not6 hk0 (by omega) hkl (.inr (.inl (by assumption))))⟩
   ·(show Int.toNat _ < Int.toNat _); omega
  refine xK 2 Z (kZ [2,3,5,7,8,9,44,45,46,47,48,49,50,51,52,53,54,55,56,57,58,59,60,61,62,63,64,65,66,67] Z (xZ Z ?_));refine gB (fun h9 => ?_) (fun h9 => ?_)
  ·
   simp only [HS] at h9;refine xK 8 Z (kZ [2,3,5,7,8,9,44,45,46,47,48,49,50,51,52,53,54,55,56,57,58,59,60,61,62,63,64,65,66,67,68,69,70,71,72,73,74,75,76,77] Z (eZ Z (nB (A5 Z (sG (eZ Z (nB (rT (bR (tR (AP (bR (tR (eR ?_))))))))))))))
   ·first
    | exact I3 (Io (by assumption) (by assumption) (by assumption) (by assumption) hes hk0 (by omega) (is6 hk0 (by omega) hkl (by omega) (by assumption) (by first | (left; omega) | (right; rw [C5 (by omega)]; omega)))).symm
  simp only [HS] at h9;refine xK 3 Z (gY Z ?_);refine iY (k := ?_);refine xK 4 Z (kZ [2,3,5,7,8,9,44,45,46,47,48,49,50,51,52,53,54,55,56,57,58,59,60,61,62,63,64,65,66,67,68,69,70,71,72,73,74,75,76] Z (xK 2 Z (nB ?_)));refine AC Z (fun h10 => ?_) (fun h10 => ?_)
  ·
   simp only [HS] at h10;refine sG (eZ Z (nB (rT (bR (tR (AP (bR (tR (eR ?_)))))))))
   ·first
    | exact I3 (Io (by assumption) (by assumption) (by assumption) (by assumption) hes hk0 (by omega) (is6 hk0 (by omega) hkl (by omega) (by assumption) (by first | (left; omega) | (right; rw [C5 (by omega)]; omega)))).symm
  simp only [HS] at h10;refine AD (bN (tN (rG (evI ?_))));refine eZ Z (oN ?_);refine lQ _ ?_ ?_
  ·skip
   first
   | exact ⟨by omega, by omega, BG hup (not6 hk0 (by omega) hkl (.inr (.inr ⟨by omega, by rw [C5 (by omega)]; omega⟩)))⟩
  ·(show Int.toNat _ < Int.toNat _); omega
 simp only [HS] at h6;refine AW (tE (AN (AO (tN (sQ (sG (eK 2 Z (evE ?_))))))));refine eZ Z (nB (AH ?_));refine lK (α := Int) [2, 3, 5, 81, 82] [2, 3] (fun x => [(83, .t (.int x))]) (fun x => []) (fun x => 0 ≤ x ∧ x ≤ c.ins.length ∧ upTo (fun j => ¬ OC c ((heiX im c).getD []) j) x) (fun x => Int.toNat (c.ins.length - x)) 0 ?_ (fun k hx => ?_)
 ·exact ⟨by omega, by omega, fun j h0 h1 => by omega⟩
 obtain ⟨hk0, hk1, hup7⟩ := hx
 refine nY Z (sG (eZ Z (nB (sQ ?_))));refine AC Z (fun h7 => ?_) (fun h7 => ?_)
 ·
  simp only [HS] at h7;refine AD (tN (sQ (AH (sG ?_))))
  have hkl : k.toNat < ((heiX im c).getD []).length := by omega
  refine eZ Z ?_;refine iY (k := ?_);refine eZ Z ?_
  try refine WO_le (Le.freeze (u := 87) rfl) ?_
  refine nZ Z (AY tys Z Z (lt_of Z) Z Z Z (nZ Z (eZ Z (sT Z (nZ Z (nB (sQ (kY [2,3,5,10,11,81,82,83,84,85,86,87] Z (rG (eK 4 Z ?_))))))))));refine gB (fun h8 => ?_) (fun h8 => ?_)
  ·
   simp only [HS] at h8;refine xK 5 Z (kZ [2,3,5,10,11,81,82,83,84,85,86,87,88,89,90,91,92,93,94,95,96,97] Z (xK 9 Z (kZ [2,3,5,10,11,12,81,82,83,84,85,86,87,88,89,90,91,92,93,94,95,96,97,98,99,100,101,102,103,104,105] Z (nA (xK 4 Z (gY Z ?_))))));refine iY (k := ?_);refine xK 3 Z (nB ?_);refine AC Z (fun h9 => ?_) (fun h9 => ?_)
   ·
    simp only [HS] at h9;refine sQ (kY [2,3,5,10,11,12,81,82,83,84,85,86,87,88,89,90,91,92,93,94,95,96,97,98,99,100,101,102,103,104,105,106,107,108,109,110,111,112,113] Z (rG (eZ Z (nB (rT (bR (tR (AP (bR (tR (eR ?_)))))))))))
    ·first
     | exact I3 (EV (by assumption) (by assumption) (by assumption) (by assumption) hes (fun j g0 g1 => hup j g0 (by omega)) hk0 (by omega) (is7 hk0 (by omega) hkl (by omega) (by unfold Ep; rw [decide_eq_true_eq]; omega))).symm
   simp only [HS] at h9;refine AD (bN (tN (kY [2,3,5,10,11,12,81,82,83,84,85,86,87,88,89,90,91,92,93,94,95,96,97,98,99,100,101,102,103,104,105,106,107,108,109,110,111,112,113] Z (rG (evI ?_)))));refine eZ Z (oN ?_);refine lQ _ ?_ ?_
   ·skip
    first
    | exact ⟨by omega, by omega, BG hup7 (P4 hk0 (by omega) hkl (.inl (by omega)))⟩
   ·(show Int.toNat _ < Int.toNat _); omega
  simp only [HS] at h8;refine xK 5 Z (kZ [2,3,5,10,11,81,82,83,84,85,86,87,88,89,90,91,92,93,94,95,96] Z ?_);refine gB (fun h9 => ?_) (fun h9 => ?_)
  ·
   simp only [HS] at h9;refine xK 9 Z (kZ [2,3,5,10,11,12,81,82,83,84,85,86,87,88,89,90,91,92,93,94,95,96,97,98,99,100,101,102,103,104,105] Z (nA (xK 4 Z (gY Z ?_))));refine iY (k := ?_);refine xK 3 Z (nB ?_);refine AC Z (fun h10 => ?_) (fun h10 => ?_)
   ·
    simp only [HS] at h10;refine sQ (kY [2,3,5,10,11,12,81,82,83,84,85,86,87,88,89,90,91,92,93,94,95,96,97,98,99,100,101,102,103,104,105,106,107,108,109,110,111,112,113] Z (rG (eZ Z (nB (rT (bR (tR (AP (bR (tR (eR ?_)))))))))))
    ·first
     | exact I3 (EV (by assumption) (by assumption) (by assumption) (by assumption) hes (fun j g0 g1 => hup j g0 (by omega)) hk0 (by omega) (is7 hk0 (by omega) hkl (by omega) (by unfold Ep; rw [decide_eq_true_eq]; omega))).symm
   simp only [HS] at h10;refine AD (bN (tN (kY [2,3,5,10,11,12,81,82,83,84,85,86,87,88,89,90,91,92,93,94,95,96,97,98,99,100,101,102,103,104,105,106,107,108,109,110,111,112,113] Z (rG (evI ?_)))));refine eZ Z (oN ?_);refine lQ _ ?_ ?_
   ·skip
    first
    | exact ⟨by omega, by omega, BG hup7 (P4 hk0 (by omega) hkl (.inl (by omega)))⟩
   ·(show Int.toNat _ < Int.toNat _); omega
  simp only [HS] at h9;refine xK 5 Z ?_;refine gB (fun h10 => ?_) (fun h10 => ?_)
  ·
   simp only [HS] at h10;refine xK 4 Z (kZ [2,3,5,10,11,12,81,82,83,84,85,86,87,88,89,90,91,92,93,94,95,96,97,98,99,100,101,102,103,104,105] Z (nA (xK 4 Z (gY Z ?_))));refine iY (k := ?_);refine xK 3 Z (nB ?_);refine AC Z (fun h11 => ?_) (fun h11 => ?_)
   ·
    simp only [HS] at h11;refine sQ (kY [2,3,5,10,11,12,81,82,83,84,85,86,87,88,89,90,91,92,93,94,95,96,97,98,99,100,101,102,103,104,105,106,107,108,109,110,111,112,113] Z (rG (eZ Z (nB (rT (bR (tR (AP (bR (tR (eR ?_)))))))))))
    ·first
     | exact I3 (EV (by assumption) (by assumption) (by assumption) (by assumption) hes (fun j g0 g1 => hup j g0 (by omega)) hk0 (by omega) (is7 hk0 (by omega) hkl (by omega) (by unfold Ep; rw [decide_eq_true_eq]; omega))).symm
   simp only [HS] at h11;refine AD (bN (tN (kY [2,3,5,10,11,12,81,82,83,84,85,86,87,88,89,90,91,92,93,94,95,96,97,98,99,100,101,102,103,104,105,106,107,108,109,110,111,112,113] Z (rG (evI ?_)))));refine eZ Z (oN ?_);refine lQ _ ?_ ?_
   ·skip
    first
    | exact ⟨by omega, by omega, BG hup7 (P4 hk0 (by omega) hkl (.inl (by omega)))⟩
   ·(show Int.toNat _ < Int.toNat _); omega
  simp only [HS] at h10;refine xK 4 Z (kZ [2,3,5,10,11,81,82,83,84,85,86,87,88,89,90,91,92,93,94,95,96,97,98,99,100,101,102,103,104,105] Z (eZ Z (nA (eK 2 Z ?_))));refine gB (fun h11 => ?_) (fun h11 => ?_)
  ·
   simp only [HS] at h11;refine xK 5 Z (nB (Ao Z (AD (bN (tN (kY [2,3,5,10,11,12,81,82,83,84,85,86,87,88,89,90,91,92,93,94,95,96,97,98,99,100,101,102,103,104,105,106,107,108,109,110,111,112,113] Z (rG (evI ?_))))))));refine eZ Z (oN ?_);refine lQ _ ?_ ?_
   ·skip
    first
    | exact ⟨by omega, by omega, BG hup7 (P4 hk0 (by omega) hkl (.inr (by unfold Ep; rw [decide_eq_false_iff_not]; omega)))⟩
   ·(show Int.toNat _ < Int.toNat _); omega
  simp only [HS] at h11;refine xK 2 Z (gY Z ?_);refine iY (k := ?_);refine xK 3 Z (kZ [2,3,5,10,11,12,81,82,83,84,85,86,87,88,89,90,91,92,93,94,95,96,97,98,99,100,101,102,103,104,105,106,107,108,109,110,111,112,113] Z (nB ?_));refine AC Z (fun h12 => ?_) (fun h12 => ?_)
  ·
   simp only [HS] at h12;refine sG (eZ Z (nB (rT (bR (tR (AP (bR (tR (eR ?_)))))))))
   ·first
    | exact I3 (EV (by assumption) (by assumption) (by assumption) (by assumption) hes (fun j g0 g1 => hup j g0 (by omega)) hk0 (by omega) (is7 hk0 (by omega) hkl (by omega) (by unfold Ep; rw [decide_eq_true_eq]; omega))).symm
  simp only [HS] at h12;refine AD (bN (tN (rG (evI ?_))));refine eZ Z (oN ?_);refine lQ _ ?_ ?_
  ·skip
   first
   | exact ⟨by omega, by omega, BG hup7 (P4 hk0 (by omega) hkl (.inl (by omega)))⟩
  ·(show Int.toNat _ < Int.toNat _); omega
 simp only [HS] at h7;refine AW (tE (AN (AO (tN (sG (eZ Z (nB (rT (eR ?_)))))))))
 ·first
  | exact I3 (Pj (by assumption) (by assumption) (by assumption) (by assumption) hes (fun j g0 g1 => hup j g0 (by omega)) (fun j g0 g1 => hup7 j g0 (by omega))).symm
theorem M6 {x : Image} (h : BD x = false) : imageB x = false := by unfold imageB; rw [h]; rfl
theorem M5 {x : Image} (h0 : 1 ≤ x.codes.length) (h : ¬ (x.codes[(0 : Int).toNat]'(by rw [show (0 : Int).toNat = 0 from rfl]; omega)).params = 0) : imageB x = false := by
 unfold imageB;rw [Aa (by omega) (by omega), decide_eq_false h]
 simp
theorem M4 {x : Image} {k : Int} (h0 : 0 ≤ k) (h1 : k < x.codes.length) (h : 0 < codeX x (x.codes[k.toNat]'(by omega))) : imageB x = false := by
 unfold imageB;rw [CR h0 h1 (by rw [decide_eq_false_iff_not]; omega)]
 simp
theorem M7 {x : Image} (hs : BD x = true) (h0 : 1 ≤ x.codes.length) (h : (x.codes[(0 : Int).toNat]'(by rw [show (0 : Int).toNat = 0 from rfl]; omega)).params = 0) (ha : (x.codes.all fun c => decide (codeX x c = 0)) = true) : imageB x = true := by
 unfold imageB;rw [Aa (by omega) (by omega), hs, ha, decide_eq_true h];rfl
theorem HP (im : Image) (hx : im.ok 1048576) : Fun Tryz.prog 32 [.t im.tt] (Ay [.t (.bool (imageB im))]) := by
 have hxl : im.codes.length ≤ 1048576 := hx.1.1
 refine Fun.begin tys Tryz.func32 Z Z (N := 28) [(0, .t im.tt)] Z Z (fun w0 G F0 => ?_);refine sG (AZ Z Z (lt_of Z) Z Z (nZ Z (eZ Z (nB (sQ (sG (eZ Z ?_)))))))
 try refine WO_le (Le.freeze (u := 5) rfl) ?_
 refine nZ Z (AS ?_);refine ⟨_, JZ im hx, rfl, ?_⟩;refine eK 2 Z ?_;refine gB (fun h1 => ?_) (fun h1 => ?_)
 ·
  simp only [HS] at h1;refine xK 3 Z (kZ [1,2,8,12] Z (xK 3 Z (nB (A5 Z (sG (eZ Z (nB (rT (tR (eR ?_))))))))))
  ·first
   | exact Ax (M6 (by assumption)).symm
 simp only [HS] at h1
 have hx1 := (B3 (by assumption)).1
 refine xK 2 Z (gY Z ?_);refine iY (k := ?_);refine kZ [1,2,8,11] Z (xK 4 Z (nB ?_));refine AC Z (fun h2 => ?_) (fun h2 => ?_)
 ·
  simp only [HS] at h2;refine sG (eZ Z (nB (rT (tR (eR ?_)))))
  ·first
   | exact Ax (M5 hx1.1 (by assumption)).symm
 simp only [HS] at h2;refine AD (tN (sQ (sG ?_)))
 have hsz : BD im = true := by assumption
 refine eK 2 Z (evE ?_);refine eZ Z (nB (AH ?_));refine lK (α := Int) [1, 17, 18] [1] (fun x => [(19, .t (.int x))]) (fun x => []) (fun x => 0 ≤ x ∧ x ≤ im.codes.length ∧ (im.codes.take x.toNat).all (fun c => decide (codeX im c = 0)) = true) (fun x => Int.toNat (im.codes.length - x)) 0 ?_ (fun k hx => ?_)
 ·exact ⟨by omega, by omega, by simp⟩
 obtain ⟨hk0, hk1, hk2⟩ := hx
 refine nY Z (sG (eZ Z (nB (sQ ?_))));refine AC Z (fun h3 => ?_) (fun h3 => ?_)
 ·
  simp only [HS] at h3;refine AD (tN (sQ (AH (sG ?_))));refine iY (k := ?_);refine eZ Z ?_
  try refine WO_le (Le.freeze (u := 22) rfl) ?_
  refine nZ Z (AY tys Z Z (lt_of Z) Z Z Z (nZ Z (sT Z (nZ Z (nA (eZ Z ?_))))))
  try refine WO_le (Le.freeze (u := 23) rfl) ?_
  refine nZ Z (eZ Z ?_)
  try refine WO_le (Le.freeze (u := 24) rfl) ?_
  refine nZ Z (AS ?_);refine ⟨_, LS im _ hsz (Qq _), rfl, ?_⟩;refine eZ Z (kZ [1,4,17,18,19,20,21,22,23,24,25,26] Z (nB ?_));refine AC Z (fun h4 => ?_) (fun h4 => ?_)
  ·
   simp only [HS] at h4;refine sG (eZ Z (nB (rT (bR (tR (AP (bR (tR (eR ?_)))))))))
   ·first
    | exact Ax (M4 hk0 (by omega) (by omega)).symm
  simp only [HS] at h4;refine AD (bN (tN (rG (evI ?_))));refine eZ Z (oN ?_);refine lQ _ ?_ ?_
  ·skip
   exact ⟨by omega, by omega, EX hk0 (by omega) hk2 (by rw [decide_eq_true_eq]; have := Kh im (im.codes[k.toNat]'(by omega)); omega)⟩
  ·(show Int.toNat _ < Int.toNat _); omega
 simp only [HS] at h3;refine AW (tE (AN (AO (tN (sG (eZ Z (nB (rT (eR ?_)))))))))
 ·first
  | exact Ax (M7 (by assumption) hx1.1 (by assumption) (B8 (by omega) hk2)).symm
open Go.Eng
theorem NA (op : Int) : Fun Tryz.prog 122 [.t (.int op)] (Ay [.t (.bool (Bo op))]) := by
 refine Fun.begin tys Tryz.func122 Z Z (N := 14) [(0, .t (.int op))] Z Z (fun w0 G F0 => ?_);refine sG (eZ Z (nB (sQ (sG (eZ Z (nB (AH (sQ (sG (eK 2 Z (nB ?_)))))))))));refine CC (α := Bool) [2] [] (fun x => [(4, .t (.bool x))]) (fun x => []) (fun x => x = Bo op) ?_ (fun b hx => ?_)
 ·
  refine AC Z (fun h1 => ?_) (fun h1 => ?_)
  ·
   simp only [HS] at h1;refine AD (jQ _ ?_)
   grind [Bo]
  simp only [HS] at h1;refine sG (eK 2 Z (nB ?_));refine AC Z (fun h2 => ?_) (fun h2 => ?_)
  ·
   simp only [HS] at h2;refine AD (jQ _ ?_)
   grind [Bo]
  simp only [HS] at h2;refine sG (eK 2 Z (nB ?_));refine AC Z (fun h3 => ?_) (fun h3 => ?_)
  ·
   simp only [HS] at h3;refine AD (jQ _ ?_)
   grind [Bo]
  simp only [HS] at h3;refine sQ (kY [2,3,4] Z (rG (eK 2 Z (nB ?_))));refine AC Z (fun h4 => ?_) (fun h4 => ?_)
  ·
   simp only [HS] at h4;refine AD (jQ _ ?_)
   grind [Bo]
  simp only [HS] at h4;refine sG (eK 2 Z (nB ?_));refine AC Z (fun h5 => ?_) (fun h5 => ?_)
  ·
   simp only [HS] at h5;refine AD (jQ _ ?_)
   grind [Bo]
  simp only [HS] at h5;refine sG (eK 2 Z (nB ?_));refine AC Z (fun h6 => ?_) (fun h6 => ?_)
  ·
   simp only [HS] at h6;refine AD (jQ _ ?_)
   grind [Bo]
  simp only [HS] at h6;refine sG (eK 2 Z (nB ?_));refine AC Z (fun h7 => ?_) (fun h7 => ?_)
  ·
   simp only [HS] at h7;refine AD (jQ _ ?_)
   grind [Bo]
  simp only [HS] at h7;refine sQ (kY [2,3,4] Z (rG (eK 2 Z (nB ?_))));refine AC Z (fun h8 => ?_) (fun h8 => ?_)
  ·
   simp only [HS] at h8;refine AD (jQ _ ?_)
   grind [Bo]
  simp only [HS] at h8;refine rG (eK 2 Z (oN (jQ _ ?_)))
  grind [Bo]
 have hb := hx
 refine tN ?_;refine AC Z (fun h1 => ?_) (fun h1 => ?_)
 ·
  refine sQ (kY [2] Z (rG (eZ Z (nB (rT (bR (tR (eR ?_))))))))
  ·exact Ax (by simp_all <;> omega)
 refine AD (bN (tN (sQ (kY [2] Z (rG (eZ Z (nB (rT (eR ?_)))))))))
 ·exact Ax (by simp_all <;> omega)
theorem IK (op : Int) : Fun Tryz.prog 100 [.t (.int op)] (Ay [.t (.bool (A1 op))]) := by
 refine Fun.begin tys Tryz.func100 Z Z (N := 11) [(0, .t (.int op))] Z Z (fun w0 G F0 => ?_);refine sG (eZ Z (nB (sQ (sG (eZ Z (nB (AH (sQ (sG (eK 2 Z (nB ?_)))))))))));refine CC (α := Bool) [2] [] (fun x => [(4, .t (.bool x))]) (fun x => []) (fun x => x = A1 op) ?_ (fun b hx => ?_)
 ·
  refine AC Z (fun h1 => ?_) (fun h1 => ?_)
  ·
   simp only [HS] at h1;refine AD (jQ _ ?_)
   grind [A1]
  simp only [HS] at h1;refine sG (eK 2 Z (nB ?_));refine AC Z (fun h2 => ?_) (fun h2 => ?_)
  ·
   simp only [HS] at h2;refine AD (jQ _ ?_)
   grind [A1]
  simp only [HS] at h2;refine sG (eK 2 Z (nB ?_));refine AC Z (fun h3 => ?_) (fun h3 => ?_)
  ·
   simp only [HS] at h3;refine AD (jQ _ ?_)
   grind [A1]
  simp only [HS] at h3;refine sQ (kY [2,3,4] Z (rG (eK 2 Z (nB ?_))));refine AC Z (fun h4 => ?_) (fun h4 => ?_)
  ·
   simp only [HS] at h4;refine AD (jQ _ ?_)
   grind [A1]
  simp only [HS] at h4;refine sG (eK 2 Z (nB ?_));refine AC Z (fun h5 => ?_) (fun h5 => ?_)
  ·
   simp only [HS] at h5;refine AD (jQ _ ?_)
   grind [A1]
  simp only [HS] at h5;refine rG (eK 2 Z (oN (jQ _ ?_)))
  grind [A1]
 have hb := hx
 refine tN ?_;refine AC Z (fun h1 => ?_) (fun h1 => ?_)
 ·
  refine sQ (kY [2] Z (rG (eZ Z (nB (rT (bR (tR (eR ?_))))))))
  ·exact Ax (by simp_all <;> omega)
 refine AD (bN (tN (sQ (kY [2] Z (rG (eZ Z (nB (rT (eR ?_)))))))))
 ·exact Ax (by simp_all <;> omega)
theorem My (i : Ins) : Fun Tryz.prog 113 [.t i.tt] (Ay [.t (.bool (Ed i))]) := by
 refine Fun.begin tys Tryz.func113 Z Z (N := 32) [(0, .t i.tt)] Z Z (fun w0 G F0 => ?_);refine sG (AZ Z Z (lt_of Z) Z Z (nZ Z (eZ Z (nB (sQ (AH (sG (eK 2 Z (AS ?_)))))))));refine ⟨_, BF _ _ _, rfl, ?_⟩;refine eK 2 Z (nB ?_);refine AC Z (fun h1 => ?_) (fun h1 => ?_)
 ·
  simp only [HS] at h1;refine sQ (kY [1,2] Z (rG (eZ Z (nB (rT (bR (tR (eR ?_))))))))
  ·exact Ax (by grind [Ed, Bo])
 simp only [HS] at h1;refine sQ (kY [1,2] Z (rG (eK 4 Z (nB ?_))));refine AC Z (fun h2 => ?_) (fun h2 => ?_)
 ·
  simp only [HS] at h2;refine sG (eK 2 Z (AS ?_));refine ⟨_, Ff _, rfl, ?_⟩;refine eZ Z (nB (rT (bR (tR (eR ?_)))))
  ·exact Ax (by grind [Ed, Bo])
 simp only [HS] at h2;refine sG (eK 4 Z (nB ?_));refine AC Z (fun h3 => ?_) (fun h3 => ?_)
 ·
  simp only [HS] at h3;refine sQ (kY [1,2] Z (rG (eK 2 Z (AS ?_))));refine ⟨_, GA _, rfl, ?_⟩;refine eZ Z (nB (rT (bR (tR (eR ?_)))))
  ·exact Ax (by grind [Ed, Bo])
 simp only [HS] at h3;refine sQ (kY [1,2] Z (rG (eK 2 Z (AS ?_))));refine ⟨_, NA _, rfl, ?_⟩;refine eZ Z (nB ?_);refine AC Z (fun h4 => ?_) (fun h4 => ?_)
 ·
  refine sG (eK 2 Z (AS ?_));refine ⟨_, BF _ _ _, rfl, ?_⟩;refine eZ Z (nB (rT (bR (tR (eR ?_)))))
  ·exact Ax (by grind [Ed, Bo])
 refine AD (bN (tN (sG (eK 4 Z (nB (rT (eR ?_)))))))
 ·exact Ax (by grind [Ed, Bo])
theorem E4 (i : Ins) : Fun Tryz.prog 112 [.t i.tt] (Ay [.t (.bool (!Ed i))]) := by
 refine Fun.begin tys Tryz.func112 Z Z (N := 6) [(0, .t i.tt)] Z Z (fun w0 G F0 => ?_);refine sG (AZ Z Z (lt_of Z) Z Z (nZ Z (eZ Z (nA (eZ Z ?_)))))
 try refine WO_le (Le.freeze (u := 3) rfl) ?_
 refine nZ Z (AS ?_);refine ⟨_, My _, rfl, ?_⟩;refine eK 2 Z (nB (rT (eR ?_)))
 ·rfl
theorem LV (l : List Ins) (p : Ins → Bool) (f : Nat) (caps : List D) (hcaps : caps.all D.imm = true) (hl : l.length ≤ 9223372036854775807) (hf : ∀ x, x ∈ l → Fun Tryz.prog f (.t x.tt :: caps) (.t (.bool (p x)))) : Fun Tryz.prog 120 [.t (T.Inss l), .clo f caps] (Ay [.t (.int (Cr p l 0))]) := by
 refine Fun.begin tys Tryz.func120 Z Z (N := 19) [(0, .t (T.Inss l)), (1, .clo f caps)] Z Z (fun w0 G F0 => ?_);refine sG (eZ Z (nB (sQ (sG (eZ Z (evE ?_))))));refine eZ Z (nB (AH ?_));refine lK (α := Int) [0, 1, 7] [] (fun x => [(8, .t (.int x))]) (fun x => []) (fun x => 0 ≤ x ∧ x ≤ l.length ∧ Cr p l 0 = Cr p (l.drop x.toNat) x) (fun x => Int.toNat (l.length - x)) 0 ?_ (fun k hx => ?_)
 ·exact ⟨by omega, by omega, rfl⟩
 obtain ⟨hk0, hk1, hk2⟩ := hx
 refine nY Z (sG (eZ Z (nB (sQ ?_))));refine AC Z (fun h1 => ?_) (fun h1 => ?_)
 ·
  simp only [HS] at h1;refine AD (tN (sQ (AH (sG (eK 2 Z (nA (B2 tys Z Z (lt_of Z) Z Z (by assumption) ?_)))))));refine eK 2 Z ?_;refine iY (k := ?_);refine eZ Z ?_
  try refine WO_le (Le.freeze (u := 15) rfl) ?_
  refine nZ Z ?_;refine BW Z Z (lt_of Z) Z Z (by repeat (first | exact ResL.done | exact ResL.imms (by first | rfl | assumption) | refine ResL.t ?_ | refine ResL.own ?_ | refine ResL.slA Z (by first | rfl | (simp; done) | (simp; omega)) ?_ | refine ResL.sl Z (by first | omega | (simp; done) | (simp; omega)) ?_ | refine ResL.rp ?_ | refine ResL.clo ?_ ?_ | refine ResL.aggT ?_ ?_ | refine ResL.ref Z ?_ ?_ | refine ResL.nil' ?_ | refine ResL.nil 1 ?_)) (hf _ (Qq _)) Z ?_;refine kZ [0,1,5,7,8,9,10,11,12,13,14,15,16] Z (nB ?_);refine AC Z (fun h2 => ?_) (fun h2 => ?_)
  ·
   refine sG (eK 2 Z (nB (rT (bR (tR (AP (bR (tR (eR ?_)))))))))
   ·rw [hk2, Ey hk0 h1]
    simp [h2]
    done
  refine AD (bN (tN (rG (evI ?_))));refine eZ Z (oN ?_);refine lQ _ ?_ ?_
  ·skip
   refine ⟨by omega, by omega, ?_⟩; rw [hk2, Ey hk0 h1]; simp [h2]
  ·(show Int.toNat _ < Int.toNat _); omega
 simp only [HS] at h1;refine AW (tE (AN (AO (tN (sG (eZ Z (nB (rT (eR ?_)))))))))
 ·rw [hk2, AX h1]
  rfl
theorem GW (l : List Ins) (p : Ins → Bool) (f : Nat) (caps : List D) (hcaps : caps.all D.imm = true) (hl : l.length ≤ 9223372036854775807) (hf : ∀ x, x ∈ l → Fun Tryz.prog f (.t x.tt :: caps) (.t (.bool (p x)))) : Fun Tryz.prog 111 [.t (T.Inss l), .clo f caps] (Ay [.t (.bool (l.any p))]) := by
 refine Fun.begin tys Tryz.func111 Z Z (N := 9) [(0, .t (T.Inss l)), (1, .clo f caps)] Z Z (fun w0 G F0 => ?_);refine sG (eZ Z (nA (eZ Z (B2 tys Z Z (lt_of Z) Z Z (by assumption) ?_))));refine BW Z Z (lt_of Z) Z Z (by repeat (first | exact ResL.done | exact ResL.imms (by first | rfl | assumption) | refine ResL.t ?_ | refine ResL.own ?_ | refine ResL.slA Z (by first | rfl | (simp; done) | (simp; omega)) ?_ | refine ResL.sl Z (by first | omega | (simp; done) | (simp; omega)) ?_ | refine ResL.rp ?_ | refine ResL.clo ?_ ?_ | refine ResL.aggT ?_ ?_ | refine ResL.ref Z ?_ ?_ | refine ResL.nil' ?_ | refine ResL.nil 1 ?_)) (LV l p f caps hcaps hl hf) Z ?_;refine eK 2 Z (nB (rT (eR ?_)))
 ·rw [← EM (Q8 0)]
theorem Jg (l : List Code) (p : Code → Bool) (f : Nat) (caps : List D) (hcaps : caps.all D.imm = true) (hl : l.length ≤ 9223372036854775807) (hf : ∀ x, x ∈ l → Fun Tryz.prog f (.t x.tt :: caps) (.t (.bool (p x)))) : Fun Tryz.prog 110 [.t (T.Codes l), .clo f caps] (Ay [.t (.int (Cr p l 0))]) := by
 refine Fun.begin tys Tryz.func110 Z Z (N := 19) [(0, .t (T.Codes l)), (1, .clo f caps)] Z Z (fun w0 G F0 => ?_);refine sG (eZ Z (nB (sQ (sG (eZ Z (evE ?_))))));refine eZ Z (nB (AH ?_));refine lK (α := Int) [0, 1, 7] [] (fun x => [(8, .t (.int x))]) (fun x => []) (fun x => 0 ≤ x ∧ x ≤ l.length ∧ Cr p l 0 = Cr p (l.drop x.toNat) x) (fun x => Int.toNat (l.length - x)) 0 ?_ (fun k hx => ?_)
 ·exact ⟨by omega, by omega, rfl⟩
 obtain ⟨hk0, hk1, hk2⟩ := hx
 refine nY Z (sG (eZ Z (nB (sQ ?_))));refine AC Z (fun h1 => ?_) (fun h1 => ?_)
 ·
  simp only [HS] at h1;refine AD (tN (sQ (AH (sG (eK 2 Z (nA (B2 tys Z Z (lt_of Z) Z Z (by assumption) ?_)))))));refine eK 2 Z ?_;refine iY (k := ?_);refine eZ Z ?_
  try refine WO_le (Le.freeze (u := 15) rfl) ?_
  refine nZ Z ?_;refine BW Z Z (lt_of Z) Z Z (by repeat (first | exact ResL.done | exact ResL.imms (by first | rfl | assumption) | refine ResL.t ?_ | refine ResL.own ?_ | refine ResL.slA Z (by first | rfl | (simp; done) | (simp; omega)) ?_ | refine ResL.sl Z (by first | omega | (simp; done) | (simp; omega)) ?_ | refine ResL.rp ?_ | refine ResL.clo ?_ ?_ | refine ResL.aggT ?_ ?_ | refine ResL.ref Z ?_ ?_ | refine ResL.nil' ?_ | refine ResL.nil 1 ?_)) (hf _ (Qq _)) Z ?_;refine kZ [0,1,5,7,8,9,10,11,12,13,14,15,16] Z (nB ?_);refine AC Z (fun h2 => ?_) (fun h2 => ?_)
  ·
   refine sG (eK 2 Z (nB (rT (bR (tR (AP (bR (tR (eR ?_)))))))))
   ·rw [hk2, Ey hk0 h1]
    simp [h2]
    done
  refine AD (bN (tN (rG (evI ?_))));refine eZ Z (oN ?_);refine lQ _ ?_ ?_
  ·skip
   refine ⟨by omega, by omega, ?_⟩; rw [hk2, Ey hk0 h1]; simp [h2]
  ·(show Int.toNat _ < Int.toNat _); omega
 simp only [HS] at h1;refine AW (tE (AN (AO (tN (sG (eZ Z (nB (rT (eR ?_)))))))))
 ·rw [hk2, AX h1]
  rfl
theorem Jh (l : List Code) (p : Code → Bool) (f : Nat) (caps : List D) (hcaps : caps.all D.imm = true) (hl : l.length ≤ 9223372036854775807) (hf : ∀ x, x ∈ l → Fun Tryz.prog f (.t x.tt :: caps) (.t (.bool (p x)))) : Fun Tryz.prog 92 [.t (T.Codes l), .clo f caps] (Ay [.t (.bool (l.any p))]) := by
 refine Fun.begin tys Tryz.func92 Z Z (N := 9) [(0, .t (T.Codes l)), (1, .clo f caps)] Z Z (fun w0 G F0 => ?_);refine sG (eZ Z (nA (eZ Z (B2 tys Z Z (lt_of Z) Z Z (by assumption) ?_))));refine BW Z Z (lt_of Z) Z Z (by repeat (first | exact ResL.done | exact ResL.imms (by first | rfl | assumption) | refine ResL.t ?_ | refine ResL.own ?_ | refine ResL.slA Z (by first | rfl | (simp; done) | (simp; omega)) ?_ | refine ResL.sl Z (by first | omega | (simp; done) | (simp; omega)) ?_ | refine ResL.rp ?_ | refine ResL.clo ?_ ?_ | refine ResL.aggT ?_ ?_ | refine ResL.ref Z ?_ ?_ | refine ResL.nil' ?_ | refine ResL.nil 1 ?_)) (Jg l p f caps hcaps hl hf) Z ?_;refine eK 2 Z (nB (rT (eR ?_)))
 ·rw [← EM (Q8 0)]
theorem LU (l : List Row) (p : Row → Bool) (f : Nat) (caps : List D) (hcaps : caps.all D.imm = true) (hl : l.length ≤ 9223372036854775807) (hf : ∀ x, x ∈ l → Fun Tryz.prog f (.t x.tt :: caps) (.t (.bool (p x)))) : Fun Tryz.prog 102 [.t (T.Rows l), .clo f caps] (Ay [.t (.int (Cr p l 0))]) := by
 refine Fun.begin tys Tryz.func102 Z Z (N := 19) [(0, .t (T.Rows l)), (1, .clo f caps)] Z Z (fun w0 G F0 => ?_);refine sG (eZ Z (nB (sQ (sG (eZ Z (evE ?_))))));refine eZ Z (nB (AH ?_));refine lK (α := Int) [0, 1, 7] [] (fun x => [(8, .t (.int x))]) (fun x => []) (fun x => 0 ≤ x ∧ x ≤ l.length ∧ Cr p l 0 = Cr p (l.drop x.toNat) x) (fun x => Int.toNat (l.length - x)) 0 ?_ (fun k hx => ?_)
 ·exact ⟨by omega, by omega, rfl⟩
 obtain ⟨hk0, hk1, hk2⟩ := hx
 refine nY Z (sG (eZ Z (nB (sQ ?_))));refine AC Z (fun h1 => ?_) (fun h1 => ?_)
 ·
  simp only [HS] at h1;refine AD (tN (sQ (AH (sG (eK 2 Z (nA (B2 tys Z Z (lt_of Z) Z Z (by assumption) ?_)))))));refine eK 2 Z ?_;refine iY (k := ?_);refine eZ Z ?_
  try refine WO_le (Le.freeze (u := 15) rfl) ?_
  refine nZ Z ?_;refine BW Z Z (lt_of Z) Z Z (by repeat (first | exact ResL.done | exact ResL.imms (by first | rfl | assumption) | refine ResL.t ?_ | refine ResL.own ?_ | refine ResL.slA Z (by first | rfl | (simp; done) | (simp; omega)) ?_ | refine ResL.sl Z (by first | omega | (simp; done) | (simp; omega)) ?_ | refine ResL.rp ?_ | refine ResL.clo ?_ ?_ | refine ResL.aggT ?_ ?_ | refine ResL.ref Z ?_ ?_ | refine ResL.nil' ?_ | refine ResL.nil 1 ?_)) (hf _ (Qq _)) Z ?_;refine kZ [0,1,5,7,8,9,10,11,12,13,14,15,16] Z (nB ?_);refine AC Z (fun h2 => ?_) (fun h2 => ?_)
  ·
   refine sG (eK 2 Z (nB (rT (bR (tR (AP (bR (tR (eR ?_)))))))))
   ·rw [hk2, Ey hk0 h1]
    simp [h2]
    done
  refine AD (bN (tN (rG (evI ?_))));refine eZ Z (oN ?_);refine lQ _ ?_ ?_
  ·skip
   refine ⟨by omega, by omega, ?_⟩; rw [hk2, Ey hk0 h1]; simp [h2]
  ·(show Int.toNat _ < Int.toNat _); omega
 simp only [HS] at h1;refine AW (tE (AN (AO (tN (sG (eZ Z (nB (rT (eR ?_)))))))))
 ·rw [hk2, AX h1]
  rfl
theorem DB {α : Type} {p : α → Bool} {l : List α} : (l.any fun n => !p n) = !l.all p := by rw [List.not_all_eq_any_not]
theorem K1 {c : Code} (h : (0 ≤ c.params ∧ c.params ≤ 2) ∧ (c.params ≤ c.vars ∧ c.vars ≤ 6) ∧ c.sites.length ≤ 4 ∧ (1 ≤ c.ins.length ∧ c.ins.length ≤ 300) ∧ c.rows.length ≤ 300) : Bt c = c.ins.all Ed := by
 unfold Bt;rw [decide_eq_true h.1, decide_eq_true h.2.1, decide_eq_true h.2.2.1, decide_eq_true h.2.2.2.1, decide_eq_true h.2.2.2.2]
 simp
theorem Fg (c : Code) (hc : c.ok 1048576) : Fun Tryz.prog 94 [.t c.tt] (Ay [.t (.bool (Bt c))]) := by
 have hc1 : c.sites.length ≤ 1048576 := hc.1
 have hc2 : c.ins.length ≤ 1048576 := hc.2.1
 have hc3 : c.rows.length ≤ 1048576 := hc.2.2.1
 refine Fun.begin tys Tryz.func94 Z Z (N := 37) [(0, .t c.tt)] Z Z (fun w0 G F0 => ?_);refine sG (AZ Z Z (lt_of Z) Z Z (nZ Z (eZ Z (nA (eK 2 Z (AS ?_))))));refine ⟨_, BF _ _ _, rfl, ?_⟩;refine eZ Z ?_;refine gB (fun h1 => ?_) (fun h1 => ?_)
 ·
  simp only [HS] at h1;refine xK 3 Z (kZ [1,2,6,8,10] Z (xK 9 Z (kZ [1,2,19] Z (xK 9 Z (kZ [1,2,25,28] Z (xK 9 Z (kZ [2] Z (nB (rT (eR ?_))))))))))
  ·first
   | exact Ax (by symm; rw [← RZ]; intro h; obtain ⟨a, b, d, e, f, g⟩ := A0 h; omega)
 simp only [HS] at h1;refine xK 3 Z (kZ [1,2,6,8,9] Z (xZ Z (gY Z (AS ?_))));refine ⟨_, BF _ _ _, rfl, ?_⟩;refine eK 2 Z ?_;refine gB (fun h2 => ?_) (fun h2 => ?_)
 ·
  simp only [HS] at h2;refine xK 5 Z (kZ [1,2,19] Z (xK 9 Z (kZ [1,2,25,28] Z (xK 9 Z (kZ [2] Z (nB (rT (eR ?_))))))))
  ·first
   | exact Ax (by symm; rw [← RZ]; intro h; obtain ⟨a, b, d, e, f, g⟩ := A0 h; omega)
 simp only [HS] at h2;refine xK 2 Z (gY Z (evE ?_));refine xK 2 Z (kZ [1,2,18] Z (eZ Z ?_));refine gB (fun h3 => ?_) (fun h3 => ?_)
 ·
  simp only [HS] at h3;refine xK 8 Z (kZ [1,2,25,28] Z (xK 9 Z (kZ [2] Z (nB (rT (eR ?_))))))
  ·first
   | exact Ax (by symm; rw [← RZ]; intro h; obtain ⟨a, b, d, e, f, g⟩ := A0 h; omega)
 simp only [HS] at h3;refine xK 2 Z (gY Z (evE ?_));refine gY Z (AS ?_);refine ⟨_, BF _ _ _, rfl, ?_⟩;refine eK 2 Z ?_;refine gB (fun h4 => ?_) (fun h4 => ?_)
 ·
  simp only [HS] at h4;refine xK 2 Z (kZ [1,2,25,28] Z (xK 9 Z (kZ [2] Z (nB (rT (eR ?_))))))
  ·first
   | exact Ax (by symm; rw [← RZ]; intro h; obtain ⟨a, b, d, e, f, g⟩ := A0 h; omega)
 simp only [HS] at h4;refine xK 2 Z (kZ [1,2,25,27] Z (gY Z (evE ?_)));refine xK 3 Z ?_;refine gB (fun h5 => ?_) (fun h5 => ?_)
 ·
  simp only [HS] at h5;refine xK 5 Z (kZ [2] Z (nB (rT (eR ?_))))
  ·first
   | exact Ax (by symm; rw [← RZ]; intro h; obtain ⟨a, b, d, e, f, g⟩ := A0 h; omega)
 simp only [HS] at h5;refine xK 2 Z (gY Z (AS ?_));refine ⟨_, GW c.ins (fun i => !Ed i) _ [] Z (by omega) (fun i _ => E4 i), rfl, ?_⟩;refine xK 2 Z (kZ [2,36] Z (eZ Z (nB (rT (eR ?_)))))
 ·first
  | exact Ax (by rw [DB, Bool.not_not, K1 (by omega)])
theorem Ia (c : Code) (hc : c.ok 1048576) : Fun Tryz.prog 93 [.t c.tt] (Ay [.t (.bool (!Bt c))]) := by
 refine Fun.begin tys Tryz.func93 Z Z (N := 6) [(0, .t c.tt)] Z Z (fun w0 G F0 => ?_);refine sG (AZ Z Z (lt_of Z) Z Z (nZ Z (eZ Z (nA (eZ Z ?_)))))
 try refine WO_le (Le.freeze (u := 3) rfl) ?_
 refine nZ Z (AS ?_);refine ⟨_, Fg _ hc, rfl, ?_⟩;refine eK 2 Z (nB (rT (eR ?_)))
 ·rfl
theorem Je (im : Image) (hx : im.ok 1048576) : Fun Tryz.prog 73 [.t im.tt] (Ay [.t (.bool (BD im))]) := by
 have hxl : im.codes.length ≤ 1048576 := hx.1.1
 refine Fun.begin tys Tryz.func73 Z Z (N := 13) [(0, .t im.tt)] Z Z (fun w0 G F0 => ?_);refine sG (AZ Z Z (lt_of Z) Z Z (nZ Z (eZ Z (nA (eK 2 Z (evE ?_))))));refine AS ?_;refine ⟨_, BF _ _ _, rfl, ?_⟩;refine eZ Z ?_;refine gB (fun h1 => ?_) (fun h1 => ?_)
 ·
  simp only [HS] at h1;refine xK 2 Z (kZ [2,7,10] Z (xK 3 Z (nB (rT (eR ?_)))))
  ·first
   | exact Ax (by symm; rw [← RZ]; intro h; have := B3 h; omega)
 simp only [HS] at h1;refine xK 2 Z (kZ [2,7,9] Z (gY Z (AS ?_)));refine ⟨_, Jh im.codes (fun c => !Bt c) _ [] Z (by omega) (fun c hc => Ia c (hx.1.2 c hc)), rfl, ?_⟩;refine xK 3 Z (nB (rT (eR ?_)))
 ·first
  | exact Ax (by rw [DB, Bool.not_not, BD, decide_eq_true (by omega), Bool.true_and])
theorem Hc (i : Ins) (im : Image) (c : Code) (hxl : im.codes.length ≤ 1048576) (hsl : c.sites.length ≤ 1048576) : Fun Tryz.prog 114 [.t i.tt, .rp c.tt 0, .rp im.tt 0] (Ay [.t (.bool (!BB im c i))]) := by
 refine Fun.begin tys Tryz.func114 Z Z (N := 32) [(0, .t i.tt), (1, .rp c.tt 0), (2, .rp im.tt 0)] Z Z (fun w0 G F0 => ?_);refine sG (AZ Z Z (lt_of Z) Z Z (nZ Z (eZ Z (nB (sQ (sG (eK 2 Z (nB (AH (sQ (sG (eK 2 Z (nB ?_)))))))))))));refine AC Z (fun h1 => ?_) (fun h1 => ?_)
 ·
  simp only [HS] at h1;refine AD (tN ?_);refine AC Z (fun h2 => ?_) (fun h2 => ?_)
  ·
   simp only [HS] at h2;refine sG (eK 3 Z (kZ [4,11,12] Z (eK 3 Z (nB (rT (bR (tR (eR ?_))))))))
   ·exact Ax (by grind [BB])
  simp only [HS] at h2;refine sQ (sG (eK 2 Z (nB ?_)));refine AC Z (fun h3 => ?_) (fun h3 => ?_)
  ·
   simp only [HS] at h3;refine AD (tN ?_);refine AC Z (fun h4 => ?_) (fun h4 => ?_)
   ·
    simp only [HS] at h4;refine sQ (kY [1,3,4] Z (rG (eK 4 Z (evE ?_))));refine eK 2 Z (nB (rT (bR (tR (eR ?_)))))
    ·exact Ax (by grind [BB])
   simp only [HS] at h4;refine sQ (kY [2,3,4,6] Z (rG (eK 2 Z (nB ?_))));refine AC Z (fun h5 => ?_) (fun h5 => ?_)
   ·
    simp only [HS] at h5;refine sG (eK 4 Z (evE ?_));refine eK 2 Z (kZ [4] Z (nB (rT (bR (tR (eR ?_))))))
    ·exact Ax (by grind [BB])
   simp only [HS] at h5;refine AD (bN (tN (sG (eZ Z (nB (rT (eR ?_)))))))
   ·exact Ax (by grind [BB])
  simp only [HS] at h3;refine kY [1,2,3,4,6,15] Z (rG (eK 2 Z (nB ?_)));refine AC Z (fun h4 => ?_) (fun h4 => ?_)
  ·
   simp only [HS] at h4;refine sG (eK 4 Z (evE ?_));refine eK 2 Z (kZ [4] Z (nB (rT (bR (tR (eR ?_))))))
   ·exact Ax (by grind [BB])
  simp only [HS] at h4;refine sG (eK 2 Z (nB ?_));refine AC Z (fun h5 => ?_) (fun h5 => ?_)
  ·
   simp only [HS] at h5;refine sG (eK 4 Z (evE ?_));refine kZ [4,27,30] Z (eK 2 Z (nB (rT (bR (tR (eR ?_))))))
   ·exact Ax (by grind [BB])
  simp only [HS] at h5;refine AD (bN (tN (sG (eZ Z (nB (rT (eR ?_)))))))
  ·exact Ax (by grind [BB])
 simp only [HS] at h1;refine rG (eK 2 Z (nB ?_));refine AC Z (fun h2 => ?_) (fun h2 => ?_)
 ·
  simp only [HS] at h2;refine sQ (kY [1,3,4] Z (rG (eK 6 Z (nB (rT (bR (tR (eR ?_))))))))
  ·exact Ax (by grind [BB])
 simp only [HS] at h2;refine sQ (sQ (kY [1,2,3,4,6] Z (rG (eK 2 Z (nB ?_)))));refine AC Z (fun h3 => ?_) (fun h3 => ?_)
 ·
  simp only [HS] at h3;refine AD (tN ?_);refine AC Z (fun h4 => ?_) (fun h4 => ?_)
  ·
   simp only [HS] at h4;refine sG (eK 4 Z (evE ?_));refine eK 2 Z (kZ [4] Z (nB (rT (bR (tR (eR ?_))))))
   ·exact Ax (by grind [BB])
  simp only [HS] at h4;refine sG (eK 2 Z (nB ?_));refine AC Z (fun h5 => ?_) (fun h5 => ?_)
  ·
   simp only [HS] at h5;refine sG (eK 4 Z (evE ?_));refine kZ [4,27,30] Z (eK 2 Z (nB (rT (bR (tR (eR ?_))))))
   ·exact Ax (by grind [BB])
  simp only [HS] at h5;refine AD (bN (tN (sG (eZ Z (nB (rT (eR ?_)))))))
  ·exact Ax (by grind [BB])
 simp only [HS] at h3;refine rG (eK 2 Z (nB ?_));refine AC Z (fun h4 => ?_) (fun h4 => ?_)
 ·
  simp only [HS] at h4;refine sG (eK 4 Z (evE ?_));refine kZ [4,19,22] Z (eK 2 Z (nB (rT (bR (tR (eR ?_))))))
  ·exact Ax (by grind [BB])
 simp only [HS] at h4;refine sG (eK 2 Z (nB ?_));refine AC Z (fun h5 => ?_) (fun h5 => ?_)
 ·
  simp only [HS] at h5;refine sG (eK 3 Z (kZ [4,27,28] Z (eZ Z (evE ?_))));refine eK 2 Z (nB (rT (bR (tR (eR ?_)))))
  ·exact Ax (by grind [BB])
 simp only [HS] at h5;refine AD (bN (tN (sG (eZ Z (nB (rT (eR ?_)))))))
 ·exact Ax (by grind [BB])
theorem Iv (im : Image) (c : Code) (hxl : im.codes.length ≤ 1048576) (hcl : c.ins.length ≤ 1048576) (hsl : c.sites.length ≤ 1048576) : Fun Tryz.prog 95 [.t im.tt, .t c.tt] (Ay [.t (.bool (BM im c))]) := by
 refine Fun.begin tys Tryz.func95 Z Z (N := 10) [(0, .t im.tt), (1, .t c.tt)] Z Z (fun w0 G F0 => ?_);refine sG (AZ Z Z (lt_of Z) Z Z (nZ Z (AZ Z Z (lt_of Z) Z Z (nZ Z (eZ Z (nA (eK 3 Z (AS ?_))))))));refine ⟨_, GW c.ins (fun i => !BB im c i) _ [.rp c.tt 0, .rp im.tt 0] Z (by omega) (fun i _ => Hc i im c hxl hsl), rfl, ?_⟩;refine eK 2 Z (kZ [4] Z (nB (rT (eR ?_))))
 ·exact Ax (by rw [DB, Bool.not_not, BM])
theorem GC (n : Int) (im : Image) (hxl : im.codes.length ≤ 1048576) : Fun Tryz.prog 96 [.t (.int n), .rp im.tt 0] (Ay [.t (.bool (!E2 im n))]) := by
 refine Fun.begin tys Tryz.func96 Z Z (N := 20) [(0, .t (.int n)), (1, .rp im.tt 0)] Z Z (fun w0 G F0 => ?_);refine sG (eZ Z (nA (eK 3 Z (evE ?_))));refine evI ?_;refine AS ?_;refine ⟨_, BF _ _ _, rfl, ?_⟩;refine eK 2 Z (kZ [0,1,3,11] Z ?_);refine gB (fun h1 => ?_) (fun h1 => ?_)
 ·
  simp only [HS] at h1;refine xK 8 Z (nB (rT (eR ?_)))
  ·first
   | exact Ax (by rw [E2, decide_eq_false (by omega)]; rfl)
 simp only [HS] at h1;refine xK 3 Z (gY Z ?_);refine iY (k := ?_);refine xK 5 Z (kZ [3] Z (nB (rT (eR ?_))))
 ·first
  | exact Ax (by rw [D3 (by omega) (by omega)]; simp)
theorem Jp (rows : List Row) (many : Int) (hl : rows.length ≤ 1048576) (hm : 0 ≤ many ∧ many ≤ 1048576) : Fun Tryz.prog 98 [.t (T.Rows rows), .t (.int many)] (Ay [.t (.bool (D6 rows many))]) := by
 refine Fun.begin tys Tryz.func98 Z Z (N := 42) [(0, .t (T.Rows rows)), (1, .t (.int many))] Z Z (fun w0 G F0 => ?_);refine sG (eZ Z (nA (eZ Z (nB (sQ (sG (eZ Z (evE ?_))))))));refine eZ Z (nB (AH ?_));refine lK (α := Int × Int) [0, 1, 8, 9] [] (fun x => [(10, .t (.int (x.1))), (5, .t (.int (x.2)))]) (fun x => []) (fun x => 0 ≤ (x.1) ∧ (x.1) ≤ rows.length ∧ D6 rows many = B4 many (rows.drop (x.1).toNat) (x.2)) (fun x => Int.toNat (rows.length - (x.1))) (0, 0) ?_ (fun x hx => ?_)
 ·exact ⟨by omega, by omega, rfl⟩
 obtain ⟨k, e⟩ := x
 obtain ⟨hk0, hk1, hk2⟩ := hx
 dsimp only at hk0 hk1 hk2 ⊢;refine nY Z (sG (eZ Z (nB (sQ ?_))));refine AC Z (fun h1 => ?_) (fun h1 => ?_)
 ·
  simp only [HS] at h1;refine AD (tN (sQ (AH (sG ?_))));refine iY (k := ?_);refine eZ Z ?_
  try refine WO_le (Le.freeze (u := 13) rfl) ?_
  refine nZ Z (AY tys Z Z (lt_of Z) Z Z Z (nZ Z (sT Z (nZ Z (nB (sQ (sG (eK 4 Z (kZ [0,1,5,7,8,9,10,11,12,13,14,15,16,17] Z (eZ Z ?_))))))))));refine gB (fun h2 => ?_) (fun h2 => ?_)
  ·
   simp only [HS] at h2;refine xK 8 Z (kZ [0,1,5,7,8,9,10,11,12,13,14,15,16,17,18,19,20,21,22,23,24,25,26,27] Z (xK 9 Z (kZ [0,1,5,7,8,9,10,11,12,13,14,15,16,17,18,19,20,21,22,23,24,25,26,27,28,29,30,31,32,33,34,35,36] Z (xK 2 Z (nB (A5 Z (sG (eZ Z (nB (rT (tR (bR (tR (AP (bR ?_)))))))))))))));refine tR (eR ?_)
   ·first
    | exact Ax (by rw [hk2, drop_at hk0 (by omega), B4]; simp_all <;> omega)
  simp only [HS] at h2;refine xK 7 Z ?_;refine gB (fun h3 => ?_) (fun h3 => ?_)
  ·
   simp only [HS] at h3;refine xZ Z (kZ [0,1,5,7,8,9,10,11,12,13,14,15,16,17,18,19,20,21,22,23,24,25,26,27] Z (xK 9 Z (kZ [0,1,5,7,8,9,10,11,12,13,14,15,16,17,18,19,20,21,22,23,24,25,26,27,28,29,30,31,32,33,34,35,36] Z (xK 2 Z (nB (A5 Z (sG (eZ Z (nB (rT (tR (bR (tR (AP (bR ?_)))))))))))))));refine tR (eR ?_)
   ·first
    | exact Ax (by rw [hk2, drop_at hk0 (by omega), B4]; simp_all <;> omega)
  simp only [HS] at h3;refine xK 2 Z (kZ [0,1,5,7,8,9,10,11,12,13,14,15,16,17,18,19,20,21,22,23,24,25,26,27] Z (xK 4 Z ?_));refine gB (fun h4 => ?_) (fun h4 => ?_)
  ·
   simp only [HS] at h4;refine xK 5 Z (kZ [0,1,5,7,8,9,10,11,12,13,14,15,16,17,18,19,20,21,22,23,24,25,26,27,28,29,30,31,32,33,34,35,36,37] Z (eZ Z (nB (A5 Z (sG (eZ Z (nB (rT (tR (bR (tR (AP (bR (tR (eR ?_)))))))))))))))
   ·first
    | exact Ax (by rw [hk2, drop_at hk0 (by omega), B4]; simp_all <;> omega)
  simp only [HS] at h4;refine xK 3 Z (gY Z (evI ?_));refine gY Z (AS ?_);refine ⟨_, BF _ _ _, rfl, ?_⟩;refine kZ [0,1,5,7,8,9,10,11,12,13,14,15,16,17,18,19,20,21,22,23,24,25,26,27,28,29,30,31,32,33,34,35,36] Z (xK 2 Z (nB ?_));refine AC Z (fun h5 => ?_) (fun h5 => ?_)
  ·
   simp only [HS] at h5;refine sG (eZ Z (nB (rT (tR (bR (tR (AP (bR (tR (eR ?_))))))))))
   ·first
    | exact Ax (by rw [hk2, drop_at hk0 (by omega), B4]; simp_all <;> omega)
  simp only [HS] at h5;refine AD (tN (rG (eK 3 Z (oN (bN (tN (rG (evI ?_))))))));refine eZ Z (oN ?_);refine lQ (_, _) ?_ ?_
  ·dsimp only
   refine ⟨by omega, by omega, ?_⟩;rw [hk2, drop_at hk0 (by omega), B4]
   simp_all <;> omega
  ·(show Int.toNat _ < Int.toNat _); omega
 simp only [HS] at h1;refine AW (tE (AN (AO (tN (sG (eZ Z (nB (rT (eR ?_)))))))))
 ·first
  | exact Ax (by rw [hk2, AX (by omega)]; rfl)
theorem K6 (r : Row) (k : Int) : Fun Tryz.prog 103 [.t r.tt, .rp (.agg [T.int k]) 0] (Ay [.t (.bool (decide (r.lo ≤ k ∧ k < r.hi)))]) := by
 refine Fun.begin tys Tryz.func103 Z Z (N := 14) [(0, .t r.tt), (1, .rp (.agg [T.int k]) 0)] Z Z (fun w0 G F0 => ?_);refine sG (AZ Z Z (lt_of Z) Z Z (nZ Z (eZ Z (nA (eK 5 Z ?_)))));refine gB (fun h1 => ?_) (fun h1 => ?_)
 ·
  simp only [HS] at h1;refine xK 2 Z (kZ [3,8,9,11] Z (xK 3 Z (nB (rT (eR ?_)))))
  ·exact Ax (by simp_all <;> omega)
 simp only [HS] at h1;refine xK 2 Z (kZ [3,8,9,10] Z (xK 4 Z (nB (rT (eR ?_)))))
 ·exact Ax (by simp_all <;> omega)
theorem MO (k : Int) : ∀ (l : List Row) (j : Nat), rowGo k l j = Cr (fun r => decide (r.lo ≤ k ∧ k < r.hi)) l (j : Int)
 | [], _ => rfl
 | r :: l, j => by
  rw [rowGo, Cr, MO k l (j + 1)]
  simp
theorem Hx (rows : List Row) (k : Int) (hl : rows.length ≤ 1048576) : Fun Tryz.prog 79 [.t (T.Rows rows), .t (.int k)] (Ay [.t (.int (rowX rows k))]) := by
 refine Fun.begin tys Tryz.func79 Z Z (N := 8) [(0, .t (T.Rows rows)), (1, .t (.int k))] Z Z (fun w0 G F0 => ?_);refine sG (AZ Z Z (lt_of Z) Z Z (nZ Z (eZ Z (nA (eK 2 Z (AS ?_))))));refine ⟨_, LU rows (fun r => decide (r.lo ≤ k ∧ k < r.hi)) _ [.rp (.agg [T.int k]) 0] Z (by omega) (fun r _ => K6 r k), rfl, ?_⟩;refine eZ Z (nB (rT (eR ?_)))
 ·(rw [rowX, MO]; rfl)
theorem Gl (im : Image) (i : Ins) (hxl : im.codes.length ≤ 1048576) (hcall : i.op = 7 → 0 ≤ i.n ∧ i.n < im.codes.length) : Fun Tryz.prog 118 [.t im.tt, .t i.tt] (Ay [.t (.int (tkX im i)), .t (.int (ptX i))]) := by
 refine Fun.begin tys Tryz.func118 Z Z (N := 31) [(0, .t im.tt), (1, .t i.tt)] Z Z (fun w0 G F0 => ?_);refine sG (AZ Z Z (lt_of Z) Z Z (nZ Z (AZ Z Z (lt_of Z) Z Z (nZ Z (eK 2 Z (nB (sQ (sG (eK 2 Z (nB (AH (sQ (sG (eK 2 Z (nB ?_)))))))))))))));refine CC (α := Bool) [2, 3, 4, 5, 7] [2, 3] (fun x => [(8, .t (.bool x))]) (fun x => []) (fun x => x = decide (i.op = 1 ∨ i.op = 2 ∨ i.op = 5 ∨ i.op = 6)) ?_ (fun b hx => ?_)
 ·
  refine AC Z (fun h1 => ?_) (fun h1 => ?_)
  ·
   simp only [HS] at h1;refine AD (jQ _ ?_)
   grind
  simp only [HS] at h1;refine sQ (kY [2,3,4,5,7,8] Z (rG (eK 2 Z (nB ?_))));refine AC Z (fun h2 => ?_) (fun h2 => ?_)
  ·
   simp only [HS] at h2;refine AD (jQ _ ?_)
   grind
  simp only [HS] at h2;refine sG (eK 2 Z (nB ?_));refine AC Z (fun h3 => ?_) (fun h3 => ?_)
  ·
   simp only [HS] at h3;refine AD (jQ _ ?_)
   grind
  simp only [HS] at h3;refine rG (eK 2 Z (oN (jQ _ ?_)))
  grind
 have hb := hx
 refine tN ?_;refine AC Z (fun h1 => ?_) (fun h1 => ?_)
 ·
  refine sQ (kY [4,5] Z (rG (eK 2 Z (nB (rT (bR (tR (eR ?_))))))))
  ·first
   | exact Ag (by grind [tkX]) (by grind [ptX])
 refine sQ (sQ (kY [2,3,4,5,7] Z (rG (eK 2 Z (nB ?_)))));refine AC Z (fun h2 => ?_) (fun h2 => ?_)
 ·
  simp only [HS] at h2;refine AD (tN ?_);refine AC Z (fun h3 => ?_) (fun h3 => ?_)
  ·
   simp only [HS] at h3;refine sG (eK 2 Z (nB (rT (bR (tR (eR ?_))))))
   ·first
    | exact Ag (by grind [tkX]) (by grind [ptX])
  simp only [HS] at h3;refine sG (eK 2 Z (nB ?_));refine AC Z (fun h4 => ?_) (fun h4 => ?_)
  ·
   simp only [HS] at h4;refine sG (eK 2 Z (nB (rT (bR (tR (eR ?_))))))
   ·first
    | exact Ag (by grind [tkX]) (by grind [ptX])
  simp only [HS] at h4;refine sG (eK 2 Z (nB ?_));refine AC Z (fun h5 => ?_) (fun h5 => ?_)
  ·
   simp only [HS] at h5;refine sG (eK 3 Z (kZ [4,5,25,26] Z (eZ Z ?_)))
   have h77 := hcall (by assumption)
   refine iY (k := ?_);refine eK 4 Z (nB (rT (bR (tR (eR ?_)))))
   ·first
    | exact Ag (BA hcall (by assumption)) (by grind [ptX])
  simp only [HS] at h5;refine AD (bN (tN (sG (eK 2 Z (nB (rT (eR ?_)))))))
  ·first
   | exact Ag (by grind [tkX]) (by grind [ptX])
 simp only [HS] at h2;refine sG (eK 2 Z (nB ?_));refine AC Z (fun h3 => ?_) (fun h3 => ?_)
 ·
  simp only [HS] at h3;refine AD (tN ?_);refine AC Z (fun h4 => ?_) (fun h4 => ?_)
  ·
   simp only [HS] at h4;refine sG (eK 2 Z (nB (rT (bR (tR (eR ?_))))))
   ·first
    | exact Ag (by grind [tkX]) (by grind [ptX])
  simp only [HS] at h4;refine sG (eK 2 Z (nB ?_));refine AC Z (fun h5 => ?_) (fun h5 => ?_)
  ·
   simp only [HS] at h5;refine sG (eK 2 Z (nB (rT (bR (tR (eR ?_))))))
   ·first
    | exact Ag (by grind [tkX]) (by grind [ptX])
  simp only [HS] at h5;refine sG (eK 2 Z (nB ?_));refine AC Z (fun h6 => ?_) (fun h6 => ?_)
  ·
   simp only [HS] at h6;refine sQ (kY [2,3,4,5] Z (rG (eK 4 Z ?_)))
   have h77 := hcall (by assumption)
   refine iY (k := ?_);refine eK 4 Z (kZ [4,5] Z (nB (rT (bR (tR (eR ?_))))))
   ·first
    | exact Ag (BA hcall (by assumption)) (by grind [ptX])
  simp only [HS] at h6;refine AD (bN (tN (sQ (kY [4,5] Z (rG (eK 2 Z (nB (rT (eR ?_)))))))))
  ·first
   | exact Ag (by grind [tkX]) (by grind [ptX])
 simp only [HS] at h3;refine sG (eK 2 Z (nB ?_));refine AC Z (fun h4 => ?_) (fun h4 => ?_)
 ·
  simp only [HS] at h4;refine AD (tN ?_);refine AC Z (fun h5 => ?_) (fun h5 => ?_)
  ·
   simp only [HS] at h5;refine sG (eK 2 Z (nB (rT (bR (tR (eR ?_))))))
   ·first
    | exact Ag (by grind [tkX]) (by grind [ptX])
  simp only [HS] at h5;refine sG (eK 2 Z (nB ?_));refine AC Z (fun h6 => ?_) (fun h6 => ?_)
  ·
   simp only [HS] at h6;refine sQ (kY [4,5] Z (rG (eK 2 Z (nB (rT (bR (tR (eR ?_))))))))
   ·first
    | exact Ag (by grind [tkX]) (by grind [ptX])
  simp only [HS] at h6;refine sQ (kY [2,3,4,5,7] Z (rG (eK 2 Z (nB ?_))));refine AC Z (fun h7 => ?_) (fun h7 => ?_)
  ·
   simp only [HS] at h7;refine sG (eK 4 Z ?_)
   have h77 := hcall (by assumption)
   refine iY (k := ?_);refine eK 2 Z (kZ [4,5,30] Z (eK 2 Z (nB (rT (bR (tR (eR ?_)))))))
   ·first
    | exact Ag (BA hcall (by assumption)) (by grind [ptX])
  simp only [HS] at h7;refine AD (bN (tN (sG (eK 2 Z (nB (rT (eR ?_)))))))
  ·first
   | exact Ag (by grind [tkX]) (by grind [ptX])
 simp only [HS] at h4;refine sG (eK 2 Z (nB ?_));refine AC Z (fun h5 => ?_) (fun h5 => ?_)
 ·
  simp only [HS] at h5;refine AD (tN ?_);refine AC Z (fun h6 => ?_) (fun h6 => ?_)
  ·
   simp only [HS] at h6;refine sQ (kY [4,5] Z (rG (eK 2 Z (nB (rT (bR (tR (eR ?_))))))))
   ·first
    | exact Ag (by grind [tkX]) (by grind [ptX])
  simp only [HS] at h6;refine sQ (kY [2,3,4,5,7] Z (rG (eK 2 Z (nB ?_))));refine AC Z (fun h7 => ?_) (fun h7 => ?_)
  ·
   simp only [HS] at h7;refine sG (eK 2 Z (nB (rT (bR (tR (eR ?_))))))
   ·first
    | exact Ag (by grind [tkX]) (by grind [ptX])
  simp only [HS] at h7;refine sG (eK 2 Z (nB ?_));refine AC Z (fun h8 => ?_) (fun h8 => ?_)
  ·
   simp only [HS] at h8;refine sG (eK 4 Z ?_)
   have h77 := hcall (by assumption)
   refine iY (k := ?_);refine kZ [4,5,28] Z (eK 4 Z (nB (rT (bR (tR (eR ?_))))))
   ·first
    | exact Ag (BA hcall (by assumption)) (by grind [ptX])
  simp only [HS] at h8;refine AD (bN (tN (sG (eK 2 Z (nB (rT (eR ?_)))))))
  ·first
   | exact Ag (by grind [tkX]) (by grind [ptX])
 simp only [HS] at h5;refine sQ (kY [2,3,4,5,7,13] Z (rG (eK 2 Z (nB ?_))));refine AC Z (fun h6 => ?_) (fun h6 => ?_)
 ·
  simp only [HS] at h6;refine AD (tN ?_);refine AC Z (fun h7 => ?_) (fun h7 => ?_)
  ·
   simp only [HS] at h7;refine sG (eK 2 Z (nB (rT (bR (tR (eR ?_))))))
   ·first
    | exact Ag (by grind [tkX]) (by grind [ptX])
  simp only [HS] at h7;refine sG (eK 2 Z (nB ?_));refine AC Z (fun h8 => ?_) (fun h8 => ?_)
  ·
   simp only [HS] at h8;refine sG (eK 2 Z (nB (rT (bR (tR (eR ?_))))))
   ·first
    | exact Ag (by grind [tkX]) (by grind [ptX])
  simp only [HS] at h8;refine sG (eK 2 Z (nB ?_));refine AC Z (fun h9 => ?_) (fun h9 => ?_)
  ·
   simp only [HS] at h9;refine sG (eK 3 Z (kZ [4,5,25,26] Z (eZ Z ?_)))
   have h77 := hcall (by assumption)
   refine iY (k := ?_);refine eK 4 Z (nB (rT (bR (tR (eR ?_)))))
   ·first
    | exact Ag (BA hcall (by assumption)) (by grind [ptX])
  simp only [HS] at h9;refine AD (bN (tN (sG (eK 2 Z (nB (rT (eR ?_)))))))
  ·first
   | exact Ag (by grind [tkX]) (by grind [ptX])
 simp only [HS] at h6;refine rG (eK 2 Z (nB ?_));refine AC Z (fun h7 => ?_) (fun h7 => ?_)
 ·
  simp only [HS] at h7;refine sG (eK 2 Z (nB (rT (bR (tR (eR ?_))))))
  ·first
   | exact Ag (by grind [tkX]) (by grind [ptX])
 simp only [HS] at h7;refine sG (eK 2 Z (nB ?_));refine AC Z (fun h8 => ?_) (fun h8 => ?_)
 ·
  simp only [HS] at h8;refine sG (eK 2 Z (nB (rT (bR (tR (eR ?_))))))
  ·first
   | exact Ag (by grind [tkX]) (by grind [ptX])
 simp only [HS] at h8;refine sG (eK 2 Z (nB ?_));refine AC Z (fun h9 => ?_) (fun h9 => ?_)
 ·
  simp only [HS] at h9;refine sQ (kY [2,3,4,5] Z (rG (eK 4 Z ?_)))
  have h77 := hcall (by assumption)
  refine iY (k := ?_);refine eK 4 Z (kZ [4,5] Z (nB (rT (bR (tR (eR ?_))))))
  ·first
   | exact Ag (BA hcall (by assumption)) (by grind [ptX])
 simp only [HS] at h9;refine AD (bN (tN (sQ (kY [4,5] Z (rG (eK 2 Z (nB (rT (eR ?_)))))))))
 ·first
  | exact Ag (by grind [tkX]) (by grind [ptX])
open Go.Eng Go.RowKit
theorem Fun.plain {P : Program} {f : FuncId} {vs : List Value} {u : Value} {r : Go.Eng.D} (hc : DF P f) (h : ∀ w, Calls P f vs.toArray w fun e w' => e = .returned u ∧ w' = w) (hr : ∀ (w : World) (F : Nat → Prop), RelD w F (fun _ => none) [u] [r] []) : Eng.Fun P f (vs.map fun v => .t (.v v)) r := by
 refine ⟨hc, fun w F args hF hargs => ?_⟩
 have key : ∀ {vs : List Value} {ws : List Value}, RelD w F (fun _ => none) ws (vs.map fun v => Go.Eng.D.t (.v v)) [] → ws = vs := by
  intro vs
  induction vs with
  | nil => intro ws h; cases h; rfl
  | cons v vs ih =>
   intro ws h
   cases ws with
   | nil => cases h
   | cons a ws =>
    obtain ⟨b1, b2, h1, h2, h3⟩ := RelD.cons h
    obtain ⟨rfl, rfl⟩ := List.append_eq_nil_iff.1 h3.symm
    rw [A6 h1, ih h2]
 have he := key hargs
 have ha : args = vs.toArray := by rw [← he]
 subst ha;refine (h w).mono ?_
 rintro e w' ⟨rfl, rfl⟩
 exact ⟨u, F, [], rfl, Below.refl _ _, fun _ h => h, fun _ h => .inl h, hr _ _, by simp, by simp⟩
theorem Lk (x y : Nat) (hx : x < 18446744073709551616) (hy : y < 18446744073709551616) (w : World) :
  Calls Tryz.prog 129 #[.int .u64 x, .int .u64 y] w fun e w' => e = .returned (.tuple #[.int .u64 ((x * y / 18446744073709551616 : Nat) : Int), .int .u64 ((x * y % 18446744073709551616 : Nat) : Int)]) ∧ w' = w := by
 obtain ⟨bd, bt, bw, hhi⟩ := Lib.mul64_hi x y hx hy
 have ba := Lib.half_mul_le (a := x / 4294967296) (b := y / 4294967296) (by omega) (by omega)
 have bb := Lib.half_mul_le (a := x / 4294967296) (b := y % 4294967296) (by omega) (by omega)
 have bc := Lib.half_mul_le (a := x % 4294967296) (b := y / 4294967296) (by omega) (by omega)
 have ba' : x / 4294967296 * (y / 4294967296) < 18446744073709551616 := by omega
 have bb' : x / 4294967296 * (y % 4294967296) < 18446744073709551616 := by omega
 have bc' : x % 4294967296 * (y / 4294967296) < 18446744073709551616 := by omega
 have bh1 : x / 4294967296 * (y / 4294967296) + (x / 4294967296 * (y % 4294967296) + x % 4294967296 * (y % 4294967296) / 4294967296) / 4294967296 < 18446744073709551616 := by omega
 have bh : x / 4294967296 * (y / 4294967296) + (x / 4294967296 * (y % 4294967296) + x % 4294967296 * (y % 4294967296) / 4294967296) / 4294967296 + ((x / 4294967296 * (y % 4294967296) + x % 4294967296 * (y % 4294967296) / 4294967296) % 4294967296 + x % 4294967296 * (y / 4294967296)) / 4294967296 < 18446744073709551616 := by omega
 go_enter Tryz.func129, Tryz.ntmps129
 go_wp2
 simp only [Mul64.maskN x hx, Mul64.maskN y hy, Mul64.divN, Mul64.mulN, Mul64.addN, Mul64.wrapN _ bd, Mul64.wrapN _ bb', Mul64.wrapN _ bt, Mul64.maskN _ bt, Mul64.wrapN _ bc', Mul64.wrapN _ bw, Mul64.wrapN _ ba', Mul64.wrapN _ bh1, Mul64.wrapN _ bh, Mul64.wrapM (x * y)];rw [hhi]
 go_ret2
 exact ⟨rfl, rfl⟩
theorem Mh (n : Nat) (h : n ≤ 1048576) : Eng.Fun Tryz.prog 129 [.t (.v (.int .u64 1)), .t (.v (.int .u64 n))] (.tup [.t (.v (.int .u64 0)), .t (.v (.int .u64 n))]) := by
 refine Fun.plain (vs := [.int .u64 1, .int .u64 n]) (u := .tuple #[.int .u64 0, .int .u64 n]) ⟨_, Tryz.func129, rfl, rfl⟩ (fun w => ?_) (fun w F => ?_)
 ·have := Lk 1 n (by omega) (by omega) w
  rw [Nat.one_mul, Nat.div_eq_of_lt (by omega), Nat.mod_eq_of_lt (by omega)] at this;exact this
 ·exact RelD.tup (bs := []) (bs' := []) (.t (.v rfl .nil) (.t (.v rfl .nil) .done)) .done
theorem Ll (w : World) : Calls Tryz.prog 140 #[.int .u64 2] w fun e w' => e = .returned (.int .i64 2) ∧ w' = w := by
 go_enter Tryz.func140, Tryz.ntmps140
 go_wp2
 all_goals (go_ret; refine ⟨congrArg Ending.returned (congrArg (Value.int IntKind.i64) ?_), rfl⟩)
 all_goals (rw [Lib.len8_of 2 (by omega) (by omega), show Lib.bitLen (Int.toNat 2) = 2 from by simp [Lib.bitLen, Lib.bitLenAux]]; unfold wrap64; omega)
theorem Mp : Eng.Fun Tryz.prog 140 [.t (.v (.int .u64 2))] (.t (.int 2)) :=
 Fun.plain (vs := [.int .u64 2]) (u := .int .i64 2) ⟨_, Tryz.func140, rfl, rfl⟩ Ll (fun w F => .t (.v rfl .nil) .done)
open Go.Eng
theorem P6 (n : Nat) (hn : n ≤ 1048576) : Fun Tryz.prog 125 [.t (.v (.int .u64 1)), .t (.v (.int .u64 n))] (Ay [.t (.v (.int .u64 0)), .t (.v (.int .u64 n))]) := by
 refine Fun.begin tys Tryz.func125 Z Z (N := 30) [(0, .t (.v (.int .u64 1))), (1, .t (.v (.int .u64 n)))] Z Z (fun w0 G F0 => ?_);refine sG (eK 2 Z (nB (sQ (Ao Z (AD (tN (sG (eK 2 Z (AS ?_)))))))));refine ⟨_, Mh n hn, rfl, ?_⟩;refine eZ Z (WO_evF tys Z Z (lt_of Z) (d := .t _) Z (nZ Z (WO_evF tys Z Z (lt_of Z) (d := .t _) Z (nZ Z (eZ Z (kZ [4,5,8,27] Z (eZ Z (nA (eK 4 Z (nB (rT (eR ?_))))))))))))
 ·rfl
theorem P9  : Fun Tryz.prog 127 [.t (.v (.int .u64 2))] (Ay [.t (.int 2)]) := by
 refine Fun.begin tys Tryz.func127 Z Z (N := 8) [(0, .t (.v (.int .u64 2)))] Z Z (fun w0 G F0 => ?_);refine sG (eZ Z (nB (sQ (Ao Z (AD (tN (sG (eZ Z (AS ?_)))))))));refine ⟨_, Mp, rfl, ?_⟩;refine eZ Z (nB (rT (eR ?_)))
 ·rfl
theorem Oq (v : Int) (n : Nat) (hn : n ≤ 1048576) : Fun Tryz.prog 125 [.t (.v (.int .u64 (IntKind.u64.wrap (([v] : List Int).length : Nat)))), .t (.v (.int .u64 (IntKind.u64.wrap n)))] (Ay [.t (.v (.int .u64 0)), .t (.v (.int .u64 n))]) := by
 rw [show IntKind.u64.wrap (n : Int) = n from by rw [IntKind.wrap_u64]; omega];exact P6 n hn
theorem OY {v k : Int} {n m : Nat} (h0 : 1 ≤ k) (h1 : k < n) (hm : m ≤ k.toNat ∧ m ≤ n - k.toNat) (hm0 : 0 < m) :
  ((List.replicate k.toNat v ++ List.replicate (n - k.toNat) 0).take (0 + k.toNat) ++ ((List.replicate k.toNat v ++ List.replicate (n - k.toNat) 0).drop (0 + (0 : Int).toNat)).take m ++ (List.replicate k.toNat v ++ List.replicate (n - k.toNat) 0).drop (0 + k.toNat + m)).map T.int = (List.replicate (k + (m : Int)).toNat v ++ List.replicate (n - (k + (m : Int)).toNat) 0).map T.int := by
 congr 1
 have e1 : (List.replicate k.toNat v ++ List.replicate (n - k.toNat) 0).take (0 + k.toNat) = List.replicate k.toNat v := by
  rw [Qv, List.take_append_of_le_length (by simp), Qi (by simp)]
 have e2 : ((List.replicate k.toNat v ++ List.replicate (n - k.toNat) 0).drop (0 + (0 : Int).toNat)).take m = List.replicate m v := by
  show (List.replicate k.toNat v ++ List.replicate (n - k.toNat) 0).take m = _;rw [List.take_append_of_le_length (by simp; omega), List.take_replicate]
  congr 1
  omega
 have e3 : (List.replicate k.toNat v ++ List.replicate (n - k.toNat) 0).drop (0 + k.toNat + m) = List.replicate (n - k.toNat - m) 0 := by
  rw [List.drop_append, List.drop_eq_nil_of_le (by simp), List.nil_append, List.drop_replicate, Q5]
  congr 1
  omega
 rw [e1, e2, e3, List.replicate_append_replicate, show (k + (m : Int)).toNat = k.toNat + m from by omega, show n - (k.toNat + m) = n - k.toNat - m from by omega]
theorem K8 (v : Int) (n : Nat) (h1n : 1 ≤ n) (hn : n ≤ 1048576) : Fun Tryz.prog 117 [.t (T.ints [v]), .t (.int n)] (Ay [.own (T.ints (List.replicate n v))]) := by
  refine Fun.begin tys Tryz.func117 Z Z (N := 48) [(0, .t (T.ints [v])), (1, .t (.int n))] Z Z (fun w0 G F0 => ?_);refine sG (eZ Z (nB (sQ (sG (eK 2 Z (nB ?_))))));refine AC Z (fun h1 => ?_) (fun h1 => ?_)
  ·
    simp only [HS] at h1
    exfalso; first | omega | (simp_all; done) | (simp_all; omega)
  simp only [HS] at h1;refine AD (tN (sG (eZ Z (evE ?_))));refine Ci (td := .int .i64) (k := .u64) Z Z (lt_of Z) Z (by kernel_rfl) (by kernel_rfl) Z (eZ Z (Ci (td := .int .i64) (k := .u64) Z Z (lt_of Z) Z (by kernel_rfl) (by kernel_rfl) Z (AS ?_)));refine ⟨_, Oq v n hn, rfl, ?_⟩;refine kZ [0,4,18] Z (eZ Z (WO_evF tys Z Z (lt_of Z) (d := .t _) Z (nZ Z (WO_evF tys Z Z (lt_of Z) (d := .t _) Z (nZ Z (eK 2 Z (nB (sQ (sG (eZ Z (Nv Z Z (lt_of Z) Z Z Z (WO_le (Le.known (t := 22) false Z (by simp)) ?_))))))))))));refine xK 2 Z (kZ [0,4,6,23,24] Z (gY Z (Nv Z Z (lt_of Z) Z Z Z (WO_le (Le.known (t := 25) false Z (by simp; omega)) ?_))));refine eZ Z (nB (Ao Z (AD (tN (sG (eZ Z (Ci (td := .int .u64) (k := .i64) Z Z (lt_of Z) Z (by kernel_rfl) (by kernel_rfl) Z ?_)))))))
  have hw : (IntKind.i64.wrap (n : Int)).toNat = n := by rw [C0 (by omega) (by omega)]; omega
  refine PN tys (T.int 0) Z Z (lt_of Z) Z Z Z Z Z (by repeat (first | exact AbsL.nil' | refine AbsL.v' ?_ | refine AbsL.none' ?_)) Z (by rw [C0 (by omega) (by omega)]; omega) (by rw [C0 (by omega) (by omega)]; omega) (by decide) ?_;refine WO_le (Le.eqF (u := 30) (d := .sl 30 0 (IntKind.i64.wrap (n : Int)).toNat) (e := .sl 30 0 n) Z (by rw [hw])) ?_
  refine WO_le (Le.eqK (id := 30) Z (k' := .L 1 ((List.replicate n (0 : Int)).map T.int)) (by
   show Blk.L _ (List.replicate (IntKind.i64.wrap (n : Int)).toNat (T.int 0)) = _
   rw [hw, List.map_replicate])) ?_
  refine nZ Z (nZ Z (eZ Z (nA (eK 2 Z (Kn (e := 3) (us := List.replicate n 0) (zs := [v]) Z Z (lt_of Z) Z (by kernel_rfl) (by kernel_rfl) Z Z (by simp) Z (by simp; omega) ?_)))));refine nZ Z (kZ [4,7,33] Z (eZ Z (nB (sQ (AH ?_)))));refine lK (α := Int × List T) [7] [] (fun x => [(8, .t (.int (x.1)))]) (fun x => [(30, .L 1 (x.2))]) (fun x => 1 ≤ (x.1) ∧ (x.1) ≤ n ∧ (x.2) = (List.replicate (x.1).toNat v ++ List.replicate (n - (x.1).toNat) 0).map T.int) (fun x => Int.toNat (n - (x.1))) (1, ([v] ++ (List.replicate n (0 : Int)).drop 1).map T.int) ?_ (fun x hx => ?_)
  · exact ⟨by omega, by omega, by simp⟩
  obtain ⟨k, xs⟩ := x
  obtain ⟨hk0, hk1, hxs⟩ := hx
  dsimp only at hk0 hk1 hxs ⊢;subst hxs;refine nY Z (sQ (sG (eK 2 Z (evE ?_))));refine eZ Z (nB ?_);refine AC Z (fun h2 => ?_) (fun h2 => ?_)
  ·
    simp only [HS] at h2;refine AD (tN (AH ?_))
    obtain ⟨m, hm⟩ : ∃ m, m = Nat.min (k.toNat - (0 : Int).toNat) ((n : Int).toNat - k.toNat) := ⟨_, rfl⟩
    have hm1 : m ≤ k.toNat ∧ m ≤ n - k.toNat := by rw [hm]; exact ⟨Nat.le_trans (Nat.min_le_left ..) (by omega), Nat.le_trans (Nat.min_le_right ..) (by omega)⟩
    have hm2 : 0 < m := by rw [hm]; exact Nat.lt_min.2 ⟨by omega, by omega⟩
    have hul : (List.replicate k.toNat v ++ List.replicate (n - k.toNat) 0).length = n := by rw [Qf, Q5, Q5]; omega
    refine DS [[30], [], [], [], [], [], [], [], [], []] mixed (by kernel_rfl) (QH_G (QG_ev tys Z Z (lt_of Z) Z (QG_nil (Ab (QG_ev tys Z Z (lt_of Z) Z (QG_nil (Ab (QG_ev tys Z Z (lt_of Z) Z (QG_nil (Ab (F5 tys Z Z (lt_of Z) Z Z Z Z Z Z Z Z Z (by omega) (by omega) (by omega) (QG_nil (Ab (QG_ev tys Z Z (lt_of Z) Z (QG_nil ?_)))))))))))))));refine Ab (QG_ev tys Z Z (lt_of Z) Z (QG_nil (Ab (F5 tys Z Z (lt_of Z) Z Z Z Z Z Z Z Z Z (by omega) (by omega) (by omega) (QG_nil (PV (m := m) (us := List.replicate k.toNat v ++ List.replicate (n - k.toNat) 0) (e := 3) Z Z (lt_of Z) Z (by kernel_rfl) (by kernel_rfl) Z Z Z (by rw [hul]; omega) (by rw [hul]; omega) (by rw [hm]) hm2 ?_))))));refine Ab (N6 tys Z Z (lt_of Z) Z (C0 (by omega) (by omega)) (QG_nil (Ab (QG_ev tys Z Z (lt_of Z) Z (QG_nil (QH_nil ?_))))));refine ⟨by kernel_rfl, ?_⟩;refine nZ Z (oN (bN ?_));refine lQ (_, _) ?_ ?_
    · dsimp only
      refine ⟨by omega, by omega, ?_⟩;rw [OY (v := v) hk0 (by omega) hm1 hm2]
    · (show Int.toNat _ < Int.toNat _); omega
  simp only [HS] at h2;refine AW (tE (AN (AO (tN (sG (eK 2 Z (nB (W_le (Le.gather (u := 4) (id := 30) Z Z (by simp; omega)) ?_))))))));refine rT (eR ?_)
  · (rw [show k.toNat = n from by omega, Nat.sub_self, List.replicate_zero, Qu, Qi (by simp)]; rfl)
theorem Mx (a : Int) : Fun Tryz.prog 146 [.t (.int a)] (Ay [.t (.bool false)]) := by
 refine Fun.begin tys Tryz.func146 Z Z (N := 6) [(0, .t (.int a))] Z Z (fun w0 G F0 => ?_);refine sG (eZ Z (nA (eK 4 Z (nB (rT (eR ?_))))))
 ·exact Ax (by simp)
theorem Ox (a b : Int) : Fun Tryz.prog 136 [.t (.int a), .t (.int b)] (Ay [.t (.bool (decide (a < b)))]) := by
 refine Fun.begin tys Tryz.func136 Z Z (N := 17) [(0, .t (.int a)), (1, .t (.int b))] Z Z (fun w0 G F0 => ?_);refine sG (eZ Z (nA (eZ Z (AS ?_))));refine ⟨_, Mx _, rfl, ?_⟩;refine WO_le (Le.known (t := 6) false Z (rfl)) (xK 6 Z (kZ [0,1,4,12] Z (xK 5 Z (nB (rT (eR ?_))))))
 ·exact Ax (by simp_all)
def lo2 (u v : Int) : Int := if v < u then v else u
def hi2 (u v : Int) : Int := if v < u then u else v
theorem O0 (b cap : Nat) (u v : Int) (hcap : 2 ≤ cap) : Proc Tryz.prog 130 [.t (.v (.slice (some ⟨b, 0, none⟩) 2 cap)), .t (.int 0), .t (.int 2)] ([]) ([]) [.raw b (cap * 1) [.int .i64 u, .int .i64 v] [T.int u, T.int v]] (.tup []) [.raw b (cap * 1) [.int .i64 (lo2 u v), .int .i64 (hi2 u v)] [T.int (lo2 u v), T.int (hi2 u v)]] := by
 refine Proc.intro tys Tryz.func130 Z Z (N := 49) [100] 99 ([(0, .t (.v (.slice (some ⟨b, 0, none⟩) 2 cap))), (1, .t (.int 0)), (2, .t (.int 2))]) ([(100, .raw b (cap * 1) [.int .i64 u, .int .i64 v] [T.int u, T.int v]), (99, .ro [] [])]) Z Z Z Z (by decide) (by decide) Z (fun w0 G F0 => ?_);refine nY Z (sG (eZ Z (evI ?_)));refine eZ Z (nB (AH ?_));refine lK (α := Int × Int × Int) [0, 1, 2] [99] (fun x => [(6, .t (.int (x.1)))]) (fun x => [(100, .raw b (cap * 1) [.int .i64 (x.2.1), .int .i64 (x.2.2)] [T.int (x.2.1), T.int (x.2.2)])]) (fun x => ((x.1) = 1 ∧ (x.2.1) = u ∧ (x.2.2) = v) ∨ ((x.1) = 2 ∧ (x.2.1) = lo2 u v ∧ (x.2.2) = hi2 u v)) (fun x => Int.toNat (2 - (x.1))) (1, u, v) ?_ (fun x hx => ?_)
 ·exact .inl ⟨rfl, rfl, rfl⟩
 obtain ⟨i, p, q⟩ := x
 have hi := hx
 dsimp only at hi ⊢;refine nY Z (sQ (sG (eK 3 Z (nB ?_))));refine AC Z (fun h1 => ?_) (fun h1 => ?_)
 ·
  simp only [HS] at h1;refine AD (tN (sQ (AH (sG (eK 2 Z (nB (AH ?_)))))));refine lK (α := Int × Int × Int) [0, 1, 2, 6] [99] (fun x => [(7, .t (.int (x.1)))]) (fun x => [(100, .raw b (cap * 1) [.int .i64 (x.2.1), .int .i64 (x.2.2)] [T.int (x.2.1), T.int (x.2.2)])]) (fun x => ((x.1) = 1 ∧ (x.2.1) = u ∧ (x.2.2) = v) ∨ ((x.1) = 0 ∧ (x.2.1) = v ∧ (x.2.2) = u ∧ v < u)) (fun x => Int.toNat ((x.1))) (i, p, q) ?_ (fun x hx => ?_)
  ·exact .inl ⟨by omega, by omega, by omega⟩
  obtain ⟨j, p2, q2⟩ := x
  have hj := hx
  dsimp only at hj ⊢;refine nY Z (sQ (sQ (AV mixed (by kernel_rfl) (evQ ?_))));refine evQ ?_;refine evQ ?_;refine evQ ?_;refine PS (fun h2 => ?_) (fun h2 => ?_)
  ·
   simp only [HS] at h2;refine Bf Z Z Z Z (lt_of Z) ?_
   have hj1 : j = 1 := by omega
   subst hj1;refine evQ ?_;refine Bf Z Z Z Z (lt_of Z) (evQ ?_);refine AI Z (Bf Z Z Z Z (lt_of Z) (DU tys Z Z (lt_of Z) Z Z Z Z Z Z (by omega) (by omega) (Bf Z Z Z Z (lt_of Z) (FI (id := 100) tys Z Z (lt_of Z) Z Z Z Z Z Z Z (Bf Z Z Z Z (lt_of Z) (evQ ?_))))));refine Bf Z Z Z Z (lt_of Z) (evQ ?_);refine Bf Z Z Z Z (lt_of Z) (Lx ?_);refine Bf Z Z Z Z (lt_of Z) (DU tys Z Z (lt_of Z) Z Z Z Z Z Z (by omega) (by omega) (AI Z (Bf Z Z Z Z (lt_of Z) (FI (id := 100) tys Z Z (lt_of Z) Z Z Z Z Z Z Z (Bf Z Z Z Z (lt_of Z) (Dp ?_))))));refine ⟨_, Ox _ _, rfl, ?_⟩;refine evQ ?_;refine Ak (tN ?_);refine AC Z (fun h3 => ?_) (fun h3 => ?_)
   ·
    simp only [HS] at h3;refine AD (tN (sQ (AH (DS [[], [], [100], [100], [100], [], [], [], [], [], [], [], [], [], [], [], [], []] mixed (by kernel_rfl) (Ab (QG_ev tys Z Z (lt_of Z) Z (QG_nil (Ab (QG_ev tys Z Z (lt_of Z) Z (QG_nil (QH_G (QG_ev tys Z Z (lt_of Z) Z (QG_nil (QH_G (QG_ev tys Z Z (lt_of Z) Z ?_)))))))))))))));refine QG_nil (QH_G (N6 tys Z Z (lt_of Z) Z (C0 (by omega) (by omega)) (QG_nil (Ab (QG_ev tys Z Z (lt_of Z) Z (QG_nil (Ab (QG_ev tys Z Z (lt_of Z) Z (QG_nil (Ab (N6 tys Z Z (lt_of Z) Z (C0 (by omega) (by omega)) (QG_nil (QH_G (Hh tys Z Z (lt_of Z) Z Z Z Z Z Z (by omega) (by omega) (QG_nil ?_)))))))))))))));refine QH_G (Kp (id := 100) tys Z Z (lt_of Z) Z Z Z Z Z Z Z (QG_nil (Ab (QG_ev tys Z Z (lt_of Z) Z (QG_nil (Ab (QG_ev tys Z Z (lt_of Z) Z (QG_nil (QH_G (Hh tys Z Z (lt_of Z) Z Z Z Z Z Z (by omega) (by omega) (QG_nil (QH_G (Kp (id := 100) tys Z Z (lt_of Z) Z Z Z Z Z Z Z (QG_nil (N3 Z ?_)))))))))))))));refine QH_G (Hh tys Z Z (lt_of Z) Z Z Z Z Z Z (by omega) (by omega) (QG_nil (I1 (id := 100) tys 10047 Z Z Z Z Z Z Z Z Z Z Z (QH_G (Hh tys Z Z (lt_of Z) Z Z Z Z Z Z (by omega) (by omega) (QG_nil (I1 (id := 100) tys 10048 Z Z Z Z Z Z Z Z Z Z Z (N3 Z (QH_nil ?_)))))))));refine ⟨by kernel_rfl, ?_⟩;refine nZ Z (oN (bN (tN (rG (eZ Z (evI ?_))))));refine eZ Z (oN ?_);refine lQ (_, _, _) ?_ ?_
    ·dsimp only
     exact .inr ⟨by omega, by omega, by omega, by omega⟩
    ·(show Int.toNat _ < Int.toNat _); omega
   simp only [HS] at h3;refine AW (tE (AN (AO (bN (tN (rG (eZ Z (evI ?_))))))));refine eZ Z (oN ?_);refine lQ (_, _, _) ?_ ?_
   ·dsimp only
    refine .inr ⟨by omega, ?_, ?_⟩
    ·unfold lo2; split <;> omega
    ·unfold hi2; split <;> omega
   ·(show Int.toNat _ < Int.toNat _); omega
  simp only [HS] at h2
  iterate 10 (refine N1 rfl rfl rfl rfl rfl (lt_of rfl) ?_)
  refine evQ ?_;refine Ak (tN (Ao Z (AW (tE (AN (AO (bN (tN (rG (eZ Z (evI ?_)))))))))));refine eZ Z (oN ?_);refine lQ (_, _, _) ?_ ?_
  ·dsimp only
   refine .inr ⟨by omega, ?_, ?_⟩
   ·unfold lo2; split <;> omega
   ·unfold hi2; split <;> omega
  ·(show Int.toNat _ < Int.toNat _); omega
 simp only [HS] at h1;refine AW (tE (AN (AO ?_)));refine eP [_] ?_ ?_
 ·rfl
 ·obtain ⟨h6, h7⟩ : p = lo2 u v ∧ q = hi2 u v := by rcases hi with hi | hi; exact absurd hi.1 (by omega); exact hi.2
  rw [h6, h7]
theorem Og (b cap : Nat) (u v lim : Int) (hcap : 2 ≤ cap) : Proc Tryz.prog 126 [.t (.v (.slice (some ⟨b, 0, none⟩) 2 cap)), .t (.int 0), .t (.int 2), .t (.int lim)] ([]) ([]) [.raw b (cap * 1) [.int .i64 u, .int .i64 v] [T.int u, T.int v]] (.tup []) [.raw b (cap * 1) [.int .i64 (lo2 u v), .int .i64 (hi2 u v)] [T.int (lo2 u v), T.int (hi2 u v)]] := by
 refine Proc.intro tys Tryz.func126 Z Z (N := 134) [100] 99 ([(0, .t (.v (.slice (some ⟨b, 0, none⟩) 2 cap))), (1, .t (.int 0)), (2, .t (.int 2)), (3, .t (.int lim))]) ([(100, .raw b (cap * 1) [.int .i64 u, .int .i64 v] [T.int u, T.int v]), (99, .ro [] [])]) Z Z Z Z (by decide) (by decide) Z (fun w0 G F0 => ?_);refine nY Z (sG (eZ Z (nA (eZ Z (nB (AH ?_))))));refine lK (α := Int) [0, 1, 2, 3] [99, 100] (fun x => []) (fun x => []) (fun x => x = 0) (fun x => Int.toNat (x)) 0 ?_ (fun k hx => ?_)
 ·rfl
 have hk := hx
 refine nY Z (AH (sG (eK 2 Z (evI ?_))));refine eZ Z (nB (sQ (sG (eK 2 Z (WO_le (Le.known (t := 23) true Z (by simp)) ?_)))));refine nB (A5 Z (sG (eK 3 Z (kZ [0,1,2,3,10,19,20,21,22,23,24,25,26] Z ?_))));refine cP [100] (hm := (O0 b cap u v hcap)) (k := ?_);refine nZ Z (nB (rT (tR (bR (AP (bR ?_))))));refine eP [_] ?_ ?_
 ·rfl
 ·rfl
theorem ME (b cap : Nat) (u v : Int) (hcap : 2 ≤ cap) : Proc Tryz.prog 123 [.t (.v (.slice (some ⟨b, 0, none⟩) 2 cap))] ([]) ([]) [.raw b (cap * 1) [.int .i64 u, .int .i64 v] [T.int u, T.int v]] (.tup []) [.raw b (cap * 1) [.int .i64 (lo2 u v), .int .i64 (hi2 u v)] [T.int (lo2 u v), T.int (hi2 u v)]] := by
 refine Proc.intro tys Tryz.func123 Z Z (N := 11) [100] 99 ([(0, .t (.v (.slice (some ⟨b, 0, none⟩) 2 cap)))]) ([(100, .raw b (cap * 1) [.int .i64 u, .int .i64 v] [T.int u, T.int v]), (99, .ro [] [])]) Z Z Z Z (by decide) (by decide) Z (fun w0 G F0 => ?_);refine nY Z (sG (eZ Z (Br Z Z (lt_of Z) Z ⟨3, by kernel_rfl⟩ rfl (eZ Z (nB (rG (eK 3 Z (Ci (td := .int .i64) (k := .u64) Z Z (lt_of Z) Z (by kernel_rfl) (by kernel_rfl) Z (AS ?_)))))))));refine ⟨_, P9, rfl, ?_⟩;refine cP [100] (hm := (Og b cap u v 2 hcap)) (k := ?_);refine nZ Z (kZ [] Z (oN ?_));refine eP [_] ?_ ?_
 ·rfl
 ·rfl
def cu2 (u v : Int) : List Int := if u = v then [u] else [u, v]
theorem NP (b cap : Nat) (u v : Int) (hcap : 2 ≤ cap) : Proc Tryz.prog 124 [.t (.v (.slice (some ⟨b, 0, none⟩) 2 cap))] ([]) ([]) [.raw b (cap * 1) [.int .i64 u, .int .i64 v] [T.int u, T.int v]] (.t (.v (.slice (some ⟨b, 0, none⟩) (cu2 u v).length cap))) [.raw b (cap * 1) ((cu2 u v).map (Value.int .i64)) ((cu2 u v).map T.int)] := by
  refine Proc.intro tys Tryz.func124 Z Z (N := 61) [100] 99 ([(0, .t (.v (.slice (some ⟨b, 0, none⟩) 2 cap)))]) ([(100, .raw b (cap * 1) [.int .i64 u, .int .i64 v] [T.int u, T.int v]), (99, .ro [] [])]) Z Z Z Z (by decide) (by decide) Z (fun w0 G F0 => ?_);refine nY Z (sG (eZ Z (nB (sQ (sG (eZ Z (Br Z Z (lt_of Z) Z ⟨3, by kernel_rfl⟩ rfl (eZ Z (WO_le (Le.known (t := 8) false Z (by simp)) ?_)))))))));refine nB (Ao Z (AD (tN (sQ (sG (eZ Z (nB (AH ?_))))))));refine lK (α := Int) [0] [99, 100] (fun x => [(3, .t (.int x))]) (fun x => []) (fun x => x = 1 ∨ (x = 2 ∧ u ≠ v)) (fun x => Int.toNat (2 - x)) 1 ?_ (fun k hx => ?_)
  · exact .inl rfl
  have hk := hx
  refine nY Z (sQ (sG (eK 2 Z (Br Z Z (lt_of Z) Z ⟨3, by kernel_rfl⟩ rfl (eZ Z (nB ?_))))));refine AC Z (fun h1 => ?_) (fun h1 => ?_)
  ·
    simp only [HS] at h1;refine AD (tN (sQ (AH (sQ ?_))))
    have hk1 : k = 1 := by omega
    subst hk1;refine AV mixed (by kernel_rfl) (evQ ?_);refine evQ ?_;refine AI Z (DU tys Z Z (lt_of Z) Z Z Z Z Z Z (by omega) (by omega) (FI (id := 100) tys Z Z (lt_of Z) Z Z Z Z Z Z Z (evQ ?_)));refine evQ ?_;refine Lx ?_;refine DU tys Z Z (lt_of Z) Z Z Z Z Z Z (by omega) (by omega) (AI Z (FI (id := 100) tys Z Z (lt_of Z) Z Z Z Z Z Z Z (evQ ?_)));refine Ak (tN ?_);refine AC Z (fun h2 => ?_) (fun h2 => ?_)
    ·
      simp only [HS] at h2;refine sG (eK 2 Z (EY tys Z Z (lt_of Z) Z Z Z Z Z Z Z Z (by omega) (by omega) (by omega) (by omega) (eZ Z (nB (sQ (sG (eZ Z (nB (AH ?_)))))))));refine lK (α := Int) [0, 3, 4] [99, 100] (fun x => [(5, .t (.int x))]) (fun x => []) (fun x => x = 1) (fun x => Int.toNat (2 - x)) 1 ?_ (fun j hx => ?_)
      · rfl
      have hj := hx
      refine nY Z (sQ (sG (eK 2 Z (Br Z Z (lt_of Z) Z ⟨3, by kernel_rfl⟩ rfl (eZ Z (WO_le (Le.known (t := 32) false Z (by subst hj; decide)) ?_))))));refine nB (Ao Z (AW (tE (AN (AO (tN (sG (eK 2 Z (EY tys Z Z (lt_of Z) Z Z Z Z Z Z Z Z (by omega) (by omega) (by omega) (by omega) (nZ Z (WO_le (Le.rawCut (id := 100) 1 Z) (nZ Z (Nw tys (t := 56) (id := 100) (off := 1) (m := 1) Z (.inr Z) (lt_of Z) Z Z Z Z Z Z Z Z Z (by simp) (by omega) ?_)))))))))))));refine nZ Z (nB (sQ (kY [0,3,4,5,29,30,31,32,54,55,56] Z (rG (eK 2 Z (EY tys Z Z (lt_of Z) Z Z Z Z Z Z Z Z (by omega) (by omega) (by omega) (by omega) (eZ Z (nB (rT (bR (tR (AP (bR (tR ?_))))))))))))));refine eP [_] ?_ ?_
      · first
        | (have h6 : cu2 u v = [u] := (by unfold cu2; rw [if_pos (by omega)])
           rw [h6]; simp [OA, Ay])
      · first
        | (have h6 : cu2 u v = [u] := (by unfold cu2; rw [if_pos (by omega)])
           rw [h6]; rfl)
    simp only [HS] at h2;refine AD (bN (tN (rG (eZ Z (evI ?_)))));refine eZ Z (oN ?_);refine lQ _ ?_ ?_
    · skip
      exact .inr ⟨by omega, fun e => by omega⟩
    · (show Int.toNat _ < Int.toNat _); omega
  simp only [HS] at h1;refine AW (tE (AN (AO (tN (sG (eK 2 Z (nB (rT ?_))))))));refine eP [_] ?_ ?_
  · first
    | (have h6 : cu2 u v = [u, v] := (by unfold cu2; rw [if_neg (by omega)])
       rw [h6]; rfl)
  · first
    | (have h6 : cu2 u v = [u, v] := (by unfold cu2; rw [if_neg (by omega)])
       rw [h6]; rfl)
open Go.Eng
theorem QP (u v : Int) : (cu2 u v).length ≤ 2 := by unfold cu2; split <;> simp
theorem PC (a n : Int) : cu2 (lo2 a n) (hi2 a n) = if a < n then [a, n] else if a = n then [a] else [n, a] := by
 grind [cu2, lo2, hi2]
theorem NE (l : List Int) : (l.map T.int).flatMap T.cells = l.map T.int := by
 induction l with
 | nil => rfl
 | cons a l ih => rw [RA, Q2, ih]; rfl
theorem GQ (i : Ins) (k : Int) (hk : 0 ≤ k ∧ k ≤ 1048576) : Fun Tryz.prog 115 [.t i.tt, .t (.int k)] (Ay [.t (T.ints (Af i k))]) := by
  refine Fun.begin tys Tryz.func115 Z Z (N := 32) [(0, .t i.tt), (1, .t (.int k))] Z Z (fun w0 G F0 => ?_);refine sG (AZ Z Z (lt_of Z) Z Z (nZ Z (eZ Z (nB (sQ (sG (eK 2 Z (nB (AH (sG (eK 2 Z (nB ?_))))))))))));refine AC Z (fun h1 => ?_) (fun h1 => ?_)
  ·
    simp only [HS] at h1;refine sG (eK 2 Z ?_);refine Cy tys [_] Z Z (lt_of Z) Z Z Z Z Z (by decide) (by repeat (first | exact PartsF.nil' | refine PartsF.cons' rfl Z ?_)) Z ?_;refine nZ Z (kZ [1,4,12] Z (eZ Z (nB ?_)))
    try (refine W_le (Le.nilT (u := 4) 1 rfl) ?_; refine W_norm rfl ?_)
    refine rT (bR (tR (eR ?_)))
    · first
      | exact Cn (a := [i.n]) (by rw [Af, if_pos (by assumption)])
  simp only [HS] at h1;refine sG (eK 2 Z (nB ?_));refine AC Z (fun h2 => ?_) (fun h2 => ?_)
  ·
    simp only [HS] at h2;refine sQ (kY [1,2,4] Z (rG (eZ Z (evI ?_))));refine eK 2 Z (bZ [T.int (k + 1), T.int i.n] ?_);refine nZ Z (eZ Z (nA (nZ Z (WO_le (Le.gather (u := 5) (id := 19) Z Z (by simp)) ?_))));refine nZ Z ?_;refine Ev (u := 5) 105 Z (fun v5 => ?_);refine nZ Z ?_;refine Gf (id := 105) (j := 0) (id2 := 100) (n := 1) (u := v5) (xs := [T.int (k + 1), T.int i.n]) Z Z Z Z Z (fun e ad b cap ws hu hb he hlc hcm hcn => ?_)
    have he0 : e = false := by cases e with | false => rfl | true => exact absurd (he rfl) (by simp)
    subst he0
    obtain rfl : ad = some ⟨b, 0, none⟩ := hb rfl
    subst hu
    have hcap : 2 ≤ cap := hlc
    refine nZ Z ?_;refine Nq 100 Z Z (fun hwl => ?_)
    obtain ⟨w0', w1', rfl⟩ : ∃ w0' w1', ws = [w0', w1'] := by
     match ws, hwl with
     | [w0', w1'], _ => exact ⟨_, _, rfl⟩
    refine Np 100 0 Z Z (x := .int .i64 (k + 1)) Z Z (fun hw0 => ?_);refine Np 100 1 Z Z (x := .int .i64 i.n) Z Z (fun hw1 => ?_);subst hw0 hw1;refine WO_le (Le.roNil 99) (nZ Z (eZ Z ?_));refine cP [100] (hm := (ME b cap (k + 1) i.n hcap)) (k := ?_);refine nZ Z (nB (sQ (kY [1,4,5] Z (rG (eZ Z ?_)))));refine cP [100] (hm := (NP b cap (lo2 (k + 1) i.n) (hi2 (k + 1) i.n) hcap)) (k := ?_);refine nZ Z (eZ Z (nZ Z (WO_le (Le.eqK (id := 100) Z (k' := .raw b (cap * 1) ((cu2 (lo2 (k + 1) i.n) (hi2 (k + 1) i.n)).map (Value.int .i64)) (((cu2 (lo2 (k + 1) i.n) (hi2 (k + 1) i.n)).map T.int).flatMap T.cells)) (by rw [NE])) ?_)));refine nZ Z ?_
    have hcl := QP (lo2 (k + 1) i.n) (hi2 (k + 1) i.n)
    refine WO_le (Le.rawListO (id := 100) (n := 1) (cap := cap) (ys := (cu2 (lo2 (k + 1) i.n) (hi2 (k + 1) i.n)).map T.int) 1100 rfl rfl rfl rfl (by intro y hy; obtain ⟨z, _, rfl⟩ := RB.1 hy; rfl) (by rw [Qc]; omega) hcm) ?_;refine nZ Z (WO_le (Le.namedS (t := 4) 1100 Z Z (by omega)) (nZ Z (WO_le (Le.gather (u := 4) (id := 100) Z Z (by simp)) ?_)));refine nZ Z (WO_le (Le.freeze (u := 4) Z) (nZ Z (nB ?_)))
    try (refine W_le (Le.nilT (u := 4) 1 rfl) ?_; refine W_norm rfl ?_)
    refine rT (bR (tR (eR ?_)))
    · first
      | (rw [Qi (by simp)]; exact Cn (a := cu2 (lo2 (k + 1) i.n) (hi2 (k + 1) i.n)) (by rw [PC]; unfold Af; rw [if_neg h1, if_pos h2]))
  simp only [HS] at h2;refine sQ (sQ (kY [1,4,7] Z (rG (eK 2 Z (nB ?_)))));refine CC (α := Bool) [1, 4] [2] (fun x => [(24, .t (.bool x))]) (fun x => []) (fun x => x = decide (i.op = 13 ∨ i.op = 14 ∨ i.op = 16 ∨ i.op = 18)) ?_ (fun b hx => ?_)
  ·
    refine AC Z (fun h3 => ?_) (fun h3 => ?_)
    ·
      simp only [HS] at h3;refine AD (jQ _ ?_)
      grind
    simp only [HS] at h3;refine sG (eK 2 Z (nB ?_));refine AC Z (fun h4 => ?_) (fun h4 => ?_)
    ·
      simp only [HS] at h4;refine AD (jQ _ ?_)
      grind
    simp only [HS] at h4;refine sG (eK 2 Z (nB ?_));refine AC Z (fun h5 => ?_) (fun h5 => ?_)
    ·
      simp only [HS] at h5;refine AD (jQ _ ?_)
      grind
    simp only [HS] at h5;refine rG (eK 2 Z (oN (jQ _ ?_)))
    grind
  have hb := hx
  refine tN ?_;refine AC Z (fun h3 => ?_) (fun h3 => ?_)
  ·
    refine sQ (kY [1,4] Z (rG (eZ Z (nB ?_))))
    try (refine W_le (Le.nilT (u := 4) 1 rfl) ?_; refine W_norm rfl ?_)
    refine rT (bR (tR (eR ?_)))
    · first
      | exact Cn (a := []) (by grind [Af])
  refine AD (bN (tN (sQ (kY [1,4] Z (rG (eZ Z (evI ?_)))))));refine Cy tys [_] Z Z (lt_of Z) Z Z Z Z Z (by decide) (by repeat (first | exact PartsF.nil' | refine PartsF.cons' rfl Z ?_)) Z ?_;refine nZ Z (eZ Z (nB ?_))
  try (refine W_le (Le.nilT (u := 4) 1 rfl) ?_; refine W_norm rfl ?_)
  refine rT (eR ?_)
  · first
    | exact Cn (a := [k + 1]) (by grind [Af])
theorem Ji (n : Int) (l : List Ins) (hl : l.length ≤ 1048576) : Fun Tryz.prog 116 [.t (.int n), .rp (.agg [T.Inss l]) 0] (Ay [.t (.bool (!decide (n < l.length)))]) := by
 refine Fun.begin tys Tryz.func116 Z Z (N := 8) [(0, .t (.int n)), (1, .rp (.agg [T.Inss l]) 0)] Z Z (fun w0 G F0 => ?_);refine sG (eZ Z (nA (eK 2 Z (evE ?_))));refine eK 2 Z (nB (rT (eR ?_)))
 ·exact Ax (by grind)
theorem LW (c : Code) (hcl : c.ins.length ≤ 1048576) : Fun Tryz.prog 97 [.t (T.Inss c.ins)] (Ay [.t (.bool (EN c))]) := by
 refine Fun.begin tys Tryz.func97 Z Z (N := 18) [(0, .t (T.Inss c.ins))] Z Z (fun w0 G F0 => ?_);refine sG (AZ Z Z (lt_of Z) Z Z (nZ Z (eZ Z (nB (sQ (sG (eZ Z (evE ?_))))))));refine eZ Z (nB (AH ?_));refine lK (α := Int) [1, 5, 6] [1] (fun x => [(7, .t (.int x))]) (fun x => []) (fun x => 0 ≤ x ∧ x ≤ c.ins.length ∧ EN c = goesGo c.ins.length (c.ins.drop x.toNat) x) (fun x => Int.toNat (c.ins.length - x)) 0 ?_ (fun k hx => ?_)
 ·exact ⟨by omega, by omega, rfl⟩
 obtain ⟨hk0, hk1, hk2⟩ := hx
 refine nY Z (sG (eZ Z (nB (sQ ?_))));refine AC Z (fun h1 => ?_) (fun h1 => ?_)
 ·
  simp only [HS] at h1;refine AD (tN (sQ (AH (sG (eZ Z ?_)))));refine iY (k := ?_);refine eZ Z ?_
  try refine WO_le (Le.freeze (u := 11) rfl) ?_
  refine nZ Z (AY tys Z Z (lt_of Z) Z Z Z (nZ Z (eZ Z (sT Z (nZ Z (nB (sQ (kY [1,3,4,5,6,7,8,9,10,11] Z (rG (eZ Z ?_))))))))))
  try refine WO_le (Le.freeze (u := 12) rfl) ?_
  refine nZ Z (eZ Z (Dg Z Z (lt_of Z) Z Z Z Z Z (GQ _ _ (by omega)) Z (eZ Z (AS ?_))));refine ⟨_, HO (Af (c.ins[k.toNat]'(by omega)) k) (fun n => !decide (n < (c.ins.length : Int))) _ [.rp (.agg [T.Inss c.ins]) 0] Z (by have := EG (c.ins[k.toNat]'(by omega)) k; omega) (fun n _ => Ji n c.ins hcl), rfl, ?_⟩;refine nB ?_;refine AC Z (fun h2 => ?_) (fun h2 => ?_)
  ·
   refine sG (eZ Z (nB (rT (bR (tR (AP (bR (tR (eR ?_)))))))))
   ·first
    | exact Ax (by rw [DB, Q3] at h2; rw [hk2, drop_at hk0 (by omega), goesGo, h2]; rfl)
  refine AD (bN (tN (rG (evI ?_))));refine eZ Z (oN ?_);refine lQ _ ?_ ?_
  ·skip
   refine ⟨by omega, by omega, ?_⟩;rw [DB, Bool.not_eq_eq_eq_not, Bool.not_false] at h2;rw [hk2, drop_at hk0 (by omega), goesGo, h2, Bool.true_and]
  ·(show Int.toNat _ < Int.toNat _); omega
 simp only [HS] at h1;refine AW (tE (AN (AO (tN (sG (eZ Z (nB (rT (eR ?_)))))))))
 ·first
  | exact Ax (by rw [hk2, AX (by omega)]; rfl)
open Go.Eng
def Mf (xs : List T) : Nat := xs.countP fun t => match t with
 | .v (.int _ v) => decide (v < 0)
 | _ => false
theorem IH (hs : List Int) : Mf (hs.map T.int) = negs hs := by
 rw [Mf, List.countP_map]; rfl
section
variable {x : Image} {c : Code} {hs l done : List Int} {m N b : Nat} {k k0 n v hi : Int}
def popX (x : Image) (c : Code) (xs ms : List T) (m : Nat) : Prop := ∃ hs l : List Int, xs = hs.map T.int ∧ ms = l.map T.int ∧ m ≤ l.length ∧ m + negs hs ≤ c.ins.length ∧ FW x c hs (l.take m)
def Oe (x : Image) (c : Code) (xs ms : List T) (m b : Nat) (k0 hi : Int) (done : List Int) : Prop := ∃ hs l : List Int, xs = hs.map T.int ∧ ms = l.map T.int ∧ m ≤ l.length ∧ (m + negs hs < c.ins.length ∧ m + 2 * negs hs < b) ∧ LH x c hs (l.take m) k0 done ∧ hi = atI hs k0 - tkX x (Ac c k0) + ptX (Ac c k0)
theorem MY (h1 : 0 < m) (h2 : m ≤ l.length) (hm : m + negs hs ≤ c.ins.length) (h : FW x c hs (l.take m)) {m' : Nat} (hm' : m' = m - 1) (hk : k0 = l[m - 1]'(by omega)) (ht : tkX x (Ac c k0) ≤ atI hs k0) (hh : hi = atI hs k0 - tkX x (Ac c k0) + ptX (Ac c k0)) (hb : b = m + 2 * negs hs) :
  Oe x c (hs.map T.int) (l.map T.int) m' b k0 hi [] := by
 subst hm'
 have e : l.take m = l.take (m - 1) ++ [k0] := by
  rw [hk, List.take_append_getElem]
  congr 1
  omega
 rw [e] at h;refine ⟨hs, l, rfl, rfl, by omega, ⟨by omega, by omega⟩, G8 h (by simp) (fun j hj => by simp [hj]) (fun j hj => ?_) ht, hh⟩
 rcases Qg.1 hj with hj | hj
 ·exact .inr hj
 ·exact .inl (Qw.1 hj)
theorem H8 (h0 : m ≤ l.length) (hm : m + negs hs < c.ins.length ∧ m + 2 * negs hs < b) (h : LH x c hs (l.take m) k0 done) (hh : hi = atI hs k0 - tkX x (Ac c k0) + ptX (Ac c k0)) (hn : ¬ atI hs n < 0) (hs' : ¬ (0 ≤ atI hs n ∧ ¬ atI hs n = hi)) :
  Oe x c (hs.map T.int) (l.map T.int) m b k0 hi (done ++ [n]) :=
 ⟨hs, l, rfl, rfl, h0, hm, KM h (by omega), hh⟩
theorem KD (hR : RdyX x c) (h0 : m ≤ l.length) (hm : m + negs hs < c.ins.length ∧ m + 2 * negs hs < b) (h : LH x c hs (l.take m) k0 done) (hh : hi = atI hs k0 - tkX x (Ac c k0) + ptX (Ac c k0)) (hnx : n ∈ Af (Ac c k0) k0) (hn0 : 0 ≤ n) (hn1 : n < hs.length) (hn : atI hs n < 0) (h40 : hi ≤ 40)
  {xs ms : List T} (e1 : xs = (hs.map T.int).set n.toNat (T.int hi)) (e2 : ms = (l.map T.int).take m ++ [T.int n]) {m3 : Nat} (e3 : m3 = m + 1) : Oe x c xs ms m3 b k0 hi (done ++ [n]) := by
 have hk := h.2.2.2.2.2.1
 have hv : 0 ≤ hi := by have := EB (Ac c k0); omega
 have hne : k0 ≠ n := fun e => by rw [← e] at hn; omega
 have hng := E9 (l := hs) (v := hi) hn0 hn1 hn hv
 subst e3;refine ⟨hs.set n.toNat hi, l.take m ++ [n], by rw [e1, RR], by rw [e2]; simp [List.map_take], by simp; omega, ⟨by omega, by omega⟩, ?_, ?_⟩
 ·have := Mm h hnx hn0 hn1 hn (EB _) (by omega) hh (fun r hr => (hR.pads r hr).1)
  rw [Qi (by simp; omega)];exact this
 ·rw [Fx hn0 hn1 hk.1, if_neg hne]; exact hh
theorem P0 (h1 : 0 < m) (h2 : m ≤ l.length) : l[m - 1]'(by omega) ∈ l.take m := by
 rw [List.mem_take_iff_getElem];exact ⟨m - 1, by omega, rfl⟩
end
theorem HM (im : Image) (c : Code) (hR : RdyX im c) : Fun Tryz.prog 99 [.t im.tt, .t c.tt] (Ay [.own (T.ints ((heiX im c).getD [])), .t (.bool (heiX im c).isSome)]) := by
 have hxl := hR.xl
 have hn1 := hR.n1
 have hn2 := hR.n2
 have hrl := hR.rl
 refine Fun.begin tys Tryz.func99 Z Z (N := 126) [(0, .t im.tt), (1, .t c.tt)] Z Z (fun w0 G F0 => ?_);refine sG (AZ Z Z (lt_of Z) Z Z (nZ Z (AZ Z Z (lt_of Z) Z Z (nZ Z (eK 2 Z (nA ?_))))));refine Cy tys [T.int (-1)] Z Z (lt_of Z) Z Z Z Z Z (by decide) (by repeat (first | exact PartsF.nil' | refine PartsF.cons' rfl Z ?_)) Z ?_;refine nZ Z (eK 2 Z (evE ?_));refine AS ?_;refine ⟨_, K8 (-1) c.ins.length hn1 (by omega), rfl, ?_⟩;refine WO_le (Le.adoptE (u := 20) 20 Z (by first | exact lenN | exact Z)) ?_;refine nZ Z (kZ [2,3,4,5,20] Z (eZ Z (nA (bZ [T.int 0] ?_))));refine nZ Z (eZ Z (nA ?_))
 have hll : ((List.replicate c.ins.length (-1 : Int)).map T.int).length = c.ins.length := by simp
 refine WO_le (Le.eqF (u := 6) (d := .sl 20 0 (List.replicate c.ins.length (-1 : Int)).length) (e := .sl 20 0 c.ins.length) Z (by rw [Q5])) ?_;refine nZ Z (eZ Z (AR tys Z Z (lt_of Z) Z Z Z Z Z Z Z Z (by omega) (by omega) ?_));refine Al tys (T.int 0) Z Z Z Z Z Z (Qv _) (by omega) Z (by repeat (first | exact AbsL.nil' | refine AbsL.v' ?_ | refine AbsL.own' ?_)) Z Z Z ?_;refine nZ Z (nZ Z (nB (sQ (sG (eK 2 Z (evE ?_))))));refine kZ [2,3,4,5,6,7,25,26] Z (eZ Z (nB (AH ?_)));refine lK (α := Int × Nat × List T × List T) [2, 3, 6, 25, 26] [2, 3] (fun x => [(27, .t (.int (x.1))), (7, .sl 21 0 (x.2.1))]) (fun x => [(20, .L 1 (x.2.2.1)), (21, .L 1 (x.2.2.2))]) (fun x => 0 ≤ (x.1) ∧ (x.1) ≤ c.rows.length ∧ (x.2.1) = (x.2.2.2).length ∧ ∃ hs met : List Int, (x.2.2.1) = hs.map T.int ∧ (x.2.2.2) = met.map T.int ∧ Ly c hs met (x.1).toNat) (fun x => Int.toNat (c.rows.length - (x.1))) (0, 1, ((List.replicate c.ins.length (-1 : Int)).map T.int).set 0 (T.int 0), [T.int 0]) ?_ (fun x hx => ?_)
 ·exact ⟨by omega, by omega, rfl, _, _, by rw [← RR], rfl, Ga hn1⟩
 obtain ⟨k, m, xs, ms⟩ := x
 obtain ⟨hk0, hk1, hm, hs, met, hxs, hms, hb⟩ := hx
 dsimp only at hk0 hk1 hm hs hxs hms hb ⊢;subst hxs hms hm;refine nY Z (sG (eZ Z (nB (sQ ?_))));refine AC Z (fun h1 => ?_) (fun h1 => ?_)
 ·
  simp only [HS] at h1;refine AD (tN (sQ (AH (sG ?_))))
  have hrm := Qq (l := c.rows) (n := k.toNat) (by omega)
  have hpd := hR.pads _ hrm
  have hsl := hb.1
  have hml : (met.map T.int).length = met.length := Qc _
  have hmn := hb.2.2.2.2.2.2
  have eP : atI hs (c.rows[k.toNat]'(by omega)).pad = hs[(c.rows[k.toNat]'(by omega)).pad.toNat]'(by omega) := BV hpd.1 (by omega)
  refine iY (k := ?_);refine eZ Z ?_
  try refine WO_le (Le.freeze (u := 30) rfl) ?_
  refine nZ Z (AY tys Z Z (lt_of Z) Z Z Z (nZ Z (sT Z (nZ Z (nA (eK 3 Z (AR tys Z Z (lt_of Z) Z Z Z Z Z Z Z Z (by omega) (by omega) (kZ [2,3,6,7,9,25,26,27,28,29,30,31,32,33,34] Z (AG tys Z Z (lt_of Z) Z Z Z Z (BN _ _ (by omega) (by omega)) Z (eZ Z (nB ?_)))))))))));refine AC Z (fun h2 => ?_) (fun h2 => ?_)
  ·
   simp only [HS] at h2;refine sG (eK 3 Z (AR tys Z Z (lt_of Z) Z Z Z Z Z Z Z Z (by omega) (by omega) ?_));refine Al tys (T.int 0) Z Z Z Z Z Z (Qv _) (by rw [Qc]; omega) Z (by repeat (first | exact AbsL.nil' | refine AbsL.v' ?_ | refine AbsL.own' ?_)) Z Z Z ?_;refine nZ Z (nZ Z (nB (kY [2,3,6,7,9,25,26,27,28,29,30,31,32,33,34,35,36,37,38,39,40] Z (rG (eK 3 Z (bZ [T.int (c.rows[k.toNat]'(by omega)).pad] ?_))))));refine nZ Z (Am tys Z Z (lt_of Z) Z Z Z Z Z (.own Z (by first | omega | (simp only [Qf]; omega))) Z (.own Z (by first | decide | omega)) (by decide) (by simp; omega) (by decide) Z ?_);refine nZ Z (eZ Z (oN (bN (tN (rG (evI ?_))))));refine eZ Z (oN ?_);refine lQ (_, _, _, _) ?_ ?_
   ·dsimp only
    first
    | exact ⟨by omega, by omega, by simp, Nc hb hk0 (by omega) hpd.1 hpd.2 (by rw [eP]; assumption) rfl (by simp only [RO])⟩
   ·(show Int.toNat _ < Int.toNat _); omega
  simp only [HS] at h2;refine AD (bN (tN (rG (evI ?_))));refine eZ Z (oN ?_);refine lQ (_, _, _, _) ?_ ?_
  ·dsimp only
   first
   | exact ⟨by omega, by omega, rfl, hs, met, rfl, rfl, Ir hb hk0 (by omega) hpd.1 hpd.2 (by rw [eP]; omega)⟩
  ·(show Int.toNat _ < Int.toNat _); omega
 simp only [HS] at h1;refine AW (tE (AN (AO (tN (sQ (AH ?_))))));refine lK (α := Nat × List T × List T) [2, 3, 6] [2, 3] (fun x => [(7, .sl 21 0 (x.1))]) (fun x => [(20, .L 1 (x.2.1)), (21, .L 1 (x.2.2))]) (fun x => popX im c (x.2.1) (x.2.2) (x.1)) (fun x => Int.toNat ((((x.1) + 2 * Mf (x.2.1) : Nat) : Int))) ((met.map T.int).length, hs.map T.int, met.map T.int) ?_ (fun x hx => ?_)
 ·have hme := hb.2.2.2.2.2.2
  exact ⟨hs, met, rfl, rfl, by rw [Qc]; exact Q0 _, by rw [Qc]; omega, by rw [Qc, RO]; exact It (by rw [show k.toNat = c.rows.length from by omega] at hb; exact hb)⟩
 obtain ⟨m, xs, ms⟩ := x
 obtain ⟨hs, l, hxs, hms, hml, hmn, hpa⟩ := hx
 dsimp only at hs hxs hms hml hmn hpa ⊢;subst hxs hms;refine nY Z (sQ (sG (eZ Z (evE ?_))));refine eZ Z (nB ?_);refine AC Z (fun h2 => ?_) (fun h2 => ?_)
 ·
  simp only [HS] at h2;refine AD (tN (AH (sG (eK 2 Z (evE ?_)))));refine evI ?_
  have hll2 : (l.map T.int).length = l.length := Qc _
  have hkm : ((m : Int) - 1).toNat < l.length := by omega
  have hKq : l[((m : Int) - 1).toNat]'hkm = l[m - 1]'(by omega) := by congr 1; omega
  have hop : l[((m : Int) - 1).toNat]'hkm ∈ l.take m := by rw [hKq]; exact P0 (by omega) hml
  obtain ⟨hq0, hq1, hq2⟩ := hpa.2.2.2.1 _ hop
  have hsl : hs.length = c.ins.length := hpa.1.1
  have hqi : (l[((m : Int) - 1).toNat]'hkm).toNat < c.ins.length := by omega
  have hqs : (l[((m : Int) - 1).toNat]'hkm).toNat < hs.length := by omega
  have hIn := Qq hqi
  have hrng := hpa.1.2 _ (Qq hqs)
  have htk := hR.tk hIn
  have hpt := EB (c.ins[(l[((m : Int) - 1).toNat]'hkm).toNat]'hqi)
  have hpt2 := MX (c.ins[(l[((m : Int) - 1).toNat]'hkm).toNat]'hqi)
  have eA : atI hs (l[((m : Int) - 1).toNat]'hkm) = hs[(l[((m : Int) - 1).toNat]'hkm).toNat]'hqs := BV hq0 (by omega)
  have eI : Ac c (l[((m : Int) - 1).toNat]'hkm) = c.ins[(l[((m : Int) - 1).toNat]'hkm).toNat]'hqi := BK hq0 (by omega)
  have hnx2 : (Af (c.ins[(l[((m : Int) - 1).toNat]'hkm).toNat]'hqi) (l[((m : Int) - 1).toNat]'hkm)).length ≤ 2 := EG _ _
  generalize hKe : l[((m : Int) - 1).toNat]'hkm = K at *;refine AR tys Z Z (lt_of Z) Z Z Z Z Z Z Z Z (by omega) (by omega) (AG tys Z Z (lt_of Z) Z Z Z Z (BN _ _ (by omega) (by omega)) Z (kZ [2,3,6,7,47,48,49,50,51,52,53,54,55] Z (eZ Z (nA (eK 2 Z (evE ?_))))));refine evI ?_;refine Cv tys Z Z (lt_of Z) Z Z Z Z Z Z Z Z Z (by omega) (by omega) (by omega) (eZ Z (nB (sQ ?_)));rw [hKe];refine kY [2,3,6,7,10,47,48,49,50,51,52,53,54,55,56,57,58,59,60] Z (AV mixed (by kernel_rfl) (Ko tys Z Z (lt_of Z) Z Z (evQ ?_)));refine evQ ?_;refine evQ ?_;refine Ai tys Z Z (lt_of Z) Z Z Z Z Z Z Z (by omega) _ (BT _ _ (by omega) (by omega)) (evQ ?_);refine AI Z ?_;generalize hIe : c.ins[K.toNat]'hqi = I at *;refine Dp ?_;refine ⟨_, Gl im _ (by omega) (hR.call _ hIn), rfl, ?_⟩;refine evQ ?_;refine evQ ?_;refine evQ ?_;refine evQ ?_;refine evQ ?_;refine AI Z (Ak (tN (sG (eK 2 Z (AR tys Z Z (lt_of Z) Z Z Z Z Z Z Z Z (by omega) (by omega) (AG tys Z Z (lt_of Z) Z Z Z Z (BN _ _ (by omega) (by omega)) Z (eZ Z ?_)))))));generalize hHe : hs[K.toNat]'hqs = HV at *;refine evI ?_;refine eZ Z (nB (sQ (sQ (kY [2,3,6,7,10,11,12,13,47,48,49,50,51,52,53,54,55,56,57,58,59,60,61,62,63,64,65,66,67,68,69,70,71,72,73,74,75,76] Z (rG (eK 2 Z (nB ?_)))))));refine AC Z (fun h3 => ?_) (fun h3 => ?_)
  ·
   simp only [HS] at h3;refine sG (eK 2 Z (nB (W_le (Le.nilOwn (u := 4) 1 Z) (rT (tR (bR (AP (bR (tR (eR ?_))))))))))
   ·first
    | exact Pu (J8 hpa hop (by rw [eA, eI]; omega))
  simp only [HS] at h3;refine AD (tN (sG (eK 2 Z (evI ?_))));refine eZ Z (nA (eK 3 Z (kZ [2,3,6,7,10,11,12,13,47,48,49,50,51,52,53,54,55,56,57,58,59,60,61,62,63,64,65,66,67,68,69,70,71,72,73,74,75,76,77,78,79,80,81,82,83,84] Z ?_)));refine iY (k := ?_);refine eZ Z ?_
  try refine WO_le (Le.freeze (u := 86) rfl) ?_
  refine nZ Z (eZ Z ?_);rw [hIe];refine Dg Z Z (lt_of Z) Z Z Z Z Z (GQ _ _ (by omega)) Z (evE ?_);refine eZ Z (nB (AH ?_));refine lK (α := Int × Nat × List T × List T) [2, 3, 6, 13, 88, 89] [2, 3] (fun x => [(90, .t (.int (x.1))), (7, .sl 21 0 (x.2.1))]) (fun x => [(20, .L 1 (x.2.2.1)), (21, .L 1 (x.2.2.2))]) (fun x => 0 ≤ (x.1) ∧ (x.1) ≤ (Af I K).length ∧ Oe im c (x.2.2.1) (x.2.2.2) (x.2.1) (m + 2 * negs hs) K (HV - tkX im I + ptX I) ((Af I K).take (x.1).toNat)) (fun x => Int.toNat ((Af I K).length - (x.1))) (0, ((m : Int) - 1).toNat, hs.map T.int, l.map T.int) ?_ (fun x hx => ?_)
  ·exact ⟨by omega, by omega, MY (by omega) hml hmn hpa (by show ((m : Int) - 1).toNat = m - 1; omega) hKq (by rw [eA, eI]; omega) (by rw [eA, eI]) rfl⟩
  obtain ⟨j, m2, xs, ms⟩ := x
  obtain ⟨hj0, hj1, hs2, l2, hxs, hms, hml2, hmn2, hmi, hhi⟩ := hx
  dsimp only at hj0 hj1 hs2 hxs hms hml2 hmn2 hmi hhi ⊢;subst hxs hms;refine nY Z (sG (eZ Z (nB (sQ ?_))));refine AC Z (fun h4 => ?_) (fun h4 => ?_)
  ·
   simp only [HS] at h4;refine AD (tN (sQ (AH (sG ?_))))
   have hjl : j.toNat < (Af I K).length := by omega
   have hNm : (Af I K)[j.toNat]'hjl ∈ Af (Ac c K) K := by rw [eI]; exact Qq hjl
   have hnn := hR.next K hq0 (by omega) _ hNm
   have hs2l : hs2.length = c.ins.length := hmi.1.1
   have hnl : ((Af I K)[j.toNat]'hjl).toNat < hs2.length := by omega
   have eN : atI hs2 ((Af I K)[j.toNat]'hjl) = hs2[((Af I K)[j.toNat]'hjl).toNat]'hnl := BV hnn.1 (by omega)
   have hllm : (l2.map T.int).length = l2.length := Qc _
   refine iY (k := ?_);refine eK 2 Z (nB (sQ (sG (eK 3 Z ?_))));refine gB (fun h5 => ?_) (fun h5 => ?_)
   ·
    simp only [HS] at h5;refine xK 2 Z (kZ [2,3,6,7,13,15,88,89,90,91,92,93,94,95,96,97,98,99] Z (xK 9 Z (kZ [2,3,6,7,13,15,88,89,90,91,92,93,94,95,96,97,98,99,100,101,102,103,104,105,106,107,108] Z (xK 2 Z (nB (A5 Z (sG (eK 2 Z (nB (W_le (Le.nilOwn (u := 4) 1 Z) (rT (tR (bR (tR (AP ?_)))))))))))))));refine bR (bR (AP (bR (tR (eR ?_)))))
    ·first
     | exact Pu (FA hmi hNm hnn.1 (by omega) (by rw [eN, ← hhi]; omega))
   simp only [HS] at h5;refine xK 2 Z (kZ [2,3,6,7,13,15,88,89,90,91,92,93,94,95,96,97,98] Z (gY Z (AR tys Z Z (lt_of Z) Z Z Z Z Z Z Z Z (by omega) (by omega) (gY Z (AG tys Z Z (lt_of Z) Z Z Z Z (BN _ _ (by omega) (by omega)) Z (xK 2 Z ?_))))));refine gB (fun h6 => ?_) (fun h6 => ?_)
   ·
    simp only [HS] at h6;refine xK 5 Z (kZ [2,3,6,7,13,15,88,89,90,91,92,93,94,95,96,97,98,99,100,101,102,103,104,105,106,107,108] Z (xK 2 Z (nB (Ao Z (AD (tN (sG (eK 2 Z (AR tys Z Z (lt_of Z) Z Z Z Z Z Z Z Z (by omega) (by omega) (AG tys Z Z (lt_of Z) Z Z Z Z (BN _ _ (by omega) (by omega)) Z (eZ Z (nB ?_))))))))))));refine AC Z (fun h7 => ?_) (fun h7 => ?_)
    ·
     simp only [HS] at h7;refine sQ (kY [2,3,6,7,13,15,88,89,90,91,92,93,94,95,96,97,98,99,100,101,102,103,104,105,106,107,108,109,110,111,112,113,114,115] Z (rG (eK 3 Z (AR tys Z Z (lt_of Z) Z Z Z Z Z Z Z Z (by omega) (by omega) ?_))));refine Al tys (T.int (HV - tkX im I + ptX I)) Z Z Z Z Z Z (Qv _) (by rw [Qc]; omega) Z (by repeat (first | exact AbsL.nil' | refine AbsL.v' ?_ | refine AbsL.own' ?_)) Z Z Z ?_;refine nZ Z (nZ Z (nB (rG (eK 2 Z (bZ [T.int ((Af I K)[j.toNat]'hjl)] ?_)))));refine nZ Z (Am tys Z Z (lt_of Z) Z Z Z Z Z (.own Z (by first | omega | (simp only [Qf]; omega))) Z (.own Z (by first | decide | omega)) (by decide) (by simp; omega) (by decide) Z ?_);refine nZ Z (kZ [2,3,6,7,13,15,88,89,90,91,92,93,94,95,96,97,98,99,100,101,102,103,104,105,106,107,108,109,110,111,112,113,114,115,116,117,118,119,120,121,122,123] Z (eZ Z (oN (bN (tN (rG (evI ?_)))))));refine eZ Z (oN ?_);refine lQ (_, _, _, _) ?_ ?_
     ·dsimp only
      first
      | exact ⟨by omega, by omega, by rw [CK hj0 (by omega)]; exact KD hR hml2 hmn2 hmi hhi hNm hnn.1 (by omega) (by rw [eN]; omega) (by omega) rfl rfl (by simp; omega)⟩
     ·(show Int.toNat _ < Int.toNat _); omega
    simp only [HS] at h7;refine AD (bN (tN (kY [2,3,6,7,13,15,88,89,90,91,92,93,94,95,96,97,98,99,100,101,102,103,104,105,106,107,108,109,110,111,112,113,114,115] Z (rG (evI ?_)))));refine eZ Z (oN ?_);refine lQ (_, _, _, _) ?_ ?_
    ·dsimp only
     first
     | exact ⟨by omega, by omega, by rw [CK hj0 (by omega)]; exact H8 hml2 hmn2 hmi hhi (by rw [eN]; omega) (by rw [eN]; omega)⟩
    ·(show Int.toNat _ < Int.toNat _); omega
   simp only [HS] at h6;refine xK 2 Z (gY Z (AR tys Z Z (lt_of Z) Z Z Z Z Z Z Z Z (by omega) (by omega) (gY Z (AG tys Z Z (lt_of Z) Z Z Z Z (BN _ _ (by omega) (by omega)) Z (xZ Z (kZ [2,3,6,7,13,15,88,89,90,91,92,93,94,95,96,97,98,99,100,101,102,103,104,105,106,107] Z (xK 3 Z (nB ?_))))))));refine AC Z (fun h7 => ?_) (fun h7 => ?_)
   ·
    simp only [HS] at h7;refine sG (eK 2 Z (nB (W_le (Le.nilOwn (u := 4) 1 Z) (rT (tR (bR (tR (AP (bR (bR (AP (bR (tR (eR ?_))))))))))))))
    ·first
     | exact Pu (FA hmi hNm hnn.1 (by omega) (by rw [eN, ← hhi]; omega))
   simp only [HS] at h7;refine AD (tN (sG (eK 2 Z (AR tys Z Z (lt_of Z) Z Z Z Z Z Z Z Z (by omega) (by omega) (AG tys Z Z (lt_of Z) Z Z Z Z (BN _ _ (by omega) (by omega)) Z (eZ Z (nB ?_)))))));refine AC Z (fun h8 => ?_) (fun h8 => ?_)
   ·
    simp only [HS] at h8;refine sQ (kY [2,3,6,7,13,15,88,89,90,91,92,93,94,95,96,97,98,99,100,101,102,103,104,105,106,107,108,109,110,111,112,113,114,115] Z (rG (eK 3 Z (AR tys Z Z (lt_of Z) Z Z Z Z Z Z Z Z (by omega) (by omega) ?_))));refine Al tys (T.int (HV - tkX im I + ptX I)) Z Z Z Z Z Z (Qv _) (by rw [Qc]; omega) Z (by repeat (first | exact AbsL.nil' | refine AbsL.v' ?_ | refine AbsL.own' ?_)) Z Z Z ?_;refine nZ Z (nZ Z (nB (rG (eK 2 Z (bZ [T.int ((Af I K)[j.toNat]'hjl)] ?_)))));refine nZ Z (Am tys Z Z (lt_of Z) Z Z Z Z Z (.own Z (by first | omega | (simp only [Qf]; omega))) Z (.own Z (by first | decide | omega)) (by decide) (by simp; omega) (by decide) Z ?_);refine nZ Z (kZ [2,3,6,7,13,15,88,89,90,91,92,93,94,95,96,97,98,99,100,101,102,103,104,105,106,107,108,109,110,111,112,113,114,115,116,117,118,119,120,121,122,123] Z (eZ Z (oN (bN (tN (rG (evI ?_)))))));refine eZ Z (oN ?_);refine lQ (_, _, _, _) ?_ ?_
    ·dsimp only
     first
     | exact ⟨by omega, by omega, by rw [CK hj0 (by omega)]; exact KD hR hml2 hmn2 hmi hhi hNm hnn.1 (by omega) (by rw [eN]; omega) (by omega) rfl rfl (by simp; omega)⟩
    ·(show Int.toNat _ < Int.toNat _); omega
   simp only [HS] at h8;refine AD (bN (tN (kY [2,3,6,7,13,15,88,89,90,91,92,93,94,95,96,97,98,99,100,101,102,103,104,105,106,107,108,109,110,111,112,113,114,115] Z (rG (evI ?_)))));refine eZ Z (oN ?_);refine lQ (_, _, _, _) ?_ ?_
   ·dsimp only
    first
    | exact ⟨by omega, by omega, by rw [CK hj0 (by omega)]; exact H8 hml2 hmn2 hmi hhi (by rw [eN]; omega) (by rw [eN]; omega)⟩
   ·(show Int.toNat _ < Int.toNat _); omega
  simp only [HS] at h4;refine AW (tE (AN (AO (bN ?_))));refine lQ (_, _, _) ?_ ?_
  ·dsimp only
   first
   | exact ⟨hs2, l2, rfl, rfl, hml2, by omega, KN hmi (fun n hn => by rw [Gm (by omega), ← eI]; exact hn)⟩
  ·first
   | (show ((m2 + 2 * Mf (hs2.map T.int) : Nat) : Int).toNat < ((m + 2 * Mf (hs.map T.int) : Nat) : Int).toNat; rw [IH, IH]; omega)
 simp only [HS] at h2;refine AW (tE (AN (AO (tN (sG (eK 3 Z (nB (W_le (Le.gather (u := 4) (id := 20) Z Z (by rw [Qc, hpa.1.1]; exact Q0 _)) ?_))))))));refine rT (eR ?_)
 ·first
  | exact retHS (KE hpa (by rw [show m = 0 from by omega, List.take_zero])) (Qi (by rw [Qc, hpa.1.1]; exact Q0 _))
end Go.Proofs.YtljnifnbldfboaaGreat
