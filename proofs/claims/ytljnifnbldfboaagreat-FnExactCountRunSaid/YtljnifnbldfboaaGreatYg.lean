/- Walks and laws of the claim. -/
import Derived.Test.YtljnifnbldfboaaGreatKk
set_option linter.unusedVariables false
set_option linter.unusedSimpArgs false
set_option maxRecDepth 10000
set_option maxHeartbeats 8000000
namespace Go.Proofs.YtljnifnbldfboaaGreat
open Go.Eng
open Go.Eng
abbrev mV (u0 u1 : Value) (most : Int) (v : Vm) : List D := mO u0 u1 most v.fs v.trace v.used v.code v.value v.made v.notes
def G4 (x : Image) (mode n : Int) (fs : List Frame) : List Frame :=
 match fs[fs.length - 1]? with | some g => fs.set (fs.length - 1) (raiseF x mode n g) | none => fs
def backF (x : Image) (n : Int) (g : Frame) : Frame := goF (if (Ac (codeAt x g.fn) g.at').op = 7 then pushF g n else g)
def Pl (x : Image) (n : Int) (fs : List Frame) : List Frame :=
 match fs[fs.length - 1]? with | some g => fs.set (fs.length - 1) (backF x n g) | none => fs
def Hk (x : Image) (k : Nat) (f : Frame) (v : Vm) : Vm :=
 let v1 : Vm := { v with fs := v.fs.take k, notes := v.notes ++ [⟨3, f.id, 0⟩] }
 if f.mode = 2 ∧ k = 0 then { v1 with code := 2, value := f.value } else
 if f.mode = 3 ∧ k = 0 then { v1 with code := 3, value := 0 } else
 if f.mode = 2 then { v1 with fs := G4 x 2 f.value v1.fs } else
 if f.mode = 3 then { v1 with fs := G4 x 3 0 v1.fs } else
 if k = 0 then { v1 with code := 1, value := f.res } else { v1 with fs := Pl x f.res v1.fs }
theorem end_1 {x : Image} {k : Nat} {f : Frame} {v : Vm} (h : f.mode = 2) (hk : k = 0) : Hk x k f v = ⟨v.fs.take k, v.trace, v.used, 2, f.value, v.made, v.notes ++ [⟨3, f.id, 0⟩]⟩ := by
 simp [Hk, h, hk]
theorem end_2 {x : Image} {k : Nat} {f : Frame} {v : Vm} (h : f.mode = 3) (hk : k = 0) : Hk x k f v = ⟨v.fs.take k, v.trace, v.used, 3, 0, v.made, v.notes ++ [⟨3, f.id, 0⟩]⟩ := by
 simp [Hk, h, hk]
theorem QN {x : Image} {k : Nat} {f : Frame} {v : Vm} {g : Frame} (h : f.mode = 2) (hk : 1 ≤ k) (ht : (v.fs.take k).length = k) (hg : (v.fs.take k)[k - 1]? = some g) : Hk x k f v = ⟨(v.fs.take k).set (k - 1) (raiseF x 2 f.value g), v.trace, v.used, v.code, v.value, v.made, v.notes ++ [⟨3, f.id, 0⟩]⟩ := by
 have h0 : ¬ k = 0 := by omega
 simp only [Hk, h, h0, and_false, if_false, if_true];simp only [G4, ht, hg, Int.reduceEq, false_and, if_false]
theorem QM {x : Image} {k : Nat} {f : Frame} {v : Vm} {g : Frame} (h : f.mode = 3) (hk : 1 ≤ k) (ht : (v.fs.take k).length = k) (hg : (v.fs.take k)[k - 1]? = some g) : Hk x k f v = ⟨(v.fs.take k).set (k - 1) (raiseF x 3 0 g), v.trace, v.used, v.code, v.value, v.made, v.notes ++ [⟨3, f.id, 0⟩]⟩ := by
 have h0 : ¬ k = 0 := by omega
 simp only [Hk, h, h0, and_false, if_false, if_true, Int.reduceEq, false_and];simp only [G4, ht, hg]
theorem end_5 {x : Image} {k : Nat} {f : Frame} {v : Vm} (h : ¬ f.mode = 2) (h' : ¬ f.mode = 3) (hk : k = 0) : Hk x k f v = ⟨v.fs.take k, v.trace, v.used, 1, f.res, v.made, v.notes ++ [⟨3, f.id, 0⟩]⟩ := by
 simp [Hk, h, h', hk]
theorem NL {x : Image} {k : Nat} {f : Frame} {v : Vm} {g : Frame} (h : ¬ f.mode = 2) (h' : ¬ f.mode = 3) (hk : 1 ≤ k) (ht : (v.fs.take k).length = k) (hg : (v.fs.take k)[k - 1]? = some g) : Hk x k f v = ⟨(v.fs.take k).set (k - 1) (backF x f.res g), v.trace, v.used, v.code, v.value, v.made, v.notes ++ [⟨3, f.id, 0⟩]⟩ := by
 have h0 : ¬ k = 0 := by omega
 simp only [Hk, h, h', h0, and_false, if_false, false_and];simp only [Pl, ht, hg]
theorem Ng {x : Image} {n : Int} {g : Frame} (h : (Ac (codeAt x g.fn) g.at').op = 7) : backF x n g = goF (pushF g n) := by rw [backF, if_pos h]
theorem Nh {x : Image} {n : Int} {g : Frame} (h : ¬ (Ac (codeAt x g.fn) g.at').op = 7) : backF x n g = goF g := by rw [backF, if_neg h]
structure Qb (x : Image) (fs : List Frame) (k : Nat) : Prop where
 below : ∀ g, 1 ≤ k → fs[k - 1]? = some g → (0 ≤ g.fn ∧ g.fn < x.codes.length ∧ (codeAt x g.fn).rows.length ≤ 1048576 ∧ 0 ≤ rowX (codeAt x g.fn).rows g.at' ∧ 0 ≤ g.at' ∧ g.at' < (codeAt x g.fn).ins.length ∧ g.pile.length ≤ 100 ∧ (codeAt x g.fn).ins.length ≤ 1048576)
 xl : x.codes.length ≤ 1048576
theorem cut_k {b n j cap : Nat} {x : Int} (h : x = (j : Int)) : T.v (Value.slice (OA b n (Int.toNat 0) cap) (x.toNat - Int.toNat 0) (cap - Int.toNat 0)) = T.v (.slice (some ⟨b, 0, none⟩) j cap) := by
 subst h; unfold OA; split <;> simp
theorem PB (bm : Nat) (x : Image) (inp : List Int) (u0 u1 : Value) (most : Int) (v : Vm) (k : Nat) (f : Frame) (hk : v.fs[k]? = some f) (hkl : k = v.fs.length - 1) (hfl : v.fs.length ≤ 1000) (hnl : v.notes.length ≤ 1000000) (hok : Qb x v.fs k) : Proc Tryz.prog 54 [.t (.v (.pointer (some ⟨bm, 0, none⟩)))] ([u0, u1]) ([T.Codes x.codes, T.ints inp]) [.obox (.pointer (some ⟨bm, 0, none⟩)) (mV u0 u1 most v)] (.tup []) [.obox (.pointer (some ⟨bm, 0, none⟩)) (mV u0 u1 most (Hk x k f v))] := by
 have hlt := Bs hk
 refine Proc.intro tys Tryz.func54 Z Z (N := 128) [100] 99 ([(0, .t (.v (.pointer (some ⟨bm, 0, none⟩))))]) ([(100, .obox (.pointer (some ⟨bm, 0, none⟩)) (mV u0 u1 most v)), (99, .ro [u0, u1] [T.Codes x.codes, T.ints inp])]) Z Z Z Z (by decide) (by decide) Z (fun w0 G F0 => ?_);refine nY Z (W_le (Le.openNew (u := 100) 1100 Z Z Z Z Z) (nY Z (W_le (Le.named (t := 0) (u := 100) 1100 Z Z) (nY Z ?_))));refine Ad (u := 100) (j := 3) 101 Z Z Z (fun v3 => ?_);refine nY Z ?_;refine Dq (id := 101) Z (by intro h; have := congrArg List.length h; rw [Qc, Qz] at this; omega) (fun bf cap hv3 hcap => ?_);rw [Qc] at hv3 hcap;subst hv3;refine nY Z (W_le (Le.nameR (u := 101) 1101 Z Z Z Z) (nY Z (B1 (sG (eZ Z ?_)))));refine AQ (rid := 99) [100] 1101 (k) Z Z (lt_of Z) Z Z (by repeat (first | exact ResP.done | refine ResP.t ?_ | refine ResP.pin0 1100 Z ?_ | refine ResP.pinR 1100 Z (by first | rfl | omega) ?_ | refine ResP.nil 1 ?_ | refine ResP.nil' ?_ | refine ResP.own ?_ | refine ResP.sl Z Z (by first | omega | (simp; omega)) ?_)) Z (by repeat (first | exact trivial | refine ⟨OpenAs.same Z rfl, ?_⟩ | refine ⟨OpenAs.box 1100 Z Z Z Z rfl, ?_⟩ | refine ⟨OpenAs.row 1100 Z Z rfl, ?_⟩)) (by decide) (CU bm x inp u0 u1 most bf v.fs.length cap v.trace v.used v.code v.value v.made v.notes (by omega) hcap (by omega)) Z Z (by first | rfl | omega) ?_;refine AE rfl Z (lt_of Z) Z Z Z (AG tys Z Z (lt_of Z) Z Z Z Z (AM hk) Z (nZ Z (AY tys Z Z (lt_of Z) Z Z Z (nZ Z (sT Z (nZ Z (nA (eK 3 Z (kZ [0,2,9,11] Z (WO_le (Le.close (u := 100) 1100 Z Z Z) (nZ Z ?_)))))))))));refine cP [100] (hm := (FZ bm x inp u0 u1 most bf cap v.fs v.fs.length Z v.trace v.used v.code v.value v.made v.notes hcap (by omega) 3 f.id 0 hnl)) (k := ?_);refine nZ Z (WO_le (Le.open (u := 100) 1100 Z Z Z Z) (nZ Z (nB (sQ (A4 17 mixed Z (by kernel_rfl) (by kernel_rfl) (evQ ?_))))));refine evQ ?_;refine AL rfl Z (lt_of Z) Z Z Z (evQ ?_);refine evQ ?_;refine AI Z (evQ ?_);refine evQ ?_;refine AL rfl Z (lt_of Z) Z Z Z (evQ ?_);refine evQ ?_;refine evQ ?_;refine AI Z (DD Z Z (lt_of Z) Z ⟨61, by kernel_rfl⟩ rfl (Lx ?_));refine I0 tys Z Z (lt_of Z) Z Z Z Z Z Z Z Z (by omega) (by omega) (by omega) hcap (AL rfl Z (lt_of Z) Z Z Z (evQ ?_));refine evQ ?_;refine AI Z (Ak (sT Z (nZ Z (nB (sQ (W_le (Le.eqK (id := 100) Z (k' := .box (mC u0 u1 most (Aq bf k cap) v.trace v.used v.code v.value v.made (v.notes ++ [⟨3, f.id, 0⟩]))) (by rw [cut_k (j := k) (by omega)])) ?_))))));refine nY Z (W_le (Le.closeR (u := 101) 1101 Z Z) (nY Z (W_le (Le.rowTake (id := 101) k Z) (nY Z (W_le (Le.openR (u := 101) 1101 Z Z) (nY Z (W_le (Le.eqK (id := 101) Z (k' := .L 11 ((v.fs.take k).map Frame.tt)) (by rw [List.map_take])) ?_)))))));refine nY Z (rG (eZ Z (AE rfl Z (lt_of Z) Z Z Z (eK 3 Z (Br Z Z (lt_of Z) Z ⟨61, by kernel_rfl⟩ rfl (eK 2 Z (kZ [0,2,3] Z (nB (AH (sG (eK 4 Z ?_)))))))))));refine gB (fun h1 => ?_) (fun h1 => ?_)
 ·
  simp only [HS] at h1;refine eK 2 Z (nB (Ao Z (sG (eK 3 Z (kZ [0,2,3,90] Z (eZ Z ?_))))));refine gB (fun h2 => ?_) (fun h2 => ?_)
  ·
   simp only [HS] at h2;refine eK 2 Z (nB (Ao Z (sG (eK 4 Z (nB ?_)))));refine AC Z (fun h3 => ?_) (fun h3 => ?_)
   ·
    simp only [HS] at h3
    have hk1 : 1 ≤ k := by omega
    obtain ⟨g, hg⟩ : ∃ g, v.fs[k - 1]? = some g := ⟨_, List.getElem?_eq_getElem (by omega)⟩
    obtain ⟨b0, b1, b2, b3, b4, b5, b6, b7⟩ := hok.below g hk1 hg
    have hkg : (v.fs.take k)[k - 1]? = some g := by rw [List.getElem?_take_of_lt (by omega)]; exact hg
    have htk : (v.fs.take k).length = k := by rw [Qk]; omega
    refine kY [0,2] Z (rG (eK 3 Z (WO_le (Le.close (u := 100) 1100 Z Z Z) (nZ Z (WO_le (Le.closeR (u := 101) 1101 Z Z) (nZ Z ?_))))));refine AK (rid := 99) [100, 101] Z Z (lt_of Z) Z Z (by repeat (first | exact ResP.done | refine ResP.pin0 1100 Z ?_ | refine ResP.pin0 1101 Z ?_ | refine ResP.t ?_ | refine ResP.pinR 1101 Z (by first | rfl | omega) ?_ | refine ResP.nil 1 ?_ | refine ResP.nil' ?_ | refine ResP.own ?_ | refine ResP.sl Z Z (by first | omega | (simp; omega)) ?_ | refine ResP.aggT (by repeat (first | exact ResP.done | refine ResP.t ?_)) ?_)) Z (by repeat (first | exact trivial | refine ⟨rfl, rfl, ?_⟩)) (by decide) (BI bm x inp u0 u1 most bf cap (v.fs.take k) k htk v.trace v.used v.code v.value v.made (v.notes ++ [⟨3, f.id, 0⟩]) (by omega) (by omega) (k - 1) g 2 f.value hkg Z b0 b1 hok.xl b2 b3) Z Z Z ?_;refine nZ Z (WO_le (Le.open (u := 100) 1100 Z Z Z Z) (nZ Z (WO_le (Le.openR (u := 101) 1101 Z Z) (nZ Z (oN (bN ?_))))));refine AA (Le.closeR (u := 101) 1101 Z Z) ?_; refine AB Z ?_; refine AA (Le.rowVn (id := 101) k Z (by simp; omega)) ?_; refine AB Z ?_; refine AA (Le.claimBox (u := 100) (j := 3) (idp := 101) Z Z Z Z) ?_; refine AB Z ?_;refine AA (Le.close (u := 100) 1100 Z Z Z) (AB Z (AF ?_));refine eP [_] ?_ ?_
    ·rfl
    ·first
     | (exfalso; omega)
   simp only [HS] at h3;refine sQ (kY [0,2,3] Z (rG (eK 4 Z (nB ?_))));refine AC Z (fun h4 => ?_) (fun h4 => ?_)
   ·
    simp only [HS] at h4
    have hk1 : 1 ≤ k := by omega
    obtain ⟨g, hg⟩ : ∃ g, v.fs[k - 1]? = some g := ⟨_, List.getElem?_eq_getElem (by omega)⟩
    obtain ⟨b0, b1, b2, b3, b4, b5, b6, b7⟩ := hok.below g hk1 hg
    have hkg : (v.fs.take k)[k - 1]? = some g := by rw [List.getElem?_take_of_lt (by omega)]; exact hg
    have htk : (v.fs.take k).length = k := by rw [Qk]; omega
    refine rG (eZ Z (WO_le (Le.close (u := 100) 1100 Z Z Z) (nZ Z (WO_le (Le.closeR (u := 101) 1101 Z Z) (nZ Z ?_)))));refine AK (rid := 99) [100, 101] Z Z (lt_of Z) Z Z (by repeat (first | exact ResP.done | refine ResP.pin0 1100 Z ?_ | refine ResP.pin0 1101 Z ?_ | refine ResP.t ?_ | refine ResP.pinR 1101 Z (by first | rfl | omega) ?_ | refine ResP.nil 1 ?_ | refine ResP.nil' ?_ | refine ResP.own ?_ | refine ResP.sl Z Z (by first | omega | (simp; omega)) ?_ | refine ResP.aggT (by repeat (first | exact ResP.done | refine ResP.t ?_)) ?_)) Z (by repeat (first | exact trivial | refine ⟨rfl, rfl, ?_⟩)) (by decide) (BI bm x inp u0 u1 most bf cap (v.fs.take k) k htk v.trace v.used v.code v.value v.made (v.notes ++ [⟨3, f.id, 0⟩]) (by omega) (by omega) (k - 1) g 3 0 hkg Z b0 b1 hok.xl b2 b3) Z Z Z ?_;refine nZ Z (WO_le (Le.open (u := 100) 1100 Z Z Z Z) (nZ Z (WO_le (Le.openR (u := 101) 1101 Z Z) (nZ Z (oN (bN ?_))))));refine AA (Le.closeR (u := 101) 1101 Z Z) ?_; refine AB Z ?_; refine AA (Le.rowVn (id := 101) k Z (by simp; omega)) ?_; refine AB Z ?_; refine AA (Le.claimBox (u := 100) (j := 3) (idp := 101) Z Z Z Z) ?_; refine AB Z ?_;refine AA (Le.close (u := 100) 1100 Z Z Z) (AB Z (AF ?_));refine eP [_] ?_ ?_
    ·rfl
    ·first
     | (exfalso; omega)
   simp only [HS] at h4;refine sG (eK 2 Z (nB ?_));refine AC Z (fun h5 => ?_) (fun h5 => ?_)
   ·
    simp only [HS] at h5;refine BJ 8 [[], [100], [100], [100], [], [], [], []] mixed Z (by kernel_rfl) (by kernel_rfl) (Ab (QG_ev tys Z Z (lt_of Z) Z (QG_nil (QH_G (QG_ev tys Z Z (lt_of Z) Z (QG_nil (QH_G (QG_ev tys Z Z (lt_of Z) Z (QG_nil (QH_G (QG_ev tys Z Z (lt_of Z) Z (QG_nil (Ab (QG_nil' rfl Z (lt_of Z) Z Z Z (QG_nil ?_)))))))))))))));refine Ab (QG_ev tys Z Z (lt_of Z) Z (QG_nil (Ab (QG_ev tys Z Z (lt_of Z) Z (QG_nil (Ec tys 10007 Z Z Z Z Z Z Z Z Z (Qe Z) (QH_nil ?_)))))));refine ⟨by kernel_rfl, ?_⟩;refine nZ Z (AE rfl Z (lt_of Z) Z Z Z (eK 2 Z (sT Z (nZ Z (oN (bN ?_))))));refine AA (Le.closeR (u := 101) 1101 Z Z) ?_; refine AB Z ?_; refine AA (Le.rowVn (id := 101) k Z (by simp; omega)) ?_; refine AB Z ?_; refine AA (Le.claimBox (u := 100) (j := 3) (idp := 101) Z Z Z Z) ?_; refine AB Z ?_;refine AA (Le.close (u := 100) 1100 Z Z Z) (AB Z (AF ?_));refine eP [_] ?_ ?_
    ·rfl
    ·first
     | (have hm : ¬ f.mode = 2 := (by omega); have hm' : ¬ f.mode = 3 := (by omega); have hk0 : k = 0 := (by omega); exact (congrArg (fun q => [Blk.obox (.pointer (some ⟨bm, 0, none⟩)) (mV u0 u1 most q)]) (end_5 hm hm' hk0)).symm)
   simp only [HS] at h5;refine sQ ?_
   have hk1 : 1 ≤ k := by omega
   obtain ⟨g, hg⟩ : ∃ g, v.fs[k - 1]? = some g := ⟨_, List.getElem?_eq_getElem (by omega)⟩
   obtain ⟨b0, b1, b2, b3, b4, b5, b6, b7⟩ := hok.below g hk1 hg
   have hkg : (v.fs.take k)[k - 1]? = some g := by rw [List.getElem?_take_of_lt (by omega)]; exact hg
   have htk : (v.fs.take k).length = k := by rw [Qk]; omega
   have hca := Aa b0 b1
   rw [hca] at b5 b7
   have hpa : (pushF g f.res).at' = g.at' := rfl
   refine rG (eZ Z ?_);refine AQ (rid := 99) [100] 1101 (k - 1) Z Z (lt_of Z) Z Z (by repeat (first | exact ResP.done | refine ResP.t ?_ | refine ResP.pin0 1100 Z ?_ | refine ResP.pinR 1100 Z (by first | rfl | omega) ?_ | refine ResP.nil 1 ?_ | refine ResP.nil' ?_ | refine ResP.own ?_ | refine ResP.sl Z Z (by first | omega | (simp; omega)) ?_)) Z (by repeat (first | exact trivial | refine ⟨OpenAs.same Z rfl, ?_⟩ | refine ⟨OpenAs.box 1100 Z Z Z Z rfl, ?_⟩ | refine ⟨OpenAs.row 1100 Z Z rfl, ?_⟩)) (by decide) (CU bm x inp u0 u1 most bf k cap v.trace v.used v.code v.value v.made (v.notes ++ [⟨3, f.id, 0⟩]) (by omega) (by omega) (by omega)) Z Z (by first | rfl | omega) ?_;refine eZ Z (kZ [0,2,4] Z (nB (sQ (sQ (AV mixed (by kernel_rfl) (evQ ?_))))));refine AL rfl Z (lt_of Z) Z Z Z (evQ ?_);refine evQ ?_;refine A7 tys 99 0 Z Z (lt_of Z) Z Z Z Z (evQ ?_);refine AI Z (AL rfl Z (lt_of Z) Z Z Z (evQ ?_));refine Ae tys Z Z (lt_of Z) Z Z Z Z (AM hkg) Z (Ai tys Z Z (lt_of Z) Z Z Z Z Z Z Z (by omega) _ (BT _ _ (by omega) (by omega)) (evQ ?_));refine evQ ?_;refine AI Z (evQ ?_);refine AL rfl Z (lt_of Z) Z Z Z (evQ ?_);refine Ae tys Z Z (lt_of Z) Z Z Z Z (AM hkg) Z (Ai tys Z Z (lt_of Z) Z Z Z Z Z Z Z (by omega) _ (BT _ _ (by omega) (by omega)) (evQ ?_));refine AI Z (evQ ?_);refine evQ ?_;refine Ak (tN ?_);refine AC Z (fun h6 => ?_) (fun h6 => ?_)
   ·
    simp only [HS] at h6;refine rG (eK 3 Z (WO_le (Le.closeR (u := 101) 1101 Z Z) (nZ Z ?_)));refine AK (rid := 99) [101] Z Z (lt_of Z) Z Z (by repeat (first | exact ResP.done | refine ResP.pin0 1101 Z ?_ | refine ResP.t ?_ | refine ResP.pinR 1101 Z (by first | rfl | omega) ?_ | refine ResP.nil 1 ?_ | refine ResP.nil' ?_ | refine ResP.own ?_ | refine ResP.sl Z Z (by first | omega | (simp; omega)) ?_ | refine ResP.aggT (by repeat (first | exact ResP.done | refine ResP.t ?_)) ?_)) Z (by repeat (first | exact trivial | refine ⟨rfl, rfl, ?_⟩)) (by decide) (BL bf cap (k - 1) (v.fs.take k) g f.res hkg (by omega) _ _) Z Z Z ?_;refine nZ Z (WO_le (Le.openR (u := 101) 1101 Z Z) (nZ Z (nB (rG (eZ Z (AE rfl Z (lt_of Z) Z Z Z (eZ Z (kZ [63,65] Z (AG tys Z Z (lt_of Z) Z Z Z Z (AM (AU (g := pushF g f.res) hkg)) Z (evI ?_))))))))));refine AE rfl Z (lt_of Z) Z Z Z (eZ Z ?_)
    first
    | (refine AJ tys _ rfl rfl rfl rfl rfl rfl (AM (AU (g := pushF g f.res) hkg)) rfl (AbsL.v' AbsL.nil') rfl (by decide) (Qe rfl) ?_; refine Ap rfl ?_; refine WO_le (Le.eqK (id := 101) rfl (congrArg (Blk.L 11) (BQ (k := k - 1) (f := goF (pushF g f.res))))) ?_; refine Ap rfl ?_)
    refine nZ Z (oN (bN ?_));refine AA (Le.closeR (u := 101) 1101 Z Z) ?_; refine AB Z ?_; refine AA (Le.rowVn (id := 101) k Z (by simp; omega)) ?_; refine AB Z ?_; refine AA (Le.claimBox (u := 100) (j := 3) (idp := 101) Z Z Z Z) ?_; refine AB Z ?_;refine AA (Le.close (u := 100) 1100 Z Z Z) (AB Z (AF ?_));refine eP [_] ?_ ?_
    ·rfl
    ·first
     | (have hm : ¬ f.mode = 2 := (by omega); have hm' : ¬ f.mode = 3 := (by omega); have h7 : (Ac (codeAt x g.fn) g.at').op = 7 := (by rw [hca, BK b4 b5]; assumption); exact (congrArg (fun q => [Blk.obox (.pointer (some ⟨bm, 0, none⟩)) (mV u0 u1 most q)]) ((NL hm hm' hk1 htk hkg).trans (by rw [Ng h7]))).symm)
   simp only [HS] at h6;refine AD (tN (rG (eZ Z (AE rfl Z (lt_of Z) Z Z Z (eZ Z (AG tys Z Z (lt_of Z) Z Z Z Z (AM hkg) Z (evI ?_)))))));refine AE rfl Z (lt_of Z) Z Z Z (eZ Z (kZ [67,69] Z ?_))
   first
   | (refine AJ tys _ rfl rfl rfl rfl rfl rfl (AM hkg) rfl (AbsL.v' AbsL.nil') rfl (by decide) (Qe rfl) ?_; refine Ap rfl ?_; refine WO_le (Le.eqK (id := 101) rfl (congrArg (Blk.L 11) (Av (k := k - 1) (f := goF g)))) ?_; refine Ap rfl ?_)
   refine nZ Z (oN (bN ?_));refine AA (Le.closeR (u := 101) 1101 Z Z) ?_; refine AB Z ?_; refine AA (Le.rowVn (id := 101) k Z (by simp; omega)) ?_; refine AB Z ?_; refine AA (Le.claimBox (u := 100) (j := 3) (idp := 101) Z Z Z Z) ?_; refine AB Z ?_;refine AA (Le.close (u := 100) 1100 Z Z Z) (AB Z (AF ?_));refine eP [_] ?_ ?_
   ·rfl
   ·first
    | (have hm : ¬ f.mode = 2 := (by omega); have hm' : ¬ f.mode = 3 := (by omega); have h7 : ¬ (Ac (codeAt x g.fn) g.at').op = 7 := (by rw [hca, BK b4 b5]; assumption); exact (congrArg (fun q => [Blk.obox (.pointer (some ⟨bm, 0, none⟩)) (mV u0 u1 most q)]) ((NL hm hm' hk1 htk hkg).trans (by rw [Nh h7]))).symm)
  simp only [HS] at h2;refine eK 3 Z (nB ?_);refine AC Z (fun h3 => ?_) (fun h3 => ?_)
  ·
   simp only [HS] at h3;refine rG (eK 2 Z (AE rfl Z (lt_of Z) Z Z Z (eK 2 Z (kZ [95,98] Z (sT Z (nZ Z (AE rfl Z (lt_of Z) Z Z Z (eK 2 Z (sT Z (nZ Z (oN (bN ?_))))))))))));refine AA (Le.closeR (u := 101) 1101 Z Z) ?_; refine AB Z ?_; refine AA (Le.rowVn (id := 101) k Z (by simp; omega)) ?_; refine AB Z ?_; refine AA (Le.claimBox (u := 100) (j := 3) (idp := 101) Z Z Z Z) ?_; refine AB Z ?_;refine AA (Le.close (u := 100) 1100 Z Z Z) (AB Z (AF ?_));refine eP [_] ?_ ?_
   ·rfl
   ·first
    | (have hm : f.mode = 3 := (by omega); have hk0 : k = 0 := (by omega); exact (congrArg (fun q => [Blk.obox (.pointer (some ⟨bm, 0, none⟩)) (mV u0 u1 most q)]) (end_2 hm hk0)).symm)
  simp only [HS] at h3;refine sG (eK 4 Z (nB ?_));refine AC Z (fun h4 => ?_) (fun h4 => ?_)
  ·
   simp only [HS] at h4
   have hk1 : 1 ≤ k := by omega
   obtain ⟨g, hg⟩ : ∃ g, v.fs[k - 1]? = some g := ⟨_, List.getElem?_eq_getElem (by omega)⟩
   obtain ⟨b0, b1, b2, b3, b4, b5, b6, b7⟩ := hok.below g hk1 hg
   have hkg : (v.fs.take k)[k - 1]? = some g := by rw [List.getElem?_take_of_lt (by omega)]; exact hg
   have htk : (v.fs.take k).length = k := by rw [Qk]; omega
   refine kY [0,2] Z (rG (eK 3 Z (WO_le (Le.close (u := 100) 1100 Z Z Z) (nZ Z (WO_le (Le.closeR (u := 101) 1101 Z Z) (nZ Z ?_))))));refine AK (rid := 99) [100, 101] Z Z (lt_of Z) Z Z (by repeat (first | exact ResP.done | refine ResP.pin0 1100 Z ?_ | refine ResP.pin0 1101 Z ?_ | refine ResP.t ?_ | refine ResP.pinR 1101 Z (by first | rfl | omega) ?_ | refine ResP.nil 1 ?_ | refine ResP.nil' ?_ | refine ResP.own ?_ | refine ResP.sl Z Z (by first | omega | (simp; omega)) ?_ | refine ResP.aggT (by repeat (first | exact ResP.done | refine ResP.t ?_)) ?_)) Z (by repeat (first | exact trivial | refine ⟨rfl, rfl, ?_⟩)) (by decide) (BI bm x inp u0 u1 most bf cap (v.fs.take k) k htk v.trace v.used v.code v.value v.made (v.notes ++ [⟨3, f.id, 0⟩]) (by omega) (by omega) (k - 1) g 2 f.value hkg Z b0 b1 hok.xl b2 b3) Z Z Z ?_;refine nZ Z (WO_le (Le.open (u := 100) 1100 Z Z Z Z) (nZ Z (WO_le (Le.openR (u := 101) 1101 Z Z) (nZ Z (oN (bN ?_))))));refine AA (Le.closeR (u := 101) 1101 Z Z) ?_; refine AB Z ?_; refine AA (Le.rowVn (id := 101) k Z (by simp; omega)) ?_; refine AB Z ?_; refine AA (Le.claimBox (u := 100) (j := 3) (idp := 101) Z Z Z Z) ?_; refine AB Z ?_;refine AA (Le.close (u := 100) 1100 Z Z Z) (AB Z (AF ?_));refine eP [_] ?_ ?_
   ·rfl
   ·first
    | (exfalso; omega)
  simp only [HS] at h4;refine sQ (kY [0,2,3] Z (rG (eK 4 Z (nB ?_))));refine AC Z (fun h5 => ?_) (fun h5 => ?_)
  ·
   simp only [HS] at h5
   have hk1 : 1 ≤ k := by omega
   obtain ⟨g, hg⟩ : ∃ g, v.fs[k - 1]? = some g := ⟨_, List.getElem?_eq_getElem (by omega)⟩
   obtain ⟨b0, b1, b2, b3, b4, b5, b6, b7⟩ := hok.below g hk1 hg
   have hkg : (v.fs.take k)[k - 1]? = some g := by rw [List.getElem?_take_of_lt (by omega)]; exact hg
   have htk : (v.fs.take k).length = k := by rw [Qk]; omega
   refine rG (eZ Z (WO_le (Le.close (u := 100) 1100 Z Z Z) (nZ Z (WO_le (Le.closeR (u := 101) 1101 Z Z) (nZ Z ?_)))));refine AK (rid := 99) [100, 101] Z Z (lt_of Z) Z Z (by repeat (first | exact ResP.done | refine ResP.pin0 1100 Z ?_ | refine ResP.pin0 1101 Z ?_ | refine ResP.t ?_ | refine ResP.pinR 1101 Z (by first | rfl | omega) ?_ | refine ResP.nil 1 ?_ | refine ResP.nil' ?_ | refine ResP.own ?_ | refine ResP.sl Z Z (by first | omega | (simp; omega)) ?_ | refine ResP.aggT (by repeat (first | exact ResP.done | refine ResP.t ?_)) ?_)) Z (by repeat (first | exact trivial | refine ⟨rfl, rfl, ?_⟩)) (by decide) (BI bm x inp u0 u1 most bf cap (v.fs.take k) k htk v.trace v.used v.code v.value v.made (v.notes ++ [⟨3, f.id, 0⟩]) (by omega) (by omega) (k - 1) g 3 0 hkg Z b0 b1 hok.xl b2 b3) Z Z Z ?_;refine nZ Z (WO_le (Le.open (u := 100) 1100 Z Z Z Z) (nZ Z (WO_le (Le.openR (u := 101) 1101 Z Z) (nZ Z (oN (bN ?_))))));refine AA (Le.closeR (u := 101) 1101 Z Z) ?_; refine AB Z ?_; refine AA (Le.rowVn (id := 101) k Z (by simp; omega)) ?_; refine AB Z ?_; refine AA (Le.claimBox (u := 100) (j := 3) (idp := 101) Z Z Z Z) ?_; refine AB Z ?_;refine AA (Le.close (u := 100) 1100 Z Z Z) (AB Z (AF ?_));refine eP [_] ?_ ?_
   ·rfl
   ·first
    | (have hm : f.mode = 3 := (by omega); exact (congrArg (fun q => [Blk.obox (.pointer (some ⟨bm, 0, none⟩)) (mV u0 u1 most q)]) (QM hm hk1 htk hkg)).symm)
  simp only [HS] at h5;refine sG (eK 2 Z (nB ?_));refine AC Z (fun h6 => ?_) (fun h6 => ?_)
  ·
   simp only [HS] at h6;refine BJ 8 [[], [100], [100], [100], [], [], [], []] mixed Z (by kernel_rfl) (by kernel_rfl) (Ab (QG_ev tys Z Z (lt_of Z) Z (QG_nil (QH_G (QG_ev tys Z Z (lt_of Z) Z (QG_nil (QH_G (QG_ev tys Z Z (lt_of Z) Z (QG_nil (QH_G (QG_ev tys Z Z (lt_of Z) Z (QG_nil (Ab (QG_nil' rfl Z (lt_of Z) Z Z Z (QG_nil ?_)))))))))))))));refine Ab (QG_ev tys Z Z (lt_of Z) Z (QG_nil (Ab (QG_ev tys Z Z (lt_of Z) Z (QG_nil (Ec tys 10007 Z Z Z Z Z Z Z Z Z (Qe Z) (QH_nil ?_)))))));refine ⟨by kernel_rfl, ?_⟩;refine nZ Z (AE rfl Z (lt_of Z) Z Z Z (eK 2 Z (sT Z (nZ Z (oN (bN ?_))))));refine AA (Le.closeR (u := 101) 1101 Z Z) ?_; refine AB Z ?_; refine AA (Le.rowVn (id := 101) k Z (by simp; omega)) ?_; refine AB Z ?_; refine AA (Le.claimBox (u := 100) (j := 3) (idp := 101) Z Z Z Z) ?_; refine AB Z ?_;refine AA (Le.close (u := 100) 1100 Z Z Z) (AB Z (AF ?_));refine eP [_] ?_ ?_
   ·rfl
   ·first
    | (exfalso; omega)
  simp only [HS] at h6;refine sQ ?_
  have hk1 : 1 ≤ k := by omega
  obtain ⟨g, hg⟩ : ∃ g, v.fs[k - 1]? = some g := ⟨_, List.getElem?_eq_getElem (by omega)⟩
  obtain ⟨b0, b1, b2, b3, b4, b5, b6, b7⟩ := hok.below g hk1 hg
  have hkg : (v.fs.take k)[k - 1]? = some g := by rw [List.getElem?_take_of_lt (by omega)]; exact hg
  have htk : (v.fs.take k).length = k := by rw [Qk]; omega
  have hca := Aa b0 b1
  rw [hca] at b5 b7
  have hpa : (pushF g f.res).at' = g.at' := rfl
  refine rG (eZ Z ?_);refine AQ (rid := 99) [100] 1101 (k - 1) Z Z (lt_of Z) Z Z (by repeat (first | exact ResP.done | refine ResP.t ?_ | refine ResP.pin0 1100 Z ?_ | refine ResP.pinR 1100 Z (by first | rfl | omega) ?_ | refine ResP.nil 1 ?_ | refine ResP.nil' ?_ | refine ResP.own ?_ | refine ResP.sl Z Z (by first | omega | (simp; omega)) ?_)) Z (by repeat (first | exact trivial | refine ⟨OpenAs.same Z rfl, ?_⟩ | refine ⟨OpenAs.box 1100 Z Z Z Z rfl, ?_⟩ | refine ⟨OpenAs.row 1100 Z Z rfl, ?_⟩)) (by decide) (CU bm x inp u0 u1 most bf k cap v.trace v.used v.code v.value v.made (v.notes ++ [⟨3, f.id, 0⟩]) (by omega) (by omega) (by omega)) Z Z (by first | rfl | omega) ?_;refine eZ Z (kZ [0,2,4] Z (nB (sQ (sQ (AV mixed (by kernel_rfl) (evQ ?_))))));refine AL rfl Z (lt_of Z) Z Z Z (evQ ?_);refine evQ ?_;refine A7 tys 99 0 Z Z (lt_of Z) Z Z Z Z (evQ ?_);refine AI Z (AL rfl Z (lt_of Z) Z Z Z (evQ ?_));refine Ae tys Z Z (lt_of Z) Z Z Z Z (AM hkg) Z (Ai tys Z Z (lt_of Z) Z Z Z Z Z Z Z (by omega) _ (BT _ _ (by omega) (by omega)) (evQ ?_));refine evQ ?_;refine AI Z (evQ ?_);refine AL rfl Z (lt_of Z) Z Z Z (evQ ?_);refine Ae tys Z Z (lt_of Z) Z Z Z Z (AM hkg) Z (Ai tys Z Z (lt_of Z) Z Z Z Z Z Z Z (by omega) _ (BT _ _ (by omega) (by omega)) (evQ ?_));refine AI Z (evQ ?_);refine evQ ?_;refine Ak (tN ?_);refine AC Z (fun h7 => ?_) (fun h7 => ?_)
  ·
   simp only [HS] at h7;refine rG (eK 3 Z (WO_le (Le.closeR (u := 101) 1101 Z Z) (nZ Z ?_)));refine AK (rid := 99) [101] Z Z (lt_of Z) Z Z (by repeat (first | exact ResP.done | refine ResP.pin0 1101 Z ?_ | refine ResP.t ?_ | refine ResP.pinR 1101 Z (by first | rfl | omega) ?_ | refine ResP.nil 1 ?_ | refine ResP.nil' ?_ | refine ResP.own ?_ | refine ResP.sl Z Z (by first | omega | (simp; omega)) ?_ | refine ResP.aggT (by repeat (first | exact ResP.done | refine ResP.t ?_)) ?_)) Z (by repeat (first | exact trivial | refine ⟨rfl, rfl, ?_⟩)) (by decide) (BL bf cap (k - 1) (v.fs.take k) g f.res hkg (by omega) _ _) Z Z Z ?_;refine nZ Z (WO_le (Le.openR (u := 101) 1101 Z Z) (nZ Z (nB (rG (eZ Z (AE rfl Z (lt_of Z) Z Z Z (eZ Z (kZ [63,65] Z (AG tys Z Z (lt_of Z) Z Z Z Z (AM (AU (g := pushF g f.res) hkg)) Z (evI ?_))))))))));refine AE rfl Z (lt_of Z) Z Z Z (eZ Z ?_)
   first
   | (refine AJ tys _ rfl rfl rfl rfl rfl rfl (AM (AU (g := pushF g f.res) hkg)) rfl (AbsL.v' AbsL.nil') rfl (by decide) (Qe rfl) ?_; refine Ap rfl ?_; refine WO_le (Le.eqK (id := 101) rfl (congrArg (Blk.L 11) (BQ (k := k - 1) (f := goF (pushF g f.res))))) ?_; refine Ap rfl ?_)
   refine nZ Z (oN (bN ?_));refine AA (Le.closeR (u := 101) 1101 Z Z) ?_; refine AB Z ?_; refine AA (Le.rowVn (id := 101) k Z (by simp; omega)) ?_; refine AB Z ?_; refine AA (Le.claimBox (u := 100) (j := 3) (idp := 101) Z Z Z Z) ?_; refine AB Z ?_;refine AA (Le.close (u := 100) 1100 Z Z Z) (AB Z (AF ?_));refine eP [_] ?_ ?_
   ·rfl
   ·first
    | (exfalso; omega)
  simp only [HS] at h7;refine AD (tN (rG (eZ Z (AE rfl Z (lt_of Z) Z Z Z (eZ Z (AG tys Z Z (lt_of Z) Z Z Z Z (AM hkg) Z (evI ?_)))))));refine AE rfl Z (lt_of Z) Z Z Z (eZ Z (kZ [67,69] Z ?_))
  first
  | (refine AJ tys _ rfl rfl rfl rfl rfl rfl (AM hkg) rfl (AbsL.v' AbsL.nil') rfl (by decide) (Qe rfl) ?_; refine Ap rfl ?_; refine WO_le (Le.eqK (id := 101) rfl (congrArg (Blk.L 11) (Av (k := k - 1) (f := goF g)))) ?_; refine Ap rfl ?_)
  refine nZ Z (oN (bN ?_));refine AA (Le.closeR (u := 101) 1101 Z Z) ?_; refine AB Z ?_; refine AA (Le.rowVn (id := 101) k Z (by simp; omega)) ?_; refine AB Z ?_; refine AA (Le.claimBox (u := 100) (j := 3) (idp := 101) Z Z Z Z) ?_; refine AB Z ?_;refine AA (Le.close (u := 100) 1100 Z Z Z) (AB Z (AF ?_));refine eP [_] ?_ ?_
  ·rfl
  ·first
   | (exfalso; omega)
 simp only [HS] at h1;refine eK 3 Z (nB ?_);refine AC Z (fun h2 => ?_) (fun h2 => ?_)
 ·
  simp only [HS] at h2;refine kY [0,2] Z (BJ 8 [[], [100], [100], [100], [], [], [], []] mixed Z (by kernel_rfl) (by kernel_rfl) (Ab (QG_ev tys Z Z (lt_of Z) Z (QG_nil (QH_G (QG_ev tys Z Z (lt_of Z) Z (QG_nil (QH_G (QG_ev tys Z Z (lt_of Z) Z (QG_nil (QH_G (QG_ev tys Z Z (lt_of Z) Z (QG_nil (Ab (QG_nil' rfl Z (lt_of Z) Z Z Z ?_)))))))))))))));refine QG_nil (Ab (QG_ev tys Z Z (lt_of Z) Z (QG_nil (Ab (QG_ev tys Z Z (lt_of Z) Z (QG_nil (Ec tys 10007 Z Z Z Z Z Z Z Z Z (Qe Z) (QH_nil ?_))))))));refine ⟨by kernel_rfl, ?_⟩;refine nZ Z (AE rfl Z (lt_of Z) Z Z Z (eK 2 Z (sT Z (nZ Z (oN (bN ?_))))));refine AA (Le.closeR (u := 101) 1101 Z Z) ?_; refine AB Z ?_; refine AA (Le.rowVn (id := 101) k Z (by simp; omega)) ?_; refine AB Z ?_; refine AA (Le.claimBox (u := 100) (j := 3) (idp := 101) Z Z Z Z) ?_; refine AB Z ?_;refine AA (Le.close (u := 100) 1100 Z Z Z) (AB Z (AF ?_));refine eP [_] ?_ ?_
  ·rfl
  ·first
   | (have hm : f.mode = 2 := (by omega); have hk0 : k = 0 := (by omega); exact (congrArg (fun q => [Blk.obox (.pointer (some ⟨bm, 0, none⟩)) (mV u0 u1 most q)]) (end_1 hm hk0)).symm)
 simp only [HS] at h2;refine sQ (kY [0,2,3] Z (rG (eK 4 Z ?_)));refine gB (fun h3 => ?_) (fun h3 => ?_)
 ·
  simp only [HS] at h3;refine eK 2 Z (nB (Ao Z (sG (eK 3 Z (kZ [0,2,3,105] Z (eZ Z (nB ?_)))))));refine AC Z (fun h4 => ?_) (fun h4 => ?_)
  ·
   simp only [HS] at h4
   have hk1 : 1 ≤ k := by omega
   obtain ⟨g, hg⟩ : ∃ g, v.fs[k - 1]? = some g := ⟨_, List.getElem?_eq_getElem (by omega)⟩
   obtain ⟨b0, b1, b2, b3, b4, b5, b6, b7⟩ := hok.below g hk1 hg
   have hkg : (v.fs.take k)[k - 1]? = some g := by rw [List.getElem?_take_of_lt (by omega)]; exact hg
   have htk : (v.fs.take k).length = k := by rw [Qk]; omega
   refine rG (eK 3 Z (WO_le (Le.close (u := 100) 1100 Z Z Z) (nZ Z (WO_le (Le.closeR (u := 101) 1101 Z Z) (nZ Z ?_)))));refine AK (rid := 99) [100, 101] Z Z (lt_of Z) Z Z (by repeat (first | exact ResP.done | refine ResP.pin0 1100 Z ?_ | refine ResP.pin0 1101 Z ?_ | refine ResP.t ?_ | refine ResP.pinR 1101 Z (by first | rfl | omega) ?_ | refine ResP.nil 1 ?_ | refine ResP.nil' ?_ | refine ResP.own ?_ | refine ResP.sl Z Z (by first | omega | (simp; omega)) ?_ | refine ResP.aggT (by repeat (first | exact ResP.done | refine ResP.t ?_)) ?_)) Z (by repeat (first | exact trivial | refine ⟨rfl, rfl, ?_⟩)) (by decide) (BI bm x inp u0 u1 most bf cap (v.fs.take k) k htk v.trace v.used v.code v.value v.made (v.notes ++ [⟨3, f.id, 0⟩]) (by omega) (by omega) (k - 1) g 2 f.value hkg Z b0 b1 hok.xl b2 b3) Z Z Z ?_;refine nZ Z (WO_le (Le.open (u := 100) 1100 Z Z Z Z) (nZ Z (WO_le (Le.openR (u := 101) 1101 Z Z) (nZ Z (oN (bN ?_))))));refine AA (Le.closeR (u := 101) 1101 Z Z) ?_; refine AB Z ?_; refine AA (Le.rowVn (id := 101) k Z (by simp; omega)) ?_; refine AB Z ?_; refine AA (Le.claimBox (u := 100) (j := 3) (idp := 101) Z Z Z Z) ?_; refine AB Z ?_;refine AA (Le.close (u := 100) 1100 Z Z Z) (AB Z (AF ?_));refine eP [_] ?_ ?_
   ·rfl
   ·first
    | (have hm : f.mode = 2 := (by omega); exact (congrArg (fun q => [Blk.obox (.pointer (some ⟨bm, 0, none⟩)) (mV u0 u1 most q)]) (QN hm hk1 htk hkg)).symm)
  simp only [HS] at h4;refine sG (eK 4 Z (nB ?_));refine AC Z (fun h5 => ?_) (fun h5 => ?_)
  ·
   simp only [HS] at h5
   have hk1 : 1 ≤ k := by omega
   obtain ⟨g, hg⟩ : ∃ g, v.fs[k - 1]? = some g := ⟨_, List.getElem?_eq_getElem (by omega)⟩
   obtain ⟨b0, b1, b2, b3, b4, b5, b6, b7⟩ := hok.below g hk1 hg
   have hkg : (v.fs.take k)[k - 1]? = some g := by rw [List.getElem?_take_of_lt (by omega)]; exact hg
   have htk : (v.fs.take k).length = k := by rw [Qk]; omega
   refine rG (eZ Z (WO_le (Le.close (u := 100) 1100 Z Z Z) (nZ Z (WO_le (Le.closeR (u := 101) 1101 Z Z) (nZ Z ?_)))));refine AK (rid := 99) [100, 101] Z Z (lt_of Z) Z Z (by repeat (first | exact ResP.done | refine ResP.pin0 1100 Z ?_ | refine ResP.pin0 1101 Z ?_ | refine ResP.t ?_ | refine ResP.pinR 1101 Z (by first | rfl | omega) ?_ | refine ResP.nil 1 ?_ | refine ResP.nil' ?_ | refine ResP.own ?_ | refine ResP.sl Z Z (by first | omega | (simp; omega)) ?_ | refine ResP.aggT (by repeat (first | exact ResP.done | refine ResP.t ?_)) ?_)) Z (by repeat (first | exact trivial | refine ⟨rfl, rfl, ?_⟩)) (by decide) (BI bm x inp u0 u1 most bf cap (v.fs.take k) k htk v.trace v.used v.code v.value v.made (v.notes ++ [⟨3, f.id, 0⟩]) (by omega) (by omega) (k - 1) g 3 0 hkg Z b0 b1 hok.xl b2 b3) Z Z Z ?_;refine nZ Z (WO_le (Le.open (u := 100) 1100 Z Z Z Z) (nZ Z (WO_le (Le.openR (u := 101) 1101 Z Z) (nZ Z (oN (bN ?_))))));refine AA (Le.closeR (u := 101) 1101 Z Z) ?_; refine AB Z ?_; refine AA (Le.rowVn (id := 101) k Z (by simp; omega)) ?_; refine AB Z ?_; refine AA (Le.claimBox (u := 100) (j := 3) (idp := 101) Z Z Z Z) ?_; refine AB Z ?_;refine AA (Le.close (u := 100) 1100 Z Z Z) (AB Z (AF ?_));refine eP [_] ?_ ?_
   ·rfl
   ·first
    | (exfalso; omega)
  simp only [HS] at h5;refine sG (eK 2 Z (nB ?_));refine AC Z (fun h6 => ?_) (fun h6 => ?_)
  ·
   simp only [HS] at h6;refine kY [0,2] Z (BJ 8 [[], [100], [100], [100], [], [], [], []] mixed Z (by kernel_rfl) (by kernel_rfl) (Ab (QG_ev tys Z Z (lt_of Z) Z (QG_nil (QH_G (QG_ev tys Z Z (lt_of Z) Z (QG_nil (QH_G (QG_ev tys Z Z (lt_of Z) Z (QG_nil (QH_G (QG_ev tys Z Z (lt_of Z) Z (QG_nil (Ab (QG_nil' rfl Z (lt_of Z) Z Z Z ?_)))))))))))))));refine QG_nil (Ab (QG_ev tys Z Z (lt_of Z) Z (QG_nil (Ab (QG_ev tys Z Z (lt_of Z) Z (QG_nil (Ec tys 10007 Z Z Z Z Z Z Z Z Z (Qe Z) (QH_nil ?_))))))));refine ⟨by kernel_rfl, ?_⟩;refine nZ Z (AE rfl Z (lt_of Z) Z Z Z (eK 2 Z (sT Z (nZ Z (oN (bN ?_))))));refine AA (Le.closeR (u := 101) 1101 Z Z) ?_; refine AB Z ?_; refine AA (Le.rowVn (id := 101) k Z (by simp; omega)) ?_; refine AB Z ?_; refine AA (Le.claimBox (u := 100) (j := 3) (idp := 101) Z Z Z Z) ?_; refine AB Z ?_;refine AA (Le.close (u := 100) 1100 Z Z Z) (AB Z (AF ?_));refine eP [_] ?_ ?_
   ·rfl
   ·first
    | (exfalso; omega)
  simp only [HS] at h6;refine sQ ?_
  have hk1 : 1 ≤ k := by omega
  obtain ⟨g, hg⟩ : ∃ g, v.fs[k - 1]? = some g := ⟨_, List.getElem?_eq_getElem (by omega)⟩
  obtain ⟨b0, b1, b2, b3, b4, b5, b6, b7⟩ := hok.below g hk1 hg
  have hkg : (v.fs.take k)[k - 1]? = some g := by rw [List.getElem?_take_of_lt (by omega)]; exact hg
  have htk : (v.fs.take k).length = k := by rw [Qk]; omega
  have hca := Aa b0 b1
  rw [hca] at b5 b7
  have hpa : (pushF g f.res).at' = g.at' := rfl
  refine kY [0,2] Z (rG (eZ Z ?_));refine AQ (rid := 99) [100] 1101 (k - 1) Z Z (lt_of Z) Z Z (by repeat (first | exact ResP.done | refine ResP.t ?_ | refine ResP.pin0 1100 Z ?_ | refine ResP.pinR 1100 Z (by first | rfl | omega) ?_ | refine ResP.nil 1 ?_ | refine ResP.nil' ?_ | refine ResP.own ?_ | refine ResP.sl Z Z (by first | omega | (simp; omega)) ?_)) Z (by repeat (first | exact trivial | refine ⟨OpenAs.same Z rfl, ?_⟩ | refine ⟨OpenAs.box 1100 Z Z Z Z rfl, ?_⟩ | refine ⟨OpenAs.row 1100 Z Z rfl, ?_⟩)) (by decide) (CU bm x inp u0 u1 most bf k cap v.trace v.used v.code v.value v.made (v.notes ++ [⟨3, f.id, 0⟩]) (by omega) (by omega) (by omega)) Z Z (by first | rfl | omega) ?_;refine eZ Z (nB (sQ (sQ (AV mixed (by kernel_rfl) (evQ ?_)))));refine AL rfl Z (lt_of Z) Z Z Z (evQ ?_);refine AI Z (evQ ?_);refine A7 tys 99 0 Z Z (lt_of Z) Z Z Z Z (evQ ?_);refine AL rfl Z (lt_of Z) Z Z Z (evQ ?_);refine Ae tys Z Z (lt_of Z) Z Z Z Z (AM hkg) Z (AI Z (Ai tys Z Z (lt_of Z) Z Z Z Z Z Z Z (by omega) _ (BT _ _ (by omega) (by omega)) (evQ ?_)));refine evQ ?_;refine evQ ?_;refine AL rfl Z (lt_of Z) Z Z Z (evQ ?_);refine AI Z (Ae tys Z Z (lt_of Z) Z Z Z Z (AM hkg) Z (Ai tys Z Z (lt_of Z) Z Z Z Z Z Z Z (by omega) _ (BT _ _ (by omega) (by omega)) (evQ ?_)));refine evQ ?_;refine evQ ?_;refine Ak (tN ?_);refine AC Z (fun h7 => ?_) (fun h7 => ?_)
  ·
   simp only [HS] at h7;refine rG (eK 3 Z (WO_le (Le.closeR (u := 101) 1101 Z Z) (nZ Z ?_)));refine AK (rid := 99) [101] Z Z (lt_of Z) Z Z (by repeat (first | exact ResP.done | refine ResP.pin0 1101 Z ?_ | refine ResP.t ?_ | refine ResP.pinR 1101 Z (by first | rfl | omega) ?_ | refine ResP.nil 1 ?_ | refine ResP.nil' ?_ | refine ResP.own ?_ | refine ResP.sl Z Z (by first | omega | (simp; omega)) ?_ | refine ResP.aggT (by repeat (first | exact ResP.done | refine ResP.t ?_)) ?_)) Z (by repeat (first | exact trivial | refine ⟨rfl, rfl, ?_⟩)) (by decide) (BL bf cap (k - 1) (v.fs.take k) g f.res hkg (by omega) _ _) Z Z Z ?_;refine nZ Z (WO_le (Le.openR (u := 101) 1101 Z Z) (nZ Z (kZ [4] Z (nB (rG (eZ Z (AE rfl Z (lt_of Z) Z Z Z (eZ Z (AG tys Z Z (lt_of Z) Z Z Z Z (AM (AU (g := pushF g f.res) hkg)) Z (evI ?_))))))))));refine AE rfl Z (lt_of Z) Z Z Z (eZ Z ?_)
   first
   | (refine AJ tys _ rfl rfl rfl rfl rfl rfl (AM (AU (g := pushF g f.res) hkg)) rfl (AbsL.v' AbsL.nil') rfl (by decide) (Qe rfl) ?_; refine Ap rfl ?_; refine WO_le (Le.eqK (id := 101) rfl (congrArg (Blk.L 11) (BQ (k := k - 1) (f := goF (pushF g f.res))))) ?_; refine Ap rfl ?_)
   refine nZ Z (oN (bN ?_));refine AA (Le.closeR (u := 101) 1101 Z Z) ?_; refine AB Z ?_; refine AA (Le.rowVn (id := 101) k Z (by simp; omega)) ?_; refine AB Z ?_; refine AA (Le.claimBox (u := 100) (j := 3) (idp := 101) Z Z Z Z) ?_; refine AB Z ?_;refine AA (Le.close (u := 100) 1100 Z Z Z) (AB Z (AF ?_));refine eP [_] ?_ ?_
   ·rfl
   ·first
    | (exfalso; omega)
  simp only [HS] at h7;refine AD (tN (rG (eZ Z (AE rfl Z (lt_of Z) Z Z Z (eZ Z (AG tys Z Z (lt_of Z) Z Z Z Z (AM hkg) Z (kZ [63,66] Z (evI ?_))))))));refine AE rfl Z (lt_of Z) Z Z Z (eZ Z ?_)
  first
  | (refine AJ tys _ rfl rfl rfl rfl rfl rfl (AM hkg) rfl (AbsL.v' AbsL.nil') rfl (by decide) (Qe rfl) ?_; refine Ap rfl ?_; refine WO_le (Le.eqK (id := 101) rfl (congrArg (Blk.L 11) (Av (k := k - 1) (f := goF g)))) ?_; refine Ap rfl ?_)
  refine nZ Z (oN (bN ?_));refine AA (Le.closeR (u := 101) 1101 Z Z) ?_; refine AB Z ?_; refine AA (Le.rowVn (id := 101) k Z (by simp; omega)) ?_; refine AB Z ?_; refine AA (Le.claimBox (u := 100) (j := 3) (idp := 101) Z Z Z Z) ?_; refine AB Z ?_;refine AA (Le.close (u := 100) 1100 Z Z Z) (AB Z (AF ?_));refine eP [_] ?_ ?_
  ·rfl
  ·first
   | (exfalso; omega)
 simp only [HS] at h3;refine eK 3 Z (nB ?_);refine AC Z (fun h4 => ?_) (fun h4 => ?_)
 ·
  simp only [HS] at h4;refine kY [0] Z (rG (eK 2 Z (AE rfl Z (lt_of Z) Z Z Z (eK 2 Z (sT Z (nZ Z (AE rfl Z (lt_of Z) Z Z Z (eK 2 Z (kZ [101] Z (sT Z (nZ Z (oN (bN ?_)))))))))))));refine AA (Le.closeR (u := 101) 1101 Z Z) ?_; refine AB Z ?_; refine AA (Le.rowVn (id := 101) k Z (by simp; omega)) ?_; refine AB Z ?_; refine AA (Le.claimBox (u := 100) (j := 3) (idp := 101) Z Z Z Z) ?_; refine AB Z ?_;refine AA (Le.close (u := 100) 1100 Z Z Z) (AB Z (AF ?_));refine eP [_] ?_ ?_
  ·rfl
  ·first
   | (exfalso; omega)
 simp only [HS] at h4;refine sQ (kY [0,2,3] Z (rG (eK 4 Z (nB ?_))));refine AC Z (fun h5 => ?_) (fun h5 => ?_)
 ·
  simp only [HS] at h5
  have hk1 : 1 ≤ k := by omega
  obtain ⟨g, hg⟩ : ∃ g, v.fs[k - 1]? = some g := ⟨_, List.getElem?_eq_getElem (by omega)⟩
  obtain ⟨b0, b1, b2, b3, b4, b5, b6, b7⟩ := hok.below g hk1 hg
  have hkg : (v.fs.take k)[k - 1]? = some g := by rw [List.getElem?_take_of_lt (by omega)]; exact hg
  have htk : (v.fs.take k).length = k := by rw [Qk]; omega
  refine rG (eK 3 Z (WO_le (Le.close (u := 100) 1100 Z Z Z) (nZ Z (WO_le (Le.closeR (u := 101) 1101 Z Z) (nZ Z ?_)))));refine AK (rid := 99) [100, 101] Z Z (lt_of Z) Z Z (by repeat (first | exact ResP.done | refine ResP.pin0 1100 Z ?_ | refine ResP.pin0 1101 Z ?_ | refine ResP.t ?_ | refine ResP.pinR 1101 Z (by first | rfl | omega) ?_ | refine ResP.nil 1 ?_ | refine ResP.nil' ?_ | refine ResP.own ?_ | refine ResP.sl Z Z (by first | omega | (simp; omega)) ?_ | refine ResP.aggT (by repeat (first | exact ResP.done | refine ResP.t ?_)) ?_)) Z (by repeat (first | exact trivial | refine ⟨rfl, rfl, ?_⟩)) (by decide) (BI bm x inp u0 u1 most bf cap (v.fs.take k) k htk v.trace v.used v.code v.value v.made (v.notes ++ [⟨3, f.id, 0⟩]) (by omega) (by omega) (k - 1) g 2 f.value hkg Z b0 b1 hok.xl b2 b3) Z Z Z ?_;refine nZ Z (WO_le (Le.open (u := 100) 1100 Z Z Z Z) (nZ Z (WO_le (Le.openR (u := 101) 1101 Z Z) (nZ Z (oN (bN ?_))))));refine AA (Le.closeR (u := 101) 1101 Z Z) ?_; refine AB Z ?_; refine AA (Le.rowVn (id := 101) k Z (by simp; omega)) ?_; refine AB Z ?_; refine AA (Le.claimBox (u := 100) (j := 3) (idp := 101) Z Z Z Z) ?_; refine AB Z ?_;refine AA (Le.close (u := 100) 1100 Z Z Z) (AB Z (AF ?_));refine eP [_] ?_ ?_
  ·rfl
  ·first
   | (exfalso; omega)
 simp only [HS] at h5;refine sG (eK 4 Z (nB ?_));refine AC Z (fun h6 => ?_) (fun h6 => ?_)
 ·
  simp only [HS] at h6
  have hk1 : 1 ≤ k := by omega
  obtain ⟨g, hg⟩ : ∃ g, v.fs[k - 1]? = some g := ⟨_, List.getElem?_eq_getElem (by omega)⟩
  obtain ⟨b0, b1, b2, b3, b4, b5, b6, b7⟩ := hok.below g hk1 hg
  have hkg : (v.fs.take k)[k - 1]? = some g := by rw [List.getElem?_take_of_lt (by omega)]; exact hg
  have htk : (v.fs.take k).length = k := by rw [Qk]; omega
  refine kY [0] Z (rG (eZ Z (WO_le (Le.close (u := 100) 1100 Z Z Z) (nZ Z (WO_le (Le.closeR (u := 101) 1101 Z Z) (nZ Z ?_))))));refine AK (rid := 99) [100, 101] Z Z (lt_of Z) Z Z (by repeat (first | exact ResP.done | refine ResP.pin0 1100 Z ?_ | refine ResP.pin0 1101 Z ?_ | refine ResP.t ?_ | refine ResP.pinR 1101 Z (by first | rfl | omega) ?_ | refine ResP.nil 1 ?_ | refine ResP.nil' ?_ | refine ResP.own ?_ | refine ResP.sl Z Z (by first | omega | (simp; omega)) ?_ | refine ResP.aggT (by repeat (first | exact ResP.done | refine ResP.t ?_)) ?_)) Z (by repeat (first | exact trivial | refine ⟨rfl, rfl, ?_⟩)) (by decide) (BI bm x inp u0 u1 most bf cap (v.fs.take k) k htk v.trace v.used v.code v.value v.made (v.notes ++ [⟨3, f.id, 0⟩]) (by omega) (by omega) (k - 1) g 3 0 hkg Z b0 b1 hok.xl b2 b3) Z Z Z ?_;refine nZ Z (WO_le (Le.open (u := 100) 1100 Z Z Z Z) (nZ Z (WO_le (Le.openR (u := 101) 1101 Z Z) (nZ Z (oN (bN ?_))))));refine AA (Le.closeR (u := 101) 1101 Z Z) ?_; refine AB Z ?_; refine AA (Le.rowVn (id := 101) k Z (by simp; omega)) ?_; refine AB Z ?_; refine AA (Le.claimBox (u := 100) (j := 3) (idp := 101) Z Z Z Z) ?_; refine AB Z ?_;refine AA (Le.close (u := 100) 1100 Z Z Z) (AB Z (AF ?_));refine eP [_] ?_ ?_
  ·rfl
  ·first
   | (exfalso; omega)
 simp only [HS] at h6;refine sQ (kY [0,2,3] Z (rG (eK 2 Z (nB ?_))));refine AC Z (fun h7 => ?_) (fun h7 => ?_)
 ·
  simp only [HS] at h7;refine BJ 8 [[], [100], [100], [100], [], [], [], []] mixed Z (by kernel_rfl) (by kernel_rfl) (Ab (QG_ev tys Z Z (lt_of Z) Z (QG_nil (QH_G (QG_ev tys Z Z (lt_of Z) Z (QG_nil (QH_G (QG_ev tys Z Z (lt_of Z) Z (QG_nil (QH_G (QG_ev tys Z Z (lt_of Z) Z (QG_nil (Ab (QG_nil' rfl Z (lt_of Z) Z Z Z (QG_nil ?_)))))))))))))));refine Ab (QG_ev tys Z Z (lt_of Z) Z (QG_nil (Ab (QG_ev tys Z Z (lt_of Z) Z (QG_nil (Ec tys 10007 Z Z Z Z Z Z Z Z Z (Qe Z) (QH_nil ?_)))))));refine ⟨by kernel_rfl, ?_⟩;refine nZ Z (AE rfl Z (lt_of Z) Z Z Z (eK 2 Z (sT Z (nZ Z (oN (bN ?_))))));refine AA (Le.closeR (u := 101) 1101 Z Z) ?_; refine AB Z ?_; refine AA (Le.rowVn (id := 101) k Z (by simp; omega)) ?_; refine AB Z ?_; refine AA (Le.claimBox (u := 100) (j := 3) (idp := 101) Z Z Z Z) ?_; refine AB Z ?_;refine AA (Le.close (u := 100) 1100 Z Z Z) (AB Z (AF ?_));refine eP [_] ?_ ?_
  ·rfl
  ·first
   | (exfalso; omega)
 simp only [HS] at h7;refine sQ ?_
 have hk1 : 1 ≤ k := by omega
 obtain ⟨g, hg⟩ : ∃ g, v.fs[k - 1]? = some g := ⟨_, List.getElem?_eq_getElem (by omega)⟩
 obtain ⟨b0, b1, b2, b3, b4, b5, b6, b7⟩ := hok.below g hk1 hg
 have hkg : (v.fs.take k)[k - 1]? = some g := by rw [List.getElem?_take_of_lt (by omega)]; exact hg
 have htk : (v.fs.take k).length = k := by rw [Qk]; omega
 have hca := Aa b0 b1
 rw [hca] at b5 b7
 have hpa : (pushF g f.res).at' = g.at' := rfl
 refine rG (eZ Z ?_);refine AQ (rid := 99) [100] 1101 (k - 1) Z Z (lt_of Z) Z Z (by repeat (first | exact ResP.done | refine ResP.t ?_ | refine ResP.pin0 1100 Z ?_ | refine ResP.pinR 1100 Z (by first | rfl | omega) ?_ | refine ResP.nil 1 ?_ | refine ResP.nil' ?_ | refine ResP.own ?_ | refine ResP.sl Z Z (by first | omega | (simp; omega)) ?_)) Z (by repeat (first | exact trivial | refine ⟨OpenAs.same Z rfl, ?_⟩ | refine ⟨OpenAs.box 1100 Z Z Z Z rfl, ?_⟩ | refine ⟨OpenAs.row 1100 Z Z rfl, ?_⟩)) (by decide) (CU bm x inp u0 u1 most bf k cap v.trace v.used v.code v.value v.made (v.notes ++ [⟨3, f.id, 0⟩]) (by omega) (by omega) (by omega)) Z Z (by first | rfl | omega) ?_;refine eZ Z (nB (sQ (sQ (AV mixed (by kernel_rfl) (evQ ?_)))));refine AI Z (AL rfl Z (lt_of Z) Z Z Z (evQ ?_));refine evQ ?_;refine A7 tys 99 0 Z Z (lt_of Z) Z Z Z Z (evQ ?_);refine AL rfl Z (lt_of Z) Z Z Z (AI Z (evQ ?_));refine Ae tys Z Z (lt_of Z) Z Z Z Z (AM hkg) Z (Ai tys Z Z (lt_of Z) Z Z Z Z Z Z Z (by omega) _ (BT _ _ (by omega) (by omega)) (evQ ?_));refine evQ ?_;refine evQ ?_;refine AI Z (AL rfl Z (lt_of Z) Z Z Z (evQ ?_));refine Ae tys Z Z (lt_of Z) Z Z Z Z (AM hkg) Z (Ai tys Z Z (lt_of Z) Z Z Z Z Z Z Z (by omega) _ (BT _ _ (by omega) (by omega)) (evQ ?_));refine evQ ?_;refine AI Z (evQ ?_);refine Ak (tN ?_);refine AC Z (fun h8 => ?_) (fun h8 => ?_)
 ·
  simp only [HS] at h8;refine rG (eK 3 Z (WO_le (Le.closeR (u := 101) 1101 Z Z) (nZ Z ?_)));refine AK (rid := 99) [101] Z Z (lt_of Z) Z Z (by repeat (first | exact ResP.done | refine ResP.pin0 1101 Z ?_ | refine ResP.t ?_ | refine ResP.pinR 1101 Z (by first | rfl | omega) ?_ | refine ResP.nil 1 ?_ | refine ResP.nil' ?_ | refine ResP.own ?_ | refine ResP.sl Z Z (by first | omega | (simp; omega)) ?_ | refine ResP.aggT (by repeat (first | exact ResP.done | refine ResP.t ?_)) ?_)) Z (by repeat (first | exact trivial | refine ⟨rfl, rfl, ?_⟩)) (by decide) (BL bf cap (k - 1) (v.fs.take k) g f.res hkg (by omega) _ _) Z Z Z ?_;refine nZ Z (WO_le (Le.openR (u := 101) 1101 Z Z) (nZ Z (nB (rG (eZ Z (AE rfl Z (lt_of Z) Z Z Z (eZ Z (AG tys Z Z (lt_of Z) Z Z Z Z (AM (AU (g := pushF g f.res) hkg)) Z (kZ [63,66] Z (evI ?_))))))))));refine AE rfl Z (lt_of Z) Z Z Z (eZ Z ?_)
  first
  | (refine AJ tys _ rfl rfl rfl rfl rfl rfl (AM (AU (g := pushF g f.res) hkg)) rfl (AbsL.v' AbsL.nil') rfl (by decide) (Qe rfl) ?_; refine Ap rfl ?_; refine WO_le (Le.eqK (id := 101) rfl (congrArg (Blk.L 11) (BQ (k := k - 1) (f := goF (pushF g f.res))))) ?_; refine Ap rfl ?_)
  refine nZ Z (oN (bN ?_));refine AA (Le.closeR (u := 101) 1101 Z Z) ?_; refine AB Z ?_; refine AA (Le.rowVn (id := 101) k Z (by simp; omega)) ?_; refine AB Z ?_; refine AA (Le.claimBox (u := 100) (j := 3) (idp := 101) Z Z Z Z) ?_; refine AB Z ?_;refine AA (Le.close (u := 100) 1100 Z Z Z) (AB Z (AF ?_));refine eP [_] ?_ ?_
  ·rfl
  ·first
   | (exfalso; omega)
 simp only [HS] at h8;refine AD (tN (rG (eZ Z (AE rfl Z (lt_of Z) Z Z Z (eZ Z (AG tys Z Z (lt_of Z) Z Z Z Z (AM hkg) Z (evI ?_)))))));refine AE rfl Z (lt_of Z) Z Z Z (eZ Z ?_)
 first
 | (refine AJ tys _ rfl rfl rfl rfl rfl rfl (AM hkg) rfl (AbsL.v' AbsL.nil') rfl (by decide) (Qe rfl) ?_; refine Ap rfl ?_; refine WO_le (Le.eqK (id := 101) rfl (congrArg (Blk.L 11) (Av (k := k - 1) (f := goF g)))) ?_; refine Ap rfl ?_)
 refine nZ Z (kZ [] Z (oN (bN ?_)));refine AA (Le.closeR (u := 101) 1101 Z Z) ?_; refine AB Z ?_; refine AA (Le.rowVn (id := 101) k Z (by simp; omega)) ?_; refine AB Z ?_; refine AA (Le.claimBox (u := 100) (j := 3) (idp := 101) Z Z Z Z) ?_; refine AB Z ?_;refine AA (Le.close (u := 100) 1100 Z Z Z) (AB Z (AF ?_));refine eP [_] ?_ ?_
 ·rfl
 ·first
  | (exfalso; omega)
open Go.Eng
theorem D1 (n : Int) : Fun Tryz.prog 78 [.t (.int n)] (Ay [.t (.int (w32 n))]) := by
 refine Fun.begin tys Tryz.func78 Z Z (N := 6) [(0, .t (.int n))] Z Z (fun w0 G F0 => ?_);refine sG (eZ Z (nA (eZ Z (Ci (td := .int .i64) (k := .i32) Z Z (lt_of Z) Z (by kernel_rfl) (by kernel_rfl) Z (Ci (td := .int .i32) (k := .i64) Z Z (lt_of Z) Z (by kernel_rfl) (by kernel_rfl) Z (eZ Z (nB (rT (eR ?_)))))))))
 ·rfl
theorem D7 {a a' : Int} {b b' : Bool} (h : a = a') (h' : b = b') : [D.t (T.v (Value.int .i64 a)), D.t (T.v (Value.bool b))] = [D.t (T.int a'), D.t (T.bool b')] := by rw [h, h']
theorem MT (op x y : Int) : Fun Tryz.prog 48 [.t (.int op), .t (.int x), .t (.int y)] (Ay [.t (.int (reckV op x y)), .t (.bool (A8 op x y).isSome)]) := by
 refine Fun.begin tys Tryz.func48 Z Z (N := 45) [(0, .t (.int op)), (1, .t (.int x)), (2, .t (.int y))] Z Z (fun w0 G F0 => ?_);refine sG (eK 2 Z (nA (eZ Z (nB (sQ (sG (eZ Z (nB (AH (sG (eK 2 Z (nB ?_))))))))))));refine AC Z (fun h1 => ?_) (fun h1 => ?_)
 ·
  simp only [HS] at h1;refine sG (eK 3 Z (kZ [6,7,8,17] Z (AS ?_)));refine ⟨_, D1 _, rfl, ?_⟩;refine eK 2 Z (nB (rT (bR (tR (eR ?_)))))
  ·exact D7 (by grind [reckV, A8, w64]) (by grind [A8])
 simp only [HS] at h1;refine sG (eK 2 Z (nB ?_));refine AC Z (fun h2 => ?_) (fun h2 => ?_)
 ·
  simp only [HS] at h2;refine sQ (kY [1,2,6,7,8] Z (rG (eK 3 Z (AS ?_))));refine ⟨_, D1 _, rfl, ?_⟩;refine eK 2 Z (nB (rT (bR (tR (eR ?_)))))
  ·exact D7 (by grind [reckV, A8, w64]) (by grind [A8])
 simp only [HS] at h2;refine sQ (kY [1,2,6,7,8,9] Z (rG (eK 2 Z (nB ?_))));refine AC Z (fun h3 => ?_) (fun h3 => ?_)
 ·
  simp only [HS] at h3;refine sG (eK 3 Z (AS ?_));refine ⟨_, D1 _, rfl, ?_⟩;refine eK 2 Z (nB (rT (bR (tR (eR ?_)))))
  ·exact D7 (by grind [reckV, A8, w64]) (by grind [A8])
 simp only [HS] at h3;refine sG (eK 2 Z (nB ?_));refine AC Z (fun h4 => ?_) (fun h4 => ?_)
 ·
  simp only [HS] at h4;refine sQ (sG (eK 2 Z (nB ?_)));refine AC Z (fun h5 => ?_) (fun h5 => ?_)
  ·
   simp only [HS] at h5;refine sG (eK 2 Z (nB (rT (tR (bR (tR (eR ?_)))))))
   ·exact D7 (by grind [reckV, A8, w64]) (by grind [A8])
  simp only [HS] at h5;refine AD (tN (sG (eK 2 Z (Pm Z Z (lt_of Z) Z Z Z (by first | decide | omega) ?_))));refine kZ [6,7,8,37] Z (AS ?_);refine ⟨_, D1 _, rfl, ?_⟩;refine eK 2 Z (nB (rT (bR (tR (eR ?_)))))
  ·exact D7 (by grind [reckV, A8, w64]) (by grind [A8])
 simp only [HS] at h4;refine sG (eK 2 Z (nB ?_));refine AC Z (fun h5 => ?_) (fun h5 => ?_)
 ·
  simp only [HS] at h5;refine rG (eK 3 Z (kZ [6,7,8,43] Z (eZ Z (oN (bN (tN (sQ (sG (eZ Z (nB ?_))))))))));refine AC Z (fun h6 => ?_) (fun h6 => ?_)
  ·
   simp only [HS] at h6;refine sG (eK 2 Z (nB (rT (tR (eR ?_)))))
   ·exact D7 (by grind [reckV, A8, w64]) (by grind [A8])
  simp only [HS] at h6;refine AD (tN (sG (eK 2 Z (nB (rT (eR ?_))))))
  ·exact D7 (by grind [reckV, A8, w64]) (by grind [A8])
 simp only [HS] at h5;refine rG (eK 3 Z (kZ [6,7,8,12] Z (eZ Z (oN (bN (tN (sQ (sG (eZ Z (nB ?_))))))))));refine AC Z (fun h6 => ?_) (fun h6 => ?_)
 ·
  simp only [HS] at h6;refine sG (eK 2 Z (nB (rT (tR (eR ?_)))))
  ·exact D7 (by grind [reckV, A8, w64]) (by grind [A8])
 simp only [HS] at h6;refine AD (tN (sG (eK 2 Z (nB (rT (eR ?_))))))
 ·exact D7 (by grind [reckV, A8, w64]) (by grind [A8])
def secI (l : List Int) : Int := lastI (l.take (l.length - 1))
def pop2F (f : Frame) : Frame := popF (popF f)
def goAt (k : Nat) (fs : List Frame) : List Frame := match fs[k]? with | some g => fs.set k (goF g) | none => fs
def setV (v : Vm) (k : Nat) (f : Frame) : Vm := { v with fs := v.fs.set k f }
def Ip (x : Image) (most : Int) (k : Nat) (f : Frame) (fn p : Int) (off : Bool) (v : Vm) : Vm :=
 { v with fs := Cu x most v.made v.fs k f fn p off, code := if most ≤ v.fs.length then 4 else v.code, made := if most ≤ v.fs.length then v.made else v.made + 1 }
def offF (f : Frame) (i : Ins) : Frame := { f with flags := f.flags.set i.n.toNat false }
def offV (x : Image) (most : Int) (k : Nat) (f : Frame) (i : Ins) (v : Vm) : Vm :=
 if most ≤ v.fs.length then { v with code := 4 } else
 { v with fs := v.fs.set k (offF f i) ++ [newF x v.made (atI (codeAt x f.fn).sites i.n) [] true], made := v.made + 1, notes := v.notes ++ [⟨2, f.id, i.n⟩] }
def Ma (inp : List Int) (i : Ins) (k : Nat) (f : Frame) (v : Vm) : Vm :=
 { v with fs := goAt k (Ah inp v.used i k f v.fs), trace := plainTr i f v.trace, used := plainUs inp i v.used, notes := plainNo i f v.notes }
def Oz (i : Ins) : Prop := i.op ≠ 10 ∧ i.op ≠ 11 ∧ i.op ≠ 4 ∧ i.op ≠ 13 ∧ i.op ≠ 14 ∧ i.op ≠ 16 ∧ i.op ≠ 7 ∧ i.op ≠ 17 ∧ i.op ≠ 18
def A9 (x : Image) (inp : List Int) (most : Int) (k : Nat) (f : Frame) (i : Ins) (v : Vm) : Vm :=
 if i.op = 10 then setV v k { f with at' := i.n } else
 if i.op = 11 then (if lastI f.pile = 0 then setV v k { popF f with at' := i.n } else setV v k (goF (popF f))) else
 if i.op = 4 then (if (A8 i.n (secI f.pile) (lastI f.pile)).isSome = true then setV v k (goF (pushF (pop2F f) (reckV i.n (secI f.pile) (lastI f.pile)))) else setV v k (raiseF x 2 (-1) (pop2F f))) else
 if i.op = 13 then setV v k (raiseF x 2 (lastI f.pile) (popF f)) else
 if i.op = 14 then setV v k (raiseF x 3 0 f) else
 if i.op = 16 then setV v k { f with mode := 1, at' := padX (codeAt x f.fn).rows f.at' } else
 if i.op = 7 then Ip x most k f i.n (codeAt x i.n).params false v else
 if i.op = 17 then (if Cc f.flags i.n = true then offV x most k f i v else setV v k (goF f)) else
 if i.op = 18 then Hk x k f v else Ma inp i k f v
structure Iz (x : Image) (inp : List Int) (v : Vm) (k : Nat) (f : Frame) (i : Ins) : Prop where
 fn0 : 0 ≤ f.fn
 fn1 : f.fn < x.codes.length
 xl : x.codes.length ≤ 1048576
 at0 : 0 ≤ f.at'
 at1 : f.at' < (codeAt x f.fn).ins.length
 il : (codeAt x f.fn).ins.length ≤ 1048576
 rl : (codeAt x f.fn).rows.length ≤ 1048576
 row : i.op = 4 ∨ i.op = 13 ∨ i.op = 14 ∨ i.op = 16 → 0 ≤ rowX (codeAt x f.fn).rows f.at'
 pile : f.pile.length ≤ 100
 p1 : i.op = 11 ∨ i.op = 13 → 1 ≤ f.pile.length
 p2 : i.op = 4 → 2 ≤ f.pile.length
 call : i.op = 7 → F8 x v.made i.n (codeAt x i.n).params f
 off : i.op = 17 → 0 ≤ i.n ∧ i.n < f.flags.length ∧ i.n < (codeAt x f.fn).sites.length ∧ F8 x v.made (atI (codeAt x f.fn).sites i.n) 0 f
 en : i.op = 18 → Qb x v.fs k
 pl : Oz i → Ju inp v.used i k f
 fl : f.flags.length ≤ 1000
 nl : v.notes.length ≤ 1000000
 tl : v.trace.length ≤ 1000000
theorem LD {inp : List Int} {used : Int} {i : Ins} {k : Nat} {f : Frame} {fs : List Frame} (hk : fs[k]? = some f) : ∃ g, (Ah inp used i k f fs)[k]? = some g ∧ g.at' = f.at' := by
 have hlt := Bs hk
 unfold Ah D9;split
 ·split
  ·split
   ·split
    ·exact ⟨_, List.getElem?_set_self (by rw [Qo]; exact hlt), rfl⟩
    ·exact ⟨_, AU hk, rfl⟩
   ·exact ⟨_, AU hk, rfl⟩
  ·exact ⟨_, AU hk, rfl⟩
 ·refine ⟨_, AU hk, ?_⟩
  unfold plainF
  (repeat' split) <;> rfl
theorem cutF0 {f : Frame} : cutF f 0 = f := by
 unfold cutF; rw [show f.pile.take (f.pile.length - (0 : Int).toNat) = f.pile from RO]
theorem Na {x : Image} {most made : Int} {fs : List Frame} {k : Nat} {f : Frame} {fn : Int} {off : Bool} (h : ¬ most ≤ (fs.length : Int)) (hk : fs[k]? = some f) : Cu x most made fs k f fn 0 off = fs ++ [newF x made fn [] off] := by
 rw [Cu, if_neg h, cutF0, fr_same hk, show f.pile.drop (f.pile.length - (0 : Int).toNat) = [] from List.drop_length]
theorem Kc {fs : List Frame} {k : Nat} {f : Frame} {v : T} {i : Ins} : ((fs.map Frame.tt).set k (T.agg (f.tt.cells.set 5 v))).set k (.agg ((T.agg (f.tt.cells.set 5 v)).cells.set 5 (.list 1 ((f.flags.map T.bool).set i.n.toNat (T.bool false))))) = (fs.set k (offF f i)).map Frame.tt := by
 rw [Q4, ← Av, offF, ← RR]; rfl
theorem Aw {inp : List Int} {used : Int} {i : Ins} {k : Nat} {f : Frame} {fs : List Frame} : (Ah inp used i k f fs).length = fs.length := by
 unfold Ah D9
 (repeat' split) <;> simp
theorem JK {x : Image} {inp : List Int} {most : Int} {k : Nat} {f : Frame} {i : Ins} {v : Vm} (h : i.op = 10) : A9 x inp most k f i v = ⟨v.fs.set k { f with at' := i.n }, v.trace, v.used, v.code, v.value, v.made, v.notes⟩ := by simp [A9, setV, h]
theorem Gt {x : Image} {inp : List Int} {most : Int} {k : Nat} {f : Frame} {i : Ins} {v : Vm} (h : i.op = 11) (h0 : lastI f.pile = 0) : A9 x inp most k f i v = ⟨(v.fs.set k (popF f)).set k { popF f with at' := i.n }, v.trace, v.used, v.code, v.value, v.made, v.notes⟩ := by simp [A9, setV, h, h0]
theorem Gs {x : Image} {inp : List Int} {most : Int} {k : Nat} {f : Frame} {i : Ins} {v : Vm} (h : i.op = 11) (h0 : ¬ lastI f.pile = 0) : A9 x inp most k f i v = ⟨(v.fs.set k (popF f)).set k (goF (popF f)), v.trace, v.used, v.code, v.value, v.made, v.notes⟩ := by simp [A9, setV, h, h0]
theorem MC {x : Image} {inp : List Int} {most : Int} {k : Nat} {f : Frame} {i : Ins} {v : Vm} (h : i.op = 4) (h0 : (A8 i.n (secI f.pile) (lastI f.pile)).isSome = true) : A9 x inp most k f i v = ⟨(((v.fs.set k (popF f)).set k (pop2F f)).set k (pushF (pop2F f) (reckV i.n (secI f.pile) (lastI f.pile)))).set k (goF (pushF (pop2F f) (reckV i.n (secI f.pile) (lastI f.pile)))), v.trace, v.used, v.code, v.value, v.made, v.notes⟩ := by simp [A9, setV, h, h0]
theorem MB {x : Image} {inp : List Int} {most : Int} {k : Nat} {f : Frame} {i : Ins} {v : Vm} (h : i.op = 4) (h0 : ¬ (A8 i.n (secI f.pile) (lastI f.pile)).isSome = true) : A9 x inp most k f i v = ⟨((v.fs.set k (popF f)).set k (pop2F f)).set k (raiseF x 2 (-1) (pop2F f)), v.trace, v.used, v.code, v.value, v.made, v.notes⟩ := by simp only [A9, setV, h, if_neg h0]; simp
theorem JJ {x : Image} {inp : List Int} {most : Int} {k : Nat} {f : Frame} {i : Ins} {v : Vm} (h : i.op = 13) : A9 x inp most k f i v = ⟨(v.fs.set k (popF f)).set k (raiseF x 2 (lastI f.pile) (popF f)), v.trace, v.used, v.code, v.value, v.made, v.notes⟩ := by simp [A9, setV, h]
theorem JI {x : Image} {inp : List Int} {most : Int} {k : Nat} {f : Frame} {i : Ins} {v : Vm} (h : i.op = 14) : A9 x inp most k f i v = ⟨v.fs.set k (raiseF x 3 0 f), v.trace, v.used, v.code, v.value, v.made, v.notes⟩ := by simp [A9, setV, h]
theorem JH {x : Image} {inp : List Int} {most : Int} {k : Nat} {f : Frame} {i : Ins} {v : Vm} (h : i.op = 16) : A9 x inp most k f i v = ⟨(v.fs.set k { f with mode := 1 }).set k { f with mode := 1, at' := padX (codeAt x f.fn).rows f.at' }, v.trace, v.used, v.code, v.value, v.made, v.notes⟩ := by simp [A9, setV, h]
theorem J1 {x : Image} {inp : List Int} {most : Int} {k : Nat} {f : Frame} {i : Ins} {v : Vm} {p : Int} (h : i.op = 7) (hp : (codeAt x i.n).params = p) : A9 x inp most k f i v = Ip x most k f i.n p false v := by subst hp; simp [A9, h]
theorem J4 {x : Image} {inp : List Int} {most : Int} {k : Nat} {f : Frame} {i : Ins} {v : Vm} {n : Int} (h : i.op = 17) (h0 : Cc f.flags i.n = true) (hm : most ≤ (v.fs.length : Int)) : A9 x inp most k f i v = Ip x most k f n 0 true v := by simp [A9, h, h0, offV, Ip, Cu, hm]
theorem J3 {x : Image} {inp : List Int} {most : Int} {k : Nat} {f : Frame} {i : Ins} {v : Vm} {n : Int} {fs2 : List Frame} (h : i.op = 17) (h0 : Cc f.flags i.n = true) (hm : ¬ most ≤ (v.fs.length : Int)) (hn : atI (codeAt x f.fn).sites i.n = n) (h2 : v.fs ++ [newF x v.made n [] true] = fs2) (hk : k < v.fs.length) : A9 x inp most k f i v = ⟨fs2.set k (offF f i), v.trace, v.used, v.code, v.value, v.made + 1, v.notes ++ [⟨2, f.id, i.n⟩]⟩ := by
 subst h2; subst hn;simp only [A9, h, h0, offV, if_neg hm]
 simp [List.set_append_left _ _ hk]
theorem J2 {x : Image} {inp : List Int} {most : Int} {k : Nat} {f : Frame} {i : Ins} {v : Vm} (h : i.op = 17) (h0 : ¬ Cc f.flags i.n = true) : A9 x inp most k f i v = ⟨v.fs.set k (goF f), v.trace, v.used, v.code, v.value, v.made, v.notes⟩ := by simp only [A9, setV, h, if_neg h0]; simp
theorem JG {x : Image} {inp : List Int} {most : Int} {k : Nat} {f : Frame} {i : Ins} {v : Vm} (h : i.op = 18) : A9 x inp most k f i v = Hk x k f v := by simp [A9, h]
theorem Gr {x : Image} {inp : List Int} {most : Int} {k : Nat} {f : Frame} {i : Ins} {v : Vm} {g : Frame} (h : Oz i) (hg : (Ah inp v.used i k f v.fs)[k]? = some g) : A9 x inp most k f i v = ⟨(Ah inp v.used i k f v.fs).set k (goF g), plainTr i f v.trace, plainUs inp i v.used, v.code, v.value, v.made, plainNo i f v.notes⟩ := by
 obtain ⟨h1, h2, h3, h4, h5, h6, h7, h8, h9⟩ := h
 simp only [A9, if_neg h1, if_neg h2, if_neg h3, if_neg h4, if_neg h5, if_neg h6, if_neg h7, if_neg h8, if_neg h9, Ma, goAt, hg]
theorem Er {l : List Bool} {k : Int} {b : Bool} (h0 : 0 ≤ k) (h1 : k < l.length) (h : (l[k.toNat]'(by omega)) = b) : Cc l k = b := by
 rw [Cc, List.getElem?_eq_getElem (by omega)]; exact h
theorem MD (bm : Nat) (x : Image) (inp : List Int) (u0 u1 : Value) (most : Int) (v : Vm) (k : Nat) (f : Frame) (i : Ins) (hi : Ac (codeAt x f.fn) f.at' = i) (hk : v.fs[k]? = some f) (hkl : k = v.fs.length - 1) (hfl : v.fs.length ≤ 1000) (hok : Iz x inp v k f i) : Proc Tryz.prog 27 [.t (.v (.pointer (some ⟨bm, 0, none⟩)))] ([u0, u1]) ([T.Codes x.codes, T.ints inp]) [.obox (.pointer (some ⟨bm, 0, none⟩)) (mV u0 u1 most v)] (.tup []) [.obox (.pointer (some ⟨bm, 0, none⟩)) (mV u0 u1 most (A9 x inp most k f i v))] := by
 have hlt := Bs hk
 obtain ⟨a0, a1, a2, a3, a4, a5, a6, a7, a8, a9, a10, a11, a12, a13, a14, a15, a16, a17⟩ := hok
 have hca := Aa a0 a1
 rw [hca] at a4 a5
 have hi' : x.codes[f.fn.toNat].ins[f.at'.toNat] = i := by rw [← hi, hca, BK a3 a4]
 refine Proc.intro tys Tryz.func27 Z Z (N := 174) [100] 99 ([(0, .t (.v (.pointer (some ⟨bm, 0, none⟩))))]) ([(100, .obox (.pointer (some ⟨bm, 0, none⟩)) (mV u0 u1 most v)), (99, .ro [u0, u1] [T.Codes x.codes, T.ints inp])]) Z Z Z Z (by decide) (by decide) Z (fun w0 G F0 => ?_);refine nY Z (W_le (Le.openNew (u := 100) 1100 Z Z Z Z Z) (nY Z (W_le (Le.named (t := 0) (u := 100) 1100 Z Z) (nY Z ?_))));refine Ad (u := 100) (j := 3) 101 Z Z Z (fun v3 => ?_);refine nY Z ?_;refine Dq (id := 101) Z (by intro h; have := congrArg List.length h; rw [Qc, Qz] at this; omega) (fun bf cap hv3 hcap => ?_);rw [Qc] at hv3 hcap;subst hv3;refine nY Z (W_le (Le.nameR (u := 101) 1101 Z Z Z Z) (nY Z (B1 (sG (eZ Z ?_)))));refine AQ (rid := 99) [100] 1101 (k) Z Z (lt_of Z) Z Z (by repeat (first | exact ResP.done | refine ResP.t ?_ | refine ResP.pin0 1100 Z ?_ | refine ResP.pinR 1100 Z (by first | rfl | omega) ?_ | refine ResP.nil 1 ?_ | refine ResP.nil' ?_ | refine ResP.own ?_ | refine ResP.sl Z Z (by first | omega | (simp; omega)) ?_)) Z (by repeat (first | exact trivial | refine ⟨OpenAs.same Z rfl, ?_⟩ | refine ⟨OpenAs.box 1100 Z Z Z Z rfl, ?_⟩ | refine ⟨OpenAs.row 1100 Z Z rfl, ?_⟩)) (by decide) (CU bm x inp u0 u1 most bf v.fs.length cap v.trace v.used v.code v.value v.made v.notes (by omega) hcap (by omega)) Z Z (by first | rfl | omega) ?_;refine eZ Z (nB (sQ (B0 19 mixed Z (by kernel_rfl) (by kernel_rfl) (QG_ev tys Z Z (lt_of Z) Z (QG_nil' rfl Z (lt_of Z) Z Z Z (QG_ev tys Z Z (lt_of Z) Z (BX Z (QG_ev tys Z Z (lt_of Z) Z (F3 tys 99 0 Z Z (lt_of Z) Z Z Z Z (QG_ev tys Z Z (lt_of Z) Z (QG_nil' rfl Z (lt_of Z) Z Z Z (QG_ev tys Z Z (lt_of Z) Z (DE tys Z Z (lt_of Z) Z Z Z Z (AM hk) Z (BX Z (F6 tys Z Z (lt_of Z) Z Z Z Z Z Z Z (by omega) _ (BT _ _ (by omega) (by omega)) ?_)))))))))))))));refine QG_ev tys Z Z (lt_of Z) Z (QG_ev tys Z Z (lt_of Z) Z (QG_ev tys Z Z (lt_of Z) Z (QG_nil' rfl Z (lt_of Z) Z Z Z (QG_ev tys Z Z (lt_of Z) Z (BX Z (DE tys Z Z (lt_of Z) Z Z Z Z (AM hk) Z (F6 tys Z Z (lt_of Z) Z Z Z Z Z Z Z (by omega) _ (BT _ _ (by omega) (by omega)) (QG_ev tys Z Z (lt_of Z) Z (Di tys Z Z (lt_of Z) Z Z Z Z (QG_nil ?_))))))))));refine ⟨by kernel_rfl, ?_⟩;refine nZ Z (sT Z (nZ Z (nB (sQ (sQ (W_le (Le.eqK (id := 3) Z (k' := .box [.t (T.int i.op), .t (T.int i.n)]) (by rw [hi'])) ?_))))));refine nY Z (rG (eK 2 Z (nB (AH (sG (eK 2 Z (nB ?_)))))));refine AC Z (fun h1 => ?_) (fun h1 => ?_)
 ·
  simp only [HS] at h1;refine sG (eK 3 Z (AE rfl Z (lt_of Z) Z Z Z (kZ [2,37,38] Z (eZ Z (AJ tys _ Z Z Z Z Z Z (AM hk) Z (AbsL.v' AbsL.nil') Z (by decide) (Qe Z) (nZ Z (WO_le (Le.eqK (id := 101) Z (congrArg (Blk.L 11) (Av (k := k) (f := { f with at' := i.n })))) (nZ Z (nZ Z (nB (rT (bR (tR ?_)))))))))))))
  (refine AA (Le.closeR (u := 101) 1101 rfl rfl) ?_; refine AB rfl ?_; refine AA (Le.rowVn (id := 101) v.fs.length rfl (by simp [Aw])) ?_; refine AB rfl ?_; refine AA (Le.claimBox (u := 100) (j := 3) (idp := 101) rfl rfl rfl rfl) ?_; refine AB rfl ?_)
  refine AA (Le.close (u := 100) 1100 Z Z Z) (AB Z (AF ?_));refine eP [_] ?_ ?_
  ·rfl
  ·first
   | exact (congrArg (fun q => [Blk.obox (.pointer (some ⟨bm, 0, none⟩)) (mV u0 u1 most q)]) (JK (by assumption))).symm
 simp only [HS] at h1;refine sG (eK 2 Z (nB ?_));refine AC Z (fun h2 => ?_) (fun h2 => ?_)
 ·
  simp only [HS] at h2;refine sQ ?_
  have hp1 := a9 (by omega)
  have hg : (v.fs.set k (popF f))[k]? = some (popF f) := AU hk
  have hga : (popF f).at' = f.at' := rfl
  refine kY [2,3] Z (rG (eZ Z (WO_le (Le.closeR (u := 101) 1101 Z Z) (nZ Z ?_))));refine AK (rid := 99) [101] Z Z (lt_of Z) Z Z (by repeat (first | exact ResP.done | refine ResP.pin0 1101 Z ?_ | refine ResP.t ?_ | refine ResP.pinR 1101 Z (by first | rfl | omega) ?_ | refine ResP.nil 1 ?_ | refine ResP.nil' ?_ | refine ResP.own ?_ | refine ResP.sl Z Z (by first | omega | (simp; omega)) ?_ | refine ResP.aggT (by repeat (first | exact ResP.done | refine ResP.t ?_)) ?_)) Z (by repeat (first | exact trivial | refine ⟨rfl, rfl, ?_⟩)) (by decide) (C3 bf cap k v.fs f hk (by omega) hp1 _ _) Z Z Z ?_;refine nZ Z (WO_le (Le.openR (u := 101) 1101 Z Z) (nZ Z (eZ Z (nB ?_))));refine AC Z (fun h3 => ?_) (fun h3 => ?_)
  ·
   simp only [HS] at h3;refine sG (eK 3 Z (AE rfl Z (lt_of Z) Z Z Z (eZ Z (AJ tys _ Z Z Z Z Z Z (AM hg) Z (AbsL.v' AbsL.nil') Z (by decide) (Qe Z) (nZ Z (WO_le (Le.eqK (id := 101) Z (congrArg (Blk.L 11) (Av (k := k) (f := { popF f with at' := i.n })))) (nZ Z (nZ Z (kZ [2] Z (nB (rT (bR (tR ?_)))))))))))))
   (refine AA (Le.closeR (u := 101) 1101 rfl rfl) ?_; refine AB rfl ?_; refine AA (Le.rowVn (id := 101) v.fs.length rfl (by simp [Aw])) ?_; refine AB rfl ?_; refine AA (Le.claimBox (u := 100) (j := 3) (idp := 101) rfl rfl rfl rfl) ?_; refine AB rfl ?_)
   refine AA (Le.close (u := 100) 1100 Z Z Z) (AB Z (AF ?_));refine eP [_] ?_ ?_
   ·rfl
   ·first
    | exact (congrArg (fun q => [Blk.obox (.pointer (some ⟨bm, 0, none⟩)) (mV u0 u1 most q)]) (Gt (by assumption) (by assumption))).symm
  simp only [HS] at h3;refine AD (bN (tN ?_))
  skip
  refine rG (eZ Z (AE rfl Z (lt_of Z) Z Z Z (eZ Z (AG tys Z Z (lt_of Z) Z Z Z Z (AM hg) Z (evI ?_)))));refine AE rfl Z (lt_of Z) Z Z Z (kZ [171,172] Z (eZ Z (AJ tys _ Z Z Z Z Z Z (AM hg) Z (AbsL.v' AbsL.nil') Z (by decide) (Qe Z) (nZ Z ?_))))
  first
  | refine WO_le (Le.eqK (id := 101) rfl (congrArg (Blk.L 11) (Av (k := k) (f := goF (popF f))))) ?_
  refine nZ Z (nZ Z (oN ?_))
  (refine AA (Le.closeR (u := 101) 1101 rfl rfl) ?_; refine AB rfl ?_; refine AA (Le.rowVn (id := 101) v.fs.length rfl (by simp [Aw])) ?_; refine AB rfl ?_; refine AA (Le.claimBox (u := 100) (j := 3) (idp := 101) rfl rfl rfl rfl) ?_; refine AB rfl ?_)
  refine AA (Le.close (u := 100) 1100 Z Z Z) (AB Z (AF ?_));refine eP [_] ?_ ?_
  ·rfl
  ·first
   | exact (congrArg (fun q => [Blk.obox (.pointer (some ⟨bm, 0, none⟩)) (mV u0 u1 most q)]) (Gs (by assumption) (by assumption))).symm
 simp only [HS] at h2;refine sQ (kY [0,2,3,28] Z (rG (eK 2 Z (nB ?_))));refine AC Z (fun h3 => ?_) (fun h3 => ?_)
 ·
  simp only [HS] at h3;refine sQ ?_
  have hp1 := a10 (by omega)
  have hg1 : (v.fs.set k (popF f))[k]? = some (popF f) := AU hk
  have hpl : (popF f).pile.length = f.pile.length - 1 := by show (f.pile.take (f.pile.length - 1)).length = _; rw [Qk]; omega
  have hg2 : ((v.fs.set k (popF f)).set k (pop2F f))[k]? = some (pop2F f) := AU hg1
  have hpl2 : (pop2F f).pile.length = f.pile.length - 1 - 1 := by show ((popF f).pile.take ((popF f).pile.length - 1)).length = _; rw [Qk]; omega
  have hg : (((v.fs.set k (popF f)).set k (pop2F f)).set k (pushF (pop2F f) (reckV i.n (secI f.pile) (lastI f.pile))))[k]? = some (pushF (pop2F f) (reckV i.n (secI f.pile) (lastI f.pile))) := AU hg2
  have hga : (pushF (pop2F f) (reckV i.n (secI f.pile) (lastI f.pile))).at' = f.at' := rfl
  refine rG (eZ Z (WO_le (Le.closeR (u := 101) 1101 Z Z) (nZ Z ?_)));refine AK (rid := 99) [101] Z Z (lt_of Z) Z Z (by repeat (first | exact ResP.done | refine ResP.pin0 1101 Z ?_ | refine ResP.t ?_ | refine ResP.pinR 1101 Z (by first | rfl | omega) ?_ | refine ResP.nil 1 ?_ | refine ResP.nil' ?_ | refine ResP.own ?_ | refine ResP.sl Z Z (by first | omega | (simp; omega)) ?_ | refine ResP.aggT (by repeat (first | exact ResP.done | refine ResP.t ?_)) ?_)) Z (by repeat (first | exact trivial | refine ⟨rfl, rfl, ?_⟩)) (by decide) (C3 bf cap k v.fs f hk (by omega) (by omega) _ _) Z Z Z ?_;refine nZ Z (WO_le (Le.openR (u := 101) 1101 Z Z) (nZ Z (eZ Z (nB (sQ (W_le (Le.closeR (u := 101) 1101 Z Z) (nY Z (DS [[101], [101], [], [], [101], [], [], [], [], [], []] mixed (by kernel_rfl) (QH_G (QG_ev tys Z Z (lt_of Z) Z (QG_nil (QH_G (QG_ev tys Z Z (lt_of Z) Z (QG_nil (Ab ?_)))))))))))))));refine QG_ev tys Z Z (lt_of Z) Z (QG_nil ?_);refine Dh (rid := 99) [101] Z Z (lt_of Z) Z Z (by repeat (first | exact ResP.done | refine ResP.pin0 1101 Z ?_ | refine ResP.t ?_ | refine ResP.pinR 1101 Z (by first | rfl | omega) ?_ | refine ResP.nil 1 ?_ | refine ResP.nil' ?_ | refine ResP.own ?_ | refine ResP.sl Z Z (by first | omega | (simp; omega)) ?_ | refine ResP.aggT (by repeat (first | exact ResP.done | refine ResP.t ?_)) ?_)) Z (by repeat (first | exact trivial | refine ⟨rfl, rfl, ?_⟩)) (by decide) (C3 bf cap k (v.fs.set k (popF f)) (popF f) hg1 (by omega) (by omega) _ _) Z Z Z ?_;refine QH_G (QG_ev tys Z Z (lt_of Z) Z (QG_nil (Ab (Nb ?_))));refine ⟨_, MT _ _ _, rfl, ?_⟩;refine QG_nil (Ab (QG_ev tys Z Z (lt_of Z) Z (QG_nil (Ab (QG_ev tys Z Z (lt_of Z) Z (QG_nil (Ab (QG_ev tys Z Z (lt_of Z) Z (QG_nil (Ab (QG_ev tys Z Z (lt_of Z) Z (QG_nil (Ab (QG_ev tys Z Z (lt_of Z) Z (QG_nil ?_)))))))))))))));refine QH_nil ?_;refine ⟨by kernel_rfl, ?_⟩;refine nZ Z (WO_le (Le.openR (u := 101) 1101 Z Z) (nZ Z (nB (sQ (sG (eK 2 Z (nB ?_)))))));refine AC Z (fun h4 => ?_) (fun h4 => ?_)
  ·
   simp only [HS] at h4;refine sG (eZ Z (WO_le (Le.close (u := 100) 1100 Z Z Z) (nZ Z (WO_le (Le.closeR (u := 101) 1101 Z Z) (nZ Z ?_)))));refine AK (rid := 99) [100, 101] Z Z (lt_of Z) Z Z (by repeat (first | exact ResP.done | refine ResP.pin0 1100 Z ?_ | refine ResP.pin0 1101 Z ?_ | refine ResP.t ?_ | refine ResP.pinR 1101 Z (by first | rfl | omega) ?_ | refine ResP.nil 1 ?_ | refine ResP.nil' ?_ | refine ResP.own ?_ | refine ResP.sl Z Z (by first | omega | (simp; omega)) ?_ | refine ResP.aggT (by repeat (first | exact ResP.done | refine ResP.t ?_)) ?_)) Z (by repeat (first | exact trivial | refine ⟨rfl, rfl, ?_⟩)) (by decide) (BI bm x inp u0 u1 most bf cap ((v.fs.set k (popF f)).set k (pop2F f)) v.fs.length (by simp) v.trace v.used v.code v.value v.made v.notes hcap (by omega) k (pop2F f) 2 (-1) hg2 hkl a0 a1 a2 a6 (a7 (by omega))) Z Z Z ?_;refine nZ Z (WO_le (Le.open (u := 100) 1100 Z Z Z Z) (nZ Z (WO_le (Le.openR (u := 101) 1101 Z Z) (nZ Z (nB (rT (tR (bR (tR ?_)))))))))
   (refine AA (Le.closeR (u := 101) 1101 rfl rfl) ?_; refine AB rfl ?_; refine AA (Le.rowVn (id := 101) v.fs.length rfl (by simp [Aw])) ?_; refine AB rfl ?_; refine AA (Le.claimBox (u := 100) (j := 3) (idp := 101) rfl rfl rfl rfl) ?_; refine AB rfl ?_)
   refine AA (Le.close (u := 100) 1100 Z Z Z) (AB Z (AF ?_));refine eP [_] ?_ ?_
   ·rfl
   ·first
    | exact (congrArg (fun q => [Blk.obox (.pointer (some ⟨bm, 0, none⟩)) (mV u0 u1 most q)]) (MB (by assumption) (by have e : (A8 i.n (lastI (popF f).pile) (lastI f.pile)).isSome = false := (by assumption); exact fun h => by rw [show secI f.pile = lastI (popF f).pile from rfl, e] at h; cases h))).symm
  simp only [HS] at h4;refine AD (tN (rG (eK 2 Z (WO_le (Le.closeR (u := 101) 1101 Z Z) (nZ Z ?_)))));refine AK (rid := 99) [101] Z Z (lt_of Z) Z Z (by repeat (first | exact ResP.done | refine ResP.pin0 1101 Z ?_ | refine ResP.t ?_ | refine ResP.pinR 1101 Z (by first | rfl | omega) ?_ | refine ResP.nil 1 ?_ | refine ResP.nil' ?_ | refine ResP.own ?_ | refine ResP.sl Z Z (by first | omega | (simp; omega)) ?_ | refine ResP.aggT (by repeat (first | exact ResP.done | refine ResP.t ?_)) ?_)) Z (by repeat (first | exact trivial | refine ⟨rfl, rfl, ?_⟩)) (by decide) (BL bf cap k ((v.fs.set k (popF f)).set k (pop2F f)) (pop2F f) (reckV i.n (secI f.pile) (lastI f.pile)) hg2 (by omega) _ _) Z Z Z ?_;refine nZ Z (WO_le (Le.openR (u := 101) 1101 Z Z) (nZ Z (oN (bN (tN ?_)))))
  skip
  refine rG (eZ Z (AE rfl Z (lt_of Z) Z Z Z (eZ Z (AG tys Z Z (lt_of Z) Z Z Z Z (AM hg) Z (kZ [167,170] Z (evI ?_))))));refine AE rfl Z (lt_of Z) Z Z Z (eZ Z (AJ tys _ Z Z Z Z Z Z (AM hg) Z (AbsL.v' AbsL.nil') Z (by decide) (Qe Z) (nZ Z ?_)))
  first
  | refine WO_le (Le.eqK (id := 101) rfl (congrArg (Blk.L 11) (Av (k := k) (f := goF (pushF (pop2F f) (reckV i.n (secI f.pile) (lastI f.pile))))))) ?_
  refine nZ Z (nZ Z (oN ?_))
  (refine AA (Le.closeR (u := 101) 1101 rfl rfl) ?_; refine AB rfl ?_; refine AA (Le.rowVn (id := 101) v.fs.length rfl (by simp [Aw])) ?_; refine AB rfl ?_; refine AA (Le.claimBox (u := 100) (j := 3) (idp := 101) rfl rfl rfl rfl) ?_; refine AB rfl ?_)
  refine AA (Le.close (u := 100) 1100 Z Z Z) (AB Z (AF ?_));refine eP [_] ?_ ?_
  ·rfl
  ·first
   | exact (congrArg (fun q => [Blk.obox (.pointer (some ⟨bm, 0, none⟩)) (mV u0 u1 most q)]) (MC (by assumption) (by first | assumption | (simp_all; done)))).symm
 simp only [HS] at h3;refine sG (eK 2 Z (nB ?_));refine AC Z (fun h4 => ?_) (fun h4 => ?_)
 ·
  simp only [HS] at h4;refine sQ ?_
  have hp1 := a9 (by omega)
  have hg1 : (v.fs.set k (popF f))[k]? = some (popF f) := AU hk
  refine rG (eK 2 Z (WO_le (Le.closeR (u := 101) 1101 Z Z) (nZ Z ?_)));refine AK (rid := 99) [101] Z Z (lt_of Z) Z Z (by repeat (first | exact ResP.done | refine ResP.pin0 1101 Z ?_ | refine ResP.t ?_ | refine ResP.pinR 1101 Z (by first | rfl | omega) ?_ | refine ResP.nil 1 ?_ | refine ResP.nil' ?_ | refine ResP.own ?_ | refine ResP.sl Z Z (by first | omega | (simp; omega)) ?_ | refine ResP.aggT (by repeat (first | exact ResP.done | refine ResP.t ?_)) ?_)) Z (by repeat (first | exact trivial | refine ⟨rfl, rfl, ?_⟩)) (by decide) (C3 bf cap k v.fs f hk (by omega) hp1 _ _) Z Z Z ?_;refine nZ Z (WO_le (Le.openR (u := 101) 1101 Z Z) (nZ Z (WO_le (Le.close (u := 100) 1100 Z Z Z) (nZ Z (WO_le (Le.closeR (u := 101) 1101 Z Z) (nZ Z ?_))))));refine AK (rid := 99) [100, 101] Z Z (lt_of Z) Z Z (by repeat (first | exact ResP.done | refine ResP.pin0 1100 Z ?_ | refine ResP.pin0 1101 Z ?_ | refine ResP.t ?_ | refine ResP.pinR 1101 Z (by first | rfl | omega) ?_ | refine ResP.nil 1 ?_ | refine ResP.nil' ?_ | refine ResP.own ?_ | refine ResP.sl Z Z (by first | omega | (simp; omega)) ?_ | refine ResP.aggT (by repeat (first | exact ResP.done | refine ResP.t ?_)) ?_)) Z (by repeat (first | exact trivial | refine ⟨rfl, rfl, ?_⟩)) (by decide) (BI bm x inp u0 u1 most bf cap (v.fs.set k (popF f)) v.fs.length (by simp) v.trace v.used v.code v.value v.made v.notes hcap (by omega) k (popF f) 2 (lastI f.pile) hg1 hkl a0 a1 a2 a6 (a7 (by omega))) Z Z Z ?_;refine nZ Z (WO_le (Le.open (u := 100) 1100 Z Z Z Z) (nZ Z (WO_le (Le.openR (u := 101) 1101 Z Z) (nZ Z (nB (rT (bR (tR ?_))))))))
  (refine AA (Le.closeR (u := 101) 1101 rfl rfl) ?_; refine AB rfl ?_; refine AA (Le.rowVn (id := 101) v.fs.length rfl (by simp [Aw])) ?_; refine AB rfl ?_; refine AA (Le.claimBox (u := 100) (j := 3) (idp := 101) rfl rfl rfl rfl) ?_; refine AB rfl ?_)
  refine AA (Le.close (u := 100) 1100 Z Z Z) (AB Z (AF ?_));refine eP [_] ?_ ?_
  ·rfl
  ·first
   | exact (congrArg (fun q => [Blk.obox (.pointer (some ⟨bm, 0, none⟩)) (mV u0 u1 most q)]) (JJ (by assumption))).symm
 simp only [HS] at h4;refine sG (eK 2 Z (nB ?_));refine AC Z (fun h5 => ?_) (fun h5 => ?_)
 ·
  simp only [HS] at h5;refine sG (eZ Z (WO_le (Le.close (u := 100) 1100 Z Z Z) (nZ Z (WO_le (Le.closeR (u := 101) 1101 Z Z) (nZ Z ?_)))));refine AK (rid := 99) [100, 101] Z Z (lt_of Z) Z Z (by repeat (first | exact ResP.done | refine ResP.pin0 1100 Z ?_ | refine ResP.pin0 1101 Z ?_ | refine ResP.t ?_ | refine ResP.pinR 1101 Z (by first | rfl | omega) ?_ | refine ResP.nil 1 ?_ | refine ResP.nil' ?_ | refine ResP.own ?_ | refine ResP.sl Z Z (by first | omega | (simp; omega)) ?_ | refine ResP.aggT (by repeat (first | exact ResP.done | refine ResP.t ?_)) ?_)) Z (by repeat (first | exact trivial | refine ⟨rfl, rfl, ?_⟩)) (by decide) (BI bm x inp u0 u1 most bf cap v.fs v.fs.length (by simp) v.trace v.used v.code v.value v.made v.notes hcap (by omega) k f 3 0 hk hkl a0 a1 a2 a6 (a7 (by omega))) Z Z Z ?_;refine nZ Z (WO_le (Le.open (u := 100) 1100 Z Z Z Z) (nZ Z (WO_le (Le.openR (u := 101) 1101 Z Z) (nZ Z (nB (rT (bR (tR ?_))))))))
  (refine AA (Le.closeR (u := 101) 1101 rfl rfl) ?_; refine AB rfl ?_; refine AA (Le.rowVn (id := 101) v.fs.length rfl (by simp [Aw])) ?_; refine AB rfl ?_; refine AA (Le.claimBox (u := 100) (j := 3) (idp := 101) rfl rfl rfl rfl) ?_; refine AB rfl ?_)
  refine AA (Le.close (u := 100) 1100 Z Z Z) (AB Z (AF ?_));refine eP [_] ?_ ?_
  ·rfl
  ·first
   | exact (congrArg (fun q => [Blk.obox (.pointer (some ⟨bm, 0, none⟩)) (mV u0 u1 most q)]) (JI (by assumption))).symm
 simp only [HS] at h5;refine sG (eK 2 Z (nB ?_));refine AC Z (fun h6 => ?_) (fun h6 => ?_)
 ·
  simp only [HS] at h6;refine sQ (kY [0,2] Z (rG (eZ Z (AE rfl Z (lt_of Z) Z Z Z (eZ Z (AJ tys _ Z Z Z Z Z Z (AM hk) Z (AbsL.v' AbsL.nil') Z (by decide) (Qe Z) (nZ Z (WO_le (Le.eqK (id := 101) Z (congrArg (Blk.L 11) (Av (k := k) (f := { f with mode := 1 })))) (nZ Z (nZ Z (nB (sQ ?_))))))))))))
  have hg1 : (v.fs.set k { f with mode := 1 })[k]? = some { f with mode := 1 } := AU hk
  refine rG (eK 3 Z ?_);refine DT (rid := 99) [100, 101] Z Z (lt_of Z) Z Z (by repeat (first | exact ResP.done | refine ResP.t ?_ | refine ResP.pin0 1100 Z ?_ | refine ResP.pinR 1100 Z (by first | rfl | omega) ?_ | refine ResP.pin0 1101 Z ?_ | refine ResP.pinR 1101 Z (by first | rfl | omega) ?_ | refine ResP.nil 1 ?_ | refine ResP.nil' ?_ | refine ResP.own ?_ | refine ResP.sl Z Z (by first | omega | (simp; omega)) ?_)) Z (by repeat (first | exact trivial | refine ⟨OpenAs.same Z rfl, ?_⟩ | refine ⟨OpenAs.box 1100 Z Z Z Z rfl, ?_⟩ | refine ⟨OpenAs.row 1100 Z Z rfl, ?_⟩ | refine ⟨OpenAs.box 1101 Z Z Z Z rfl, ?_⟩ | refine ⟨OpenAs.row 1101 Z Z rfl, ?_⟩)) (by decide) (KG bm x inp u0 u1 most bf cap (v.fs.set k { f with mode := 1 }) v.fs.length (by simp) v.trace v.used v.code v.value v.made v.notes hcap (by omega) k { f with mode := 1 } hg1 a0 a1 a2 a6 (a7 (by omega))) Z Z ?_;refine AE rfl Z (lt_of Z) Z Z Z (kZ [2,88,89] Z (eZ Z (AJ tys _ Z Z Z Z Z Z (AM hg1) Z (AbsL.v' AbsL.nil') Z (by decide) (Qe Z) (nZ Z (WO_le (Le.eqK (id := 101) Z (congrArg (Blk.L 11) (Av (k := k) (f := { f with mode := 1, at' := padX (codeAt x f.fn).rows f.at' })))) (nZ Z (nZ Z (nB (rT (bR (tR ?_)))))))))))
  (refine AA (Le.closeR (u := 101) 1101 rfl rfl) ?_; refine AB rfl ?_; refine AA (Le.rowVn (id := 101) v.fs.length rfl (by simp [Aw])) ?_; refine AB rfl ?_; refine AA (Le.claimBox (u := 100) (j := 3) (idp := 101) rfl rfl rfl rfl) ?_; refine AB rfl ?_)
  refine AA (Le.close (u := 100) 1100 Z Z Z) (AB Z (AF ?_));refine eP [_] ?_ ?_
  ·rfl
  ·first
   | exact (congrArg (fun q => [Blk.obox (.pointer (some ⟨bm, 0, none⟩)) (mV u0 u1 most q)]) (JH (by assumption))).symm
 simp only [HS] at h6;refine sQ (kY [0,2,3,28] Z (rG (eK 2 Z (nB ?_))));refine AC Z (fun h7 => ?_) (fun h7 => ?_)
 ·
  simp only [HS] at h7;refine sQ ?_
  have hcl := a11 (by omega)
  have hcn := Aa hcl.fn0 hcl.fn1
  have hc0 := hcl.fn0
  have hc1 := hcl.fn1
  rw [hcn] at hcl;refine W_le (Le.closeR (u := 101) 1101 Z Z) (nY Z (W_le (Le.rowVn (id := 101) v.fs.length Z (by simp [Aw])) ?_));refine nY Z (W_le (Le.claimBox (u := 100) (j := 3) (idp := 101) Z Z Z Z) (nY Z (A4 13 mixed Z (by kernel_rfl) (by kernel_rfl) (evQ ?_))));refine evQ ?_;refine evQ ?_;refine evQ ?_;refine AI Z (AL rfl Z (lt_of Z) Z Z Z (evQ ?_));refine evQ ?_;refine A7 tys 99 0 Z Z (lt_of Z) Z Z Z Z (evQ ?_);refine evQ ?_;refine AI Z (Ai tys Z Z (lt_of Z) Z Z Z Z Z Z Z (by omega) _ (BT _ _ (by omega) (by omega)) (evQ ?_));refine evQ ?_;refine Ak (WO_le (Le.close (u := 100) 1100 Z Z Z) (nZ Z ?_));refine cP [100] (hm := (Iq bm x inp u0 u1 most v.fs v.trace v.used v.code v.value v.made v.notes k f i.n _ false hk hkl hfl hcl)) (k := ?_);refine nZ Z (WO_le (Le.open (u := 100) 1100 Z Z Z Z) (nZ Z (nB (rT (bR (tR ?_))))))
  skip
  refine AA (Le.close (u := 100) 1100 Z Z Z) (AB Z (AF ?_));refine eP [_] ?_ ?_
  ·rfl
  ·first
   | exact (congrArg (fun q => [Blk.obox (.pointer (some ⟨bm, 0, none⟩)) (mV u0 u1 most q)]) (J1 (by assumption) (congrArg Code.params hcn))).symm
 simp only [HS] at h7;refine sG (eK 2 Z (nB ?_));refine AC Z (fun h8 => ?_) (fun h8 => ?_)
 ·
  simp only [HS] at h8;refine sQ ?_
  have hof := a12 (by omega)
  obtain ⟨c0, c1, c2, hcl⟩ := hof
  rw [hca] at c2 hcl;rw [BV c0 c2] at hcl
  have hfm : (f.flags.map T.bool).length = f.flags.length := Qc ..
  have hg := hk
  have hga : f.at' = f.at' := rfl
  refine Bg (id := 101) (i := k) (off := 5) (z := f.tt) 202 1202 335 Z As (AM hk) Z (by intro h; have := congrArg List.length h; rw [Qc, Qz] at this; omega) Z Z Z Z Z Z (fun b2 cap2 hcap2 => ?_);refine nY Z ?_
  have hz := List.getElem?_set_self (a := (T.agg (f.tt.cells.set 5 (.v (.slice (some ⟨b2, 0, none⟩) (f.flags.map T.bool).length cap2))))) (Bu hk)
  refine AV mixed (by kernel_rfl) (evQ ?_);refine AL rfl Z (lt_of Z) Z Z Z (AI Z (evQ ?_));refine CA tys 1202 Z Z (lt_of Z) Z Z Z Z hz Z Z hcap2 (evQ ?_);refine evQ ?_;refine CD tys Z Z (lt_of Z) Z Z Z Z Z Z Z Z (by omega) (by omega) (Ae tys Z Z (lt_of Z) Z Z Z Z (BN _ _ (by omega) (by omega)) Z (AI Z (Ak (tN ?_))));refine AC Z (fun h9 => ?_) (fun h9 => ?_)
  ·
   refine sQ (sQ (W_le (Le.claimL (id := 101) (id2 := 202) (pid := 1202) (i := k) (off := 5) Z Z Z hz Z (by rfl) Z) ?_));refine nY Z (W_le (Le.eqK (id := 101) Z (congrArg (Blk.L 11) (En hk Z))) (nY Z (A4 17 mixed Z (by kernel_rfl) (by kernel_rfl) (evQ ?_))));refine evQ ?_;refine AL rfl Z (lt_of Z) Z Z Z (evQ ?_);refine evQ ?_;refine A7 tys 99 0 Z Z (lt_of Z) Z Z Z Z (AI Z (evQ ?_));refine AL rfl Z (lt_of Z) Z Z Z (evQ ?_);refine Ae tys Z Z (lt_of Z) Z Z Z Z (AM hk) Z (Ai tys Z Z (lt_of Z) Z Z Z Z Z Z Z (by omega) _ (BT _ _ (by omega) (by omega)) (evQ ?_));refine AI Z (evQ ?_);refine evQ ?_;refine evQ ?_;refine Ai tys Z Z (lt_of Z) Z Z Z Z Z Z Z (by omega) _ (BT _ _ (by omega) (by omega)) (evQ ?_);refine Ak (WO_le (Le.closeR (u := 101) 1101 Z Z) (nZ Z (WO_le (Le.rowVn (id := 101) v.fs.length Z (by simp [Aw])) ?_)));refine nZ Z (WO_le (Le.claimBox (u := 100) (j := 3) (idp := 101) Z Z Z Z) (nZ Z (WO_le (Le.close (u := 100) 1100 Z Z Z) (nZ Z ?_))));refine cP [100] (hm := (Iq bm x inp u0 u1 most v.fs v.trace v.used v.code v.value v.made v.notes k f _ 0 true hk hkl hfl hcl)) (k := ?_);refine nZ Z (WO_le (Le.open (u := 100) 1100 Z Z Z Z) (nZ Z (nB ?_)));refine AC Z (fun h10 => ?_) (fun h10 => ?_)
   ·
    simp only [HS] at h10;refine sQ ?_
    have hmo : ¬ most ≤ (v.fs.length : Int) := by first | omega | simp_all
    have hf2 : Cu x most v.made v.fs k f (x.codes[f.fn.toNat].sites[i.n.toNat]'(by omega)) 0 true = v.fs ++ [newF x v.made (x.codes[f.fn.toNat].sites[i.n.toNat]'(by omega)) [] true] := Na hmo hk
    refine W_le (Le.eqK (id := 100) Z (k' := .box (mO u0 u1 most (v.fs ++ [newF x v.made (x.codes[f.fn.toNat].sites[i.n.toNat]'(by omega)) [] true]) v.trace v.used v.code v.value (v.made + 1) v.notes)) (by simp only [hf2, if_neg hmo])) ?_;refine nY Z ?_
    obtain ⟨fs2, hfs2⟩ : ∃ l, v.fs ++ [newF x v.made (x.codes[f.fn.toNat].sites[i.n.toNat]'(by omega)) [] true] = l := ⟨_, rfl⟩
    rw [hfs2]
    have hl2 : fs2.length = v.fs.length + 1 := by rw [← hfs2, Qf]; rfl
    have hk2 : fs2[k]? = some f := by rw [← hfs2, List.getElem?_append_left hlt]; exact hk
    refine Ad (u := 100) (j := 3) 102 Z Z Z (fun v3 => ?_);refine nY Z ?_;refine Dq (id := 102) Z (by intro h; have := congrArg List.length h; rw [Qc, Qz] at this; omega) (fun bf cap hv3 hcap => ?_);rw [Qc] at hv3 hcap;subst hv3;refine nY Z (W_le (Le.nameR (u := 102) 1103 Z Z Z Z) (nY Z (AV mixed (by kernel_rfl) (evQ ?_))));refine AL rfl Z (lt_of Z) Z Z Z (evQ ?_);refine evQ ?_;refine evQ ?_;refine AI Z (evQ ?_);refine AL rfl Z (lt_of Z) Z Z Z (evQ ?_);refine evQ ?_;refine evQ ?_;refine DD Z Z (lt_of Z) Z ⟨61, by kernel_rfl⟩ rfl (AI Z (Lx ?_));refine DU tys Z Z (lt_of Z) Z Z Z Z Z Z (by omega) (by omega) (evQ ?_);refine Ak (tN (sQ (W_le (Le.namedR (t := 2) (u := 102) 1103 k 0 Z Z (by show ((fs2.length : Int) - 2).toNat * 11 = k * 11 + 0; omega)) ?_)));refine nY Z ?_;refine Bg (id := 102) (i := k) (off := 5) (z := f.tt) 203 1203 336 Z As (AM hk2) Z (by intro h; have := congrArg List.length h; rw [Qc, Qz] at this; omega) Z Z Z Z Z Z (fun b3 cap3 hcap3 => ?_);refine nY Z ?_
    have hz3 := List.getElem?_set_self (a := (T.agg (f.tt.cells.set 5 (.v (.slice (some ⟨b3, 0, none⟩) (f.flags.map T.bool).length cap3))))) (Bu hk2)
    refine A4 7 mixed Z (by kernel_rfl) (by kernel_rfl) (evQ ?_);refine AL rfl Z (lt_of Z) Z Z Z (evQ ?_);refine AI Z (CA tys 1203 Z Z (lt_of Z) Z Z Z Z hz3 Z Z hcap3 (evQ ?_));refine evQ ?_;refine CD tys Z Z (lt_of Z) Z Z Z Z Z Z Z Z (by omega) (by omega) (Ak (Al tys (T.bool false) Z Z Z Z Z Z (Qv _) (by omega) Z (AbsL.v' AbsL.nil') Z Z Z (nZ Z (WO_le (Le.claimL (id := 102) (id2 := 203) (pid := 1203) (i := k) (off := 5) Z Z Z hz3 Z (by rw [Qo]) Z) ?_))));refine nZ Z (WO_le (Le.eqK (id := 102) Z (congrArg (Blk.L 11) (Kc (fs := fs2) (k := k) (f := f) (i := i)))) (nZ Z (nZ Z (nB (A4 7 mixed Z (by kernel_rfl) (by kernel_rfl) (evQ ?_))))));refine evQ ?_;refine AL rfl Z (lt_of Z) Z Z Z (evQ ?_);refine Ae tys Z Z (lt_of Z) Z Z Z Z (AM (AU (g := offF f i) hk2)) Z (AI Z (evQ ?_));refine evQ ?_;refine Ak (WO_le (Le.close (u := 100) 1100 Z Z Z) (nZ Z ?_));refine cP [100] (hm := (FZ bm x inp u0 u1 most bf cap fs2 fs2.length Z v.trace v.used v.code v.value (v.made + 1) v.notes hcap (by omega) 2 f.id i.n a16)) (k := ?_);refine nZ Z (WO_le (Le.open (u := 100) 1100 Z Z Z Z) (nZ Z (nB (rT (bR (tR ?_))))))
    (refine AA (Le.closeR (u := 102) 1103 rfl rfl) ?_; refine AB rfl ?_; refine AA (Le.rowVn (id := 102) fs2.length rfl (by simp)) ?_; refine AB rfl ?_; refine AA (Le.claimBox (u := 100) (j := 3) (idp := 102) rfl rfl rfl rfl) ?_; refine AB rfl ?_)
    refine AA (Le.close (u := 100) 1100 Z Z Z) (AB Z (AF ?_));refine eP [_] ?_ ?_
    ·rfl
    ·first
     | exact (congrArg (fun q => [Blk.obox (.pointer (some ⟨bm, 0, none⟩)) (mV u0 u1 most q)]) (J3 (by assumption) (Er c0 c1 (by assumption)) hmo (by rw [hca, BV c0 c2]) hfs2 hlt)).symm
   simp only [HS] at h10;refine AD (tN (rT (bR (tR ?_))))
   skip
   refine AA (Le.close (u := 100) 1100 Z Z Z) (AB Z (AF ?_));refine eP [_] ?_ ?_
   ·rfl
   ·first
    | exact (congrArg (fun q => [Blk.obox (.pointer (some ⟨bm, 0, none⟩)) (mV u0 u1 most q)]) (J4 (by assumption) (Er c0 c1 (by assumption)) (by omega))).symm
  refine AD (bN (tN ?_))
  (refine W_le (Le.claimL (id := 101) (id2 := 202) (pid := 1202) (i := k) (off := 5) rfl rfl rfl hz rfl (by rfl) rfl) ?_; refine W_norm rfl ?_; refine W_le (Le.eqK (id := 101) rfl (congrArg (Blk.L 11) (En hk rfl))) ?_; refine W_norm rfl ?_)
  refine rG (eZ Z (AE rfl Z (lt_of Z) Z Z Z (eZ Z (AG tys Z Z (lt_of Z) Z Z Z Z (AM hg) Z (evI ?_)))));refine AE rfl Z (lt_of Z) Z Z Z (eZ Z (AJ tys _ Z Z Z Z Z Z (AM hg) Z (AbsL.v' AbsL.nil') Z (by decide) (Qe Z) (nZ Z ?_)))
  first
  | refine WO_le (Le.eqK (id := 101) rfl (congrArg (Blk.L 11) (Av (k := k) (f := goF f)))) ?_
  refine nZ Z (nZ Z (oN ?_))
  (refine AA (Le.closeR (u := 101) 1101 rfl rfl) ?_; refine AB rfl ?_; refine AA (Le.rowVn (id := 101) v.fs.length rfl (by simp [Aw])) ?_; refine AB rfl ?_; refine AA (Le.claimBox (u := 100) (j := 3) (idp := 101) rfl rfl rfl rfl) ?_; refine AB rfl ?_)
  refine AA (Le.close (u := 100) 1100 Z Z Z) (AB Z (AF ?_));refine eP [_] ?_ ?_
  ·rfl
  ·first
   | exact (congrArg (fun q => [Blk.obox (.pointer (some ⟨bm, 0, none⟩)) (mV u0 u1 most q)]) (J2 (by assumption) (by rw [Er (b := false) c0 c1 (by first | assumption | (simp_all; done))]; exact Bool.false_ne_true))).symm
 simp only [HS] at h8;refine sG (eK 2 Z (nB ?_));refine AC Z (fun h9 => ?_) (fun h9 => ?_)
 ·
  simp only [HS] at h9;refine sQ (W_le (Le.closeR (u := 101) 1101 Z Z) (nY Z (W_le (Le.rowVn (id := 101) v.fs.length Z (by simp [Aw])) ?_)));refine nY Z (W_le (Le.claimBox (u := 100) (j := 3) (idp := 101) Z Z Z Z) (nY Z (rG (eZ Z (WO_le (Le.close (u := 100) 1100 Z Z Z) (nZ Z ?_))))));refine cP [100] (hm := (PB bm x inp u0 u1 most v k f hk hkl hfl a16 (a13 (by omega)))) (k := ?_);refine nZ Z (WO_le (Le.open (u := 100) 1100 Z Z Z Z) (nZ Z (nB (rT (bR (tR ?_))))))
  skip
  refine AA (Le.close (u := 100) 1100 Z Z Z) (AB Z (AF ?_));refine eP [_] ?_ ?_
  ·rfl
  ·first
   | exact (congrArg (fun q => [Blk.obox (.pointer (some ⟨bm, 0, none⟩)) (mV u0 u1 most q)]) (JG (by assumption))).symm
 simp only [HS] at h9
 have hip : Oz i := ⟨by omega, by omega, by omega, by omega, by omega, by omega, by omega, by omega, by omega⟩
 obtain ⟨g, hg, hga⟩ := LD (inp := inp) (used := v.used) (i := i) hk
 refine rG (eK 3 Z ?_)
 try refine WO_le (Le.freeze (u := 31) rfl) ?_
 refine nZ Z (kZ [2,29,30,31] Z (WO_le (Le.close (u := 100) 1100 Z Z Z) (nZ Z (WO_le (Le.closeR (u := 101) 1101 Z Z) (nZ Z ?_)))));refine AK (rid := 99) [100, 101] Z Z (lt_of Z) Z Z (by repeat (first | exact ResP.done | refine ResP.pin0 1100 Z ?_ | refine ResP.pin0 1101 Z ?_ | refine ResP.t ?_ | refine ResP.pinR 1101 Z (by first | rfl | omega) ?_ | refine ResP.nil 1 ?_ | refine ResP.nil' ?_ | refine ResP.own ?_ | refine ResP.sl Z Z (by first | omega | (simp; omega)) ?_ | refine ResP.aggT (by repeat (first | exact ResP.done | refine ResP.t ?_)) ?_)) Z (by repeat (first | exact trivial | refine ⟨rfl, rfl, ?_⟩)) (by decide) (LC bm x inp u0 u1 most bf cap v.fs v.fs.length Z v.trace v.used v.code v.value v.made v.notes hcap (by omega) k f i hk hkl a16 a17 (a14 hip)) Z Z Z ?_;refine nZ Z (WO_le (Le.open (u := 100) 1100 Z Z Z Z) (nZ Z (WO_le (Le.openR (u := 101) 1101 Z Z) (nZ Z (oN (bN (tN ?_)))))))
 skip
 refine rG (eZ Z (AE rfl Z (lt_of Z) Z Z Z (eZ Z (AG tys Z Z (lt_of Z) Z Z Z Z (AM hg) Z (evI ?_)))));refine AE rfl Z (lt_of Z) Z Z Z (eZ Z (AJ tys _ Z Z Z Z Z Z (AM hg) Z (AbsL.v' AbsL.nil') Z (by decide) (Qe Z) (nZ Z ?_)))
 first
 | refine WO_le (Le.eqK (id := 101) rfl (congrArg (Blk.L 11) (Av (k := k) (f := goF g)))) ?_
 refine nZ Z (nZ Z (kZ [] Z (oN ?_)))
 (refine AA (Le.closeR (u := 101) 1101 rfl rfl) ?_; refine AB rfl ?_; refine AA (Le.rowVn (id := 101) v.fs.length rfl (by simp [Aw])) ?_; refine AB rfl ?_; refine AA (Le.claimBox (u := 100) (j := 3) (idp := 101) rfl rfl rfl rfl) ?_; refine AB rfl ?_)
 refine AA (Le.close (u := 100) 1100 Z Z Z) (AB Z (AF ?_));refine eP [_] ?_ ?_
 ·rfl
 ·first
  | exact (congrArg (fun q => [Blk.obox (.pointer (some ⟨bm, 0, none⟩)) (mV u0 u1 most q)]) (Gr hip hg)).symm
open Go.Eng
structure PW (x : Image) (c : Code) (h : List Int) : Prop where
 sized : (0 ≤ c.params ∧ c.params ≤ 2) ∧ (c.params ≤ c.vars ∧ c.vars ≤ 6) ∧ c.sites.length ≤ 4 ∧ (1 ≤ c.ins.length ∧ c.ins.length ≤ 300) ∧ c.rows.length ≤ 300 ∧ ∀ i, i ∈ c.ins → Ed i = true
 named : ∀ i, i ∈ c.ins → BB x c i = true
 sites : ∀ n, n ∈ c.sites → 0 ≤ n ∧ n < x.codes.length ∧ (codeAt x n).params = 0
 rdy : RdyX x c
 rows : D6 c.rows c.ins.length = true
 fit : fitX x c h
 b6 : ∀ k : Int, 0 ≤ k → k < c.ins.length → ¬ Nf c h k
 b7 : ∀ k : Int, 0 ≤ k → k < c.ins.length → ¬ OC c h k
theorem O8 {x : Image} {c : Code} (hx : BD x = true) (hc : c ∈ x.codes) (h0 : codeX x c = 0) : ∃ h, PW x c h := by
 classical
 have a1 : BM x c = true := by rw [← Bool.not_eq_false]; intro e; rw [NU e] at h0; cases h0
 have a2 : Bk x c = true := by rw [← Bool.not_eq_false]; intro e; rw [NT a1 e] at h0; cases h0
 have a3 : EN c = true := by rw [← Bool.not_eq_false]; intro e; rw [NS a1 a2 e] at h0; cases h0
 have a4 : D6 c.rows c.ins.length = true := by rw [← Bool.not_eq_false]; intro e; rw [NR a1 a2 a3 e] at h0; cases h0
 cases he : heiX x c with
 | none => rw [NQ a1 a2 a3 a4 (by rw [he]; rfl)] at h0; cases h0
 | some h =>
  have a6 : ∀ k : Int, 0 ≤ k → k < c.ins.length → ¬ Nf c h k := fun k k0 k1 hb => by rw [Io a1 a2 a3 a4 he k0 k1 hb] at h0; cases h0
  have a7 : ∀ k : Int, 0 ≤ k → k < c.ins.length → ¬ OC c h k := fun k k0 k1 hb => by rw [EV a1 a2 a3 a4 he a6 k0 k1 hb] at h0; cases h0
  refine ⟨h, A0 ((B3 hx).2 c hc), ?_, ?_, ready hx hc a1 a3 a4, a4, (HN he).1, a6, a7⟩
  ·unfold BM at a1; rw [Ql] at a1; exact a1
  ·unfold Bk at a2; rw [Ql] at a2
   intro n hn
   have := a2 n hn
   unfold E2 at this;simp only [Qd, decide_eq_true_eq] at this;exact ⟨this.1.1, this.1.2, this.2⟩
structure GD (x : Image) : Prop where
 n0 : 1 ≤ x.codes.length
 n1 : x.codes.length ≤ 5
 p0 : (codeAt x 0).params = 0
 ok : ∀ fn : Int, 0 ≤ fn → fn < x.codes.length → ∃ h, PW x (codeAt x fn) h
theorem O6 {x : Image} (h : imageB x = true) : GD x := by
 unfold imageB at h;simp only [Qd, decide_eq_true_eq, Ql] at h
 obtain ⟨h1, h2, h3⟩ := h
 have hs := (B3 h1).1
 refine ⟨hs.1, hs.2, h2, fun fn h0 h1' => ?_⟩
 have hm : codeAt x fn ∈ x.codes := by rw [Aa h0 h1']; exact Qq _
 exact O8 h1 hm (h3 _ hm)
structure FrH (x : Image) (f : Frame) (h : List Int) : Prop where
 fn0 : 0 ≤ f.fn
 fn1 : f.fn < x.codes.length
 good : PW x (codeAt x f.fn) h
 vars : (f.vars.length : Int) = (codeAt x f.fn).vars
 flags : f.flags.length = (codeAt x f.fn).sites.length
 at0 : 0 ≤ f.at'
 at1 : f.at' < (codeAt x f.fn).ins.length
 hei : 0 ≤ atI h f.at'
abbrev insF (x : Image) (f : Frame) : Ins := Ac (codeAt x f.fn) f.at'
def OkF (x : Image) (f : Frame) : Prop := ∃ h, FrH x f h ∧ (f.pile.length : Int) = atI h f.at'
def OkW (x : Image) (f : Frame) : Prop := ∃ h, FrH x f h ∧ (((insF x f).op = 7 ∧ (f.pile.length : Int) = atI h f.at' - tkX x (insF x f)) ∨ ((insF x f).op = 17 ∧ (f.pile.length : Int) = atI h f.at'))
structure Inv (x : Image) (most : Int) (t : Nat) (v : Vm) : Prop where
 code : v.code = 0
 len0 : 1 ≤ v.fs.length
 len1 : (v.fs.length : Int) ≤ most
 top : ∀ k f, v.fs[k]? = some f → k + 1 = v.fs.length → OkF x f
 low : ∀ k f, v.fs[k]? = some f → k + 1 < v.fs.length → OkW x f
 bot : ∀ f, v.fs[0]? = some f → f.off = false
 val : v.value = 0
 tr : v.trace.length ≤ t
 no : v.notes.length ≤ t
 made0 : 0 ≤ v.made
 made1 : v.made ≤ t + 1
 used0 : 0 ≤ v.used
 used1 : v.used ≤ t
open Go.Eng
section
variable {x : Image} {f f' : Frame} {h : List Int}
theorem FrH.mem (H : FrH x f h) : insF x f ∈ (codeAt x f.fn).ins := by
 unfold insF; rw [BK H.at0 H.at1]; exact Qq _
theorem FrH.ins (H : FrH x f h) : Ed (insF x f) = true := H.good.rdy.ins _ H.mem
theorem FrH.hlen (H : FrH x f h) : h.length = (codeAt x f.fn).ins.length := H.good.fit.1.1
theorem FrH.out (H : FrH x f h) : outX x (codeAt x f.fn) h f.at' := H.good.fit.2.2 _ H.at0 (by rw [H.hlen]; exact H.at1) H.hei
theorem FrH.le (H : FrH x f h) : atI h f.at' ≤ 40 := (H.good.fit.1.2 _ (atI_in H.at0 (by rw [H.hlen]; exact H.at1))).2
theorem FrH.tk (H : FrH x f h) : tkX x (insF x f) ≤ atI h f.at' := H.out.1
theorem FrH.next (H : FrH x f h) {n : Int} (hn : n ∈ Af (insF x f) f.at') (e1 : f'.fn = f.fn) (e2 : f'.vars.length = f.vars.length) (e3 : f'.flags.length = f.flags.length) (e4 : f'.at' = n) :
  FrH x f' h ∧ atI h f'.at' = atI h f.at' - tkX x (insF x f) + ptX (insF x f) := by
 have hr := H.good.rdy.next _ H.at0 H.at1 n hn
 have ho := H.out.2 n hn
 have ht : tkX x (Ac (codeAt x f.fn) f.at') ≤ atI h f.at' := H.tk
 have hp := EB (Ac (codeAt x f.fn) f.at')
 refine ⟨⟨by rw [e1]; exact H.fn0, by rw [e1]; exact H.fn1, by rw [e1]; exact H.good, by rw [e1, e2]; exact H.vars, by rw [e1, e3]; exact H.flags, by rw [e4]; exact hr.1, by rw [e1, e4]; exact hr.2, by rw [e4, ho]; omega⟩, by rw [e4]; exact ho⟩
theorem FrH.row (H : FrH x f h) (hr : A1 (insF x f).op = true) : 0 ≤ rowX (codeAt x f.fn).rows f.at' := by
 have := H.good.b6 _ H.at0 H.at1
 rcases Int.lt_or_le (rowX (codeAt x f.fn).rows f.at') 0 with g | g
 ·exact absurd ⟨H.hei, hr, .inl g⟩ this
 ·exact g
theorem FrH.pad (H : FrH x f h) (hr : A1 (insF x f).op = true) (e1 : f'.fn = f.fn) (e2 : f'.vars.length = f.vars.length) (e3 : f'.flags.length = f.flags.length) (e4 : f'.at' = padX (codeAt x f.fn).rows f.at') :
  FrH x f' h ∧ atI h f'.at' = 0 := by
 have h0 := H.row hr
 have hl := Dw (codeAt x f.fn).rows f.at'
 have hp := C5 (rows := (codeAt x f.fn).rows) (k := f.at') (by omega)
 have hm : ((codeAt x f.fn).rows[(rowX (codeAt x f.fn).rows f.at').toNat]'(by omega)) ∈ (codeAt x f.fn).rows := Qq _
 have hq := H.good.rdy.pads _ hm
 have hb := H.good.fit.2.1.2 _ hm
 refine ⟨⟨by rw [e1]; exact H.fn0, by rw [e1]; exact H.fn1, by rw [e1]; exact H.good, by rw [e1, e2]; exact H.vars, by rw [e1, e3]; exact H.flags, by rw [e4, hp]; exact hq.1, by rw [e1, e4, hp]; exact hq.2, by rw [e4, hp, hb]; exact Q8 0⟩, by rw [e4, hp]; exact hb⟩
theorem Me {id fn : Int} {given : List Int} {off : Bool} (hx : GD x) (h0 : 0 ≤ fn) (h1 : fn < x.codes.length) (hg : (given.length : Int) ≤ (codeAt x fn).vars) : OkF x (newF x id fn given off) := by
 obtain ⟨h, G⟩ := hx.ok fn h0 h1
 refine ⟨h, ⟨h0, h1, G, ?_, ?_, Q8 0, ?_, ?_⟩, ?_⟩
 ·simp only [newF, Qf, Q5]; omega
 ·simp only [newF, Q5]
 ·have := G.sized.2.2.2.1.1; show (0 : Int) < ((codeAt x fn).ins.length : Int); omega
 ·show 0 ≤ atI h 0; rw [G.fit.2.1.1]; exact Q8 0
 ·show ((0 : Nat) : Int) = atI h 0; rw [G.fit.2.1.1]; rfl
end
theorem CZ {f : Frame} : (popF f).pile.length = f.pile.length - 1 := by
 show (f.pile.take (f.pile.length - 1)).length = _;rw [Qk]; omega
theorem Co {f : Frame} {n : Int} : (pushF f n).pile.length = f.pile.length + 1 := by
 show (f.pile ++ [n]).length = _
 simp
open Go.Eng
theorem M2 {i : Ins} (h : Ed i = true) : 1 ≤ i.op ∧ i.op ≤ 18 := by
 unfold Ed at h;split at h
 ·omega
 ·split at h
  ·omega
  ·split at h
   ·rename_i hn
    unfold Bo at hn
    have := of_decide_eq_true hn
    omega
   ·rw [Qd, decide_eq_true_eq, decide_eq_true_eq] at h
    exact h.1
theorem Ee {x : Image} {i : Ins} (h : i.op = 3 ∨ i.op = 8 ∨ i.op = 9 ∨ i.op = 11 ∨ i.op = 13 ∨ i.op = 15) : tkX x i = 1 := by rw [tkX, if_pos h]
theorem Pr {x : Image} {i : Ins} (h : i.op = 4) : tkX x i = 2 := by rw [tkX, if_neg (by omega), if_pos h]
theorem OI {x : Image} {i : Ins} (h : i.op = 7) : tkX x i = (codeAt x i.n).params := by rw [tkX, if_neg (by omega), if_neg (by omega), if_pos h]
theorem FM {x : Image} {i : Ins} (h : ¬ (i.op = 3 ∨ i.op = 8 ∨ i.op = 9 ∨ i.op = 11 ∨ i.op = 13 ∨ i.op = 15 ∨ i.op = 4 ∨ i.op = 7)) : tkX x i = 0 := by rw [tkX, if_neg (by omega), if_neg (by omega), if_neg (by omega)]
theorem CM {op : Int} (h : op = 4 ∨ op = 7 ∨ op = 13 ∨ op = 14 ∨ op = 16 ∨ op = 17) : A1 op = true := decide_eq_true h
section
variable {x : Image} {f : Frame} {h : List Int}
theorem FrH.n0 (H : FrH x f h) (h1 : (insF x f).op ≠ 1) : 0 ≤ (insF x f).n := ((M3 H.ins).2.2 h1).1
theorem FrH.nV (H : FrH x f h) (h1 : (insF x f).op = 2 ∨ (insF x f).op = 3) : (insF x f).n < f.vars.length := by
 have := H.good.named _ H.mem
 rw [BB, if_pos h1] at this;rw [H.vars];exact of_decide_eq_true this
theorem FrH.nF (H : FrH x f h) (h1 : (insF x f).op = 12 ∨ (insF x f).op = 17) : (insF x f).n < (codeAt x f.fn).sites.length := by
 have := H.good.named _ H.mem
 rw [BB, if_neg (by omega), if_pos h1] at this;exact of_decide_eq_true this
theorem NX {made fn p : Int} (hx : GD x) (h0 : 0 ≤ fn) (h1 : fn < x.codes.length) (hp : p = (codeAt x fn).params ∨ p = 0) (hl : p ≤ f.pile.length) (hpl : f.pile.length ≤ 100) (m0 : 0 ≤ made) (m1 : made ≤ 1000000) : F8 x made fn p f := by
 obtain ⟨h, G⟩ := hx.ok fn h0 h1
 have n1 := hx.n1
 obtain ⟨s1, s2, s3, s4, s5, s6⟩ := G.sized
 exact ⟨h0, h1, by omega, by omega, by omega, by rcases hp with rfl | rfl <;> omega, hl, by rcases hp with rfl | rfl <;> omega, hpl, m0, m1⟩
theorem J7 {x : Image} {c : Code} {h : List Int} {n : Int} (G : PW x c h) (h0 : 0 ≤ n) (h1 : n < c.sites.length) : 0 ≤ atI c.sites n ∧ atI c.sites n < x.codes.length ∧ (codeAt x (atI c.sites n)).params = 0 :=
 G.sites _ (atI_in h0 h1)
end
theorem ok_of {x : Image} {inp : List Int} {most : Int} {t : Nat} {v : Vm} (hx : GD x) (hI : Inv x most t v) (hm : most ≤ 12) (ht : t ≤ 60000) (hil : inp.length ≤ 10) :
  ∃ k f, v.fs[k]? = some f ∧ k = v.fs.length - 1 ∧ OkF x f ∧ Iz x inp v k f (insF x f) ∧ 1 ≤ (insF x f).op ∧ (insF x f).op ≤ 18 := by
 have hl0 := hI.len0
 have hl1 := hI.len1
 have htr := hI.tr
 have hno := hI.no
 have hm0 := hI.made0
 have hm1 := hI.made1
 have hu0 := hI.used0
 have hu1 := hI.used1
 have hn1 := hx.n1
 obtain ⟨f, hk⟩ : ∃ f, v.fs[v.fs.length - 1]? = some f := ⟨_, List.getElem?_eq_getElem (by omega)⟩
 obtain ⟨h, H, hpl⟩ := hI.top _ f hk (by omega)
 have hop := M2 H.ins
 have htk := H.tk
 have hle := H.le
 obtain ⟨s1, s2, s3, s4, s5, s6⟩ := H.good.sized
 refine ⟨_, f, hk, rfl, ⟨h, H, hpl⟩, ⟨H.fn0, H.fn1, by omega, H.at0, H.at1, by omega, by omega, fun h1 => H.row (CM (by omega)), by omega, fun h1 => ?_, fun h1 => ?_, fun h1 => ?_, fun h1 => ?_, fun h1 => ?_, fun h1 => ?_, ?_, by omega, by omega⟩, hop⟩
 ·rw [Ee (by omega)] at htk; omega
 ·rw [Pr (by omega)] at htk; omega
 ·have hc := H.good.rdy.call _ H.mem h1
  rw [OI h1] at htk;exact NX hx hc.1 hc.2 (.inl rfl) (by omega) (by omega) hm0 (by omega)
 ·have h2 := H.n0 (by omega)
  have h3 := H.nF (.inr h1)
  have hs := J7 H.good h2 h3
  exact ⟨h2, by rw [H.flags]; exact h3, h3, NX hx hs.1 hs.2.1 (.inr rfl) (by omega) (by omega) hm0 (by omega)⟩
 ·refine ⟨fun g hk1 hg => ?_, by omega⟩
  obtain ⟨hw, W, hq⟩ := hI.low _ g hg (by omega)
  obtain ⟨t1, t2, t3, t4, t5, t6⟩ := W.good.sized
  have hwl := W.le
  have hr : A1 (insF x g).op = true := CM (by rcases hq with q | q <;> omega)
  have hpg : (g.pile.length : Int) ≤ atI hw g.at' := by
   rcases hq with ⟨q1, q2⟩ | ⟨q1, q2⟩
   ·have hc := W.good.rdy.call _ W.mem q1
    obtain ⟨h', G'⟩ := hx.ok _ hc.1 hc.2
    have := G'.sized.1.1
    rw [OI q1] at q2;omega
   ·omega
  exact ⟨W.fn0, W.fn1, by omega, W.row hr, W.at0, W.at1, by omega, by omega⟩
 ·obtain ⟨p1, p2, p3, p4, p5, p6, p7, p8, p9⟩ := h1
  refine ⟨by omega, fun h1 => ?_, fun h1 => ⟨H.n0 (by omega), H.nV h1⟩, fun h1 => ⟨H.n0 (by omega), by rw [H.flags]; exact H.nF (.inl h1)⟩, fun _ ho => ?_, hu0, by omega, by omega, by have := H.vars; omega, by rw [H.flags]; omega⟩
  ·rw [Ee (by omega)] at htk; omega
  ·rcases Nat.eq_zero_or_pos (v.fs.length - 1) with e | e
   ·rw [e] at hk
    rw [hI.bot f hk] at ho;cases ho
   ·exact e
 ·rw [H.flags]; omega
open Go.Eng
section
variable {x : Image} {inp : List Int} {most : Int} {t : Nat} {v : Vm} {k : Nat} {f : Frame}
theorem CP (hI : Inv x most t v) (hk : v.fs[k]? = some f) (hkl : k = v.fs.length - 1) {f' : Frame} (ho : OkF x f') (hoff : f'.off = f.off) {tr : List Int} {us : Int} {no : List Note} (h1 : tr.length ≤ t + 1) (h2 : 0 ≤ us) (h3 : us ≤ t + 1) (h4 : no.length ≤ t + 1) :
  Inv x most (t + 1) ⟨v.fs.set k f', tr, us, v.code, v.value, v.made, no⟩ := by
 have hlt := Bs hk
 refine ⟨hI.code, by show 1 ≤ (v.fs.set k f').length; rw [Qo]; exact hI.len0, by show ((v.fs.set k f').length : Int) ≤ most; rw [Qo]; exact hI.len1, ?_, ?_, ?_, hI.val, h1, h4, hI.made0, by have := hI.made1; show v.made ≤ ((t + 1 : Nat) : Int) + 1; omega, h2, by show us ≤ ((t + 1 : Nat) : Int); omega⟩
 ·intro j g hg hj
  dsimp only at hg hj;rw [Qo] at hj
  obtain rfl : j = k := by omega
  rw [AU hk] at hg;cases hg;exact ho
 ·intro j g hg hj
  dsimp only at hg hj;rw [Qo] at hj;rw [List.getElem?_set_ne (by omega)] at hg;exact hI.low j g hg hj
 ·intro g hg
  dsimp only at hg
  rcases Nat.eq_zero_or_pos k with e | e
  ·subst e
   rw [AU hk] at hg;cases hg;rw [hoff]; exact hI.bot f hk
  ·rw [List.getElem?_set_ne (by omega)] at hg
   exact hI.bot g hg
theorem KT (hI : Inv x most t v) (hk : v.fs[k]? = some f) (hkl : k = v.fs.length - 1) {f' n : Frame} (ho : OkW x f') (hoff : f'.off = f.off) (hn : OkF x n) (hl : ¬ most ≤ (v.fs.length : Int)) {no : List Note} (h4 : no.length ≤ t + 1) :
  Inv x most (t + 1) ⟨v.fs.set k f' ++ [n], v.trace, v.used, v.code, v.value, v.made + 1, no⟩ := by
 have hlt := Bs hk
 have htr := hI.tr
 have hu := hI.used1
 have hm0 := hI.made0
 have hm1 := hI.made1
 have hlen : (v.fs.set k f' ++ [n]).length = v.fs.length + 1 := by rw [Qf, Qo]; rfl
 refine ⟨hI.code, by show 1 ≤ (v.fs.set k f' ++ [n]).length; omega, by show ((v.fs.set k f' ++ [n]).length : Int) ≤ most; omega, ?_, ?_, ?_, hI.val, by show v.trace.length ≤ t + 1; omega, h4, by show 0 ≤ v.made + 1; omega, by show v.made + 1 ≤ ((t + 1 : Nat) : Int) + 1; omega, hI.used0, by show v.used ≤ ((t + 1 : Nat) : Int); omega⟩
 ·intro j g hg hj
  dsimp only at hg hj;rw [hlen] at hj;rw [List.getElem?_append_right (by rw [Qo]; omega), Qo, show j - v.fs.length = 0 from by omega] at hg;cases hg;exact hn
 ·intro j g hg hj
  dsimp only at hg hj;rw [hlen] at hj;rw [List.getElem?_append_left (by rw [Qo]; omega)] at hg
  rcases Nat.lt_or_ge j k with e | e
  ·rw [List.getElem?_set_ne (by omega)] at hg
   exact hI.low j g hg (by omega)
  ·obtain rfl : j = k := by omega
   rw [AU hk] at hg;cases hg;exact ho
 ·intro g hg
  dsimp only at hg;rw [List.getElem?_append_left (by rw [Qo]; omega)] at hg
  rcases Nat.eq_zero_or_pos k with e | e
  ·subst e
   rw [AU hk] at hg;cases hg;rw [hoff]; exact hI.bot f hk
  ·rw [List.getElem?_set_ne (by omega)] at hg
   exact hI.bot g hg
theorem HK (hI : Inv x most t v) (hk : v.fs[k]? = some f) (hkl : k = v.fs.length - 1) (hk1 : 1 ≤ k) {g g' : Frame} (hg : v.fs[k - 1]? = some g) (ho : OkF x g') (hoff : g'.off = g.off) {no : List Note} (h4 : no.length ≤ t + 1) :
  Inv x most (t + 1) ⟨(v.fs.take k).set (k - 1) g', v.trace, v.used, v.code, v.value, v.made, no⟩ := by
 have hlt := Bs hk
 have htr := hI.tr
 have hu := hI.used1
 have hm1 := hI.made1
 have hl1 := hI.len1
 have hlen : ((v.fs.take k).set (k - 1) g').length = k := by rw [Qo, Qk]; omega
 have hgt : (v.fs.take k)[k - 1]? = some g := by rw [List.getElem?_take_of_lt (by omega)]; exact hg
 refine ⟨hI.code, by show 1 ≤ ((v.fs.take k).set (k - 1) g').length; omega, by show (((v.fs.take k).set (k - 1) g').length : Int) ≤ most; omega, ?_, ?_, ?_, hI.val, by show v.trace.length ≤ t + 1; omega, h4, hI.made0, by show v.made ≤ ((t + 1 : Nat) : Int) + 1; omega, hI.used0, by show v.used ≤ ((t + 1 : Nat) : Int); omega⟩
 ·intro j q hq hj
  dsimp only at hq hj;rw [hlen] at hj
  obtain rfl : j = k - 1 := by omega
  rw [AU hgt] at hq;cases hq;exact ho
 ·intro j q hq hj
  dsimp only at hq hj;rw [hlen] at hj;rw [List.getElem?_set_ne (by omega), List.getElem?_take_of_lt (by omega)] at hq;exact hI.low j q hq (by omega)
 ·intro q hq
  dsimp only at hq
  rcases Nat.eq_zero_or_pos (k - 1) with e | e
  ·rw [e] at hgt hg hq
   rw [AU hgt] at hq;cases hq;rw [hoff]; exact hI.bot g hg
  ·rw [List.getElem?_set_ne (by omega), List.getElem?_take_of_lt (by omega)] at hq
   exact hI.bot q hq
end
end Go.Proofs.YtljnifnbldfboaaGreat
