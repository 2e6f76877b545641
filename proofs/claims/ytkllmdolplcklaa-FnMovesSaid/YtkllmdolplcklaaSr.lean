/- Walks and laws of the claim. -/
import Derived.Test.YtkllmdolplcklaaUb
import Derived.Test.YtkllmdolplcklaaMe
set_option linter.unusedVariables false
set_option linter.unusedSimpArgs false
set_option maxRecDepth 10000
set_option maxHeartbeats 4000000
namespace Go.Proofs.Ytkllmdolplcklaa
open Go.Eng
open Go.Eng
def mdB (cd : List Int) (w : World) (c : Cu) : Bool := AC w && (decide (0 < (Ay w).length) && !decide (pickV cd 6 c = 0))
def mdC (cd : List Int) (w : World) (c : Cu) : Cu := if AC w = true ∧ 0 < (Ay w).length then curC cd 6 c else c
def mdN (cd : List Int) (c : Cu) : List Int := [pickV cd 3 c, pickV cd 2 (curC cd 3 c), pickV cd 3 (curC cd 2 (curC cd 3 c)) - 1, 0]
def mdR (cd : List Int) (w : World) (c : Cu) : List Int := if mdB cd w c = true then at0 [] (Ay w) (pickV cd (Ay w).length (mdC cd w c)) else mdN cd (mdC cd w c)
theorem M9 {cd : List Int} {w : World} {c : Cu} (h : true = mdB cd w c) (h0 : 0 ≤ pickV cd (Ay w).length (mdC cd w c)) (h1 : pickV cd (Ay w).length (mdC cd w c) < (Ay w).length) : (Ay w)[(pickV cd (Ay w).length (mdC cd w c)).toNat]'(by omega) = mdR cd w c := by
 rw [mdR, if_pos h.symm, AL h0 h1]
theorem mdR_no {cd : List Int} {w : World} {c : Cu} (h : ¬ mdB cd w c = true) : mdN cd (mdC cd w c) = mdR cd w c := by
 rw [mdR, if_neg h]
theorem mdB_1 {cd : List Int} {w : World} {c : Cu} (h : ¬ AC w = true) : false = mdB cd w c ∧ c = mdC cd w c := by
 rw [mdB, mdC, if_neg (fun e => h e.1), Bool.eq_false_iff.2 h]; exact ⟨rfl, rfl⟩
theorem mdB_2 {cd : List Int} {w : World} {c : Cu} (h : ¬ 0 < (Ay w).length) : false = mdB cd w c ∧ c = mdC cd w c := by
 rw [mdB, mdC, if_neg (fun e => h e.2), decide_eq_false h, Bool.false_and, Bool.and_false]; exact ⟨rfl, rfl⟩
theorem mdB_3 {cd : List Int} {w : World} {c : Cu} (h : AC w = true) (h1 : 0 < (Ay w).length) : (!decide (pickV cd 6 c = 0)) = mdB cd w c ∧ curC cd 6 c = mdC cd w c := by
 rw [mdB, mdC, if_pos ⟨h, h1⟩, h, decide_eq_true h1]; exact ⟨rfl, rfl⟩
theorem KA (cd : List Int) (hcd : Dd cd) : Fun Try.prog 5 [.t (T.bytes cd)] (tupD [(worldR cd cu0).1.rd, .t (T.ints (mdR cd (worldR cd cu0).1 (worldR cd cu0).2))]) := by
  have hd := Cf (c := cu0) hcd (by decide)
  have hwa := Ez (c := cu0) hcd (by decide)
  have hcz : cu0.1 = 0 := rfl
  rw [hcz] at hwa
  have hw1 := hd.ok 1048576 (by decide)
  have hw2 := hd.ok 9223372036854775807 (by decide)
  have hf := fun bw pv => Dz cd cu0 bw pv hcd (by decide) (by decide)
  generalize worldR cd cu0 = W at hd hwa hw1 hw2 hf ⊢
  obtain ⟨w, c⟩ := W
  dsimp only at hd hwa hw1 hw2 hf ⊢
  have hcc := AW (cd := cd) (n := 6) (c := c)
  refine Fun.begin tys Try.func5 Z Z (N := 46) [(0, .t (T.bytes cd))] Z Z (fun w0 G F0 => ?_);refine sG (AK tys Z Z (AA Z) Z Z Z (nZ Z (eZ Z (nA (eZ Z ?_)))));refine Iq (u := 8) 99 Z (fun pv => ?_);refine nZ Z (Ag tys Z Z (AA Z) Z Z Z (by kernel_rfl) Z Z Z Z Z Z (Aa Z Z (AA Z) Z Z (nZ Z (eZ Z (nB (sQ ?_))))));refine W_pin (u := 10) (pid := 1010) Z Z (fun bw => ?_);refine nY Z (W_le (Le.close (u := 10) 1010 Z Z Z) (nY Z (rG (eZ Z ?_))));refine EP (rid := 99) [10] Z Z (AA Z) Z Z (by repeat (first | exact ResQ.done | refine ResQ.pin0 1010 Z ?_ | refine ResQ.t ?_ | refine ResQ.nil 1 ?_)) Z (by repeat (first | exact trivial | refine ⟨rfl, rfl, ?_⟩)) (by decide) (hf bw pv) Z Z Z ?_;refine nZ Z (AK tys Z Z (AA Z) Z Z Z (nZ Z (kZ [2,3,4,5,12] Z (sT Z (nZ Z (nA (eZ Z ?_)))))))
  try refine WO_le (Le.freeze (u := 14) rfl) ?_
  refine nZ Z (AQ ?_);refine ⟨_, D3 w hw1 hw2, rfl, ?_⟩;refine Ae Z Z (AA Z) (.inr Z) Z Z (nZ Z (A3 Z Z (AA Z) Z Z Z Z (WO_le (Le.freeze (u := 16) Z) (nZ Z (WO_evF tys Z Z (AA Z) (d := .t _) Z (nZ Z (eK 2 Z (nB (sQ (sQ ?_))))))))));refine BM (α := Bool × Cu) [2, 3, 4, 5, 6] [2, 5, 99, 1010] (fun x => [(28, .t (.bool (x.1)))]) (fun x => [(10, .obox (.pointer (some ⟨bw, 0, none⟩)) (cuC pv (x.2)))]) (fun x => (x.1) = mdB cd w c ∧ (x.2) = mdC cd w c) ?_ (fun x hx => ?_)
  ·
    refine kY [2,3,4,5,6,7] Z (rG (eK 2 Z ?_));refine gB (fun h1 => ?_) (fun h1 => ?_)
    ·
      simp only [HS] at h1;refine xK 7 Z (kZ [2,3,4,5,6,24,27] Z (eZ Z (oN (jQ (_, _) ?_))));dsimp only
      first
      | exact mdB_1 (Bool.eq_false_iff.1 (by assumption))
    refine eZ Z (gY Z (evE ?_));refine xK 3 Z ?_;refine gB (fun h2 => ?_) (fun h2 => ?_)
    ·
      simp only [HS] at h2;refine xK 2 Z (kZ [2,3,4,5,6,24,27] Z (eZ Z (oN (jQ (_, _) ?_))));dsimp only
      first
      | exact mdB_2 (by simp only [Nj] at *; omega)
    simp only [HS] at h2;refine eZ Z (gY Z ?_);refine cP [10] (hm := (FF cd 6 c bw pv hcd (by omega) (by omega))) (k := ?_);refine nZ Z (kZ [2,3,4,5,6,24,26] Z (xK 2 Z (oN (jQ (_, _) ?_))));dsimp only
    first
    | exact mdB_3 (by assumption) (by omega)
  obtain ⟨bb, c3⟩ := x
  obtain ⟨hbb, hc3⟩ := hx
  dsimp only at hbb hc3 ⊢;refine tN ?_;refine AD Z (fun h1 => ?_) (fun h1 => ?_)
  ·
    refine sQ ?_
    have hb1 : true = mdB cd w c := by rw [← hbb]; simp_all
    have hml : 0 < (Ay w).length := by
     have h9 := hb1.symm
     unfold mdB at h9;simp only [Nk, decide_eq_true_eq] at h9;exact h9.2.1
    have hmc : 0 ≤ (mdC cd w c).1 ∧ (mdC cd w c).1 ≤ 3000 := by unfold mdC; split <;> omega
    have hv := A8 (n := (Ay w).length) (c := mdC cd w c) hcd hmc.1
    have hv1 := hv.2.1 (by omega)
    have hv0 := hv.1
    rw [hc3];refine nY Z (kY [2,3,4,5,6] Z (Ar [[10], [2, 10], [], [], [], [], [2], [2], [], []] Ac (by kernel_rfl) (A9 (GG tys Z Z (AA Z) Z Z (AF (A9 (QG_ev tys Z Z (AA Z) Z (AF (AZ (QG_ev tys Z Z (AA Z) Z (AF (AZ (QG_ev tys Z Z (AA Z) Z (AF (AY Z ?_)))))))))))))));refine AZ (De tys Z Z (AA Z) Z (by first | exact KQ | exact Z) ?_);refine AF ?_;refine Bn (rid := 99) [10] Z Z (AA Z) Z Z (by repeat (first | exact ResP.done | refine ResP.pin0 1010 Z ?_ | refine ResP.t ?_ | refine ResP.nil 1 ?_ | refine ResP.nil' ?_ | refine ResP.own ?_ | refine ResP.sl Z Z (by first | omega | (simp; omega)) ?_ | refine ResP.aggT (by repeat (first | exact ResP.done | refine ResP.t ?_)) ?_)) Z (by repeat (first | exact trivial | refine ⟨rfl, rfl, ?_⟩)) (by decide) (Ao cd (Ay w).length (mdC cd w c) bw pv hcd (by omega) (by omega)) Z Z Z ?_;refine A9 (C3 tys Z Z (AA Z) Z Z Z Z Z Z Z (by omega) _ (CM _ _ (by omega) (by omega)) (AF (A9 (QG_ev tys Z Z (AA Z) Z (AF (AY Z (Bm tys 10008 Z Z Z Z Z Z Z Z Z (N3 Z) (AZ (QG_ev tys Z Z (AA Z) Z (AF (Av ?_)))))))))));refine ⟨by kernel_rfl, ?_⟩;refine nZ Z (nB (rT (tR (eR ?_))))
    · first
      | exact congrArg (fun l => [w.rd, D.t (T.ints l)]) (M9 hb1 hv0 hv1)
  refine AE (tN (sQ ?_))
  have hb1 : ¬ mdB cd w c = true := by rw [← hbb]; simp_all
  have hmc : 0 ≤ (mdC cd w c).1 ∧ (mdC cd w c).1 ≤ 3000 := by unfold mdC; split <;> omega
  obtain ⟨c4, hc4⟩ : ∃ c4, c4 = mdC cd w c := ⟨_, rfl⟩
  rw [← hc4] at hmc;rw [hc3, ← hc4]
  have p1 := AW (cd := cd) (n := 3) (c := c4)
  have p2 := AW (cd := cd) (n := 2) (c := curC cd 3 c4)
  have v3 := A8 (n := 3) (c := curC cd 2 (curC cd 3 c4)) hcd (by omega)
  refine nY Z (kY [2,3,4,5] Z (DV 10 [[10], [], [], [10], [], [10], [], [2], [2], []] Ac Z (by kernel_rfl) (by kernel_rfl) (A9 (GG tys Z Z (AA Z) Z Z (AF (AZ (QG_ev tys Z Z (AA Z) Z (AF ?_))))))));refine Bn (rid := 99) [10] Z Z (AA Z) Z Z (by repeat (first | exact ResP.done | refine ResP.pin0 1010 Z ?_ | refine ResP.t ?_ | refine ResP.nil 1 ?_ | refine ResP.nil' ?_ | refine ResP.own ?_ | refine ResP.sl Z Z (by first | omega | (simp; omega)) ?_ | refine ResP.aggT (by repeat (first | exact ResP.done | refine ResP.t ?_)) ?_)) Z (by repeat (first | exact trivial | refine ⟨rfl, rfl, ?_⟩)) (by decide) (Ao cd 3 c4 bw pv hcd (by omega) (by omega)) Z Z Z ?_;refine A9 (QG_ev tys Z Z (AA Z) Z (AF (AY Z ?_)));refine Bn (rid := 99) [10] Z Z (AA Z) Z Z (by repeat (first | exact ResP.done | refine ResP.pin0 1010 Z ?_ | refine ResP.t ?_ | refine ResP.nil 1 ?_ | refine ResP.nil' ?_ | refine ResP.own ?_ | refine ResP.sl Z Z (by first | omega | (simp; omega)) ?_ | refine ResP.aggT (by repeat (first | exact ResP.done | refine ResP.t ?_)) ?_)) Z (by repeat (first | exact trivial | refine ⟨rfl, rfl, ?_⟩)) (by decide) (Ao cd 2 (curC cd 3 c4) bw pv hcd (by omega) (by omega)) Z Z Z ?_;refine A9 (QG_ev tys Z Z (AA Z) Z (AF ?_));refine Bn (rid := 99) [10] Z Z (AA Z) Z Z (by repeat (first | exact ResP.done | refine ResP.pin0 1010 Z ?_ | refine ResP.t ?_ | refine ResP.nil 1 ?_ | refine ResP.nil' ?_ | refine ResP.own ?_ | refine ResP.sl Z Z (by first | omega | (simp; omega)) ?_ | refine ResP.aggT (by repeat (first | exact ResP.done | refine ResP.t ?_)) ?_)) Z (by repeat (first | exact trivial | refine ⟨rfl, rfl, ?_⟩)) (by decide) (Ao cd 3 (curC cd 2 (curC cd 3 c4)) bw pv hcd (by omega) (by omega)) Z Z Z ?_;refine A9 (Mw tys Z Z (AA Z) Z (Df (by omega) (by omega)) (AF (AY Z (A9 ?_))));refine BC tys [T.int (pickV cd 3 c4), T.int (pickV cd 2 (curC cd 3 c4)), T.int (pickV cd 3 (curC cd 2 (curC cd 3 c4)) - 1), T.int 0] Z Z (AA Z) Z Z Z Z Z (AA Z) (by repeat (first | exact PartsOk.nil' | refine PartsOk.cons' rfl (by repeat (first | exact AbsL.nil' | refine AbsL.v' ?_ | refine AbsL.own' ?_ | refine AbsL.none' ?_)) Z ?_)) Z Z Z (by decide) ?_;refine AF (Bm tys 10009 Z Z Z Z Z Z Z Z Z (N3 Z) (Av ?_));refine ⟨by kernel_rfl, ?_⟩;refine nZ Z (Ae Z Z (AA Z) (.inl Z) Z Z (nZ Z (WO_le (Le.freeze (u := 3) Z) (nZ Z (nB (rT (eR ?_)))))))
  · first
    | exact congrArg (fun l => [w.rd, D.t (T.ints l)]) ((congrArg (mdN cd) hc4).trans (mdR_no hb1))
open Go.Eng
def sameR (W W2 : World × Cu) (v : Int) : World × World := if v = 0 then (W.1, W.1) else (W.1, W2.1)
def sameDr (cd : List Int) : World × World := sameR (worldR cd cu0) (worldR cd (curC cd 2 (worldR cd cu0).2)) (pickV cd 2 (worldR cd cu0).2)
theorem Lt {W W2 : World × Cu} {v : Int} (h : v = 0) : [W.1.rd, W.1.rd] = [(sameR W W2 v).1.rd, (sameR W W2 v).2.rd] := by rw [sameR, if_pos h]
theorem M3 {W W2 : World × Cu} {v : Int} (h : ¬ v = 0) : [W.1.rd, W2.1.rd] = [(sameR W W2 v).1.rd, (sameR W W2 v).2.rd] := by rw [sameR, if_neg h]
theorem Lu {W W2 : World × Cu} {v : Int} (h1 : DrW W.1) (h2 : DrW W2.1) : DrW (sameR W W2 v).1 ∧ DrW (sameR W W2 v).2 := by
 rw [sameR];split
 ·exact ⟨h1, h1⟩
 ·exact ⟨h1, h2⟩
theorem HD {cd : List Int} (hcd : Dd cd) : DrW (sameDr cd).1 ∧ DrW (sameDr cd).2 := by
 have h1 := Cf (c := cu0) hcd (by decide)
 have h2 := Ez (c := cu0) hcd (by decide)
 have hcz : cu0.1 = 0 := rfl
 rw [hcz] at h2
 have h3 := AW (cd := cd) (n := 2) (c := (worldR cd cu0).2)
 have h4 := Cf (c := curC cd 2 (worldR cd cu0).2) hcd (Int.le_trans h2.1 h3.1)
 exact Lu h1 h4
theorem Hu (cd : List Int) (hcd : Dd cd) : Fun Try.prog 17 [.t (T.bytes cd)] (tupD [(sameDr cd).1.rd, (sameDr cd).2.rd]) := by
 have hd := Cf (c := cu0) hcd (by decide)
 have hwa := Ez (c := cu0) hcd (by decide)
 have hcz : cu0.1 = 0 := rfl
 rw [hcz] at hwa
 have hw1 := hd.ok 1048576 (by decide)
 have hf1 := fun bw pv => Dz cd cu0 bw pv hcd (by decide) (by decide)
 have hcc := AW (cd := cd) (n := 2) (c := (worldR cd cu0).2)
 have hf2 := fun bw pv => Dz cd (curC cd 2 (worldR cd cu0).2) bw pv hcd (by omega) (by omega)
 have e : sameDr cd = sameR (worldR cd cu0) (worldR cd (curC cd 2 (worldR cd cu0).2)) (pickV cd 2 (worldR cd cu0).2) := rfl
 rw [e];clear e;generalize worldR cd (curC cd 2 (worldR cd cu0).2) = W2 at hf2 ⊢;generalize worldR cd cu0 = W at hd hwa hw1 hcc hf1 hf2 ⊢
 have hy := fun h => Lt (W := W) (W2 := W2) (v := pickV cd 2 W.2) h
 have hn := fun h => M3 (W := W) (W2 := W2) (v := pickV cd 2 W.2) h
 generalize sameR W W2 (pickV cd 2 W.2) = z at hy hn ⊢
 obtain ⟨w, c⟩ := W
 obtain ⟨w2, c2⟩ := W2
 obtain ⟨z1, z2⟩ := z
 dsimp only at hd hwa hw1 hcc hf1 hf2 hy hn ⊢;refine Fun.begin tys Try.func17 Z Z (N := 19) [(0, .t (T.bytes cd))] Z Z (fun w0 G F0 => ?_);refine sG (AK tys Z Z (AA Z) Z Z Z (nZ Z (AK tys Z Z (AA Z) Z Z Z (nZ Z (nA (eZ Z ?_))))));refine Iq (u := 6) 99 Z (fun pv => ?_);refine nZ Z (Ag tys Z Z (AA Z) Z Z Z (by kernel_rfl) Z Z Z Z Z Z (Aa Z Z (AA Z) Z Z (nZ Z (eZ Z (nB (sQ ?_))))));refine W_pin (u := 8) (pid := 1008) Z Z (fun bw => ?_);refine nY Z (rG (eZ Z (WO_le (Le.close (u := 8) 1008 Z Z Z) (nZ Z ?_))));refine EP (rid := 99) [8] Z Z (AA Z) Z Z (by repeat (first | exact ResQ.done | refine ResQ.pin0 1008 Z ?_ | refine ResQ.t ?_ | refine ResQ.nil 1 ?_)) Z (by repeat (first | exact trivial | refine ⟨rfl, rfl, ?_⟩)) (by decide) (hf1 bw pv) Z Z Z ?_;refine nZ Z (WO_le (Le.open (u := 8) 1008 Z Z Z Z) (nZ Z (AK tys Z Z (AA Z) Z Z Z (nZ Z (kZ [2,3,4,5,10] Z (sT Z (nZ Z (nB (sQ (sG (eZ Z (WO_le (Le.close (u := 8) 1008 Z Z Z) (nZ Z ?_)))))))))))));refine cP [8] (hm := (FF cd 2 c bw pv hcd (by omega) (by omega))) (k := ?_);refine nZ Z (WO_le (Le.open (u := 8) 1008 Z Z Z Z) (nZ Z (nB ?_)));refine AD Z (fun h1 => ?_) (fun h1 => ?_)
 ·
  simp only [HS] at h1;refine sQ (nY Z ?_);refine Cd (u := 5) (j := 3) (p := fun y => ∃ xs, All2 CN xs (w.tasks.map Task.acts) ∧ y = .list 4 ((xs.zip w.tasks).map ttT)) rfl rfl (fun h => by obtain ⟨xs, h1, h2⟩ := E0 hd.flat h; exact ⟨_, ⟨xs, h1, rfl⟩, h2⟩) (fun y hy => ?_)
  obtain ⟨xs, hx, rfl⟩ := hy
  refine nY Z (Ar [[], [], [], [], []] Ac (by kernel_rfl) (AZ (GG tys Z Z (AA Z) Z Z (AF (AZ (GG tys Z Z (AA Z) Z Z (AF (AZ (Eg ?_)))))))));refine ⟨_, Gd w xs hw1 hx, rfl, ?_⟩;refine AF (Bm tys 10003 Z Z Z Z Z Z Z Z Z (N3 Z) (AY Z (Fb tys Z Z Z Z Z Z Z Z Z (N3 Z) (Av ?_))));refine ⟨by kernel_rfl, ?_⟩;refine nZ Z (nB (W_le (Le.freezeB (u := 3) Z Z) (nY Z ?_)));refine Cd (u := 3) (j := 3) (p := fun y => y = T.Tasks w.tasks) Z Z (fun h => ⟨_, rfl, CT hx h⟩) (fun y hy => ?_);subst hy;refine nY Z ?_;refine Cd (u := 2) (j := 3) (p := fun y => y = T.Tasks w.tasks) Z Z (fun h => ⟨_, rfl, CT hx h⟩) (fun y hy => ?_);subst hy;refine nY Z (rT (tR (eR ?_)))
  ·exact hy h1
 simp only [HS] at h1;refine AE (tN (sQ (W_le (Le.close (u := 8) 1008 Z Z Z) (nY Z (Ar [[8], [], [], [], []] Ac (by kernel_rfl) (A9 (GG tys Z Z (AA Z) Z Z (AF (AZ (QG_ev tys Z Z (AA Z) Z (AF ?_)))))))))));refine Ld (rid := 99) [8] Z Z (AA Z) Z Z (by repeat (first | exact ResQ.done | refine ResQ.pin0 1008 Z ?_ | refine ResQ.t ?_ | refine ResQ.nil 1 ?_)) Z (by repeat (first | exact trivial | refine ⟨rfl, rfl, ?_⟩)) (by decide) (hf2 bw pv) Z Z Z ?_;refine Bm tys 10003 Z Z Z Z Z Z Z Z Z (N3 Z) (AY Z (Bm tys 10004 Z Z Z Z Z Z Z Z Z (N3 Z) (Av ?_)));refine ⟨by kernel_rfl, ?_⟩;refine nZ Z (nB ?_)
 skip
 refine rT (eR ?_)
 ·exact hn h1
open Go.Eng
def eqD (x y : List Int) : Bool := decide (x = y)
def C9 (a b : Task) : Bool := eqI a.pos b.pos && (eqI a.state b.state && (eqI a.last b.last && eqL eqAct a.acts b.acts))
def CL (a b : World) : Bool := decide (a.room = b.room) && (eqL eqD a.held b.held && (eqL eqB a.shut b.shut && (decide (a.trace = b.trace) && eqL C9 a.tasks b.tasks)))
theorem CA {α : Type} {f : α → α → Bool} {a b : List α} {k : Int} (h : (a.length : Int) ≤ k) : Dy f (a.drop k.toNat) (b.drop k.toNat) = true := by
 rw [BB h]; rfl
theorem J8 (a b : List Bool) (ha : a.length ≤ 1073741824) (hb : b.length ≤ 1073741824) : Fun Try.prog 49 [.t (T.bools a), .t (T.bools b)] (tupD [.t (.bool (eqL eqB a b))]) := by
 refine Fun.begin tys Try.func49 Z Z (N := 26) [(0, .t (T.bools a)), (1, .t (T.bools b))] Z Z (fun w0 G F0 => ?_);refine sG (eZ Z (nB (sQ (sG (eZ Z (evE ?_))))));refine eZ Z (evE ?_);refine eZ Z (nB ?_);refine AD Z (fun h1 => ?_) (fun h1 => ?_)
 ·
  simp only [HS] at h1;refine sG (eZ Z (nB (rT (tR (eR ?_)))))
  ·rw [C2 h1]
   done
 simp only [HS] at h1;refine AE (tN (sQ (sG (eZ Z (evE ?_)))));refine eZ Z (kZ [0,1,4,12,13] Z (nB (AG ?_)));refine lK (α := Int) [0, 1, 12] [] (fun x => [(13, .t (.int x))]) (fun x => []) (fun x => 0 ≤ x ∧ x ≤ a.length ∧ (a.length : Int) = b.length ∧ Dy eqB a b = Dy eqB (a.drop x.toNat) (b.drop x.toNat)) (fun x => Int.toNat (a.length - x)) 0 ?_ (fun k hx => ?_)
 ·exact ⟨by omega, by omega, by omega, rfl⟩
 obtain ⟨hk0, hk1, hlen, hk2⟩ := hx
 refine nY Z (sG (eZ Z (nB (sQ ?_))));refine AD Z (fun h2 => ?_) (fun h2 => ?_)
 ·
  simp only [HS] at h2;refine AE (tN (sQ (AG (sG (eK 2 Z (nB (sQ (AV Ac (by kernel_rfl) (evQ ?_)))))))));refine evQ ?_;refine AP tys Z Z (AA Z) Z Z Z Z Z Z Z (by omega) _ (CM _ _ (by omega) (by omega)) (AH Z (evQ ?_));refine evQ ?_;refine evQ ?_;refine AP tys Z Z (AA Z) Z Z Z Z Z Z Z (by omega) _ (CM _ _ (by omega) (by omega)) (evQ ?_);refine evQ ?_;refine AH Z (Aj (tN ?_));refine AD Z (fun h3 => ?_) (fun h3 => ?_)
  ·
   simp only [HS] at h3;refine sG (eZ Z (nB (rT (bR (tR (AU (bR (tR (eR ?_)))))))))
   ·rw [Bi hlen, hk2, BI hk0 h2 hlen]
    simp_all [eqB]
    done
  simp only [HS] at h3;refine AE (bN (tN (rG (evI ?_))));refine eZ Z (oN ?_);refine lQ _ ?_ ?_
  ·skip
   refine ⟨by omega, by omega, hlen, ?_⟩; rw [hk2, BI hk0 h2 hlen]; simp_all [eqB]
  ·(show Int.toNat _ < Int.toNat _); omega
 simp only [HS] at h2;refine AR (tE (AO (AN (tN (sG (eZ Z (nB (rT (eR ?_)))))))))
 ·(rw [Bi hlen, hk2, CA (by omega)])
theorem HF (a b : Act) (ha : Fm a) (hb : Fm b) (hla : a.cases.length ≤ 1048576) (hlb : b.cases.length ≤ 1048576) : Fun Try.prog 84 [.t a.tt, .t b.tt] (tupD [.t (.bool (eqAct a b))]) := by
 refine Fun.begin tys Try.func84 Z Z (N := 102) [(0, .t a.tt), (1, .t b.tt)] Z Z (fun w0 G F0 => ?_);refine sG (Aa Z Z (AA Z) Z Z (nZ Z (Aa Z Z (AA Z) Z Z (nZ Z (eZ Z (nB (sQ (sG (eK 6 Z (kZ [2,3,4,11] Z ?_))))))))));refine gB (fun h1 => ?_) (fun h1 => ?_)
 ·
  simp only [HS] at h1;refine xK 9 Z (kZ [2,3,4,18,20,21] Z (xK 9 Z (kZ [2,3,4,25,28,30] Z (xK 3 Z (nB (AS Z (sG (eZ Z (nB (rT (tR (eR ?_))))))))))))
  ·first
   | (rw [BA]; simp_all [eqI]; done)
 simp only [HS] at h1;refine xK 7 Z ?_;refine gB (fun h2 => ?_) (fun h2 => ?_)
 ·
  simp only [HS] at h2;refine xK 2 Z (kZ [2,3,4,18,20,21] Z (xK 9 Z (kZ [2,3,4,25,28,30] Z (xK 3 Z (nB (AS Z (sG (eZ Z (nB (rT (tR (eR ?_))))))))))))
  ·first
   | (rw [BA]; simp_all [eqI]; done)
 simp only [HS] at h2;refine xK 2 Z (kZ [2,3,4,18,20] Z (xK 5 Z ?_));refine gB (fun h3 => ?_) (fun h3 => ?_)
 ·
  simp only [HS] at h3;refine xK 4 Z (kZ [2,3,4,25,28,30] Z (xK 3 Z (nB (AS Z (sG (eZ Z (nB (rT (tR (eR ?_))))))))))
  ·first
   | (rw [BA]; simp_all [eqI]; done)
 simp only [HS] at h3;refine xK 2 Z (gY Z (evE ?_));refine xZ Z (kZ [2,3,4,25,28,29] Z (xZ Z (gY Z (evE ?_))));refine xK 2 Z (nB ?_);refine AD Z (fun h4 => ?_) (fun h4 => ?_)
 ·
  simp only [HS] at h4;refine sG (eZ Z (nB (rT (tR (eR ?_)))))
  ·first
   | (rw [BA, C2 (by omega)]; simp; done)
 simp only [HS] at h4;refine AE (tN (sQ (sG (eK 2 Z (evE ?_)))));refine eZ Z (nB (AG ?_));refine lK (α := Int) [2, 3, 35, 36] [2, 3] (fun x => [(37, .t (.int x))]) (fun x => []) (fun x => 0 ≤ x ∧ x ≤ a.cases.length ∧ (a.cases.length : Int) = b.cases.length ∧ Dy eqAct a.cases b.cases = Dy eqAct (a.cases.drop x.toNat) (b.cases.drop x.toNat)) (fun x => Int.toNat (a.cases.length - x)) 0 ?_ (fun k hx => ?_)
 ·exact ⟨by omega, by omega, by simp_all, rfl⟩
 obtain ⟨hk0, hk1, hlen, hk2⟩ := hx
 refine nY Z (sG (eZ Z (nB (sQ ?_))));refine AD Z (fun h5 => ?_) (fun h5 => ?_)
 ·
  simp only [HS] at h5;refine AE (tN (sQ (AG (sG (eK 2 Z (nB (sQ ?_)))))))
  have hxc := ha _ (Nl (l := a.cases) (n := k.toNat) (by omega))
  have hyc := hb _ (Nl (l := b.cases) (n := k.toNat) (by omega))
  have hxl : ((a.cases[k.toNat]'(by omega)).cases.length : Int) = 0 := by rw [hxc]; rfl
  have hyl : ((b.cases[k.toNat]'(by omega)).cases.length : Int) = 0 := by rw [hyc]; rfl
  refine AV Ac (by kernel_rfl) (evQ ?_);refine evQ ?_;refine evQ ?_;refine AH Z (AP tys Z Z (AA Z) Z Z Z Z Z Z Z (by omega) _ (Az _ (by omega) (by omega)) (evQ ?_));refine evQ ?_;refine evQ ?_;refine evQ ?_;refine evQ ?_;refine AH Z (AP tys Z Z (AA Z) Z Z Z Z Z Z Z (by omega) _ (Az _ (by omega) (by omega)) (evQ ?_));refine evQ ?_;refine evQ ?_;refine evQ ?_;refine DX (fun h6 => ?_) (fun h6 => ?_)
  ·
   simp only [HS] at h6
   iterate 8 (refine Ad rfl rfl rfl rfl rfl (AA rfl) ?_)
   refine AH Z ?_
   iterate 5 (refine Ad rfl rfl rfl rfl rfl (AA rfl) ?_)
   refine evQ ?_;refine evQ ?_
   iterate 3 (refine Ad rfl rfl rfl rfl rfl (AA rfl) ?_)
   refine AH Z ?_
   iterate 8 (refine Ad rfl rfl rfl rfl rfl (AA rfl) ?_)
   refine AH Z (Ad Z Z Z Z Z (AA Z) (Ad Z Z Z Z Z (AA Z) (evQ ?_)));refine evQ ?_
   iterate 6 (refine Ad rfl rfl rfl rfl rfl (AA rfl) ?_)
   refine AH Z ?_
   iterate 8 (refine Ad rfl rfl rfl rfl rfl (AA rfl) ?_)
   refine AH Z (Ad Z Z Z Z Z (AA Z) (Ad Z Z Z Z Z (AA Z) (evQ ?_)));refine Aj (tN (AS Z (sG (eZ Z (nB (rT (bR (tR (AU (bR (tR (eR ?_))))))))))))
   ·first
    | (rw [BA, Bi hlen, hk2, BI hk0 (by omega) hlen, BA (a.cases[k.toNat]'(by omega)), hxc, hyc]; simp_all [eqI]; done)
  simp only [HS] at h6;refine AB Z Z Z Z (AA Z) (evQ ?_);refine AH Z (AB Z Z Z Z (AA Z) (evQ ?_));refine AB Z Z Z Z (AA Z) (evQ ?_);refine AB Z Z Z Z (AA Z) (AP tys Z Z (AA Z) Z Z Z Z Z Z Z (by omega) _ (Az _ (by omega) (by omega)) (AB Z Z Z Z (AA Z) (evQ ?_)));refine AB Z Z Z Z (AA Z) (evQ ?_);refine AB Z Z Z Z (AA Z) (evQ ?_);refine AH Z (AB Z Z Z Z (AA Z) (evQ ?_));refine AB Z Z Z Z (AA Z) (evQ ?_);refine AB Z Z Z Z (AA Z) (AP tys Z Z (AA Z) Z Z Z Z Z Z Z (by omega) _ (Az _ (by omega) (by omega)) (AB Z Z Z Z (AA Z) (evQ ?_)));refine AB Z Z Z Z (AA Z) (evQ ?_);refine AB Z Z Z Z (AA Z) (evQ ?_);refine AH Z (evQ ?_);refine evQ ?_;refine DX (fun h7 => ?_) (fun h7 => ?_)
  ·
   simp only [HS] at h7
   iterate 8 (refine Ad rfl rfl rfl rfl rfl (AA rfl) ?_)
   refine AH Z ?_
   iterate 5 (refine Ad rfl rfl rfl rfl rfl (AA rfl) ?_)
   refine evQ ?_;refine evQ ?_
   iterate 3 (refine Ad rfl rfl rfl rfl rfl (AA rfl) ?_)
   refine AH Z ?_
   iterate 8 (refine Ad rfl rfl rfl rfl rfl (AA rfl) ?_)
   refine AH Z ?_
   iterate 5 (refine Ad rfl rfl rfl rfl rfl (AA rfl) ?_)
   refine evQ ?_;refine Aj (tN (AS Z (sG (eZ Z (nB (rT (bR (tR (AU (bR (tR (eR ?_))))))))))))
   ·first
    | (rw [BA, Bi hlen, hk2, BI hk0 (by omega) hlen, BA (a.cases[k.toNat]'(by omega)), hxc, hyc]; simp_all [eqI]; done)
  simp only [HS] at h7;refine AB Z Z Z Z (AA Z) (evQ ?_);refine AB Z Z Z Z (AA Z) (evQ ?_);refine AB Z Z Z Z (AA Z) (evQ ?_);refine AB Z Z Z Z (AA Z) (AP tys Z Z (AA Z) Z Z Z Z Z Z Z (by omega) _ (Az _ (by omega) (by omega)) (AH Z (AB Z Z Z Z (AA Z) (evQ ?_))));refine AB Z Z Z Z (AA Z) (evQ ?_);refine AB Z Z Z Z (AA Z) (evQ ?_);refine AB Z Z Z Z (AA Z) (evQ ?_);refine AB Z Z Z Z (AA Z) (evQ ?_);refine AB Z Z Z Z (AA Z) (AP tys Z Z (AA Z) Z Z Z Z Z Z Z (by omega) _ (Az _ (by omega) (by omega)) (AH Z (AB Z Z Z Z (AA Z) (evQ ?_))));refine AB Z Z Z Z (AA Z) (evQ ?_);refine AB Z Z Z Z (AA Z) (evQ ?_);refine evQ ?_;refine evQ ?_;refine DX (fun h8 => ?_) (fun h8 => ?_)
  ·
   simp only [HS] at h8
   iterate 8 (refine Ad rfl rfl rfl rfl rfl (AA rfl) ?_)
   refine AH Z ?_
   iterate 8 (refine Ad rfl rfl rfl rfl rfl (AA rfl) ?_)
   refine AH Z (evQ ?_);refine Aj (tN (AS Z (sG (eZ Z (nB (rT (bR (tR (AU (bR (tR (eR ?_))))))))))))
   ·first
    | (rw [BA, Bi hlen, hk2, BI hk0 (by omega) hlen, BA (a.cases[k.toNat]'(by omega)), hxc, hyc]; simp_all [eqI]; done)
  simp only [HS] at h8;refine AB Z Z Z Z (AA Z) (evQ ?_);refine AH Z (AB Z Z Z Z (AA Z) (evQ ?_));refine AB Z Z Z Z (AA Z) (evQ ?_);refine AB Z Z Z Z (AA Z) (AP tys Z Z (AA Z) Z Z Z Z Z Z Z (by omega) _ (Az _ (by omega) (by omega)) (AB Z Z Z Z (AA Z) (evQ ?_)));refine AB Z Z Z Z (AA Z) (evQ ?_);refine AB Z Z Z Z (AA Z) (evEQ ?_);refine AH Z (AB Z Z Z Z (AA Z) (evQ ?_));refine AB Z Z Z Z (AA Z) (evQ ?_);refine AB Z Z Z Z (AA Z) (evQ ?_);refine AB Z Z Z Z (AA Z) (AP tys Z Z (AA Z) Z Z Z Z Z Z Z (by omega) _ (Az _ (by omega) (by omega)) (AB Z Z Z Z (AA Z) (evQ ?_)));refine AB Z Z Z Z (AA Z) (evQ ?_);refine AH Z (AB Z Z Z Z (AA Z) (evEQ ?_));refine AB Z Z Z Z (AA Z) (evIQ ?_);refine AB Z Z Z Z (AA Z) (evQ ?_);refine evQ ?_;refine Aj (tN ?_);refine AD Z (fun h9 => ?_) (fun h9 => ?_)
  ·
   simp only [HS] at h9;refine sG (eZ Z (nB (rT (bR (tR (AU (bR (tR (eR ?_)))))))))
   ·first
    | (rw [BA, Bi hlen, hk2, CA (by omega)]; simp_all [eqI]; done)
  simp only [HS] at h9;refine AE (bN (tN (rG (evI ?_))));refine eZ Z (oN ?_);refine lQ _ ?_ ?_
  ·skip
   refine ⟨by omega, by omega, hlen, ?_⟩; rw [hk2, BI hk0 (by omega) hlen, BA, hxc, hyc]; simp_all [eqI, eqL, Dy]
  ·(show Int.toNat _ < Int.toNat _); omega
 simp only [HS] at h5;refine AR (tE (AO (AN (tN (sG (eZ Z (nB (rT (eR ?_)))))))))
 ·first
  | (rw [BA, Bi hlen, hk2, CA (by omega)]; simp_all [eqI]; done)
theorem GP (a b : Task) (ha : ∀ x, x ∈ a.acts → Fm x) (hb : ∀ x, x ∈ b.acts → Fm x) (hoa : okL 1048576 (Act.ok 1048576) a.acts) (hob : okL 1048576 (Act.ok 1048576) b.acts) : Fun Try.prog 55 [.t a.tt, .t b.tt] (tupD [.t (.bool (C9 a b))]) := by
 have q1 : a.acts.length ≤ 1048576 := hoa.1
 have q2 : b.acts.length ≤ 1048576 := hob.1
 refine Fun.begin tys Try.func55 Z Z (N := 53) [(0, .t a.tt), (1, .t b.tt)] Z Z (fun w0 G F0 => ?_);refine sG (Aa Z Z (AA Z) Z Z (nZ Z (Aa Z Z (AA Z) Z Z (nZ Z (eZ Z (nB (sQ (sG (eK 6 Z (kZ [2,3,4,11] Z ?_))))))))));refine gB (fun h1 => ?_) (fun h1 => ?_)
 ·
  simp only [HS] at h1;refine xK 9 Z (kZ [2,3,4,18,20,21] Z (xK 9 Z (kZ [2,3,4,25,28,30] Z (xK 3 Z (nB (AS Z (sG (eZ Z (nB (rT (tR (eR ?_))))))))))))
  ·first
   | (rw [C9]; simp_all [eqI]; done)
 simp only [HS] at h1;refine xK 7 Z ?_;refine gB (fun h2 => ?_) (fun h2 => ?_)
 ·
  simp only [HS] at h2;refine xK 2 Z (kZ [2,3,4,18,20,21] Z (xK 9 Z (kZ [2,3,4,25,28,30] Z (xK 3 Z (nB (AS Z (sG (eZ Z (nB (rT (tR (eR ?_))))))))))))
  ·first
   | (rw [C9]; simp_all [eqI]; done)
 simp only [HS] at h2;refine xK 2 Z (kZ [2,3,4,18,20] Z (xK 5 Z ?_));refine gB (fun h3 => ?_) (fun h3 => ?_)
 ·
  simp only [HS] at h3;refine xK 4 Z (kZ [2,3,4,25,28,30] Z (xK 3 Z (nB (AS Z (sG (eZ Z (nB (rT (tR (eR ?_))))))))))
  ·first
   | (rw [C9]; simp_all [eqI]; done)
 simp only [HS] at h3;refine xK 2 Z (gY Z (evE ?_));refine xZ Z (kZ [2,3,4,25,28,29] Z (xZ Z (gY Z (evE ?_))));refine xK 2 Z (nB ?_);refine AD Z (fun h4 => ?_) (fun h4 => ?_)
 ·
  simp only [HS] at h4;refine sG (eZ Z (nB (rT (tR (eR ?_)))))
  ·first
   | (rw [C9, C2 (by omega)]; simp; done)
 simp only [HS] at h4;refine AE (tN (sQ (sG (eK 2 Z (evE ?_)))));refine eZ Z (nB (AG ?_));refine lK (α := Int) [2, 3, 35, 36] [2, 3] (fun x => [(37, .t (.int x))]) (fun x => []) (fun x => 0 ≤ x ∧ x ≤ a.acts.length ∧ (a.acts.length : Int) = b.acts.length ∧ Dy eqAct a.acts b.acts = Dy eqAct (a.acts.drop x.toNat) (b.acts.drop x.toNat)) (fun x => Int.toNat (a.acts.length - x)) 0 ?_ (fun k hx => ?_)
 ·exact ⟨by omega, by omega, by simp_all, rfl⟩
 obtain ⟨hk0, hk1, hlen, hk2⟩ := hx
 refine nY Z (sG (eZ Z (nB (sQ ?_))));refine AD Z (fun h5 => ?_) (fun h5 => ?_)
 ·
  simp only [HS] at h5;refine AE (tN (sQ (AG (sG (eK 2 Z (nB (sQ (AV Ac (by kernel_rfl) (evQ ?_)))))))));refine evQ ?_;refine evQ ?_;refine AH Z (AP tys Z Z (AA Z) Z Z Z Z Z Z Z (by omega) _ (Az _ (by omega) (by omega)) (evQ ?_));refine evQ ?_;refine evQ ?_;refine evQ ?_;refine AP tys Z Z (AA Z) Z Z Z Z Z Z Z (by omega) _ (Az _ (by omega) (by omega)) (AH Z (evQ ?_));refine Cb ?_;refine ⟨_, HF _ _ (ha _ (Nl _)) (hb _ (Nl _)) (hoa.2 _ (Nl _)).cases'.1 (hob.2 _ (Nl _)).cases'.1, rfl, ?_⟩;refine evQ ?_;refine Aj (tN ?_);refine AD Z (fun h6 => ?_) (fun h6 => ?_)
  ·
   simp only [HS] at h6;refine sG (eZ Z (nB (rT (bR (tR (AU (bR (tR (eR ?_)))))))))
   ·first
    | (rw [C9, Bi hlen, hk2, BI hk0 (by omega) hlen]; simp_all [eqI]; done)
  simp only [HS] at h6;refine AE (bN (tN (rG (evI ?_))));refine eZ Z (oN ?_);refine lQ _ ?_ ?_
  ·skip
   refine ⟨by omega, by omega, hlen, ?_⟩; rw [hk2, BI hk0 (by omega) hlen]; simp_all
  ·(show Int.toNat _ < Int.toNat _); omega
 simp only [HS] at h5;refine AR (tE (AO (AN (tN (sG (eZ Z (nB (rT (eR ?_)))))))))
 ·first
  | (rw [C9, Bi hlen, hk2, CA (by omega)]; simp_all [eqI]; done)
theorem FO (a b : List Act) (p : Act → Act → Bool) (f : Nat) (ha : a.length ≤ 1073741824) (hb : b.length ≤ 1073741824) (hf : ∀ x, x ∈ a → ∀ y, y ∈ b → Fun Try.prog f (.t x.tt :: .t y.tt :: []) (.t (.bool (p x y)))) : Fun Try.prog 52 [.t (T.Acts a), .t (T.Acts b), .clo f []] (tupD [.t (.bool (eqL p a b))]) := by
 have hcaps : ([] : List D).all D.imm = true := rfl
 refine Fun.begin tys Try.func52 Z Z (N := 32) [(0, .t (T.Acts a)), (1, .t (T.Acts b)), (2, .clo f [])] Z Z (fun w0 G F0 => ?_);refine sG (eZ Z (nB (sQ (sG (eZ Z (evE ?_))))));refine eZ Z (evE ?_);refine eZ Z (nB ?_);refine AD Z (fun h1 => ?_) (fun h1 => ?_)
 ·
  simp only [HS] at h1;refine sG (eZ Z (nB (rT (tR (eR ?_)))))
  ·rw [C2 h1]
   done
 simp only [HS] at h1;refine AE (tN (sQ (sG (eZ Z (evE ?_)))));refine eZ Z (kZ [1,2,6,15,16,17] Z (nB (AG ?_)));refine lK (α := Int) [0, 1, 2, 15, 16] [] (fun x => [(17, .t (.int x))]) (fun x => []) (fun x => 0 ≤ x ∧ x ≤ a.length ∧ (a.length : Int) = b.length ∧ Dy p a b = Dy p (a.drop x.toNat) (b.drop x.toNat)) (fun x => Int.toNat (a.length - x)) 0 ?_ (fun k hx => ?_)
 ·exact ⟨by omega, by omega, by omega, rfl⟩
 obtain ⟨hk0, hk1, hlen, hk2⟩ := hx
 refine nY Z (sG (eZ Z (nB (sQ ?_))));refine AD Z (fun h2 => ?_) (fun h2 => ?_)
 ·
  simp only [HS] at h2;refine AE (tN (sQ (AG (sG (eZ Z (BU tys Z Z (AA Z) Z Z Z Z Z Z Z (by omega) _ (Az _ (by omega) (by omega)) (eZ Z ?_)))))))
  try refine WO_le (Le.freeze (u := 21) rfl) ?_
  refine nZ Z (AK tys Z Z (AA Z) Z Z Z (nZ Z (eZ Z (sT Z (nZ Z (nB (sQ (kY [0,1,2,7,8,15,16,17,18,19,20,21] Z (rG (eK 2 Z (BU tys Z Z (AA Z) Z Z Z Z Z Z Z (by omega) _ (Az _ (by omega) (by omega)) (eZ Z ?_))))))))))))
  try refine WO_le (Le.freeze (u := 25) rfl) ?_
  refine nZ Z (AK tys Z Z (AA Z) Z Z Z (nZ Z (sT Z (nZ Z (nA (BJ tys Z Z (AA Z) Z Z (by assumption) ?_))))));refine eZ Z ?_
  try refine WO_le (Le.freeze (u := 27) rfl) ?_
  refine nZ Z (eZ Z ?_)
  try refine WO_le (Le.freeze (u := 28) rfl) ?_
  refine nZ Z (kZ [0,1,2,7,8,9,15,16,17,18,19,20,21,22,23,24,25,26,27,28] Z (AQ ?_));refine ⟨_, hf _ (Nl _) _ (Nl _), rfl, ?_⟩;refine eZ Z (nB ?_);refine AD Z (fun h3 => ?_) (fun h3 => ?_)
  ·
   simp only [HS] at h3;refine sG (eZ Z (nB (rT (bR (tR (AU (bR (tR (eR ?_)))))))))
   ·rw [Bi hlen, hk2, BI hk0 h2 hlen]
    simp [h3]
    done
  simp only [HS] at h3;refine AE (bN (tN (rG (evI ?_))));refine eZ Z (oN ?_);refine lQ _ ?_ ?_
  ·skip
   refine ⟨by omega, by omega, hlen, ?_⟩; rw [hk2, BI hk0 h2 hlen]; simp [h3]
  ·(show Int.toNat _ < Int.toNat _); omega
 simp only [HS] at h2;refine AR (tE (AO (AN (tN (sG (eZ Z (nB (rT (eR ?_)))))))))
 ·(rw [Bi hlen, hk2, CA (by omega)])
theorem GU (a b : Act) (hla : a.cases.length ≤ 1048576) (hlb : b.cases.length ≤ 1048576) (hs : ∀ x, x ∈ a.cases → ∀ y, y ∈ b.cases → Fun Try.prog 53 [.t x.tt, .t y.tt] (.t (.bool (eqAct x y)))) : Fun Try.prog 53 [.t a.tt, .t b.tt] (tupD [.t (.bool (eqAct a b))]) := by
 refine Fun.begin tys Try.func53 Z Z (N := 31) [(0, .t a.tt), (1, .t b.tt)] Z Z (fun w0 G F0 => ?_);refine sG (Aa Z Z (AA Z) Z Z (nZ Z (Aa Z Z (AA Z) Z Z (nZ Z (eZ Z (nA (eK 6 Z (kZ [2,3,4,10] Z ?_))))))));refine gB (fun h1 => ?_) (fun h1 => ?_)
 ·
  simp only [HS] at h1;refine xK 9 Z (kZ [2,3,4,17,19,20] Z (xK 9 Z (kZ [4,24,29] Z (eK 2 Z (nB (rT (eR ?_)))))))
  ·(rw [BA]; simp_all [eqI])
 simp only [HS] at h1;refine xK 7 Z ?_;refine gB (fun h2 => ?_) (fun h2 => ?_)
 ·
  simp only [HS] at h2;refine xK 2 Z (kZ [2,3,4,17,19,20] Z (xK 9 Z (kZ [4,24,29] Z (eK 2 Z (nB (rT (eR ?_)))))))
  ·(rw [BA]; simp_all [eqI])
 simp only [HS] at h2;refine xK 2 Z (kZ [2,3,4,17,19] Z (xK 5 Z ?_));refine gB (fun h3 => ?_) (fun h3 => ?_)
 ·
  simp only [HS] at h3;refine xK 4 Z (kZ [4,24,29] Z (eK 2 Z (nB (rT (eR ?_)))))
  ·(rw [BA]; simp_all [eqI])
 simp only [HS] at h3;refine xK 4 Z (kZ [4,24,26,28] Z (gY Z (AQ ?_)));refine ⟨_, FO a.cases b.cases eqAct _ (by omega) (by omega) hs, rfl, ?_⟩;refine eK 2 Z (nB (rT (eR ?_)))
 ·(rw [BA]; simp_all [eqI])
theorem HG (a b : Act) (ha : a.ok 1048576) (hb : b.ok 1048576) : Fun Try.prog 53 [.t a.tt, .t b.tt] (.t (.bool (eqAct a b))) :=
 Act.ind (p := fun a => ∀ b, a.ok 1048576 → b.ok 1048576 → Fun Try.prog 53 [.t a.tt, .t b.tt] (.t (.bool (eqAct a b))))
  (fun a ih b ha hb => GU a b ha.cases'.1 hb.cases'.1 fun x hx y hy => ih x hx y (ha.cases'.2 x hx) (hb.cases'.2 y hy)) a b ha hb
theorem GQ (a b : Task) (hoa : okL 1048576 (Act.ok 1048576) a.acts) (hob : okL 1048576 (Act.ok 1048576) b.acts) : Fun Try.prog 51 [.t a.tt, .t b.tt] (tupD [.t (.bool (C9 a b))]) := by
 refine Fun.begin tys Try.func51 Z Z (N := 31) [(0, .t a.tt), (1, .t b.tt)] Z Z (fun w0 G F0 => ?_);refine sG (Aa Z Z (AA Z) Z Z (nZ Z (Aa Z Z (AA Z) Z Z (nZ Z (eZ Z (nA (eK 6 Z (kZ [2,3,4,10] Z ?_))))))));refine gB (fun h1 => ?_) (fun h1 => ?_)
 ·
  simp only [HS] at h1;refine xK 9 Z (kZ [2,3,4,17,19,20] Z (xK 9 Z (kZ [4,24,29] Z (eK 2 Z (nB (rT (eR ?_)))))))
  ·(rw [C9]; simp_all [eqI])
 simp only [HS] at h1;refine xK 7 Z ?_;refine gB (fun h2 => ?_) (fun h2 => ?_)
 ·
  simp only [HS] at h2;refine xK 2 Z (kZ [2,3,4,17,19,20] Z (xK 9 Z (kZ [4,24,29] Z (eK 2 Z (nB (rT (eR ?_)))))))
  ·(rw [C9]; simp_all [eqI])
 simp only [HS] at h2;refine xK 2 Z (kZ [2,3,4,17,19] Z (xK 5 Z ?_));refine gB (fun h3 => ?_) (fun h3 => ?_)
 ·
  simp only [HS] at h3;refine xK 4 Z (kZ [4,24,29] Z (eK 2 Z (nB (rT (eR ?_)))))
  ·(rw [C9]; simp_all [eqI])
 simp only [HS] at h3;refine xK 4 Z (kZ [4,24,26,28] Z (gY Z (AQ ?_)));refine ⟨_, FO a.acts b.acts eqAct _ (N7 hoa.1 (by decide)) (N7 hob.1 (by decide)) (fun x hx y hy => HG x y (hoa.2 x hx) (hob.2 y hy)), rfl, ?_⟩;refine eK 2 Z (nB (rT (eR ?_)))
 ·(rw [C9]; simp_all [eqI])
theorem Ii (a b : List (List Int)) (p : List Int → List Int → Bool) (f : Nat) (caps : List D) (hcaps : caps.all D.imm = true) (ha : a.length ≤ 1073741824) (hb : b.length ≤ 1073741824) (hf : ∀ x, x ∈ a → ∀ y, y ∈ b → Fun Try.prog f (.t (T.ints x) :: .t (T.ints y) :: caps) (.t (.bool (p x y)))) : Fun Try.prog 48 [.t (Af a), .t (Af b), .clo f caps] (tupD [.t (.bool (eqL p a b))]) := by
 refine Fun.begin tys Try.func48 Z Z (N := 32) [(0, .t (Af a)), (1, .t (Af b)), (2, .clo f caps)] Z Z (fun w0 G F0 => ?_);refine sG (eZ Z (nB (sQ (sG (eZ Z (evE ?_))))));refine eZ Z (evE ?_);refine eZ Z (nB ?_);refine AD Z (fun h1 => ?_) (fun h1 => ?_)
 ·
  simp only [HS] at h1;refine sG (eZ Z (nB (rT (tR (eR ?_)))))
  ·rw [C2 h1]
   done
 simp only [HS] at h1;refine AE (tN (sQ (sG (eZ Z (evE ?_)))));refine eZ Z (kZ [1,2,6,15,16,17] Z (nB (AG ?_)));refine lK (α := Int) [0, 1, 2, 15, 16] [] (fun x => [(17, .t (.int x))]) (fun x => []) (fun x => 0 ≤ x ∧ x ≤ a.length ∧ (a.length : Int) = b.length ∧ Dy p a b = Dy p (a.drop x.toNat) (b.drop x.toNat)) (fun x => Int.toNat (a.length - x)) 0 ?_ (fun k hx => ?_)
 ·exact ⟨by omega, by omega, by omega, rfl⟩
 obtain ⟨hk0, hk1, hlen, hk2⟩ := hx
 refine nY Z (sG (eZ Z (nB (sQ ?_))));refine AD Z (fun h2 => ?_) (fun h2 => ?_)
 ·
  simp only [HS] at h2;refine AE (tN (sQ (AG (sG (eZ Z ?_)))));refine iY (k := ?_);refine eK 3 Z (nA (eK 2 Z ?_));refine iY (k := ?_);refine kZ [0,1,2,7,8,15,16,17,18,19,20,21,22,23,24] Z (eK 2 Z (nA (BJ tys Z Z (AA Z) Z Z (by assumption) ?_)));refine eK 2 Z ?_;refine CK Z Z (AA Z) Z Z (by repeat (first | exact ResL.done | exact ResL.imms (by first | rfl | assumption) | refine ResL.t ?_ | refine ResL.own ?_ | refine ResL.slA Z (by first | rfl | (simp; done) | (simp; omega)) ?_ | refine ResL.sl Z (by first | omega | (simp; done) | (simp; omega)) ?_ | refine ResL.rp ?_ | refine ResL.clo ?_ ?_ | refine ResL.aggT ?_ ?_ | refine ResL.ref Z ?_ ?_ | refine ResL.nil' ?_ | refine ResL.nil 1 ?_)) (hf _ (Nl _) _ (Nl _)) Z ?_;refine eZ Z (nB ?_);refine AD Z (fun h3 => ?_) (fun h3 => ?_)
  ·
   simp only [HS] at h3;refine sQ (kY [0,1,2,7,8,9,15,16,17,18,19,20,21,22,23,24,25,26,27,28,29,30] Z (rG (eZ Z (nB (rT (bR (tR (AU (bR (tR (eR ?_)))))))))))
   ·rw [Bi hlen, hk2, BI hk0 h2 hlen]
    simp [h3]
    done
  simp only [HS] at h3;refine AE (bN (tN (kY [0,1,2,7,8,9,15,16,17,18,19,20,21,22,23,24,25,26,27,28,29,30] Z (rG (evI ?_)))));refine eZ Z (oN ?_);refine lQ _ ?_ ?_
  ·skip
   refine ⟨by omega, by omega, hlen, ?_⟩; rw [hk2, BI hk0 h2 hlen]; simp [h3]
  ·(show Int.toNat _ < Int.toNat _); omega
 simp only [HS] at h2;refine AR (tE (AO (AN (tN (sG (eZ Z (nB (rT (eR ?_)))))))))
 ·(rw [Bi hlen, hk2, CA (by omega)])
theorem Ij (a b : List Task) (p : Task → Task → Bool) (f : Nat) (ha : a.length ≤ 1073741824) (hb : b.length ≤ 1073741824) (hf : ∀ x, x ∈ a → ∀ y, y ∈ b → Fun Try.prog f (.t x.tt :: .t y.tt :: []) (.t (.bool (p x y)))) : Fun Try.prog 50 [.t (T.Tasks a), .t (T.Tasks b), .clo f []] (tupD [.t (.bool (eqL p a b))]) := by
 have hcaps : ([] : List D).all D.imm = true := rfl
 refine Fun.begin tys Try.func50 Z Z (N := 32) [(0, .t (T.Tasks a)), (1, .t (T.Tasks b)), (2, .clo f [])] Z Z (fun w0 G F0 => ?_);refine sG (eZ Z (nB (sQ (sG (eZ Z (evE ?_))))));refine eZ Z (evE ?_);refine eZ Z (nB ?_);refine AD Z (fun h1 => ?_) (fun h1 => ?_)
 ·
  simp only [HS] at h1;refine sG (eZ Z (nB (rT (tR (eR ?_)))))
  ·rw [C2 h1]
   done
 simp only [HS] at h1;refine AE (tN (sQ (sG (eZ Z (evE ?_)))));refine eZ Z (kZ [1,2,6,15,16,17] Z (nB (AG ?_)));refine lK (α := Int) [0, 1, 2, 15, 16] [] (fun x => [(17, .t (.int x))]) (fun x => []) (fun x => 0 ≤ x ∧ x ≤ a.length ∧ (a.length : Int) = b.length ∧ Dy p a b = Dy p (a.drop x.toNat) (b.drop x.toNat)) (fun x => Int.toNat (a.length - x)) 0 ?_ (fun k hx => ?_)
 ·exact ⟨by omega, by omega, by omega, rfl⟩
 obtain ⟨hk0, hk1, hlen, hk2⟩ := hx
 refine nY Z (sG (eZ Z (nB (sQ ?_))));refine AD Z (fun h2 => ?_) (fun h2 => ?_)
 ·
  simp only [HS] at h2;refine AE (tN (sQ (AG (sG (eZ Z ?_)))));refine iY (k := ?_);refine eZ Z ?_
  try refine WO_le (Le.freeze (u := 21) rfl) ?_
  refine nZ Z (AK tys Z Z (AA Z) Z Z Z (nZ Z (eZ Z (sT Z (nZ Z (nB (sQ (kY [0,1,2,7,8,15,16,17,18,19,20,21] Z (rG (eK 2 Z ?_))))))))));refine iY (k := ?_);refine eZ Z ?_
  try refine WO_le (Le.freeze (u := 25) rfl) ?_
  refine nZ Z (AK tys Z Z (AA Z) Z Z Z (nZ Z (sT Z (nZ Z (nA (BJ tys Z Z (AA Z) Z Z (by assumption) ?_))))));refine eZ Z ?_
  try refine WO_le (Le.freeze (u := 27) rfl) ?_
  refine nZ Z (eZ Z ?_)
  try refine WO_le (Le.freeze (u := 28) rfl) ?_
  refine nZ Z (kZ [0,1,2,7,8,9,15,16,17,18,19,20,21,22,23,24,25,26,27,28] Z (AQ ?_));refine ⟨_, hf _ (Nl _) _ (Nl _), rfl, ?_⟩;refine eZ Z (nB ?_);refine AD Z (fun h3 => ?_) (fun h3 => ?_)
  ·
   simp only [HS] at h3;refine sG (eZ Z (nB (rT (bR (tR (AU (bR (tR (eR ?_)))))))))
   ·rw [Bi hlen, hk2, BI hk0 h2 hlen]
    simp [h3]
    done
  simp only [HS] at h3;refine AE (bN (tN (rG (evI ?_))));refine eZ Z (oN ?_);refine lQ _ ?_ ?_
  ·skip
   refine ⟨by omega, by omega, hlen, ?_⟩; rw [hk2, BI hk0 h2 hlen]; simp [h3]
  ·(show Int.toNat _ < Int.toNat _); omega
 simp only [HS] at h2;refine AR (tE (AO (AN (tN (sG (eZ Z (nB (rT (eR ?_)))))))))
 ·(rw [Bi hlen, hk2, CA (by omega)])
theorem NJ (x y : List Int) (hx : x.length ≤ 1048576) (hy : y.length ≤ 1048576) : Fun Try.prog 30 [.t (T.ints x), .t (T.ints y)] (.t (.bool (eqD x y))) := DT x y (by omega) (by omega)
theorem Fj (a b : World) (ha : a.ok 1048576) (hb : b.ok 1048576) : Fun Try.prog 21 [.t a.tt, .t b.tt] (tupD [.t (.bool (CL a b))]) := by
 obtain ⟨a1, ⟨a2, a8⟩, a3, ⟨a4, a5⟩, a6, a7⟩ := ha
 obtain ⟨b1, ⟨b2, b8⟩, b3, ⟨b4, b5⟩, b6, b7⟩ := hb
 refine Fun.begin tys Try.func21 Z Z (N := 38) [(0, .t a.tt), (1, .t b.tt)] Z Z (fun w0 G F0 => ?_);refine sG (Aa Z Z (AA Z) Z Z (nZ Z (Aa Z Z (AA Z) Z Z (nZ Z (eZ Z (nA (eK 4 Z (AQ ?_))))))));refine ⟨_, DT _ _ (N7 (by assumption) (by decide)) (N7 (by assumption) (by decide)), rfl, ?_⟩;refine eZ Z (kZ [2,3,4,10] Z ?_);refine gB (fun h1 => ?_) (fun h1 => ?_)
 ·
  simp only [HS] at h1;refine xK 9 Z (kZ [2,3,4,17,19,20] Z (xK 9 Z (kZ [2,3,4,24,29] Z (xK 9 Z (kZ [4] Z (nB (rT (eR ?_))))))))
  ·(rw [CL]; simp_all)
 simp only [HS] at h1;refine xK 4 Z (gY Z (AQ ?_));refine ⟨_, Ii a.held b.held eqD _ [] Z (N7 a2 (by decide)) (N7 b2 (by decide)) (fun x hx y hy => NJ x y (a8 x hx) (b8 y hy)), rfl, ?_⟩;refine eK 2 Z ?_;refine gB (fun h2 => ?_) (fun h2 => ?_)
 ·
  simp only [HS] at h2;refine xK 2 Z (kZ [2,3,4,17,19,20] Z (xK 9 Z (kZ [2,3,4,24,29] Z (xK 9 Z (kZ [4] Z (nB (rT (eR ?_))))))))
  ·(rw [CL]; simp_all)
 refine xK 2 Z (kZ [2,3,4,17,19] Z (xK 2 Z (gY Z (AQ ?_))));refine ⟨_, J8 _ _ (N7 a3 (by decide)) (N7 b3 (by decide)), rfl, ?_⟩;refine eK 2 Z ?_;refine gB (fun h3 => ?_) (fun h3 => ?_)
 ·
  simp only [HS] at h3;refine xK 4 Z (kZ [2,3,4,24,29] Z (xK 9 Z (kZ [4] Z (nB (rT (eR ?_))))))
  ·(rw [CL]; simp_all)
 refine xK 4 Z (kZ [2,3,4,24,26,28] Z (gY Z (AQ ?_)));refine ⟨_, DT _ _ (N7 (by assumption) (by decide)) (N7 (by assumption) (by decide)), rfl, ?_⟩;refine eK 2 Z ?_;refine gB (fun h4 => ?_) (fun h4 => ?_)
 ·
  simp only [HS] at h4;refine xK 6 Z (kZ [4] Z (nB (rT (eR ?_))))
  ·(rw [CL]; simp_all)
 simp only [HS] at h4;refine xK 4 Z (gY Z (AQ ?_));refine ⟨_, Ij a.tasks b.tasks C9 _ (N7 a4 (by decide)) (N7 b4 (by decide)) (fun x hx y hy => GQ x y (a5 x hx).1 (b5 y hy).1), rfl, ?_⟩;refine eZ Z (kZ [4,37] Z (eZ Z (nB (rT (eR ?_)))))
 ·(rw [CL]; simp_all)
theorem Fi (a b : World) (ha : DrW a) (hb : DrW b) : Fun Try.prog 22 [.t a.tt, .t b.tt] (tupD [.t (.bool (CL a b))]) := by
 obtain ⟨a1, ⟨a2, a8⟩, a3, ⟨a4, a5⟩, a6, a7⟩ := ha.ok 1048576 (by decide)
 obtain ⟨b1, ⟨b2, b8⟩, b3, ⟨b4, b5⟩, b6, b7⟩ := hb.ok 1048576 (by decide)
 have q3 : a.shut.length ≤ 1048576 := a3
 have q4 : a.held.length ≤ 1048576 := a2
 have q5 : a.tasks.length ≤ 1048576 := a4
 refine Fun.begin tys Try.func22 Z Z (N := 105) [(0, .t a.tt), (1, .t b.tt)] Z Z (fun w0 G F0 => ?_);refine sG (Aa Z Z (AA Z) Z Z (nZ Z (Aa Z Z (AA Z) Z Z (nZ Z (eZ Z (nB (sQ (sG (eK 4 Z (AQ ?_))))))))));refine ⟨_, C1 _ _ (N7 (by first | assumption | exact a8 _ (Nl _)) (by decide)) (N7 (by first | assumption | exact b8 _ (Nl _)) (by decide)), rfl, ?_⟩;refine eZ Z (kZ [2,3,4,13] Z (eZ Z ?_));refine gB (fun h1 => ?_) (fun h1 => ?_)
 ·
  simp only [HS] at h1;refine xK 8 Z (kZ [2,3,4,23] Z (xK 9 Z (kZ [2,3,4,32] Z (xK 9 Z (kZ [2,3,4,41] Z (xK 7 Z (nB (AS Z (sQ (kY [2,3,4] Z (rG (eZ Z (nB (rT (tR ?_)))))))))))))));refine eR ?_
  ·first
   | (rw [CL]; simp_all; done)
 simp only [HS] at h1;refine xK 2 Z (gY Z (evE ?_));refine xK 2 Z (gY Z (evE ?_));refine xK 2 Z (kZ [2,3,4,22] Z (eZ Z ?_));refine gB (fun h2 => ?_) (fun h2 => ?_)
 ·
  simp only [HS] at h2;refine xK 8 Z (kZ [2,3,4,32] Z (xK 9 Z (kZ [2,3,4,41] Z (xK 7 Z (nB (AS Z (sQ (kY [2,3,4] Z (rG (eZ Z (nB (rT (tR (eR ?_))))))))))))))
  ·first
   | (rw [CL, C2 (f := eqD) (a := a.held) (b := b.held) (by omega)]; simp; done)
 simp only [HS] at h2;refine xK 2 Z (gY Z (evE ?_));refine xK 2 Z (gY Z (evE ?_));refine xK 2 Z (kZ [2,3,4,31] Z (eZ Z ?_));refine gB (fun h3 => ?_) (fun h3 => ?_)
 ·
  simp only [HS] at h3;refine xK 8 Z (kZ [2,3,4,41] Z (xK 7 Z (nB (AS Z (sQ (kY [2,3,4] Z (rG (eZ Z (nB (rT (tR (eR ?_))))))))))))
  ·first
   | (rw [CL, C2 (f := eqB) (a := a.shut) (b := b.shut) (by omega)]; simp; done)
 simp only [HS] at h3;refine xK 2 Z (gY Z (evE ?_));refine xK 2 Z (gY Z (evE ?_));refine xK 2 Z (kZ [2,3,4,40] Z (eZ Z ?_));refine gB (fun h4 => ?_) (fun h4 => ?_)
 ·
  simp only [HS] at h4;refine xK 6 Z (nB (AS Z (sQ (kY [2,3,4] Z (rG (eZ Z (nB (rT (tR (eR ?_))))))))))
  ·first
   | (rw [CL, C2 (f := C9) (a := a.tasks) (b := b.tasks) (by omega)]; simp; done)
 simp only [HS] at h4;refine xK 4 Z (gY Z (AQ ?_));refine ⟨_, C1 _ _ (N7 (by first | assumption | exact a8 _ (Nl _)) (by decide)) (N7 (by first | assumption | exact b8 _ (Nl _)) (by decide)), rfl, ?_⟩;refine xK 2 Z (nB ?_);refine AD Z (fun h5 => ?_) (fun h5 => ?_)
 ·
  simp only [HS] at h5;refine sQ (kY [2,3,4] Z (rG (eZ Z (nB (rT (tR (eR ?_)))))))
  ·first
   | (rw [CL]; simp_all; done)
 simp only [HS] at h5;refine AE (tN (sQ (sQ (kY [2,3,4] Z (rG (eK 2 Z (evE ?_)))))));refine eZ Z (nB (AG ?_));refine lK (α := Int) [2, 3, 50, 51] [2, 3] (fun x => [(52, .t (.int x))]) (fun x => []) (fun x => 0 ≤ x ∧ x ≤ a.held.length ∧ (a.held.length : Int) = b.held.length ∧ Dy eqD a.held b.held = Dy eqD (a.held.drop x.toNat) (b.held.drop x.toNat)) (fun x => Int.toNat (a.held.length - x)) 0 ?_ (fun k hx => ?_)
 ·exact ⟨by omega, by omega, by simp_all, rfl⟩
 obtain ⟨hA0, hA1, hlenA, hA2⟩ := hx
 refine nY Z (sG (eZ Z (nB (sQ ?_))));refine AD Z (fun h6 => ?_) (fun h6 => ?_)
 ·
  simp only [HS] at h6;refine AE (tN (sQ (AG (sG (eK 2 Z (nB (sQ (AV Ac (by kernel_rfl) (evQ ?_)))))))));refine evQ ?_;refine evQ ?_;refine AH Z (AP tys Z Z (AA Z) Z Z Z Z Z Z Z (by omega) _ (CM _ _ (by omega) (by omega)) (evQ ?_));refine evQ ?_;refine evQ ?_;refine evQ ?_;refine AP tys Z Z (AA Z) Z Z Z Z Z Z Z (by omega) _ (CM _ _ (by omega) (by omega)) (AH Z (evQ ?_));refine Cb ?_;refine ⟨_, C1 _ _ (N7 (by first | assumption | exact a8 _ (Nl _)) (by decide)) (N7 (by first | assumption | exact b8 _ (Nl _)) (by decide)), rfl, ?_⟩;refine evQ ?_;refine Aj (tN ?_);refine AD Z (fun h7 => ?_) (fun h7 => ?_)
  ·
   simp only [HS] at h7;refine sG (eZ Z (nB (rT (bR (tR (AU (bR (tR (eR ?_)))))))))
   ·first
    | (rw [CL, Bi hlenA, hA2, BI hA0 (by omega) hlenA]; simp_all [eqD]; done)
  simp only [HS] at h7;refine AE (bN (tN (rG (evI ?_))));refine eZ Z (oN ?_);refine lQ _ ?_ ?_
  ·skip
   refine ⟨by omega, by omega, hlenA, ?_⟩; rw [hA2, BI hA0 (by omega) hlenA]; simp_all [eqD]
  ·(show Int.toNat _ < Int.toNat _); omega
 simp only [HS] at h6;refine AR (tE (AO (AN (tN (sQ (sQ ?_))))))
 have hH : eqL eqD a.held b.held = true := by rw [Bi hlenA, hA2, CA (by omega)]
 refine rG (eK 2 Z (evE ?_));refine eZ Z (nB (AG ?_));refine lK (α := Int) [2, 3, 69, 70] [2, 3] (fun x => [(71, .t (.int x))]) (fun x => []) (fun x => 0 ≤ x ∧ x ≤ a.shut.length ∧ (a.shut.length : Int) = b.shut.length ∧ Dy eqB a.shut b.shut = Dy eqB (a.shut.drop x.toNat) (b.shut.drop x.toNat)) (fun x => Int.toNat (a.shut.length - x)) 0 ?_ (fun k hx => ?_)
 ·exact ⟨by omega, by omega, by simp_all, rfl⟩
 obtain ⟨hB0, hB1, hlenB, hB2⟩ := hx
 refine nY Z (sG (eZ Z (nB (sQ ?_))));refine AD Z (fun h7 => ?_) (fun h7 => ?_)
 ·
  simp only [HS] at h7;refine AE (tN (sQ (AG (sG (eK 2 Z (nB (sQ (AV Ac (by kernel_rfl) (evQ ?_)))))))));refine evQ ?_;refine evQ ?_;refine AH Z (AP tys Z Z (AA Z) Z Z Z Z Z Z Z (by omega) _ (CM _ _ (by omega) (by omega)) (evQ ?_));refine evQ ?_;refine evQ ?_;refine evQ ?_;refine AP tys Z Z (AA Z) Z Z Z Z Z Z Z (by omega) _ (CM _ _ (by omega) (by omega)) (AH Z (evQ ?_));refine evQ ?_;refine Aj (tN ?_);refine AD Z (fun h8 => ?_) (fun h8 => ?_)
  ·
   simp only [HS] at h8;refine sG (eZ Z (nB (rT (bR (tR (AU (bR (tR (eR ?_)))))))))
   ·first
    | (rw [CL, Bi hlenB, hB2, BI hB0 (by omega) hlenB]; simp_all [eqB]; done)
  simp only [HS] at h8;refine AE (bN (tN (rG (evI ?_))));refine eZ Z (oN ?_);refine lQ _ ?_ ?_
  ·skip
   refine ⟨by omega, by omega, hlenB, ?_⟩; rw [hB2, BI hB0 (by omega) hlenB]; simp_all [eqB]
  ·(show Int.toNat _ < Int.toNat _); omega
 simp only [HS] at h7;refine AR (tE (AO (AN (tN (sQ (sQ ?_))))))
 have hS : eqL eqB a.shut b.shut = true := by rw [Bi hlenB, hB2, CA (by omega)]
 refine rG (eK 2 Z (evE ?_));refine eZ Z (nB (AG ?_));refine lK (α := Int) [2, 3, 87, 88] [2, 3] (fun x => [(89, .t (.int x))]) (fun x => []) (fun x => 0 ≤ x ∧ x ≤ a.tasks.length ∧ (a.tasks.length : Int) = b.tasks.length ∧ Dy C9 a.tasks b.tasks = Dy C9 (a.tasks.drop x.toNat) (b.tasks.drop x.toNat)) (fun x => Int.toNat (a.tasks.length - x)) 0 ?_ (fun k hx => ?_)
 ·exact ⟨by omega, by omega, by simp_all, rfl⟩
 obtain ⟨hk0, hk1, hlen, hk2⟩ := hx
 refine nY Z (sG (eZ Z (nB (sQ ?_))));refine AD Z (fun h8 => ?_) (fun h8 => ?_)
 ·
  simp only [HS] at h8;refine AE (tN (sQ (AG (sG (eK 2 Z (nB (sQ (AV Ac (by kernel_rfl) (evQ ?_)))))))));refine evQ ?_;refine evQ ?_;refine AH Z (AP tys Z Z (AA Z) Z Z Z Z Z Z Z (by omega) _ (CM _ _ (by omega) (by omega)) (evQ ?_));refine evQ ?_;refine evQ ?_;refine evQ ?_;refine AP tys Z Z (AA Z) Z Z Z Z Z Z Z (by omega) _ (CM _ _ (by omega) (by omega)) (AH Z (evQ ?_));refine Cb ?_;refine ⟨_, GP _ _ (ha.flat _ (Nl _)) (hb.flat _ (Nl _)) (a5 _ (Nl _)).1 (b5 _ (Nl _)).1, rfl, ?_⟩;refine evQ ?_;refine Aj (tN ?_);refine AD Z (fun h9 => ?_) (fun h9 => ?_)
  ·
   simp only [HS] at h9;refine sG (eZ Z (nB (rT (bR (tR (AU (bR (tR (eR ?_)))))))))
   ·first
    | (rw [CL, Bi hlen, hk2, BI hk0 (by omega) hlen]; simp_all; done)
  simp only [HS] at h9;refine AE (bN (tN (rG (evI ?_))));refine eZ Z (oN ?_);refine lQ _ ?_ ?_
  ·skip
   refine ⟨by omega, by omega, hlen, ?_⟩; rw [hk2, BI hk0 (by omega) hlen]; simp_all
  ·(show Int.toNat _ < Int.toNat _); omega
 simp only [HS] at h8;refine AR (tE (AO (AN (tN (sG (eZ Z (nB (rT (eR ?_)))))))))
 ·first
  | (rw [CL, hH, hS, Bi hlen, hk2, CA (by omega)]; simp_all; done)
open Go.Eng
theorem Hf (a b : List Int) (ha : a.length ≤ 9223372036854775807) (hb : b.length ≤ 9223372036854775807) (hab : ∀ x, x ∈ a → 0 ≤ x ∧ x ≤ 255) (hbb : ∀ x, x ∈ b → 0 ≤ x ∧ x ≤ 255) : Fun Try.prog 3 [.t (T.bytes a), .t (T.bytes b)] (tupD [.t (.bool true)]) := by
  refine Fun.begin tys Try.func3 Z Z (N := 245) [(0, .t (T.bytes a)), (1, .t (T.bytes b))] Z Z (fun w0 G F0 => ?_);refine sG (eZ Z (nB (sQ (sG (eK 2 Z (AQ ?_))))));refine ⟨_, NS a b ha hb, rfl, ?_⟩;refine nB ?_;refine AD Z (fun h1 => ?_) (fun h1 => ?_)
  ·
    refine sG (eZ Z (nB (rT (tR (eR ?_)))))
    · rfl
  refine AE (tN (sQ ?_))
  have hca : Dd a := ⟨by simp_all; omega, hab⟩
  have hcb : Dd b := ⟨by simp_all; omega, hbb⟩
  have hd := Cf (c := cu0) hca (by decide)
  have hdr := KA a hca
  obtain ⟨mv, hmv⟩ : ∃ m, m = mdR a (worldR a cu0).1 (worldR a cu0).2 := ⟨_, rfl⟩
  rw [← hmv] at hdr
  have hml : mv.length ≤ 1000 := by rw [hmv]; unfold mdR; split; exact Hc; exact (show (4 : Nat) ≤ 1000 by decide)
  clear hmv;generalize (worldR a cu0).1 = w at hd hdr
  have hw1 := hd.ok 1048576 (by decide)
  have hw2 := hd.ok 9223372036854775807 (by decide)
  have hz := MH w mv
  obtain ⟨wy, hx⟩ : ∃ wy, wy = dmR w mv := ⟨_, rfl⟩
  have hx1 : wy.ok 1048576 := by rw [hx]; exact Mn hz (by decide)
  have hx2 : wy.ok 9223372036854775807 := by rw [hx]; exact Mn hz (by decide)
  have hdI := J3 w mv hw1 hw2 (by omega)
  have hdS := Jq w mv hw1 (by omega)
  rw [← hx] at hdI hdS
  have hmw := Hb (B := 1000) (by decide) w
  have hds := Gs b hcb
  have hde := Cf (c := cu0) hcb (by decide)
  have hdm := Ik b hcb
  have hdw := Hu b hcb
  have hsa := (HD hcb).1
  have hsb := (HD hcb).2
  generalize (worldR b cu0).1 = v at hds hde hdm;generalize (sameDr b).1 = s1 at hdw hsa;generalize (sameDr b).2 = s2 at hdw hsb
  have hv1 := hde.ok 1048576 (by decide)
  have hv2 := hde.ok 9223372036854775807 (by decide)
  refine rG (eZ Z (BG Z Z (AA Z) Z Z Z Z Z (hdr) Z (Ae Z Z (AA Z) (.inr Z) Z Z (A3 Z Z (AA Z) Z Z Z Z ?_))))
  first | refine WO_le (Le.adoptE (u := 43) 43 rfl (by first | exact He | exact rfl)) ?_ | skip
  refine nZ Z (WO_evF tys Z Z (AA Z) (d := .t _) Z (nZ Z (kZ [1,4,43,44] Z (AK tys Z Z (AA Z) Z Z Z (nZ Z (sT Z (nZ Z (eZ Z (nA (eZ Z ?_))))))))))
  try refine WO_le (Le.freeze (u := 46) rfl) ?_
  refine nZ Z (eZ Z (AQ ?_));refine ⟨_, hdI, rfl, ?_⟩;refine Ae Z Z (AA Z) (.inr Z) Z Z (A3 Z Z (AA Z) Z Z Z Z ?_)
  first | refine WO_le (Le.adoptE (u := 49) 49 rfl (by first | exact He | exact rfl)) ?_ | skip
  refine nZ Z (WO_evF tys Z Z (AA Z) (d := .t _) Z (nZ Z (kZ [1,4,5,6,49,50] Z (AK tys Z Z (AA Z) Z Z Z (nZ Z (sT Z (nZ Z (WO_le (Le.freezeB (u := 7) Z Z) (nZ Z (eZ Z (nA (eZ Z ?_))))))))))))
  try refine WO_le (Le.freeze (u := 52) rfl) ?_
  refine nZ Z (eZ Z (BG Z Z (AA Z) Z Z Z Z Z (hdS) Z (Ae Z Z (AA Z) (.inr Z) Z Z (A3 Z Z (AA Z) Z Z Z Z ?_))))
  first | refine WO_le (Le.adoptE (u := 55) 55 rfl (by first | exact He | exact rfl)) ?_ | skip
  refine nZ Z (WO_evF tys Z Z (AA Z) (d := .t _) Z (nZ Z (kZ [1,4,5,7,8,55,56] Z (AK tys Z Z (AA Z) Z Z Z (nZ Z (sT Z (nZ Z (eZ Z (nA (eZ Z ?_))))))))))
  try refine WO_le (Le.freeze (u := 58) rfl) ?_
  refine nZ Z (AQ ?_);refine ⟨_, Gj w hw1 hw2, rfl, ?_⟩;refine Ae Z Z (AA Z) (.inr Z) Z Z (nZ Z (A3 Z Z (AA Z) Z Z Z Z (WO_le (Le.freeze (u := 60) Z) (nZ Z (WO_evF tys Z Z (AA Z) (d := .t _) Z (nZ Z (eZ Z (kZ [1,4,5,7,8,9,10,11,61] Z (eZ Z (nA (eZ Z ?_)))))))))))
  try refine WO_le (Le.freeze (u := 63) rfl) ?_
  refine nZ Z (AQ ?_);refine ⟨_, D3 w hw1 hw2, rfl, ?_⟩;refine Ae Z Z (AA Z) (.inr Z) Z Z (nZ Z (A3 Z Z (AA Z) Z Z Z Z (WO_le (Le.freeze (u := 65) Z) (nZ Z (WO_evF tys Z Z (AA Z) (d := .t _) Z (nZ Z (eK 2 Z (nB (sQ (sQ (kY [1,4,5,7,8,9,10,11,12,13,14] Z (AV Ac (by kernel_rfl) (evQ ?_)))))))))))));refine evQ ?_;refine evQ ?_;refine Ap (v := false) (by simp) ?_;refine evQ ?_;refine AB Z Z Z Z (AA Z) (ES tys Z Z (AA Z) Z Z (AB Z Z Z Z (AA Z) (ES tys Z Z (AA Z) Z Z (AH Z (AB Z Z Z Z (AA Z) (Cb ?_))))));refine ⟨_, GO wy hx1, rfl, ?_⟩;refine AB Z Z Z Z (AA Z) (evQ ?_);refine Ap (v := false) (by simp) ?_;refine evQ ?_;refine evQ ?_;refine AB Z Z Z Z (AA Z) (evQ ?_);refine AB Z Z Z Z (AA Z) (evQ ?_);refine AH Z (AB Z Z Z Z (AA Z) (evQ ?_));refine Ap (v := false) (by simp) ?_;refine evQ ?_;refine evQ ?_;refine AB Z Z Z Z (AA Z) (evQ ?_);refine AB Z Z Z Z (AA Z) (evQ ?_);refine AB Z Z Z Z (AA Z) (Cb ?_);refine ⟨_, D5 (Ay w) (by have := hmw.1; omega) (fun y hy => by have := hmw.2 y hy; unfold okN at this; omega), rfl, ?_⟩;refine AH Z (AB Z Z Z Z (AA Z) (evQ ?_));refine Ap (v := false) (by simp) ?_;refine evQ ?_;refine evQ ?_;refine AB Z Z Z Z (AA Z) (ES tys Z Z (AA Z) Z Z (AB Z Z Z Z (AA Z) (Cb ?_)));refine ⟨_, B6 w hw1 hw2, rfl, ?_⟩;refine AB Z Z Z Z (AA Z) (ES tys Z Z (AA Z) Z Z (AH Z (AB Z Z Z Z (AA Z) (Cb ?_))));refine ⟨_, A2 w hw1, rfl, ?_⟩;refine AB Z Z Z Z (AA Z) (evQ ?_);refine Ap (v := false) (by simp) ?_;refine evQ ?_;refine evQ ?_;refine AB Z Z Z Z (AA Z) (evQ ?_);refine AB Z Z Z Z (AA Z) (ES tys Z Z (AA Z) Z Z (AH Z (AB Z Z Z Z (AA Z) (Cb ?_))));refine ⟨_, B6 w hw1 hw2, rfl, ?_⟩;refine AB Z Z Z Z (AA Z) (evQ ?_);refine Ap (v := false) (by simp) ?_;refine evQ ?_;refine Aj (tN (A0 Z (AE (tN (sQ (sG (eZ Z (nB ?_))))))));refine BM (α := Unit) [1, 5, 11, 12] [5] (fun x => []) (fun x => []) (fun x => True) ?_ (fun x hx => ?_)
  ·
    refine AD Z (fun h2 => ?_) (fun h2 => ?_)
    ·
      refine sG (eK 3 Z (nB (sQ (sQ ?_))))
      have hdf : DmF w wy := by rw [hx]; exact MG (by simp_all)
      have hgw := gw_iff.1 hdf.gw
      have htl := hgw.tasks
      have hxl := hdf.len
      have hpw : ∀ t, t ∈ w.tasks → 0 ≤ t.pos ∧ t.pos ≤ 1000 := fun t ht => JU hdf.gw ht
      have hpx : ∀ t, t ∈ wy.tasks → 0 ≤ t.pos ∧ t.pos ≤ 1000 := fun t ht => JU hdf.gx ht
      refine kY [1,4,5,7,11,12,15,16,17] Z (rG (eK 2 Z (evE ?_)));refine eZ Z (nB (AG ?_));refine lK (α := Int × Int × Int × Int) [1, 5, 7, 8, 11, 12, 102, 103] [5, 7] (fun x => [(104, .t (.int (x.1))), (15, .t (.int (x.2.1))), (16, .t (.int (x.2.2.1))), (17, .t (.int (x.2.2.2)))]) (fun x => []) (fun x => 0 ≤ (x.1) ∧ (x.1) ≤ w.tasks.length ∧ (x.2.1) = posS (w.tasks.take (x.1).toNat) ∧ (x.2.2.1) = posS (wy.tasks.take (x.1).toNat) ∧ (x.2.2.2) = panS (w.tasks.take (x.1).toNat) (wy.tasks.take (x.1).toNat) ∧ 0 ≤ (x.2.1) ∧ (x.2.1) ≤ 1000 * (x.1) ∧ 0 ≤ (x.2.2.1) ∧ (x.2.2.1) ≤ 1000 * (x.1) ∧ 0 ≤ (x.2.2.2) ∧ (x.2.2.2) ≤ (x.1)) (fun x => Int.toNat (w.tasks.length - (x.1))) (0, 0, 0, 0) ?_ (fun x hx => ?_)
      · dsimp only; exact ⟨by omega, by omega, rfl, rfl, rfl, by omega, by omega, by omega, by omega, by omega, by omega⟩
      obtain ⟨k, bf, af, pn⟩ := x
      obtain ⟨hk0, hk1, hbf, haf, hpn, hb0, hb1, ha0, ha1, hp0, hp1⟩ := hx
      dsimp only at hk0 hk1 hbf haf hpn hb0 hb1 ha0 ha1 hp0 hp1 ⊢;refine nY Z (sG (eZ Z (nB (sQ ?_))));refine AD Z (fun h3 => ?_) (fun h3 => ?_)
      ·
        simp only [HS] at h3;refine AE (tN (sQ (AG (sG (eZ Z ?_)))));refine iY (k := ?_);refine eZ Z ?_
        try refine WO_le (Le.freeze (u := 108) rfl) ?_
        refine nZ Z (AK tys Z Z (AA Z) Z Z Z (nZ Z (eZ Z (sT Z (nZ Z (nB (sQ ?_)))))))
        have q1 := hpw _ (Nl (l := w.tasks) (n := k.toNat) (by omega))
        have q2 := hpx _ (Nl (l := wy.tasks) (n := k.toNat) (by omega))
        refine kY [1,5,7,8,11,12,15,16,17,18,19,102,103,104,105,106,107,108] Z (rG (eK 3 Z (evI ?_)));refine eZ Z (nA (eK 4 Z (kZ [1,5,7,8,11,12,15,16,17,18,19,102,103,104,105,106,107,108,109,110,111,112,113,114,115,116] Z ?_)));refine iY (k := ?_);refine eK 2 Z (evI ?_);refine eZ Z (nA (eK 3 Z ?_));refine iY (k := ?_);refine kZ [1,5,7,8,11,12,15,16,17,18,19,102,103,104,105,106,107,108,109,110,111,112,113,114,115,116,117,118,119,120,121,122,123,124] Z (eK 4 Z ?_);refine gB (fun h4 => ?_) (fun h4 => ?_)
        ·
          simp only [HS] at h4;refine xK 3 Z (nB (A0 Z (AE (bN (tN (kY [1,5,7,8,11,12,15,16,17,18,19,102,103,104,105,106,107,108,109,110,111,112,113,114,115,116,117,118,119,120,121,122,123,124,125,126,127,128,129,130,131,132] Z (rG (evI ?_))))))));refine eZ Z (oN ?_);refine lQ (_, _, _, _) ?_ ?_
          · dsimp only
            have e1 := EX (l := w.tasks) hk0 (by omega)
            have e2 := EX (l := wy.tasks) hk0 (by omega)
            have e3 := IR (l := w.tasks) (m := wy.tasks) hk0 (by omega) hxl
            rw [← hbf] at e1;rw [← haf] at e2;rw [← hpn] at e3;rw [e1, e2, e3]
            first
            | (rw [if_neg (by first | (simp_all; done) | omega)]; exact ⟨by omega, by omega, rfl, rfl, by omega, by omega, by omega, by omega, by omega, by omega, by omega⟩)
          · (show Int.toNat _ < Int.toNat _); omega
        simp only [HS] at h4;refine xK 4 Z (nB ?_);refine AD Z (fun h5 => ?_) (fun h5 => ?_)
        ·
          simp only [HS] at h5;refine kY [1,5,7,8,11,12,15,16,17,18,19,102,103,104,105,106,107,108,109,110,111,112,113,114,115,116,117,118,119,120,121,122,123,124,125,126,127,128,129,130,131,132] Z (rG (eZ Z (evI ?_)));refine eZ Z (oN (bN (tN (rG (evI ?_)))));refine eZ Z (oN ?_);refine lQ (_, _, _, _) ?_ ?_
          · dsimp only
            have e1 := EX (l := w.tasks) hk0 (by omega)
            have e2 := EX (l := wy.tasks) hk0 (by omega)
            have e3 := IR (l := w.tasks) (m := wy.tasks) hk0 (by omega) hxl
            rw [← hbf] at e1;rw [← haf] at e2;rw [← hpn] at e3;rw [e1, e2, e3]
            first
            | (rw [if_pos (by first | (simp_all; done) | omega)]; exact ⟨by omega, by omega, rfl, rfl, rfl, by omega, by omega, by omega, by omega, by omega, by omega⟩)
          · (show Int.toNat _ < Int.toNat _); omega
        simp only [HS] at h5;refine AE (bN (tN (kY [1,5,7,8,11,12,15,16,17,18,19,102,103,104,105,106,107,108,109,110,111,112,113,114,115,116,117,118,119,120,121,122,123,124,125,126,127,128,129,130,131,132] Z (rG (evI ?_)))));refine eZ Z (oN ?_);refine lQ (_, _, _, _) ?_ ?_
        · dsimp only
          have e1 := EX (l := w.tasks) hk0 (by omega)
          have e2 := EX (l := wy.tasks) hk0 (by omega)
          have e3 := IR (l := w.tasks) (m := wy.tasks) hk0 (by omega) hxl
          rw [← hbf] at e1;rw [← haf] at e2;rw [← hpn] at e3;rw [e1, e2, e3]
          first
          | (rw [if_neg (by first | (simp_all; done) | omega)]; exact ⟨by omega, by omega, rfl, rfl, by omega, by omega, by omega, by omega, by omega, by omega, by omega⟩)
        · (show Int.toNat _ < Int.toNat _); omega
      simp only [HS] at h3;refine AR (tE (AO (AN (tN (sQ ?_)))))
      have e1 : bf = posS w.tasks := by rw [hbf, BF (by omega)]
      have e2 : af = posS wy.tasks := by rw [haf, BF (by omega)]
      have e3 : pn = panS w.tasks wy.tasks := by rw [hpn, BF (by omega), BF (by omega)]
      have f1 := hdf.up
      have f2 := hdf.pan
      have f3 := hdf.on
      refine rG (eZ Z ?_)
      try refine WO_le (Le.freeze (u := 136) rfl) ?_
      refine nZ Z (AQ ?_);refine ⟨_, B6 wy hx1 hx2, rfl, ?_⟩;refine eZ Z (WO_le (Le.known (t := 138) false Z (by simp [hdf.gx])) ?_);refine xK 3 Z (gY Z (evI ?_));refine xZ Z (kZ [1,5,11,12,15,16,17,139,142,143] Z (gY Z (evI ?_)));refine xZ Z (WO_le (Le.known (t := 145) false Z (by simp; omega)) ?_);refine xK 4 Z (gY Z (evI ?_));refine xZ Z (WO_le (Le.known (t := 151) false Z (by simp; omega)) ?_);refine eZ Z (kZ [1,5,11,12,17,152] Z (xK 3 Z (WO_le (Le.known (t := 155) false Z (by simp; omega)) ?_)));refine eZ Z (nB (A0 Z (AE (jQ () ?_))));dsimp only
      skip
    refine AE (jQ () ?_);dsimp only
    skip
  refine tN (sQ (sQ (kY [1,5,11,12] Z (rG (eZ Z (nB ?_))))));refine BM (α := Unit) [1] [] (fun x => []) (fun x => []) (fun x => True) ?_ (fun x hx => ?_)
  ·
    refine AD Z (fun h2 => ?_) (fun h2 => ?_)
    ·
      refine sG (eZ Z ?_)
      try refine WO_le (Le.freeze (u := 159) rfl) ?_
      refine nZ Z (AQ ?_);refine ⟨_, DK w hw1 hw2, rfl, ?_⟩;refine Ae Z Z (AA Z) (.inr Z) Z Z (WO_evF tys Z Z (AA Z) (d := .t _) Z (nZ Z (WO_evF tys Z Z (AA Z) (d := .t _) Z (nZ Z (eK 2 Z (nB (sQ (kY [1,5,11,20,21] Z (rG (eZ Z (nB (sQ (sQ ?_)))))))))))))
      have htl : w.tasks.length ≤ 1048576 := hw1.2.2.2.1.1
      have hrs : (AC w && G8 w) = (Lv w && decide (((Ay w).length : Int) = 0)) := by
       have hg : AC w = true := by simp_all
       rw [Ay, if_pos hg, hg, G8, Bool.true_and]
      refine rG (eK 2 Z (evE ?_));refine eZ Z (nB (AG ?_));refine lK (α := Int × Bool) [1, 5, 11, 12, 20, 21, 164, 165] [5] (fun x => [(166, .t (.int (x.1))), (22, .t (.bool (x.2)))]) (fun x => []) (fun x => 0 ≤ (x.1) ∧ (x.1) ≤ w.tasks.length ∧ (x.2) = (w.tasks.take (x.1).toNat).any (fun t => decide (t.state = 0))) (fun x => Int.toNat (w.tasks.length - (x.1))) (0, false) ?_ (fun x hx => ?_)
      · exact ⟨by omega, by omega, rfl⟩
      obtain ⟨k, rn⟩ := x
      obtain ⟨hk0, hk1, hrn⟩ := hx
      dsimp only at hk0 hk1 hrn ⊢;refine nY Z (sG (eZ Z (nB (sQ ?_))));refine AD Z (fun h3 => ?_) (fun h3 => ?_)
      ·
        simp only [HS] at h3;refine AE (tN (sQ (AG (sG ?_))));refine iY (k := ?_);refine eZ Z ?_
        try refine WO_le (Le.freeze (u := 169) rfl) ?_
        refine nZ Z (AK tys Z Z (AA Z) Z Z Z (nZ Z (sT Z (nZ Z (nB (rG (eK 2 Z ?_)))))));refine gB (fun h4 => ?_) (fun h4 => ?_)
        ·
          simp only [HS] at h4;refine xK 2 Z (kZ [1,5,11,12,20,21,22,24,164,165,166,167,168,169,170,171,172,173,174] Z (eK 2 Z (oN (bN (tN (rG (evI ?_)))))));refine eZ Z (oN ?_);refine lQ (_, _) ?_ ?_
          · dsimp only
            refine ⟨by omega, by omega, ?_⟩; rw [Bf hk0 (by omega), List.any_append, ← hrn]; simp_all
          · (show Int.toNat _ < Int.toNat _); omega
        refine xK 2 Z (kZ [1,5,11,12,20,21,22,24,164,165,166,167,168,169,170,171,172,173] Z (xK 3 Z (oN (bN (tN (rG (evI ?_)))))));refine eZ Z (oN ?_);refine lQ (_, _) ?_ ?_
        · dsimp only
          refine ⟨by omega, by omega, ?_⟩; rw [Bf hk0 (by omega), List.any_append, ← hrn]; simp_all
        · (show Int.toNat _ < Int.toNat _); omega
      simp only [HS] at h3;refine AR (tE (AO (AN (tN (sQ ?_)))))
      have hrr : rn = Lv w := by rw [hrn, BF (by omega)]; rfl
      refine rG (eK 2 Z (WO_le (Le.known (t := 178) false Z (by simp_all)) ?_));refine xK 4 Z ?_;refine gB (fun h4 => ?_) (fun h4 => ?_)
      ·
        simp only [HS] at h4;refine xK 2 Z (kZ [1,179,180,182,185] Z (xK 2 Z (WO_le (Le.known (t := 187) false Z (by rw [hrs, ← hrr]; simp_all)) ?_)));refine eZ Z (nB (A0 Z (AE (jQ () ?_))));dsimp only
        skip
      refine eZ Z (gY Z (evE ?_));refine kZ [1,179,180,182,184] Z (xK 3 Z (WO_le (Le.known (t := 187) false Z (by rw [hrs, ← hrr]; simp_all)) ?_));refine eZ Z (nB (A0 Z (AE (jQ () ?_))));dsimp only
      skip
    refine AE (jQ () ?_);dsimp only
    skip
  refine tN (sQ (kY [1] Z (rG (eZ Z (BG Z Z (AA Z) Z Z Z Z Z (hds) Z (AK tys Z Z (AA Z) Z Z Z (nZ Z (sT Z (nZ Z (nA (eZ Z ?_)))))))))))
  try refine WO_le (Le.freeze (u := 192) rfl) ?_
  refine nZ Z (AQ ?_);refine ⟨_, DK v hv1 hv2, rfl, ?_⟩;refine Ae Z Z (AA Z) (.inr Z) Z Z (WO_evF tys Z Z (AA Z) (d := .t _) Z (nZ Z (WO_evF tys Z Z (AA Z) (d := .t _) Z (nZ Z (kZ [1,25,194,195] Z (eK 2 Z (nA (eZ Z ?_))))))))
  try refine WO_le (Le.freeze (u := 197) rfl) ?_
  refine nZ Z (AQ ?_);refine ⟨_, E3 v hv1, rfl, ?_⟩;refine Ae Z Z (AA Z) (.inr Z) Z Z (WO_evF tys Z Z (AA Z) (d := .t _) Z (nZ Z (WO_evF tys Z Z (AA Z) (d := .t _) Z (nZ Z (eK 2 Z (kZ [1,26,27,28,29] Z (nA (eZ Z (BG Z Z (AA Z) Z Z Z Z Z (hdw) Z (Ae Z Z (AA Z) (.inr Z) Z Z (A3 Z Z (AA Z) Z Z Z Z ?_)))))))))))
  first | refine WO_le (Le.adoptE (u := 204) 204 rfl (by first | exact He | exact rfl)) ?_ | skip
  refine nZ Z (A3 Z Z (AA Z) Z Z Z Z ?_)
  first | refine WO_le (Le.adoptE (u := 205) 205 rfl (by first | exact He | exact rfl)) ?_ | skip
  refine nZ Z (AK tys Z Z (AA Z) Z Z Z (nZ Z (AK tys Z Z (AA Z) Z Z Z (nZ Z (sT Z (nZ Z (sT Z (nZ Z (kZ [1,26,27,28,29,30,31] Z (nA (eZ Z (BG Z Z (AA Z) Z Z Z Z Z (hdm) Z (AK tys Z Z (AA Z) Z Z Z (nZ Z (sT Z ?_)))))))))))))));refine nZ Z (nA (eZ Z ?_))
  try refine WO_le (Le.freeze (u := 209) rfl) ?_
  refine nZ Z (AQ ?_);refine ⟨_, IY v hv1 hv2, rfl, ?_⟩;refine Ae Z Z (AA Z) (.inr Z) Z Z (WO_evF tys Z Z (AA Z) (d := .t _) Z (nZ Z (WO_evF tys Z Z (AA Z) (d := .t _) Z (nZ Z (kZ [26,27,28,29,30,31,32,211,212] Z (eK 2 Z (nA (eZ Z ?_))))))))
  try refine WO_le (Le.freeze (u := 214) rfl) ?_
  refine nZ Z (AQ ?_);refine ⟨_, IM v hv1, rfl, ?_⟩;refine Ae Z Z (AA Z) (.inr Z) Z Z (WO_evF tys Z Z (AA Z) (d := .t _) Z (nZ Z (WO_evF tys Z Z (AA Z) (d := .t _) Z (nZ Z (eK 2 Z (kZ [26,27,28,29,30,31,33,34,35,36] Z (nB (sQ (AV Ac (by kernel_rfl) (evQ ?_))))))))));refine evQ ?_;refine evQ ?_;refine Ap (v := true) (by simp) ?_;refine evQ ?_;refine AB Z Z Z Z (AA Z) (evQ ?_);refine AB Z Z Z Z (AA Z) (evQ ?_);refine AH Z (AB Z Z Z Z (AA Z) (evQ ?_));refine Ap (v := true) (by simp) ?_;refine evQ ?_;refine evQ ?_;refine AB Z Z Z Z (AA Z) (ES tys Z Z (AA Z) Z Z (AB Z Z Z Z (AA Z) (ES tys Z Z (AA Z) Z Z (AB Z Z Z Z (AA Z) (Cb ?_)))));refine ⟨_, Fj s1 s2 (hsa.ok 1048576 (by decide)) (hsb.ok 1048576 (by decide)), rfl, ?_⟩;refine AH Z (AB Z Z Z Z (AA Z) (ES tys Z Z (AA Z) Z Z (AB Z Z Z Z (AA Z) (ES tys Z Z (AA Z) Z Z (AB Z Z Z Z (AA Z) (Cb ?_))))));refine ⟨_, Fi s1 s2 hsa hsb, rfl, ?_⟩;refine AB Z Z Z Z (AA Z) (evQ ?_);refine Ap (v := true) (by simp) ?_;refine evQ ?_;refine evQ ?_;refine AH Z (AB Z Z Z Z (AA Z) (evQ ?_));refine AB Z Z Z Z (AA Z) (evQ ?_);refine AB Z Z Z Z (AA Z) (evQ ?_);refine Ap (v := true) (by simp) ?_;refine evQ ?_;refine evQ ?_;refine AB Z Z Z Z (AA Z) (evQ ?_);refine AH Z (AB Z Z Z Z (AA Z) (evQ ?_));refine AB Z Z Z Z (AA Z) (evQ ?_);refine evQ ?_;refine evQ ?_;refine Aj (tN (rT (eR ?_)))
  · (rw [decide_eq_true rfl])
end Go.Proofs.Ytkllmdolplcklaa
