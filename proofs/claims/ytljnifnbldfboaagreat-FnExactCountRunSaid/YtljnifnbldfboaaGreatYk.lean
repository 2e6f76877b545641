/- Walks and laws of the claim. -/
import Derived.Test.YtljnifnbldfboaaGreatYr
import Derived.Test.YtljnifnbldfboaaGreatKk
import Derived.Test.YtljnifnbldfboaaGreatKe
set_option linter.unusedVariables false
set_option linter.unusedSimpArgs false
set_option maxRecDepth 10000
set_option maxHeartbeats 8000000
namespace Go.Proofs.YtljnifnbldfboaaGreat
open Go.Eng
open Go.Eng
def reckF (x : Image) (i : Ins) (f : Frame) : Frame :=
 if (A8 i.n (secI f.pile) (lastI f.pile)).isSome = true then goF (pushF (pop2F f) (reckV i.n (secI f.pile) (lastI f.pile))) else raiseF x 2 (-1) (pop2F f)
theorem JW (bm : Nat) (x : Image) (inp : List Int) (u0 u1 : Value) (most : Int) (bf cap : Nat) (fs : List Frame) (n0 : Nat) (hn0 : fs.length = n0) (trace : List Int) (used code value made : Int) (notes : List Note) (hc : n0 ≤ cap) (hc2 : n0 ≤ 1048576) (k : Nat) (f : Frame) (i : Ins) (hk : fs[k]? = some f) (hkl : k = n0 - 1) (hp : 2 ≤ f.pile.length ∧ f.pile.length ≤ 100) (hat : 0 ≤ f.at' ∧ f.at' ≤ 1048576) (q0 : 0 ≤ f.fn) (q1 : f.fn < x.codes.length) (hxl : x.codes.length ≤ 1048576) (hrl : (codeAt x f.fn).rows.length ≤ 1048576) (hrow : 0 ≤ rowX (codeAt x f.fn).rows f.at') (hrr : ∀ r, r ∈ (codeAt x f.fn).rows → -1048576 ≤ r.hi ∧ r.hi ≤ 1048576) : Proc Tryz.prog 36 [.t (.v (.pointer (some ⟨bm, 0, none⟩))), .t (T.int i.n)] ([u0, u1]) ([T.Codes x.codes, T.ints inp]) [.obox (.pointer (some ⟨bm, 0, none⟩)) (mC u0 u1 most (Aq bf n0 cap) trace used code value made notes), .row bf cap 11 (fs.map Frame.tt)] (.tup []) [.obox (.pointer (some ⟨bm, 0, none⟩)) (mC u0 u1 most (Aq bf n0 cap) trace used code value made notes), .row bf cap 11 ((fs.set k (reckF x i f)).map Frame.tt)] := by
 have hlt := Bs hk
 obtain ⟨hp1, hp2⟩ := hp
 obtain ⟨hat0, hat1⟩ := hat
 have hg1 : (fs.set k (popF f))[k]? = some (popF f) := AU hk
 have hpl : (popF f).pile.length = f.pile.length - 1 := by show (f.pile.take (f.pile.length - 1)).length = _; rw [Qk]; omega
 have hg2 : ((fs.set k (popF f)).set k (pop2F f))[k]? = some (pop2F f) := AU hg1
 have hpl2 : (pop2F f).pile.length = f.pile.length - 1 - 1 := by show ((popF f).pile.take ((popF f).pile.length - 1)).length = _; rw [Qk]; omega
 have hg : (((fs.set k (popF f)).set k (pop2F f)).set k (pushF (pop2F f) (reckV i.n (secI f.pile) (lastI f.pile))))[k]? = some (pushF (pop2F f) (reckV i.n (secI f.pile) (lastI f.pile))) := AU hg2
 have hga : (pushF (pop2F f) (reckV i.n (secI f.pile) (lastI f.pile))).at' = f.at' := rfl
 have hl1 : (fs.set k (popF f)).length = n0 := by rw [Qo]; exact hn0
 have hl2 : ((fs.set k (popF f)).set k (pop2F f)).length = n0 := by rw [Qo]; exact hl1
 refine Proc.intro tys Tryz.func36 Z Z (N := 34) [100, 101] 99 ([(0, .t (.v (.pointer (some ⟨bm, 0, none⟩)))), (1, .t (T.int i.n))]) ([(100, .obox (.pointer (some ⟨bm, 0, none⟩)) (mC u0 u1 most (Aq bf n0 cap) trace used code value made notes)), (101, .row bf cap 11 (fs.map Frame.tt)), (99, .ro [u0, u1] [T.Codes x.codes, T.ints inp])]) Z Z Z Z (by decide) (by decide) Z (fun w0 G F0 => ?_);refine nY Z (W_le (Le.nameR (u := 101) 1101 Z Z Z Z) (nY Z (W_le (Le.openNew (u := 100) 1100 Z Z Z Z Z) (nY Z (W_le (Le.named (t := 0) (u := 100) 1100 Z Z) (nY Z (B1 (sG (eZ Z (WO_le (Le.close (u := 100) 1100 Z Z Z) (nZ Z (WO_le (Le.closeR (u := 101) 1101 Z Z) (nZ Z ?_)))))))))))));refine AK (rid := 99) [100, 101] Z Z (lt_of Z) Z Z (by repeat (first | exact ResP.done | refine ResP.pin0 1100 Z ?_ | refine ResP.pin0 1101 Z ?_ | refine ResP.t ?_ | refine ResP.pinR 1101 Z (by first | rfl | omega) ?_ | refine ResP.nil 1 ?_ | refine ResP.nil' ?_ | refine ResP.own ?_ | refine ResP.sl Z Z (by first | omega | (simp; omega)) ?_ | refine ResP.aggT (by repeat (first | exact ResP.done | refine ResP.t ?_)) ?_)) Z (by repeat (first | exact trivial | refine ⟨rfl, rfl, ?_⟩)) (by decide) (DZ bm x inp u0 u1 most bf cap fs n0 hn0 trace used code value made notes hc hc2 k f hk hkl (by omega) (by omega)) Z Z Z ?_;refine nZ Z (WO_le (Le.open (u := 100) 1100 Z Z Z Z) (nZ Z (WO_le (Le.openR (u := 101) 1101 Z Z) (nZ Z (eZ Z (nA (eZ Z (WO_le (Le.close (u := 100) 1100 Z Z Z) (nZ Z (WO_le (Le.closeR (u := 101) 1101 Z Z) (nZ Z ?_)))))))))));refine AK (rid := 99) [100, 101] Z Z (lt_of Z) Z Z (by repeat (first | exact ResP.done | refine ResP.pin0 1100 Z ?_ | refine ResP.pin0 1101 Z ?_ | refine ResP.t ?_ | refine ResP.pinR 1101 Z (by first | rfl | omega) ?_ | refine ResP.nil 1 ?_ | refine ResP.nil' ?_ | refine ResP.own ?_ | refine ResP.sl Z Z (by first | omega | (simp; omega)) ?_ | refine ResP.aggT (by repeat (first | exact ResP.done | refine ResP.t ?_)) ?_)) Z (by repeat (first | exact trivial | refine ⟨rfl, rfl, ?_⟩)) (by decide) (DZ bm x inp u0 u1 most bf cap (fs.set k (popF f)) n0 hl1 trace used code value made notes hc hc2 k (popF f) hg1 hkl (by omega) (by omega)) Z Z Z ?_;refine nZ Z (WO_le (Le.open (u := 100) 1100 Z Z Z Z) (nZ Z (WO_le (Le.openR (u := 101) 1101 Z Z) (nZ Z (eZ Z (nA (eK 3 Z (kZ [0,13,14,15] Z (AS ?_)))))))));refine ⟨_, IX _ _ _, rfl, ?_⟩;refine eZ Z (WO_evF tys Z Z (lt_of Z) (d := .t _) Z (nZ Z (WO_evF tys Z Z (lt_of Z) (d := .t _) Z (nZ Z (eK 2 Z (nB (sQ (sG (eK 2 Z (nB ?_))))))))));refine AC Z (fun h1 => ?_) (fun h1 => ?_)
 ·
  simp only [HS] at h1;refine sQ (kY [0,6] Z (rG (eZ Z (WO_le (Le.close (u := 100) 1100 Z Z Z) (nZ Z (WO_le (Le.closeR (u := 101) 1101 Z Z) (nZ Z ?_)))))));refine AK (rid := 99) [100, 101] Z Z (lt_of Z) Z Z (by repeat (first | exact ResP.done | refine ResP.pin0 1100 Z ?_ | refine ResP.pin0 1101 Z ?_ | refine ResP.t ?_ | refine ResP.pinR 1101 Z (by first | rfl | omega) ?_ | refine ResP.nil 1 ?_ | refine ResP.nil' ?_ | refine ResP.own ?_ | refine ResP.sl Z Z (by first | omega | (simp; omega)) ?_ | refine ResP.aggT (by repeat (first | exact ResP.done | refine ResP.t ?_)) ?_)) Z (by repeat (first | exact trivial | refine ⟨rfl, rfl, ?_⟩)) (by decide) (BH bm x inp u0 u1 most bf cap ((fs.set k (popF f)).set k (pop2F f)) n0 hl2 trace used code value made notes hc hc2 k (pop2F f) 2 (-1) hg2 hkl q0 q1 hxl hrl hrow hrr) Z Z Z ?_;refine nZ Z (WO_le (Le.open (u := 100) 1100 Z Z Z Z) (nZ Z (WO_le (Le.openR (u := 101) 1101 Z Z) (nZ Z (nB (rT (tR (AA (Le.closeR (u := 101) 1101 Z Z) (AB Z (AA (Le.close (u := 100) 1100 Z Z Z) (AB Z (AF ?_))))))))))));refine eP [_, _] ?_ ?_
  ·rfl
  ·first
   | (have h0 : (A8 i.n (lastI (popF f).pile) (lastI f.pile)).isSome = false := (by assumption); have e : reckF x i f = raiseF x 2 (-1) (pop2F f) := (if_neg (by show ¬ (A8 i.n (lastI (popF f).pile) (lastI f.pile)).isSome = true; rw [h0]; exact Bool.false_ne_true)); rw [e]; simp [Q4]; done)
 simp only [HS] at h1;refine AD (tN (sQ (kY [0,6] Z (rG (eK 2 Z (WO_le (Le.close (u := 100) 1100 Z Z Z) (nZ Z (WO_le (Le.closeR (u := 101) 1101 Z Z) (nZ Z ?_)))))))));refine AK (rid := 99) [100, 101] Z Z (lt_of Z) Z Z (by repeat (first | exact ResP.done | refine ResP.pin0 1100 Z ?_ | refine ResP.pin0 1101 Z ?_ | refine ResP.t ?_ | refine ResP.pinR 1101 Z (by first | rfl | omega) ?_ | refine ResP.nil 1 ?_ | refine ResP.nil' ?_ | refine ResP.own ?_ | refine ResP.sl Z Z (by first | omega | (simp; omega)) ?_ | refine ResP.aggT (by repeat (first | exact ResP.done | refine ResP.t ?_)) ?_)) Z (by repeat (first | exact trivial | refine ⟨rfl, rfl, ?_⟩)) (by decide) (Bm bm x inp u0 u1 most bf cap ((fs.set k (popF f)).set k (pop2F f)) n0 hl2 trace used code value made notes hc hc2 k (pop2F f) (reckV i.n (secI f.pile) (lastI f.pile)) hg2 hkl (by omega)) Z Z Z ?_;refine nZ Z (WO_le (Le.open (u := 100) 1100 Z Z Z Z) (nZ Z (WO_le (Le.openR (u := 101) 1101 Z Z) (nZ Z (nB (rG (eZ Z ?_)))))));refine AQ (rid := 99) [100] 1101 (k) Z Z (lt_of Z) Z Z (by repeat (first | exact ResP.done | refine ResP.t ?_ | refine ResP.pin0 1100 Z ?_ | refine ResP.pinR 1100 Z (by first | rfl | omega) ?_ | refine ResP.nil 1 ?_ | refine ResP.nil' ?_ | refine ResP.own ?_ | refine ResP.sl Z Z (by first | omega | (simp; omega)) ?_)) Z (by repeat (first | exact trivial | refine ⟨OpenAs.same Z rfl, ?_⟩ | refine ⟨OpenAs.box 1100 Z Z Z Z rfl, ?_⟩ | refine ⟨OpenAs.row 1100 Z Z rfl, ?_⟩)) (by decide) (Az bm bf n0 cap _ _ (by omega) hc hc2 _ (by rfl) (by rfl) (by rfl)) Z Z (by first | rfl | omega) ?_;refine AE rfl Z (lt_of Z) Z Z Z (eZ Z (AG tys Z Z (lt_of Z) Z Z Z Z (AM hg) Z (evI ?_)));refine kZ [27,31] Z (AE rfl Z (lt_of Z) Z Z Z (eZ Z (AJ tys _ Z Z Z Z Z Z (AM hg) Z (AbsL.v' AbsL.nil') Z (by decide) (Qe Z) (nZ Z (WO_le (Le.eqK (id := 101) Z (congrArg (Blk.L 11) (Av (k := k) (f := goF (pushF (pop2F f) (reckV i.n (secI f.pile) (lastI f.pile))))))) (nZ Z (nZ Z (oN (AA (Le.closeR (u := 101) 1101 Z Z) (AB Z (AA (Le.close (u := 100) 1100 Z Z Z) (AB Z (AF ?_)))))))))))));refine eP [_, _] ?_ ?_
 ·rfl
 ·first
  | (have h0 : (A8 i.n (secI f.pile) (lastI f.pile)).isSome = true := (by assumption); have e : reckF x i f = goF (pushF (pop2F f) (reckV i.n (secI f.pile) (lastI f.pile))) := (if_pos h0); rw [e]; simp [Q4]; done)
def Ny (x : Image) : Prop := ∀ fn : Int, 0 ≤ fn → fn < x.codes.length → ∀ r, r ∈ (codeAt x fn).rows → -1048576 ≤ r.hi ∧ r.hi ≤ 1048576
theorem end_2v {x : Image} {k : Nat} {f : Frame} {v : Vm} (h : f.mode = 3) (hk : k = 0) (hv : v.value = 0) : Hk x k f v = ⟨v.fs.take k, v.trace, v.used, 3, v.value, v.made, v.notes ++ [⟨3, f.id, 0⟩]⟩ := by
 rw [end_2 h hk, hv]
theorem LP (bm : Nat) (x : Image) (inp : List Int) (u0 u1 : Value) (most : Int) (v : Vm) (k : Nat) (f : Frame) (hk : v.fs[k]? = some f) (hkl : k = v.fs.length - 1) (hfl : v.fs.length ≤ 1000) (hnl : v.notes.length ≤ 1000000) (hok : Qb x v.fs k) (hrw : Ny x) (hv0 : v.value = 0) : Proc Tryz.prog 42 [.t (.v (.pointer (some ⟨bm, 0, none⟩)))] ([u0, u1]) ([T.Codes x.codes, T.ints inp]) [.obox (.pointer (some ⟨bm, 0, none⟩)) (mV u0 u1 most v)] (.tup []) [.obox (.pointer (some ⟨bm, 0, none⟩)) (mV u0 u1 most (Hk x k f v))] := by
 have hlt := Bs hk
 refine Proc.intro tys Tryz.func42 Z Z (N := 122) [100] 99 ([(0, .t (.v (.pointer (some ⟨bm, 0, none⟩))))]) ([(100, .obox (.pointer (some ⟨bm, 0, none⟩)) (mV u0 u1 most v)), (99, .ro [u0, u1] [T.Codes x.codes, T.ints inp])]) Z Z Z Z (by decide) (by decide) Z (fun w0 G F0 => ?_);refine nY Z (W_le (Le.openNew (u := 100) 1100 Z Z Z Z Z) (nY Z (W_le (Le.named (t := 0) (u := 100) 1100 Z Z) (nY Z ?_))));refine Ad (u := 100) (j := 3) 101 Z Z Z (fun v3 => ?_);refine nY Z ?_;refine Dq (id := 101) Z (by intro h; have := congrArg List.length h; rw [Qc, Qz] at this; omega) (fun bf cap hv3 hcap => ?_);rw [Qc] at hv3 hcap;subst hv3;refine nY Z (W_le (Le.nameR (u := 101) 1101 Z Z Z Z) (nY Z (B1 (sG (eZ Z (WO_le (Le.close (u := 100) 1100 Z Z Z) (nZ Z (WO_le (Le.closeR (u := 101) 1101 Z Z) (nZ Z ?_)))))))));refine AK (rid := 99) [100, 101] Z Z (lt_of Z) Z Z (by repeat (first | exact ResP.done | refine ResP.pin0 1100 Z ?_ | refine ResP.pin0 1101 Z ?_ | refine ResP.t ?_ | refine ResP.pinR 1101 Z (by first | rfl | omega) ?_ | refine ResP.nil 1 ?_ | refine ResP.nil' ?_ | refine ResP.own ?_ | refine ResP.sl Z Z (by first | omega | (simp; omega)) ?_ | refine ResP.aggT (by repeat (first | exact ResP.done | refine ResP.t ?_)) ?_)) Z (by repeat (first | exact trivial | refine ⟨rfl, rfl, ?_⟩)) (by decide) (FY bm x inp u0 u1 most bf cap v.fs v.fs.length Z v.trace v.used v.code v.value v.made v.notes hcap (by omega) k f 3 0 hk hkl hnl) Z Z Z ?_;refine nZ Z (WO_le (Le.open (u := 100) 1100 Z Z Z Z) (nZ Z (WO_le (Le.openR (u := 101) 1101 Z Z) (nZ Z (nA (eZ Z ?_))))));refine AQ (rid := 99) [100] 1101 (k) Z Z (lt_of Z) Z Z (by repeat (first | exact ResP.done | refine ResP.t ?_ | refine ResP.pin0 1100 Z ?_ | refine ResP.pinR 1100 Z (by first | rfl | omega) ?_ | refine ResP.nil 1 ?_ | refine ResP.nil' ?_ | refine ResP.own ?_ | refine ResP.sl Z Z (by first | omega | (simp; omega)) ?_)) Z (by repeat (first | exact trivial | refine ⟨OpenAs.same Z rfl, ?_⟩ | refine ⟨OpenAs.box 1100 Z Z Z Z rfl, ?_⟩ | refine ⟨OpenAs.row 1100 Z Z rfl, ?_⟩)) (by decide) (Az bm bf v.fs.length cap _ _ (by omega) hcap (by omega) _ (by rfl) (by rfl) (by rfl)) Z Z (by first | rfl | omega) ?_;refine AE rfl Z (lt_of Z) Z Z Z (AG tys Z Z (lt_of Z) Z Z Z Z (AM hk) Z (nZ Z (AY tys Z Z (lt_of Z) Z Z Z (nZ Z (sT Z (nZ Z (nB (sQ (kY [0,2] Z (A4 17 mixed Z (by kernel_rfl) (by kernel_rfl) (evQ ?_)))))))))));refine evQ ?_;refine AL rfl Z (lt_of Z) Z Z Z (evQ ?_);refine evQ ?_;refine evQ ?_;refine AI Z (evQ ?_);refine AL rfl Z (lt_of Z) Z Z Z (evQ ?_);refine evQ ?_;refine evQ ?_;refine DD Z Z (lt_of Z) Z ⟨61, by kernel_rfl⟩ rfl (AI Z (Lx ?_));refine I0 tys Z Z (lt_of Z) Z Z Z Z Z Z Z Z (by omega) (by omega) (by omega) hcap (AL rfl Z (lt_of Z) Z Z Z (evQ ?_));refine evQ ?_;refine Ak (sT Z (nZ Z (nB (sQ (W_le (Le.eqK (id := 100) Z (k' := .box (mC u0 u1 most (Aq bf k cap) v.trace v.used v.code v.value v.made (v.notes ++ [⟨3, f.id, 0⟩]))) (by rw [cut_k (j := k) (by omega)])) ?_)))));refine nY Z (W_le (Le.closeR (u := 101) 1101 Z Z) (nY Z (W_le (Le.rowTake (id := 101) k Z) (nY Z (W_le (Le.openR (u := 101) 1101 Z Z) (nY Z (W_le (Le.eqK (id := 101) Z (k' := .L 11 ((v.fs.take k).map Frame.tt)) (by rw [List.map_take])) ?_)))))));refine nY Z (rG (eZ Z (AE rfl Z (lt_of Z) Z Z Z (eK 3 Z (Br Z Z (lt_of Z) Z ⟨61, by kernel_rfl⟩ rfl (eK 2 Z (kZ [0,2,3] Z (nB (AH (sG (eK 4 Z ?_)))))))))));refine gB (fun h1 => ?_) (fun h1 => ?_)
 ·
  simp only [HS] at h1;refine eK 2 Z (nB (Ao Z (sG (eK 3 Z (kZ [0,2,3,88] Z (eZ Z ?_))))));refine gB (fun h2 => ?_) (fun h2 => ?_)
  ·
   simp only [HS] at h2;refine eK 2 Z (nB (Ao Z (sG (eK 2 Z (nB ?_)))));refine AC Z (fun h3 => ?_) (fun h3 => ?_)
   ·
    simp only [HS] at h3;refine sG (eZ Z (AE rfl Z (lt_of Z) Z Z Z (eK 2 Z (kZ [0,2,101] Z (sT Z (nZ Z (nB (rG (eK 3 Z (AE rfl Z (lt_of Z) Z Z Z (eK 2 Z (sT Z (nZ Z (oN (bN ?_)))))))))))))));refine AA (Le.closeR (u := 101) 1101 Z Z) ?_; refine AB Z ?_; refine AA (Le.rowVn (id := 101) k Z (by simp; omega)) ?_; refine AB Z ?_; refine AA (Le.claimBox (u := 100) (j := 3) (idp := 101) Z Z Z Z) ?_; refine AB Z ?_;refine AA (Le.close (u := 100) 1100 Z Z Z) (AB Z (AF ?_));refine eP [_] ?_ ?_
    ·rfl
    ·first
     | (have hm : ¬ f.mode = 2 := (by omega); have hm' : ¬ f.mode = 3 := (by omega); have hk0 : k = 0 := (by omega); exact (congrArg (fun q => [Blk.obox (.pointer (some ⟨bm, 0, none⟩)) (mV u0 u1 most q)]) (end_5 hm hm' hk0)).symm)
   simp only [HS] at h3;refine sG (eK 4 Z (kZ [0,2,108] Z (nB ?_)));refine AC Z (fun h4 => ?_) (fun h4 => ?_)
   ·
    simp only [HS] at h4
    have hk1 : 1 ≤ k := by omega
    obtain ⟨g, hg⟩ : ∃ g, v.fs[k - 1]? = some g := ⟨_, List.getElem?_eq_getElem (by omega)⟩
    obtain ⟨b0, b1, b2, b3, b4, b5, b6, b7⟩ := hok.below g hk1 hg
    have hrr := hrw g.fn b0 b1
    have hkg : (v.fs.take k)[k - 1]? = some g := by rw [List.getElem?_take_of_lt (by omega)]; exact hg
    have htk : (v.fs.take k).length = k := by rw [Qk]; omega
    refine rG (eK 3 Z (WO_le (Le.close (u := 100) 1100 Z Z Z) (nZ Z (WO_le (Le.closeR (u := 101) 1101 Z Z) (nZ Z ?_)))));refine AK (rid := 99) [100, 101] Z Z (lt_of Z) Z Z (by repeat (first | exact ResP.done | refine ResP.pin0 1100 Z ?_ | refine ResP.pin0 1101 Z ?_ | refine ResP.t ?_ | refine ResP.pinR 1101 Z (by first | rfl | omega) ?_ | refine ResP.nil 1 ?_ | refine ResP.nil' ?_ | refine ResP.own ?_ | refine ResP.sl Z Z (by first | omega | (simp; omega)) ?_ | refine ResP.aggT (by repeat (first | exact ResP.done | refine ResP.t ?_)) ?_)) Z (by repeat (first | exact trivial | refine ⟨rfl, rfl, ?_⟩)) (by decide) (BH bm x inp u0 u1 most bf cap (v.fs.take k) k htk v.trace v.used v.code v.value v.made (v.notes ++ [⟨3, f.id, 0⟩]) (by omega) (by omega) (k - 1) g 2 f.value hkg Z b0 b1 hok.xl b2 b3 hrr) Z Z Z ?_;refine nZ Z (WO_le (Le.open (u := 100) 1100 Z Z Z Z) (nZ Z (WO_le (Le.openR (u := 101) 1101 Z Z) (nZ Z (oN (bN ?_))))));refine AA (Le.closeR (u := 101) 1101 Z Z) ?_; refine AB Z ?_; refine AA (Le.rowVn (id := 101) k Z (by simp; omega)) ?_; refine AB Z ?_; refine AA (Le.claimBox (u := 100) (j := 3) (idp := 101) Z Z Z Z) ?_; refine AB Z ?_;refine AA (Le.close (u := 100) 1100 Z Z Z) (AB Z (AF ?_));refine eP [_] ?_ ?_
    ·rfl
    ·first
     | (exfalso; omega)
   simp only [HS] at h4;refine sG (eK 4 Z (nB ?_));refine AC Z (fun h5 => ?_) (fun h5 => ?_)
   ·
    simp only [HS] at h5
    have hk1 : 1 ≤ k := by omega
    obtain ⟨g, hg⟩ : ∃ g, v.fs[k - 1]? = some g := ⟨_, List.getElem?_eq_getElem (by omega)⟩
    obtain ⟨b0, b1, b2, b3, b4, b5, b6, b7⟩ := hok.below g hk1 hg
    have hrr := hrw g.fn b0 b1
    have hkg : (v.fs.take k)[k - 1]? = some g := by rw [List.getElem?_take_of_lt (by omega)]; exact hg
    have htk : (v.fs.take k).length = k := by rw [Qk]; omega
    refine rG (eZ Z (WO_le (Le.close (u := 100) 1100 Z Z Z) (nZ Z (WO_le (Le.closeR (u := 101) 1101 Z Z) (nZ Z ?_)))));refine AK (rid := 99) [100, 101] Z Z (lt_of Z) Z Z (by repeat (first | exact ResP.done | refine ResP.pin0 1100 Z ?_ | refine ResP.pin0 1101 Z ?_ | refine ResP.t ?_ | refine ResP.pinR 1101 Z (by first | rfl | omega) ?_ | refine ResP.nil 1 ?_ | refine ResP.nil' ?_ | refine ResP.own ?_ | refine ResP.sl Z Z (by first | omega | (simp; omega)) ?_ | refine ResP.aggT (by repeat (first | exact ResP.done | refine ResP.t ?_)) ?_)) Z (by repeat (first | exact trivial | refine ⟨rfl, rfl, ?_⟩)) (by decide) (BH bm x inp u0 u1 most bf cap (v.fs.take k) k htk v.trace v.used v.code v.value v.made (v.notes ++ [⟨3, f.id, 0⟩]) (by omega) (by omega) (k - 1) g 3 0 hkg Z b0 b1 hok.xl b2 b3 hrr) Z Z Z ?_;refine nZ Z (WO_le (Le.open (u := 100) 1100 Z Z Z Z) (nZ Z (WO_le (Le.openR (u := 101) 1101 Z Z) (nZ Z (oN (bN ?_))))));refine AA (Le.closeR (u := 101) 1101 Z Z) ?_; refine AB Z ?_; refine AA (Le.rowVn (id := 101) k Z (by simp; omega)) ?_; refine AB Z ?_; refine AA (Le.claimBox (u := 100) (j := 3) (idp := 101) Z Z Z Z) ?_; refine AB Z ?_;refine AA (Le.close (u := 100) 1100 Z Z Z) (AB Z (AF ?_));refine eP [_] ?_ ?_
    ·rfl
    ·first
     | (exfalso; omega)
   simp only [HS] at h5;refine sQ ?_
   have hk1 : 1 ≤ k := by omega
   obtain ⟨g, hg⟩ : ∃ g, v.fs[k - 1]? = some g := ⟨_, List.getElem?_eq_getElem (by omega)⟩
   obtain ⟨b0, b1, b2, b3, b4, b5, b6, b7⟩ := hok.below g hk1 hg
   have hrr := hrw g.fn b0 b1
   have hkg : (v.fs.take k)[k - 1]? = some g := by rw [List.getElem?_take_of_lt (by omega)]; exact hg
   have htk : (v.fs.take k).length = k := by rw [Qk]; omega
   have hca := Aa b0 b1
   rw [hca] at b5 b7
   have hpa : (pushF g f.res).at' = g.at' := rfl
   refine rG (eZ Z ?_);refine AQ (rid := 99) [100] 1101 (k - 1) Z Z (lt_of Z) Z Z (by repeat (first | exact ResP.done | refine ResP.t ?_ | refine ResP.pin0 1100 Z ?_ | refine ResP.pinR 1100 Z (by first | rfl | omega) ?_ | refine ResP.nil 1 ?_ | refine ResP.nil' ?_ | refine ResP.own ?_ | refine ResP.sl Z Z (by first | omega | (simp; omega)) ?_)) Z (by repeat (first | exact trivial | refine ⟨OpenAs.same Z rfl, ?_⟩ | refine ⟨OpenAs.box 1100 Z Z Z Z rfl, ?_⟩ | refine ⟨OpenAs.row 1100 Z Z rfl, ?_⟩)) (by decide) (Az bm bf k cap _ _ (by omega) (by omega) (by omega) _ (by rfl) (by rfl) (by rfl)) Z Z (by first | rfl | omega) ?_;refine eZ Z (nB (sQ (sQ (kY [0,2,4] Z (AV mixed (by kernel_rfl) (evQ ?_))))));refine AL rfl Z (lt_of Z) Z Z Z (evQ ?_);refine evQ ?_;refine A7 tys 99 0 Z Z (lt_of Z) Z Z Z Z (evQ ?_);refine AI Z (AL rfl Z (lt_of Z) Z Z Z (evQ ?_));refine Ae tys Z Z (lt_of Z) Z Z Z Z (AM hkg) Z (Ai tys Z Z (lt_of Z) Z Z Z Z Z Z Z (by omega) _ (BT _ _ (by omega) (by omega)) (evQ ?_));refine evQ ?_;refine AI Z (evQ ?_);refine AL rfl Z (lt_of Z) Z Z Z (evQ ?_);refine Ae tys Z Z (lt_of Z) Z Z Z Z (AM hkg) Z (Ai tys Z Z (lt_of Z) Z Z Z Z Z Z Z (by omega) _ (BT _ _ (by omega) (by omega)) (evQ ?_));refine AI Z (evQ ?_);refine evQ ?_;refine Ak (tN ?_);refine AC Z (fun h6 => ?_) (fun h6 => ?_)
   ·
    simp only [HS] at h6;refine rG (eK 3 Z (WO_le (Le.close (u := 100) 1100 Z Z Z) (nZ Z (WO_le (Le.closeR (u := 101) 1101 Z Z) (nZ Z ?_)))));refine AK (rid := 99) [100, 101] Z Z (lt_of Z) Z Z (by repeat (first | exact ResP.done | refine ResP.pin0 1100 Z ?_ | refine ResP.pin0 1101 Z ?_ | refine ResP.t ?_ | refine ResP.pinR 1101 Z (by first | rfl | omega) ?_ | refine ResP.nil 1 ?_ | refine ResP.nil' ?_ | refine ResP.own ?_ | refine ResP.sl Z Z (by first | omega | (simp; omega)) ?_ | refine ResP.aggT (by repeat (first | exact ResP.done | refine ResP.t ?_)) ?_)) Z (by repeat (first | exact trivial | refine ⟨rfl, rfl, ?_⟩)) (by decide) (Bm bm x inp u0 u1 most bf cap (v.fs.take k) k htk v.trace v.used v.code v.value v.made (v.notes ++ [⟨3, f.id, 0⟩]) (by omega) (by omega) (k - 1) g f.res hkg Z (by omega)) Z Z Z ?_;refine nZ Z (WO_le (Le.open (u := 100) 1100 Z Z Z Z) (nZ Z (WO_le (Le.openR (u := 101) 1101 Z Z) (nZ Z (nB (rG (eZ Z (AE rfl Z (lt_of Z) Z Z Z (eZ Z (kZ [61,63] Z (AG tys Z Z (lt_of Z) Z Z Z Z (AM (AU (g := pushF g f.res) hkg)) Z (evI ?_))))))))))));refine AE rfl Z (lt_of Z) Z Z Z (eZ Z ?_)
    first
    | (refine AJ tys _ rfl rfl rfl rfl rfl rfl (AM (AU (g := pushF g f.res) hkg)) rfl (AbsL.v' AbsL.nil') rfl (by decide) (Qe rfl) ?_; refine Ap rfl ?_; refine WO_le (Le.eqK (id := 101) rfl (congrArg (Blk.L 11) (BQ (k := k - 1) (f := goF (pushF g f.res))))) ?_; refine Ap rfl ?_)
    refine nZ Z (oN (bN ?_));refine AA (Le.closeR (u := 101) 1101 Z Z) ?_; refine AB Z ?_; refine AA (Le.rowVn (id := 101) k Z (by simp; omega)) ?_; refine AB Z ?_; refine AA (Le.claimBox (u := 100) (j := 3) (idp := 101) Z Z Z Z) ?_; refine AB Z ?_;refine AA (Le.close (u := 100) 1100 Z Z Z) (AB Z (AF ?_));refine eP [_] ?_ ?_
    ·rfl
    ·first
     | (have hm : ¬ f.mode = 2 := (by omega); have hm' : ¬ f.mode = 3 := (by omega); have h7 : (Ac (codeAt x g.fn) g.at').op = 7 := (by rw [hca, BK b4 b5]; assumption); exact (congrArg (fun q => [Blk.obox (.pointer (some ⟨bm, 0, none⟩)) (mV u0 u1 most q)]) ((NL hm hm' hk1 htk hkg).trans (by rw [Ng h7]))).symm)
   simp only [HS] at h6;refine AD (tN (rG (eZ Z (AE rfl Z (lt_of Z) Z Z Z (eZ Z (AG tys Z Z (lt_of Z) Z Z Z Z (AM hkg) Z (evI ?_)))))));refine AE rfl Z (lt_of Z) Z Z Z (eZ Z (kZ [65,67] Z ?_))
   first
   | (refine AJ tys _ rfl rfl rfl rfl rfl rfl (AM hkg) rfl (AbsL.v' AbsL.nil') rfl (by decide) (Qe rfl) ?_; refine Ap rfl ?_; refine WO_le (Le.eqK (id := 101) rfl (congrArg (Blk.L 11) (Av (k := k - 1) (f := goF g)))) ?_; refine Ap rfl ?_)
   refine nZ Z (oN (bN ?_));refine AA (Le.closeR (u := 101) 1101 Z Z) ?_; refine AB Z ?_; refine AA (Le.rowVn (id := 101) k Z (by simp; omega)) ?_; refine AB Z ?_; refine AA (Le.claimBox (u := 100) (j := 3) (idp := 101) Z Z Z Z) ?_; refine AB Z ?_;refine AA (Le.close (u := 100) 1100 Z Z Z) (AB Z (AF ?_));refine eP [_] ?_ ?_
   ·rfl
   ·first
    | (have hm : ¬ f.mode = 2 := (by omega); have hm' : ¬ f.mode = 3 := (by omega); have h7 : ¬ (Ac (codeAt x g.fn) g.at').op = 7 := (by rw [hca, BK b4 b5]; assumption); exact (congrArg (fun q => [Blk.obox (.pointer (some ⟨bm, 0, none⟩)) (mV u0 u1 most q)]) ((NL hm hm' hk1 htk hkg).trans (by rw [Nh h7]))).symm)
  simp only [HS] at h2;refine eK 3 Z (nB ?_);refine AC Z (fun h3 => ?_) (fun h3 => ?_)
  ·
   simp only [HS] at h3;refine rG (eZ Z (AE rfl Z (lt_of Z) Z Z Z (eK 2 Z (sT Z (nZ Z (kZ [] Z (oN (bN ?_))))))));refine AA (Le.closeR (u := 101) 1101 Z Z) ?_; refine AB Z ?_; refine AA (Le.rowVn (id := 101) k Z (by simp; omega)) ?_; refine AB Z ?_; refine AA (Le.claimBox (u := 100) (j := 3) (idp := 101) Z Z Z Z) ?_; refine AB Z ?_;refine AA (Le.close (u := 100) 1100 Z Z Z) (AB Z (AF ?_));refine eP [_] ?_ ?_
   ·rfl
   ·first
    | (have hm : f.mode = 3 := (by omega); have hk0 : k = 0 := (by omega); exact (congrArg (fun q => [Blk.obox (.pointer (some ⟨bm, 0, none⟩)) (mV u0 u1 most q)]) (end_2v hm hk0 hv0)).symm)
  simp only [HS] at h3;refine sG (eK 2 Z (nB ?_));refine AC Z (fun h4 => ?_) (fun h4 => ?_)
  ·
   simp only [HS] at h4;refine sG (eZ Z (AE rfl Z (lt_of Z) Z Z Z (eZ Z (kZ [0,2,100] Z (eZ Z (sT Z (nZ Z (nB (rG (eK 3 Z (AE rfl Z (lt_of Z) Z Z Z (eK 2 Z (sT Z (nZ Z (kZ [] Z ?_)))))))))))))));refine oN (bN ?_);refine AA (Le.closeR (u := 101) 1101 Z Z) ?_; refine AB Z ?_; refine AA (Le.rowVn (id := 101) k Z (by simp; omega)) ?_; refine AB Z ?_; refine AA (Le.claimBox (u := 100) (j := 3) (idp := 101) Z Z Z Z) ?_; refine AB Z ?_;refine AA (Le.close (u := 100) 1100 Z Z Z) (AB Z (AF ?_));refine eP [_] ?_ ?_
   ·rfl
   ·first
    | (exfalso; omega)
  simp only [HS] at h4;refine sG (eK 3 Z (kZ [0,2,111] Z (eZ Z (nB ?_))));refine AC Z (fun h5 => ?_) (fun h5 => ?_)
  ·
   simp only [HS] at h5
   have hk1 : 1 ≤ k := by omega
   obtain ⟨g, hg⟩ : ∃ g, v.fs[k - 1]? = some g := ⟨_, List.getElem?_eq_getElem (by omega)⟩
   obtain ⟨b0, b1, b2, b3, b4, b5, b6, b7⟩ := hok.below g hk1 hg
   have hrr := hrw g.fn b0 b1
   have hkg : (v.fs.take k)[k - 1]? = some g := by rw [List.getElem?_take_of_lt (by omega)]; exact hg
   have htk : (v.fs.take k).length = k := by rw [Qk]; omega
   refine rG (eK 3 Z (WO_le (Le.close (u := 100) 1100 Z Z Z) (nZ Z (WO_le (Le.closeR (u := 101) 1101 Z Z) (nZ Z ?_)))));refine AK (rid := 99) [100, 101] Z Z (lt_of Z) Z Z (by repeat (first | exact ResP.done | refine ResP.pin0 1100 Z ?_ | refine ResP.pin0 1101 Z ?_ | refine ResP.t ?_ | refine ResP.pinR 1101 Z (by first | rfl | omega) ?_ | refine ResP.nil 1 ?_ | refine ResP.nil' ?_ | refine ResP.own ?_ | refine ResP.sl Z Z (by first | omega | (simp; omega)) ?_ | refine ResP.aggT (by repeat (first | exact ResP.done | refine ResP.t ?_)) ?_)) Z (by repeat (first | exact trivial | refine ⟨rfl, rfl, ?_⟩)) (by decide) (BH bm x inp u0 u1 most bf cap (v.fs.take k) k htk v.trace v.used v.code v.value v.made (v.notes ++ [⟨3, f.id, 0⟩]) (by omega) (by omega) (k - 1) g 2 f.value hkg Z b0 b1 hok.xl b2 b3 hrr) Z Z Z ?_;refine nZ Z (WO_le (Le.open (u := 100) 1100 Z Z Z Z) (nZ Z (WO_le (Le.openR (u := 101) 1101 Z Z) (nZ Z (oN (bN ?_))))));refine AA (Le.closeR (u := 101) 1101 Z Z) ?_; refine AB Z ?_; refine AA (Le.rowVn (id := 101) k Z (by simp; omega)) ?_; refine AB Z ?_; refine AA (Le.claimBox (u := 100) (j := 3) (idp := 101) Z Z Z Z) ?_; refine AB Z ?_;refine AA (Le.close (u := 100) 1100 Z Z Z) (AB Z (AF ?_));refine eP [_] ?_ ?_
   ·rfl
   ·first
    | (exfalso; omega)
  simp only [HS] at h5;refine sG (eK 4 Z (nB ?_));refine AC Z (fun h6 => ?_) (fun h6 => ?_)
  ·
   simp only [HS] at h6
   have hk1 : 1 ≤ k := by omega
   obtain ⟨g, hg⟩ : ∃ g, v.fs[k - 1]? = some g := ⟨_, List.getElem?_eq_getElem (by omega)⟩
   obtain ⟨b0, b1, b2, b3, b4, b5, b6, b7⟩ := hok.below g hk1 hg
   have hrr := hrw g.fn b0 b1
   have hkg : (v.fs.take k)[k - 1]? = some g := by rw [List.getElem?_take_of_lt (by omega)]; exact hg
   have htk : (v.fs.take k).length = k := by rw [Qk]; omega
   refine rG (eZ Z (WO_le (Le.close (u := 100) 1100 Z Z Z) (nZ Z (WO_le (Le.closeR (u := 101) 1101 Z Z) (nZ Z ?_)))));refine AK (rid := 99) [100, 101] Z Z (lt_of Z) Z Z (by repeat (first | exact ResP.done | refine ResP.pin0 1100 Z ?_ | refine ResP.pin0 1101 Z ?_ | refine ResP.t ?_ | refine ResP.pinR 1101 Z (by first | rfl | omega) ?_ | refine ResP.nil 1 ?_ | refine ResP.nil' ?_ | refine ResP.own ?_ | refine ResP.sl Z Z (by first | omega | (simp; omega)) ?_ | refine ResP.aggT (by repeat (first | exact ResP.done | refine ResP.t ?_)) ?_)) Z (by repeat (first | exact trivial | refine ⟨rfl, rfl, ?_⟩)) (by decide) (BH bm x inp u0 u1 most bf cap (v.fs.take k) k htk v.trace v.used v.code v.value v.made (v.notes ++ [⟨3, f.id, 0⟩]) (by omega) (by omega) (k - 1) g 3 0 hkg Z b0 b1 hok.xl b2 b3 hrr) Z Z Z ?_;refine nZ Z (WO_le (Le.open (u := 100) 1100 Z Z Z Z) (nZ Z (WO_le (Le.openR (u := 101) 1101 Z Z) (nZ Z (oN (bN ?_))))));refine AA (Le.closeR (u := 101) 1101 Z Z) ?_; refine AB Z ?_; refine AA (Le.rowVn (id := 101) k Z (by simp; omega)) ?_; refine AB Z ?_; refine AA (Le.claimBox (u := 100) (j := 3) (idp := 101) Z Z Z Z) ?_; refine AB Z ?_;refine AA (Le.close (u := 100) 1100 Z Z Z) (AB Z (AF ?_));refine eP [_] ?_ ?_
   ·rfl
   ·first
    | (have hm : f.mode = 3 := (by omega); exact (congrArg (fun q => [Blk.obox (.pointer (some ⟨bm, 0, none⟩)) (mV u0 u1 most q)]) (QM hm hk1 htk hkg)).symm)
  simp only [HS] at h6;refine sQ ?_
  have hk1 : 1 ≤ k := by omega
  obtain ⟨g, hg⟩ : ∃ g, v.fs[k - 1]? = some g := ⟨_, List.getElem?_eq_getElem (by omega)⟩
  obtain ⟨b0, b1, b2, b3, b4, b5, b6, b7⟩ := hok.below g hk1 hg
  have hrr := hrw g.fn b0 b1
  have hkg : (v.fs.take k)[k - 1]? = some g := by rw [List.getElem?_take_of_lt (by omega)]; exact hg
  have htk : (v.fs.take k).length = k := by rw [Qk]; omega
  have hca := Aa b0 b1
  rw [hca] at b5 b7
  have hpa : (pushF g f.res).at' = g.at' := rfl
  refine rG (eZ Z ?_);refine AQ (rid := 99) [100] 1101 (k - 1) Z Z (lt_of Z) Z Z (by repeat (first | exact ResP.done | refine ResP.t ?_ | refine ResP.pin0 1100 Z ?_ | refine ResP.pinR 1100 Z (by first | rfl | omega) ?_ | refine ResP.nil 1 ?_ | refine ResP.nil' ?_ | refine ResP.own ?_ | refine ResP.sl Z Z (by first | omega | (simp; omega)) ?_)) Z (by repeat (first | exact trivial | refine ⟨OpenAs.same Z rfl, ?_⟩ | refine ⟨OpenAs.box 1100 Z Z Z Z rfl, ?_⟩ | refine ⟨OpenAs.row 1100 Z Z rfl, ?_⟩)) (by decide) (Az bm bf k cap _ _ (by omega) (by omega) (by omega) _ (by rfl) (by rfl) (by rfl)) Z Z (by first | rfl | omega) ?_;refine eZ Z (nB (sQ (sQ (kY [0,2,4] Z (AV mixed (by kernel_rfl) (evQ ?_))))));refine AL rfl Z (lt_of Z) Z Z Z (evQ ?_);refine evQ ?_;refine A7 tys 99 0 Z Z (lt_of Z) Z Z Z Z (evQ ?_);refine AI Z (AL rfl Z (lt_of Z) Z Z Z (evQ ?_));refine Ae tys Z Z (lt_of Z) Z Z Z Z (AM hkg) Z (Ai tys Z Z (lt_of Z) Z Z Z Z Z Z Z (by omega) _ (BT _ _ (by omega) (by omega)) (evQ ?_));refine evQ ?_;refine AI Z (evQ ?_);refine AL rfl Z (lt_of Z) Z Z Z (evQ ?_);refine Ae tys Z Z (lt_of Z) Z Z Z Z (AM hkg) Z (Ai tys Z Z (lt_of Z) Z Z Z Z Z Z Z (by omega) _ (BT _ _ (by omega) (by omega)) (evQ ?_));refine AI Z (evQ ?_);refine evQ ?_;refine Ak (tN ?_);refine AC Z (fun h7 => ?_) (fun h7 => ?_)
  ·
   simp only [HS] at h7;refine rG (eK 3 Z (WO_le (Le.close (u := 100) 1100 Z Z Z) (nZ Z (WO_le (Le.closeR (u := 101) 1101 Z Z) (nZ Z ?_)))));refine AK (rid := 99) [100, 101] Z Z (lt_of Z) Z Z (by repeat (first | exact ResP.done | refine ResP.pin0 1100 Z ?_ | refine ResP.pin0 1101 Z ?_ | refine ResP.t ?_ | refine ResP.pinR 1101 Z (by first | rfl | omega) ?_ | refine ResP.nil 1 ?_ | refine ResP.nil' ?_ | refine ResP.own ?_ | refine ResP.sl Z Z (by first | omega | (simp; omega)) ?_ | refine ResP.aggT (by repeat (first | exact ResP.done | refine ResP.t ?_)) ?_)) Z (by repeat (first | exact trivial | refine ⟨rfl, rfl, ?_⟩)) (by decide) (Bm bm x inp u0 u1 most bf cap (v.fs.take k) k htk v.trace v.used v.code v.value v.made (v.notes ++ [⟨3, f.id, 0⟩]) (by omega) (by omega) (k - 1) g f.res hkg Z (by omega)) Z Z Z ?_;refine nZ Z (WO_le (Le.open (u := 100) 1100 Z Z Z Z) (nZ Z (WO_le (Le.openR (u := 101) 1101 Z Z) (nZ Z (nB (rG (eZ Z (AE rfl Z (lt_of Z) Z Z Z (eZ Z (kZ [61,63] Z (AG tys Z Z (lt_of Z) Z Z Z Z (AM (AU (g := pushF g f.res) hkg)) Z (evI ?_))))))))))));refine AE rfl Z (lt_of Z) Z Z Z (eZ Z ?_)
   first
   | (refine AJ tys _ rfl rfl rfl rfl rfl rfl (AM (AU (g := pushF g f.res) hkg)) rfl (AbsL.v' AbsL.nil') rfl (by decide) (Qe rfl) ?_; refine Ap rfl ?_; refine WO_le (Le.eqK (id := 101) rfl (congrArg (Blk.L 11) (BQ (k := k - 1) (f := goF (pushF g f.res))))) ?_; refine Ap rfl ?_)
   refine nZ Z (oN (bN ?_));refine AA (Le.closeR (u := 101) 1101 Z Z) ?_; refine AB Z ?_; refine AA (Le.rowVn (id := 101) k Z (by simp; omega)) ?_; refine AB Z ?_; refine AA (Le.claimBox (u := 100) (j := 3) (idp := 101) Z Z Z Z) ?_; refine AB Z ?_;refine AA (Le.close (u := 100) 1100 Z Z Z) (AB Z (AF ?_));refine eP [_] ?_ ?_
   ·rfl
   ·first
    | (exfalso; omega)
  simp only [HS] at h7;refine AD (tN (rG (eZ Z (AE rfl Z (lt_of Z) Z Z Z (eZ Z (AG tys Z Z (lt_of Z) Z Z Z Z (AM hkg) Z (evI ?_)))))));refine AE rfl Z (lt_of Z) Z Z Z (eZ Z (kZ [65,67] Z ?_))
  first
  | (refine AJ tys _ rfl rfl rfl rfl rfl rfl (AM hkg) rfl (AbsL.v' AbsL.nil') rfl (by decide) (Qe rfl) ?_; refine Ap rfl ?_; refine WO_le (Le.eqK (id := 101) rfl (congrArg (Blk.L 11) (Av (k := k - 1) (f := goF g)))) ?_; refine Ap rfl ?_)
  refine nZ Z (oN (bN ?_));refine AA (Le.closeR (u := 101) 1101 Z Z) ?_; refine AB Z ?_; refine AA (Le.rowVn (id := 101) k Z (by simp; omega)) ?_; refine AB Z ?_; refine AA (Le.claimBox (u := 100) (j := 3) (idp := 101) Z Z Z Z) ?_; refine AB Z ?_;refine AA (Le.close (u := 100) 1100 Z Z Z) (AB Z (AF ?_));refine eP [_] ?_ ?_
  ·rfl
  ·first
   | (exfalso; omega)
 simp only [HS] at h1;refine eK 3 Z (nB ?_);refine AC Z (fun h2 => ?_) (fun h2 => ?_)
 ·
  simp only [HS] at h2;refine sQ (kY [0,2] Z (rG (eZ Z (AE rfl Z (lt_of Z) Z Z Z (eK 2 Z (sT Z (nZ Z (nB (rG (eK 3 Z (AE rfl Z (lt_of Z) Z Z Z (kZ [81,82] Z (eK 2 Z (sT Z (nZ Z ?_)))))))))))))));refine oN (bN ?_);refine AA (Le.closeR (u := 101) 1101 Z Z) ?_; refine AB Z ?_; refine AA (Le.rowVn (id := 101) k Z (by simp; omega)) ?_; refine AB Z ?_; refine AA (Le.claimBox (u := 100) (j := 3) (idp := 101) Z Z Z Z) ?_; refine AB Z ?_;refine AA (Le.close (u := 100) 1100 Z Z Z) (AB Z (AF ?_));refine eP [_] ?_ ?_
  ·rfl
  ·first
   | (have hm : f.mode = 2 := (by omega); have hk0 : k = 0 := (by omega); exact (congrArg (fun q => [Blk.obox (.pointer (some ⟨bm, 0, none⟩)) (mV u0 u1 most q)]) (end_1 hm hk0)).symm)
 simp only [HS] at h2;refine sQ (kY [0,2,3] Z (rG (eK 4 Z ?_)));refine gB (fun h3 => ?_) (fun h3 => ?_)
 ·
  simp only [HS] at h3;refine eK 2 Z (nB (Ao Z (sG (eK 2 Z (nB ?_)))));refine AC Z (fun h4 => ?_) (fun h4 => ?_)
  ·
   simp only [HS] at h4;refine sQ (kY [0,2] Z (rG (eZ Z (AE rfl Z (lt_of Z) Z Z Z (eK 2 Z (sT Z (nZ Z (nB (rG (eK 3 Z (AE rfl Z (lt_of Z) Z Z Z (kZ [104,105] Z (eK 2 Z (sT Z (nZ Z ?_)))))))))))))));refine oN (bN ?_);refine AA (Le.closeR (u := 101) 1101 Z Z) ?_; refine AB Z ?_; refine AA (Le.rowVn (id := 101) k Z (by simp; omega)) ?_; refine AB Z ?_; refine AA (Le.claimBox (u := 100) (j := 3) (idp := 101) Z Z Z Z) ?_; refine AB Z ?_;refine AA (Le.close (u := 100) 1100 Z Z Z) (AB Z (AF ?_));refine eP [_] ?_ ?_
   ·rfl
   ·first
    | (exfalso; omega)
  simp only [HS] at h4;refine sQ (kY [0,2] Z (rG (eK 4 Z (nB ?_))));refine AC Z (fun h5 => ?_) (fun h5 => ?_)
  ·
   simp only [HS] at h5
   have hk1 : 1 ≤ k := by omega
   obtain ⟨g, hg⟩ : ∃ g, v.fs[k - 1]? = some g := ⟨_, List.getElem?_eq_getElem (by omega)⟩
   obtain ⟨b0, b1, b2, b3, b4, b5, b6, b7⟩ := hok.below g hk1 hg
   have hrr := hrw g.fn b0 b1
   have hkg : (v.fs.take k)[k - 1]? = some g := by rw [List.getElem?_take_of_lt (by omega)]; exact hg
   have htk : (v.fs.take k).length = k := by rw [Qk]; omega
   refine rG (eK 3 Z (WO_le (Le.close (u := 100) 1100 Z Z Z) (nZ Z (WO_le (Le.closeR (u := 101) 1101 Z Z) (nZ Z ?_)))));refine AK (rid := 99) [100, 101] Z Z (lt_of Z) Z Z (by repeat (first | exact ResP.done | refine ResP.pin0 1100 Z ?_ | refine ResP.pin0 1101 Z ?_ | refine ResP.t ?_ | refine ResP.pinR 1101 Z (by first | rfl | omega) ?_ | refine ResP.nil 1 ?_ | refine ResP.nil' ?_ | refine ResP.own ?_ | refine ResP.sl Z Z (by first | omega | (simp; omega)) ?_ | refine ResP.aggT (by repeat (first | exact ResP.done | refine ResP.t ?_)) ?_)) Z (by repeat (first | exact trivial | refine ⟨rfl, rfl, ?_⟩)) (by decide) (BH bm x inp u0 u1 most bf cap (v.fs.take k) k htk v.trace v.used v.code v.value v.made (v.notes ++ [⟨3, f.id, 0⟩]) (by omega) (by omega) (k - 1) g 2 f.value hkg Z b0 b1 hok.xl b2 b3 hrr) Z Z Z ?_;refine nZ Z (WO_le (Le.open (u := 100) 1100 Z Z Z Z) (nZ Z (WO_le (Le.openR (u := 101) 1101 Z Z) (nZ Z (oN (bN ?_))))));refine AA (Le.closeR (u := 101) 1101 Z Z) ?_; refine AB Z ?_; refine AA (Le.rowVn (id := 101) k Z (by simp; omega)) ?_; refine AB Z ?_; refine AA (Le.claimBox (u := 100) (j := 3) (idp := 101) Z Z Z Z) ?_; refine AB Z ?_;refine AA (Le.close (u := 100) 1100 Z Z Z) (AB Z (AF ?_));refine eP [_] ?_ ?_
   ·rfl
   ·first
    | (have hm : f.mode = 2 := (by omega); exact (congrArg (fun q => [Blk.obox (.pointer (some ⟨bm, 0, none⟩)) (mV u0 u1 most q)]) (QN hm hk1 htk hkg)).symm)
  simp only [HS] at h5;refine sG (eK 4 Z (nB ?_));refine AC Z (fun h6 => ?_) (fun h6 => ?_)
  ·
   simp only [HS] at h6
   have hk1 : 1 ≤ k := by omega
   obtain ⟨g, hg⟩ : ∃ g, v.fs[k - 1]? = some g := ⟨_, List.getElem?_eq_getElem (by omega)⟩
   obtain ⟨b0, b1, b2, b3, b4, b5, b6, b7⟩ := hok.below g hk1 hg
   have hrr := hrw g.fn b0 b1
   have hkg : (v.fs.take k)[k - 1]? = some g := by rw [List.getElem?_take_of_lt (by omega)]; exact hg
   have htk : (v.fs.take k).length = k := by rw [Qk]; omega
   refine kY [0] Z (rG (eZ Z (WO_le (Le.close (u := 100) 1100 Z Z Z) (nZ Z (WO_le (Le.closeR (u := 101) 1101 Z Z) (nZ Z ?_))))));refine AK (rid := 99) [100, 101] Z Z (lt_of Z) Z Z (by repeat (first | exact ResP.done | refine ResP.pin0 1100 Z ?_ | refine ResP.pin0 1101 Z ?_ | refine ResP.t ?_ | refine ResP.pinR 1101 Z (by first | rfl | omega) ?_ | refine ResP.nil 1 ?_ | refine ResP.nil' ?_ | refine ResP.own ?_ | refine ResP.sl Z Z (by first | omega | (simp; omega)) ?_ | refine ResP.aggT (by repeat (first | exact ResP.done | refine ResP.t ?_)) ?_)) Z (by repeat (first | exact trivial | refine ⟨rfl, rfl, ?_⟩)) (by decide) (BH bm x inp u0 u1 most bf cap (v.fs.take k) k htk v.trace v.used v.code v.value v.made (v.notes ++ [⟨3, f.id, 0⟩]) (by omega) (by omega) (k - 1) g 3 0 hkg Z b0 b1 hok.xl b2 b3 hrr) Z Z Z ?_;refine nZ Z (WO_le (Le.open (u := 100) 1100 Z Z Z Z) (nZ Z (WO_le (Le.openR (u := 101) 1101 Z Z) (nZ Z (oN (bN ?_))))));refine AA (Le.closeR (u := 101) 1101 Z Z) ?_; refine AB Z ?_; refine AA (Le.rowVn (id := 101) k Z (by simp; omega)) ?_; refine AB Z ?_; refine AA (Le.claimBox (u := 100) (j := 3) (idp := 101) Z Z Z Z) ?_; refine AB Z ?_;refine AA (Le.close (u := 100) 1100 Z Z Z) (AB Z (AF ?_));refine eP [_] ?_ ?_
   ·rfl
   ·first
    | (exfalso; omega)
  simp only [HS] at h6;refine sQ ?_
  have hk1 : 1 ≤ k := by omega
  obtain ⟨g, hg⟩ : ∃ g, v.fs[k - 1]? = some g := ⟨_, List.getElem?_eq_getElem (by omega)⟩
  obtain ⟨b0, b1, b2, b3, b4, b5, b6, b7⟩ := hok.below g hk1 hg
  have hrr := hrw g.fn b0 b1
  have hkg : (v.fs.take k)[k - 1]? = some g := by rw [List.getElem?_take_of_lt (by omega)]; exact hg
  have htk : (v.fs.take k).length = k := by rw [Qk]; omega
  have hca := Aa b0 b1
  rw [hca] at b5 b7
  have hpa : (pushF g f.res).at' = g.at' := rfl
  refine kY [0,2] Z (rG (eZ Z ?_));refine AQ (rid := 99) [100] 1101 (k - 1) Z Z (lt_of Z) Z Z (by repeat (first | exact ResP.done | refine ResP.t ?_ | refine ResP.pin0 1100 Z ?_ | refine ResP.pinR 1100 Z (by first | rfl | omega) ?_ | refine ResP.nil 1 ?_ | refine ResP.nil' ?_ | refine ResP.own ?_ | refine ResP.sl Z Z (by first | omega | (simp; omega)) ?_)) Z (by repeat (first | exact trivial | refine ⟨OpenAs.same Z rfl, ?_⟩ | refine ⟨OpenAs.box 1100 Z Z Z Z rfl, ?_⟩ | refine ⟨OpenAs.row 1100 Z Z rfl, ?_⟩)) (by decide) (Az bm bf k cap _ _ (by omega) (by omega) (by omega) _ (by rfl) (by rfl) (by rfl)) Z Z (by first | rfl | omega) ?_;refine eZ Z (nB (sQ (sQ (AV mixed (by kernel_rfl) (evQ ?_)))));refine AL rfl Z (lt_of Z) Z Z Z (evQ ?_);refine AI Z (evQ ?_);refine A7 tys 99 0 Z Z (lt_of Z) Z Z Z Z (evQ ?_);refine AL rfl Z (lt_of Z) Z Z Z (evQ ?_);refine Ae tys Z Z (lt_of Z) Z Z Z Z (AM hkg) Z (AI Z (Ai tys Z Z (lt_of Z) Z Z Z Z Z Z Z (by omega) _ (BT _ _ (by omega) (by omega)) (evQ ?_)));refine evQ ?_;refine evQ ?_;refine AL rfl Z (lt_of Z) Z Z Z (evQ ?_);refine AI Z (Ae tys Z Z (lt_of Z) Z Z Z Z (AM hkg) Z (Ai tys Z Z (lt_of Z) Z Z Z Z Z Z Z (by omega) _ (BT _ _ (by omega) (by omega)) (evQ ?_)));refine evQ ?_;refine evQ ?_;refine Ak (tN ?_);refine AC Z (fun h7 => ?_) (fun h7 => ?_)
  ·
   simp only [HS] at h7;refine rG (eK 3 Z (WO_le (Le.close (u := 100) 1100 Z Z Z) (nZ Z (WO_le (Le.closeR (u := 101) 1101 Z Z) (nZ Z ?_)))));refine AK (rid := 99) [100, 101] Z Z (lt_of Z) Z Z (by repeat (first | exact ResP.done | refine ResP.pin0 1100 Z ?_ | refine ResP.pin0 1101 Z ?_ | refine ResP.t ?_ | refine ResP.pinR 1101 Z (by first | rfl | omega) ?_ | refine ResP.nil 1 ?_ | refine ResP.nil' ?_ | refine ResP.own ?_ | refine ResP.sl Z Z (by first | omega | (simp; omega)) ?_ | refine ResP.aggT (by repeat (first | exact ResP.done | refine ResP.t ?_)) ?_)) Z (by repeat (first | exact trivial | refine ⟨rfl, rfl, ?_⟩)) (by decide) (Bm bm x inp u0 u1 most bf cap (v.fs.take k) k htk v.trace v.used v.code v.value v.made (v.notes ++ [⟨3, f.id, 0⟩]) (by omega) (by omega) (k - 1) g f.res hkg Z (by omega)) Z Z Z ?_;refine nZ Z (WO_le (Le.open (u := 100) 1100 Z Z Z Z) (nZ Z (WO_le (Le.openR (u := 101) 1101 Z Z) (nZ Z (kZ [4] Z (nB (rG (eZ Z (AE rfl Z (lt_of Z) Z Z Z (eZ Z (AG tys Z Z (lt_of Z) Z Z Z Z (AM (AU (g := pushF g f.res) hkg)) Z (evI ?_))))))))))));refine AE rfl Z (lt_of Z) Z Z Z (eZ Z ?_)
   first
   | (refine AJ tys _ rfl rfl rfl rfl rfl rfl (AM (AU (g := pushF g f.res) hkg)) rfl (AbsL.v' AbsL.nil') rfl (by decide) (Qe rfl) ?_; refine Ap rfl ?_; refine WO_le (Le.eqK (id := 101) rfl (congrArg (Blk.L 11) (BQ (k := k - 1) (f := goF (pushF g f.res))))) ?_; refine Ap rfl ?_)
   refine nZ Z (oN (bN ?_));refine AA (Le.closeR (u := 101) 1101 Z Z) ?_; refine AB Z ?_; refine AA (Le.rowVn (id := 101) k Z (by simp; omega)) ?_; refine AB Z ?_; refine AA (Le.claimBox (u := 100) (j := 3) (idp := 101) Z Z Z Z) ?_; refine AB Z ?_;refine AA (Le.close (u := 100) 1100 Z Z Z) (AB Z (AF ?_));refine eP [_] ?_ ?_
   ·rfl
   ·first
    | (exfalso; omega)
  simp only [HS] at h7;refine AD (tN (rG (eZ Z (AE rfl Z (lt_of Z) Z Z Z (eZ Z (AG tys Z Z (lt_of Z) Z Z Z Z (AM hkg) Z (kZ [61,64] Z (evI ?_))))))));refine AE rfl Z (lt_of Z) Z Z Z (eZ Z ?_)
  first
  | (refine AJ tys _ rfl rfl rfl rfl rfl rfl (AM hkg) rfl (AbsL.v' AbsL.nil') rfl (by decide) (Qe rfl) ?_; refine Ap rfl ?_; refine WO_le (Le.eqK (id := 101) rfl (congrArg (Blk.L 11) (Av (k := k - 1) (f := goF g)))) ?_; refine Ap rfl ?_)
  refine nZ Z (oN (bN ?_));refine AA (Le.closeR (u := 101) 1101 Z Z) ?_; refine AB Z ?_; refine AA (Le.rowVn (id := 101) k Z (by simp; omega)) ?_; refine AB Z ?_; refine AA (Le.claimBox (u := 100) (j := 3) (idp := 101) Z Z Z Z) ?_; refine AB Z ?_;refine AA (Le.close (u := 100) 1100 Z Z Z) (AB Z (AF ?_));refine eP [_] ?_ ?_
  ·rfl
  ·first
   | (exfalso; omega)
 simp only [HS] at h3;refine eK 3 Z (nB ?_);refine AC Z (fun h4 => ?_) (fun h4 => ?_)
 ·
  simp only [HS] at h4;refine kY [0] Z (rG (eZ Z (AE rfl Z (lt_of Z) Z Z Z (eK 2 Z (sT Z (nZ Z (oN (bN ?_))))))));refine AA (Le.closeR (u := 101) 1101 Z Z) ?_; refine AB Z ?_; refine AA (Le.rowVn (id := 101) k Z (by simp; omega)) ?_; refine AB Z ?_; refine AA (Le.claimBox (u := 100) (j := 3) (idp := 101) Z Z Z Z) ?_; refine AB Z ?_;refine AA (Le.close (u := 100) 1100 Z Z Z) (AB Z (AF ?_));refine eP [_] ?_ ?_
  ·rfl
  ·first
   | (exfalso; omega)
 simp only [HS] at h4;refine sQ (kY [0,2,3] Z (rG (eK 2 Z (nB ?_))));refine AC Z (fun h5 => ?_) (fun h5 => ?_)
 ·
  simp only [HS] at h5;refine sG (eZ Z (AE rfl Z (lt_of Z) Z Z Z (eK 2 Z (sT Z (nZ Z (nB (kY [0,2] Z (rG (eK 3 Z (AE rfl Z (lt_of Z) Z Z Z (eK 2 Z (sT Z (nZ Z (oN (bN ?_)))))))))))))));refine AA (Le.closeR (u := 101) 1101 Z Z) ?_; refine AB Z ?_; refine AA (Le.rowVn (id := 101) k Z (by simp; omega)) ?_; refine AB Z ?_; refine AA (Le.claimBox (u := 100) (j := 3) (idp := 101) Z Z Z Z) ?_; refine AB Z ?_;refine AA (Le.close (u := 100) 1100 Z Z Z) (AB Z (AF ?_));refine eP [_] ?_ ?_
  ·rfl
  ·first
   | (exfalso; omega)
 simp only [HS] at h5;refine sG (eK 4 Z (nB ?_));refine AC Z (fun h6 => ?_) (fun h6 => ?_)
 ·
  simp only [HS] at h6
  have hk1 : 1 ≤ k := by omega
  obtain ⟨g, hg⟩ : ∃ g, v.fs[k - 1]? = some g := ⟨_, List.getElem?_eq_getElem (by omega)⟩
  obtain ⟨b0, b1, b2, b3, b4, b5, b6, b7⟩ := hok.below g hk1 hg
  have hrr := hrw g.fn b0 b1
  have hkg : (v.fs.take k)[k - 1]? = some g := by rw [List.getElem?_take_of_lt (by omega)]; exact hg
  have htk : (v.fs.take k).length = k := by rw [Qk]; omega
  refine rG (eK 3 Z (kZ [112,114] Z (WO_le (Le.close (u := 100) 1100 Z Z Z) (nZ Z (WO_le (Le.closeR (u := 101) 1101 Z Z) (nZ Z ?_))))));refine AK (rid := 99) [100, 101] Z Z (lt_of Z) Z Z (by repeat (first | exact ResP.done | refine ResP.pin0 1100 Z ?_ | refine ResP.pin0 1101 Z ?_ | refine ResP.t ?_ | refine ResP.pinR 1101 Z (by first | rfl | omega) ?_ | refine ResP.nil 1 ?_ | refine ResP.nil' ?_ | refine ResP.own ?_ | refine ResP.sl Z Z (by first | omega | (simp; omega)) ?_ | refine ResP.aggT (by repeat (first | exact ResP.done | refine ResP.t ?_)) ?_)) Z (by repeat (first | exact trivial | refine ⟨rfl, rfl, ?_⟩)) (by decide) (BH bm x inp u0 u1 most bf cap (v.fs.take k) k htk v.trace v.used v.code v.value v.made (v.notes ++ [⟨3, f.id, 0⟩]) (by omega) (by omega) (k - 1) g 2 f.value hkg Z b0 b1 hok.xl b2 b3 hrr) Z Z Z ?_;refine nZ Z (WO_le (Le.open (u := 100) 1100 Z Z Z Z) (nZ Z (WO_le (Le.openR (u := 101) 1101 Z Z) (nZ Z (oN (bN ?_))))));refine AA (Le.closeR (u := 101) 1101 Z Z) ?_; refine AB Z ?_; refine AA (Le.rowVn (id := 101) k Z (by simp; omega)) ?_; refine AB Z ?_; refine AA (Le.claimBox (u := 100) (j := 3) (idp := 101) Z Z Z Z) ?_; refine AB Z ?_;refine AA (Le.close (u := 100) 1100 Z Z Z) (AB Z (AF ?_));refine eP [_] ?_ ?_
  ·rfl
  ·first
   | (exfalso; omega)
 simp only [HS] at h6;refine sG (eK 3 Z (kZ [0,2,119] Z (eZ Z (nB ?_))));refine AC Z (fun h7 => ?_) (fun h7 => ?_)
 ·
  simp only [HS] at h7
  have hk1 : 1 ≤ k := by omega
  obtain ⟨g, hg⟩ : ∃ g, v.fs[k - 1]? = some g := ⟨_, List.getElem?_eq_getElem (by omega)⟩
  obtain ⟨b0, b1, b2, b3, b4, b5, b6, b7⟩ := hok.below g hk1 hg
  have hrr := hrw g.fn b0 b1
  have hkg : (v.fs.take k)[k - 1]? = some g := by rw [List.getElem?_take_of_lt (by omega)]; exact hg
  have htk : (v.fs.take k).length = k := by rw [Qk]; omega
  refine rG (eZ Z (WO_le (Le.close (u := 100) 1100 Z Z Z) (nZ Z (WO_le (Le.closeR (u := 101) 1101 Z Z) (nZ Z ?_)))));refine AK (rid := 99) [100, 101] Z Z (lt_of Z) Z Z (by repeat (first | exact ResP.done | refine ResP.pin0 1100 Z ?_ | refine ResP.pin0 1101 Z ?_ | refine ResP.t ?_ | refine ResP.pinR 1101 Z (by first | rfl | omega) ?_ | refine ResP.nil 1 ?_ | refine ResP.nil' ?_ | refine ResP.own ?_ | refine ResP.sl Z Z (by first | omega | (simp; omega)) ?_ | refine ResP.aggT (by repeat (first | exact ResP.done | refine ResP.t ?_)) ?_)) Z (by repeat (first | exact trivial | refine ⟨rfl, rfl, ?_⟩)) (by decide) (BH bm x inp u0 u1 most bf cap (v.fs.take k) k htk v.trace v.used v.code v.value v.made (v.notes ++ [⟨3, f.id, 0⟩]) (by omega) (by omega) (k - 1) g 3 0 hkg Z b0 b1 hok.xl b2 b3 hrr) Z Z Z ?_;refine nZ Z (WO_le (Le.open (u := 100) 1100 Z Z Z Z) (nZ Z (WO_le (Le.openR (u := 101) 1101 Z Z) (nZ Z (oN (bN ?_))))));refine AA (Le.closeR (u := 101) 1101 Z Z) ?_; refine AB Z ?_; refine AA (Le.rowVn (id := 101) k Z (by simp; omega)) ?_; refine AB Z ?_; refine AA (Le.claimBox (u := 100) (j := 3) (idp := 101) Z Z Z Z) ?_; refine AB Z ?_;refine AA (Le.close (u := 100) 1100 Z Z Z) (AB Z (AF ?_));refine eP [_] ?_ ?_
  ·rfl
  ·first
   | (exfalso; omega)
 simp only [HS] at h7;refine sQ ?_
 have hk1 : 1 ≤ k := by omega
 obtain ⟨g, hg⟩ : ∃ g, v.fs[k - 1]? = some g := ⟨_, List.getElem?_eq_getElem (by omega)⟩
 obtain ⟨b0, b1, b2, b3, b4, b5, b6, b7⟩ := hok.below g hk1 hg
 have hrr := hrw g.fn b0 b1
 have hkg : (v.fs.take k)[k - 1]? = some g := by rw [List.getElem?_take_of_lt (by omega)]; exact hg
 have htk : (v.fs.take k).length = k := by rw [Qk]; omega
 have hca := Aa b0 b1
 rw [hca] at b5 b7
 have hpa : (pushF g f.res).at' = g.at' := rfl
 refine rG (eZ Z ?_);refine AQ (rid := 99) [100] 1101 (k - 1) Z Z (lt_of Z) Z Z (by repeat (first | exact ResP.done | refine ResP.t ?_ | refine ResP.pin0 1100 Z ?_ | refine ResP.pinR 1100 Z (by first | rfl | omega) ?_ | refine ResP.nil 1 ?_ | refine ResP.nil' ?_ | refine ResP.own ?_ | refine ResP.sl Z Z (by first | omega | (simp; omega)) ?_)) Z (by repeat (first | exact trivial | refine ⟨OpenAs.same Z rfl, ?_⟩ | refine ⟨OpenAs.box 1100 Z Z Z Z rfl, ?_⟩ | refine ⟨OpenAs.row 1100 Z Z rfl, ?_⟩)) (by decide) (Az bm bf k cap _ _ (by omega) (by omega) (by omega) _ (by rfl) (by rfl) (by rfl)) Z Z (by first | rfl | omega) ?_;refine eZ Z (nB (sQ (sQ (AV mixed (by kernel_rfl) (evQ ?_)))));refine AL rfl Z (lt_of Z) Z Z Z (AI Z (evQ ?_));refine evQ ?_;refine A7 tys 99 0 Z Z (lt_of Z) Z Z Z Z (evQ ?_);refine AL rfl Z (lt_of Z) Z Z Z (evQ ?_);refine AI Z (Ae tys Z Z (lt_of Z) Z Z Z Z (AM hkg) Z (Ai tys Z Z (lt_of Z) Z Z Z Z Z Z Z (by omega) _ (BT _ _ (by omega) (by omega)) (evQ ?_)));refine evQ ?_;refine evQ ?_;refine AL rfl Z (lt_of Z) Z Z Z (AI Z (evQ ?_));refine Ae tys Z Z (lt_of Z) Z Z Z Z (AM hkg) Z (Ai tys Z Z (lt_of Z) Z Z Z Z Z Z Z (by omega) _ (BT _ _ (by omega) (by omega)) (evQ ?_));refine evQ ?_;refine evQ ?_;refine AI Z (Ak (tN ?_));refine AC Z (fun h8 => ?_) (fun h8 => ?_)
 ·
  simp only [HS] at h8;refine rG (eK 3 Z (WO_le (Le.close (u := 100) 1100 Z Z Z) (nZ Z (WO_le (Le.closeR (u := 101) 1101 Z Z) (nZ Z ?_)))));refine AK (rid := 99) [100, 101] Z Z (lt_of Z) Z Z (by repeat (first | exact ResP.done | refine ResP.pin0 1100 Z ?_ | refine ResP.pin0 1101 Z ?_ | refine ResP.t ?_ | refine ResP.pinR 1101 Z (by first | rfl | omega) ?_ | refine ResP.nil 1 ?_ | refine ResP.nil' ?_ | refine ResP.own ?_ | refine ResP.sl Z Z (by first | omega | (simp; omega)) ?_ | refine ResP.aggT (by repeat (first | exact ResP.done | refine ResP.t ?_)) ?_)) Z (by repeat (first | exact trivial | refine ⟨rfl, rfl, ?_⟩)) (by decide) (Bm bm x inp u0 u1 most bf cap (v.fs.take k) k htk v.trace v.used v.code v.value v.made (v.notes ++ [⟨3, f.id, 0⟩]) (by omega) (by omega) (k - 1) g f.res hkg Z (by omega)) Z Z Z ?_;refine nZ Z (WO_le (Le.open (u := 100) 1100 Z Z Z Z) (nZ Z (WO_le (Le.openR (u := 101) 1101 Z Z) (nZ Z (nB (rG (eZ Z (AE rfl Z (lt_of Z) Z Z Z (eZ Z (AG tys Z Z (lt_of Z) Z Z Z Z (AM (AU (g := pushF g f.res) hkg)) Z (evI ?_)))))))))));refine kZ [61,65] Z (AE rfl Z (lt_of Z) Z Z Z (eZ Z ?_))
  first
  | (refine AJ tys _ rfl rfl rfl rfl rfl rfl (AM (AU (g := pushF g f.res) hkg)) rfl (AbsL.v' AbsL.nil') rfl (by decide) (Qe rfl) ?_; refine Ap rfl ?_; refine WO_le (Le.eqK (id := 101) rfl (congrArg (Blk.L 11) (BQ (k := k - 1) (f := goF (pushF g f.res))))) ?_; refine Ap rfl ?_)
  refine nZ Z (oN (bN ?_));refine AA (Le.closeR (u := 101) 1101 Z Z) ?_; refine AB Z ?_; refine AA (Le.rowVn (id := 101) k Z (by simp; omega)) ?_; refine AB Z ?_; refine AA (Le.claimBox (u := 100) (j := 3) (idp := 101) Z Z Z Z) ?_; refine AB Z ?_;refine AA (Le.close (u := 100) 1100 Z Z Z) (AB Z (AF ?_));refine eP [_] ?_ ?_
  ·rfl
  ·first
   | (exfalso; omega)
 simp only [HS] at h8;refine AD (tN (rG (eZ Z (AE rfl Z (lt_of Z) Z Z Z (eZ Z (AG tys Z Z (lt_of Z) Z Z Z Z (AM hkg) Z (evI ?_)))))));refine AE rfl Z (lt_of Z) Z Z Z (eZ Z ?_)
 first
 | (refine AJ tys _ rfl rfl rfl rfl rfl rfl (AM hkg) rfl (AbsL.v' AbsL.nil') rfl (by decide) (Qe rfl) ?_; refine Ap rfl ?_; refine WO_le (Le.eqK (id := 101) rfl (congrArg (Blk.L 11) (Av (k := k - 1) (f := goF g)))) ?_; refine Ap rfl ?_)
 refine nZ Z (oN (bN ?_));refine AA (Le.closeR (u := 101) 1101 Z Z) ?_; refine AB Z ?_; refine AA (Le.rowVn (id := 101) k Z (by simp; omega)) ?_; refine AB Z ?_; refine AA (Le.claimBox (u := 100) (j := 3) (idp := 101) Z Z Z Z) ?_; refine AB Z ?_;refine AA (Le.close (u := 100) 1100 Z Z Z) (AB Z (AF ?_));refine eP [_] ?_ ?_
 ·rfl
 ·first
  | (exfalso; omega)
open Go.Eng
def varsAt (pile : List Int) (V p j : Nat) : List Int := List.replicate (p - j) 0 ++ pile.drop (pile.length - j) ++ List.replicate (V - p) 0
theorem GF {pile : List Int} {V p j : Nat} (h : j ≤ p) (h2 : p ≤ V) (h3 : p ≤ pile.length) : (varsAt pile V p j).length = V := by
 simp [varsAt]; omega
theorem I5 {pile : List Int} {V p : Nat} (h2 : p ≤ V) : varsAt pile V p 0 = List.replicate V 0 := by
 simp only [varsAt, Nat.sub_zero, List.drop_length, Qu];rw [List.replicate_append_replicate]; congr 1; omega
theorem Kq {pile : List Int} {V p j : Nat} (h : j < p) (h3 : p ≤ pile.length) : (varsAt pile V p j).set (p - 1 - j) (lastI (pile.take (pile.length - j))) = varsAt pile V p (j + 1) := by
 have e1 : lastI (pile.take (pile.length - j)) = pile[pile.length - 1 - j]'(by omega) := by
  unfold lastI;rw [List.getLast?_eq_getElem?, Qk, List.getElem?_take_of_lt (by omega), List.getElem?_eq_getElem (by omega)];simp only [Option.getD_some]
  congr 1; omega
 have e2 : pile.drop (pile.length - (j + 1)) = pile[pile.length - 1 - j]'(by omega) :: pile.drop (pile.length - j) := by
  rw [show pile.length - (j + 1) = pile.length - 1 - j from by omega, RT (by omega)]
  congr 2; omega
 have e3 : List.replicate (p - j) (0 : Int) = List.replicate (p - (j + 1)) 0 ++ [0] := by
  rw [← List.replicate_succ']; congr 1; omega
 unfold varsAt;rw [e1, e2, e3, Qt, Qt, Qt, List.set_append_right _ _ (by simp; omega), Q5, show p - 1 - j - (p - (j + 1)) = 0 from by omega]
 simp
def topF (f : Frame) (j : Nat) : Frame := { f with pile := f.pile.take (f.pile.length - j) }
theorem L2 {f : Frame} : topF f 0 = f := by
 unfold topF; rw [Nat.sub_zero, RO]
theorem OH {f : Frame} {j : Nat} (h : j < f.pile.length) : popF (topF f j) = topF f (j + 1) := by
 unfold popF topF;simp only [Qk, List.take_take]
 congr 2; omega
def newFd (x : Image) (made fn : Int) (V : Nat) (off : Bool) : List D := [.t (T.int made), .t (T.int fn), .t (T.int 0), .nil, .sl 208 0 V, .own (T.flags (List.replicate (codeAt x fn).sites.length false)), .t (T.int 0), .t (T.int 0), .t (T.int 0), .t (T.int 1), .t (T.bool off)]
theorem Fc (bm : Nat) (x : Image) (inp : List Int) (u0 u1 : Value) (most : Int) (fs : List Frame) (trace : List Int) (used code value made : Int) (notes : List Note) (k : Nat) (f : Frame) (fn p : Int) (off : Bool) (hk : fs[k]? = some f) (hkl : k = fs.length - 1) (hfl : fs.length ≤ 1000) (hok : F8 x made fn p f) (hpp : (codeAt x fn).params = p) : Proc Tryz.prog 37 [.t (.v (.pointer (some ⟨bm, 0, none⟩))), .t (T.int fn), .t (T.bool off)] ([u0, u1]) ([T.Codes x.codes, T.ints inp]) [.obox (.pointer (some ⟨bm, 0, none⟩)) (mO u0 u1 most fs trace used code value made notes)] (.t (T.bool (!decide (most ≤ (fs.length : Int))))) [.obox (.pointer (some ⟨bm, 0, none⟩)) (mO u0 u1 most (Cu x most made fs k f fn p off) trace used (if most ≤ fs.length then 4 else code) value (if most ≤ fs.length then made else made + 1) notes)] := by
 have hlt := Bs hk
 obtain ⟨g0, g1, g2, g3, g4, g5, g6, g7, g8, g9, g10⟩ := hok
 have hca := Aa g0 g1
 have hpp' : (x.codes[fn.toNat]'(by omega)).params = p := (congrArg Code.params hca).symm.trans hpp
 obtain ⟨V, hV⟩ : ∃ V, V = (codeAt x fn).vars.toNat := ⟨_, rfl⟩
 have hnv : (newF x 0 fn [] false).vars = List.replicate V (0 : Int) := by subst hV; simp [newF]
 have hpV : p.toNat ≤ V := by omega
 refine Proc.intro tys Tryz.func37 Z Z (N := 78) [100] 99 ([(0, .t (.v (.pointer (some ⟨bm, 0, none⟩)))), (1, .t (T.int fn)), (2, .t (T.bool off))]) ([(100, .obox (.pointer (some ⟨bm, 0, none⟩)) (mO u0 u1 most fs trace used code value made notes)), (99, .ro [u0, u1] [T.Codes x.codes, T.ints inp])]) Z Z Z Z (by decide) (by decide) Z (fun w0 G F0 => ?_);refine nY Z (W_le (Le.openNew (u := 100) 1100 Z Z Z Z Z) (nY Z (W_le (Le.named (t := 0) (u := 100) 1100 Z Z) (nY Z ?_))));refine Ad (u := 100) (j := 3) 101 Z Z Z (fun v3 => ?_);refine nY Z ?_;refine Dq (id := 101) Z (by intro h; have := congrArg List.length h; rw [Qc, Qz] at this; omega) (fun bf cap hv3 hcap => ?_);rw [Qc] at hv3 hcap;subst hv3;refine nY Z (W_le (Le.nameR (u := 101) 1101 Z Z Z Z) (nY Z (sG (eZ Z (nB (sQ (sQ (AV mixed (by kernel_rfl) (evQ ?_)))))))));refine AL rfl Z (lt_of Z) Z Z Z (evQ ?_);refine evQ ?_;refine evQ ?_;refine AI Z (DD Z Z (lt_of Z) Z ⟨61, by kernel_rfl⟩ rfl (evQ ?_));refine AL rfl Z (lt_of Z) Z Z Z (evQ ?_);refine evQ ?_;refine evQ ?_;refine AI Z (Ak (tN ?_));refine AC Z (fun h1 => ?_) (fun h1 => ?_)
 ·
  simp only [HS] at h1;refine sG (eZ Z (AE rfl Z (lt_of Z) Z Z Z (eK 2 Z (sT Z (nZ Z (nA (eZ Z (nB ?_))))))))
  (refine W_le (Le.closeR (u := 101) 1101 rfl rfl) ?_; refine W_norm rfl ?_; refine W_le (Le.rowVn (id := 101) fs.length rfl (by simp)) ?_; refine W_norm rfl ?_; refine W_le (Le.claimBox (u := 100) (j := 3) (idp := 101) rfl rfl rfl rfl) ?_; refine W_norm rfl ?_)
  refine W_le (Le.close (u := 100) 1100 Z Z Z) (nY Z (rT (tR ?_)));refine eP [_] ?_ ?_
  ·rw [decide_eq_true h1]; rfl
  ·exact Pk h1
 simp only [HS] at h1;refine AD (tN (sG (eZ Z (AE rfl Z (lt_of Z) Z Z Z (eK 2 Z (No tys 99 0 Z Z (lt_of Z) Z Z Z Z (eZ Z ?_)))))));refine iY (k := ?_);refine eZ Z ?_
 try refine WO_le (Le.freeze (u := 32) rfl) ?_
 refine nZ Z (AY tys Z Z (lt_of Z) Z Z Z (nZ Z (kZ [0,1,2,6,7,32] Z (sT Z (nZ Z (nA (eZ Z ?_)))))))
 try refine WO_le (Le.freeze (u := 33) rfl) ?_
 refine nZ Z (eZ Z (AS ?_));refine ⟨_, Fd x _ fn hca (by rw [← hca]; exact g3) (by rw [← hca]; exact g4), rfl, ?_⟩;refine AY tys Z Z (lt_of Z) Z Z Z (nZ Z (sT Z (nZ Z (nA (eZ Z (AE rfl Z (lt_of Z) Z Z Z (eZ Z (kZ [0,2,6,7,8,38] Z (eK 3 Z (sT Z (nZ Z (nA (eK 2 Z (sT Z (nZ Z ?_)))))))))))))));refine nB (sQ (kY [0,6,7,8] Z (rG (eZ Z (AE rfl Z (lt_of Z) Z Z Z (eK 3 Z (evI ?_)))))));refine AE rfl Z (lt_of Z) Z Z Z (eK 2 Z (kZ [0,6,7,8,49,52] Z (sT Z (nZ Z (nB (sQ (sQ (W_le (Le.adoptBox (u := 8) (j := 4) (id := 208) Z Z Z) (nY Z (W_le (Le.eqK (id := 208) Z (k' := .L 1 ((varsAt f.pile V p.toNat 0).map T.int)) (by rw [hnv, I5 hpV])) ?_))))))))));refine nY Z (W_le (Le.eqK (id := 8) Z (k' := .box (newFd x made fn V off)) (by unfold newFd; rw [hnv, Qc, Q5]; rfl)) ?_);refine nY Z (W_le (Le.eqK (id := 101) Z (k' := .L 11 ((fs.set k (topF f 0)).map Frame.tt)) (by rw [L2, fr_same hk])) ?_);refine nY Z (rG (eK 2 Z (evI ?_)));refine eZ Z (nB (AH ?_));refine lK (α := Int × Frame × List Int) [0, 1, 2, 6, 7, 8] [99, 100, 1100, 1101, 7, 8] (fun x => [(9, .t (.int (x.1)))]) (fun x => [(101, .L 11 ((fs.set k (x.2.1)).map Frame.tt)), (208, .L 1 ((x.2.2).map T.int))]) (fun x => -1 ≤ (x.1) ∧ (x.1) ≤ p - 1 ∧ (x.2.1) = topF f (p - 1 - (x.1)).toNat ∧ (x.2.2) = varsAt f.pile V p.toNat (p - 1 - (x.1)).toNat) (fun x => Int.toNat ((x.1) + 1)) ((x.codes[fn.toNat]'(by omega)).params - 1, topF f 0, varsAt f.pile V p.toNat 0) ?_ (fun x hx => ?_)
 ·exact ⟨by omega, by omega, by rw [hpp', show (p - 1 - (p - 1)).toNat = 0 from by omega], by rw [hpp', show (p - 1 - (p - 1)).toNat = 0 from by omega]⟩
 obtain ⟨n, g, vs⟩ := x
 obtain ⟨hn0, hn1, hg, hvs⟩ := hx
 dsimp only at hn0 hn1 hg hvs ⊢;refine nY Z (sQ (sG (eK 2 Z (nB ?_))));refine AC Z (fun h2 => ?_) (fun h2 => ?_)
 ·
  simp only [HS] at h2;refine AD (tN (sQ (AH ?_)))
  have hgp : g.pile.length = f.pile.length - (p - 1 - n).toNat := by rw [hg]; show (f.pile.take _).length = _; rw [Qk]; omega
  have hvl : (vs.map T.int).length = V := by rw [Qc, hvs, GF (by omega) hpV (by omega)]
  have hkg : (fs.set k g)[k]? = some g := AU hk
  have hlg : (fs.set k g).length = fs.length := Qo ..
  refine W_le (Le.closeR (u := 101) 1101 Z Z) (nY Z (W_le (Le.close (u := 100) 1100 Z Z Z) (nY Z (BJ 5 [[100, 101], [100, 101], [100, 101], [], []] mixed Z (by kernel_rfl) (by kernel_rfl) (QH_G (QG_ev tys Z Z (lt_of Z) Z (QG_nil (QH_G (QG_ev tys Z Z (lt_of Z) Z (QG_nil (QH_G (QG_ev tys Z Z (lt_of Z) Z (QG_nil (Ab (QG_ev tys Z Z (lt_of Z) Z ?_)))))))))))))));refine QG_nil ?_;refine Dh (rid := 99) [100, 101] Z Z (lt_of Z) Z Z (by repeat (first | exact ResP.done | refine ResP.pin0 1100 Z ?_ | refine ResP.pin0 1101 Z ?_ | refine ResP.t ?_ | refine ResP.pinR 1101 Z (by first | rfl | omega) ?_ | refine ResP.nil 1 ?_ | refine ResP.nil' ?_ | refine ResP.own ?_ | refine ResP.sl Z Z (by first | omega | (simp; omega)) ?_ | refine ResP.aggT (by repeat (first | exact ResP.done | refine ResP.t ?_)) ?_)) Z (by repeat (first | exact trivial | refine ⟨rfl, rfl, ?_⟩)) (by decide) (G6 bm bf fs.length cap _ _ (fs.set k g) hlg hcap (by omega) k g hkg hkl (by omega) (by omega) _ (by rfl) (by rfl) (by rfl)) Z Z Z ?_;refine QH_nil ?_;refine ⟨by kernel_rfl, ?_⟩;refine nZ Z (AR tys Z Z (lt_of Z) Z Z Z Z Z Z Z Z (by omega) (by omega) (Al tys (T.int (lastI g.pile)) Z Z Z Z Z Z (Qv _) (by omega) Z (AbsL.v' AbsL.nil') Z Z Z (nZ Z (WO_le (Le.openR (u := 101) 1101 Z Z) (nZ Z (WO_le (Le.open (u := 100) 1100 Z Z Z Z) (nZ Z (WO_le (Le.eqK (id := 101) Z (k' := .L 11 ((fs.set k (popF g)).map Frame.tt)) (by rw [Q4])) ?_))))))));refine nZ Z (WO_le (Le.eqK (id := 208) Z (k' := .L 1 ((vs.set n.toNat (lastI g.pile)).map T.int)) (by rw [RR])) ?_);refine nZ Z (nZ Z (oN (bN (tN (rG (eZ Z (evI ?_)))))));refine eZ Z (oN ?_);refine lQ (_, _, _) ?_ ?_
  ·dsimp only
   refine ⟨by omega, by omega, ?_, ?_⟩
   ·rw [hg, OH (by omega)]; congr 1; omega
   ·have hj := Kq (pile := f.pile) (V := V) (p := p.toNat) (j := (p - 1 - n).toNat) (by omega) (by omega)
    rw [show p.toNat - 1 - (p - 1 - n).toNat = n.toNat from by omega] at hj;rw [hvs, hg, show (p - 1 - (n - 1)).toNat = (p - 1 - n).toNat + 1 from by omega];exact hj
  ·(show Int.toNat _ < Int.toNat _); omega
 simp only [HS] at h2;refine AW (tE (AN (AO (tN (sQ ?_)))))
 obtain rfl : n = -1 := by omega
 have hgc : g = cutF f p := by rw [hg]; unfold topF cutF; congr 3; omega
 have hvs2 : vs = (newF x made fn (f.pile.drop (f.pile.length - p.toNat)) off).vars := by
  rw [hvs, show (p - 1 - -1).toNat = p.toNat from by omega];show _ = f.pile.drop _ ++ List.replicate ((codeAt x fn).vars.toNat - (f.pile.drop _).length) 0;rw [RJ, ← hV, show f.pile.length - (f.pile.length - p.toNat) = p.toNat from by omega, varsAt, Nat.sub_self];rfl
 have hvl2 : vs.length = V := by rw [hvs, GF (by omega) hpV (by omega)]
 subst hgc;refine W_le (Le.gatherBox (u := 8) (j := 4) (id := 208) Z Z Z (by rw [Qc]; omega) Z) ?_;refine nY Z (W_le (Le.eqK (id := 8) Z (k' := .box ([.t (T.int made), .t (T.int fn), .t (T.int 0), .nil, .own (.list 1 ((newF x made fn (f.pile.drop (f.pile.length - p.toNat)) off).vars.map T.int)), .own (T.flags (List.replicate (codeAt x fn).sites.length false)), .t (T.int 0), .t (T.int 0), .t (T.int 0), .t (T.int 1), .t (T.bool off)])) (by rw [Qi (by rw [Qc]; omega), hvs2])) ?_);refine nY Z (W_le (Le.closeR (u := 101) 1101 Z Z) (nY Z (W_le (Le.rowVn (id := 101) fs.length Z (by simp)) ?_)));refine nY Z (W_le (Le.nilTold (u := 8) (j := 3) Z Z) (nY Z ?_));refine Ad (u := 8) (j := 4) 304 Z Z Z (fun v4 => ?_);refine nY Z ?_;refine Ad (u := 8) (j := 5) 305 Z Z Z (fun v5 => ?_);refine nY Z (BJ 9 [[101], [], [], [], [], [], [101], [101], []] mixed Z (by kernel_rfl) (by kernel_rfl) (QH_G (QG_ev tys Z Z (lt_of Z) Z (QG_nil (Ab (QG_ev tys Z Z (lt_of Z) Z (QG_nil (Ab (QG_nil' rfl Z (lt_of Z) Z Z Z (QG_nil (Ab (QG_ev tys Z Z (lt_of Z) Z (QG_nil (Ab (QG_ev tys Z Z (lt_of Z) Z ?_)))))))))))))));refine QG_nil (DV tys 101 Z Z (lt_of Z) Z Z (QH_G (F7 tys Z Z (lt_of Z) Z Z (QG_nil (QH_G ?_)))));refine Cz tys [.agg [T.int made, T.int fn, T.int 0, .v (.slice none 0 0), .v v4, .v v5, T.int 0, T.int 0, T.int 0, T.int 1, T.bool off]] Z Z (lt_of Z) Z Z Z Z Z (lt_of Z) (by repeat (first | exact PartsOk.nil' | refine PartsOk.cons' rfl (by repeat (first | exact AbsL.nil' | refine AbsL.v' ?_ | refine AbsL.own' ?_ | refine AbsL.none' ?_)) Z ?_)) Z Z Z (by decide) ?_;refine QG_nil (Ab (CJ tys Z Z (lt_of Z) Z Z Z Z Z Z Z Z Z ((fun x hx => by rw [Qw] at hx; subst hx; exact ⟨rfl, fun z hz => by simp only [T.cells, Qn, List.not_mem_nil, or_false] at hz; rcases hz with rfl | rfl | rfl | rfl | rfl | rfl | rfl | rfl | rfl | rfl | rfl <;> exact ⟨_, rfl⟩⟩)) (by simp; omega) (by decide) Z ?_));refine QG_nil (QH_nil ?_);refine ⟨by kernel_rfl, ?_⟩;refine nZ Z (AE rfl Z (lt_of Z) Z Z Z (eK 2 Z (sT Z (nZ Z (nA (eZ Z (nB ?_)))))))
 (refine W_le (Le.adoptBox (u := 100) (j := 3) (id := 310) rfl rfl rfl) ?_; refine W_norm rfl ?_; refine W_le (Le.putBack (id := 310) (idq := 304) (i := fs.length) (off := 4) (T.agg (((newF x made fn (f.pile.drop (f.pile.length - p.toNat)) off).tt.cells.set 5 (.v v5)).set 3 (.v (.slice none 0 0)))) rfl rfl (app_at (by simp)) rfl rfl rfl) ?_; refine W_norm rfl ?_; refine W_le (Le.eqK (id := 310) rfl (congrArg (Blk.L 11) (DA (by simp)))) ?_; refine W_norm rfl ?_; refine W_le (Le.putBack (id := 310) (idq := 305) (i := fs.length) (off := 5) (T.agg ((newF x made fn (f.pile.drop (f.pile.length - p.toNat)) off).tt.cells.set 3 (.v (.slice none 0 0)))) rfl rfl (app_at (by simp)) rfl rfl rfl) ?_; refine W_norm rfl ?_; refine W_le (Le.eqK (id := 310) rfl (congrArg (Blk.L 11) (DA (by simp)))) ?_; refine W_norm rfl ?_; refine W_le (Le.rawNil 306 1 rfl) ?_; refine W_norm rfl ?_; refine W_le (Le.putBack (id := 310) (idq := 306) (i := fs.length) (off := 3) (newF x made fn (f.pile.drop (f.pile.length - p.toNat)) off).tt rfl rfl (app_at (by simp)) rfl rfl rfl) ?_; refine W_norm rfl ?_; refine W_le (Le.eqK (id := 310) rfl (congrArg (Blk.L 11) (DA (by simp)))) ?_; refine W_norm rfl ?_; refine W_le (Le.gatherBox (u := 100) (j := 3) (id := 310) rfl rfl rfl (Nat.le_of_eq (by rw [Qf, Qc, Qf, Qc]; rfl)) rfl) ?_; refine W_norm rfl ?_)
 refine W_le (Le.close (u := 100) 1100 Z Z Z) (nY Z (rT ?_));refine eP [_] ?_ ?_
 ·rw [decide_eq_false (Int.not_le.2 h1)]; rfl
 ·exact NW h1 ((congrArg (T.list 11) ((Qi (Nat.le_of_eq (by rw [Qf, Qf]; rfl))).trans (NY rfl))))
open Go.Eng
def Ok (x : Image) (most : Int) (k : Nat) (f : Frame) (i : Ins) (v : Vm) : Vm := if Cc f.flags i.n = true then offV x most k f i v else setV v k (goF f)
theorem off_n {x : Image} {most : Int} {k : Nat} {f : Frame} {i : Ins} {v : Vm} (h : Cc f.flags i.n = false) : Ok x most k f i v = ⟨v.fs.set k (goF f), v.trace, v.used, v.code, v.value, v.made, v.notes⟩ := by
 rw [Ok, if_neg (by rw [h]; exact Bool.false_ne_true)]; rfl
theorem Oj {x : Image} {most : Int} {k : Nat} {f : Frame} {i : Ins} {v : Vm} (h : Cc f.flags i.n = true) (hm : most ≤ (v.fs.length : Int)) : Ok x most k f i v = ⟨v.fs, v.trace, v.used, 4, v.value, v.made, v.notes⟩ := by
 rw [Ok, if_pos h, offV, if_pos hm]
theorem off_y {x : Image} {most : Int} {k : Nat} {f : Frame} {i : Ins} {v : Vm} {n : Int} (h : Cc f.flags i.n = true) (hm : ¬ most ≤ (v.fs.length : Int)) (hn : atI (codeAt x f.fn).sites i.n = n) (hk : v.fs[k]? = some f) : Ok x most k f i v = ⟨Cu x most v.made (v.fs.set k (offF f i)) k (offF f i) n 0 true, v.trace, v.used, if most ≤ ((v.fs.set k (offF f i)).length : Int) then 4 else v.code, v.value, if most ≤ ((v.fs.set k (offF f i)).length : Int) then v.made else v.made + 1, v.notes ++ [⟨2, f.id, i.n⟩]⟩ := by
 rw [Ok, if_pos h, offV, if_neg hm]
 have hm' : ¬ most ≤ ((v.fs.set k (offF f i)).length : Int) := by rw [Qo]; exact hm
 rw [Na hm' (AU hk), if_neg hm', if_neg hm', hn]
theorem LO (bm : Nat) (x : Image) (inp : List Int) (u0 u1 : Value) (most : Int) (v : Vm) (k : Nat) (f : Frame) (i : Ins) (hk : v.fs[k]? = some f) (hkl : k = v.fs.length - 1) (hfl : v.fs.length ≤ 1000) (hnl : v.notes.length ≤ 1000000) (q0 : 0 ≤ f.fn) (q1 : f.fn < x.codes.length) (hat : 0 ≤ f.at' ∧ f.at' ≤ 1048576) (c0 : 0 ≤ i.n) (c1 : i.n < f.flags.length) (c2 : i.n < (codeAt x f.fn).sites.length) (hcl : F8 x v.made (atI (codeAt x f.fn).sites i.n) 0 f) (hsp : (codeAt x (atI (codeAt x f.fn).sites i.n)).params = 0) : Proc Tryz.prog 41 [.t (.v (.pointer (some ⟨bm, 0, none⟩))), .t (T.int i.n)] ([u0, u1]) ([T.Codes x.codes, T.ints inp]) [.obox (.pointer (some ⟨bm, 0, none⟩)) (mV u0 u1 most v)] (.tup []) [.obox (.pointer (some ⟨bm, 0, none⟩)) (mV u0 u1 most (Ok x most k f i v))] := by
 have hlt := Bs hk
 obtain ⟨hat0, hat1⟩ := hat
 have hca := Aa q0 q1
 rw [hca] at c2
 have hsn : atI (codeAt x f.fn).sites i.n = (x.codes[f.fn.toNat]'(by omega)).sites[i.n.toNat]'(by omega) := by rw [hca]; exact BV c0 c2
 have hfm : (f.flags.map T.bool).length = f.flags.length := Qc ..
 have hko : (v.fs.set k (offF f i))[k]? = some (offF f i) := AU hk
 have hcl' : F8 x v.made ((x.codes[f.fn.toNat]'(by omega)).sites[i.n.toNat]'(by omega)) 0 (offF f i) := by rw [← hsn]; exact ⟨hcl.1, hcl.2, hcl.3, hcl.4, hcl.5, hcl.6, hcl.7, hcl.8, hcl.9, hcl.10, hcl.11⟩
 rw [hsn] at hsp;refine Proc.intro tys Tryz.func41 Z Z (N := 63) [100] 99 ([(0, .t (.v (.pointer (some ⟨bm, 0, none⟩)))), (1, .t (T.int i.n))]) ([(100, .obox (.pointer (some ⟨bm, 0, none⟩)) (mV u0 u1 most v)), (99, .ro [u0, u1] [T.Codes x.codes, T.ints inp])]) Z Z Z Z (by decide) (by decide) Z (fun w0 G F0 => ?_);refine nY Z (W_le (Le.openNew (u := 100) 1100 Z Z Z Z Z) (nY Z (W_le (Le.named (t := 0) (u := 100) 1100 Z Z) (nY Z ?_))));refine Ad (u := 100) (j := 3) 101 Z Z Z (fun v3 => ?_);refine nY Z ?_;refine Dq (id := 101) Z (by intro h; have := congrArg List.length h; rw [Qc, Qz] at this; omega) (fun bf cap hv3 hcap => ?_);rw [Qc] at hv3 hcap;subst hv3;refine nY Z (W_le (Le.nameR (u := 101) 1101 Z Z Z Z) (nY Z (B1 (sG (eZ Z ?_)))));refine AQ (rid := 99) [100] 1101 (k) Z Z (lt_of Z) Z Z (by repeat (first | exact ResP.done | refine ResP.t ?_ | refine ResP.pin0 1100 Z ?_ | refine ResP.pinR 1100 Z (by first | rfl | omega) ?_ | refine ResP.nil 1 ?_ | refine ResP.nil' ?_ | refine ResP.own ?_ | refine ResP.sl Z Z (by first | omega | (simp; omega)) ?_)) Z (by repeat (first | exact trivial | refine ⟨OpenAs.same Z rfl, ?_⟩ | refine ⟨OpenAs.box 1100 Z Z Z Z rfl, ?_⟩ | refine ⟨OpenAs.row 1100 Z Z rfl, ?_⟩)) (by decide) (Az bm bf v.fs.length cap _ _ (by omega) hcap (by omega) _ (by rfl) (by rfl) (by rfl)) Z Z (by first | rfl | omega) ?_;refine eZ Z (nB (sQ (sQ ?_)));refine Bg (id := 101) (i := k) (off := 5) (z := f.tt) 202 1202 335 Z As (AM hk) Z (by intro h; have := congrArg List.length h; rw [Qc, Qz] at this; omega) Z Z Z Z Z Z (fun b2 cap2 hcap2 => ?_);refine nY Z ?_
 have hz := List.getElem?_set_self (a := (T.agg (f.tt.cells.set 5 (.v (.slice (some ⟨b2, 0, none⟩) (f.flags.map T.bool).length cap2))))) (Bu hk)
 refine rG (eZ Z (AE rfl Z (lt_of Z) Z Z Z (eZ Z (AG tys Z Z (lt_of Z) Z Z Z Z hz Z (WO_le (Le.namedS (t := 10) (id := 202) 1202 Z Z hcap2) (nZ Z (eZ Z (AR tys Z Z (lt_of Z) Z Z Z Z Z Z Z Z (by omega) (by omega) (kZ [0,1,4,12] Z (AG tys Z Z (lt_of Z) Z Z Z Z (BN _ _ (by omega) (by omega)) Z (eZ Z (nB ?_))))))))))));refine AC Z (fun h1 => ?_) (fun h1 => ?_)
 ·
  simp only [HS] at h1;refine sQ (W_le (Le.claimL (id := 101) (id2 := 202) (pid := 1202) (i := k) (off := 5) Z Z Z hz Z (by rfl) Z) ?_);refine nY Z (W_le (Le.eqK (id := 101) Z (congrArg (Blk.L 11) (En hk Z))) (nY Z (rG (eZ Z (AE rfl Z (lt_of Z) Z Z Z (eZ Z (AG tys Z Z (lt_of Z) Z Z Z Z (AM hk) Z (evI ?_))))))));refine AE rfl Z (lt_of Z) Z Z Z (eZ Z (kZ [0,1,4,19,21] Z (AJ tys _ Z Z Z Z Z Z (AM hk) Z (AbsL.v' AbsL.nil') Z (by decide) (Qe Z) (nZ Z (WO_le (Le.eqK (id := 101) Z (congrArg (Blk.L 11) (Av (k := k) (f := goF f)))) (nZ Z (nZ Z (nB (rT (tR ?_))))))))))
  (refine AA (Le.closeR (u := 101) 1101 rfl rfl) ?_; refine AB rfl ?_; refine AA (Le.rowVn (id := 101) v.fs.length rfl (by simp)) ?_; refine AB rfl ?_; refine AA (Le.claimBox (u := 100) (j := 3) (idp := 101) rfl rfl rfl rfl) ?_; refine AB rfl ?_)
  refine AA (Le.close (u := 100) 1100 Z Z Z) (AB Z (AF ?_));refine eP [_] ?_ ?_
  ·rfl
  ·first
   | (have e : Cc f.flags i.n = false := Er c0 c1 (by assumption); exact (congrArg (fun q => [Blk.obox (.pointer (some ⟨bm, 0, none⟩)) (mV u0 u1 most q)]) (off_n e)).symm)
 simp only [HS] at h1;refine AD (tN (sQ (sQ (AV mixed (by kernel_rfl) (evQ ?_)))));refine AL rfl Z (lt_of Z) Z Z Z (evQ ?_);refine evQ ?_;refine AI Z (evQ ?_);refine DD Z Z (lt_of Z) Z ⟨61, by kernel_rfl⟩ rfl (evQ ?_);refine AL rfl Z (lt_of Z) Z Z Z (evQ ?_);refine evQ ?_;refine AI Z (evQ ?_);refine Ak (tN ?_);refine AC Z (fun h2 => ?_) (fun h2 => ?_)
 ·
  simp only [HS] at h2;refine sQ (W_le (Le.claimL (id := 101) (id2 := 202) (pid := 1202) (i := k) (off := 5) Z Z Z hz Z (by rfl) Z) ?_);refine nY Z (W_le (Le.eqK (id := 101) Z (congrArg (Blk.L 11) (En hk Z))) (nY Z (rG (eZ Z (AE rfl Z (lt_of Z) Z Z Z (eK 2 Z (sT Z (nZ Z (nB (rT (tR ?_)))))))))))
  (refine AA (Le.closeR (u := 101) 1101 rfl rfl) ?_; refine AB rfl ?_; refine AA (Le.rowVn (id := 101) v.fs.length rfl (by simp)) ?_; refine AB rfl ?_; refine AA (Le.claimBox (u := 100) (j := 3) (idp := 101) rfl rfl rfl rfl) ?_; refine AB rfl ?_)
  refine AA (Le.close (u := 100) 1100 Z Z Z) (AB Z (AF ?_));refine eP [_] ?_ ?_
  ·rfl
  ·first
   | (have e : Cc f.flags i.n = true := Er c0 c1 (by assumption); have hm : most ≤ (v.fs.length : Int) := (by assumption); exact (congrArg (fun q => [Blk.obox (.pointer (some ⟨bm, 0, none⟩)) (mV u0 u1 most q)]) (Oj e hm)).symm)
 simp only [HS] at h2;refine AD (tN (sG (eZ Z (AE rfl Z (lt_of Z) Z Z Z (eZ Z (AG tys Z Z (lt_of Z) Z Z Z Z hz Z (WO_le (Le.namedS (t := 40) (id := 202) 1202 Z Z hcap2) (nZ Z (eZ Z (AR tys Z Z (lt_of Z) Z Z Z Z Z Z Z Z (by omega) (by omega) (Al tys (T.bool false) Z Z Z Z Z Z (Qv _) (by omega) Z (AbsL.v' AbsL.nil') Z Z Z (nZ Z (WO_le (Le.claimL (id := 101) (id2 := 202) (pid := 1202) (i := k) (off := 5) Z Z Z hz Z (by rw [Qo]) Z) ?_)))))))))))));refine nZ Z (WO_le (Le.eqK (id := 101) Z (congrArg (Blk.L 11) (Kc (fs := v.fs) (k := k) (f := f) (i := i)))) (nZ Z (nZ Z (nB (sQ (kY [0,1,4] Z (rG (eK 2 Z (WO_le (Le.close (u := 100) 1100 Z Z Z) (nZ Z (WO_le (Le.closeR (u := 101) 1101 Z Z) (nZ Z ?_))))))))))));refine AK (rid := 99) [100, 101] Z Z (lt_of Z) Z Z (by repeat (first | exact ResP.done | refine ResP.pin0 1100 Z ?_ | refine ResP.pin0 1101 Z ?_ | refine ResP.t ?_ | refine ResP.pinR 1101 Z (by first | rfl | omega) ?_ | refine ResP.nil 1 ?_ | refine ResP.nil' ?_ | refine ResP.own ?_ | refine ResP.sl Z Z (by first | omega | (simp; omega)) ?_ | refine ResP.aggT (by repeat (first | exact ResP.done | refine ResP.t ?_)) ?_)) Z (by repeat (first | exact trivial | refine ⟨rfl, rfl, ?_⟩)) (by decide) (FY bm x inp u0 u1 most bf cap (v.fs.set k (offF f i)) v.fs.length (by simp) v.trace v.used v.code v.value v.made v.notes hcap (by omega) k (offF f i) 2 i.n hko hkl hnl) Z Z Z ?_;refine nZ Z (WO_le (Le.open (u := 100) 1100 Z Z Z Z) (nZ Z (WO_le (Le.openR (u := 101) 1101 Z Z) (nZ Z (nB (A4 16 mixed Z (by kernel_rfl) (by kernel_rfl) (evQ ?_)))))));refine evQ ?_;refine AL rfl Z (lt_of Z) Z Z Z (AI Z (evQ ?_));refine evQ ?_;refine A7 tys 99 0 Z Z (lt_of Z) Z Z Z Z (evQ ?_);refine AL rfl Z (lt_of Z) Z Z Z (evQ ?_);refine AI Z (Ae (d := .t (T.int f.fn)) tys Z Z (lt_of Z) Z Z Z Z (AM hko) Z (Ai tys Z Z (lt_of Z) Z Z Z Z Z Z Z (by omega) _ (BT _ _ (by omega) (by omega)) (evQ ?_)));refine evQ ?_;refine evQ ?_;refine Ai tys Z Z (lt_of Z) Z Z Z Z Z Z Z (by omega) _ (BT _ _ (by omega) (by omega)) (AI Z (evQ ?_));refine Ak (WO_le (Le.closeR (u := 101) 1101 Z Z) (nZ Z (WO_le (Le.rowVn (id := 101) v.fs.length Z (by simp)) ?_)));refine nZ Z (WO_le (Le.claimBox (u := 100) (j := 3) (idp := 101) Z Z Z Z) (nZ Z (WO_le (Le.close (u := 100) 1100 Z Z Z) (nZ Z ?_))));refine cP [100] (hm := (Fc bm x inp u0 u1 most (v.fs.set k (offF f i)) v.trace v.used v.code v.value v.made (v.notes ++ [⟨2, f.id, i.n⟩]) k (offF f i) _ 0 true hko (by rw [Qo]; exact hkl) (by rw [Qo]; exact hfl) hcl' hsp)) (k := ?_);refine nZ Z (WO_le (Le.open (u := 100) 1100 Z Z Z Z) (nZ Z (oN ?_)))
 skip
 refine AA (Le.close (u := 100) 1100 Z Z Z) (AB Z (AF ?_));refine eP [_] ?_ ?_
 ·rfl
 ·first
  | (have e : Cc f.flags i.n = true := Er c0 c1 (by assumption); have hm : ¬ most ≤ (v.fs.length : Int) := (by omega); exact (congrArg (fun q => [Blk.obox (.pointer (some ⟨bm, 0, none⟩)) (mV u0 u1 most q)]) (off_y e hm hsn hk)).symm)
def Nx (x : Image) : Prop := ∀ fn : Int, 0 ≤ fn → fn < x.codes.length → ∀ n : Int, 0 ≤ n → n < (codeAt x fn).sites.length → (codeAt x (atI (codeAt x fn).sites n)).params = 0
theorem Pe {i : Ins} (h : plB i = true) : Oz i := by
 have := of_decide_eq_true h
 exact ⟨by omega, by omega, by omega, by omega, by omega, by omega, by omega, by omega, by omega⟩
theorem OM {x : Image} {inp : List Int} {most : Int} {k : Nat} {f : Frame} {i : Ins} {v : Vm} (h : plB i = true) : A9 x inp most k f i v = ⟨C4 inp v.used i k f v.fs, plainTr i f v.trace, plainUs inp i v.used, v.code, v.value, v.made, plainNo i f v.notes⟩ := by
 obtain ⟨h1, h2, h3, h4, h5, h6, h7, h8, h9⟩ := Pe h
 simp only [A9, if_neg h1, if_neg h2, if_neg h3, if_neg h4, if_neg h5, if_neg h6, if_neg h7, if_neg h8, if_neg h9, Ma, C4, if_pos h]
theorem BU {inp : List Int} {used : Int} {i : Ins} {k : Nat} {f : Frame} {fs : List Frame} : (C4 inp used i k f fs).length = fs.length := by
 unfold C4 goAt;split
 ·split <;> simp [Aw]
 ·rfl
theorem Ps {x : Image} {inp : List Int} {most : Int} {k : Nat} {f : Frame} {i : Ins} {v : Vm} (h : i.op = 4) : A9 x inp most k f i v = ⟨v.fs.set k (reckF x i f), v.trace, v.used, v.code, v.value, v.made, v.notes⟩ := by
 unfold reckF
 by_cases h0 : (A8 i.n (secI f.pile) (lastI f.pile)).isSome = true
 ·simp [A9, setV, h, h0]
 ·simp only [A9, setV, h, if_neg h0]; simp
theorem OQ {x : Image} {inp : List Int} {most : Int} {k : Nat} {f : Frame} {i : Ins} {v : Vm} (h : i.op = 11) (h0 : ¬ lastI f.pile = 0) : A9 x inp most k f i v = ⟨(v.fs.set k (goF f)).set k (popF (goF f)), v.trace, v.used, v.code, v.value, v.made, v.notes⟩ := by
 rw [Gs h h0, Q4, Q4]; rfl
theorem OP {x : Image} {inp : List Int} {most : Int} {k : Nat} {f : Frame} {i : Ins} {v : Vm} (h : i.op = 11) (h0 : lastI f.pile = 0) : A9 x inp most k f i v = ⟨((v.fs.set k (goF f)).set k (popF (goF f))).set k { popF (goF f) with at' := i.n }, v.trace, v.used, v.code, v.value, v.made, v.notes⟩ := by
 rw [Gt h h0, Q4, Q4, Q4]; rfl
theorem OO {x : Image} {inp : List Int} {most : Int} {k : Nat} {f : Frame} {i : Ins} {v : Vm} (h : i.op = 17) : A9 x inp most k f i v = Ok x most k f i v := by
 simp [A9, h, Ok]
theorem JV (bm : Nat) (x : Image) (inp : List Int) (u0 u1 : Value) (most : Int) (v : Vm) (k : Nat) (f : Frame) (i : Ins) (hi : Ac (codeAt x f.fn) f.at' = i) (hk : v.fs[k]? = some f) (hkl : k = v.fs.length - 1) (hfl : v.fs.length ≤ 1000) (hok : Iz x inp v k f i) (hop : 1 ≤ i.op ∧ i.op ≤ 18) (hrw : Ny x) (hst : Nx x) (hv0 : v.value = 0) : Proc Tryz.prog 21 [.t (.v (.pointer (some ⟨bm, 0, none⟩)))] ([u0, u1]) ([T.Codes x.codes, T.ints inp]) [.obox (.pointer (some ⟨bm, 0, none⟩)) (mV u0 u1 most v)] (.tup []) [.obox (.pointer (some ⟨bm, 0, none⟩)) (mV u0 u1 most (A9 x inp most k f i v))] := by
 have hlt := Bs hk
 obtain ⟨a0, a1, a2, a3, a4, a5, a6, a7, a8, a9, a10, a11, a12, a13, a14, a15, a16, a17⟩ := hok
 have hca := Aa a0 a1
 have hrr := hrw f.fn a0 a1
 obtain ⟨hop1, hop2⟩ := hop
 rw [hca] at a4 a5
 have hi' : x.codes[f.fn.toNat].ins[f.at'.toNat] = i := by rw [← hi, hca, BK a3 a4]
 refine Proc.intro tys Tryz.func21 Z Z (N := 93) [100] 99 ([(0, .t (.v (.pointer (some ⟨bm, 0, none⟩))))]) ([(100, .obox (.pointer (some ⟨bm, 0, none⟩)) (mV u0 u1 most v)), (99, .ro [u0, u1] [T.Codes x.codes, T.ints inp])]) Z Z Z Z (by decide) (by decide) Z (fun w0 G F0 => ?_);refine nY Z (W_le (Le.openNew (u := 100) 1100 Z Z Z Z Z) (nY Z (W_le (Le.named (t := 0) (u := 100) 1100 Z Z) (nY Z ?_))));refine Ad (u := 100) (j := 3) 101 Z Z Z (fun v3 => ?_);refine nY Z ?_;refine Dq (id := 101) Z (by intro h; have := congrArg List.length h; rw [Qc, Qz] at this; omega) (fun bf cap hv3 hcap => ?_);rw [Qc] at hv3 hcap;subst hv3;refine nY Z (W_le (Le.nameR (u := 101) 1101 Z Z Z Z) (nY Z (B1 (sG (eZ Z ?_)))));refine AQ (rid := 99) [100] 1101 (k) Z Z (lt_of Z) Z Z (by repeat (first | exact ResP.done | refine ResP.t ?_ | refine ResP.pin0 1100 Z ?_ | refine ResP.pinR 1100 Z (by first | rfl | omega) ?_ | refine ResP.nil 1 ?_ | refine ResP.nil' ?_ | refine ResP.own ?_ | refine ResP.sl Z Z (by first | omega | (simp; omega)) ?_)) Z (by repeat (first | exact trivial | refine ⟨OpenAs.same Z rfl, ?_⟩ | refine ⟨OpenAs.box 1100 Z Z Z Z rfl, ?_⟩ | refine ⟨OpenAs.row 1100 Z Z rfl, ?_⟩)) (by decide) (Az bm bf v.fs.length cap _ _ (by omega) hcap (by omega) _ (by rfl) (by rfl) (by rfl)) Z Z (by first | rfl | omega) ?_;refine eZ Z (nB (sQ (B0 19 mixed Z (by kernel_rfl) (by kernel_rfl) (QG_ev tys Z Z (lt_of Z) Z (QG_nil' rfl Z (lt_of Z) Z Z Z (QG_ev tys Z Z (lt_of Z) Z (BX Z (QG_ev tys Z Z (lt_of Z) Z (F3 tys 99 0 Z Z (lt_of Z) Z Z Z Z (QG_ev tys Z Z (lt_of Z) Z (QG_nil' rfl Z (lt_of Z) Z Z Z (QG_ev tys Z Z (lt_of Z) Z (DE tys Z Z (lt_of Z) Z Z Z Z (AM hk) Z (BX Z (F6 tys Z Z (lt_of Z) Z Z Z Z Z Z Z (by omega) _ (BT _ _ (by omega) (by omega)) ?_)))))))))))))));refine QG_ev tys Z Z (lt_of Z) Z (QG_ev tys Z Z (lt_of Z) Z (QG_ev tys Z Z (lt_of Z) Z (QG_nil' rfl Z (lt_of Z) Z Z Z (QG_ev tys Z Z (lt_of Z) Z (BX Z (DE tys Z Z (lt_of Z) Z Z Z Z (AM hk) Z (F6 tys Z Z (lt_of Z) Z Z Z Z Z Z Z (by omega) _ (BT _ _ (by omega) (by omega)) (QG_ev tys Z Z (lt_of Z) Z (Di tys Z Z (lt_of Z) Z Z Z Z (QG_nil ?_))))))))));refine ⟨by kernel_rfl, ?_⟩;refine nZ Z (sT Z (nZ Z (nB (sQ (sQ (W_le (Le.eqK (id := 3) Z (k' := .box [.t (T.int i.op), .t (T.int i.n)]) (by rw [hi'])) ?_))))));refine nY Z (rG (eK 2 Z ?_))
 try refine WO_le (Le.freeze (u := 25) rfl) ?_
 refine nZ Z (WO_le (Le.close (u := 100) 1100 Z Z Z) (nZ Z (WO_le (Le.closeR (u := 101) 1101 Z Z) (nZ Z ?_))));refine AK (rid := 99) [100, 101] Z Z (lt_of Z) Z Z (by repeat (first | exact ResP.done | refine ResP.pin0 1100 Z ?_ | refine ResP.pin0 1101 Z ?_ | refine ResP.t ?_ | refine ResP.pinR 1101 Z (by first | rfl | omega) ?_ | refine ResP.nil 1 ?_ | refine ResP.nil' ?_ | refine ResP.own ?_ | refine ResP.sl Z Z (by first | omega | (simp; omega)) ?_ | refine ResP.aggT (by repeat (first | exact ResP.done | refine ResP.t ?_)) ?_)) Z (by repeat (first | exact trivial | refine ⟨rfl, rfl, ?_⟩)) (by decide) (IV bm x inp u0 u1 most bf cap v.fs v.fs.length Z v.trace v.used v.code v.value v.made v.notes hcap (by omega) k f i hk hkl a16 a17 ⟨a3, by omega⟩ (fun h => a14 (Pe h))) Z Z Z ?_;refine nZ Z (WO_le (Le.open (u := 100) 1100 Z Z Z Z) (nZ Z (WO_le (Le.openR (u := 101) 1101 Z Z) (nZ Z (nB ?_)))));refine AC Z (fun h1 => ?_) (fun h1 => ?_)
 ·
  refine rT (tR ?_)
  (refine AA (Le.closeR (u := 101) 1101 rfl rfl) ?_; refine AB rfl ?_; refine AA (Le.rowVn (id := 101) v.fs.length rfl (by simp [BU])) ?_; refine AB rfl ?_; refine AA (Le.claimBox (u := 100) (j := 3) (idp := 101) rfl rfl rfl rfl) ?_; refine AB rfl ?_)
  refine AA (Le.close (u := 100) 1100 Z Z Z) (AB Z (AF ?_));refine eP [_] ?_ ?_
  ·rfl
  ·first
   | exact (congrArg (fun q => [Blk.obox (.pointer (some ⟨bm, 0, none⟩)) (mV u0 u1 most q)]) (OM (by assumption))).symm
 refine AD (tN (sQ ?_))
 have hnp : ¬ plB i = true := by simp_all
 have hno := fun h => hnp (decide_eq_true h)
 refine W_le (Le.eqK (id := 101) Z (k' := .L 11 (v.fs.map Frame.tt)) (by rw [C4, if_neg hnp])) ?_;refine nY Z (W_le (Le.eqK (id := 100) Z (k' := .box (mC u0 u1 most (Aq bf v.fs.length cap) v.trace v.used v.code v.value v.made v.notes)) (by rw [show plainTr i f v.trace = v.trace from if_neg (fun h => hno (by omega)), show plainUs inp i v.used = v.used from if_neg (fun h => hno (by omega)), show plainNo i f v.notes = v.notes from if_neg (fun h => hno (by omega))])) ?_);refine nY Z (rG (eK 2 Z (nB (AH (sG (eK 2 Z (nB ?_)))))));refine AC Z (fun h2 => ?_) (fun h2 => ?_)
 ·
  simp only [HS] at h2;refine kY [0,3] Z (rG (eK 3 Z (WO_le (Le.close (u := 100) 1100 Z Z Z) (nZ Z (WO_le (Le.closeR (u := 101) 1101 Z Z) (nZ Z ?_))))));refine AK (rid := 99) [100, 101] Z Z (lt_of Z) Z Z (by repeat (first | exact ResP.done | refine ResP.pin0 1100 Z ?_ | refine ResP.pin0 1101 Z ?_ | refine ResP.t ?_ | refine ResP.pinR 1101 Z (by first | rfl | omega) ?_ | refine ResP.nil 1 ?_ | refine ResP.nil' ?_ | refine ResP.own ?_ | refine ResP.sl Z Z (by first | omega | (simp; omega)) ?_ | refine ResP.aggT (by repeat (first | exact ResP.done | refine ResP.t ?_)) ?_)) Z (by repeat (first | exact trivial | refine ⟨rfl, rfl, ?_⟩)) (by decide) (JW bm x inp u0 u1 most bf cap v.fs v.fs.length Z v.trace v.used v.code v.value v.made v.notes hcap (by omega) k f i hk hkl ⟨a10 (by omega), a8⟩ ⟨a3, by omega⟩ a0 a1 a2 a6 (a7 (by omega)) hrr) Z Z Z ?_;refine nZ Z (WO_le (Le.open (u := 100) 1100 Z Z Z Z) (nZ Z (WO_le (Le.openR (u := 101) 1101 Z Z) (nZ Z (oN (bN ?_))))))
  (refine AA (Le.closeR (u := 101) 1101 rfl rfl) ?_; refine AB rfl ?_; refine AA (Le.rowVn (id := 101) v.fs.length rfl (by simp [BU])) ?_; refine AB rfl ?_; refine AA (Le.claimBox (u := 100) (j := 3) (idp := 101) rfl rfl rfl rfl) ?_; refine AB rfl ?_)
  refine AA (Le.close (u := 100) 1100 Z Z Z) (AB Z (AF ?_));refine eP [_] ?_ ?_
  ·rfl
  ·first
   | exact (congrArg (fun q => [Blk.obox (.pointer (some ⟨bm, 0, none⟩)) (mV u0 u1 most q)]) (Ps (by assumption))).symm
 simp only [HS] at h2;refine sQ (kY [0,2,3,28] Z (rG (eK 2 Z (nB ?_))));refine AC Z (fun h3 => ?_) (fun h3 => ?_)
 ·
  simp only [HS] at h3
  have hcl := a11 (by omega)
  refine W_le (Le.closeR (u := 101) 1101 Z Z) (nY Z (W_le (Le.rowVn (id := 101) v.fs.length Z (by simp)) ?_));refine nY Z (W_le (Le.claimBox (u := 100) (j := 3) (idp := 101) Z Z Z Z) (nY Z (rG (eK 3 Z (WO_le (Le.close (u := 100) 1100 Z Z Z) (nZ Z ?_))))));refine cP [100] (hm := (Fc bm x inp u0 u1 most v.fs v.trace v.used v.code v.value v.made v.notes k f i.n _ false hk hkl hfl hcl Z)) (k := ?_);refine nZ Z (WO_le (Le.open (u := 100) 1100 Z Z Z Z) (nZ Z (oN (bN ?_))))
  skip
  refine AA (Le.close (u := 100) 1100 Z Z Z) (AB Z (AF ?_));refine eP [_] ?_ ?_
  ·rfl
  ·first
   | exact (congrArg (fun q => [Blk.obox (.pointer (some ⟨bm, 0, none⟩)) (mV u0 u1 most q)]) (J1 (by assumption) rfl)).symm
 simp only [HS] at h3;refine sG (eK 2 Z (nB ?_));refine AC Z (fun h4 => ?_) (fun h4 => ?_)
 ·
  simp only [HS] at h4;refine rG (eK 3 Z (AE rfl Z (lt_of Z) Z Z Z (eZ Z (kZ [47,49] Z (AJ tys _ Z Z Z Z Z Z (AM hk) Z (AbsL.v' AbsL.nil') Z (by decide) (Qe Z) (nZ Z (WO_le (Le.eqK (id := 101) Z (congrArg (Blk.L 11) (Av (k := k) (f := { f with at' := i.n })))) (nZ Z (nZ Z (oN (bN ?_)))))))))))
  (refine AA (Le.closeR (u := 101) 1101 rfl rfl) ?_; refine AB rfl ?_; refine AA (Le.rowVn (id := 101) v.fs.length rfl (by simp [BU])) ?_; refine AB rfl ?_; refine AA (Le.claimBox (u := 100) (j := 3) (idp := 101) rfl rfl rfl rfl) ?_; refine AB rfl ?_)
  refine AA (Le.close (u := 100) 1100 Z Z Z) (AB Z (AF ?_));refine eP [_] ?_ ?_
  ·rfl
  ·first
   | exact (congrArg (fun q => [Blk.obox (.pointer (some ⟨bm, 0, none⟩)) (mV u0 u1 most q)]) (JK (by assumption))).symm
 simp only [HS] at h4;refine sG (eK 2 Z (nB ?_));refine AC Z (fun h5 => ?_) (fun h5 => ?_)
 ·
  simp only [HS] at h5;refine sQ ?_
  have hp1 := a9 (by omega)
  have hk1 : (v.fs.set k (goF f))[k]? = some (goF f) := AU hk
  have hk2 : ((v.fs.set k (goF f)).set k (popF (goF f)))[k]? = some (popF (goF f)) := AU hk1
  refine rG (eZ Z (AE rfl Z (lt_of Z) Z Z Z (eZ Z (kZ [0,2,3,52,54] Z (AG tys Z Z (lt_of Z) Z Z Z Z (AM hk) Z (evI ?_))))));refine AE rfl Z (lt_of Z) Z Z Z (eZ Z (AJ tys _ Z Z Z Z Z Z (AM hk) Z (AbsL.v' AbsL.nil') Z (by decide) (Qe Z) (nZ Z (WO_le (Le.eqK (id := 101) Z (congrArg (Blk.L 11) (Av (k := k) (f := goF f)))) (nZ Z (nZ Z (nA (eZ Z (WO_le (Le.close (u := 100) 1100 Z Z Z) (nZ Z (WO_le (Le.closeR (u := 101) 1101 Z Z) (nZ Z ?_))))))))))));refine AK (rid := 99) [100, 101] Z Z (lt_of Z) Z Z (by repeat (first | exact ResP.done | refine ResP.pin0 1100 Z ?_ | refine ResP.pin0 1101 Z ?_ | refine ResP.t ?_ | refine ResP.pinR 1101 Z (by first | rfl | omega) ?_ | refine ResP.nil 1 ?_ | refine ResP.nil' ?_ | refine ResP.own ?_ | refine ResP.sl Z Z (by first | omega | (simp; omega)) ?_ | refine ResP.aggT (by repeat (first | exact ResP.done | refine ResP.t ?_)) ?_)) Z (by repeat (first | exact trivial | refine ⟨rfl, rfl, ?_⟩)) (by decide) (DZ bm x inp u0 u1 most bf cap (v.fs.set k (goF f)) v.fs.length (by simp) v.trace v.used v.code v.value v.made v.notes hcap (by omega) k (goF f) hk1 hkl (by show f.pile.length ≤ 1000; omega) hp1) Z Z Z ?_;refine nZ Z (WO_le (Le.open (u := 100) 1100 Z Z Z Z) (nZ Z (WO_le (Le.openR (u := 101) 1101 Z Z) (nZ Z (eZ Z (nB ?_))))));refine AC Z (fun h6 => ?_) (fun h6 => ?_)
  ·
   simp only [HS] at h6;refine kY [2,3] Z (rG (eK 3 Z (AE rfl Z (lt_of Z) Z Z Z (eZ Z (AJ tys _ Z Z Z Z Z Z (AM hk2) Z (AbsL.v' AbsL.nil') Z (by decide) (Qe Z) (nZ Z (WO_le (Le.eqK (id := 101) Z (congrArg (Blk.L 11) (Av (k := k) (f := { popF (goF f) with at' := i.n })))) (nZ Z (nZ Z (oN (bN ?_)))))))))))
   (refine AA (Le.closeR (u := 101) 1101 rfl rfl) ?_; refine AB rfl ?_; refine AA (Le.rowVn (id := 101) v.fs.length rfl (by simp [BU])) ?_; refine AB rfl ?_; refine AA (Le.claimBox (u := 100) (j := 3) (idp := 101) rfl rfl rfl rfl) ?_; refine AB rfl ?_)
   refine AA (Le.close (u := 100) 1100 Z Z Z) (AB Z (AF ?_));refine eP [_] ?_ ?_
   ·rfl
   ·first
    | exact (congrArg (fun q => [Blk.obox (.pointer (some ⟨bm, 0, none⟩)) (mV u0 u1 most q)]) (OP (by assumption) (by assumption))).symm
  simp only [HS] at h6;refine AD (bN ?_)
  (refine AA (Le.closeR (u := 101) 1101 rfl rfl) ?_; refine AB rfl ?_; refine AA (Le.rowVn (id := 101) v.fs.length rfl (by simp [BU])) ?_; refine AB rfl ?_; refine AA (Le.claimBox (u := 100) (j := 3) (idp := 101) rfl rfl rfl rfl) ?_; refine AB rfl ?_)
  refine AA (Le.close (u := 100) 1100 Z Z Z) (AB Z (AF ?_));refine eP [_] ?_ ?_
  ·rfl
  ·first
   | exact (congrArg (fun q => [Blk.obox (.pointer (some ⟨bm, 0, none⟩)) (mV u0 u1 most q)]) (OQ (by assumption) (by assumption))).symm
 simp only [HS] at h5;refine sG (eK 2 Z (nB ?_));refine AC Z (fun h6 => ?_) (fun h6 => ?_)
 ·
  simp only [HS] at h6
  have hp1 := a9 (by omega)
  have hg1 : (v.fs.set k (popF f))[k]? = some (popF f) := AU hk
  refine kY [0] Z (rG (eK 2 Z (WO_le (Le.close (u := 100) 1100 Z Z Z) (nZ Z (WO_le (Le.closeR (u := 101) 1101 Z Z) (nZ Z ?_))))));refine AK (rid := 99) [100, 101] Z Z (lt_of Z) Z Z (by repeat (first | exact ResP.done | refine ResP.pin0 1100 Z ?_ | refine ResP.pin0 1101 Z ?_ | refine ResP.t ?_ | refine ResP.pinR 1101 Z (by first | rfl | omega) ?_ | refine ResP.nil 1 ?_ | refine ResP.nil' ?_ | refine ResP.own ?_ | refine ResP.sl Z Z (by first | omega | (simp; omega)) ?_ | refine ResP.aggT (by repeat (first | exact ResP.done | refine ResP.t ?_)) ?_)) Z (by repeat (first | exact trivial | refine ⟨rfl, rfl, ?_⟩)) (by decide) (DZ bm x inp u0 u1 most bf cap v.fs v.fs.length Z v.trace v.used v.code v.value v.made v.notes hcap (by omega) k f hk hkl (by omega) hp1) Z Z Z ?_;refine nZ Z (WO_le (Le.open (u := 100) 1100 Z Z Z Z) (nZ Z (WO_le (Le.openR (u := 101) 1101 Z Z) (nZ Z (WO_le (Le.close (u := 100) 1100 Z Z Z) (nZ Z (WO_le (Le.closeR (u := 101) 1101 Z Z) (nZ Z ?_))))))));refine AK (rid := 99) [100, 101] Z Z (lt_of Z) Z Z (by repeat (first | exact ResP.done | refine ResP.pin0 1100 Z ?_ | refine ResP.pin0 1101 Z ?_ | refine ResP.t ?_ | refine ResP.pinR 1101 Z (by first | rfl | omega) ?_ | refine ResP.nil 1 ?_ | refine ResP.nil' ?_ | refine ResP.own ?_ | refine ResP.sl Z Z (by first | omega | (simp; omega)) ?_ | refine ResP.aggT (by repeat (first | exact ResP.done | refine ResP.t ?_)) ?_)) Z (by repeat (first | exact trivial | refine ⟨rfl, rfl, ?_⟩)) (by decide) (BH bm x inp u0 u1 most bf cap (v.fs.set k (popF f)) v.fs.length (by simp) v.trace v.used v.code v.value v.made v.notes hcap (by omega) k (popF f) 2 (lastI f.pile) hg1 hkl a0 a1 a2 a6 (a7 (by omega)) hrr) Z Z Z ?_;refine nZ Z (WO_le (Le.open (u := 100) 1100 Z Z Z Z) (nZ Z (WO_le (Le.openR (u := 101) 1101 Z Z) (nZ Z (oN (bN ?_))))))
  (refine AA (Le.closeR (u := 101) 1101 rfl rfl) ?_; refine AB rfl ?_; refine AA (Le.rowVn (id := 101) v.fs.length rfl (by simp [BU])) ?_; refine AB rfl ?_; refine AA (Le.claimBox (u := 100) (j := 3) (idp := 101) rfl rfl rfl rfl) ?_; refine AB rfl ?_)
  refine AA (Le.close (u := 100) 1100 Z Z Z) (AB Z (AF ?_));refine eP [_] ?_ ?_
  ·rfl
  ·first
   | exact (congrArg (fun q => [Blk.obox (.pointer (some ⟨bm, 0, none⟩)) (mV u0 u1 most q)]) (JJ (by assumption))).symm
 simp only [HS] at h6;refine sQ (kY [0,2,3,28] Z (rG (eK 2 Z (nB ?_))));refine AC Z (fun h7 => ?_) (fun h7 => ?_)
 ·
  simp only [HS] at h7;refine rG (eZ Z (WO_le (Le.close (u := 100) 1100 Z Z Z) (nZ Z (WO_le (Le.closeR (u := 101) 1101 Z Z) (nZ Z ?_)))));refine AK (rid := 99) [100, 101] Z Z (lt_of Z) Z Z (by repeat (first | exact ResP.done | refine ResP.pin0 1100 Z ?_ | refine ResP.pin0 1101 Z ?_ | refine ResP.t ?_ | refine ResP.pinR 1101 Z (by first | rfl | omega) ?_ | refine ResP.nil 1 ?_ | refine ResP.nil' ?_ | refine ResP.own ?_ | refine ResP.sl Z Z (by first | omega | (simp; omega)) ?_ | refine ResP.aggT (by repeat (first | exact ResP.done | refine ResP.t ?_)) ?_)) Z (by repeat (first | exact trivial | refine ⟨rfl, rfl, ?_⟩)) (by decide) (BH bm x inp u0 u1 most bf cap v.fs v.fs.length (by simp) v.trace v.used v.code v.value v.made v.notes hcap (by omega) k f 3 0 hk hkl a0 a1 a2 a6 (a7 (by omega)) hrr) Z Z Z ?_;refine nZ Z (WO_le (Le.open (u := 100) 1100 Z Z Z Z) (nZ Z (WO_le (Le.openR (u := 101) 1101 Z Z) (nZ Z (oN (bN ?_))))))
  (refine AA (Le.closeR (u := 101) 1101 rfl rfl) ?_; refine AB rfl ?_; refine AA (Le.rowVn (id := 101) v.fs.length rfl (by simp [BU])) ?_; refine AB rfl ?_; refine AA (Le.claimBox (u := 100) (j := 3) (idp := 101) rfl rfl rfl rfl) ?_; refine AB rfl ?_)
  refine AA (Le.close (u := 100) 1100 Z Z Z) (AB Z (AF ?_));refine eP [_] ?_ ?_
  ·rfl
  ·first
   | exact (congrArg (fun q => [Blk.obox (.pointer (some ⟨bm, 0, none⟩)) (mV u0 u1 most q)]) (JI (by assumption))).symm
 simp only [HS] at h7;refine sG (eK 2 Z (nB ?_));refine AC Z (fun h8 => ?_) (fun h8 => ?_)
 ·
  simp only [HS] at h8;refine sG (eZ Z (AE rfl Z (lt_of Z) Z Z Z (eZ Z (AJ tys _ Z Z Z Z Z Z (AM hk) Z (AbsL.v' AbsL.nil') Z (by decide) (Qe Z) (nZ Z (WO_le (Le.eqK (id := 101) Z (congrArg (Blk.L 11) (Av (k := k) (f := { f with mode := 1 })))) (nZ Z (nZ Z (nB ?_)))))))))
  have hg1 : (v.fs.set k { f with mode := 1 })[k]? = some { f with mode := 1 } := AU hk
  refine kY [0,2] Z (rG (eK 2 Z ?_));refine DT (rid := 99) [100, 101] Z Z (lt_of Z) Z Z (by repeat (first | exact ResP.done | refine ResP.t ?_ | refine ResP.pin0 1100 Z ?_ | refine ResP.pinR 1100 Z (by first | rfl | omega) ?_ | refine ResP.pin0 1101 Z ?_ | refine ResP.pinR 1101 Z (by first | rfl | omega) ?_ | refine ResP.nil 1 ?_ | refine ResP.nil' ?_ | refine ResP.own ?_ | refine ResP.sl Z Z (by first | omega | (simp; omega)) ?_)) Z (by repeat (first | exact trivial | refine ⟨OpenAs.same Z rfl, ?_⟩ | refine ⟨OpenAs.box 1100 Z Z Z Z rfl, ?_⟩ | refine ⟨OpenAs.row 1100 Z Z rfl, ?_⟩ | refine ⟨OpenAs.box 1101 Z Z Z Z rfl, ?_⟩ | refine ⟨OpenAs.row 1101 Z Z rfl, ?_⟩)) (by decide) (KF bm x inp u0 u1 most bf cap (v.fs.set k { f with mode := 1 }) v.fs.length (by simp) v.trace v.used v.code v.value v.made v.notes hcap (by omega) k { f with mode := 1 } hg1 hkl a0 a1 a2 a6 (a7 (by omega)) hrr) Z Z ?_;refine AE rfl Z (lt_of Z) Z Z Z (eZ Z (AJ tys _ Z Z Z Z Z Z (AM hg1) Z (AbsL.v' AbsL.nil') Z (by decide) (Qe Z) (nZ Z (WO_le (Le.eqK (id := 101) Z (congrArg (Blk.L 11) (Av (k := k) (f := { f with mode := 1, at' := padX (codeAt x f.fn).rows f.at' })))) (nZ Z (nZ Z (oN (bN ?_))))))))
  (refine AA (Le.closeR (u := 101) 1101 rfl rfl) ?_; refine AB rfl ?_; refine AA (Le.rowVn (id := 101) v.fs.length rfl (by simp [BU])) ?_; refine AB rfl ?_; refine AA (Le.claimBox (u := 100) (j := 3) (idp := 101) rfl rfl rfl rfl) ?_; refine AB rfl ?_)
  refine AA (Le.close (u := 100) 1100 Z Z Z) (AB Z (AF ?_));refine eP [_] ?_ ?_
  ·rfl
  ·first
   | exact (congrArg (fun q => [Blk.obox (.pointer (some ⟨bm, 0, none⟩)) (mV u0 u1 most q)]) (JH (by assumption))).symm
 simp only [HS] at h8;refine sG (eK 2 Z (nB ?_));refine AC Z (fun h9 => ?_) (fun h9 => ?_)
 ·
  simp only [HS] at h9
  have hof := a12 (by omega)
  obtain ⟨c0, c1, c2, hcl⟩ := hof
  refine W_le (Le.closeR (u := 101) 1101 Z Z) (nY Z (W_le (Le.rowVn (id := 101) v.fs.length Z (by simp)) ?_));refine nY Z (W_le (Le.claimBox (u := 100) (j := 3) (idp := 101) Z Z Z Z) (nY Z (rG (eK 3 Z (kZ [89,91] Z (WO_le (Le.close (u := 100) 1100 Z Z Z) (nZ Z ?_)))))));refine cP [100] (hm := (LO bm x inp u0 u1 most v k f i hk hkl hfl a16 a0 a1 ⟨a3, by omega⟩ c0 c1 c2 hcl (hst f.fn a0 a1 i.n c0 c2))) (k := ?_);refine nZ Z (WO_le (Le.open (u := 100) 1100 Z Z Z Z) (nZ Z (oN (bN ?_))))
  skip
  refine AA (Le.close (u := 100) 1100 Z Z Z) (AB Z (AF ?_));refine eP [_] ?_ ?_
  ·rfl
  ·first
   | exact (congrArg (fun q => [Blk.obox (.pointer (some ⟨bm, 0, none⟩)) (mV u0 u1 most q)]) (OO (by assumption))).symm
 simp only [HS] at h9
 have h18 : i.op = 18 := by
  rcases Decidable.em (i.op = 18) with h | h
  ·exact h
  ·exact absurd (by omega) hno
 refine W_le (Le.closeR (u := 101) 1101 Z Z) (nY Z (W_le (Le.rowVn (id := 101) v.fs.length Z (by simp)) ?_));refine nY Z (W_le (Le.claimBox (u := 100) (j := 3) (idp := 101) Z Z Z Z) (nY Z (rG (eZ Z (WO_le (Le.close (u := 100) 1100 Z Z Z) (nZ Z ?_))))));refine cP [100] (hm := (LP bm x inp u0 u1 most v k f hk hkl hfl a16 (a13 h18) hrw hv0)) (k := ?_);refine nZ Z (WO_le (Le.open (u := 100) 1100 Z Z Z Z) (nZ Z (oN (bN ?_))))
 skip
 refine AA (Le.close (u := 100) 1100 Z Z Z) (AB Z (AF ?_));refine eP [_] ?_ ?_
 ·rfl
 ·first
  | exact (congrArg (fun q => [Blk.obox (.pointer (some ⟨bm, 0, none⟩)) (mV u0 u1 most q)]) (JG h18)).symm
open Go.Eng
theorem MN {x : Image} (hx : GD x) : Ny x := by
 intro fn h0 h1 r hr
 obtain ⟨h, G⟩ := hx.ok fn h0 h1
 have := G.rdy.his r hr
 have := G.rdy.n2
 omega
theorem K2 {x : Image} (hx : GD x) : Nx x := by
 intro fn h0 h1 n n0 n1
 obtain ⟨h, G⟩ := hx.ok fn h0 h1
 exact (J7 G n0 n1).2.2
def GI (x : Image) : Vm := ⟨[newF x 0 0 [] false], [], 0, 0, 0, 1, []⟩
theorem Ib {x : Image} {most : Int} (hx : GD x) (hm : 1 ≤ most) : Inv x most 0 (GI x) := by
 have h1 := hx.n0
 have hn := Me (id := 0) (given := []) (off := false) hx (Q8 0) (by omega) (by
  obtain ⟨h, G⟩ := hx.ok 0 (Q8 0) (by omega)
  have := G.sized.2.1
  have := G.sized.1
  show ((0 : Nat) : Int) ≤ _
  omega)
 refine ⟨rfl, Q0 1, hm, ?_, ?_, ?_, rfl, Q0 0, Q0 0, by show (0 : Int) ≤ 1; omega, by show (1 : Int) ≤ ((0 : Nat) : Int) + 1; omega, Q8 0, Q8 0⟩
 ·intro j g hg hj
  obtain rfl : j = 0 := by simpa [GI] using hj
  cases hg;exact hn
 ·intro j g hg hj
  simp [GI] at hj
 ·intro g hg
  cases hg;rfl
open Go.Eng
theorem Jf (im : Image) (hx : im.ok 1048576) : Fun Tryz.prog 44 [.t im.tt] (Ay [.t (.bool (imageB im))]) := by
 have hxl : im.codes.length ≤ 1048576 := hx.1.1
 refine Fun.begin tys Tryz.func44 Z Z (N := 32) [(0, .t im.tt)] Z Z (fun w0 G F0 => ?_);refine sG (AZ Z Z (lt_of Z) Z Z (nZ Z (eZ Z (nB (sQ (sG (eZ Z ?_)))))))
 try refine WO_le (Le.freeze (u := 6) rfl) ?_
 refine nZ Z (AS ?_);refine ⟨_, Je im hx, rfl, ?_⟩;refine eK 2 Z ?_;refine gB (fun h1 => ?_) (fun h1 => ?_)
 ·
  simp only [HS] at h1;refine xK 3 Z (kZ [1,2,9,13] Z (xK 3 Z (nB (A5 Z (sG (eZ Z (nB (rT (tR (eR ?_))))))))))
  ·first
   | exact Ax (M6 (by assumption)).symm
 simp only [HS] at h1
 have hx1 := (B3 (by assumption)).1
 refine xK 2 Z (gY Z ?_);refine iY (k := ?_);refine kZ [1,2,9,12] Z (xK 4 Z (nB ?_));refine AC Z (fun h2 => ?_) (fun h2 => ?_)
 ·
  simp only [HS] at h2;refine sG (eZ Z (nB (rT (tR (eR ?_)))))
  ·first
   | exact Ax (M5 hx1.1 (by assumption)).symm
 simp only [HS] at h2;refine AD (tN (sQ (sG ?_)))
 have hsz : BD im = true := by assumption
 refine eK 2 Z (evE ?_);refine eZ Z (nB (AH ?_));refine lK (α := Int) [1, 18, 19] [1] (fun x => [(20, .t (.int x))]) (fun x => []) (fun x => 0 ≤ x ∧ x ≤ im.codes.length ∧ (im.codes.take x.toNat).all (fun c => decide (codeX im c = 0)) = true) (fun x => Int.toNat (im.codes.length - x)) 0 ?_ (fun k hx => ?_)
 ·exact ⟨by omega, by omega, by simp⟩
 obtain ⟨hk0, hk1, hk2⟩ := hx
 refine nY Z (sG (eZ Z (nB (sQ ?_))));refine AC Z (fun h3 => ?_) (fun h3 => ?_)
 ·
  simp only [HS] at h3;refine AD (tN (sQ (AH (sG (eK 2 Z (nA (eZ Z ?_)))))))
  try refine WO_le (Le.freeze (u := 24) rfl) ?_
  refine nZ Z (eZ Z (AS ?_));refine ⟨_, HZ im k hsz hk0 (by omega), rfl, ?_⟩;refine Cw Z Z (lt_of Z) (.inr Z) Z Z (Cx Z Z (lt_of Z) Z Z Z Z ?_)
  first | refine WO_le (Le.adoptE (u := 27) 27 rfl (by first | exact lenN | exact rfl)) ?_ | skip
  refine nZ Z (WO_evF tys Z Z (lt_of Z) (d := .t _) Z (nZ Z (kZ [1,3,18,19,20,21,22,23,24,25,26,27,28] Z (eK 2 Z (nA (eZ Z ?_))))))
  have hct : codeAt im k = im.codes[k.toNat]'(by omega) := Aa hk0 (by omega)
  refine eZ Z (nB ?_);refine AC Z (fun h4 => ?_) (fun h4 => ?_)
  ·
   simp only [HS] at h4;refine sG (eZ Z (nB (rT (bR (tR (AP (bR (tR (eR ?_)))))))))
   ·first
    | exact Ax (M4 hk0 (by omega) (by rw [← hct]; have := Kh im (codeAt im k); omega)).symm
  simp only [HS] at h4;refine AD (bN (tN (rG (evI ?_))));refine eZ Z (oN ?_);refine lQ _ ?_ ?_
  ·skip
   first
   | exact ⟨by omega, by omega, EX hk0 (by omega) hk2 (by rw [decide_eq_true_eq, ← hct]; omega)⟩
  ·(show Int.toNat _ < Int.toNat _); omega
 simp only [HS] at h3;refine AW (tE (AN (AO (tN (sG (eZ Z (nB (rT (eR ?_)))))))))
 ·first
  | exact Ax (M7 (by assumption) hx1.1 (by assumption) (B8 (by omega) hk2)).symm
open Go.Eng
noncomputable def runB (x : Image) (inp : List Int) (most : Int) : Bool := imageB x && (decide ((inp.length : Int) ≤ 10) && (DR inp (-2147483648) 2147483647 && decide (1 ≤ most ∧ most ≤ 12)))
theorem IW (l : List Int) (hl : l.length ≤ 1048576) : Fun Tryz.prog 33 [.t (T.ints l)] (Ay [.t (.bool (DR l (-2147483648) 2147483647))]) := by
 refine Fun.begin tys Tryz.func33 Z Z (N := 5) [(0, .t (T.ints l))] Z Z (fun w0 G F0 => ?_);refine sG (eZ Z (nA (eZ Z (AS ?_))));refine ⟨_, IY _ _ _ (by omega), rfl, ?_⟩;refine eZ Z (nB (rT (eR ?_)))
 ·rfl
theorem Hb (n : Int) : Fun Tryz.prog 76 [.t (.int n)] (Ay [.t (.bool (!decide (-2147483648 ≤ n ∧ n ≤ 2147483647)))]) := by
 refine Fun.begin tys Tryz.func76 Z Z (N := 6) [(0, .t (.int n))] Z Z (fun w0 G F0 => ?_);refine sG (eZ Z (nA (eZ Z (AS ?_))));refine ⟨_, Ff _, rfl, ?_⟩;refine eK 2 Z (nB (rT (eR ?_)))
 ·rfl
theorem Iu (l : List Int) (hl : l.length ≤ 1048576) : Fun Tryz.prog 45 [.t (T.ints l)] (Ay [.t (.bool (DR l (-2147483648) 2147483647))]) := by
 refine Fun.begin tys Tryz.func45 Z Z (N := 6) [(0, .t (T.ints l))] Z Z (fun w0 G F0 => ?_);refine sG (eZ Z (nA (eZ Z (AS ?_))));refine ⟨_, HO l (fun n => !decide (-2147483648 ≤ n ∧ n ≤ 2147483647)) _ [] Z (by omega) (fun x _ => Hb x), rfl, ?_⟩;refine eK 2 Z (nB (rT (eR ?_)))
 ·exact Ax (by rw [DR, List.not_any_eq_all_not]; simp)
theorem JX (im : Image) (l : List Int) (most : Int) (hx : im.ok 1048576) (hl : l.length ≤ 1048576) : Fun Tryz.prog 17 [.t im.tt, .t (T.ints l), .t (T.int most)] (Ay [.t (.bool (runB im l most))]) := by
 refine Fun.begin tys Tryz.func17 Z Z (N := 22) [(0, .t im.tt), (1, .t (T.ints l)), (2, .t (T.int most))] Z Z (fun w0 G F0 => ?_);refine sG (AZ Z Z (lt_of Z) Z Z (nZ Z (eZ Z (nA (eZ Z ?_)))))
 try refine WO_le (Le.freeze (u := 7) rfl) ?_
 refine nZ Z (AS ?_);refine ⟨_, HP im hx, rfl, ?_⟩;refine eZ Z ?_;refine gB (fun h1 => ?_) (fun h1 => ?_)
 ·
  simp only [HS] at h1;refine xK 4 Z (kZ [1,2,6,14] Z (xK 8 Z (nB (rT (eR ?_)))))
  ·exact Ax (by unfold runB; simp_all; try omega)
 refine eZ Z (gY Z (evE ?_));refine xK 2 Z (kZ [1,2,6,13] Z (eZ Z ?_));refine gB (fun h2 => ?_) (fun h2 => ?_)
 ·
  simp only [HS] at h2;refine xK 7 Z (nB (rT (eR ?_)))
  ·exact Ax (by unfold runB; simp_all; try omega)
 simp only [HS] at h2;refine eZ Z (gY Z (AS ?_));refine ⟨_, IW l hl, rfl, ?_⟩;refine eK 2 Z ?_;refine gB (fun h3 => ?_) (fun h3 => ?_)
 ·
  simp only [HS] at h3;refine xK 3 Z (nB (rT (eR ?_)))
  ·exact Ax (by unfold runB; simp_all; try omega)
 refine eZ Z (gY Z (AS ?_));refine ⟨_, BS _ _ _, rfl, ?_⟩;refine eK 2 Z (kZ [6] Z (nB (rT (eR ?_))))
 ·exact Ax (by unfold runB; simp_all; try omega)
theorem Lm (im : Image) (l : List Int) (most : Int) (hx : im.ok 1048576) (hl : l.length ≤ 1048576) : Fun Tryz.prog 23 [.t im.tt, .t (T.ints l), .t (T.int most)] (Ay [.t (.bool (runB im l most))]) := by
 refine Fun.begin tys Tryz.func23 Z Z (N := 22) [(0, .t im.tt), (1, .t (T.ints l)), (2, .t (T.int most))] Z Z (fun w0 G F0 => ?_);refine sG (AZ Z Z (lt_of Z) Z Z (nZ Z (eZ Z (nA (eZ Z ?_)))))
 try refine WO_le (Le.freeze (u := 7) rfl) ?_
 refine nZ Z (AS ?_);refine ⟨_, Jf im hx, rfl, ?_⟩;refine eZ Z ?_;refine gB (fun h1 => ?_) (fun h1 => ?_)
 ·
  simp only [HS] at h1;refine xK 4 Z (kZ [1,2,6,14] Z (xK 8 Z (nB (rT (eR ?_)))))
  ·exact Ax (by unfold runB; simp_all; try omega)
 refine eZ Z (gY Z (evE ?_));refine xK 2 Z (kZ [1,2,6,13] Z (eZ Z ?_));refine gB (fun h2 => ?_) (fun h2 => ?_)
 ·
  simp only [HS] at h2;refine xK 7 Z (nB (rT (eR ?_)))
  ·exact Ax (by unfold runB; simp_all; try omega)
 simp only [HS] at h2;refine eZ Z (gY Z (AS ?_));refine ⟨_, Iu l hl, rfl, ?_⟩;refine eK 2 Z ?_;refine gB (fun h3 => ?_) (fun h3 => ?_)
 ·
  simp only [HS] at h3;refine xK 3 Z (nB (rT (eR ?_)))
  ·exact Ax (by unfold runB; simp_all; try omega)
 refine eZ Z (gY Z (AS ?_));refine ⟨_, BF _ _ _, rfl, ?_⟩;refine eK 2 Z (kZ [6] Z (nB (rT (eR ?_))))
 ·exact Ax (by unfold runB; simp_all; try omega)
end Go.Proofs.YtljnifnbldfboaaGreat
