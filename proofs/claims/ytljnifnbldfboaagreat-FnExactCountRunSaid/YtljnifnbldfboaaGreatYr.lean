/- Walks and laws of the claim. -/
import Derived.Test.YtljnifnbldfboaaGreatYg
import Derived.Test.YtljnifnbldfboaaGreatKk
import Derived.Test.YtljnifnbldfboaaGreatMe
set_option linter.unusedVariables false
set_option linter.unusedSimpArgs false
set_option maxRecDepth 10000
set_option maxHeartbeats 8000000
namespace Go.Proofs.YtljnifnbldfboaaGreat
open Go.Eng
open Go.Eng
theorem Ek {i : Ins} {a : Int} (h : ¬ (i.op = 10 ∨ i.op = 11 ∨ i.op = 13 ∨ i.op = 14 ∨ i.op = 16 ∨ i.op = 18)) : a + 1 ∈ Af i a := by
 rw [Af, if_neg (by omega), if_neg (by omega), if_neg (by omega)]; exact Qw.2 rfl
theorem On {i : Ins} {a : Int} (h : i.op = 10) : i.n ∈ Af i a := by rw [Af, if_pos h]; exact Qw.2 rfl
theorem KK {i : Ins} {a : Int} (h : i.op = 11) : i.n ∈ Af i a ∧ a + 1 ∈ Af i a := by
 rw [Af, if_neg (by omega), if_pos h];split
 ·simp
 ·split
  ·rename_i e; simp [e]
  ·simp
theorem LA {i : Ins} (h : i.op = 1 ∨ i.op = 2 ∨ i.op = 5 ∨ i.op = 6 ∨ i.op = 4 ∨ i.op = 7) : ptX i = 1 := by rw [ptX, if_pos h]
theorem FU {i : Ins} (h : ¬ (i.op = 1 ∨ i.op = 2 ∨ i.op = 5 ∨ i.op = 6 ∨ i.op = 4 ∨ i.op = 7)) : ptX i = 0 := by rw [ptX, if_neg h]
section
variable {x : Image} {inp : List Int} {most : Int} {t : Nat} {v : Vm} {k : Nat} {f : Frame} {h : List Int}
theorem HQ (H : FrH x f h) {f' : Frame} {n : Int} (hn : n ∈ Af (insF x f) f.at') (e1 : f'.fn = f.fn) (e2 : f'.vars.length = f.vars.length) (e3 : f'.flags.length = f.flags.length) (e4 : f'.at' = n) (e5 : (f'.pile.length : Int) = atI h f.at' - tkX x (insF x f) + ptX (insF x f)) : OkF x f' := by
 obtain ⟨a, b⟩ := H.next hn e1 e2 e3 e4
 exact ⟨h, a, by rw [b]; exact e5⟩
theorem G3 (H : FrH x f h) (hr : A1 (insF x f).op = true) {mode n : Int} {f' : Frame} (e1 : f'.fn = f.fn) (e2 : f'.vars.length = f.vars.length) (e3 : f'.flags.length = f.flags.length) (e4 : f'.at' = f.at') : OkF x (raiseF x mode n f') := by
 obtain ⟨a, b⟩ := H.pad (f' := raiseF x mode n f') hr e1 e2 e3 (by show padX (codeAt x f'.fn).rows f'.at' = _; rw [e1, e4])
 exact ⟨h, a, by rw [b]; rfl⟩
theorem FT (H : FrH x f h) (hr : A1 (insF x f).op = true) {mode n : Int} : OkF x (raiseF x mode n f) := G3 H hr rfl rfl rfl rfl
theorem MZ {f : Frame} : (pop2F f).pile.length = f.pile.length - 1 - 1 := by rw [pop2F, CZ, CZ]
theorem ON (hx : GD x) (hI : Inv x most t v) (hk : v.fs[k]? = some f) (hkl : k = v.fs.length - 1) (ho : OkF x f) (hok : Iz x inp v k f (insF x f)) (hc : (A9 x inp most k f (insF x f) v).code = 0) (hnp : ¬ Oz (insF x f)) : Inv x most (t + 1) (A9 x inp most k f (insF x f) v) := by
 obtain ⟨h, H, hpl⟩ := ho
 have htk := H.tk
 have htr := hI.tr
 have hno := hI.no
 have hu0 := hI.used0
 have hu1 := hI.used1
 have hp0 := EB (insF x f)
 have hlt := Bs hk
 by_cases h10 : (insF x f).op = 10
 ·rw [JK h10]
  rw [FM (by omega)] at htk;exact CP hI hk hkl (HQ (f' := { f with at' := (insF x f).n }) H (On h10) rfl rfl rfl rfl (by rw [FM (by omega), FU (by omega)]; show (f.pile.length : Int) = _; omega)) rfl (by omega) hu0 (by omega) (by omega)
 by_cases h11 : (insF x f).op = 11
 ·rw [Ee (by omega)] at htk
  by_cases hz : lastI f.pile = 0
  ·rw [Gt h11 hz, Q4]
   exact CP hI hk hkl (HQ (f' := { popF f with at' := (insF x f).n }) H (KK h11).1 rfl rfl rfl rfl (by rw [Ee (by omega), FU (by omega)]; show ((popF f).pile.length : Int) = _; rw [CZ]; omega)) rfl (by omega) hu0 (by omega) (by omega)
  ·rw [Gs h11 hz, Q4]
   exact CP hI hk hkl (HQ (f' := goF (popF f)) H (KK h11).2 rfl rfl rfl rfl (by rw [Ee (by omega), FU (by omega)]; show ((popF f).pile.length : Int) = _; rw [CZ]; omega)) rfl (by omega) hu0 (by omega) (by omega)
 by_cases h4 : (insF x f).op = 4
 ·rw [Pr h4] at htk
  by_cases hz : (A8 (insF x f).n (secI f.pile) (lastI f.pile)).isSome = true
  ·rw [MC h4 hz, Q4, Q4, Q4]
   exact CP hI hk hkl (HQ (f' := goF (pushF (pop2F f) (reckV (insF x f).n (secI f.pile) (lastI f.pile)))) H (Ek (by omega)) rfl rfl rfl rfl (by rw [Pr h4, LA (by omega)]; show ((pushF (pop2F f) _).pile.length : Int) = _; rw [Co, MZ]; omega)) rfl (by omega) hu0 (by omega) (by omega)
  ·rw [MB h4 hz, Q4, Q4]
   exact CP hI hk hkl (G3 (f' := pop2F f) H (CM (by omega)) rfl rfl rfl rfl) rfl (by omega) hu0 (by omega) (by omega)
 by_cases h13 : (insF x f).op = 13
 ·rw [JJ h13, Q4]
  exact CP hI hk hkl (G3 (f' := popF f) H (CM (by omega)) rfl rfl rfl rfl) rfl (by omega) hu0 (by omega) (by omega)
 by_cases h14 : (insF x f).op = 14
 ·rw [JI h14]
  exact CP hI hk hkl (FT H (CM (by omega))) rfl (by omega) hu0 (by omega) (by omega)
 by_cases h16 : (insF x f).op = 16
 ·rw [JH h16, Q4]
  have h7 := H.good.b7 _ H.at0 H.at1
  have hz : atI h f.at' ≤ 0 := by
   rcases Int.lt_or_le 0 (atI h f.at') with g | g
   ·exact absurd ⟨g, decide_eq_true (by show (insF x f).op = 18 ∨ (insF x f).op = 16 ∨ (insF x f).op = 14 ∨ (insF x f).op = 17; omega)⟩ h7
   ·exact g
  obtain ⟨a, b⟩ := H.pad (f' := { f with mode := 1, at' := padX (codeAt x f.fn).rows f.at' }) (CM (by omega)) rfl rfl rfl rfl
  exact CP hI hk hkl ⟨h, a, by rw [b]; show (f.pile.length : Int) = 0; omega⟩ rfl (by omega) hu0 (by omega) (by omega)
 by_cases h7 : (insF x f).op = 7
 ·have hcl := hok.call h7
  rw [OI h7] at htk
  by_cases hd : most ≤ (v.fs.length : Int)
  ·rw [J1 h7 rfl] at hc
   simp [Ip, hd] at hc
  ·rw [J1 h7 rfl]
   have e : Ip x most k f (insF x f).n (codeAt x (insF x f).n).params false v = ⟨v.fs.set k (cutF f (codeAt x (insF x f).n).params) ++ [newF x v.made (insF x f).n (f.pile.drop (f.pile.length - (codeAt x (insF x f).n).params.toNat)) false], v.trace, v.used, v.code, v.value, v.made + 1, v.notes⟩ := by
    simp only [Ip, Cu, if_neg hd]
   rw [e]
   have hp1 := hcl.p1
   have hp2 := hcl.p0
   have hp3 := hcl.p2
   have hn : OkF x (newF x v.made (insF x f).n (f.pile.drop (f.pile.length - (codeAt x (insF x f).n).params.toNat)) false) := Me hx hcl.fn0 hcl.fn1 (by rw [RJ]; omega)
   have hw : OkW x (cutF f (codeAt x (insF x f).n).params) := ⟨h, ⟨H.fn0, H.fn1, H.good, H.vars, H.flags, H.at0, H.at1, H.hei⟩, .inl ⟨h7, by
    show ((f.pile.take _).length : Int) = atI h f.at' - tkX x (insF x f)
    rw [Qk, OI h7]; omega⟩⟩
   exact KT hI hk hkl hw rfl hn hd (by omega)
 by_cases h17 : (insF x f).op = 17
 ·rw [FM (by omega)] at htk
  obtain ⟨c0, c1, c2, hcl⟩ := hok.off h17
  by_cases hfl : Cc f.flags (insF x f).n = true
  ·by_cases hd : most ≤ (v.fs.length : Int)
   ·exfalso
    rw [J4 (n := 0) h17 hfl hd] at hc
    simp [Ip, hd] at hc
   ·rw [J3 h17 hfl hd rfl rfl hlt, List.set_append_left _ _ hlt]
    have hn : OkF x (newF x v.made (atI (codeAt x f.fn).sites (insF x f).n) [] true) := Me hx hcl.fn0 hcl.fn1 (by have := hcl.p2; simpa using this)
    have hw : OkW x (offF f (insF x f)) := ⟨h, ⟨H.fn0, H.fn1, H.good, H.vars, by show (f.flags.set _ _).length = (codeAt x f.fn).sites.length; rw [Qo]; exact H.flags, H.at0, H.at1, H.hei⟩, .inr ⟨h17, hpl⟩⟩
    exact KT hI hk hkl hw rfl hn hd (by rw [Qf]; show v.notes.length + 1 ≤ t + 1; omega)
  ·rw [J2 h17 hfl]
   exact CP hI hk hkl (HQ (f' := goF f) H (Ek (by omega)) rfl rfl rfl rfl (by rw [FM (by omega), FU (by omega)]; show (f.pile.length : Int) = _; omega)) rfl (by omega) hu0 (by omega) (by omega)
 by_cases h18 : (insF x f).op = 18
 ·rw [JG h18] at hc ⊢
  rcases Nat.eq_zero_or_pos k with e | e
  ·exfalso
   unfold Hk at hc;subst e
   by_cases m2 : f.mode = 2
   ·simp [m2] at hc
   ·by_cases m3 : f.mode = 3
    ·simp [m3] at hc
    ·simp [m2, m3] at hc
  ·obtain ⟨g, hg⟩ : ∃ g, v.fs[k - 1]? = some g := ⟨_, List.getElem?_eq_getElem (by omega)⟩
   obtain ⟨hw, W, hq⟩ := hI.low _ g hg (by omega)
   have hr : A1 (insF x g).op = true := CM (by rcases hq with q | q <;> omega)
   have htl : (v.fs.take k).length = k := by rw [Qk]; omega
   have hgt : (v.fs.take k)[k - 1]? = some g := by rw [List.getElem?_take_of_lt (by omega)]; exact hg
   have hnn : (v.notes ++ [(⟨3, f.id, 0⟩ : Note)]).length ≤ t + 1 := by rw [Qf]; show v.notes.length + 1 ≤ t + 1; omega
   by_cases m2 : f.mode = 2
   ·rw [QN m2 e htl hgt]
    exact HK hI hk hkl e hg (FT W hr) rfl hnn
   ·by_cases m3 : f.mode = 3
    ·rw [QM m3 e htl hgt]
     exact HK hI hk hkl e hg (FT W hr) rfl hnn
    ·rw [NL m2 m3 e htl hgt]
     rcases hq with ⟨q1, q2⟩ | ⟨q1, q2⟩
     ·rw [Ng q1]
      exact HK hI hk hkl e hg (HQ (f' := goF (pushF g f.res)) W (Ek (by omega)) rfl rfl rfl rfl (by rw [LA (by omega)]; show ((pushF g f.res).pile.length : Int) = _; rw [Co]; omega)) rfl hnn
     ·rw [Nh (by show ¬ (insF x g).op = 7; omega)]
      exact HK hI hk hkl e hg (HQ (f' := goF g) W (Ek (by omega)) rfl rfl rfl rfl (by rw [FM (by omega), FU (by omega)]; show (g.pile.length : Int) = _; omega)) rfl hnn
 exact absurd ⟨h10, h11, h4, h13, h14, h16, h7, h17, h18⟩ hnp
end
open Go.Eng
section
variable {x : Image} {inp : List Int} {most : Int} {t : Nat} {v : Vm} {k : Nat} {f : Frame} {h : List Int}
theorem Mb (H : FrH x f h) (hpl : (f.pile.length : Int) = atI h f.at') (hp : Oz (insF x f)) (h6 : (insF x f).op ≠ 6) (used : Int) :
  let F := plainF inp used (insF x f) f
  F.fn = f.fn ∧ F.vars.length = f.vars.length ∧ F.flags.length = f.flags.length ∧ F.at' = f.at' ∧ F.off = f.off ∧ (F.pile.length : Int) = atI h f.at' - tkX x (insF x f) + ptX (insF x f) := by
 have htk := H.tk
 obtain ⟨p1, p2, p3, p4, p5, p6, p7, p8, p9⟩ := hp
 dsimp only;unfold plainF;split
 ·exact ⟨rfl, rfl, rfl, rfl, rfl, by rw [Co, FM (by omega), LA (by omega)]; omega⟩
 split
 ·exact ⟨rfl, rfl, rfl, rfl, rfl, by rw [Co, FM (by omega), LA (by omega)]; omega⟩
 split
 ·rw [Ee (by omega)] at htk
  exact ⟨rfl, by simp, rfl, rfl, rfl, by rw [Ee (by omega), FU (by omega)]; show ((popF f).pile.length : Int) = _; rw [CZ]; omega⟩
 split
 ·exact ⟨rfl, rfl, rfl, rfl, rfl, by rw [Co, FM (by omega), LA (by omega)]; omega⟩
 split
 ·rw [Ee (by omega)] at htk
  exact ⟨rfl, rfl, rfl, rfl, rfl, by rw [Ee (by omega), FU (by omega), CZ]; omega⟩
 split
 ·rw [Ee (by omega)] at htk
  exact ⟨rfl, rfl, rfl, rfl, rfl, by rw [Ee (by omega), FU (by omega), CZ]; omega⟩
 split
 ·rw [Ee (by omega)] at htk
  exact ⟨rfl, rfl, rfl, rfl, rfl, by rw [Ee (by omega), FU (by omega)]; show ((popF f).pile.length : Int) = _; rw [CZ]; omega⟩
 split
 ·exact ⟨rfl, rfl, by simp, rfl, rfl, by rw [FM (by omega), FU (by omega)]; show (f.pile.length : Int) = _; omega⟩
 ·have := M2 H.ins
  exact ⟨rfl, rfl, rfl, rfl, rfl, by rw [FM (by omega), FU (by omega)]; omega⟩
theorem JO {i : Ins} {f : Frame} {l : List Int} : (plainTr i f l).length ≤ l.length + 1 := by
 unfold plainTr; split <;> simp
theorem JP {i : Ins} {f : Frame} {l : List Note} : (plainNo i f l).length ≤ l.length + 1 := by
 unfold plainNo; split <;> simp
theorem LB {i : Ins} {u : Int} : u ≤ plainUs inp i u ∧ plainUs inp i u ≤ u + 1 := by
 unfold plainUs; split <;> omega
theorem Mz (hI : Inv x most t v) (hk : v.fs[k]? = some f) (hkl : k = v.fs.length - 1) (ho : OkF x f) (hp : Oz (insF x f)) (h6 : (insF x f).op ≠ 6) : Inv x most (t + 1) (A9 x inp most k f (insF x f) v) := by
 obtain ⟨h, H, hpl⟩ := ho
 obtain ⟨f1, f2, f3, f4, f5, f6⟩ := Mb (inp := inp) H hpl hp h6 v.used
 have e : Ah inp v.used (insF x f) k f v.fs = v.fs.set k (plainF inp v.used (insF x f) f) := by unfold Ah; rw [if_neg h6]
 have hg : (Ah inp v.used (insF x f) k f v.fs)[k]? = some (plainF inp v.used (insF x f) f) := by rw [e]; exact AU hk
 have a1 := JO (i := insF x f) (f := f) (l := v.trace)
 have a2 := JP (i := insF x f) (f := f) (l := v.notes)
 have a3 := LB (inp := inp) (i := insF x f) (u := v.used)
 have b1 := hI.tr
 have b2 := hI.no
 have b3 := hI.used0
 have b4 := hI.used1
 obtain ⟨p1, p2, p3, p4, p5, p6, p7, p8, p9⟩ := hp
 rw [Gr ⟨p1, p2, p3, p4, p5, p6, p7, p8, p9⟩ hg, e, Q4];exact CP hI hk hkl (HQ (f' := goF (plainF inp v.used (insF x f) f)) H (Ek (by omega)) f1 f2 f3 (by show (plainF inp v.used (insF x f) f).at' + 1 = _; rw [f4]) f6) f5 (by omega) (by omega) (by omega) (by omega)
theorem QD (hI : Inv x most t v) (hk1 : 1 ≤ k) (hkl : k = v.fs.length - 1) {g : Frame} (hg : v.fs[k - 1]? = some g) (m : Int) : Inv x most t { v with fs := v.fs.set (k - 1) { g with mode := m } } := by
 have hlt := Bs hg
 refine ⟨hI.code, by show 1 ≤ (v.fs.set _ _).length; rw [Qo]; exact hI.len0, by show ((v.fs.set _ _).length : Int) ≤ most; rw [Qo]; exact hI.len1, ?_, ?_, ?_, hI.val, hI.tr, hI.no, hI.made0, hI.made1, hI.used0, hI.used1⟩
 ·intro j q hq hj
  dsimp only at hq hj;rw [Qo] at hj;rw [List.getElem?_set_ne (by omega)] at hq;exact hI.top j q hq hj
 ·intro j q hq hj
  dsimp only at hq hj;rw [Qo] at hj
  by_cases e : j = k - 1
  ·subst e
   rw [AU hg] at hq;cases hq
   obtain ⟨hw, W, h2⟩ := hI.low _ g hg hj
   exact ⟨hw, ⟨W.fn0, W.fn1, W.good, W.vars, W.flags, W.at0, W.at1, W.hei⟩, h2⟩
  ·rw [List.getElem?_set_ne (by omega)] at hq
   exact hI.low j q hq hj
 ·intro q hq
  dsimp only at hq
  by_cases e : 0 = k - 1
  ·rw [← e] at hq hg
   rw [AU hg] at hq;cases hq;exact hI.bot g hg
  ·rw [List.getElem?_set_ne (by omega)] at hq
   exact hI.bot q hq
end
open Go.Eng
section
variable {x : Image} {inp : List Int} {most : Int} {t : Nat} {v : Vm} {k : Nat} {f : Frame}
theorem KS (hI : Inv x most t v) (hk : v.fs[k]? = some f) (hkl : k = v.fs.length - 1) (ho : OkF x f) (h6 : (insF x f).op = 6) (n : Int) : Inv x most (t + 1) ⟨v.fs.set k (goF (pushF f n)), v.trace, v.used, v.code, v.value, v.made, v.notes⟩ := by
 obtain ⟨h, H, hpl⟩ := ho
 have htk := H.tk
 have b1 := hI.tr
 have b2 := hI.no
 have b3 := hI.used0
 have b4 := hI.used1
 exact CP hI hk hkl (HQ (f' := goF (pushF f n)) H (Ek (by omega)) rfl rfl rfl rfl (by rw [FM (by omega), LA (by omega)]; show ((pushF f n).pile.length : Int) = _; rw [Co]; omega)) rfl (by omega) b3 (by omega) (by omega)
theorem QC (hI : Inv x most t v) (hk : v.fs[k]? = some f) (hkl : k = v.fs.length - 1) (ho : OkF x f) (h6 : (insF x f).op = 6) : Inv x most (t + 1) (A9 x inp most k f (insF x f) v) := by
 have hlt := Bs hk
 have hp : Oz (insF x f) := ⟨by omega, by omega, by omega, by omega, by omega, by omega, by omega, by omega, by omega⟩
 have e1 : plainTr (insF x f) f v.trace = v.trace := if_neg (by omega)
 have e2 : plainUs inp (insF x f) v.used = v.used := if_neg (fun h => absurd h.1 (by omega))
 have e3 : plainNo (insF x f) f v.notes = v.notes := if_neg (by omega)
 have e : Ah inp v.used (insF x f) k f v.fs = D9 k f v.fs := if_pos h6
 have hz : ∀ n, D9 k f v.fs = v.fs.set k (pushF f n) → Inv x most (t + 1) (A9 x inp most k f (insF x f) v) := fun n hn => by
  rw [Gr hp (g := pushF f n) (by rw [e, hn]; exact AU hk), e, hn, e1, e2, e3, Q4];exact KS hI hk hkl ho h6 n
 by_cases hoff : f.off = true
 ·have hk1 : 1 ≤ k := by
   rcases Nat.eq_zero_or_pos k with q | q
   ·subst q; rw [hI.bot f hk] at hoff; cases hoff
   ·exact q
  obtain ⟨g, hg⟩ : ∃ g, v.fs[k - 1]? = some g := ⟨_, List.getElem?_eq_getElem (by omega)⟩
  by_cases hm : g.mode = 2
  ·have hr : D9 k f v.fs = (v.fs.set (k - 1) { g with mode := g.base }).set k (pushF f g.value) := by
    unfold D9; rw [if_pos hoff, hg]; simp only [hm, if_true]
   have hk2 : (v.fs.set (k - 1) { g with mode := g.base })[k]? = some f := by rw [List.getElem?_set_ne (by omega)]; exact hk
   rw [Gr hp (g := pushF f g.value) (by rw [e, hr]; exact AU hk2), e, hr, e1, e2, e3, Q4];exact KS (v := { v with fs := v.fs.set (k - 1) { g with mode := g.base } }) (QD hI hk1 hkl hg g.base) hk2 (by show k = (v.fs.set _ _).length - 1; rw [Qo]; exact hkl) ho h6 g.value
  ·exact hz 0 (by unfold D9; rw [if_pos hoff, hg]; simp only [if_neg hm])
 ·exact hz 0 (by unfold D9; rw [if_neg hoff])
theorem KR (hx : GD x) (hI : Inv x most t v) (hk : v.fs[k]? = some f) (hkl : k = v.fs.length - 1) (ho : OkF x f) (hok : Iz x inp v k f (insF x f)) (hc : (A9 x inp most k f (insF x f) v).code = 0) : Inv x most (t + 1) (A9 x inp most k f (insF x f) v) := by
 by_cases hp : Oz (insF x f)
 ·by_cases h6 : (insF x f).op = 6
  ·exact QC hI hk hkl ho h6
  ·exact Mz hI hk hkl ho hp h6
 ·exact ON hx hI hk hkl ho hok hc hp
end
open Go.Eng
theorem P1 (bm : Nat) (c0 c1 c2 c4 c5 c6 c7 c8 c9 : Value) (bf n0 cap : Nat) (rv : List Value) (rt : List T) (xs : List T) (hxs : ∀ x, x ∈ xs → (T.cells x).length = 11) (hc : n0 ≤ cap) (hc2 : n0 ≤ 1048576) (k : Nat) (d0 d1 d2 d4 d5 d6 d7 d8 d9 d10 : T) (pile : List Int) (hk : xs[k]? = some (.agg [d0, d1, d2, .list 1 (pile.map T.int), d4, d5, d6, d7, d8, d9, d10])) (hkl : k = n0 - 1) (hn1 : 1 ≤ n0) (hp : pile.length ≤ 1000) (hp1 : 1 ≤ pile.length) : Proc Tryz.prog 38 [.t (.v (.pointer (some ⟨bm, 0, none⟩)))] (rv) (rt) [.obox (.pointer (some ⟨bm, 0, none⟩)) [.t (.v c0), .t (.v c1), .t (.v c2), Aq bf n0 cap, .t (.v c4), .t (.v c5), .t (.v c6), .t (.v c7), .t (.v c8), .t (.v c9)], .row bf cap 11 xs] (.t (T.int (lastI pile))) [.obox (.pointer (some ⟨bm, 0, none⟩)) [.t (.v c0), .t (.v c1), .t (.v c2), Aq bf n0 cap, .t (.v c4), .t (.v c5), .t (.v c6), .t (.v c7), .t (.v c8), .t (.v c9)], .row bf cap 11 (xs.set k (.agg [d0, d1, d2, .list 1 ((pile.take (pile.length - 1)).map T.int), d4, d5, d6, d7, d8, d9, d10]))] := by
 have hlx : k < xs.length := (List.getElem?_eq_some_iff.1 hk).1
 refine Proc.intro tys Tryz.func38 Z Z (N := 31) [100, 101] 99 ([(0, .t (.v (.pointer (some ⟨bm, 0, none⟩))))]) ([(100, .obox (.pointer (some ⟨bm, 0, none⟩)) [.t (.v c0), .t (.v c1), .t (.v c2), Aq bf n0 cap, .t (.v c4), .t (.v c5), .t (.v c6), .t (.v c7), .t (.v c8), .t (.v c9)]), (101, .row bf cap 11 xs), (99, .ro rv rt)]) Z Z Z Z (by decide) (by decide) Z (fun w0 G F0 => ?_);refine nY Z (W_le (Le.nameR (u := 101) 1101 Z Z Z Z) (nY Z (sG (eZ Z (nA (eZ Z ?_))))));refine cP [100] (hm := (Ho bm c0 c1 c2 c4 c5 c6 c7 c8 c9 bf n0 cap rv rt (by omega) hc hc2)) (k := ?_);refine nZ Z (WO_le (Le.namedR (t := 7) (u := 101) 1101 k 0 Z Z (by rw [hkl]; rfl)) ?_);refine nZ Z (eZ Z (nB (sQ ?_)))
 have hml : (pile.map T.int).length = pile.length := Qc ..
 refine Bg (id := 101) (i := k) (off := 3) 200 1200 133 Z hxs hk Z (by intro h; have := congrArg List.length h; rw [Qc, Qz] at this; omega) Z Z Z Z Z Z (fun b2 cap2 hcap2 => ?_);refine nY Z ?_
 have hz := List.getElem?_set_self (a := (T.agg [d0, d1, d2, .v (.slice (some ⟨b2, 0, none⟩) (pile.map T.int).length cap2), d4, d5, d6, d7, d8, d9, d10])) hlx
 refine rG (eZ Z (AE rfl Z (lt_of Z) Z Z Z (eZ Z (AG tys Z Z (lt_of Z) Z Z Z Z hz Z (WO_le (Le.namedS (t := 11) (id := 200) 1200 Z Z hcap2) (nZ Z (evE ?_)))))));refine kZ [2,3,12] Z (evI ?_);refine eZ Z (nA (eZ Z (AE rfl Z (lt_of Z) Z Z Z (eZ Z (AG tys Z Z (lt_of Z) Z Z Z Z hz Z (WO_le (Le.namedS (t := 17) (id := 200) 1200 Z Z hcap2) (nZ Z (eZ Z (AR tys Z Z (lt_of Z) Z Z Z Z Z Z Z Z (by omega) (by omega) (AG tys Z Z (lt_of Z) Z Z Z Z (BN _ _ (by omega) (by omega)) Z (kZ [2,3,4,20] Z (eZ Z (nA (eK 2 Z (AE rfl Z (lt_of Z) Z Z Z ?_)))))))))))))));refine eZ Z (AG tys Z Z (lt_of Z) Z Z Z Z hz Z (WO_le (Le.namedS (t := 25) (id := 200) 1200 Z Z hcap2) (nZ Z (eZ Z (Cv tys Z Z (lt_of Z) Z Z Z Z Z Z Z Z Z (by omega) (by omega) (by omega) (WO_le (Le.gather (u := 27) (id := 200) Z Z (by first | (simp; done) | (simp; omega) | omega)) ?_))))));refine nZ Z (AE rfl Z (lt_of Z) Z Z Z (kZ [2,5,27,28] Z (eZ Z (AJ tys _ Z Z Z Z Z Z hz Z (AbsL.own' AbsL.nil') Z (by decide) (Qe Z) (nZ Z (nA (eK 2 Z (nB (W_le (Le.closeR (u := 101) 1101 Z Z) (nY Z (rT ?_)))))))))));refine eP [_, _] ?_ ?_
 ·exact F9 (HH hp1)
 ·(rw [Q4]; simp [T.put, Eng.splice]; try rfl)
theorem popS_g (bm bf n0 cap : Nat) (rv : List Value) (rt : List T) (xs : List T) (hxs : ∀ x, x ∈ xs → (T.cells x).length = 11) (hc : n0 ≤ cap) (hc2 : n0 ≤ 1048576) (k : Nat) (d0 d1 d2 d4 d5 d6 d7 d8 d9 d10 : T) (pile : List Int) (hk : xs[k]? = some (.agg [d0, d1, d2, .list 1 (pile.map T.int), d4, d5, d6, d7, d8, d9, d10])) (hkl : k = n0 - 1) (hn1 : 1 ≤ n0) (hp : pile.length ≤ 1000) (hp1 : 1 ≤ pile.length) (cells : List D) (hcell : cells[3]? = some (Aq bf n0 cap)) (hn : cells.length = 10) (hno : D.noImm.noImmL cells = true) :
  Proc Tryz.prog 38 [.t (.v (.pointer (some ⟨bm, 0, none⟩)))] rv rt (.obox (.pointer (some ⟨bm, 0, none⟩)) cells :: [.row bf cap 11 xs]) (.t (T.int (lastI pile))) (.obox (.pointer (some ⟨bm, 0, none⟩)) cells :: [.row bf cap 11 (xs.set k (.agg [d0, d1, d2, .list 1 ((pile.take (pile.length - 1)).map T.int), d4, d5, d6, d7, d8, d9, d10]))]) :=
 Proc.frame (n := 10) (j := 3) hcell hn hno (fun vs hl hu => by
  match vs, hl with
  | [c0, c1, c2, c3, c4, c5, c6, c7, c8, c9], _ =>
   obtain rfl : c3 = _ := Option.some.inj hu
   exact P1 bm c0 c1 c2 c4 c5 c6 c7 c8 c9 bf n0 cap rv rt xs hxs hc hc2 k d0 d1 d2 d4 d5 d6 d7 d8 d9 d10 pile hk hkl hn1 hp hp1) ⟨_, Tryz.func38, rfl, rfl⟩ (by simp)
theorem Mt (bm : Nat) (x : Image) (inp : List Int) (u0 u1 : Value) (most : Int) (bf cap : Nat) (fs : List Frame) (n0 : Nat) (hn0 : fs.length = n0) (trace : List Int) (used code value made : Int) (notes : List Note) (hc : n0 ≤ cap) (hc2 : n0 ≤ 1048576) (hu0 : 0 ≤ used) (hu1 : used ≤ 1000000) (hil : inp.length ≤ 1000000) : Proc Tryz.prog 66 [.t (.v (.pointer (some ⟨bm, 0, none⟩)))] ([u0, u1]) ([T.Codes x.codes, T.ints inp]) [.obox (.pointer (some ⟨bm, 0, none⟩)) (mC u0 u1 most (Aq bf n0 cap) trace used code value made notes)] (.t (T.int (inN inp used))) [.obox (.pointer (some ⟨bm, 0, none⟩)) (mC u0 u1 most (Aq bf n0 cap) trace (if used < inp.length then used + 1 else used) code value made notes)] := by
 refine Proc.intro tys Tryz.func66 Z Z (N := 35) [100] 99 ([(0, .t (.v (.pointer (some ⟨bm, 0, none⟩))))]) ([(100, .obox (.pointer (some ⟨bm, 0, none⟩)) (mC u0 u1 most (Aq bf n0 cap) trace used code value made notes)), (99, .ro [u0, u1] [T.Codes x.codes, T.ints inp])]) Z Z Z Z (by decide) (by decide) Z (fun w0 G F0 => ?_);refine nY Z (W_le (Le.openNew (u := 100) 1100 Z Z Z Z Z) (nY Z (W_le (Le.named (t := 0) (u := 100) 1100 Z Z) (nY Z (sG (eZ Z (nB (sQ (sQ (AV mixed (by kernel_rfl) (evQ ?_)))))))))));refine AL rfl Z (lt_of Z) Z Z Z (evQ ?_);refine evQ ?_;refine evQ ?_;refine AI Z (evQ ?_);refine AL rfl Z (lt_of Z) Z Z Z (evQ ?_);refine A7 tys 99 1 Z Z (lt_of Z) Z Z Z Z (evEQ ?_);refine evQ ?_;refine AI Z (Ak (tN ?_));refine AC Z (fun h1 => ?_) (fun h1 => ?_)
 ·
  simp only [HS] at h1;refine sG (eZ Z (nB (W_le (Le.close (u := 100) 1100 Z Z Z) (nY Z (rT (tR ?_))))));refine eP [_] ?_ ?_
  ·first
   | (have hlt : ¬ used < inp.length := (by omega); refine F9 ?_; rw [inN, if_neg hlt])
  ·first
   | (have hlt : ¬ used < inp.length := (by omega); rw [if_neg hlt])
 simp only [HS] at h1;refine AD (tN (sG (eZ Z (AE rfl Z (lt_of Z) Z Z Z (eK 3 Z (evI ?_))))));refine AE rfl Z (lt_of Z) Z Z Z (eK 2 Z (kZ [0,2,19,22] Z (sT Z (nZ Z (nB (sQ (AV mixed (by kernel_rfl) (evQ ?_))))))));refine AL rfl Z (lt_of Z) Z Z Z (evQ ?_);refine A7 tys 99 1 Z Z (lt_of Z) Z Z Z Z (evQ ?_);refine AI Z (AL rfl Z (lt_of Z) Z Z Z (evQ ?_));refine evQ ?_;refine evQ ?_;refine Lx ?_;refine Ai tys Z Z (lt_of Z) Z Z Z Z Z Z Z (by omega) _ (BT _ _ (by omega) (by omega)) (AI Z (evQ ?_));refine evQ ?_;refine Ak (tN (W_le (Le.close (u := 100) 1100 Z Z Z) (nY Z (rT ?_))));refine eP [_] ?_ ?_
 ·first
  | (have hlt : used < inp.length := (by omega); refine F9 ?_; rw [inN, if_pos hlt, BV hu0 hlt]; simp; done)
 ·first
  | (have hlt : used < inp.length := (by omega); rw [if_pos hlt])
def Lw (k : Nat) (f : Frame) (fs : List Frame) : List Frame :=
 if f.off = true then (match fs[k - 1]? with | some g => if g.mode = 2 then fs.set (k - 1) { g with mode := g.base } else fs | none => fs) else fs
def recN (k : Nat) (f : Frame) (fs : List Frame) : Int :=
 if f.off = true then (match fs[k - 1]? with | some g => if g.mode = 2 then g.value else 0 | none => 0) else 0
theorem OZ {k : Nat} {f : Frame} {fs : List Frame} : D9 k f fs = (Lw k f fs).set k (pushF f (recN k f fs)) := by
 unfold D9 Lw recN
 by_cases h : f.off = true
 ·simp only [if_pos h]
  rcases fs[k - 1]? with _ | g
  ·rfl
  ·dsimp only
   by_cases h2 : g.mode = 2
   ·simp only [if_pos h2]
   ·simp only [if_neg h2]
 ·simp only [if_neg h]
theorem LN (bm : Nat) (x : Image) (inp : List Int) (u0 u1 : Value) (most : Int) (bf cap : Nat) (fs : List Frame) (n0 : Nat) (hn0 : fs.length = n0) (trace : List Int) (used code value made : Int) (notes : List Note) (hc : n0 ≤ cap) (hc2 : n0 ≤ 1048576) (k : Nat) (f : Frame) (hk : fs[k]? = some f) (hkl : k = n0 - 1) (hbe : f.off = true → 1 ≤ k) : Proc Tryz.prog 67 [.t (.v (.pointer (some ⟨bm, 0, none⟩)))] ([u0, u1]) ([T.Codes x.codes, T.ints inp]) [.obox (.pointer (some ⟨bm, 0, none⟩)) (mC u0 u1 most (Aq bf n0 cap) trace used code value made notes), .row bf cap 11 (fs.map Frame.tt)] (.t (T.int (recN k f fs))) [.obox (.pointer (some ⟨bm, 0, none⟩)) (mC u0 u1 most (Aq bf n0 cap) trace used code value made notes), .row bf cap 11 ((Lw k f fs).map Frame.tt)] := by
 have hlt := Bs hk
 refine Proc.intro tys Tryz.func67 Z Z (N := 53) [100, 101] 99 ([(0, .t (.v (.pointer (some ⟨bm, 0, none⟩))))]) ([(100, .obox (.pointer (some ⟨bm, 0, none⟩)) (mC u0 u1 most (Aq bf n0 cap) trace used code value made notes)), (101, .row bf cap 11 (fs.map Frame.tt)), (99, .ro [u0, u1] [T.Codes x.codes, T.ints inp])]) Z Z Z Z (by decide) (by decide) Z (fun w0 G F0 => ?_);refine nY Z (W_le (Le.nameR (u := 101) 1101 Z Z Z Z) (nY Z (W_le (Le.openNew (u := 100) 1100 Z Z Z Z Z) (nY Z (W_le (Le.named (t := 0) (u := 100) 1100 Z Z) (nY Z (sG (eZ Z (nA (eZ Z (AE rfl Z (lt_of Z) Z Z Z (eK 3 Z (Br Z Z (lt_of Z) Z ⟨61, by kernel_rfl⟩ rfl (eZ Z (nB ?_)))))))))))))));refine sQ (sQ (kY [0,2,3] Z (rG (eZ Z ?_))));refine AQ (rid := 99) [100] 1101 (k) Z Z (lt_of Z) Z Z (by repeat (first | exact ResP.done | refine ResP.t ?_ | refine ResP.pin0 1100 Z ?_ | refine ResP.pinR 1100 Z (by first | rfl | omega) ?_ | refine ResP.nil 1 ?_ | refine ResP.nil' ?_ | refine ResP.own ?_ | refine ResP.sl Z Z (by first | omega | (simp; omega)) ?_)) Z (by repeat (first | exact trivial | refine ⟨OpenAs.same Z rfl, ?_⟩ | refine ⟨OpenAs.box 1100 Z Z Z Z rfl, ?_⟩ | refine ⟨OpenAs.row 1100 Z Z rfl, ?_⟩)) (by decide) (E5 bm x inp u0 u1 most bf n0 cap trace used code value made notes (by omega) hc hc2) Z Z (by first | rfl | omega) ?_;refine AE rfl Z (lt_of Z) Z Z Z (eZ Z (AG tys Z Z (lt_of Z) Z Z Z Z (AM hk) Z (eK 2 Z ?_)));refine gB (fun h1 => ?_) (fun h1 => ?_)
 ·
  simp only [HS] at h1;refine xK 2 Z (kZ [0,2,3,20] Z (xK 9 Z (kZ [0,2,3,21,29] Z (xK 4 Z (nB (A5 Z (sG (eZ Z (nB (W_le (Le.closeR (u := 101) 1101 Z Z) (nY Z (W_le (Le.close (u := 100) 1100 Z Z Z) (nY Z (rT (tR ?_)))))))))))))));refine eP [_, _] ?_ ?_
  ·first
   | (have ho : f.off = false := (by assumption); exact F9 (by simp [recN, ho]))
  ·first
   | (have ho : f.off = false := (by assumption); simp [Lw, ho]; done)
 simp only [HS] at h1;refine xK 2 Z (kZ [0,2,3,17,19] Z (eK 2 Z ?_));refine gB (fun h2 => ?_) (fun h2 => ?_)
 ·
  simp only [HS] at h2;refine xK 7 Z (kZ [0,2,3,21,29] Z (xK 4 Z (nB (A5 Z (sG (eZ Z (nB (W_le (Le.closeR (u := 101) 1101 Z Z) (nY Z (W_le (Le.close (u := 100) 1100 Z Z Z) (nY Z (rT (tR ?_)))))))))))));refine eP [_, _] ?_ ?_
  ·first
   | (exfalso; have := hbe (by assumption); omega)
  ·first
   | (exfalso; have := hbe (by assumption); omega)
 simp only [HS] at h2;refine eZ Z (gY Z (AE rfl Z (lt_of Z) Z Z Z (xK 4 Z (gY Z (evI ?_)))));refine kZ [0,2,3,21,26,28] Z (gY Z ?_)
 have hk1 : 1 ≤ k := by omega
 obtain ⟨g, hg⟩ : ∃ g, fs[k - 1]? = some g := ⟨_, List.getElem?_eq_getElem (by omega)⟩
 refine Bb tys Z Z (lt_of Z) Z Z Z Z Z Z (by omega) (by omega) (WO_le (Le.namedR (t := 29) (u := 101) 1101 (k - 1) 0 Z Z (by show ((n0 : Int) - 2).toNat * 11 = (k - 1) * 11 + 0; omega)) ?_);refine nZ Z (xZ Z (gY Z (AG tys Z Z (lt_of Z) Z Z Z Z (AM hg) Z (xK 2 Z (nB ?_)))));refine AC Z (fun h3 => ?_) (fun h3 => ?_)
 ·
  simp only [HS] at h3;refine sG (eZ Z (nB (W_le (Le.closeR (u := 101) 1101 Z Z) (nY Z (W_le (Le.close (u := 100) 1100 Z Z Z) (nY Z (rT (tR ?_))))))));refine eP [_, _] ?_ ?_
  ·first
   | (have ho : f.off = true := (by assumption); have hm : ¬ g.mode = 2 := (by assumption); exact F9 (by simp [recN, ho, hg, hm]))
  ·first
   | (have ho : f.off = true := (by assumption); have hm : ¬ g.mode = 2 := (by assumption); simp [Lw, ho, hg, hm]; done)
 simp only [HS] at h3;refine AD (tN (sG (eZ Z (AE rfl Z (lt_of Z) Z Z Z (eK 2 Z (kZ [2,3,37] Z (eK 2 Z (evI ?_))))))));refine Bb tys Z Z (lt_of Z) Z Z Z Z Z Z (by omega) (by omega) (WO_le (Le.namedR (t := 41) (u := 101) 1101 (k - 1) 0 Z Z (by show ((n0 : Int) - 2).toNat * 11 = (k - 1) * 11 + 0; omega)) ?_);refine nZ Z (eZ Z (nA (eK 2 Z (AE rfl Z (lt_of Z) Z Z Z (eZ Z (kZ [2,4,42,45] Z (AG tys Z Z (lt_of Z) Z Z Z Z (AM hg) Z (AE rfl Z (lt_of Z) Z Z Z (eZ Z (AJ tys _ Z Z Z Z Z Z (AM hg) Z (AbsL.v' AbsL.nil') Z (by decide) (Qe Z) (nZ Z (WO_le (Le.eqK (id := 101) Z (congrArg (Blk.L 11) (Av (k := k - 1) (f := { g with mode := g.base })))) (nZ Z (nZ Z (nA ?_)))))))))))))));refine eZ Z (AE rfl Z (lt_of Z) Z Z Z (eZ Z (AG tys Z Z (lt_of Z) Z Z Z Z (AM (AU (g := { g with mode := g.base }) hg)) Z (eZ Z (kZ [2] Z (nB (W_le (Le.closeR (u := 101) 1101 Z Z) (nY Z (W_le (Le.close (u := 100) 1100 Z Z Z) (nY Z (rT ?_)))))))))));refine eP [_, _] ?_ ?_
 ·first
  | (have ho : f.off = true := (by assumption); have hm : g.mode = 2 := (by assumption); exact F9 (by simp [recN, ho, hg, hm]))
 ·first
  | (have ho : f.off = true := (by assumption); have hm : g.mode = 2 := (by assumption); simp [Lw, ho, hg, hm]; done)
open Go.Eng
def plB (i : Ins) : Bool := decide (i.op = 1 ∨ i.op = 2 ∨ i.op = 3 ∨ i.op = 5 ∨ i.op = 6 ∨ i.op = 8 ∨ i.op = 9 ∨ i.op = 15 ∨ i.op = 12)
def C4 (inp : List Int) (used : Int) (i : Ins) (k : Nat) (f : Frame) (fs : List Frame) : List Frame := if plB i = true then goAt k (Ah inp used i k f fs) else fs
theorem pgo {inp : List Int} {used : Int} {i : Ins} {k : Nat} {f F : Frame} {fs L : List Frame} (hpb : plB i = true) (hg : L[k]? = some F) (e : Ah inp used i k f fs = L) : C4 inp used i k f fs = L.set k (goF F) := by
 rw [C4, if_pos hpb, e, goAt, hg]
theorem vers2 {id i1 i2 : Nat} {k1 k2 K : Blk} (h1 : i1 = id → k1 = K) (h2 : i2 = id → k2 = K) : ∀ p, p ∈ [i1, i2].zip [k1, k2] → p.1 = id → p.2 = K := by
 intro p hp he
 rcases Qn.1 hp with rfl | hp
 ·exact h1 he
 ·rcases Qn.1 hp with rfl | hp
  ·exact h2 he
  ·cases hp
theorem Pv {k : Nat} {f : Frame} {fs : List Frame} (hk : fs[k]? = some f) (hb : f.off = true → 1 ≤ k) : (Lw k f fs)[k]? = some f := by
 unfold Lw;split
 ·rename_i h
  have := hb h
  split
  ·split
   ·rw [List.getElem?_set_ne (by omega)]; exact hk
   ·exact hk
  ·exact hk
 ·exact hk
theorem recG_len {k : Nat} {f : Frame} {fs : List Frame} : (Lw k f fs).length = fs.length := by
 unfold Lw
 (repeat' split) <;> simp
theorem IV (bm : Nat) (x : Image) (inp : List Int) (u0 u1 : Value) (most : Int) (bf cap : Nat) (fs : List Frame) (n0 : Nat) (hn0 : fs.length = n0) (trace : List Int) (used code value made : Int) (notes : List Note) (hc : n0 ≤ cap) (hc2 : n0 ≤ 1048576) (k : Nat) (f : Frame) (i : Ins) (hk : fs[k]? = some f) (hkl : k = n0 - 1) (hnl : notes.length ≤ 1000000) (htl : trace.length ≤ 1000000) (hat : 0 ≤ f.at' ∧ f.at' ≤ 1048576) (hok : plB i = true → Ju inp used i k f) : Proc Tryz.prog 35 [.t (.v (.pointer (some ⟨bm, 0, none⟩))), .t i.tt] ([u0, u1]) ([T.Codes x.codes, T.ints inp]) [.obox (.pointer (some ⟨bm, 0, none⟩)) (mC u0 u1 most (Aq bf n0 cap) trace used code value made notes), .row bf cap 11 (fs.map Frame.tt)] (.t (T.bool (plB i))) [.obox (.pointer (some ⟨bm, 0, none⟩)) (mC u0 u1 most (Aq bf n0 cap) (plainTr i f trace) (plainUs inp i used) code value made (plainNo i f notes)), .row bf cap 11 ((C4 inp used i k f fs).map Frame.tt)] := by
 have hlt := Bs hk
 have hvl : (f.vars.map T.int).length = f.vars.length := Qc ..
 have hfl : (f.flags.map T.bool).length = f.flags.length := Qc ..
 have hat0 := hat.1
 have hat1 := hat.2
 refine Proc.intro tys Tryz.func35 Z Z (N := 98) [100, 101] 99 ([(0, .t (.v (.pointer (some ⟨bm, 0, none⟩)))), (1, .t i.tt)]) ([(100, .obox (.pointer (some ⟨bm, 0, none⟩)) (mC u0 u1 most (Aq bf n0 cap) trace used code value made notes)), (101, .row bf cap 11 (fs.map Frame.tt)), (99, .ro [u0, u1] [T.Codes x.codes, T.ints inp])]) Z Z Z Z (by decide) (by decide) Z (fun w0 G F0 => ?_);refine nY Z (W_le (Le.nameR (u := 101) 1101 Z Z Z Z) (nY Z (W_le (Le.openNew (u := 100) 1100 Z Z Z Z Z) (nY Z (W_le (Le.named (t := 0) (u := 100) 1100 Z Z) (nY Z (sG (AZ Z Z (lt_of Z) Z Z (nZ Z (eZ Z (nA (eZ Z ?_))))))))))));refine AQ (rid := 99) [100] 1101 (k) Z Z (lt_of Z) Z Z (by repeat (first | exact ResP.done | refine ResP.t ?_ | refine ResP.pin0 1100 Z ?_ | refine ResP.pinR 1100 Z (by first | rfl | omega) ?_ | refine ResP.nil 1 ?_ | refine ResP.nil' ?_ | refine ResP.own ?_ | refine ResP.sl Z Z (by first | omega | (simp; omega)) ?_)) Z (by repeat (first | exact trivial | refine ⟨OpenAs.same Z rfl, ?_⟩ | refine ⟨OpenAs.box 1100 Z Z Z Z rfl, ?_⟩ | refine ⟨OpenAs.row 1100 Z Z rfl, ?_⟩)) (by decide) (Az bm bf n0 cap _ _ (by omega) hc hc2 _ (by rfl) (by rfl) (by rfl)) Z Z (by first | rfl | omega) ?_;refine eZ Z (nB (sQ (sG (eK 2 Z (nB (AH (sQ (kY [0,3,4,5,9] Z (rG (eK 2 Z (nB ?_)))))))))));refine AC Z (fun h1 => ?_) (fun h1 => ?_)
 ·
  simp only [HS] at h1
  have hpb : plB i = true := by unfold plB; exact decide_eq_true (by omega)
  have hok' := hok hpb
  obtain ⟨o1, o2, o3, o4, o5, o6, o7, o8, o9, o10⟩ := hok'
  have hg : (fs.set k (pushF f i.n))[k]? = some (pushF f i.n) := AU hk
  have hga : (pushF f i.n).at' = f.at' := rfl
  refine rG (eK 3 Z (WO_le (Le.close (u := 100) 1100 Z Z Z) (nZ Z (WO_le (Le.closeR (u := 101) 1101 Z Z) (nZ Z ?_)))));refine AK (rid := 99) [100, 101] Z Z (lt_of Z) Z Z (by repeat (first | exact ResP.done | refine ResP.pin0 1100 Z ?_ | refine ResP.pin0 1101 Z ?_ | refine ResP.t ?_ | refine ResP.pinR 1101 Z (by first | rfl | omega) ?_ | refine ResP.nil 1 ?_ | refine ResP.nil' ?_ | refine ResP.own ?_ | refine ResP.sl Z Z (by first | omega | (simp; omega)) ?_ | refine ResP.aggT (by repeat (first | exact ResP.done | refine ResP.t ?_)) ?_)) Z (by repeat (first | exact trivial | refine ⟨rfl, rfl, ?_⟩)) (by decide) (Bm bm x inp u0 u1 most bf cap fs n0 hn0 trace used code value made notes hc hc2 k f i.n hk hkl (by omega)) Z Z Z ?_;refine nZ Z (WO_le (Le.open (u := 100) 1100 Z Z Z Z) (nZ Z (WO_le (Le.openR (u := 101) 1101 Z Z) (nZ Z (oN (bN (tN (sG (eZ Z ?_)))))))));refine AQ (rid := 99) [100] 1101 (k) Z Z (lt_of Z) Z Z (by repeat (first | exact ResP.done | refine ResP.t ?_ | refine ResP.pin0 1100 Z ?_ | refine ResP.pinR 1100 Z (by first | rfl | omega) ?_ | refine ResP.nil 1 ?_ | refine ResP.nil' ?_ | refine ResP.own ?_ | refine ResP.sl Z Z (by first | omega | (simp; omega)) ?_)) Z (by repeat (first | exact trivial | refine ⟨OpenAs.same Z rfl, ?_⟩ | refine ⟨OpenAs.box 1100 Z Z Z Z rfl, ?_⟩ | refine ⟨OpenAs.row 1100 Z Z rfl, ?_⟩)) (by decide) (Az bm bf n0 cap _ _ (by omega) hc hc2 _ (by rfl) (by rfl) (by rfl)) Z Z (by first | rfl | omega) ?_;refine AE rfl Z (lt_of Z) Z Z Z (kZ [4,91,92] Z (eZ Z (AG tys Z Z (lt_of Z) Z Z Z Z (AM hg) Z (evI ?_))));refine AE rfl Z (lt_of Z) Z Z Z (eZ Z (AJ tys _ Z Z Z Z Z Z (AM hg) Z (AbsL.v' AbsL.nil') Z (by decide) (Qe Z) (nZ Z ?_)))
  first
  | refine WO_le (Le.eqK (id := 101) rfl (congrArg (Blk.L 11) (Av (k := k) (f := goF (pushF f i.n))))) ?_
  refine nZ Z (nZ Z (nA (eZ Z (nB (W_le (Le.closeR (u := 101) 1101 Z Z) (nY Z (W_le (Le.close (u := 100) 1100 Z Z Z) (nY Z (rT ?_)))))))));refine eP [_, _] ?_ ?_
  ·rw [hpb]
   rfl
  ·first
   | (have hop : i.op = 1 := (by assumption); rw [pgo hpb hg (by simp [Ah, plainF, hop])]; simp [plainTr, plainUs, plainNo, hop]; done)
 simp only [HS] at h1;refine sG (eK 2 Z (nB ?_));refine AC Z (fun h2 => ?_) (fun h2 => ?_)
 ·
  simp only [HS] at h2
  have hpb : plB i = true := by unfold plB; exact decide_eq_true (by omega)
  have hok' := hok hpb
  obtain ⟨o1, o2, o3, o4, o5, o6, o7, o8, o9, o10⟩ := hok'
  have hv := o3 (by omega)
  have hav : atI f.vars i.n = f.vars[i.n.toNat]'(by omega) := BV hv.1 hv.2
  have hg : (fs.set k (pushF f (f.vars[i.n.toNat]'(by omega))))[k]? = some (pushF f (f.vars[i.n.toNat]'(by omega))) := AU hk
  have hga : (pushF f (f.vars[i.n.toNat]'(by omega))).at' = f.at' := rfl
  refine Bg (id := 101) (i := k) (off := 4) (z := f.tt) 201 1201 334 Z As (AM hk) Z (by intro h; have := congrArg List.length h; rw [Qc, Qz] at this; omega) Z Z Z Z Z Z (fun b2 cap2 hcap2 => ?_);refine nY Z ?_
  have hz := List.getElem?_set_self (a := (T.agg (f.tt.cells.set 4 (.v (.slice (some ⟨b2, 0, none⟩) (f.vars.map T.int).length cap2))))) (Bu hk)
  refine A4 9 mixed Z (by kernel_rfl) (by kernel_rfl) (evQ ?_);refine evQ ?_;refine AI Z (AL rfl Z (lt_of Z) Z Z Z (evQ ?_));refine CA tys 1201 Z Z (lt_of Z) Z Z Z Z hz Z Z hcap2 (evQ ?_);refine evQ ?_;refine CD tys Z Z (lt_of Z) Z Z Z Z Z Z Z Z (by omega) (by omega) (AI Z (Ae tys Z Z (lt_of Z) Z Z Z Z (BN _ _ (by omega) (by omega)) Z (Ak (WO_le (Le.claimL (id := 101) (id2 := 201) (pid := 1201) (i := k) (off := 4) Z Z Z hz Z (by rfl) Z) ?_))));refine nZ Z (WO_le (Le.eqK (id := 101) Z (congrArg (Blk.L 11) (En hk Z))) (nZ Z (WO_le (Le.close (u := 100) 1100 Z Z Z) (nZ Z (WO_le (Le.closeR (u := 101) 1101 Z Z) (nZ Z ?_))))));refine AK (rid := 99) [100, 101] Z Z (lt_of Z) Z Z (by repeat (first | exact ResP.done | refine ResP.pin0 1100 Z ?_ | refine ResP.pin0 1101 Z ?_ | refine ResP.t ?_ | refine ResP.pinR 1101 Z (by first | rfl | omega) ?_ | refine ResP.nil 1 ?_ | refine ResP.nil' ?_ | refine ResP.own ?_ | refine ResP.sl Z Z (by first | omega | (simp; omega)) ?_ | refine ResP.aggT (by repeat (first | exact ResP.done | refine ResP.t ?_)) ?_)) Z (by repeat (first | exact trivial | refine ⟨rfl, rfl, ?_⟩)) (by decide) (Bm bm x inp u0 u1 most bf cap fs n0 hn0 trace used code value made notes hc hc2 k f _ hk hkl (by omega)) Z Z Z ?_;refine nZ Z (WO_le (Le.open (u := 100) 1100 Z Z Z Z) (nZ Z (WO_le (Le.openR (u := 101) 1101 Z Z) (nZ Z (oN (bN (tN (sG (eZ Z ?_)))))))));refine AQ (rid := 99) [100] 1101 (k) Z Z (lt_of Z) Z Z (by repeat (first | exact ResP.done | refine ResP.t ?_ | refine ResP.pin0 1100 Z ?_ | refine ResP.pinR 1100 Z (by first | rfl | omega) ?_ | refine ResP.nil 1 ?_ | refine ResP.nil' ?_ | refine ResP.own ?_ | refine ResP.sl Z Z (by first | omega | (simp; omega)) ?_)) Z (by repeat (first | exact trivial | refine ⟨OpenAs.same Z rfl, ?_⟩ | refine ⟨OpenAs.box 1100 Z Z Z Z rfl, ?_⟩ | refine ⟨OpenAs.row 1100 Z Z rfl, ?_⟩)) (by decide) (Az bm bf n0 cap _ _ (by omega) hc hc2 _ (by rfl) (by rfl) (by rfl)) Z Z (by first | rfl | omega) ?_;refine AE rfl Z (lt_of Z) Z Z Z (eZ Z (AG tys Z Z (lt_of Z) Z Z Z Z (AM hg) Z (evI ?_)));refine AE rfl Z (lt_of Z) Z Z Z (eZ Z (kZ [4,95,97] Z (AJ tys _ Z Z Z Z Z Z (AM hg) Z (AbsL.v' AbsL.nil') Z (by decide) (Qe Z) (nZ Z ?_))))
  first
  | refine WO_le (Le.eqK (id := 101) rfl (congrArg (Blk.L 11) (Av (k := k) (f := goF (pushF f (f.vars[i.n.toNat]'(by omega))))))) ?_
  refine nZ Z (nZ Z (nA (eZ Z (nB (W_le (Le.closeR (u := 101) 1101 Z Z) (nY Z (W_le (Le.close (u := 100) 1100 Z Z Z) (nY Z (rT ?_)))))))));refine eP [_, _] ?_ ?_
  ·rw [hpb]
   rfl
  ·first
   | (have hop : i.op = 2 := (by assumption); rw [pgo hpb hg (by simp [Ah, plainF, hop, hav])]; simp [plainTr, plainUs, plainNo, hop]; done)
 simp only [HS] at h2;refine sG (eK 2 Z (nB ?_));refine AC Z (fun h3 => ?_) (fun h3 => ?_)
 ·
  simp only [HS] at h3
  have hpb : plB i = true := by unfold plB; exact decide_eq_true (by omega)
  have hok' := hok hpb
  obtain ⟨o1, o2, o3, o4, o5, o6, o7, o8, o9, o10⟩ := hok'
  have hv := o3 (by omega)
  have hp1 := o2 (by omega)
  have hg : (fs.set k { popF f with vars := f.vars.set i.n.toNat (lastI f.pile) })[k]? = some ({ popF f with vars := f.vars.set i.n.toNat (lastI f.pile) }) := AU hk
  have hga : ({ popF f with vars := f.vars.set i.n.toNat (lastI f.pile) } : Frame).at' = f.at' := rfl
  refine Bg (id := 101) (i := k) (off := 4) (z := f.tt) 201 1201 334 Z As (AM hk) Z (by intro h; have := congrArg List.length h; rw [Qc, Qz] at this; omega) Z Z Z Z Z Z (fun b2 cap2 hcap2 => ?_);refine nY Z ?_
  have hz := List.getElem?_set_self (a := (T.agg (f.tt.cells.set 4 (.v (.slice (some ⟨b2, 0, none⟩) (f.vars.map T.int).length cap2))))) (Bu hk)
  refine W_le (Le.closeR (u := 101) 1101 Z Z) (nY Z (W_le (Le.close (u := 100) 1100 Z Z Z) (nY Z ?_)))
  have hz2 : (((fs.map Frame.tt).set k (T.agg (f.tt.cells.set 4 (.v (.slice (some ⟨b2, 0, none⟩) (f.vars.map T.int).length cap2))))).set k (T.agg ((popF f).tt.cells.set 4 (.v (.slice (some ⟨b2, 0, none⟩) (f.vars.map T.int).length cap2)))))[k]? = some (T.agg ((popF f).tt.cells.set 4 (.v (.slice (some ⟨b2, 0, none⟩) (f.vars.map T.int).length cap2)))) := List.getElem?_set_self (by rw [Qo]; exact Bu hk)
  have hcl : ∀ x, x ∈ ((fs.map Frame.tt).set k (T.agg (f.tt.cells.set 4 (.v (.slice (some ⟨b2, 0, none⟩) (f.vars.map T.int).length cap2))))) → (T.cells x).length = 11 := fun x hx => by
   rcases RD hx with hx | rfl
   ·exact As x hx
   ·rfl
  refine Eu 8 (fun s' => lookM s'.M 101 = some (Blk.row bf cap 11 ((fs.map Frame.tt).set k (T.agg (f.tt.cells.set 4 (.v (.slice (some ⟨b2, 0, none⟩) (f.vars.map T.int).length cap2)))))) ∨ lookM s'.M 101 = some (Blk.row bf cap 11 (((fs.map Frame.tt).set k (T.agg (f.tt.cells.set 4 (.v (.slice (some ⟨b2, 0, none⟩) (f.vars.map T.int).length cap2))))).set k (T.agg ((popF f).tt.cells.set 4 (.v (.slice (some ⟨b2, 0, none⟩) (f.vars.map T.int).length cap2))))))) [[100, 101], [100, 101], [100, 101], [100, 101], [100, 101], [100, 101], [], []] mixed Z (by kernel_rfl) (by kernel_rfl) (QV_H (QH_G (QG_ev tys Z Z (lt_of Z) Z (QG_nil (QH_nil (QV_H (QH_G (QG_nil' rfl Z (lt_of Z) Z Z Z (QG_nil (QH_nil (QV_H (QH_G (QG_ev tys Z Z (lt_of Z) Z (QG_nil (QH_nil ?_)))))))))))))));refine Gg tys 1101 1201 Z Z (lt_of Z) Z Z Z (fun s' h => h) Z Z hz hz2 Z Z Z hcap2 (QV_H (QH_G (QG_ev tys Z Z (lt_of Z) Z (QG_nil (QH_nil (QV_H (QH_G (QG_ev tys Z Z (lt_of Z) Z (QG_nil (QH_nil (QV_H (Ab (QG_ev tys Z Z (lt_of Z) Z (QG_nil (QH_nil ?_)))))))))))))));refine QV_H ?_;refine Dh (rid := 99) [100, 101] Z Z (lt_of Z) Z Z (by repeat (first | exact ResP.done | refine ResP.pin0 1100 Z ?_ | refine ResP.pin0 1101 Z ?_ | refine ResP.t ?_ | refine ResP.pinR 1101 Z (by first | rfl | omega) ?_ | refine ResP.nil 1 ?_ | refine ResP.nil' ?_ | refine ResP.own ?_ | refine ResP.sl Z Z (by first | omega | (simp; omega)) ?_ | refine ResP.aggT (by repeat (first | exact ResP.done | refine ResP.t ?_)) ?_)) Z (by repeat (first | exact trivial | refine ⟨rfl, rfl, ?_⟩)) (by decide) (popS_g bm bf n0 cap _ _ _ hcl hc hc2 k _ _ _ _ _ _ _ _ _ _ f.pile hz hkl (by omega) (by omega) hp1 _ (by rfl) (by rfl) (by rfl)) Z Z Z ?_;refine QH_nil (N0 ?_);refine ⟨by kernel_rfl, (fun X => HB (id := 101) Z (by repeat (first | exact trivial | refine ⟨fun p hp he => by first | (cases hp; done) | (rcases Qw.1 hp with rfl; first | rfl | exact absurd he (by decide)) | exact vers2 (fun h => by first | rfl | exact absurd h (by decide)) (fun h => by first | rfl | exact absurd h (by decide)) p hp he, ?_⟩)) X _), ?_⟩;refine nZ Z (AR tys Z Z (lt_of Z) Z Z Z Z Z Z Z Z (by omega) (by omega) (Al tys (T.int (lastI f.pile)) Z Z Z Z Z Z (Qv _) (by omega) Z (AbsL.v' AbsL.nil') Z Z Z (nZ Z (WO_le (Le.openR (u := 101) 1101 Z Z) (nZ Z (WO_le (Le.open (u := 100) 1100 Z Z Z Z) (nZ Z (WO_le (Le.claimL (id := 101) (id2 := 201) (pid := 1201) (i := k) (off := 4) Z Z Z hz2 Z (by rw [Qo]) Z) ?_))))))));refine nZ Z (WO_le (Le.eqK (id := 101) Z (congrArg (Blk.L 11) (NF (fs := fs) (k := k) (f := f) (j := i.n.toNat)))) (nZ Z (nZ Z (oN (bN (tN (sG (eZ Z ?_))))))));refine AQ (rid := 99) [100] 1101 (k) Z Z (lt_of Z) Z Z (by repeat (first | exact ResP.done | refine ResP.t ?_ | refine ResP.pin0 1100 Z ?_ | refine ResP.pinR 1100 Z (by first | rfl | omega) ?_ | refine ResP.nil 1 ?_ | refine ResP.nil' ?_ | refine ResP.own ?_ | refine ResP.sl Z Z (by first | omega | (simp; omega)) ?_)) Z (by repeat (first | exact trivial | refine ⟨OpenAs.same Z rfl, ?_⟩ | refine ⟨OpenAs.box 1100 Z Z Z Z rfl, ?_⟩ | refine ⟨OpenAs.row 1100 Z Z rfl, ?_⟩)) (by decide) (Az bm bf n0 cap _ _ (by omega) hc hc2 _ (by rfl) (by rfl) (by rfl)) Z Z (by first | rfl | omega) ?_;refine AE rfl Z (lt_of Z) Z Z Z (eZ Z (AG tys Z Z (lt_of Z) Z Z Z Z (AM hg) Z (evI ?_)));refine AE rfl Z (lt_of Z) Z Z Z (kZ [4,95,96] Z (eZ Z (AJ tys _ Z Z Z Z Z Z (AM hg) Z (AbsL.v' AbsL.nil') Z (by decide) (Qe Z) (nZ Z ?_))))
  first
  | refine WO_le (Le.eqK (id := 101) rfl (congrArg (Blk.L 11) (Av (k := k) (f := goF { popF f with vars := f.vars.set i.n.toNat (lastI f.pile) })))) ?_
  refine nZ Z (nZ Z (nA (eZ Z (nB (W_le (Le.closeR (u := 101) 1101 Z Z) (nY Z (W_le (Le.close (u := 100) 1100 Z Z Z) (nY Z (rT ?_)))))))));refine eP [_, _] ?_ ?_
  ·rw [hpb]
   rfl
  ·first
   | (have hop : i.op = 3 := (by assumption); rw [pgo hpb hg (by simp [Ah, plainF, hop])]; simp [plainTr, plainUs, plainNo, hop]; done)
 simp only [HS] at h3;refine sG (eK 2 Z (nB ?_));refine AC Z (fun h4 => ?_) (fun h4 => ?_)
 ·
  simp only [HS] at h4
  have hpb : plB i = true := by unfold plB; exact decide_eq_true (by omega)
  have hok' := hok hpb
  obtain ⟨o1, o2, o3, o4, o5, o6, o7, o8, o9, o10⟩ := hok'
  have hg : (fs.set k (pushF f (inN inp used)))[k]? = some (pushF f (inN inp used)) := AU hk
  have hga : (pushF f (inN inp used)).at' = f.at' := rfl
  refine kY [0,4] Z (rG (eK 2 Z (WO_le (Le.close (u := 100) 1100 Z Z Z) (nZ Z ?_))));refine cP [100] (hm := (Mt bm x inp u0 u1 most bf cap fs n0 hn0 trace used code value made notes hc hc2 o6 o7 o8)) (k := ?_);refine nZ Z (WO_le (Le.open (u := 100) 1100 Z Z Z Z) (nZ Z (WO_le (Le.close (u := 100) 1100 Z Z Z) (nZ Z (WO_le (Le.closeR (u := 101) 1101 Z Z) (nZ Z ?_))))));refine AK (rid := 99) [100, 101] Z Z (lt_of Z) Z Z (by repeat (first | exact ResP.done | refine ResP.pin0 1100 Z ?_ | refine ResP.pin0 1101 Z ?_ | refine ResP.t ?_ | refine ResP.pinR 1101 Z (by first | rfl | omega) ?_ | refine ResP.nil 1 ?_ | refine ResP.nil' ?_ | refine ResP.own ?_ | refine ResP.sl Z Z (by first | omega | (simp; omega)) ?_ | refine ResP.aggT (by repeat (first | exact ResP.done | refine ResP.t ?_)) ?_)) Z (by repeat (first | exact trivial | refine ⟨rfl, rfl, ?_⟩)) (by decide) (Bm bm x inp u0 u1 most bf cap fs n0 hn0 trace _ code value made notes hc hc2 k f (inN inp used) hk hkl (by omega)) Z Z Z ?_;refine nZ Z (WO_le (Le.open (u := 100) 1100 Z Z Z Z) (nZ Z (WO_le (Le.openR (u := 101) 1101 Z Z) (nZ Z (oN (bN (tN (sG (eZ Z ?_)))))))));refine AQ (rid := 99) [100] 1101 (k) Z Z (lt_of Z) Z Z (by repeat (first | exact ResP.done | refine ResP.t ?_ | refine ResP.pin0 1100 Z ?_ | refine ResP.pinR 1100 Z (by first | rfl | omega) ?_ | refine ResP.nil 1 ?_ | refine ResP.nil' ?_ | refine ResP.own ?_ | refine ResP.sl Z Z (by first | omega | (simp; omega)) ?_)) Z (by repeat (first | exact trivial | refine ⟨OpenAs.same Z rfl, ?_⟩ | refine ⟨OpenAs.box 1100 Z Z Z Z rfl, ?_⟩ | refine ⟨OpenAs.row 1100 Z Z rfl, ?_⟩)) (by decide) (Az bm bf n0 cap _ _ (by omega) hc hc2 _ (by rfl) (by rfl) (by rfl)) Z Z (by first | rfl | omega) ?_;refine AE rfl Z (lt_of Z) Z Z Z (eZ Z (AG tys Z Z (lt_of Z) Z Z Z Z (AM hg) Z (kZ [4,91,94] Z (evI ?_))));refine AE rfl Z (lt_of Z) Z Z Z (eZ Z (AJ tys _ Z Z Z Z Z Z (AM hg) Z (AbsL.v' AbsL.nil') Z (by decide) (Qe Z) (nZ Z ?_)))
  first
  | refine WO_le (Le.eqK (id := 101) rfl (congrArg (Blk.L 11) (Av (k := k) (f := goF (pushF f (inN inp used)))))) ?_
  refine nZ Z (nZ Z (nA (eZ Z (nB (W_le (Le.closeR (u := 101) 1101 Z Z) (nY Z (W_le (Le.close (u := 100) 1100 Z Z Z) (nY Z (rT ?_)))))))));refine eP [_, _] ?_ ?_
  ·rw [hpb]
   rfl
  ·first
   | (have hop : i.op = 5 := (by assumption); rw [pgo hpb hg (by simp [Ah, plainF, hop])]; simp [plainTr, plainUs, plainNo, hop]; done)
 simp only [HS] at h4;refine sQ (kY [0,3,4,5,9] Z (rG (eK 2 Z (nB ?_))));refine AC Z (fun h5 => ?_) (fun h5 => ?_)
 ·
  simp only [HS] at h5
  have hpb : plB i = true := by unfold plB; exact decide_eq_true (by omega)
  have hok' := hok hpb
  obtain ⟨o1, o2, o3, o4, o5, o6, o7, o8, o9, o10⟩ := hok'
  have hrg := Pv hk (o5 (by omega))
  have hg : ((Lw k f fs).set k (pushF f (recN k f fs)))[k]? = some (pushF f (recN k f fs)) := AU hrg
  have hga : (pushF f (recN k f fs)).at' = f.at' := rfl
  refine rG (eK 2 Z (WO_le (Le.close (u := 100) 1100 Z Z Z) (nZ Z (WO_le (Le.closeR (u := 101) 1101 Z Z) (nZ Z ?_)))));refine AK (rid := 99) [100, 101] Z Z (lt_of Z) Z Z (by repeat (first | exact ResP.done | refine ResP.pin0 1100 Z ?_ | refine ResP.pin0 1101 Z ?_ | refine ResP.t ?_ | refine ResP.pinR 1101 Z (by first | rfl | omega) ?_ | refine ResP.nil 1 ?_ | refine ResP.nil' ?_ | refine ResP.own ?_ | refine ResP.sl Z Z (by first | omega | (simp; omega)) ?_ | refine ResP.aggT (by repeat (first | exact ResP.done | refine ResP.t ?_)) ?_)) Z (by repeat (first | exact trivial | refine ⟨rfl, rfl, ?_⟩)) (by decide) (LN bm x inp u0 u1 most bf cap fs n0 hn0 trace used code value made notes hc hc2 k f hk hkl (o5 (by omega))) Z Z Z ?_;refine nZ Z (WO_le (Le.open (u := 100) 1100 Z Z Z Z) (nZ Z (WO_le (Le.openR (u := 101) 1101 Z Z) (nZ Z (WO_le (Le.close (u := 100) 1100 Z Z Z) (nZ Z (WO_le (Le.closeR (u := 101) 1101 Z Z) (nZ Z ?_))))))));refine AK (rid := 99) [100, 101] Z Z (lt_of Z) Z Z (by repeat (first | exact ResP.done | refine ResP.pin0 1100 Z ?_ | refine ResP.pin0 1101 Z ?_ | refine ResP.t ?_ | refine ResP.pinR 1101 Z (by first | rfl | omega) ?_ | refine ResP.nil 1 ?_ | refine ResP.nil' ?_ | refine ResP.own ?_ | refine ResP.sl Z Z (by first | omega | (simp; omega)) ?_ | refine ResP.aggT (by repeat (first | exact ResP.done | refine ResP.t ?_)) ?_)) Z (by repeat (first | exact trivial | refine ⟨rfl, rfl, ?_⟩)) (by decide) (Bm bm x inp u0 u1 most bf cap (Lw k f fs) n0 (recG_len.trans hn0) trace used code value made notes hc hc2 k f (recN k f fs) hrg hkl (by omega)) Z Z Z ?_;refine nZ Z (WO_le (Le.open (u := 100) 1100 Z Z Z Z) (nZ Z (WO_le (Le.openR (u := 101) 1101 Z Z) (nZ Z (oN (bN (tN (sG (eZ Z ?_)))))))));refine AQ (rid := 99) [100] 1101 (k) Z Z (lt_of Z) Z Z (by repeat (first | exact ResP.done | refine ResP.t ?_ | refine ResP.pin0 1100 Z ?_ | refine ResP.pinR 1100 Z (by first | rfl | omega) ?_ | refine ResP.nil 1 ?_ | refine ResP.nil' ?_ | refine ResP.own ?_ | refine ResP.sl Z Z (by first | omega | (simp; omega)) ?_)) Z (by repeat (first | exact trivial | refine ⟨OpenAs.same Z rfl, ?_⟩ | refine ⟨OpenAs.box 1100 Z Z Z Z rfl, ?_⟩ | refine ⟨OpenAs.row 1100 Z Z rfl, ?_⟩)) (by decide) (Az bm bf n0 cap _ _ (by omega) hc hc2 _ (by rfl) (by rfl) (by rfl)) Z Z (by first | rfl | omega) ?_;refine AE rfl Z (lt_of Z) Z Z Z (kZ [4,91,92] Z (eZ Z (AG tys Z Z (lt_of Z) Z Z Z Z (AM hg) Z (evI ?_))));refine AE rfl Z (lt_of Z) Z Z Z (eZ Z (AJ tys _ Z Z Z Z Z Z (AM hg) Z (AbsL.v' AbsL.nil') Z (by decide) (Qe Z) (nZ Z ?_)))
  first
  | refine WO_le (Le.eqK (id := 101) rfl (congrArg (Blk.L 11) (Av (k := k) (f := goF (pushF f (recN k f fs)))))) ?_
  refine nZ Z (nZ Z (nA (eZ Z (nB (W_le (Le.closeR (u := 101) 1101 Z Z) (nY Z (W_le (Le.close (u := 100) 1100 Z Z Z) (nY Z (rT ?_)))))))));refine eP [_, _] ?_ ?_
  ·rw [hpb]
   rfl
  ·first
   | (have hop : i.op = 6 := (by assumption); rw [pgo hpb hg (by simp [Ah, hop, OZ])]; simp [plainTr, plainUs, plainNo, hop]; done)
 simp only [HS] at h5;refine sG (eK 2 Z (nB ?_));refine AC Z (fun h6 => ?_) (fun h6 => ?_)
 ·
  simp only [HS] at h6
  have hpb : plB i = true := by unfold plB; exact decide_eq_true (by omega)
  have hok' := hok hpb
  obtain ⟨o1, o2, o3, o4, o5, o6, o7, o8, o9, o10⟩ := hok'
  have hp1 := o2 (by omega)
  have hg : (fs.set k (popF f))[k]? = some (popF f) := AU hk
  have hga : (popF f).at' = f.at' := rfl
  refine Ad (u := 100) (idp := 301) (j := 4) Z Z Z (fun v4 => ?_);refine nY Z (W_le (Le.closeR (u := 101) 1101 Z Z) (nY Z (W_le (Le.close (u := 100) 1100 Z Z Z) (nY Z (Eu 10 (fun s' => lookM s'.M 100 = some (Blk.obox (.pointer (some ⟨bm, 0, none⟩)) [.t (.v u0), .t (.v u1), .t (T.int most), Aq bf n0 cap, .t (.v v4), .t (T.int used), .t (T.int code), .t (T.int value), .t (T.int made), .own (.list 3 (notes.map Note.tt))])) [[100, 101, 301], [100, 101], [100, 101], [100, 101], [100, 101], [100, 101], [301], [301], [301], []] mixed Z (by kernel_rfl) (by kernel_rfl) (QV_H (QH_G (QG_ev tys Z Z (lt_of Z) Z (QG_nil (QH_nil (QV_H (QH_G (QG_ev tys Z Z (lt_of Z) Z (QG_nil (QH_nil ?_)))))))))))))));refine QV_H (QH_G (QG_nil' rfl Z (lt_of Z) Z Z Z (QG_nil (QH_nil (QV_H (QH_G (QG_ev tys Z Z (lt_of Z) Z (QG_nil (QH_nil (QV_H (QH_G (QG_ev tys Z Z (lt_of Z) Z (QG_nil (QH_nil (Hg tys 1100 301 Z Z (lt_of Z) Z Z Z (fun s' h => h) Z Z Z Z Z Z ?_)))))))))))))));refine QV_H (QH_G (QG_ev tys Z Z (lt_of Z) Z (QG_nil (QH_nil (QV_H ?_)))));refine Dh (rid := 99) [100, 101] Z Z (lt_of Z) Z Z (by repeat (first | exact ResP.done | refine ResP.pin0 1100 Z ?_ | refine ResP.pin0 1101 Z ?_ | refine ResP.t ?_ | refine ResP.pinR 1101 Z (by first | rfl | omega) ?_ | refine ResP.nil 1 ?_ | refine ResP.nil' ?_ | refine ResP.own ?_ | refine ResP.sl Z Z (by first | omega | (simp; omega)) ?_ | refine ResP.aggT (by repeat (first | exact ResP.done | refine ResP.t ?_)) ?_)) Z (by repeat (first | exact trivial | refine ⟨rfl, rfl, ?_⟩)) (by decide) (G6 bm bf n0 cap _ _ fs hn0 hc hc2 k f hk hkl (by omega) hp1 _ (by rfl) (by rfl) (by rfl)) Z Z Z ?_;refine QH_nil (QV_H (QH_G ?_));refine Cz tys [T.int (lastI f.pile)] Z Z (lt_of Z) Z Z Z Z Z (lt_of Z) (by repeat (first | exact PartsOk.nil' | refine PartsOk.cons' rfl (by repeat (first | exact AbsL.nil' | refine AbsL.v' ?_ | refine AbsL.own' ?_ | refine AbsL.none' ?_)) Z ?_)) Z Z Z (by decide) ?_;refine QG_nil (QH_nil (QV_H (Ab (CJ tys Z Z (lt_of Z) Z Z Z Z Z Z Z Z Z ((fun x hx => by rw [Qw] at hx; subst hx; exact ⟨rfl, fun z hz => ⟨_, by simpa [T.cells] using hz⟩⟩)) (by simp; omega) (by decide) Z ?_))));refine QG_nil (QH_nil (N0 ?_));refine ⟨by kernel_rfl, (fun X => (HB (id := 100) (k0 := Blk.obox (.pointer (some ⟨bm, 0, none⟩)) [.t (.v u0), .t (.v u1), .t (T.int most), Aq bf n0 cap, .t (.v v4), .t (T.int used), .t (T.int code), .t (T.int value), .t (T.int made), .own (.list 3 (notes.map Note.tt))]) (k1 := Blk.obox (.pointer (some ⟨bm, 0, none⟩)) [.t (.v u0), .t (.v u1), .t (T.int most), Aq bf n0 cap, .t (.v v4), .t (T.int used), .t (T.int code), .t (T.int value), .t (T.int made), .own (.list 3 (notes.map Note.tt))]) Z (by repeat (first | exact trivial | refine ⟨fun p hp he => by first | (cases hp; done) | (rcases Qw.1 hp with rfl; first | rfl | exact absurd he (by decide)) | exact vers2 (fun h => by first | rfl | exact absurd h (by decide)) (fun h => by first | rfl | exact absurd h (by decide)) p hp he, ?_⟩)) X _).elim id id), ?_⟩;refine nZ Z (WO_le (Le.openR (u := 101) 1101 Z Z) (nZ Z (WO_le (Le.open (u := 100) 1100 Z Z Z Z) (nZ Z (AE rfl Z (lt_of Z) Z Z Z (eK 2 Z (sT Z (nZ Z (oN (bN (tN (sG (eZ Z ?_)))))))))))));refine AQ (rid := 99) [100] 1101 (k) Z Z (lt_of Z) Z Z (by repeat (first | exact ResP.done | refine ResP.t ?_ | refine ResP.pin0 1100 Z ?_ | refine ResP.pinR 1100 Z (by first | rfl | omega) ?_ | refine ResP.nil 1 ?_ | refine ResP.nil' ?_ | refine ResP.own ?_ | refine ResP.sl Z Z (by first | omega | (simp; omega)) ?_)) Z (by repeat (first | exact trivial | refine ⟨OpenAs.same Z rfl, ?_⟩ | refine ⟨OpenAs.box 1100 Z Z Z Z rfl, ?_⟩ | refine ⟨OpenAs.row 1100 Z Z rfl, ?_⟩)) (by decide) (Az bm bf n0 cap _ _ (by omega) hc hc2 _ (by rfl) (by rfl) (by rfl)) Z Z (by first | rfl | omega) ?_;refine AE rfl Z (lt_of Z) Z Z Z (eZ Z (AG tys Z Z (lt_of Z) Z Z Z Z (AM hg) Z (kZ [4,91,94] Z (evI ?_))));refine AE rfl Z (lt_of Z) Z Z Z (eZ Z (AJ tys _ Z Z Z Z Z Z (AM hg) Z (AbsL.v' AbsL.nil') Z (by decide) (Qe Z) (nZ Z ?_)))
  first
  | refine WO_le (Le.eqK (id := 101) rfl (congrArg (Blk.L 11) (Av (k := k) (f := goF (popF f))))) ?_
  refine nZ Z (nZ Z (nA (eZ Z (nB (W_le (Le.closeR (u := 101) 1101 Z Z) (nY Z (W_le (Le.close (u := 100) 1100 Z Z Z) (nY Z (rT ?_)))))))));refine eP [_, _] ?_ ?_
  ·rw [hpb]
   rfl
  ·first
   | (have hop : i.op = 8 := (by assumption); rw [pgo hpb hg (by simp [Ah, plainF, hop])]; simp [plainTr, plainUs, plainNo, hop]; done)
 simp only [HS] at h6;refine sG (eK 2 Z (nB ?_));refine AC Z (fun h7 => ?_) (fun h7 => ?_)
 ·
  simp only [HS] at h7
  have hpb : plB i = true := by unfold plB; exact decide_eq_true (by omega)
  have hok' := hok hpb
  obtain ⟨o1, o2, o3, o4, o5, o6, o7, o8, o9, o10⟩ := hok'
  have hp1 := o2 (by omega)
  have hg : (fs.set k (popF f))[k]? = some (popF f) := AU hk
  have hga : (popF f).at' = f.at' := rfl
  refine rG (eZ Z (WO_le (Le.close (u := 100) 1100 Z Z Z) (nZ Z (WO_le (Le.closeR (u := 101) 1101 Z Z) (nZ Z ?_)))));refine AK (rid := 99) [100, 101] Z Z (lt_of Z) Z Z (by repeat (first | exact ResP.done | refine ResP.pin0 1100 Z ?_ | refine ResP.pin0 1101 Z ?_ | refine ResP.t ?_ | refine ResP.pinR 1101 Z (by first | rfl | omega) ?_ | refine ResP.nil 1 ?_ | refine ResP.nil' ?_ | refine ResP.own ?_ | refine ResP.sl Z Z (by first | omega | (simp; omega)) ?_ | refine ResP.aggT (by repeat (first | exact ResP.done | refine ResP.t ?_)) ?_)) Z (by repeat (first | exact trivial | refine ⟨rfl, rfl, ?_⟩)) (by decide) (DZ bm x inp u0 u1 most bf cap fs n0 hn0 trace used code value made notes hc hc2 k f hk hkl (by omega) hp1) Z Z Z ?_;refine nZ Z (WO_le (Le.open (u := 100) 1100 Z Z Z Z) (nZ Z (WO_le (Le.openR (u := 101) 1101 Z Z) (nZ Z (oN (bN (tN (sQ (kY [0,4] Z (rG (eZ Z ?_)))))))))));refine AQ (rid := 99) [100] 1101 (k) Z Z (lt_of Z) Z Z (by repeat (first | exact ResP.done | refine ResP.t ?_ | refine ResP.pin0 1100 Z ?_ | refine ResP.pinR 1100 Z (by first | rfl | omega) ?_ | refine ResP.nil 1 ?_ | refine ResP.nil' ?_ | refine ResP.own ?_ | refine ResP.sl Z Z (by first | omega | (simp; omega)) ?_)) Z (by repeat (first | exact trivial | refine ⟨OpenAs.same Z rfl, ?_⟩ | refine ⟨OpenAs.box 1100 Z Z Z Z rfl, ?_⟩ | refine ⟨OpenAs.row 1100 Z Z rfl, ?_⟩)) (by decide) (Az bm bf n0 cap _ _ (by omega) hc hc2 _ (by rfl) (by rfl) (by rfl)) Z Z (by first | rfl | omega) ?_;refine AE rfl Z (lt_of Z) Z Z Z (eZ Z (AG tys Z Z (lt_of Z) Z Z Z Z (AM hg) Z (evI ?_)));refine AE rfl Z (lt_of Z) Z Z Z (eZ Z (AJ tys _ Z Z Z Z Z Z (AM hg) Z (AbsL.v' AbsL.nil') Z (by decide) (Qe Z) (nZ Z ?_)))
  first
  | refine WO_le (Le.eqK (id := 101) rfl (congrArg (Blk.L 11) (Av (k := k) (f := goF (popF f))))) ?_
  refine nZ Z (nZ Z (kZ [4] Z (nA (eZ Z (nB (W_le (Le.closeR (u := 101) 1101 Z Z) (nY Z (W_le (Le.close (u := 100) 1100 Z Z Z) (nY Z (rT ?_))))))))));refine eP [_, _] ?_ ?_
  ·rw [hpb]
   rfl
  ·first
   | (have hop : i.op = 9 := (by assumption); rw [pgo hpb hg (by simp [Ah, plainF, hop])]; simp [plainTr, plainUs, plainNo, hop]; done)
 simp only [HS] at h7;refine sG (eK 2 Z (nB ?_));refine AC Z (fun h8 => ?_) (fun h8 => ?_)
 ·
  simp only [HS] at h8
  have hpb : plB i = true := by unfold plB; exact decide_eq_true (by omega)
  have hok' := hok hpb
  obtain ⟨o1, o2, o3, o4, o5, o6, o7, o8, o9, o10⟩ := hok'
  have hp1 := o2 (by omega)
  have hg : (fs.set k { popF f with res := lastI f.pile })[k]? = some { popF f with res := lastI f.pile } := AU hk
  have hga : ({ popF f with res := lastI f.pile } : Frame).at' = f.at' := rfl
  refine kY [0,4,5] Z (rG (eK 2 Z (WO_le (Le.close (u := 100) 1100 Z Z Z) (nZ Z (WO_le (Le.closeR (u := 101) 1101 Z Z) (nZ Z ?_))))));refine AK (rid := 99) [100, 101] Z Z (lt_of Z) Z Z (by repeat (first | exact ResP.done | refine ResP.pin0 1100 Z ?_ | refine ResP.pin0 1101 Z ?_ | refine ResP.t ?_ | refine ResP.pinR 1101 Z (by first | rfl | omega) ?_ | refine ResP.nil 1 ?_ | refine ResP.nil' ?_ | refine ResP.own ?_ | refine ResP.sl Z Z (by first | omega | (simp; omega)) ?_ | refine ResP.aggT (by repeat (first | exact ResP.done | refine ResP.t ?_)) ?_)) Z (by repeat (first | exact trivial | refine ⟨rfl, rfl, ?_⟩)) (by decide) (DZ bm x inp u0 u1 most bf cap fs n0 hn0 trace used code value made notes hc hc2 k f hk hkl (by omega) hp1) Z Z Z ?_;refine nZ Z (WO_le (Le.open (u := 100) 1100 Z Z Z Z) (nZ Z (WO_le (Le.openR (u := 101) 1101 Z Z) (nZ Z (AE rfl Z (lt_of Z) Z Z Z (eZ Z (AJ tys _ Z Z Z Z Z Z (AM (AU (g := popF f) hk)) Z (AbsL.v' AbsL.nil') Z (by decide) (Qe Z) (nZ Z (WO_le (Le.eqK (id := 101) Z (congrArg (Blk.L 11) (BQ (k := k) (f := { popF f with res := lastI f.pile })))) (nZ Z (nZ Z (oN (bN (tN (sG ?_)))))))))))))));refine eZ Z ?_;refine AQ (rid := 99) [100] 1101 (k) Z Z (lt_of Z) Z Z (by repeat (first | exact ResP.done | refine ResP.t ?_ | refine ResP.pin0 1100 Z ?_ | refine ResP.pinR 1100 Z (by first | rfl | omega) ?_ | refine ResP.nil 1 ?_ | refine ResP.nil' ?_ | refine ResP.own ?_ | refine ResP.sl Z Z (by first | omega | (simp; omega)) ?_)) Z (by repeat (first | exact trivial | refine ⟨OpenAs.same Z rfl, ?_⟩ | refine ⟨OpenAs.box 1100 Z Z Z Z rfl, ?_⟩ | refine ⟨OpenAs.row 1100 Z Z rfl, ?_⟩)) (by decide) (Az bm bf n0 cap _ _ (by omega) hc hc2 _ (by rfl) (by rfl) (by rfl)) Z Z (by first | rfl | omega) ?_;refine AE rfl Z (lt_of Z) Z Z Z (kZ [4,91,92] Z (eZ Z (AG tys Z Z (lt_of Z) Z Z Z Z (AM hg) Z (evI ?_))));refine AE rfl Z (lt_of Z) Z Z Z (eZ Z (AJ tys _ Z Z Z Z Z Z (AM hg) Z (AbsL.v' AbsL.nil') Z (by decide) (Qe Z) (nZ Z ?_)))
  first
  | refine WO_le (Le.eqK (id := 101) rfl (congrArg (Blk.L 11) (Av (k := k) (f := goF { popF f with res := lastI f.pile })))) ?_
  refine nZ Z (nZ Z (nA (eZ Z (nB (W_le (Le.closeR (u := 101) 1101 Z Z) (nY Z (W_le (Le.close (u := 100) 1100 Z Z Z) (nY Z (rT ?_)))))))));refine eP [_, _] ?_ ?_
  ·rw [hpb]
   rfl
  ·first
   | (have hop : i.op = 15 := (by assumption); rw [pgo hpb hg (by simp [Ah, plainF, hop])]; simp [plainTr, plainUs, plainNo, hop]; done)
 simp only [HS] at h8;refine sQ (kY [0,3,4,5,9] Z (rG (eK 2 Z (nB ?_))));refine AC Z (fun h9 => ?_) (fun h9 => ?_)
 rotate_left
 ·
  simp only [HS] at h9;refine sG (eZ Z (nB (W_le (Le.closeR (u := 101) 1101 Z Z) (nY Z (W_le (Le.close (u := 100) 1100 Z Z Z) (nY Z (rT (bR (tR ?_)))))))));refine eP [_, _] ?_ ?_
  ·(have hn : plB i = false := (by unfold plB; exact decide_eq_false (by omega)); rw [hn]; rfl)
  ·first
   | (have hn : plB i = false := (by unfold plB; exact decide_eq_false (by omega)); rw [C4, hn, if_neg Bool.false_ne_true, show plainTr i f trace = trace from if_neg (by omega), show plainUs inp i used = used from if_neg (fun h => absurd h.1 (by omega)), show plainNo i f notes = notes from if_neg (by omega)])
 simp only [HS] at h9;refine sQ ?_
 have hpb : plB i = true := by unfold plB; exact decide_eq_true (by omega)
 have hok' := hok hpb
 obtain ⟨o1, o2, o3, o4, o5, o6, o7, o8, o9, o10⟩ := hok'
 have hv := o4 (by omega)
 have hg : (fs.set k { f with flags := f.flags.set i.n.toNat true })[k]? = some { f with flags := f.flags.set i.n.toNat true } := AU hk
 have hga : ({ f with flags := f.flags.set i.n.toNat true } : Frame).at' = f.at' := rfl
 refine Bg (id := 101) (i := k) (off := 5) (z := f.tt) 202 1202 335 Z As (AM hk) Z (by intro h; have := congrArg List.length h; rw [Qc, Qz] at this; omega) Z Z Z Z Z Z (fun b2 cap2 hcap2 => ?_);refine nY Z ?_
 have hz := List.getElem?_set_self (a := (T.agg (f.tt.cells.set 5 (.v (.slice (some ⟨b2, 0, none⟩) (f.flags.map T.bool).length cap2))))) (Bu hk)
 refine A4 7 mixed Z (by kernel_rfl) (by kernel_rfl) (evQ ?_);refine AL rfl Z (lt_of Z) Z Z Z (evQ ?_);refine CA tys 1202 Z Z (lt_of Z) Z Z Z Z hz Z Z hcap2 (AI Z (evQ ?_));refine evQ ?_;refine CD tys Z Z (lt_of Z) Z Z Z Z Z Z Z Z (by omega) (by omega) (Ak (Al tys (T.bool true) Z Z Z Z Z Z (Qv _) (by omega) Z (AbsL.v' AbsL.nil') Z Z Z (nZ Z (WO_le (Le.claimL (id := 101) (id2 := 202) (pid := 1202) (i := k) (off := 5) Z Z Z hz Z (by rw [Qo]) Z) ?_))));refine nZ Z (WO_le (Le.eqK (id := 101) Z (congrArg (Blk.L 11) (Kd (fs := fs) (k := k) (f := f) (j := i.n.toNat)))) (nZ Z (nZ Z (nB (rG (eK 3 Z (WO_le (Le.close (u := 100) 1100 Z Z Z) (nZ Z (WO_le (Le.closeR (u := 101) 1101 Z Z) (nZ Z ?_))))))))));refine AK (rid := 99) [100, 101] Z Z (lt_of Z) Z Z (by repeat (first | exact ResP.done | refine ResP.pin0 1100 Z ?_ | refine ResP.pin0 1101 Z ?_ | refine ResP.t ?_ | refine ResP.pinR 1101 Z (by first | rfl | omega) ?_ | refine ResP.nil 1 ?_ | refine ResP.nil' ?_ | refine ResP.own ?_ | refine ResP.sl Z Z (by first | omega | (simp; omega)) ?_ | refine ResP.aggT (by repeat (first | exact ResP.done | refine ResP.t ?_)) ?_)) Z (by repeat (first | exact trivial | refine ⟨rfl, rfl, ?_⟩)) (by decide) (FY bm x inp u0 u1 most bf cap (fs.set k { f with flags := f.flags.set i.n.toNat true }) n0 (by rw [Qo]; exact hn0) trace used code value made notes hc hc2 k { f with flags := f.flags.set i.n.toNat true } 1 i.n hg hkl hnl) Z Z Z ?_;refine nZ Z (WO_le (Le.open (u := 100) 1100 Z Z Z Z) (nZ Z (WO_le (Le.openR (u := 101) 1101 Z Z) (nZ Z (oN (bN (tN (sG (eZ Z ?_)))))))));refine AQ (rid := 99) [100] 1101 (k) Z Z (lt_of Z) Z Z (by repeat (first | exact ResP.done | refine ResP.t ?_ | refine ResP.pin0 1100 Z ?_ | refine ResP.pinR 1100 Z (by first | rfl | omega) ?_ | refine ResP.nil 1 ?_ | refine ResP.nil' ?_ | refine ResP.own ?_ | refine ResP.sl Z Z (by first | omega | (simp; omega)) ?_)) Z (by repeat (first | exact trivial | refine ⟨OpenAs.same Z rfl, ?_⟩ | refine ⟨OpenAs.box 1100 Z Z Z Z rfl, ?_⟩ | refine ⟨OpenAs.row 1100 Z Z rfl, ?_⟩)) (by decide) (Az bm bf n0 cap _ _ (by omega) hc hc2 _ (by rfl) (by rfl) (by rfl)) Z Z (by first | rfl | omega) ?_;refine AE rfl Z (lt_of Z) Z Z Z (eZ Z (kZ [4,91,93] Z (AG tys Z Z (lt_of Z) Z Z Z Z (AM hg) Z (evI ?_))));refine AE rfl Z (lt_of Z) Z Z Z (eZ Z (AJ tys _ Z Z Z Z Z Z (AM hg) Z (AbsL.v' AbsL.nil') Z (by decide) (Qe Z) (nZ Z ?_)))
 first
 | refine WO_le (Le.eqK (id := 101) rfl (congrArg (Blk.L 11) (Av (k := k) (f := goF { f with flags := f.flags.set i.n.toNat true })))) ?_
 refine nZ Z (nZ Z (nA (eZ Z (nB (W_le (Le.closeR (u := 101) 1101 Z Z) (nY Z (W_le (Le.close (u := 100) 1100 Z Z Z) (nY Z (rT ?_)))))))));refine eP [_, _] ?_ ?_
 ·rw [hpb]
  rfl
 ·first
  | (have hop : i.op = 12 := (by assumption); rw [pgo hpb hg (by simp [Ah, plainF, hop])]; simp [plainTr, plainUs, plainNo, hop]; done)
end Go.Proofs.YtljnifnbldfboaaGreat
