/- Walks and laws of the claim. -/
import Derived.Test.YtddfnpiikkilhaaGreatGb
import Derived.Test.YtddfnpiikkilhaaGreatFa
import Derived.Test.YtddfnpiikkilhaaGreatMb
import Derived.Test.YtddfnpiikkilhaaGreatMd
import Derived.Test.YtddfnpiikkilhaaGreatMe
import Derived.Test.YtddfnpiikkilhaaGreatMc
set_option linter.unusedVariables false
set_option linter.unusedSimpArgs false
set_option maxRecDepth 10000
set_option maxHeartbeats 1000000
namespace Go.Proofs.YtddfnpiikkilhaaGreat
open Go.Eng
open Go.Eng
def reachP (p : Prog) (fn : Int) : List Int := CC p.funcs.length (AE p) fn
theorem Nn {l : List Int} : ∀ {m : List Int}, l.Nodup → (∀ x, x ∈ l → x ∈ m) → l.length ≤ m.length := by
 induction l with
 | nil => intro m _ _; exact Nat.zero_le _
 | cons x l ih =>
  intro m hn hm;rw [SO] at hn
  have hx := hm x (SU ..)
  have := ih (m := m.erase x) hn.2 fun y hy => (List.mem_erase_of_ne fun e => hn.1 (by rw [← e]; exact hy)).2 (hm y (SV _ hy))
  have h2 := List.length_erase_of_mem hx
  have h3 := List.length_pos_of_mem hx
  rw [SG]; omega
structure Met (N : Nat) (calls : Int → List Int) (fn : Int) (met : List Int) (k : Nat) : Prop where
 nodup : met.Nodup
 lead : ∀ x, x ∈ met → Lead calls fn x
 first : fn ∈ met
 closed : ∀ (i : Nat) (h : i < met.length), i < k → ∀ c, c ∈ calls met[i] → c ∈ met
section
variable {N : Nat} {calls : Int → List Int} {fn : Int} {met : List Int} {k : Nat}
theorem Met.start : Met N calls fn [fn] 0 := ⟨by simp, fun x hx => by rw [SN] at hx; subst hx; exact .refl, SN.2 rfl, fun i _ h => by omega⟩
theorem Met.inN (h : Met N calls fn met k) (hc : InN N calls) (h0 : 0 ≤ fn) (h1 : fn < N) {x : Int} (hx : x ∈ met) : 0 ≤ x ∧ x < N := BW hc h0 h1 (h.lead x hx)
theorem Met.len (h : Met N calls fn met k) (hc : InN N calls) (h0 : 0 ≤ fn) (h1 : fn < N) : met.length ≤ N := by
 have := Nn (m := CL N) h.nodup fun x hx => mem_upto.2 (h.inN hc h0 h1 hx)
 rwa [Ar] at this
theorem Met.add (h : Met N calls fn met k) (hk : k ≤ met.length) {x y : Int} (hx : x ∈ met) (hy : y ∈ calls x) (hn : y ∉ met) : Met N calls fn (met ++ [y]) k := by
 refine ⟨?_, fun z hz => ?_, Sj _ h.first, fun i hi hik c hcc => ?_⟩
 ·rw [SK]
  exact ⟨h.nodup, by simp, fun a ha b hb e => hn (by rw [SN] at hb; rw [← hb, ← e]; exact ha)⟩
 ·rcases SF.1 hz with hz | hz
  ·exact h.lead z hz
  ·rw [SN] at hz; subst hz; exact .step (h.lead x hx) hy
 ·rw [List.getElem_append_left (by omega)] at hcc
  exact Sj _ (h.closed i (by omega) hik c hcc)
theorem Met.next (h : Met N calls fn met k) (hk : k < met.length) (hc : ∀ c, c ∈ calls met[k] → c ∈ met) : Met N calls fn met (k + 1) :=
 ⟨h.nodup, h.lead, h.first, fun i hi hik => by
  by_cases e : i = k
  ·subst e; exact hc
  ·exact h.closed i hi (by omega)⟩
theorem Met.done (h : Met N calls fn met k) (hc : InN N calls) (h0 : 0 ≤ fn) (h1 : fn < N) (hN : N ≤ 5) (hk : met.length ≤ k) : G5 5 met = CC N calls fn := by
 refine EZ (Ci ..) (Ci ..) fun x => ?_
 rw [FV (S := fun x => x ∈ met) hc h0 h1 h.first (fun x hx c hcc => by
  obtain ⟨i, hi, rfl⟩ := Se hx
  exact h.closed i hi (by omega) c hcc) h.lead]
 rw [mem_setN];refine ⟨fun h => h.2, fun hx => ⟨?_, hx⟩⟩
 have := h.inN hc h0 h1 hx
 omega
end
theorem PN {fn : Int} (h0 : 0 ≤ fn) (h1 : fn < 5) : [fn] = G5 5 [fn] := by
 refine EZ (by simp) (Ci ..) fun x => ?_
 rw [mem_setN];exact ⟨fun h => ⟨by rw [SN] at h; subst h; exact ⟨h0, h1⟩, h⟩, fun h => h.2⟩
theorem Cm (p : Prog) (fn : Int) (hp : p.ok 1048576) (hg : goodP p = true) (hn0 : 0 ≤ fn) (hn1 : fn < p.funcs.length) : Fun Tryz.prog 55 [.t p.tt, .t (.int fn)] (Av [.t (T.ints (reachP p fn))]) := by
  have hgl := AV hg
  have hin := Ax hg
  refine Fun.begin tys Tryz.func55 Z Z (N := 44) [(0, .t p.tt), (1, .t (.int fn))] Z Z (fun w0 G F0 => ?_);refine sG (AR Z Z (AA Z) Z Z (nZ Z (eZ Z (nA (eZ Z ?_)))));refine On tys [T.int fn] Z Z (AA Z) Z Z Z Z Z (by decide) (by repeat (first | exact PartsF.nil' | refine PartsF.cons' rfl Z ?_)) Z ?_;refine nZ Z (eZ Z (nA (eZ Z (bZ [T.int fn] ?_))));refine nZ Z (eZ Z (nB (sQ (sQ (kY [2,4,5,6] Z (rG (eZ Z (nB (AD ?_)))))))));refine lK (α := Int × Nat × List T × List Int) [2] [2] (fun x => [(7, .t (.int (x.1))), (6, .sl 13 0 (x.2.1)), (5, .t (T.ints (x.2.2.2)))]) (fun x => [(13, .L 1 (x.2.2.1))]) (fun x => ∃ met : List Int, 0 ≤ (x.1) ∧ (x.1) ≤ met.length ∧ (x.2.1) = (x.2.2.1).length ∧ (x.2.2.1) = met.map T.int ∧ (x.2.2.2) = G5 5 met ∧ Met p.funcs.length (AE p) fn met (x.1).toNat) (fun x => Int.toNat (5 - (x.1))) (0, 1, [T.int fn], [fn]) ?_ (fun x hx => ?_)
  · exact ⟨[fn], by omega, by simp, rfl, rfl, PN hn0 (by omega), Met.start⟩
  obtain ⟨k, m, ms, out⟩ := x
  obtain ⟨met, hk0, hk1, hm, hms, hout, hmet⟩ := hx
  dsimp only at hk0 hk1 hm hms hout hmet ⊢;refine nY Z (sQ (sG (eK 2 Z (evE ?_))));refine eZ Z (nB ?_);refine AB Z (fun h1 => ?_) (fun h1 => ?_)
  ·
    simp only [HS] at h1;refine AC (tN (sQ (AD (sQ (Am BJ (by kernel_rfl) ?_)))))
    have hmm : ms.length = met.length := by rw [hms, SE]
    have hml := hmet.len hin hn0 hn1
    have hcl := Bo p (met[k.toNat]'(by omega))
    have hxm : met[k.toNat]'(by omega) ∈ met := SJ _
    have hxi := hmet.inN hin hn0 hn1 hxm
    refine QL_evZ tys Z Z (AA Z) Z Z (evQ ?_);refine AU Z (evQ ?_);refine Gz tys Z Z (AA Z) Z Z Z Z Z Z Z Z (by omega) (by omega) (F5 tys Z Z (AA Z) Z Z Z Z (by rw [hms]; exact Dk T.int met (by omega) (by omega)) Z ?_);refine QT Z Z (AA Z) Z Z Z Z Z (Di p _ hp hg hxi.1 hxi.2) Z (evEQ ?_);refine evQ ?_;refine AU Z (BE (tN (AD ?_)));refine lK (α := Int × Nat × List T × List Int) [2, 7, 25, 26] [2] (fun x => [(27, .t (.int (x.1))), (6, .sl 13 0 (x.2.1)), (5, .t (T.ints (x.2.2.2)))]) (fun x => [(13, .L 1 (x.2.2.1))]) (fun x => ∃ met2 : List Int, 0 ≤ (x.1) ∧ (x.1) ≤ (AE p (met[k.toNat]'(by omega))).length ∧ (x.2.1) = (x.2.2.1).length ∧ (x.2.2.1) = met2.map T.int ∧ (x.2.2.2) = G5 5 met2 ∧ Met p.funcs.length (AE p) fn met2 k.toNat ∧ met.length ≤ met2.length ∧ met2[k.toNat]? = some (met[k.toNat]'(by omega)) ∧ ∀ c, c ∈ (AE p (met[k.toNat]'(by omega))).take (x.1).toNat → c ∈ met2) (fun x => Int.toNat ((AE p (met[k.toNat]'(by omega))).length - (x.1))) (0, m, ms, out) ?_ (fun x hx => ?_)
    · exact ⟨met, by omega, by omega, hm, hms, hout, hmet, SR _, List.getElem?_eq_getElem (l := met) (by omega), by simp⟩
    obtain ⟨j, m2, ms2, o2⟩ := x
    obtain ⟨met2, hj0, hj1, hm2, hms2, ho2, hmet2, hle, hat, hcs⟩ := hx
    dsimp only at hj0 hj1 hm2 hms2 ho2 hmet2 hle hat hcs ⊢;refine nY Z (sG (eZ Z (nB (sQ ?_))));refine AB Z (fun h2 => ?_) (fun h2 => ?_)
    ·
      simp only [HS] at h2;refine AC (tN (sQ (AD (sG ?_))));refine iY (k := ?_);refine eK 2 Z (nA (eK 2 Z (AJ ?_)));refine ⟨_, argI hms2 (Je met2 _ (by have := hmet2.len hin hn0 hn1; omega)), rfl, ?_⟩;refine eZ Z (nB ?_);refine AB Z (fun h3 => ?_) (fun h3 => ?_)
      ·
        simp only [HS] at h3;refine sQ (kY [2,5,6,7,9,25,26,27,28,29,30,31,32,33,34] Z (rG ?_))
        have hml2 := hmet2.len hin hn0 hn1
        refine eK 2 Z (bZ [T.int ((AE p (met[k.toNat]'(by omega)))[j.toNat]'(by omega))] ?_);refine nZ Z (AH tys Z Z (AA Z) Z Z Z Z Z (.own Z (by first | omega | (simp only [SD]; omega))) Z (.own Z (by first | decide | omega)) (by decide) (by simp only [SM, SG, List.length_nil]; rw [hms2, SE]; omega) (by decide) Z ?_);refine nZ Z (eZ Z (nB (rG (eK 2 Z (A2 Z Z (AA Z) Z Z Z Z Z (GY _ _ (by rw [ho2]; exact Sl (Fm _ _) (by decide)) (by rw [ho2]; exact GD _ _)) Z ?_)))));refine eZ Z (kZ [2,5,6,7,9,25,26,27,28,29,30,31,32,33,34,35,36,37,38,39,40,41] Z (oN (bN (tN (rG (evI ?_))))));refine eZ Z (oN ?_);refine lQ (_, _, _, _) ?_ ?_
        · dsimp only
          have hcj : (AE p (met[k.toNat]'(by omega)))[j.toNat]'(by omega) ∈ AE p (met[k.toNat]'(by omega)) := SJ _
          have hkm : met[k.toNat]'(by omega) ∈ met2 := Sn hat
          first
          | (subst hm2
             refine ⟨met2 ++ [(AE p (met[k.toNat]'(by omega)))[j.toNat]'(by omega)], by omega, by omega, by simp, by rw [SY, hms2]; simp, ?_, hmet2.add (by omega) hkm hcj h3, by simp; omega, ?_, ?_⟩
             · rw [ho2, Hr (hin _ _ hcj).1 (by have := (hin _ _ hcj).2; omega)]
             · rw [List.getElem?_append_left (by omega)]; exact hat
             · intro c hc
               rw [BU hj0 (by omega), SF, SN] at hc
               rcases hc with hc | rfl
               · exact Sj _ (hcs c hc)
               · exact Sk _ (SN.2 rfl))
        · (show Int.toNat _ < Int.toNat _); omega
      simp only [HS] at h3;refine AC (bN (tN (kY [2,5,6,7,9,25,26,27,28,29,30,31,32,33,34] Z (rG (evI ?_)))));refine eZ Z (oN ?_);refine lQ (_, _, _, _) ?_ ?_
      · dsimp only
        have hcj : (AE p (met[k.toNat]'(by omega)))[j.toNat]'(by omega) ∈ AE p (met[k.toNat]'(by omega)) := SJ _
        have hkm : met[k.toNat]'(by omega) ∈ met2 := Sn hat
        first
        | (refine ⟨met2, by omega, by omega, hm2, hms2, ho2, hmet2, hle, hat, ?_⟩
           intro c hc;rw [BU hj0 (by omega), SF, SN] at hc
           rcases hc with hc | rfl
           · exact hcs c hc
           · exact h3)
      · (show Int.toNat _ < Int.toNat _); omega
    simp only [HS] at h2;refine AP (tE (AK (AI (bN (tN (rG (eZ Z (evI ?_))))))));refine eZ Z (oN ?_);refine lQ (_, _, _, _) ?_ ?_
    · dsimp only
      have hk : k.toNat < met2.length := by omega
      have he : met2[k.toNat] = met[k.toNat]'(by omega) := by rw [List.getElem?_eq_getElem hk] at hat; exact Option.some.inj hat
      refine ⟨met2, by omega, by omega, hm2, hms2, ho2, ?_⟩;rw [show (k + 1).toNat = k.toNat + 1 from by omega];refine hmet2.next hk ?_;rw [he]
      rwa [Af (by omega)] at hcs
    · (show Int.toNat _ < Int.toNat _); omega
  simp only [HS] at h1;refine AP (tE (AK (AI (tN (sG (eK 2 Z (nB (rT (eR ?_)))))))))
  · refine PX ?_
    rw [hout, hmet.done hin hn0 hn1 (by omega) (by have hmm : ms.length = met.length := (by rw [hms, SE]); omega)];rfl
structure Dfs (calls : Int → List Int) (fn : Int) (S ol : List Int) : Prop where
 leadS : ∀ x, x ∈ S → Lead calls fn x
 leadO : ∀ x, x ∈ ol → Lead calls fn x
 first : fn ∈ S ∨ fn ∈ ol
 closed : ∀ x, x ∈ S → ∀ c, c ∈ calls x → c ∈ S ∨ c ∈ ol
section
variable {N : Nat} {calls : Int → List Int} {fn x : Int} {S ol : List Int}
theorem Dfs.skip (h : Dfs calls fn S (ol ++ [x])) (hx : x ∈ S) : Dfs calls fn S ol := by
 have key : ∀ c, c ∈ ol ++ [x] → c ∈ S ∨ c ∈ ol := fun c hc => by
  rcases SF.1 hc with hc | hc
  ·exact .inr hc
  ·rw [SN] at hc; subst hc; exact .inl hx
 exact ⟨h.leadS, fun y hy => h.leadO y (Sj _ hy), h.first.elim .inl (key fn), fun y hy c hc => (h.closed y hy c hc).elim .inl (key c)⟩
theorem Dfs.take (h : Dfs calls fn S (ol ++ [x])) : Dfs calls fn (S ++ [x]) (ol ++ calls x) := by
 have hx : Lead calls fn x := h.leadO x (Sk _ (SN.2 rfl))
 have key : ∀ c, c ∈ S ∨ c ∈ ol ++ [x] → c ∈ S ++ [x] ∨ c ∈ ol ++ calls x := fun c hc => by
  rcases hc with hc | hc
  ·exact .inl (Sj _ hc)
  ·rcases SF.1 hc with hc | hc
   ·exact .inr (Sj _ hc)
   ·exact .inl (Sk _ hc)
 refine ⟨fun y hy => ?_, fun y hy => ?_, key fn h.first, fun y hy c hc => ?_⟩
 ·rcases SF.1 hy with hy | hy
  ·exact h.leadS y hy
  ·rw [SN] at hy; subst hy; exact hx
 ·rcases SF.1 hy with hy | hy
  ·exact h.leadO y (Sj _ hy)
  ·exact .step hx hy
 ·rcases SF.1 hy with hy | hy
  ·exact key c (h.closed y hy c hc)
  ·rw [SN] at hy; subst hy; exact .inr (Sk _ hc)
theorem Dfs.done (h : Dfs calls fn S []) (hc : InN N calls) (h0 : 0 ≤ fn) (h1 : fn < N) : EF N (fun x => decide (x ∈ S)) = CC N calls fn := by
 refine EZ (Ci ..) (Ci ..) fun x => ?_
 rw [FV (S := fun x => x ∈ S) hc h0 h1 (h.first.elim id fun h => by cases h) (fun x hx c hcc => (h.closed x hx c hcc).elim id fun h => by cases h) h.leadS];rw [mem_pickN, decide_eq_true_eq];exact ⟨fun h => h.2, fun hx => ⟨BW hc h0 h1 (h.leadS x hx), hx⟩⟩
end
def unB : List T → Int
 | [] => 0
 | .v (.bool false) :: l => unB l + 1
 | _ :: l => unB l
def unS (N : Nat) (S : List Int) : Nat := ((CL N).filter fun x => decide (x ∉ S)).length
theorem M4 (S : List Int) : ∀ l : List Int, unB (l.map fun n => T.bool (decide (n ∈ S))) = ((l.filter fun x => decide (x ∉ S)).length : Nat)
 | [] => rfl
 | n :: l => by
  have ih := M4 S l
  rw [Si, S1]
  by_cases h : n ∈ S
  ·simp only [h, decide_true, not_true_eq_false, decide_false]
   exact ih
  ·simp only [h, decide_false, not_false_eq_true, decide_true, if_true, SG]
   show unB _ + 1 = _;rw [ih]; omega
theorem F9 (N : Nat) (S : List Int) : unB (marks N S) = unS N S := M4 S _
theorem K5 {N : Nat} {S : List Int} {x : Int} (h0 : 0 ≤ x) (h1 : x < N) (h : x ∉ S) : unS N (S ++ [x]) < unS N S := by
 refine Et (fun y _ hy => ?_) ⟨x, mem_upto.2 ⟨h0, h1⟩, by simpa using h, by simp⟩;simp only [decide_eq_true_eq] at hy ⊢
 exact fun h => hy (Sj _ h)
theorem unS_le (N : Nat) (S : List Int) : unS N S ≤ N := by
 have := List.length_filter_le (fun x => decide (x ∉ S)) (CL N)
 rw [Ar] at this; exact this
theorem Pt {os : List T} {ol : List Int} {m : Nat} {k : Int} (h : os.take m = ol.map T.int) (hk0 : 0 ≤ k) (hk : k < m) (hm : m ≤ os.length) : ∃ h : k.toNat < ol.length, os[0 + k.toNat]? = some (T.int (ol[k.toNat]'h)) := by
 have hl := congrArg List.length h
 rw [SM, SE] at hl;refine ⟨by omega, ?_⟩
 have h2 := congrArg (fun l => l[k.toNat]?) h
 simp only [List.getElem?_map] at h2;rw [List.getElem?_take_of_lt (by omega), List.getElem?_eq_getElem (l := ol) (by omega)] at h2;rw [SS, h2]; rfl
theorem L4 {ol : List Int} {k : Nat} (h : ol.length = k + 1) : ol = ol.take k ++ [ol[k]'(by omega)] := by
 conv => lhs; rw [← S4 k ol]
 rw [Sr (by omega), List.drop_of_length_le (by omega)]
theorem CE (p : Prog) (fn : Int) (hp : p.ok 1048576) (hg : goodP p = true) (hn0 : 0 ≤ fn) (hn1 : fn < p.funcs.length) : Fun Tryz.prog 53 [.t p.tt, .t (.int fn)] (Av [.own (T.ints (reachP p fn))]) := by
  have hgl := AV hg
  have hin := Ax hg
  refine Fun.begin tys Tryz.func53 Z Z (N := 61) [(0, .t p.tt), (1, .t (.int fn))] Z Z (fun w0 G F0 => ?_);refine sG (AR Z Z (AA Z) Z Z (nZ Z (eZ Z (nA (eK 2 Z (evE ?_))))));refine FQ tys (.v (.bool false)) _ Z Z (AA Z) Z Z Z Z Z (by repeat (first | exact AbsL.nil' | refine AbsL.v' ?_ | refine AbsL.none' ?_)) Z (by omega) (by decide) ?_;refine nZ Z (eZ Z (nB (sQ (kY [1,2,4,5] Z (rG (eZ Z (bZ [T.int fn] ?_)))))));refine nZ Z (eZ Z (nB (sQ (AD ?_))));refine lK (α := Nat × List T × List T) [2] [2] (fun x => [(6, .sl 16 0 (x.1)), (5, .sl 14 0 p.funcs.length)]) (fun x => [(16, .L 1 (x.2.1)), (14, .L 1 (x.2.2))]) (fun x => ∃ S ol : List Int, (x.1) ≤ (x.2.1).length ∧ (x.2.1).take (x.1) = ol.map T.int ∧ (x.2.2) = marks p.funcs.length S ∧ Dfs (AE p) fn S ol ∧ (x.1) + 5 * unS p.funcs.length S ≤ 26) (fun x => Int.toNat (6 * unB (x.2.2) + (x.1))) (1, [T.int fn], List.replicate p.funcs.length (T.bool false)) ?_ (fun x hx => ?_)
  · refine ⟨[], [fn], by simp, rfl, JW _, ⟨by simp, ?_, .inr (by simp), by simp⟩, ?_⟩
    · intro x hx; rw [SN] at hx; subst hx; exact .refl
    · have := unS_le p.funcs.length []; show 1 + _ ≤ _; omega
  obtain ⟨m, os, bs⟩ := x
  obtain ⟨S, ol, hml, hos, hbs, hd, hsz⟩ := hx
  dsimp only at hml hos hbs hd hsz ⊢;refine nY Z (sQ (sG (eZ Z (evE ?_))));refine eZ Z (nB ?_);refine AB Z (fun h1 => ?_) (fun h1 => ?_)
  ·
    simp only [HS] at h1;refine AC (tN (AD (sG (eK 2 Z (evE ?_)))));refine evI ?_
    obtain ⟨hxl, hxe⟩ := Pt hos (k := (m : Int) - 1) (by omega) (by omega) hml
    have hxi := BW hin hn0 hn1 (hd.leadO _ (SJ hxl))
    have hos' : ol.length = ((m : Int) - 1).toNat + 1 := by have := congrArg List.length hos; simp only [SM, SE] at this; omega
    have hsp := L4 hos'
    have hbl : bs.length = p.funcs.length := by rw [hbs, CW]
    have htk : os.take (((m : Int) - 1).toNat - (0 : Int).toNat) = (ol.take ((m : Int) - 1).toNat).map T.int := by
      have := congrArg (List.take ((m : Int) - 1).toNat) hos
      rw [List.take_take, Nat.min_eq_left (by omega)] at this;rw [List.map_take, ← this]; rfl
    have hfs : G5 5 (EP (p.funcs[(ol[((m : Int) - 1).toNat]'hxl).toNat]'(by omega)).stmts) = AE p (ol[((m : Int) - 1).toNat]'hxl) := by rw [AE, FE, ← Ay (by omega)]
    have hcl := Bo p (ol[((m : Int) - 1).toNat]'hxl)
    have hd' : Dfs (AE p) fn S (ol.take ((m : Int) - 1).toNat ++ [ol[((m : Int) - 1).toNat]'hxl]) := by rw [← hsp]; exact hd
    refine Ac tys Z Z (AA Z) Z Z Z Z Z Z Z Z (by omega) (by omega) (AS tys Z Z (AA Z) Z Z Z Z hxe Z (kZ [2,5,6,17,18,19,20,21,22,23,24,25] Z (eZ Z (nA (eK 2 Z (evE ?_))))));refine evI ?_;refine Dt tys Z Z (AA Z) Z Z Z Z Z Z Z Z Z (by omega) (by omega) (by omega) (eZ Z (nB (sQ (kY [2,5,6,7,17,18,19,20,21,22,23,24,25,26,27,28,29,30] Z (rG (eK 2 Z (Ac tys Z Z (AA Z) Z Z Z Z Z Z Z Z (by omega) (by omega) (AS tys Z Z (AA Z) Z Z Z Z (by rw [hbs]; exact GU hxi.1 hxi.2) Z ?_))))))));refine eZ Z (nB ?_);refine AB Z (fun h2 => ?_) (fun h2 => ?_)
    ·
      simp only [HS] at h2;refine sG (eK 2 Z (Ac tys Z Z (AA Z) Z Z Z Z Z Z Z Z (by omega) (by omega) ?_));refine B5 tys (T.bool true) Z Z Z Z Z Z (by first | exact SS _ | rfl) (by omega) Z (by repeat (first | exact AbsL.nil' | refine AbsL.v' ?_ | refine AbsL.own' ?_)) Z Z Z ?_;refine nZ Z (kZ [2,5,6,7,17,18,19,20,21,22,23,24,25,26,27,28,29,30,31,32,33,34,35,36,37,38] Z (nB (rG (eK 4 Z ?_))));refine iY (k := ?_);refine eZ Z ?_
      try refine WO_le (Le.freeze (u := 44) rfl) ?_
      refine nZ Z (AJ ?_);refine ⟨_, Gn _ (Be hp _) (by have := FD hg (ol[((m : Int) - 1).toNat]'hxl); unfold FE at this; rw [← Ay (by omega)] at this; intro x hx; have := this x hx; omega), rfl, ?_⟩;refine WO_le (Le.adoptE (u := 45) 45 Z (by first | exact Ia | exact Z)) ?_;refine nZ Z (AH tys Z Z (AA Z) Z Z Z Z Z (.own Z (by first | omega | (simp only [SD]; omega))) Z (.own Z (by simp)) (by decide) (by have := Fm 5 (EP (p.funcs[(ol[((m : Int) - 1).toNat]'hxl).toNat]'(by omega)).stmts); simp only [SM, SE]; omega) (by decide) Z ?_);refine nZ Z (eZ Z (kZ [2,5,6,7,17,18,19,20,21,22,23,24,25,26,27,28,29,30,31,32,33,34,35,36,37,38,39,40,41,42,43,44,45,46] Z (oN (bN ?_))));refine lQ (_, _, _) ?_ ?_
      · dsimp only
        first
        | (refine ⟨S ++ [ol[((m : Int) - 1).toNat]'hxl], ol.take ((m : Int) - 1).toNat ++ AE p (ol[((m : Int) - 1).toNat]'hxl), by simp, ?_, by rw [hbs, Ej hxi.1 hxi.2], hd'.take, ?_⟩
           · rw [Hm, htk, SH (l := (G5 5 _).map T.int) (by simp), hfs, Sf]
           · have hu := K5 hxi.1 hxi.2 h2
             rw [hfs];simp only [SM, SE]
             omega)
      · dsimp only
        first
        | (have hu := K5 hxi.1 hxi.2 h2
           have e1 : unB bs = (unS p.funcs.length S : Nat) := by rw [hbs, F9]
           have e2 : unB (bs.set (ol[((m : Int) - 1).toNat]'hxl).toNat (T.bool true)) = (unS p.funcs.length (S ++ [ol[((m : Int) - 1).toNat]'hxl]) : Nat) := by rw [hbs, Ej hxi.1 hxi.2, F9]
           rw [e1, e2, hfs];simp only [SM, SE]
           omega)
    simp only [HS] at h2;refine AC (bN ?_);refine lQ (_, _, _) ?_ ?_
    · dsimp only
      first
      | exact ⟨S, ol.take ((m : Int) - 1).toNat, by omega, htk, hbs, hd'.skip h2, by omega⟩
    · dsimp only
      first
      | (rw [hbs, F9]; omega)
  simp only [HS] at h1;refine AP (tE (AK (AI (tN (sG (eZ Z (WO_le (Le.nilOwn (u := 8) 1 Z) (WO_le (Le.adoptE (u := 8) 8 Z Z) (nZ Z (nB (sQ (sG (eZ Z (evE ?_))))))))))))));refine eZ Z (nB (AD ?_));refine lK (α := Int × Nat × List T) [47, 48] [14] (fun x => [(49, .t (.int (x.1))), (8, .sl 8 0 (x.2.1))]) (fun x => [(8, .L 1 (x.2.2))]) (fun x => 0 ≤ (x.1) ∧ (x.1) ≤ p.funcs.length ∧ (x.2.1) = (x.2.2).length ∧ (x.2.2).length ≤ (x.1) ∧ (x.2.2) = (KZ p.funcs.length (fun x => decide (x ∈ S)) (x.1)).map T.int) (fun x => Int.toNat (p.funcs.length - (x.1))) (0, 0, []) ?_ (fun x hx => ?_)
  · exact ⟨by omega, by omega, rfl, by simp, rfl⟩
  obtain ⟨q, m2, ws⟩ := x
  obtain ⟨hq0, hq1, hm2, hwl, hws⟩ := hx
  dsimp only at hq0 hq1 hm2 hwl hws ⊢;refine nY Z (sG (eZ Z (nB (sQ ?_))));refine AB Z (fun h2 => ?_) (fun h2 => ?_)
  ·
    simp only [HS] at h2;refine AC (tN (sQ (AD (sG (eZ Z (Ac tys Z Z (AA Z) Z Z Z Z Z Z Z Z (by omega) (by omega) (AS tys Z Z (AA Z) Z Z Z Z (by rw [hbs]; exact GU hq0 (by omega)) Z ?_)))))));refine eK 2 Z (nA (eZ Z (nB ?_)));refine AB Z (fun h3 => ?_) (fun h3 => ?_)
    ·
      simp only [HS] at h3;refine kY [8,9,10,47,48,49,50,51,52,53,54] Z (rG (eK 2 Z (bZ [T.int q] ?_)));refine nZ Z (AH tys Z Z (AA Z) Z Z Z Z Z (.own Z (by first | omega | (simp only [SD]; omega))) Z (.own Z (by first | decide | omega)) (by decide) (by simp only [SM, SG, List.length_nil]; omega) (by decide) Z ?_);refine nZ Z (eZ Z (oN (bN (tN (rG (evI ?_))))));refine eZ Z (oN ?_);refine lQ (_, _, _) ?_ ?_
      · dsimp only
        subst hm2
        first
        | (refine ⟨by omega, by omega, by simp, by simp; omega, ?_⟩; rw [SY, hws, Fq hq0 (by omega), if_pos (by simpa using h3), Sf]; rfl)
      · (show Int.toNat _ < Int.toNat _); omega
    simp only [HS] at h3;refine AC (bN (tN (kY [8,9,10,47,48,49,50,51,52,53,54] Z (rG (evI ?_)))));refine eZ Z (oN ?_);refine lQ (_, _, _) ?_ ?_
    · dsimp only
      subst hm2
      first
      | (refine ⟨by omega, by omega, rfl, by omega, ?_⟩; rw [hws, Fq hq0 (by omega), if_neg (by simpa using h3), SW]; done)
    · (show Int.toNat _ < Int.toNat _); omega
  simp only [HS] at h2;refine AP (tE (AK (AI (tN (sG (eK 2 Z (nB (AQ (Le.gather (u := 4) (id := 8) Z Z (by omega)) (rT (eR ?_))))))))))
  · have hol : ol = [] := Sm (by have := congrArg List.length hos; simp only [SM, SE] at this; omega)
    subst hol;rw [hm2, SY, hws]; refine NR ?_; rw [JI (by omega), hd.done hin hn0 hn1];rfl
open Go.Eng
theorem MQ (l : List Int) (n : Int) (hl : l.length ≤ 1073741824) : Fun Tryz.prog 118 [.t (T.ints l), .t (.int n)] (Av [.t (.int (EL (fun x => decide (n = x)) l 0))]) := by
 refine Fun.begin tys Tryz.func118 Z Z (N := 19) [(0, .t (T.ints l)), (1, .t (.int n))] Z Z (fun w0 G F0 => ?_);refine sG (eZ Z (nB (sQ (sG (eZ Z (evE ?_))))));refine eZ Z (nB (AD ?_));refine lK (α := Int) [0, 1, 6, 7] [] (fun x => [(8, .t (.int x))]) (fun x => []) (fun x => 0 ≤ x ∧ x ≤ l.length ∧ EL (fun x => decide (n = x)) l 0 = EL (fun x => decide (n = x)) (l.drop x.toNat) x) (fun x => Int.toNat (l.length - x)) 0 ?_ (fun k hx => ?_)
 ·exact ⟨by omega, by omega, rfl⟩
 obtain ⟨hk0, hk1, hk2⟩ := hx
 refine nY Z (sG (eZ Z (nB (sQ ?_))));refine AB Z (fun h1 => ?_) (fun h1 => ?_)
 ·
  simp only [HS] at h1;refine AC (tN (sQ (AD (sG (eK 2 Z (nA (eK 3 Z ?_)))))));refine iY (k := ?_);refine eK 2 Z (kZ [0,1,5,6,7,8,9,10,11,12,13,14,15,16] Z (nB ?_));refine AB Z (fun h2 => ?_) (fun h2 => ?_)
  ·
   simp only [HS] at h2;refine sG (eK 2 Z (nB (rT (bR (tR (AO (bR (tR (eR ?_)))))))))
   ·refine HT ?_
    rw [hk2, Hb hk0 h1]
    simp [h2]
    done
  simp only [HS] at h2;refine AC (bN (tN (rG (evI ?_))));refine eZ Z (oN ?_);refine lQ _ ?_ ?_
  ·skip
   refine ⟨by omega, by omega, ?_⟩; rw [hk2, Hb hk0 h1]; simp [h2]
  ·(show Int.toNat _ < Int.toNat _); omega
 simp only [HS] at h1;refine AP (tE (AK (AI (tN (sG (eZ Z (nB (rT (eR ?_)))))))))
 ·refine HT ?_
  rw [hk2, A1 h1];rfl
theorem Mg {l : List Int} {n : Int} : (l.any fun x => decide (n = x)) = decide (n ∈ l) := by
 rw [Bool.eq_iff_iff, Su, decide_eq_true_eq]
 constructor
 ·rintro ⟨x, hx, he⟩
  have : n = x := of_decide_eq_true he
  subst this; exact hx
 ·exact fun h => ⟨n, h, decide_eq_true rfl⟩
theorem II (l : List Int) (n : Int) (hl : l.length ≤ 1073741824) : Fun Tryz.prog 83 [.t (T.ints l), .t (.int n)] (Av [.t (.bool (decide (n ∈ l)))]) := by
 refine Fun.begin tys Tryz.func83 Z Z (N := 9) [(0, .t (T.ints l)), (1, .t (.int n))] Z Z (fun w0 G F0 => ?_);refine sG (eZ Z (nA (eK 2 Z (AJ ?_))));refine ⟨_, MQ l n hl, rfl, ?_⟩;refine eK 2 Z (nB (rT (eR ?_)))
 ·refine retB ?_
  rw [← Mg, ← Ep (TC 0)]
open Go.Eng
theorem J8 {α : Type} {p : α → Bool} {l : List α} {k : Int} (h0 : 0 ≤ k) (h1 : k < l.length) (h : (l.take k.toNat).any p = false) (h2 : p (l[k.toNat]'(by omega)) = false) : (l.take (k + 1).toNat).any p = false := by
 rw [BU h0 h1, List.any_append, h]; simpa using h2
theorem EM {α : Type} {p : α → Bool} {l : List α} {k : Int} (h0 : 0 ≤ k) (h1 : k < l.length) (h : p (l[k.toNat]'(by omega)) = true) : l.any p = true :=
 Su.2 ⟨_, SJ _, h⟩
theorem Gr {α : Type} {p : α → Bool} {l : List α} {k : Int} (h1 : (l.length : Int) ≤ k) (h : (l.take k.toNat).any p = false) : l.any p = false := by rwa [Af h1] at h
def roundP (p : Prog) : Bool := FT p.funcs.length (AE p)
def QD (p : Prog) (f : Int) (n : Int) : Bool := decide (f ∈ reachP p n)
def I3 (p : Prog) (f : Int) : Bool := (AE p f).any (QD p f)
theorem I4 (p : Prog) : roundP p = (reachP p 0).any (I3 p) := rfl
theorem CN {p : Prog} (hg : goodP p = true) (n : Int) : (reachP p n).length ≤ 5 := by
 have := Dy (N := p.funcs.length) (calls := AE p) (a := n)
 have := AV hg
 unfold reachP; omega
theorem C3 {p : Prog} {n x : Int} (h : x ∈ reachP p n) : 0 ≤ x ∧ x < p.funcs.length := (mem_pickN.1 h).1
theorem Dh (p : Prog) (hp : p.ok 1048576) (hg : goodP p = true) : Fun Tryz.prog 41 [.t p.tt] (Av [.t (.bool (roundP p))]) := by
  have hgl := AV hg
  have hin := Ax hg
  have hrl := CN hg 0
  refine Fun.begin tys Tryz.func41 Z Z (N := 29) [(0, .t p.tt)] Z Z (fun w0 G F0 => ?_);refine sG (AR Z Z (AA Z) Z Z (nZ Z (eZ Z (nB (sQ (sG (eZ Z ?_)))))))
  try refine WO_le (Le.freeze (u := 7) rfl) ?_
  refine nZ Z (A2 Z Z (AA Z) Z Z Z Z Z (Cm p 0 hp hg (by omega) (by omega)) Z (evE ?_));refine eZ Z (nB (AD ?_));refine lK (α := Int) [1, 8, 9] [1] (fun x => [(10, .t (.int x))]) (fun x => []) (fun x => 0 ≤ x ∧ x ≤ (reachP p 0).length ∧ ((reachP p 0).take x.toNat).any (I3 p) = false) (fun x => Int.toNat ((reachP p 0).length - x)) 0 ?_ (fun k hx => ?_)
  · exact ⟨by omega, by omega, by simp⟩
  obtain ⟨hk0, hk1, hk2⟩ := hx
  refine nY Z (sG (eZ Z (nB (sQ ?_))));refine AB Z (fun h1 => ?_) (fun h1 => ?_)
  ·
    simp only [HS] at h1;refine AC (tN (sQ (AD (sG ?_))));refine iY (k := ?_);refine eK 2 Z (nA ?_)
    have hx := C3 (SJ (l := reachP p 0) (n := k.toNat) (by omega))
    have hcl := Bo p ((reachP p 0)[k.toNat]'(by omega))
    refine eZ Z ?_
    try refine WO_le (Le.freeze (u := 14) rfl) ?_
    refine nZ Z (eZ Z (A2 Z Z (AA Z) Z Z Z Z Z (Di p _ hp hg hx.1 hx.2) Z (evE ?_)));refine eZ Z (kZ [1,4,8,9,10,11,12,13,14,15,16,17,18] Z (nB (AD ?_)));refine lK (α := Int) [1, 4, 8, 9, 10, 16, 17] [1] (fun x => [(18, .t (.int x))]) (fun x => []) (fun x => 0 ≤ x ∧ x ≤ (AE p ((reachP p 0)[k.toNat]'(by omega))).length ∧ ((AE p ((reachP p 0)[k.toNat]'(by omega))).take x.toNat).any (QD p ((reachP p 0)[k.toNat]'(by omega))) = false) (fun x => Int.toNat ((AE p ((reachP p 0)[k.toNat]'(by omega))).length - x)) 0 ?_ (fun j hx => ?_)
    · exact ⟨by omega, by omega, by simp⟩
    obtain ⟨hj0, hj1, hj2⟩ := hx
    refine nY Z (sG (eZ Z (nB (sQ ?_))));refine AB Z (fun h2 => ?_) (fun h2 => ?_)
    ·
      simp only [HS] at h2;refine AC (tN (sQ (AD (sG ?_))));refine iY (k := ?_);refine eK 2 Z (nA ?_)
      have hy := hin _ _ (SJ (l := AE p ((reachP p 0)[k.toNat]'(by omega))) (n := j.toNat) (by omega))
      refine eZ Z ?_
      try refine WO_le (Le.freeze (u := 22) rfl) ?_
      refine nZ Z (eZ Z (A2 Z Z (AA Z) Z Z Z Z Z (Cm p _ hp hg hy.1 hy.2) Z (eZ Z (AJ ?_))));refine ⟨_, Je _ _ (by have := CN hg ((AE p ((reachP p 0)[k.toNat]'(by omega)))[j.toNat]'(by omega)); omega), rfl, ?_⟩;refine kZ [1,4,6,8,9,10,16,17,18,19,20,21,22,23,24,25,26] Z (nB ?_);refine AB Z (fun h3 => ?_) (fun h3 => ?_)
      ·
        simp only [HS] at h3;refine sG (eZ Z (nB (rT (bR (tR (AO (bR (bR (tR (AO (bR (tR (eR ?_)))))))))))))
        · first
          | (have e : I3 p ((reachP p 0)[k.toNat]'(by omega)) = true := EM (l := AE p ((reachP p 0)[k.toNat]'(by omega))) hj0 (by omega) (decide_eq_true (by assumption))
             refine retB ?_; rw [I4, EM (l := reachP p 0) hk0 (by omega) e]; done)
      simp only [HS] at h3;refine AC (bN (tN (rG (evI ?_))));refine eZ Z (oN ?_);refine lQ _ ?_ ?_
      · skip
        exact ⟨by omega, by omega, J8 hj0 (by omega) hj2 (decide_eq_false (by assumption))⟩
      · (show Int.toNat _ < Int.toNat _); omega
    simp only [HS] at h2;refine AP (tE (AK (AI (bN (tN (rG (evI ?_)))))));refine eZ Z (oN ?_);refine lQ _ ?_ ?_
    · skip
      exact ⟨by omega, by omega, J8 hk0 (by omega) hk2 (Gr (by omega) hj2)⟩
    · (show Int.toNat _ < Int.toNat _); omega
  simp only [HS] at h1;refine AP (tE (AK (AI (tN (sG (eZ Z (nB (rT (eR ?_)))))))))
  · first
    | (refine retB ?_; rw [I4, Gr (by omega) hk2]; done)
theorem HC (n : Int) (p : Prog) (f : Int) (hp : p.ok 1048576) (hg : goodP p = true) (hn0 : 0 ≤ n) (hn1 : n < p.funcs.length) : Fun Tryz.prog 82 [.t (.int n), .rp p.tt 0, .rp (.agg [T.int f]) 0] (Av [.t (.bool (QD p f n))]) := by
 refine Fun.begin tys Tryz.func82 Z Z (N := 10) [(0, .t (.int n)), (1, .rp p.tt 0), (2, .rp (.agg [T.int f]) 0)] Z Z (fun w0 G F0 => ?_);refine sG (eZ Z (nB (sQ (Am BJ (by kernel_rfl) (evQ ?_)))));refine evQ ?_;refine Fc ?_;refine ⟨_, CE p n hp hg hn0 hn1, rfl, ?_⟩;refine evQ ?_;refine Fc ?_;refine ⟨_, II _ _ (by have := CN hg n; omega), rfl, ?_⟩;refine AU Z (evQ ?_);refine BE (tN (rT (eR ?_)))
 ·rfl
theorem FP (p : Prog) (f : Int) (hp : p.ok 1048576) (hg : goodP p = true) (h1 : f.toNat < p.funcs.length) : Fun Tryz.prog 81 [.t (p.funcs[f.toNat]).tt] (Av [.own (T.ints (AE p f))]) := by
 have hgl := AV hg
 have hfs : G5 5 (EP (p.funcs[f.toNat]).stmts) = AE p f := by rw [AE, FE, ← Ay h1]
 rw [← hfs];refine Gn _ (Be hp h1) ?_
 have := FD hg f
 unfold FE at this;rw [← Ay h1] at this;intro x hx
 have := this x hx
 omega
theorem H6 (f : Int) (p : Prog) (hp : p.ok 1048576) (hg : goodP p = true) (hn0 : 0 ≤ f) (hn1 : f < p.funcs.length) : Fun Tryz.prog 80 [.t (.int f), .rp p.tt 0] (Av [.t (.bool (I3 p f))]) := by
 have hgl := AV hg
 have hin := Ax hg
 have hcl := Bo p f
 refine Fun.begin tys Tryz.func80 Z Z (N := 12) [(0, .t (.int f)), (1, .rp p.tt 0)] Z Z (fun w0 G F0 => ?_);refine sG (AR Z Z (AA Z) Z Z (nZ Z (eZ Z (nA (eK 3 Z ?_)))));refine iY (k := ?_);refine eZ Z ?_
 try refine WO_le (Le.freeze (u := 8) rfl) ?_
 refine nZ Z (AJ ?_);refine ⟨_, FP p f hp hg _, rfl, ?_⟩;refine WO_le (Le.adoptE (u := 9) 9 Z (by first | exact Ia | exact Z)) ?_;refine nZ Z (eZ Z (kZ [3,9,10] Z (AJ ?_)));refine ⟨_, DM (AE p f) (QD p f) _ [.rp p.tt 0, .rp (.agg [T.int f]) 0] Z (by omega) (fun n hn => HC n p f hp hg (hin f n hn).1 (hin f n hn).2), rfl, ?_⟩;refine eZ Z (nB (rT (eR ?_)))
 ·rfl
theorem Dj (p : Prog) (hp : p.ok 1048576) (hg : goodP p = true) : Fun Tryz.prog 38 [.t p.tt] (Av [.t (.bool (roundP p))]) := by
 have hgl := AV hg
 have hrl := CN hg 0
 refine Fun.begin tys Tryz.func38 Z Z (N := 7) [(0, .t p.tt)] Z Z (fun w0 G F0 => ?_);refine sG (AR Z Z (AA Z) Z Z (nZ Z (eZ Z (nA (eZ Z ?_)))))
 try refine WO_le (Le.freeze (u := 3) rfl) ?_
 refine nZ Z (AJ ?_);refine ⟨_, CE p 0 hp hg (by omega) (by omega), rfl, ?_⟩;refine WO_le (Le.adoptE (u := 4) 4 Z (by first | exact Ia | exact Z)) ?_;refine nZ Z (eZ Z (AJ ?_));refine ⟨_, DM (reachP p 0) (I3 p) _ [.rp p.tt 0] Z (by omega) (fun n hn => H6 n p hp hg (C3 hn).1 (C3 hn).2), rfl, ?_⟩;refine eZ Z (nB (rT (eR ?_)))
 ·rfl
def Mh (p : Prog) (q : Stmt → Bool) : Bool := (reachP p 0).any fun n => (funcAt p n).stmts.any q
theorem J9 (n : Int) (p : Prog) (f : Nat) (q : Stmt → Bool) (hp : p.ok 1048576) (hn0 : 0 ≤ n) (hn1 : n < p.funcs.length) (hf : ∀ s : Stmt, s.ok 1048576 → Fun Tryz.prog f [.t s.tt] (.t (.bool (q s)))) : Fun Tryz.prog 91 [.t (.int n), .rp p.tt 0, .rp (.agg [.v (.func (.func f) #[] #[])]) 0] (Av [.t (.bool ((funcAt p n).stmts.any q))]) := by
 refine Fun.begin tys Tryz.func91 Z Z (N := 13) [(0, .t (.int n)), (1, .rp p.tt 0), (2, .rp (.agg [.v (.func (.func f) #[] #[])]) 0)] Z Z (fun w0 G F0 => ?_);refine sG (eZ Z (nB (sQ (Am BJ (by kernel_rfl) (evQ ?_)))));refine evQ ?_;refine evQ ?_;refine Bq tys Z Z (AA Z) Z Z Z Z Z Z Z (by omega) _ (HE _ _ (by omega) (by omega)) (evQ ?_);refine AU Z (evQ ?_);refine QL_evC tys Z Z (AA Z) Z (Fc ?_);refine ⟨_, Gc _ q f [] Z (by have := (Be hp (n := n.toNat) (by omega)).2.1.1; omega) (fun s hs => hf s ((Be hp (n := n.toNat) (by omega)).2.1.2 s hs)), rfl, ?_⟩;refine evQ ?_;refine BE (tN (rT (eR ?_)))
 ·refine retB ?_
  rw [Ay]
theorem Gs (p : Prog) (f : Nat) (q : Stmt → Bool) (hp : p.ok 1048576) (hg : goodP p = true) (hf : ∀ s : Stmt, s.ok 1048576 → Fun Tryz.prog f [.t s.tt] (.t (.bool (q s)))) : Fun Tryz.prog 43 [.t p.tt, .clo f []] (Av [.t (.bool (Mh p q))]) := by
 have hgl := AV hg
 have hrl := CN hg 0
 refine Fun.begin tys Tryz.func43 Z Z (N := 9) [(0, .t p.tt), (1, .clo f [])] Z Z (fun w0 G F0 => ?_);refine sG (nZ Z (WO_le (Le.cloV (u := 1) Z) (nZ Z (AR Z Z (AA Z) Z Z (nZ Z (AR Z Z (AA Z) Z Z (nZ Z (eZ Z (nA (eZ Z ?_))))))))))
 try refine WO_le (Le.freeze (u := 5) rfl) ?_
 refine nZ Z (AJ ?_);refine ⟨_, CE p 0 hp hg (by omega) (by omega), rfl, ?_⟩;refine WO_le (Le.adoptE (u := 6) 6 Z (by first | exact Ia | exact Z)) ?_;refine nZ Z (eZ Z (AJ ?_));refine ⟨_, DM (reachP p 0) (fun n => (funcAt p n).stmts.any q) _ [.rp p.tt 0, .rp (.agg [.v (.func (.func f) #[] #[])]) 0] Z (by omega) (fun n hn => J9 n p f q hp (C3 hn).1 (C3 hn).2 hf), rfl, ?_⟩;refine eZ Z (nB (rT (eR ?_)))
 ·rfl
open Go.Eng
def A6 (p : Prog) (fn : Int) : Bool := goodP p && decide (0 ≤ fn ∧ fn ≤ (p.funcs.length : Int) - 1)
def Cg (p : Prog) (fn : Int) : List Int := if A6 p fn then reachP p fn else []
theorem LK {p : Prog} {fn : Int} (h : A6 p fn = false) : [D.t (T.list 1 []), D.t (T.v (.bool false))] = [D.t (T.ints (Cg p fn)), D.t (T.bool (A6 p fn))] := by
 rw [Cg, h]; rfl
theorem Nb {p : Prog} {fn : Int} (h : A6 p fn = true) : [D.t (T.ints (reachP p fn)), D.t (T.v (.bool true))] = [D.t (T.ints (Cg p fn)), D.t (T.bool (A6 p fn))] := by
 rw [Cg, h]; rfl
theorem JF {p : Prog} {fn : Int} (h : A6 p fn = false) : [D.own (T.list 1 []), D.t (T.v (.bool false))] = [D.own (T.ints (Cg p fn)), D.t (T.bool (A6 p fn))] := by
 rw [Cg, h]; rfl
theorem MC {p : Prog} {fn : Int} (h : A6 p fn = true) : [D.own (T.ints (reachP p fn)), D.t (T.v (.bool true))] = [D.own (T.ints (Cg p fn)), D.t (T.bool (A6 p fn))] := by
 rw [Cg, h]; rfl
theorem Hq (p : Prog) (fn : Int) (hp : p.ok 1048576) : Fun Tryz.prog 18 [.t p.tt, .t (.int fn)] (Av [.t (T.ints (Cg p fn)), .t (.bool (A6 p fn))]) := by
 have hpl : p.funcs.length ≤ 1048576 := hp.1.1
 refine Fun.begin tys Tryz.func18 Z Z (N := 21) [(0, .t p.tt), (1, .t (.int fn))] Z Z (fun w0 G F0 => ?_);refine sG (AR Z Z (AA Z) Z Z (nZ Z (eZ Z (WO_le (Le.nilT (u := 4) 1 Z) (nZ Z (eZ Z (nB (sQ (sG (eZ Z ?_))))))))))
 try refine WO_le (Le.freeze (u := 6) rfl) ?_
 refine nZ Z (AJ ?_);refine ⟨_, BZ p hp, rfl, ?_⟩;refine eK 2 Z ?_;refine gB (fun h1 => ?_) (fun h1 => ?_)
 ·
  simp only [HS] at h1;refine xK 2 Z (kZ [1,2,4,5,9,10,12] Z (xK 5 Z (nB (Ab Z (sG (eZ Z (WO_le (Le.nilT (u := 4) 1 Z) (nZ Z (eZ Z (nB (rT (tR (eR ?_)))))))))))))
  ·first
   | exact LK (by rw [A6, h1]; rfl)
 simp only [HS] at h1;refine xK 2 Z (kZ [1,2,4,5,9,10,11] Z (xZ Z (gY Z (evE ?_))));refine gY Z (evI ?_);refine gY Z (AJ ?_);refine ⟨_, Az _ _ _, rfl, ?_⟩;refine xK 2 Z (nB ?_);refine AB Z (fun h2 => ?_) (fun h2 => ?_)
 ·
  simp only [HS] at h2;refine sG (eZ Z (WO_le (Le.nilT (u := 4) 1 Z) (nZ Z (eZ Z (nB (rT (tR (eR ?_))))))))
  ·first
   | exact LK (by rw [A6, h1, decide_eq_false h2]; rfl)
 simp only [HS] at h2;refine AC (tN (sG (eZ Z ?_)))
 try refine WO_le (Le.freeze (u := 18) rfl) ?_
 refine nZ Z (eZ Z (A2 Z Z (AA Z) Z Z Z Z Z (Cm p fn hp h1 (by omega) (by omega)) Z (kZ [4,5,20] Z (eK 2 Z (nB (rT (eR ?_)))))))
 ·first
  | exact Nb (by rw [A6, h1, decide_eq_true h2]; rfl)
theorem H5 (p : Prog) (fn : Int) (hp : p.ok 1048576) : Fun Tryz.prog 17 [.t p.tt, .t (.int fn)] (Av [.own (T.ints (Cg p fn)), .t (.bool (A6 p fn))]) := by
 have hpl : p.funcs.length ≤ 1048576 := hp.1.1
 refine Fun.begin tys Tryz.func17 Z Z (N := 21) [(0, .t p.tt), (1, .t (.int fn))] Z Z (fun w0 G F0 => ?_);refine sG (AR Z Z (AA Z) Z Z (nZ Z (eZ Z (WO_le (Le.nilOwn (u := 4) 1 Z) (nZ Z (eZ Z (nB (sQ (sG (eZ Z ?_))))))))))
 try refine WO_le (Le.freeze (u := 6) rfl) ?_
 refine nZ Z (AJ ?_);refine ⟨_, CP p hp, rfl, ?_⟩;refine eK 2 Z ?_;refine gB (fun h1 => ?_) (fun h1 => ?_)
 ·
  simp only [HS] at h1;refine xK 2 Z (kZ [1,2,4,5,9,10,12] Z (xK 5 Z (nB (Ab Z (sG (eZ Z (WO_le (Le.nilOwn (u := 4) 1 Z) (nZ Z (eZ Z (nB (rT (tR (eR ?_)))))))))))))
  ·first
   | exact JF (by rw [A6, h1]; rfl)
 simp only [HS] at h1;refine xK 2 Z (kZ [1,2,4,5,9,10,11] Z (xZ Z (gY Z (evE ?_))));refine gY Z (evI ?_);refine gY Z (AJ ?_);refine ⟨_, Ad _ _ _, rfl, ?_⟩;refine xK 2 Z (nB ?_);refine AB Z (fun h2 => ?_) (fun h2 => ?_)
 ·
  simp only [HS] at h2;refine sG (eZ Z (WO_le (Le.nilOwn (u := 4) 1 Z) (nZ Z (eZ Z (nB (rT (tR (eR ?_))))))))
  ·first
   | exact JF (by rw [A6, h1, decide_eq_false h2]; rfl)
 simp only [HS] at h2;refine AC (tN (sG (eZ Z ?_)))
 try refine WO_le (Le.freeze (u := 18) rfl) ?_
 refine nZ Z (eZ Z (AJ ?_));refine ⟨_, CE p fn hp h1 (by omega) (by omega), rfl, ?_⟩;refine kZ [4,5,20] Z (D7 Z Z (AA Z) (.inl Z) Z Z (eZ Z (nB (rT (eR ?_)))))
 ·first
  | exact MC (by rw [A6, h1, decide_eq_true h2]; rfl)
theorem MD (p : Prog) (fn : Int) : (Cg p fn).length ≤ p.funcs.length := by
 unfold Cg;split
 ·exact Dy
 ·exact Nat.zero_le _
open Go.Eng
def w64 (n : Int) : Int := IntKind.i64.wrap n
def w32 (n : Int) : Int := IntKind.i64.wrap (IntKind.i32.wrap n)
def Bi (op x y : Int) : Option Int :=
 if op = 3 then some (w32 (w64 (x + y))) else if op = 4 then some (w32 (w64 (x - y))) else if op = 5 then some (w32 (w64 (x * y)))
 else if op = 6 then (if y = 0 then none else some (w32 (w64 (x.tdiv y)))) else if op = 7 then some (if x < y then 1 else 0) else some (if x = y then 1 else 0)
structure Ms where
 used : Nat
 fuel : Nat
 deep : Nat
 trace : List Int
structure By where
 how : Int
 pan : Int
 exd : Bool
structure Sx where
 m : Ms
 vars : List Int
 off : List Int
 res : Int
 by' : Option By
def IY : Option By → Int × Option By
 | none => (0, none)
 | some b => if b.how = 2 then (b.pan, some ⟨if b.exd then 3 else 1, b.pan, b.exd⟩) else (0, some b)
def inS (inp : List Int) (m : Ms) : Int × Ms := if m.used < inp.length then ((inp[m.used]?).getD 0, ⟨m.used + 1, m.fuel, m.deep, m.trace⟩) else (0, m)
def DI (cal : Int → List Int → Ms → Int × Int × Ms) (ps : List Int) (inp : List Int) (t : Tok) (pile : List Int) (s : Sx) : Int × Int × List Int × Sx :=
 if t.op = 1 then (0, 0, pile ++ [t.n], s)
 else if t.op = 2 then (0, 0, pile ++ [atI s.vars t.n], s)
 else if t.op = 9 then (0, 0, pile ++ [(inS inp s.m).1], { s with m := (inS inp s.m).2 })
 else if t.op = 10 then (0, 0, pile ++ [(IY s.by').1], { s with by' := (IY s.by').2 })
 else if t.op = 11 then
  let k := pile.length - (atI ps t.n).toNat
  let r := cal t.n (pile.drop k) s.m
  if r.1 = 1 then (0, 0, pile.take k ++ [r.2.1], { s with m := r.2.2 }) else (r.1, r.2.1, pile, { s with m := r.2.2 })
 else match Bi t.op ((pile[pile.length - 2]?).getD 0) ((pile[pile.length - 1]?).getD 0) with
  | none => (2, -1, pile, s)
  | some v => (0, 0, pile.take (pile.length - 2) ++ [v], s)
def exprS (cal : Int → List Int → Ms → Int × Int × Ms) (ps : List Int) (inp : List Int) : List Tok → List Int → Sx → Int × Int × Sx
 | [], pile, s => (0, (pile[0]?).getD 0, s)
 | t :: l, pile, s => let r := DI cal ps inp t pile s
  if r.1 = 0 then exprS cal ps inp l r.2.2.1 r.2.2.2 else (r.1, r.2.1, r.2.2.2)
def blockS (st : Stmt → Sx → Int × Int × Sx) (f : Func) : List Int → Sx → Int × Int × Sx
 | [], s => (0, 0, s)
 | k :: l, s => let r := st (stmtAt f k) s
  if r.1 = 0 then blockS st f l r.2.2 else r
structure Lev where
 stmt : Func → Stmt → Sx → Int × Int × Sx
 call : Int → List Int → Option By → Ms → Int × Int × Option By × Ms
def Lev.cal (L : Lev) (fn : Int) (args : List Int) (m : Ms) : Int × Int × Ms := ((L.call fn args none m).1, (L.call fn args none m).2.1, (L.call fn args none m).2.2.2)
def A8 (m : Ms) : Ms := ⟨m.used, m.fuel - 1, m.deep, m.trace⟩
def doS (L : Lev) (f : Func) (t : Stmt) (v : Int) (s : Sx) : Int × Int × Sx :=
 if t.kind = 1 then (0, 0, { s with vars := s.vars.set t.n.toNat v })
 else if t.kind = 2 then (0, 0, { s with m := ⟨s.m.used, s.m.fuel, s.m.deep, s.m.trace ++ [v]⟩ })
 else if t.kind = 4 then (2, v, s)
 else if t.kind = 5 then (1, 0, { s with res := v })
 else if t.kind = 7 then (if v ≠ 0 then blockS (L.stmt f) f t.thn s else blockS (L.stmt f) f t.els s)
 else if t.kind = 8 then (if v = 0 then (0, 0, s) else
  let r := blockS (L.stmt f) f t.thn s
  if r.1 = 0 then L.stmt f t r.2.2 else r)
 else (0, 0, s)
def Dd (L : Lev) (ps inp : List Int) (f : Func) (t : Stmt) (s : Sx) : Int × Int × Sx :=
 if s.m.fuel = 0 then (5, 0, s)
 else if t.kind = 3 then (0, 0, { s with m := A8 s.m, off := s.off ++ [t.n] })
 else if t.kind = 6 then (3, 0, { s with m := A8 s.m })
 else
  let r := exprS L.cal ps inp t.ex [] { s with m := A8 s.m }
  if r.1 = 0 then doS L f t r.2.1 r.2.2 else r
def offR (cal : Int → Option By → Ms → Int × Int × Option By × Ms) : List Int → By → Ms → Int × By × Ms
 | [], b, m => (0, b, m)
 | k :: l, b, m => let r := cal k (some b) m
  let b1 := r.2.2.1.getD b
  if 4 ≤ r.1 then (r.1, b1, r.2.2.2) else if r.1 = 1 then offR cal l b1 r.2.2.2
  else offR cal l ⟨r.1, if r.1 = 2 then r.2.1 else b1.pan, b1.exd || decide (r.1 = 3)⟩ r.2.2.2
def setL (n : Nat) (args : List Int) : List Int := args ++ (List.replicate n 0).drop args.length
def startS (f : Func) (args : List Int) (b : Option By) (m : Ms) : Sx := ⟨⟨m.used, m.fuel - 1, m.deep + 1, m.trace⟩, setL f.vars.toNat args, [], 0, b⟩
def endS (h v : Int) : By := ⟨if h = 0 then 1 else h, if h = 2 then v else 0, decide (h = 3)⟩
def DZ (L : Lev) (p : Prog) (most : Nat) (fn : Int) (args : List Int) (b : Option By) (m : Ms) : Int × Int × Option By × Ms :=
 if m.fuel = 0 then (5, 0, b, m)
 else if m.deep = most then (4, 0, b, A8 m)
 else
  let f := funcAt p fn
  let r := blockS (L.stmt f) f f.body (startS f args b m)
  if 4 ≤ r.1 then (r.1, 0, r.2.2.by', r.2.2.m)
  else
   let q := offR (fun k b m => L.call k [] b m) r.2.2.off.reverse (endS r.1 r.2.1) r.2.2.m
   if 4 ≤ q.1 then (q.1, 0, r.2.2.by', q.2.2)
   else (q.2.1.how, if q.2.1.how = 2 then q.2.1.pan else r.2.2.res, r.2.2.by', ⟨q.2.2.used, q.2.2.fuel, q.2.2.deep - 1, q.2.2.trace⟩)
def lev (p : Prog) (inp : List Int) (most : Nat) : Nat → Lev
 | 0 => ⟨fun _ _ s => (5, 0, s), fun _ _ b m => (5, 0, b, m)⟩
 | n + 1 => ⟨Dd (lev p inp most n) (paramsL p) inp, DZ (lev p inp most n) p most⟩
/-! ### What it keeps to -/
def Ms.le (inp : List Int) (m m' : Ms) : Prop := m'.fuel ≤ m.fuel ∧ m'.trace.length + m'.fuel ≤ m.trace.length + m.fuel ∧ m'.used ≤ inp.length
theorem Ms.le.trans {inp : List Int} {a b c : Ms} (h : a.le inp b) (k : b.le inp c) : a.le inp c := ⟨Sl k.1 h.1, Sl k.2.1 h.2.1, k.2.2⟩
structure Sx.ok (p : Prog) (inp : List Int) (f : Func) (s : Sx) : Prop where
 vars : s.vars.length = f.vars.toNat
 off : ∀ x, x ∈ s.off → 0 ≤ x ∧ x < p.funcs.length ∧ atI (paramsL p) x = 0
 used : s.m.used ≤ inp.length
def ByOk (b : Option By) : Prop := ∀ x, b = some x → 1 ≤ x.how ∧ x.how < 4
structure Sx.to (p : Prog) (inp : List Int) (f : Func) (h : Int) (s s' : Sx) : Prop where
 ok : s'.ok p inp f
 le : s.m.le inp s'.m
 offl : s'.off.length + s'.m.fuel ≤ s.off.length + s.m.fuel
 h0 : 0 ≤ h
 h5 : h ≤ 5
 deep : h < 4 → s'.m.deep = s.m.deep
 by' : s'.by'.isSome = s.by'.isSome
 byk : ByOk s.by' → ByOk s'.by'
structure Ms.to (inp : List Int) (h : Int) (b b' : Option By) (m m' : Ms) : Prop where
 le : m.le inp m'
 h1 : 1 ≤ h
 h5 : h ≤ 5
 deep : h < 4 → m'.deep = m.deep
 by' : b'.isSome = b.isSome
 byk : ByOk b → ByOk b'
theorem Sx.to.trans {p : Prog} {inp : List Int} {f : Func} {h h' : Int} {a b c : Sx} (x : Sx.to p inp f h a b) (y : Sx.to p inp f h' b c) (hx : h < 4) : Sx.to p inp f h' a c :=
 ⟨y.ok, x.le.trans y.le, Sl y.offl x.offl, y.h0, y.h5, fun hh => (y.deep hh).trans (x.deep hx), y.by'.trans x.by', fun h => y.byk (x.byk h)⟩
theorem Sx.to.refl {p : Prog} {inp : List Int} {f : Func} {a : Sx} (h : a.ok p inp f) {e : Int} (h0 : 0 ≤ e) (h5 : e ≤ 5) : Sx.to p inp f e a a :=
 ⟨h, ⟨SR _, SR _, h.used⟩, SR _, h0, h5, fun _ => rfl, rfl, id⟩
def RT (f : Func) (b : List Int) : Prop := ∀ x, x ∈ b → 0 ≤ x ∧ x < f.stmts.length
structure Db (p : Prog) (inp : List Int) (L : Lev) : Prop where
 stmt : ∀ f, f ∈ p.funcs → ∀ t, t ∈ f.stmts → ∀ s : Sx, s.ok p inp f → Sx.to p inp f (L.stmt f t s).1 s (L.stmt f t s).2.2
 call : ∀ (fn : Int) (args : List Int) (b : Option By) (m : Ms), 0 ≤ fn → fn < p.funcs.length → args.length = (atI (paramsL p) fn).toNat → m.used ≤ inp.length → Ms.to inp (L.call fn args b m).1 b (L.call fn args b m).2.2.1 m (L.call fn args b m).2.2.2
section
variable {p : Prog} {inp : List Int} {f : Func} {L : Lev}
theorem Ms.to_s {s : Sx} {h : Int} {m' : Ms} {b b' : Option By} (hs : s.ok p inp f) (ht : Ms.to inp h b b' s.m m') : Sx.to p inp f h s { s with m := m' } :=
 ⟨⟨hs.vars, hs.off, ht.le.2.2⟩, ht.le, by have := ht.le.1; show s.off.length + m'.fuel ≤ _; omega, by have := ht.h1; omega, ht.h5, ht.deep, rfl, id⟩
theorem Qj {m : Ms} (h : m.used ≤ inp.length) : m.le inp (inS inp m).2 ∧ (inS inp m).2.deep = m.deep ∧ (inS inp m).2.fuel = m.fuel := by
 unfold inS;split
 ·exact ⟨⟨SR _, SR _, by assumption⟩, rfl, rfl⟩
 ·exact ⟨⟨SR _, SR _, h⟩, rfl, rfl⟩
theorem JE (b : Option By) : (IY b).2.isSome = b.isSome := by
 unfold IY;split
 ·rfl
 ·split <;> rfl
theorem RE {b : Option By} (h : ByOk b) : ByOk (IY b).2 := by
 unfold IY;split
 ·exact h
 ·split
  ·intro x hx
   cases hx;dsimp only
   split <;> omega
  ·exact h
theorem Hl (hL : Db p inp L) (hg : goodP p = true) {vs : Int} {t : Tok} {pile : List Int} {s : Sx} (hs : s.ok p inp f) (hk : knownT vs (paramsL p).length t = true) (hn : Aq (paramsL p) t ≤ pile.length) :
  Sx.to p inp f (DI L.cal (paramsL p) inp t pile s).1 s (DI L.cal (paramsL p) inp t pile s).2.2.2 ∧
  ((DI L.cal (paramsL p) inp t pile s).1 = 0 → ((DI L.cal (paramsL p) inp t pile s).2.2.1.length : Int) = pile.length + (1 - Aq (paramsL p) t)) := by
 have hps := H7 hg
 have h0 := Sx.to.refl hs (e := 0) (by omega) (by omega)
 unfold DI
 by_cases o1 : t.op = 1
 ·rw [if_pos o1]
  exact ⟨h0, fun _ => by simp [Aq, o1]⟩
 rw [if_neg o1]
 by_cases o2 : t.op = 2
 ·rw [if_pos o2]
  exact ⟨h0, fun _ => by simp [Aq, o2]⟩
 rw [if_neg o2]
 by_cases o9 : t.op = 9
 ·rw [if_pos o9]
  obtain ⟨g1, g2, g3⟩ := Qj hs.used
  exact ⟨⟨⟨hs.vars, hs.off, g1.2.2⟩, g1, by show s.off.length + (inS inp s.m).2.fuel ≤ _; omega, by show (0 : Int) ≤ 0; omega, by show (0 : Int) ≤ 5; omega, fun _ => g2, rfl, id⟩, fun _ => by simp [Aq, o9]⟩
 rw [if_neg o9]
 by_cases o10 : t.op = 10
 ·rw [if_pos o10]
  exact ⟨⟨⟨hs.vars, hs.off, hs.used⟩, h0.le, h0.offl, h0.h0, h0.h5, fun _ => rfl, JE _, RE⟩, fun _ => by simp [Aq, o10]⟩
 rw [if_neg o10]
 by_cases o11 : t.op = 11
 ·rw [if_pos o11]
  obtain ⟨k0, k1⟩ := CG hk o11
  rw [BV] at k1
  have hne : Aq (paramsL p) t = atI (paramsL p) t.n := by simp [Aq, o11]
  have hb := Kv hps t.n
  rw [hne] at hn ⊢
  have hc := hL.call t.n (pile.drop (pile.length - (atI (paramsL p) t.n).toNat)) none s.m k0 k1 (by rw [S0]; omega) hs.used
  dsimp only [Lev.cal];split
  ·rename_i h
   rw [h] at hc
   have := Ms.to_s hs hc
   refine ⟨⟨this.ok, this.le, this.offl, by show (0 : Int) ≤ 0; omega, by show (0 : Int) ≤ 5; omega, fun _ => hc.deep (by omega), rfl, id⟩, fun _ => ?_⟩;simp only [SD, SM, SG, List.length_nil];omega
  ·rename_i h
   refine ⟨Ms.to_s hs hc, fun hz => ?_⟩
   have := hc.h1
   have hz' : (L.call t.n (pile.drop (pile.length - (atI (paramsL p) t.n).toNat)) none s.m).1 = 0 := hz
   omega
 rw [if_neg o11]
 have hop : 3 ≤ t.op ∧ t.op ≤ 8 := by
  unfold knownT at hk;rw [if_neg o1, if_neg o2, if_neg o11] at hk;simp only [SC, decide_eq_true_eq] at hk;omega
 have hne : Aq (paramsL p) t = 2 := by simp [Aq, hop]
 split
 ·exact ⟨Sx.to.refl hs (e := 2) (by omega) (by omega), fun h => by simp at h⟩
 ·refine ⟨h0, fun _ => ?_⟩
  rw [hne] at hn ⊢;simp only [SD, SM, SG, List.length_nil];omega
theorem Eu (hL : Db p inp L) (hg : goodP p = true) {vs : Int} : ∀ {l : List Tok} {pile : List Int} {s : Sx} {mx : Int} {r : Int × Int}, s.ok p inp f → C2 vs (paramsL p) l pile.length mx = some r →
  Sx.to p inp f (exprS L.cal (paramsL p) inp l pile s).1 s (exprS L.cal (paramsL p) inp l pile s).2.2
 | [], pile, s, mx, r, hs, _ => Sx.to.refl hs (by show (0 : Int) ≤ 0; omega) (by show (0 : Int) ≤ 5; omega)
 | t :: l, pile, s, mx, r, hs, hr => by
  rw [C2] at hr;split at hr
  ·rename_i hc
   rw [SC, decide_eq_true_eq] at hc
   obtain ⟨h1, h2⟩ := Hl hL hg hs hc.1 hc.2
   rw [exprS];split
   ·rename_i h0
    rw [← h2 h0] at hr;exact h1.trans (Eu hL hg h1.ok hr) (by omega)
   ·exact h1
  ·cases hr
theorem BP {st : Stmt → Sx → Int × Int × Sx} (hst : ∀ t, t ∈ f.stmts → ∀ s : Sx, s.ok p inp f → Sx.to p inp f (st t s).1 s (st t s).2.2) : ∀ {b : List Int} {s : Sx}, RT f b → s.ok p inp f → Sx.to p inp f (blockS st f b s).1 s (blockS st f b s).2.2
 | [], s, _, hs => Sx.to.refl hs (by show (0 : Int) ≤ 0; omega) (by show (0 : Int) ≤ 5; omega)
 | k :: b, s, hb, hs => by
  have hk := hb k (by simp)
  have hm : stmtAt f k ∈ f.stmts := by rw [← Bv (by omega)]; exact SJ _
  have h1 := hst _ hm s hs
  rw [blockS];split
  ·rename_i h0
   exact h1.trans (BP hst (fun x hx => hb x (by simp [hx])) h1.ok) (by omega)
  ·exact h1
theorem Sx.ok.burn {s : Sx} (h : s.ok p inp f) (hf : s.m.fuel ≠ 0) : Sx.to p inp f 0 s { s with m := A8 s.m } := by
 refine ⟨⟨h.vars, h.off, h.used⟩, ⟨?_, ?_, h.used⟩, ?_, by omega, by omega, fun _ => rfl, rfl, id⟩
 ·show s.m.fuel - 1 ≤ s.m.fuel; omega
 ·show s.m.trace.length + (s.m.fuel - 1) ≤ _; omega
 ·show s.off.length + (s.m.fuel - 1) ≤ _; omega
theorem CM {f : Func} (h : Ap f = true) : BM f.stmts.length (kids f.stmts) ∧ inB f.stmts.length 0 f.body ∧ ord f.stmts.length (kids f.stmts) f.body = CL f.stmts.length := by
 unfold Ap at h;simp only [SC] at h;exact shapeB_iff.1 h.2.2.1
theorem H1 {f : Func} (hsh : Ap f = true) {t : Stmt} (ht : t ∈ f.stmts) : RT f t.thn ∧ RT f t.els ∧ RT f f.body := by
 obtain ⟨hd, hb, _⟩ := CM hsh
 obtain ⟨i, hi, rfl⟩ := Se ht
 have h := hd i (by omega) (by omega)
 rw [kids_at (by omega)] at h;exact ⟨fun x hx => ⟨by have := (h.1 x hx).1; omega, (h.1 x hx).2⟩, fun x hx => ⟨by have := (h.2 x hx).1; omega, (h.2 x hx).2⟩, fun x hx => hb x hx⟩
theorem DQ {f : Func} (hsh : Ap f = true) : RT f f.body := fun x hx => (CM hsh).2.1 x hx
theorem ES {vars : Int} {ps : List Int} {t : Stmt} (h : BD vars ps t = true) (h3 : t.kind ≠ 3) (h6 : t.kind ≠ 6) : ∃ m : Int, C2 vars ps t.ex 0 0 = some (1, m) := by
 have hx : DN vars ps t.ex = true := by
  rcases stmtG_ex h with h' | h'
  ·exfalso
   revert h
   grind [BD, Ak, DN, C2]
  ·exact h'
 unfold DN at hx
 cases hr : C2 vars ps t.ex 0 0 with
 | none => rw [hr] at hx; cases hx
 | some q =>
  obtain ⟨a, m⟩ := q
  rw [hr] at hx;simp only [SC, decide_eq_true_eq] at hx;exact ⟨m, by rw [hx.1]⟩
theorem PJ (hL : Db p inp L) (hg : goodP p = true) (hf : f ∈ p.funcs) {t : Stmt} (ht : t ∈ f.stmts) {s : Sx} (hs : s.ok p inp f) : Sx.to p inp f (Dd L (paramsL p) inp f t s).1 s (Dd L (paramsL p) inp f t s).2.2 := by
 obtain ⟨q, hq, rfl⟩ := Se hf
 have hgf := CH hg hq
 have hsh := Gd hgf
 have hst : BD (p.funcs[q]).vars (paramsL p) t = true := by
  obtain ⟨i, hi, rfl⟩ := Se ht
  exact Cn hgf hi
 obtain ⟨hk1, hk2, _⟩ := H1 hsh ht
 unfold Dd
 by_cases hz : s.m.fuel = 0
 ·rw [if_pos hz]
  exact Sx.to.refl hs (by show (0 : Int) ≤ 5; omega) (by show (5 : Int) ≤ 5; omega)
 rw [if_neg hz]
 have hb := hs.burn hz
 by_cases k3 : t.kind = 3
 ·rw [if_pos k3]
  obtain ⟨n0, n1, _⟩ := Ip hst k3
  have hn : atI (paramsL p) t.n = 0 := by
   unfold BD at hst;rw [if_pos k3, SC, decide_eq_true_eq] at hst;exact hst.2
  rw [BV] at n1;refine ⟨⟨hs.vars, fun x hx => ?_, hs.used⟩, hb.le, ?_, by show (0 : Int) ≤ 0; omega, by show (0 : Int) ≤ 5; omega, fun _ => rfl, rfl, id⟩
  ·rcases SF.1 hx with hx | hx
   ·exact hs.off x hx
   ·rw [SN] at hx
    subst hx;exact ⟨n0, n1, hn⟩
  ·show (s.off ++ [t.n]).length + (s.m.fuel - 1) ≤ _
   simp only [SD, SG, List.length_nil];omega
 rw [if_neg k3]
 by_cases k6 : t.kind = 6
 ·rw [if_pos k6]
  exact ⟨hb.ok, hb.le, hb.offl, by show (0 : Int) ≤ 3; omega, by show (3 : Int) ≤ 5; omega, fun _ => rfl, rfl, id⟩
 rw [if_neg k6]
 obtain ⟨mx, hr⟩ := ES hst k3 k6
 have he := Eu hL hg (pile := []) hb.ok (l := t.ex) (mx := 0) (by simpa using hr)
 dsimp only;generalize exprS L.cal (paramsL p) inp t.ex [] { s with m := A8 s.m } = r at he
 obtain ⟨h, v, s2⟩ := r
 dsimp only at he ⊢
 have h1 := hb.trans he (by omega)
 split
 ·rename_i hh
  subst hh;unfold doS;dsimp only
  have hok := he.ok
  split
  ·exact h1.trans ⟨⟨by rw [Sv]; exact hok.vars, hok.off, hok.used⟩, ⟨SR _, SR _, hok.used⟩, SR _, by show (0 : Int) ≤ 0; omega, by show (0 : Int) ≤ 5; omega, fun _ => rfl, rfl, id⟩ (by omega)
  split
  ·have hfu : s2.m.trace.length + 1 + s2.m.fuel ≤ s.m.trace.length + s.m.fuel := by
    have a1 : s2.m.trace.length + s2.m.fuel ≤ s.m.trace.length + (s.m.fuel - 1) := he.le.2.1
    omega
   refine ⟨⟨hok.vars, hok.off, hok.used⟩, ⟨h1.le.1, ?_, hok.used⟩, h1.offl, by show (0 : Int) ≤ 0; omega, by show (0 : Int) ≤ 5; omega, fun _ => h1.deep (by omega), h1.by', h1.byk⟩;show (s2.m.trace ++ [v]).length + s2.m.fuel ≤ _;simp only [SD, SG, List.length_nil];omega
  split
  ·exact ⟨h1.ok, h1.le, h1.offl, by show (0 : Int) ≤ 2; omega, by show (2 : Int) ≤ 5; omega, fun _ => h1.deep (by omega), h1.by', h1.byk⟩
  split
  ·exact ⟨⟨hok.vars, hok.off, hok.used⟩, h1.le, h1.offl, by show (0 : Int) ≤ 1; omega, by show (1 : Int) ≤ 5; omega, fun _ => h1.deep (by omega), h1.by', h1.byk⟩
  split
  ·split
   ·exact h1.trans (BP (hL.stmt _ hf) hk1 hok) (by omega)
   ·exact h1.trans (BP (hL.stmt _ hf) hk2 hok) (by omega)
  split
  ·split
   ·exact h1
   ·have hbl := BP (hL.stmt _ hf) hk1 hok
    split
    ·rename_i h0
     exact h1.trans (hbl.trans (hL.stmt _ hf _ ht _ hbl.ok) (by omega)) (by omega)
    ·exact h1.trans hbl (by omega)
  ·exact h1
 ·exact h1
theorem Hy {cal : Int → Option By → Ms → Int × Int × Option By × Ms} (hc : ∀ (k : Int) (b : Option By) (m : Ms), 0 ≤ k → k < p.funcs.length → atI (paramsL p) k = 0 → m.used ≤ inp.length → Ms.to inp (cal k b m).1 b (cal k b m).2.2.1 m (cal k b m).2.2.2) :
  ∀ {l : List Int} {b : By} {m : Ms}, (∀ x, x ∈ l → 0 ≤ x ∧ x < p.funcs.length ∧ atI (paramsL p) x = 0) → m.used ≤ inp.length → 1 ≤ b.how → b.how < 4 →
   m.le inp (offR cal l b m).2.2 ∧ 0 ≤ (offR cal l b m).1 ∧ (offR cal l b m).1 ≤ 5 ∧ ((offR cal l b m).1 < 4 → (offR cal l b m).2.2.deep = m.deep ∧ 1 ≤ (offR cal l b m).2.1.how ∧ (offR cal l b m).2.1.how < 4)
 | [], b, m, _, hu, h1, h2 => ⟨⟨SR _, SR _, hu⟩, by show (0 : Int) ≤ 0; omega, by show (0 : Int) ≤ 5; omega, fun _ => ⟨rfl, h1, h2⟩⟩
 | k :: l, b, m, hl, hu, h1, h2 => by
  obtain ⟨q0, q1, q2⟩ := hl k (by simp)
  have hk := hc k (some b) m q0 q1 q2 hu
  rw [offR]
  have hb1 : ∃ b1, (cal k (some b) m).2.2.1 = some b1 := by
   have := hk.by'
   cases h : (cal k (some b) m).2.2.1 with
   | none => rw [h] at this; cases this
   | some b1 => exact ⟨b1, rfl⟩
  have hH1 := hk.h1
  split
  ·rename_i h4
   exact ⟨hk.le, by omega, hk.h5, fun h => by omega⟩
  ·rename_i h4
   split
   ·rename_i e1
    obtain ⟨b1, hb1⟩ := hb1
    have hbk := hk.byk (fun x hx => by cases hx; exact ⟨h1, h2⟩) b1 hb1
    rw [hb1]
    have ih := Hy hc (l := l) (b := b1) (m := (cal k (some b) m).2.2.2) (fun x hx => hl x (by simp [hx])) hk.le.2.2 hbk.1 hbk.2
    exact ⟨hk.le.trans ih.1, ih.2.1, ih.2.2.1, fun h => ⟨((ih.2.2.2 h).1).trans (hk.deep (by omega)), (ih.2.2.2 h).2⟩⟩
   ·rename_i e1
    have ih := Hy hc (l := l) (b := ⟨(cal k (some b) m).1, if (cal k (some b) m).1 = 2 then (cal k (some b) m).2.1 else ((cal k (some b) m).2.2.1.getD b).pan, ((cal k (some b) m).2.2.1.getD b).exd || decide ((cal k (some b) m).1 = 3)⟩) (m := (cal k (some b) m).2.2.2) (fun x hx => hl x (by simp [hx])) hk.le.2.2 hH1 (by show (cal k (some b) m).1 < 4; omega)
    exact ⟨hk.le.trans ih.1, ih.2.1, ih.2.2.1, fun h => ⟨((ih.2.2.2 h).1).trans (hk.deep (by omega)), (ih.2.2.2 h).2⟩⟩
theorem Ao {p : Prog} {n : Int} (h0 : 0 ≤ n) (h1 : n < p.funcs.length) : funcAt p n ∈ p.funcs := by rw [← Ay (by omega)]; exact SJ _
theorem Bf {p : Prog} {n : Int} (h0 : 0 ≤ n) (h1 : n < p.funcs.length) : atI (paramsL p) n = (funcAt p n).params := by rw [BX h0 h1, ← Ay (by omega)]
theorem BI {p : Prog} (hg : goodP p = true) {f : Func} (hf : f ∈ p.funcs) : 0 ≤ f.params ∧ f.params ≤ 2 ∧ f.params ≤ f.vars ∧ f.vars ≤ 6 ∧ Ap f = true ∧ f.stmts.length ≤ 16 := by
 obtain ⟨q, hq, rfl⟩ := Se hf
 have hgf := CH hg hq
 have hsh := Gd hgf
 have hl := Ge hgf
 have h := hsh
 unfold Ap at h;rw [SC] at h
 have h2 := h.1
 unfold FJ at h2;simp only [SC, decide_eq_true_eq] at h2;exact ⟨h2.1.1, h2.1.2, h2.2.1.1, h2.2.1.2, hsh, hl⟩
theorem PP {n : Nat} {args : List Int} (h : args.length ≤ n) : (setL n args).length = n := by simp [setL]; omega
theorem ET {p : Prog} {inp : List Int} {f : Func} {args : List Int} {b : Option By} {m : Ms} (ha : args.length ≤ f.vars.toNat) (hu : m.used ≤ inp.length) : (startS f args b m).ok p inp f :=
 ⟨PP ha, (fun x hx => absurd hx List.not_mem_nil), hu⟩
theorem Kr {h v : Int} (h0 : 0 ≤ h) (h4 : h < 4) : 1 ≤ (endS h v).how ∧ (endS h v).how < 4 := by
 unfold endS;dsimp only
 split <;> omega
theorem QC (hL : Db p inp L) (hg : goodP p = true) {most : Nat} {fn : Int} {args : List Int} {b : Option By} {m : Ms} (h0 : 0 ≤ fn) (h1 : fn < p.funcs.length) (ha : args.length = (atI (paramsL p) fn).toNat) (hu : m.used ≤ inp.length) :
  Ms.to inp (DZ L p most fn args b m).1 b (DZ L p most fn args b m).2.2.1 m (DZ L p most fn args b m).2.2.2 := by
 have hm := Ao h0 h1
 obtain ⟨g1, g2, g3, g4, hsh, g6⟩ := BI hg hm
 rw [Bf h0 h1] at ha;unfold DZ
 by_cases hz : m.fuel = 0
 ·rw [if_pos hz]; exact ⟨⟨SR _, SR _, hu⟩, by show (1 : Int) ≤ 5; omega, by show (5 : Int) ≤ 5; omega, fun _ => rfl, rfl, id⟩
 rw [if_neg hz]
 by_cases hd : m.deep = most
 ·rw [if_pos hd]; exact ⟨⟨by show m.fuel - 1 ≤ m.fuel; omega, by show m.trace.length + (m.fuel - 1) ≤ _; omega, hu⟩, by show (1 : Int) ≤ 4; omega, by show (4 : Int) ≤ 5; omega, fun _ => rfl, rfl, id⟩
 rw [if_neg hd];dsimp only
 have hs := ET (p := p) (inp := inp) (f := funcAt p fn) (args := args) (b := b) (m := m) (by omega) hu
 have hb := BP (hL.stmt _ hm) (DQ hsh) hs
 generalize blockS (L.stmt (funcAt p fn)) (funcAt p fn) (funcAt p fn).body (startS (funcAt p fn) args b m) = r at hb
 obtain ⟨h, v, s1⟩ := r
 dsimp only at hb ⊢
 have e1 : s1.m.fuel ≤ m.fuel - 1 := hb.le.1
 have e2 : s1.m.trace.length + s1.m.fuel ≤ m.trace.length + (m.fuel - 1) := hb.le.2.1
 have hl1 : m.le inp s1.m := ⟨by omega, by omega, hb.le.2.2⟩
 have hh0 := hb.h0
 have hh5 := hb.h5
 split
 ·rename_i h4
  exact ⟨hl1, by show (1 : Int) ≤ h; omega, hb.h5, fun h => by omega, hb.by', hb.byk⟩
 ·rename_i h4
  have he := Kr (v := v) hb.h0 (by omega)
  have ho := Hy (p := p) (inp := inp) (cal := fun k b m => L.call k [] b m) (fun k b m k0 k1 k2 ku => hL.call k [] b m k0 k1 (by rw [k2]; rfl) ku) (l := s1.off.reverse) (b := endS h v) (m := s1.m) (fun x hx => hb.ok.off x (by simpa using hx)) hb.ok.used he.1 he.2
  generalize offR (fun k b m => L.call k [] b m) s1.off.reverse (endS h v) s1.m = q at ho
  obtain ⟨h2, b2, m2⟩ := q
  dsimp only at ho ⊢
  obtain ⟨o1, o2, o3, o4⟩ := ho
  split
  ·rename_i h5
   exact ⟨hl1.trans o1, by show (1 : Int) ≤ h2; omega, o3, fun h => by omega, hb.by', hb.byk⟩
  ·rename_i h5
   obtain ⟨p1, p2, p3⟩ := o4 (by omega)
   have hd1 : s1.m.deep = m.deep + 1 := hb.deep (by omega)
   refine ⟨⟨(hl1.trans o1).1, (hl1.trans o1).2.1, o1.2.2⟩, p2, by show b2.how ≤ 5; omega, fun _ => ?_, hb.by', hb.byk⟩;show m2.deep - 1 = m.deep;omega
theorem El {p : Prog} {inp : List Int} (hg : goodP p = true) (most : Nat) : ∀ n, Db p inp (lev p inp most n)
 | 0 => ⟨fun f _ t _ s hs => Sx.to.refl hs (by show (0 : Int) ≤ 5; omega) (by show (5 : Int) ≤ 5; omega), fun fn args b m _ _ _ hu => ⟨⟨SR _, SR _, hu⟩, by show (1 : Int) ≤ 5; omega, by show (5 : Int) ≤ 5; omega, fun _ => rfl, rfl, id⟩⟩
 | n + 1 => ⟨fun f hf t ht s hs => PJ (El hg most n) hg hf ht hs, fun fn args b m h0 h1 ha hu => QC (El hg most n) hg h0 h1 ha hu⟩
end
open Go.Eng
def ptr (b : Nat) : Value := .pointer (some ⟨b, 0, none⟩)
def mS (pv iv : Value) (most : Int) (m : Ms) : List D := [.t (.v pv), .t (.v iv), .t (.int m.used), .t (.int m.fuel), .t (.int most), .own (T.ints m.trace)]
def byH : Option By → Int
 | none => 0
 | some b => b.how
def byV : Option By → Int
 | none => 0
 | some b => if b.how = 2 then b.pan else 0
def byB : Option By → Int
 | none => 0
 | some b => if b.exd then 3 else 1
def bS (b : Option By) : List D := [.t (.int (byH b)), .t (.int (byV b)), .t (.int (byB b))]
def cS (f : Func) (fbv fsv : Value) (vars off : List Int) (res dp : Int) (bb : Nat) : List D :=
 [.t (.int f.params), .t (.int f.vars), .t (.v fbv), .t (.v fsv), .own (T.ints vars), .own (T.ints off), .t (.int res), .t (.int dp), .t (.v (.pointer (some ⟨bb, 0, none⟩)))]
def Fg (op x y : Int) : Int := (Bi op x y).getD 0
open Go.Eng
def rS (pv iv : Value) (most fu co : Int) (m : Ms) : List D := [.t (.v pv), .t (.v iv), .t (.int most), .t (.int fu), .t (.int m.deep), .t (.int co), .t (.int 0), .own (T.ints m.trace), .t (.int m.used)]
def gC (fn : Int) (vars off : List Int) (res e pan : Int) (exd : Bool) (bp : Value) : List D := [.t (.int fn), .own (T.ints vars), .t (.int res), .own (T.ints off), .t (.int e), .t (.int pan), .t (.bool exd), .t (.v bp)]
structure Kp where
 fn : Int
 vars : List Int
 off : List Int
 res : Int
 bp : Value
def byP (bb : Nat) : Option By → Value
 | none => .pointer none
 | some _ => .pointer (some ⟨bb, 0, none⟩)
def hH : Option By → Int
 | none => 0
 | some b => b.how
def nH : Option By → Int
 | none => 0
 | some b => b.pan
def xH : Option By → Bool
 | none => false
 | some b => b.exd
def byK (bb : Nat) (q : Kp) (b : Option By) : Blk := .obox (byP bb b) (gC q.fn q.vars q.off q.res (hH b) (nH b) (xH b) q.bp)
def fuH (h : Int) (m : Ms) : Int := if h = 4 then (m.fuel : Int) + 1 else m.fuel
def coH (h : Int) : Int := if 4 ≤ h then h else 0
def haH (h : Int) : Int := if 4 ≤ h then 4 else h
theorem QZ {b b' : Bool} (h : b = b') : Av [D.t (T.v (Value.bool b))] = D.t (T.bool b') := by rw [h]; rfl
theorem NQ {b b' : Int} (h : b = b') : Av [D.t (T.v (Value.int .i64 b))] = D.t (T.int b') := by rw [h]; rfl
theorem Gq (bm : Nat) (pv iv : Value) (most : Int) (m : Ms) (rv : List Value) (rt : List T) (hm : m.fuel ≤ 1048576) : Proc Tryz.prog 123 [.t (.v (.pointer (some ⟨bm, 0, none⟩)))] (rv) (rt) [.obox (.pointer (some ⟨bm, 0, none⟩)) (rS pv iv most m.fuel 0 m)] (.t (.bool (decide (m.fuel ≠ 0)))) [.obox (.pointer (some ⟨bm, 0, none⟩)) (rS pv iv most (A8 m).fuel (if m.fuel = 0 then 5 else 0) (A8 m))] := by
 refine Proc.intro tys Tryz.func123 Z Z (N := 19) [100] 99 ([(0, .t (.v (.pointer (some ⟨bm, 0, none⟩))))]) ([(100, .obox (.pointer (some ⟨bm, 0, none⟩)) (rS pv iv most m.fuel 0 m)), (99, .ro rv rt)]) Z Z Z Z (by decide) (by decide) Z (fun w0 G F0 => ?_);refine nY Z (AQ (Le.openNew (u := 100) 1100 Z Z Z Z Z) (nY Z (AQ (Le.named (t := 0) (u := 100) 1100 Z Z) (nY Z (sG (eZ Z (nB (sQ (sG (eZ Z (AG rfl Z (AA Z) Z Z Z (eK 3 Z (nB ?_)))))))))))));refine AB Z (fun h1 => ?_) (fun h1 => ?_)
 ·
  simp only [HS] at h1;refine sG (eZ Z (AG rfl Z (AA Z) Z Z Z (eZ Z (kZ [0,2,10] Z (eZ Z (sT Z (nZ Z (nA (eZ Z (nB (AQ (Le.close (u := 100) 1100 Z Z Z) (nY Z (rT (tR ?_))))))))))))));refine eP [_] ?_ ?_
  ·exact QZ (by simp; omega)
  ·(have h : (m.fuel : Int) = 0 := (by assumption); have hz : m.fuel = 0 := (by omega); simp only [rS, A8, hz]; rfl)
 simp only [HS] at h1;refine AC (tN (sG (eZ Z (AG rfl Z (AA Z) Z Z Z (eZ Z (kZ [2,12,14] Z (eZ Z (evI ?_))))))));refine AG rfl Z (AA Z) Z Z Z (eZ Z (sT Z (nZ Z (nA (eZ Z (nB (AQ (Le.close (u := 100) 1100 Z Z Z) (nY Z (rT ?_)))))))));refine eP [_] ?_ ?_
 ·exact QZ (by simp; omega)
 ·(have h : (m.fuel : Int) - 1 = ((m.fuel - 1 : Nat) : Int) := (by omega); rw [h, if_neg (by omega)]; rfl)
theorem recSn {b : By} (h : ¬ b.how = 2) : IY (some b) = (0, some b) := by rw [IY, if_neg h]
theorem PY {b : By} (h : b.how = 2) : IY (some b) = (b.pan, some ⟨if b.exd = true then 3 else 1, b.pan, b.exd⟩) := by rw [IY, if_pos h]
theorem Na (bc bb : Nat) (q : Kp) (fn : Int) (vars off : List Int) (res e pan : Int) (exd : Bool) (rv : List Value) (rt : List T) : Proc Tryz.prog 153 [.t (.v (.pointer (some ⟨bc, 0, none⟩)))] (rv) (rt) [.obox (.pointer (some ⟨bc, 0, none⟩)) (gC fn vars off res e pan exd (byP bb none)), byK bb q none] (.t (.int 0)) [.obox (.pointer (some ⟨bc, 0, none⟩)) (gC fn vars off res e pan exd (byP bb none)), byK bb q none] := by
 refine Proc.intro tys Tryz.func153 Z Z (N := 44) [100, 101] 99 ([(0, .t (.v (.pointer (some ⟨bc, 0, none⟩))))]) ([(100, .obox (.pointer (some ⟨bc, 0, none⟩)) (gC fn vars off res e pan exd (byP bb none))), (101, byK bb q none), (99, .ro rv rt)]) Z Z Z Z (by decide) (by decide) Z (fun w0 G F0 => ?_);refine nY Z (AQ (Le.openNew (u := 100) 1100 Z Z Z Z Z) (nY Z (AQ (Le.named (t := 0) (u := 100) 1100 Z Z) (nY Z (sG (eZ Z (nB (sQ (sG (eZ Z (AG rfl Z (AA Z) Z Z Z (eK 2 Z (KC (e := 117) (b := true) Z Z (AA Z) Z (by kernel_rfl) Z Z (.inl ⟨rfl, rfl⟩) (WO_le (Le.known (t := 7) true Z (by simp)) ?_))))))))))))));refine xK 3 Z (kZ [0,2,8,10] Z (xK 7 Z (nB (Ab Z (sQ (kY [0,2] Z (rG (eZ Z (nB (AQ (Le.close (u := 100) 1100 Z Z Z) (nY Z (rT (tR ?_)))))))))))));refine eP [_, _] ?_ ?_
 ·rfl
 ·rfl
theorem NY (bc bb : Nat) (q : Kp) (b : By) (fn : Int) (vars off : List Int) (res e pan : Int) (exd : Bool) (rv : List Value) (rt : List T) : Proc Tryz.prog 153 [.t (.v (.pointer (some ⟨bc, 0, none⟩)))] (rv) (rt) [.obox (.pointer (some ⟨bc, 0, none⟩)) (gC fn vars off res e pan exd (byP bb (some b))), .obox (.pointer (some ⟨bb, 0, none⟩)) (gC q.fn q.vars q.off q.res b.how b.pan b.exd q.bp)] (.t (.int (IY (some b)).1)) [.obox (.pointer (some ⟨bc, 0, none⟩)) (gC fn vars off res e pan exd (byP bb (some b))), byK bb q (IY (some b)).2] := by
 refine Proc.intro tys Tryz.func153 Z Z (N := 44) [100, 101] 99 ([(0, .t (.v (.pointer (some ⟨bc, 0, none⟩))))]) ([(100, .obox (.pointer (some ⟨bc, 0, none⟩)) (gC fn vars off res e pan exd (byP bb (some b)))), (101, .obox (.pointer (some ⟨bb, 0, none⟩)) (gC q.fn q.vars q.off q.res b.how b.pan b.exd q.bp)), (99, .ro rv rt)]) Z Z Z Z (by decide) (by decide) Z (fun w0 G F0 => ?_);refine nY Z (AQ (Le.openNew (u := 100) 1100 Z Z Z Z Z) (nY Z (AQ (Le.named (t := 0) (u := 100) 1100 Z Z) (nY Z (AQ (Le.openNew (u := 101) 1101 Z Z Z Z Z) (nY Z (sG (eZ Z (nB (sQ (sG (eZ Z (AG rfl Z (AA Z) Z Z Z (eK 2 Z (KC (e := 117) (b := false) Z Z (AA Z) Z (by kernel_rfl) Z Z (.inl ⟨rfl, rfl⟩) ?_)))))))))))))));refine WO_le (Le.known (t := 7) false Z (by simp)) ?_;refine xK 2 Z (gY Z (AG rfl Z (AA Z) Z Z Z (kZ [0,2,8,10] Z (xK 2 Z (WO_le (Le.named (t := 12) (u := 101) 1101 Z Z) (gY Z (AG rfl Z (AA Z) Z Z Z (xK 4 Z (nB ?_)))))))));refine AB Z (fun h1 => ?_) (fun h1 => ?_)
 ·
  simp only [HS] at h1;refine sQ (kY [0,2] Z (rG (eZ Z (nB (AQ (Le.close (u := 100) 1100 Z Z Z) (nY Z (AQ (Le.close (u := 101) 1101 Z Z Z) (nY Z (rT (tR ?_))))))))));refine eP [_, _] ?_ ?_
  ·exact NQ (by rw [recSn (by assumption)])
  ·(rw [recSn (by assumption)]; rfl)
 simp only [HS] at h1;refine AC (tN (sQ (kY [0,2] Z (rG (eZ Z (AG rfl Z (AA Z) Z Z Z (eK 2 Z (WO_le (Le.named (t := 21) (u := 101) 1101 Z Z) (AG rfl Z (AA Z) Z Z Z (eZ Z (sT Z (nZ Z (nB (sQ (sQ ?_)))))))))))))));refine kY [0,2] Z (rG (eZ Z (AG rfl Z (AA Z) Z Z Z (eK 2 Z (WO_le (Le.named (t := 27) (u := 101) 1101 Z Z) (AG rfl Z (AA Z) Z Z Z (eK 2 Z (nB ?_))))))));refine AB Z (fun h2 => ?_) (fun h2 => ?_)
 ·
  refine kY [0,2] Z (rG (eZ Z (AG rfl Z (AA Z) Z Z Z (eK 2 Z (WO_le (Le.named (t := 34) (u := 101) 1101 Z Z) (AG rfl Z (AA Z) Z Z Z (eZ Z (sT Z (nZ Z (nB (sQ (kY [0,2] Z (rG (eZ Z (AG rfl Z (AA Z) Z Z Z ?_)))))))))))))));refine eK 2 Z (WO_le (Le.named (t := 40) (u := 101) 1101 Z Z) (AG rfl Z (AA Z) Z Z Z (eK 3 Z (nB (AQ (Le.close (u := 100) 1100 Z Z Z) (nY Z (AQ (Le.close (u := 101) 1101 Z Z Z) (nY Z (rT ?_)))))))));refine eP [_, _] ?_ ?_
  ·exact NQ (by rw [PY (by omega)])
  ·(rw [PY (by omega), if_pos (by assumption)]; rfl)
 refine AC (tN (sQ (kY [0,2] Z (rG (eZ Z (AG rfl Z (AA Z) Z Z Z (eK 2 Z (WO_le (Le.named (t := 40) (u := 101) 1101 Z Z) (AG rfl Z (AA Z) Z Z Z (eK 3 Z (nB (AQ (Le.close (u := 100) 1100 Z Z Z) (nY Z (AQ (Le.close (u := 101) 1101 Z Z Z) (nY Z ?_)))))))))))))));refine rT ?_;refine eP [_, _] ?_ ?_
 ·exact NQ (by rw [PY (by omega)])
 ·(rw [PY (by omega), if_neg (by simp_all)]; rfl)
theorem PZ (bc bb : Nat) (q : Kp) (b : Option By) (fn : Int) (vars off : List Int) (res e pan : Int) (exd : Bool) (rv : List Value) (rt : List T) : Proc Tryz.prog 153 [.t (.v (.pointer (some ⟨bc, 0, none⟩)))] rv rt
  [.obox (.pointer (some ⟨bc, 0, none⟩)) (gC fn vars off res e pan exd (byP bb b)), byK bb q b] (.t (.int (IY b).1)) [.obox (.pointer (some ⟨bc, 0, none⟩)) (gC fn vars off res e pan exd (byP bb b)), byK bb q (IY b).2] := by
 cases b with
 | none => exact Na bc bb q fn vars off res e pan exd rv rt
 | some b => exact NY bc bb q b fn vars off res e pan exd rv rt
theorem Gp {bb : Nat} {a b : Option By} (h : a.isSome = b.isSome) : byP bb a = byP bb b := by
 cases a <;> cases b <;> first | rfl | cases h
theorem Lu (bc : Nat) (h v : Int) (fn : Int) (vars off : List Int) (res e pan : Int) (exd : Bool) (bp : Value) (rv : List Value) (rt : List T) : Proc Tryz.prog 125 [.t (.v (.pointer (some ⟨bc, 0, none⟩))), .t (.int h), .t (.int v)] (rv) (rt) [.obox (.pointer (some ⟨bc, 0, none⟩)) (gC fn vars off res e pan exd bp)] (.tup []) [.obox (.pointer (some ⟨bc, 0, none⟩)) (gC fn vars off res h (if h = 2 then v else pan) (or exd (decide (h = 3))) bp)] := by
 refine Proc.intro tys Tryz.func125 Z Z (N := 22) [100] 99 ([(0, .t (.v (.pointer (some ⟨bc, 0, none⟩)))), (1, .t (.int h)), (2, .t (.int v))]) ([(100, .obox (.pointer (some ⟨bc, 0, none⟩)) (gC fn vars off res e pan exd bp)), (99, .ro rv rt)]) Z Z Z Z (by decide) (by decide) Z (fun w0 G F0 => ?_);refine nY Z (AQ (Le.openNew (u := 100) 1100 Z Z Z Z Z) (nY Z (AQ (Le.named (t := 0) (u := 100) 1100 Z Z) (nY Z (R4 (sG (eK 2 Z (AG rfl Z (AA Z) Z Z Z (eZ Z (sT Z (nZ Z (nA (eZ Z (nB (AD ?_)))))))))))))));refine sG (eK 2 Z (nB ?_));refine AB Z (fun h1 => ?_) (fun h1 => ?_)
 ·
  simp only [HS] at h1;refine kY [0,2] Z (rG (eK 2 Z (AG rfl Z (AA Z) Z Z Z (eZ Z (sT Z (nZ Z (oN (bN ?_))))))));refine ⟨_, Le.close (u := 100) 1100 Z Z rfl, ?_⟩;refine eP [_] ?_ ?_
  ·rfl
  ·simp_all [gC]
   done
 simp only [HS] at h1;refine sQ (kY [0,10] Z (rG (eK 2 Z (nB ?_))));refine AB Z (fun h2 => ?_) (fun h2 => ?_)
 ·
  simp only [HS] at h2;refine rG (eZ Z (AG rfl Z (AA Z) Z Z Z (eZ Z (sT Z (nZ Z (oN (bN ?_)))))));refine ⟨_, Le.close (u := 100) 1100 Z Z rfl, ?_⟩;refine eP [_] ?_ ?_
  ·rfl
  ·simp_all [gC]
   done
 simp only [HS] at h2;refine AC (bN ?_);refine ⟨_, Le.close (u := 100) 1100 Z Z rfl, ?_⟩;refine eP [_] ?_ ?_
 ·rfl
 ·simp_all [gC]
  done
theorem EQ (n : Int) : Fun Tryz.prog 157 [.t (.int n)] (Av [.t (.int (w32 n))]) := by
 refine Fun.begin tys Tryz.func157 Z Z (N := 6) [(0, .t (.int n))] Z Z (fun w0 G F0 => ?_);refine sG (eZ Z (nA (eZ Z (WO_conv (td := .int .i64) (k := .i32) Z Z (AA Z) Z (by kernel_rfl) (by kernel_rfl) Z (WO_conv (td := .int .i32) (k := .i64) Z Z (AA Z) Z (by kernel_rfl) (by kernel_rfl) Z (eZ Z (nB (rT (eR ?_)))))))))
 ·rfl
theorem Ea {a a' : Int} {b b' : Bool} (h : a = a') (h' : b = b') : [D.t (T.v (Value.int .i64 a)), D.t (T.v (Value.bool b))] = [D.t (T.int a'), D.t (T.bool b')] := by rw [h, h']
theorem NX (op x y : Int) : Fun Tryz.prog 154 [.t (.int op), .t (.int x), .t (.int y)] (Av [.t (.int (Fg op x y)), .t (.bool (Bi op x y).isSome)]) := by
 refine Fun.begin tys Tryz.func154 Z Z (N := 45) [(0, .t (.int op)), (1, .t (.int x)), (2, .t (.int y))] Z Z (fun w0 G F0 => ?_);refine sG (eK 2 Z (nA (eZ Z (nB (sQ (sG (eZ Z (nB (AD (sG (eK 2 Z (nB ?_))))))))))));refine AB Z (fun h1 => ?_) (fun h1 => ?_)
 ·
  simp only [HS] at h1;refine sG (eK 3 Z (kZ [6,7,8,17] Z (AJ ?_)));refine ⟨_, EQ _, rfl, ?_⟩;refine eK 2 Z (nB (rT (bR (tR (eR ?_)))))
  ·exact Ea (by grind [Fg, Bi, w64]) (by grind [Bi])
 simp only [HS] at h1;refine sG (eK 2 Z (nB ?_));refine AB Z (fun h2 => ?_) (fun h2 => ?_)
 ·
  simp only [HS] at h2;refine sQ (kY [1,2,6,7,8] Z (rG (eK 3 Z (AJ ?_))));refine ⟨_, EQ _, rfl, ?_⟩;refine eK 2 Z (nB (rT (bR (tR (eR ?_)))))
  ·exact Ea (by grind [Fg, Bi, w64]) (by grind [Bi])
 simp only [HS] at h2;refine sQ (kY [1,2,6,7,8,9] Z (rG (eK 2 Z (nB ?_))));refine AB Z (fun h3 => ?_) (fun h3 => ?_)
 ·
  simp only [HS] at h3;refine sG (eK 3 Z (AJ ?_));refine ⟨_, EQ _, rfl, ?_⟩;refine eK 2 Z (nB (rT (bR (tR (eR ?_)))))
  ·exact Ea (by grind [Fg, Bi, w64]) (by grind [Bi])
 simp only [HS] at h3;refine sG (eK 2 Z (nB ?_));refine AB Z (fun h4 => ?_) (fun h4 => ?_)
 ·
  simp only [HS] at h4;refine sQ (sG (eK 2 Z (nB ?_)));refine AB Z (fun h5 => ?_) (fun h5 => ?_)
  ·
   simp only [HS] at h5;refine sG (eK 2 Z (nB (rT (tR (bR (tR (eR ?_)))))))
   ·exact Ea (by grind [Fg, Bi, w64]) (by grind [Bi])
  simp only [HS] at h5;refine AC (tN (sG (eK 2 Z (Qv Z Z (AA Z) Z Z Z (by first | decide | omega) ?_))));refine kZ [6,7,8,37] Z (AJ ?_);refine ⟨_, EQ _, rfl, ?_⟩;refine eK 2 Z (nB (rT (bR (tR (eR ?_)))))
  ·exact Ea (by grind [Fg, Bi, w64]) (by grind [Bi])
 simp only [HS] at h4;refine sG (eK 2 Z (nB ?_));refine AB Z (fun h5 => ?_) (fun h5 => ?_)
 ·
  simp only [HS] at h5;refine rG (eK 3 Z (kZ [6,7,8,43] Z (eZ Z (oN (bN (tN (sQ (sG (eZ Z (nB ?_))))))))));refine AB Z (fun h6 => ?_) (fun h6 => ?_)
  ·
   simp only [HS] at h6;refine sG (eK 2 Z (nB (rT (tR (eR ?_)))))
   ·exact Ea (by grind [Fg, Bi, w64]) (by grind [Bi])
  simp only [HS] at h6;refine AC (tN (sG (eK 2 Z (nB (rT (eR ?_))))))
  ·exact Ea (by grind [Fg, Bi, w64]) (by grind [Bi])
 simp only [HS] at h5;refine rG (eK 3 Z (kZ [6,7,8,12] Z (eZ Z (oN (bN (tN (sQ (sG (eZ Z (nB ?_))))))))));refine AB Z (fun h6 => ?_) (fun h6 => ?_)
 ·
  simp only [HS] at h6;refine sG (eK 2 Z (nB (rT (tR (eR ?_)))))
  ·exact Ea (by grind [Fg, Bi, w64]) (by grind [Bi])
 simp only [HS] at h6;refine AC (tN (sG (eK 2 Z (nB (rT (eR ?_))))))
 ·exact Ea (by grind [Fg, Bi, w64]) (by grind [Bi])
open Go.Eng
def exS (p : Prog) (inp : List Int) (L : Lev) (l : List Tok) (s : Sx) : Int × Int × Sx := exprS L.cal (paramsL p) inp l [] s
section
variable {p : Prog} {inp : List Int} {f : Func} {L : Lev} {l : List Tok} {s s1 : Sx} {pv iv fbv fsv : Value} {most dp : Int} {bb : Nat} {k : Int} {pile : List Int}
theorem I2 (h0 : 0 ≤ k) (h1 : k < l.length) (hr : ∃ r mx, C2 f.vars (paramsL p) (l.drop k.toNat) pile.length mx = some (1, r)) :
  knownT f.vars (paramsL p).length (l[k.toNat]'(by omega)) = true ∧ Aq (paramsL p) (l[k.toNat]'(by omega)) ≤ pile.length ∧ ∃ r mx, C2 f.vars (paramsL p) (l.drop (k + 1).toNat) (pile.length + (1 - Aq (paramsL p) (l[k.toNat]'(by omega)))) mx = some (1, r) := by
 obtain ⟨r, mx, hr⟩ := hr
 rw [EE h0 h1] at hr;split at hr
 ·rename_i h
  rw [SC, decide_eq_true_eq] at h;exact ⟨h.1, h.2, r, _, hr⟩
 ·cases hr
theorem NP (h1 : (l.length : Int) ≤ k) (hr : ∃ r mx, C2 f.vars (paramsL p) (l.drop k.toNat) pile.length mx = some (1, r)) : pile.length = 1 := by
 obtain ⟨r, mx, hr⟩ := hr
 rw [A1 h1, C2] at hr
 have := (Prod.mk.inj (Option.some.inj hr)).1
 omega
theorem Fz (h0 : 0 ≤ k) (h1 : k < l.length) (hex : exS p inp L l s = exprS L.cal (paramsL p) inp (l.drop k.toNat) pile s1) {h v : Int} {pile' : List Int} {s' : Sx} (ht : DI L.cal (paramsL p) inp (l[k.toNat]'(by omega)) pile s1 = (h, v, pile', s')) (hh : h ≠ 0) : exS p inp L l s = (h, v, s') := by
 rw [hex, Ct h0 h1, exprS, ht]
 simp [hh]
theorem OL (h1 : (l.length : Int) ≤ k) (hex : exS p inp L l s = exprS L.cal (paramsL p) inp (l.drop k.toNat) pile s1) : exS p inp L l s = (0, (pile[0]?).getD 0, s1) := by
 rw [hex, A1 h1, exprS]
variable {t : Tok}
theorem tok_1 (h : t.op = 1) : DI L.cal (paramsL p) inp t pile s1 = (0, 0, pile ++ [t.n], s1) := by rw [DI, if_pos h]
theorem tok_2 (h : t.op = 2) : DI L.cal (paramsL p) inp t pile s1 = (0, 0, pile ++ [atI s1.vars t.n], s1) := by rw [DI, if_neg (by omega), if_pos h]
theorem tok_9 (h : t.op = 9) : DI L.cal (paramsL p) inp t pile s1 = (0, 0, pile ++ [(inS inp s1.m).1], { s1 with m := (inS inp s1.m).2 }) := by rw [DI, if_neg (by omega), if_neg (by omega), if_pos h]
theorem tok_10 (h : t.op = 10) : DI L.cal (paramsL p) inp t pile s1 = (0, 0, pile ++ [(IY s1.by').1], { s1 with by' := (IY s1.by').2 }) := by rw [DI, if_neg (by omega), if_neg (by omega), if_neg (by omega), if_pos h]
theorem tok_11 {R : Int × Int × Option By × Ms} (hR : R = L.call t.n (pile.drop (pile.length - (atI (paramsL p) t.n).toNat)) none s1.m) (h : t.op = 11) (h1 : R.1 = 1) : DI L.cal (paramsL p) inp t pile s1 = (0, 0, pile.take (pile.length - (atI (paramsL p) t.n).toNat) ++ [R.2.1], { s1 with m := R.2.2.2 }) := by
 subst hR;rw [DI, if_neg (by omega), if_neg (by omega), if_neg (by omega), if_neg (by omega), if_pos h];dsimp only [Lev.cal];rw [if_pos h1]
theorem M8 {R : Int × Int × Option By × Ms} (hR : R = L.call t.n (pile.drop (pile.length - (atI (paramsL p) t.n).toNat)) none s1.m) (h : t.op = 11) (h1 : ¬ R.1 = 1) : DI L.cal (paramsL p) inp t pile s1 = (R.1, R.2.1, pile, { s1 with m := R.2.2.2 }) := by
 subst hR;rw [DI, if_neg (by omega), if_neg (by omega), if_neg (by omega), if_neg (by omega), if_pos h];dsimp only [Lev.cal];rw [if_neg h1]
theorem tok_r (h1 : ¬ t.op = 1) (h2 : ¬ t.op = 2) (h9 : ¬ t.op = 9) (h10 : ¬ t.op = 10) (h11 : ¬ t.op = 11) (hk : 2 ≤ pile.length) : DI L.cal (paramsL p) inp t pile s1 = match Bi t.op (pile[pile.length - 2]'(by omega)) (pile[pile.length - 1]'(by omega)) with
  | none => (2, -1, pile, s1)
  | some v => (0, 0, pile.take (pile.length - 2) ++ [v], s1) := by
 rw [DI, if_neg h1, if_neg h2, if_neg h9, if_neg h10, if_neg h11, List.getElem?_eq_getElem (by omega), List.getElem?_eq_getElem (by omega)];rfl
theorem tok_r' (h1 : ¬ t.op = 1) (h2 : ¬ t.op = 2) (h9 : ¬ t.op = 9) (h10 : ¬ t.op = 10) (h11 : ¬ t.op = 11) (hk : 2 ≤ pile.length) {i j : Nat} (hi : i = pile.length - 2) (hj : j = pile.length - 1) (hv : (Bi t.op (pile[i]'(by omega)) (pile[j]'(by omega))).isSome = true) : DI L.cal (paramsL p) inp t pile s1 = (0, 0, pile.take i ++ [Fg t.op (pile[i]'(by omega)) (pile[j]'(by omega))], s1) := by
 subst hi hj;rw [tok_r h1 h2 h9 h10 h11 hk, Fg]
 cases h : Bi t.op (pile[pile.length - 2]'(by omega)) (pile[pile.length - 1]'(by omega)) with
 | none => rw [h] at hv; cases hv
 | some v => rfl
theorem QX (h1 : ¬ t.op = 1) (h2 : ¬ t.op = 2) (h9 : ¬ t.op = 9) (h10 : ¬ t.op = 10) (h11 : ¬ t.op = 11) (hk : 2 ≤ pile.length) {i j : Nat} (hi : i = pile.length - 2) (hj : j = pile.length - 1) (hv : ¬ (Bi t.op (pile[i]'(by omega)) (pile[j]'(by omega))).isSome = true) : DI L.cal (paramsL p) inp t pile s1 = (2, -1, pile, s1) := by
 subst hi hj;rw [tok_r h1 h2 h9 h10 h11 hk]
 cases h : Bi t.op (pile[pile.length - 2]'(by omega)) (pile[pile.length - 1]'(by omega)) with
 | none => rfl
 | some v => rw [h] at hv; exact absurd rfl hv
end
theorem slI {pile : List Int} {Q : Int} {q : Nat} (h0 : 0 ≤ Q) (h1 : Q ≤ pile.length) (hq : q = pile.length - Q.toNat) : ((pile.map T.int).drop (0 + ((pile.length : Int) - Q).toNat)).take ((pile.length : Int).toNat - ((pile.length : Int) - Q).toNat) = (pile.drop q).map T.int := by
 rw [List.map_drop, show 0 + ((pile.length : Int) - Q).toNat = q from by omega, SH (by simp; omega)]
open Go.Eng
def O3 (p : Prog) (inp : List Int) (most n : Nat) (L : Lev) : Prop :=
 ∀ (fn : Int) (args : List Int) (b : Option By) (m : Ms) (bm bb : Nat) (q : Kp) (pv iv : Value) (xv : List Value) (xt : List T), 0 ≤ fn → fn < p.funcs.length → args.length = (atI (paramsL p) fn).toNat → m.used ≤ inp.length → m.deep ≤ most → m.fuel ≤ n → m.fuel ≤ 1048576 → m.trace.length + m.fuel ≤ 1048576 →
  Proc Tryz.prog 94 [.t (.v (.pointer (some ⟨bm, 0, none⟩))), .t (.int fn), .t (T.ints args), .t (.v (byP bb b))] (pv :: iv :: xv) (T.Funcs p.funcs :: T.ints inp :: xt)
   [byK bb q b, .obox (.pointer (some ⟨bm, 0, none⟩)) (rS pv iv most m.fuel 0 m)]
   (.tup [.t (.int (haH (L.call fn args b m).1)), .t (.int (L.call fn args b m).2.1)])
   [.obox (byP bb b) (gC q.fn q.vars q.off q.res (hH (L.call fn args b m).2.2.1) (nH (L.call fn args b m).2.2.1) (xH (L.call fn args b m).2.2.1) q.bp), .obox (.pointer (some ⟨bm, 0, none⟩)) (rS pv iv most (fuH (L.call fn args b m).1 (L.call fn args b m).2.2.2) (coH (L.call fn args b m).1) (L.call fn args b m).2.2.2)]
def ExI (p : Prog) (inp : List Int) (f : Func) (L : Lev) (l : List Tok) (s : Sx) (pv iv bp : Value) (q : Kp) (bpv : Value) (most fn : Int) (k : Int) (m : Nat) (ws : List T) (b1 b2 b3 : Blk) : Prop :=
 ∃ (pile : List Int) (s1 : Sx), 0 ≤ k ∧ k ≤ l.length ∧ Sx.to p inp f 0 s s1 ∧ exS p inp L l s = exprS L.cal (paramsL p) inp (l.drop k.toNat) pile s1 ∧ (∃ r mx, C2 f.vars (paramsL p) (l.drop k.toNat) pile.length mx = some (1, r)) ∧ (pile.length : Int) ≤ k ∧
  m = pile.length ∧ ws = pile.map T.int ∧ b1 = .box (rS pv iv most s1.m.fuel 0 s1.m) ∧ b2 = .box (gC fn s1.vars s1.off s1.res 0 0 false bp) ∧ b3 = .obox bpv (gC q.fn q.vars q.off q.res (hH s1.by') (nH s1.by') (xH s1.by') q.bp)
section
variable {p : Prog} {inp : List Int} {f : Func} {L : Lev} {l : List Tok} {s s1 : Sx} {pv iv bp bpv : Value} {most fn : Int} {q : Kp} {k : Int} {pile : List Int}
theorem ExI.next (hL : Db p inp L) (hg : goodP p = true) (h0 : 0 ≤ k) (h1 : k < l.length) (hto : Sx.to p inp f 0 s s1) (hex : exS p inp L l s = exprS L.cal (paramsL p) inp (l.drop k.toNat) pile s1) (hr : ∃ r mx, C2 f.vars (paramsL p) (l.drop k.toNat) pile.length mx = some (1, r)) (hpl : (pile.length : Int) ≤ k)
  {pile' : List Int} {s' : Sx} {v : Int} (ht : DI L.cal (paramsL p) inp (l[k.toNat]'(by omega)) pile s1 = (0, v, pile', s')) {k' : Int} (hk : k' = k + 1) {m : Nat} {ws : List T} {b1 b2 b3 : Blk}
  (e1 : m = pile'.length) (e2 : ws = pile'.map T.int) (e3 : b1 = .box (rS pv iv most s'.m.fuel 0 s'.m)) (e4 : b2 = .box (gC fn s'.vars s'.off s'.res 0 0 false bp)) (e5 : b3 = .obox bpv (gC q.fn q.vars q.off q.res (hH s'.by') (nH s'.by') (xH s'.by') q.bp)) :
  ExI p inp f L l s pv iv bp q bpv most fn k' m ws b1 b2 b3 := by
 subst hk
 obtain ⟨g1, g2, r, mx, g3⟩ := I2 h0 h1 hr
 obtain ⟨q1, q2⟩ := Hl hL hg hto.ok g1 g2
 rw [ht] at q1 q2;dsimp only at q1 q2
 have q2 := q2 rfl
 have hps := C6 (H7 hg) (l[k.toNat]'(by omega))
 refine ⟨pile', s', by omega, by omega, hto.trans q1 (by omega), ?_, ⟨r, mx, by rw [q2]; exact g3⟩, by omega, e1, e2, e3, e4, e5⟩;rw [hex, Ct h0 h1, exprS, ht];rfl
theorem RY {h : Int} (e : haH h = 1) : h = 1 := by unfold haH at e; split at e <;> omega
theorem Ql {h : Int} (e : ¬ haH h = 1) : ¬ h = 1 := by intro h; subst h; exact e rfl
theorem Jv {h : Int} (e : h < 4) (m : Ms) : fuH h m = m.fuel := by unfold fuH; rw [if_neg (by omega)]
theorem J2 {h : Int} (e : h < 4) : coH h = 0 := by unfold coH; rw [if_neg (by omega)]
theorem RX {h : Int} (e : h < 4) : haH h = h := by unfold haH; rw [if_neg (by omega)]
end
theorem Proc.argLi {F : Nat} {a b e : D} {zs : List T} {ys : List Int} {rv : List Value} {rt : List T} {ks ks' : List Blk} {r : D} (h : zs = ys.map T.int) (hp : Proc Tryz.prog F [a, b, .t (T.ints ys), e] rv rt ks r ks') : Proc Tryz.prog F [a, b, .t (.list 1 zs), e] rv rt ks r ks' := by
 subst h; exact hp
theorem Fn {a a' b b' : Int} (h1 : a = a') (h2 : b = b') : Av [D.t (T.v (Value.int .i64 a)), D.t (T.v (Value.int .i64 b))] = D.tup [D.t (T.int a'), D.t (T.int b')] := by rw [h1, h2]; rfl
theorem OK (p : Prog) (inp : List Int) (most n : Nat) (L : Lev) (hL : Db p inp L) (hC : O3 p inp most n L) (hg : goodP p = true) (hp : p.ok 1048576) (hi : inp.length ≤ 1048576) (f : Func) (hf : f ∈ p.funcs) (fn : Int) (l : List Tok) (hl : l.length ≤ 12) (hr : ∃ r, C2 f.vars (paramsL p) l 0 0 = some (1, r)) (s : Sx) (hs : s.ok p inp f) (hn : s.m.fuel ≤ n) (hn2 : s.m.fuel ≤ 1048576) (hti : s.m.trace.length + s.m.fuel ≤ 1048576) (hdm : s.m.deep ≤ most) (hmost : most ≤ 1048576) (bm bc bb : Nat) (q : Kp) (pv iv : Value) (xv : List Value) (xt : List T) : Proc Tryz.prog 147 [.t (.v (.pointer (some ⟨bm, 0, none⟩))), .t (.v (.pointer (some ⟨bc, 0, none⟩))), .t (T.Toks l)] ((pv :: iv :: xv)) ((T.Funcs p.funcs :: T.ints inp :: xt)) [.obox (.pointer (some ⟨bm, 0, none⟩)) (rS pv iv most s.m.fuel 0 s.m), .obox (.pointer (some ⟨bc, 0, none⟩)) (gC fn s.vars s.off s.res 0 0 false (byP bb s.by')), byK bb q s.by'] (.tup [.t (.int (exS p inp L l s).2.1), .t (.int (haH (exS p inp L l s).1))]) [.obox (.pointer (some ⟨bm, 0, none⟩)) (rS pv iv most (fuH (exS p inp L l s).1 (exS p inp L l s).2.2.m) (coH (exS p inp L l s).1) (exS p inp L l s).2.2.m), .obox (.pointer (some ⟨bc, 0, none⟩)) (gC fn (exS p inp L l s).2.2.vars (exS p inp L l s).2.2.off (exS p inp L l s).2.2.res 0 0 false (byP bb s.by')), .obox (byP bb s.by') (gC q.fn q.vars q.off q.res (hH (exS p inp L l s).2.2.by') (nH (exS p inp L l s).2.2.by') (xH (exS p inp L l s).2.2.by') q.bp)] := by
 have hgp := AV hg
 have hgv := BI hg hf
 refine Proc.intro tys Tryz.func147 Z Z (N := 142) [100, 101, 102] 99 ([(0, .t (.v (.pointer (some ⟨bm, 0, none⟩)))), (1, .t (.v (.pointer (some ⟨bc, 0, none⟩)))), (2, .t (T.Toks l))]) ([(100, .obox (.pointer (some ⟨bm, 0, none⟩)) (rS pv iv most s.m.fuel 0 s.m)), (101, .obox (.pointer (some ⟨bc, 0, none⟩)) (gC fn s.vars s.off s.res 0 0 false (byP bb s.by'))), (102, byK bb q s.by'), (99, .ro (pv :: iv :: xv) (T.Funcs p.funcs :: T.ints inp :: xt))]) Z Z Z Z (by decide) (by decide) Z (fun w0 G F0 => ?_);refine nY Z (AQ (Le.openNew (u := 100) 1100 Z Z Z Z Z) (nY Z (AQ (Le.named (t := 0) (u := 100) 1100 Z Z) (nY Z (AQ (Le.openNew (u := 101) 1101 Z Z Z Z Z) (nY Z (AQ (Le.named (t := 1) (u := 101) 1101 Z Z) (nY Z (sG (eK 2 Z (nA (eZ Z (WO_le (Le.nilOwn (u := 8) 1 Z) (WO_le (Le.adoptE (u := 8) 8 Z Z) (nZ Z ?_)))))))))))))));refine nB (sQ (sG (eZ Z (evE ?_))));refine eZ Z (nB (AD ?_));refine lK (α := Int × Nat × List T × Blk × Blk × Blk) [0, 1, 18, 19] [99, 1100, 1101] (fun x => [(20, .t (.int (x.1))), (8, .sl 8 0 (x.2.1))]) (fun x => [(8, .L 1 (x.2.2.1)), (100, (x.2.2.2.1)), (101, (x.2.2.2.2.1)), (102, (x.2.2.2.2.2))]) (fun x => ExI p inp f L l s pv iv (byP bb s.by') q (byP bb s.by') most fn (x.1) (x.2.1) (x.2.2.1) (x.2.2.2.1) (x.2.2.2.2.1) (x.2.2.2.2.2)) (fun x => Int.toNat (l.length - (x.1))) (0, 0, [], .box (rS pv iv most s.m.fuel 0 s.m), .box (gC fn s.vars s.off s.res 0 0 false (byP bb s.by')), .obox (byP bb s.by') (gC q.fn q.vars q.off q.res (hH s.by') (nH s.by') (xH s.by') q.bp)) ?_ (fun x hx => ?_)
 ·exact ⟨[], s, by omega, by omega, Sx.to.refl hs (by omega) (by omega), rfl, hr.imp fun r h => ⟨0, h⟩, by simp, rfl, rfl, rfl, rfl, rfl⟩
 obtain ⟨k, m, ws, b1, b2, b3⟩ := x
 obtain ⟨pile, s1, hk0, hk1, hto, hex, hrun, hpl, hm, hws, hb1, hb2, hb3⟩ := hx
 dsimp only at hk0 hk1 hto hex hrun hpl hm hws hb1 hb2 hb3 ⊢;subst hm hws hb1 hb2 hb3;refine nY Z (sG (eZ Z (nB (sQ ?_))));refine AB Z (fun h1 => ?_) (fun h1 => ?_)
 ·
  simp only [HS] at h1;refine AC (tN (sQ (AD (sG ?_))))
  have hkl : k < l.length := by omega
  obtain ⟨hkn, hnd, hrun2⟩ := I2 hk0 hkl hrun
  have hpl12 : pile.length ≤ 12 := by omega
  have hfu : s1.m.fuel ≤ s.m.fuel := hto.le.1
  have hft : s1.m.trace.length + s1.m.fuel ≤ s.m.trace.length + s.m.fuel := hto.le.2.1
  have hus : s1.m.used ≤ inp.length := hto.le.2.2
  have hdp : s1.m.deep = s.m.deep := hto.deep (by omega)
  have hvl : s1.vars.length = f.vars.toNat := hto.ok.vars
  refine iY (k := ?_);refine eZ Z ?_
  try refine WO_le (Le.freeze (u := 23) rfl) ?_
  refine nZ Z (AL tys Z Z (AA Z) Z Z Z (nZ Z (sT Z (nZ Z (nA (eZ Z (nB (sQ (sG (eK 2 Z (nB (AD (sQ (kY [0,1,8,10,11,18,19,20,21,22,23,24,25] Z (rG ?_)))))))))))))));refine eK 2 Z (nB ?_);refine AB Z (fun h2 => ?_) (fun h2 => ?_)
  ·
   simp only [HS] at h2;refine rG (eK 3 Z (oN (bN (tN ?_))))
   skip
   refine rG (eK 2 Z (bZ [T.v _] ?_));refine nZ Z (AH tys Z Z (AA Z) Z Z Z Z Z (.own Z (by first | omega | (simp; done) | (simp; omega))) Z (.own Z (by simp)) (by decide) (by simp; omega) (by decide) Z ?_);refine nZ Z (kZ [0,1,8,10,11,18,19,20,21,22,23,24,25,50,51,52,53,134,135,136,137] Z (eZ Z (oN (bN (tN (rG (evI ?_)))))));refine eZ Z (oN ?_);refine lQ (_, _, _, _, _, _) ?_ ?_
   ·dsimp only
    first
    | exact ExI.next hL hg hk0 (by omega) hto hex hrun hpl (tok_1 (by assumption)) rfl (by simp) (by simp [SH]) rfl rfl rfl
   ·(show Int.toNat _ < Int.toNat _); omega
  simp only [HS] at h2;refine sG (eK 2 Z (nB ?_));refine AB Z (fun h3 => ?_) (fun h3 => ?_)
  ·
   simp only [HS] at h3
   have hk2 : 0 ≤ (l[k.toNat]'(by omega)).n ∧ (l[k.toNat]'(by omega)).n < f.vars := by have h2 : (l[k.toNat]'(by omega)).op = 2 := (by assumption); simp [knownT, h2] at hkn; exact hkn
   refine AQ (Le.adoptBox (u := 101) (j := 1) (id := 191) Z Z Z) (nY Z (Am BJ (by kernel_rfl) (evQ ?_)));refine A5 rfl Z (AA Z) Z Z Z (AU Z (evQ ?_));refine evQ ?_;refine evQ ?_;refine evQ ?_;refine Gz tys Z Z (AA Z) Z Z Z Z Z Z Z Z hk2.1 (by rw [SE, hvl]; omega) ?_;refine F5 tys Z Z (AA Z) Z Z Z Z (Dk _ _ hk2.1 (by rw [hvl]; omega)) Z ?_;refine AU Z (evQ ?_);refine BE (bN (tN ?_))
   (refine AQ (Le.gatherBox (u := 101) (j := 1) (id := 191) rfl rfl rfl (by simp) rfl) ?_; refine Aj rfl ?_)
   refine rG (eK 2 Z (bZ [T.v _] ?_));refine nZ Z (AH tys Z Z (AA Z) Z Z Z Z Z (.own Z (by first | omega | (simp; done) | (simp; omega))) Z (.own Z (by simp)) (by decide) (by simp; omega) (by decide) Z ?_);refine nZ Z (eZ Z (oN (bN (tN (rG (evI ?_))))));refine eZ Z (oN ?_);refine lQ (_, _, _, _, _, _) ?_ ?_
   ·dsimp only
    first
    | exact ExI.next hL hg hk0 (by omega) hto hex hrun hpl (tok_2 (by assumption)) rfl (by simp) (by rw [Bg hk2.1 (by omega)]; simp [SH]) rfl (by simp [gC, SH, T.ints]) rfl
   ·(show Int.toNat _ < Int.toNat _); omega
  simp only [HS] at h3;refine sG (eK 2 Z (nB ?_));refine AB Z (fun h4 => ?_) (fun h4 => ?_)
  ·
   simp only [HS] at h4;refine sQ (Am BJ (by kernel_rfl) (evQ ?_));refine AU Z (A5 rfl Z (AA Z) Z Z Z (evQ ?_));refine evQ ?_;refine evQ ?_;refine evQ ?_;refine A5 rfl Z (AA Z) Z Z Z (AU Z (evQ ?_));refine DD tys 99 1 Z Z (AA Z) Z Z Z Z (evEQ ?_);refine evQ ?_;refine BE (tN ?_);refine AB Z (fun h5 => ?_) (fun h5 => ?_)
   ·
    simp only [HS] at h5;refine sQ (Am BJ (by kernel_rfl) (evQ ?_));refine A5 rfl Z (AA Z) Z Z Z (AU Z (evQ ?_));refine DD tys 99 1 Z Z (AA Z) Z Z Z Z (evQ ?_);refine A5 rfl Z (AA Z) Z Z Z (evQ ?_);refine evQ ?_;refine AU Z (evQ ?_);refine Bq tys Z Z (AA Z) Z Z Z Z Z Z Z (by omega) _ (HE _ _ (by omega) (by omega)) (evQ ?_);refine evQ ?_;refine BE (tN (rG (eZ Z (AG rfl Z (AA Z) Z Z Z (eK 3 Z (kZ [0,1,8,10,11,18,19,20,21,22,23,24,25,50,51,54,55,64,65,66,67,68,69,70,71,72,73,74,75,76,77,78,79,80,81,82,83,84,85,86,87,88,89,90,91,92] Z (evI ?_)))))));refine AG rfl Z (AA Z) Z Z Z (eK 2 Z (sT Z (nZ Z (oN (bN (tN ?_))))))
    skip
    refine rG (eK 2 Z (bZ [T.v _] ?_));refine nZ Z (AH tys Z Z (AA Z) Z Z Z Z Z (.own Z (by first | omega | (simp; done) | (simp; omega))) Z (.own Z (by simp)) (by decide) (by simp; omega) (by decide) Z ?_);refine nZ Z (kZ [0,1,8,10,11,18,19,20,21,22,23,24,25,50,51,54,55,64,65,66,67,68,69,70,71,72,73,74,75,76,77,78,79,80,81,82,83,84,85,86,87,88,89,90,91,92,93,94,95,96,134,135,136,137] Z (eZ Z (oN (bN (tN (rG (evI ?_)))))));refine eZ Z (oN ?_);refine lQ (_, _, _, _, _, _) ?_ ?_
    ·dsimp only
     first
     | exact ExI.next hL hg hk0 (by omega) hto hex hrun hpl (tok_9 (by assumption)) rfl (by simp) (by rw [inS, if_pos (by omega), List.getElem?_eq_getElem (by omega)]; simp [SH]) (by rw [inS, if_pos (by omega)]; rfl) rfl rfl
    ·(show Int.toNat _ < Int.toNat _); omega
   simp only [HS] at h5;refine AC (bN (tN ?_))
   skip
   refine rG (eK 2 Z (bZ [T.v _] ?_));refine nZ Z (AH tys Z Z (AA Z) Z Z Z Z Z (.own Z (by first | omega | (simp; done) | (simp; omega))) Z (.own Z (by simp)) (by decide) (by simp; omega) (by decide) Z ?_);refine nZ Z (eZ Z (kZ [0,1,8,10,11,18,19,20,21,22,23,24,25,50,51,54,55,64,65,66,67,68,69,70,71,72,73,74,75,76,134,135,136,137] Z (oN (bN (tN (rG (evI ?_)))))));refine eZ Z (oN ?_);refine lQ (_, _, _, _, _, _) ?_ ?_
   ·dsimp only
    first
    | exact ExI.next hL hg hk0 (by omega) hto hex hrun hpl (tok_9 (by assumption)) rfl (by simp) (by rw [inS, if_neg (by omega)]; simp [SH]) (by rw [inS, if_neg (by omega)]; rfl) rfl rfl
   ·(show Int.toNat _ < Int.toNat _); omega
  simp only [HS] at h4;refine sG (eK 2 Z (nB ?_));refine AB Z (fun h5 => ?_) (fun h5 => ?_)
  ·
   simp only [HS] at h5;refine kY [0,1,8,10,11,18,19,20,21,22,23,24,25,50,51,54,55,64,65,97,98] Z (rG ?_)
   have hrec := PZ bc bb q s1.by' fn s1.vars s1.off s1.res 0 0 false (pv :: iv :: xv) (T.Funcs p.funcs :: T.ints inp :: xt)
   unfold byK at hrec;rw [Gp (bb := bb) (JE s1.by'), Gp (bb := bb) hto.by'] at hrec;refine eZ Z (WO_le (Le.close (u := 101) 1101 Z Z Z) (nZ Z ?_));refine cP [101,102] (hm := (hrec)) (k := ?_);refine nZ Z (WO_le (Le.open (u := 101) 1101 Z Z Z Z) (nZ Z (eZ Z (oN (bN (tN ?_))))))
   skip
   refine rG (eK 2 Z (bZ [T.v _] ?_));refine nZ Z (AH tys Z Z (AA Z) Z Z Z Z Z (.own Z (by first | omega | (simp; done) | (simp; omega))) Z (.own Z (by simp)) (by decide) (by simp; omega) (by decide) Z ?_);refine nZ Z (eZ Z (oN (bN (tN (kY [0,1,8,10,11,18,19,20,21,22,23,24,25,50,51,54,55,64,65,97,98,99,100,134,135,136,137] Z (rG (evI ?_)))))));refine eZ Z (oN ?_);refine lQ (_, _, _, _, _, _) ?_ ?_
   ·dsimp only
    first
    | exact ExI.next hL hg hk0 (by omega) hto hex hrun hpl (tok_10 (by assumption)) rfl (by simp) (by simp [SH]) rfl rfl rfl
   ·(show Int.toNat _ < Int.toNat _); omega
  simp only [HS] at h5;refine sQ (kY [0,1,8,10,11,18,19,20,21,22,23,24,25,50,51,54,55,64,65,97,98] Z (rG (eK 2 Z (nB ?_))));refine AB Z (fun h6 => ?_) (fun h6 => ?_)
  ·
   simp only [HS] at h6;refine sQ ?_
   have h11 : (l[k.toNat]'(by omega)).op = 11 := by assumption
   have hk11 := CG hkn h11
   rw [BV] at hk11
   have hfu11 := BX hk11.1 hk11.2
   have hpb := Kv (H7 hg) (l[k.toNat]'(by omega)).n
   have hnd11 : atI (paramsL p) (l[k.toNat]'(by omega)).n ≤ pile.length := by have := hnd; rw [Aq, if_neg (by omega), if_pos h11] at this; exact this
   refine Am BJ (by kernel_rfl) (evQ ?_);refine evEQ ?_;refine evQ ?_;refine A5 rfl Z (AA Z) Z Z Z (AU Z (evQ ?_));refine evQ ?_;refine DD tys 99 0 Z Z (AA Z) Z Z Z Z (evQ ?_);refine evQ ?_;refine Bq tys Z Z (AA Z) Z Z Z Z Z Z Z hk11.1 _ (HE _ _ hk11.1 hk11.2) (AU Z (evQ ?_));refine evQ ?_;refine evIQ ?_;refine evQ ?_;refine BE (tN (sQ ?_))
   obtain ⟨R, hR⟩ : ∃ R, R = L.call (l[k.toNat]'(by omega)).n (pile.drop (pile.length - (atI (paramsL p) (l[k.toNat]'(by omega)).n).toNat)) none s1.m := ⟨_, rfl⟩
   have hcl11 := hL.call (l[k.toNat]'(by omega)).n (pile.drop (pile.length - (atI (paramsL p) (l[k.toNat]'(by omega)).n).toNat)) none s1.m hk11.1 hk11.2 (by rw [S0]; omega) hto.ok.used
   have hCa := hC (l[k.toNat]'(by omega)).n (pile.drop (pile.length - (atI (paramsL p) (l[k.toNat]'(by omega)).n).toNat)) none s1.m bm 0 ⟨0, [], [], 0, .pointer none⟩ pv iv xv xt hk11.1 hk11.2 (by rw [S0]; omega) hto.ok.used (by omega) (by omega) (by omega) (by omega)
   rw [← hR] at hcl11 hCa;refine AQ (Le.close (u := 100) 1100 Z Z Z) (nY Z (AQ (Le.noBox 150 (gC 0 [] [] 0 0 0 false (.pointer none)) Z) (nY Z (BQ [[], [], [], [], [], [], [], [], [], [], [], []] BJ (by kernel_rfl) (AW (QG_ev tys Z Z (AA Z) Z (AF (AW (QG_ev tys Z Z (AA Z) Z (AF (AW (QG_ev tys Z Z (AA Z) Z (AF (AW (QG_ev tys Z Z (AA Z) Z ?_)))))))))))))));refine AF (Ae Z (AW (QG_ev tys Z Z (AA Z) Z (AF (Da (Oy tys Z Z (AA Z) Z Z Z Z Z Z Z Z Z (by omega) (by omega) (by omega) (AF ?_)))))));refine Bu (rid := 99) [150, 100] Z Z (AA Z) Z Z (by repeat (first | exact ResP.done | refine ResP.pin0 1150 Z ?_ | refine ResP.pin0 1100 Z ?_ | refine ResP.t ?_ | refine ResP.nil 1 ?_ | refine ResP.nil' ?_ | refine ResP.own ?_ | refine ResP.sl Z Z (by first | omega | (simp; omega)) ?_ | refine ResP.aggT (by repeat (first | exact ResP.done | refine ResP.t ?_)) ?_)) Z (by repeat (first | exact trivial | refine ⟨rfl, rfl, ?_⟩)) (by decide) (Proc.argLi (slI (q := pile.length - (atI (paramsL p) (l[k.toNat]'(by omega)).n).toNat) (by omega) (by omega) (by omega)) hCa) Z Z Z ?_;refine AW (QG_ev tys Z Z (AA Z) Z (AF (Ae Z (AW (QG_ev tys Z Z (AA Z) Z (AF (AW (QG_ev tys Z Z (AA Z) Z (AF (AW (QG_ev tys Z Z (AA Z) Z (AF (AW (QG_ev tys Z Z (AA Z) Z (AF ?_)))))))))))))));refine Ae Z (ED ?_);refine ⟨by kernel_rfl, ?_⟩;refine nZ Z (WO_le (Le.open (u := 100) 1100 Z Z Z Z) (nZ Z (nB (sQ (sG (eK 2 Z (nB ?_)))))));refine AB Z (fun h7 => ?_) (fun h7 => ?_)
   ·
    simp only [HS] at h7;refine sG (eK 4 Z (nB (AQ (Le.close (u := 100) 1100 Z Z Z) (nY Z (AQ (Le.close (u := 101) 1101 Z Z Z) (nY Z (rT (tR (bR (tR (bR (tR (AO (bR (tR ?_)))))))))))))));refine eP [_, _, _] ?_ ?_
    ·(have he := Fz hk0 hkl hex (M8 hR (by assumption) (Ql (by assumption))) (by have := hcl11.h1; omega); exact Fn (by rw [he]) (by rw [he]))
    ·(have he := Fz hk0 hkl hex (M8 hR (by assumption) (Ql (by assumption))) (by have := hcl11.h1; omega); rw [he]; rfl)
   simp only [HS] at h7;refine AC (tN (rG (eK 2 Z (Dt tys Z Z (AA Z) Z Z Z Z Z Z Z Z Z (by omega) (by omega) (by omega) (eK 3 Z (oN (bN (tN ?_))))))))
   skip
   refine kY [0,1,8,10,11,12,13,14,18,19,20,21,22,23,24,25,50,51,54,55,64,65,97,98,101,102,103,104,105,106,107,108,109,110,111,112,113,114,115,116,117,118,119,120,121,122,123,124,125,126,127,130,131,132,133] Z (rG (eK 2 Z (bZ [T.v _] ?_)));refine nZ Z (AH tys Z Z (AA Z) Z Z Z Z Z (.own Z (by first | omega | (simp; done) | (simp; omega))) Z (.own Z (by simp)) (by decide) (by simp; omega) (by decide) Z ?_);refine nZ Z (eZ Z (oN (bN (tN (rG (evI ?_))))));refine eZ Z (oN ?_);refine lQ (_, _, _, _, _, _) ?_ ?_
   ·dsimp only
    first
    | exact ExI.next hL hg hk0 (by omega) hto hex hrun hpl (tok_11 hR (by assumption) (RY (by assumption))) rfl (by simp; omega) (by simp [SH]; omega) (by have e := RY (by assumption); rw [Jv (by omega), J2 (by omega)]; rfl) rfl rfl
   ·(show Int.toNat _ < Int.toNat _); omega
  simp only [HS] at h6;refine sQ ?_
  have hk3 : 3 ≤ (l[k.toNat]'(by omega)).op ∧ (l[k.toNat]'(by omega)).op ≤ 8 := by have := hkn; unfold knownT at this; rw [if_neg (by assumption), if_neg (by assumption), if_neg (by assumption)] at this; simp only [SC, decide_eq_true_eq] at this; omega
  have hp2 : 2 ≤ pile.length := by have := hnd; rw [Aq, if_pos hk3] at this; omega
  refine rG (eZ Z (evE ?_));refine evI ?_;refine eZ Z (nB (sQ (Am BJ (by kernel_rfl) (evQ ?_))));refine AU Z (evQ ?_);refine evQ ?_;refine evQ ?_;refine Gz tys Z Z (AA Z) Z Z Z Z Z Z Z Z (by omega) (by omega) (F5 tys Z Z (AA Z) Z Z Z Z (Dk _ _ (by omega) (by omega)) Z (evQ ?_));refine AU Z (evQ ?_);refine evIQ ?_;refine Gz tys Z Z (AA Z) Z Z Z Z Z Z Z Z (by omega) (by omega) (F5 tys Z Z (AA Z) Z Z Z Z (Dk _ _ (by omega) (by omega)) Z (Fc ?_));refine ⟨_, NX _ _ _, rfl, ?_⟩;refine evQ ?_;refine AU Z (evQ ?_);refine evQ ?_;refine evQ ?_;refine evQ ?_;refine BE (tN (sQ (sG (eK 2 Z (nB ?_)))));refine AB Z (fun h7 => ?_) (fun h7 => ?_)
  ·
   simp only [HS] at h7;refine sG (eK 2 Z (nB (AQ (Le.close (u := 100) 1100 Z Z Z) (nY Z (AQ (Le.close (u := 101) 1101 Z Z Z) (nY Z (rT (tR (bR (tR (bR (tR (AO (bR (tR ?_)))))))))))))));refine eP [_, _, _] ?_ ?_
   ·(have he := Fz hk0 hkl hex (QX (by assumption) (by assumption) (by assumption) (by assumption) (by assumption) (i := ((pile.length : Int) - 2).toNat) (j := ((pile.length : Int) - 2 + 1).toNat) (by omega) (by omega) (by omega) (by first | assumption | simp_all)) (by decide); exact Fn (by rw [he]) (by rw [he]; rfl))
   ·(have he := Fz hk0 hkl hex (QX (by assumption) (by assumption) (by assumption) (by assumption) (by assumption) (i := ((pile.length : Int) - 2).toNat) (j := ((pile.length : Int) - 2 + 1).toNat) (by omega) (by omega) (by omega) (by first | assumption | simp_all)) (by decide); rw [he]; rfl)
  simp only [HS] at h7;refine AC (tN (rG (eK 2 Z (Dt tys Z Z (AA Z) Z Z Z Z Z Z Z Z Z (by omega) (by omega) (by omega) (kZ [0,1,8,10,11,15,16,17,18,19,20,21,22,23,24,25,26,27,28,29,30,31,32,33,34,35,36,37,38,39,40,41,42,43,44,45,46,47,48,50,51,54,55,64,65,97,98,101,102] Z (eK 3 Z (oN (bN (tN ?_)))))))))
  skip
  refine rG (eK 2 Z (bZ [T.v _] ?_));refine nZ Z (AH tys Z Z (AA Z) Z Z Z Z Z (.own Z (by first | omega | (simp; done) | (simp; omega))) Z (.own Z (by simp)) (by decide) (by simp; omega) (by decide) Z ?_);refine nZ Z (eZ Z (oN (bN (tN (kY [0,1,8,10,11,15,16,17,18,19,20,21,22,23,24,25,26,27,28,29,30,31,32,33,34,35,36,37,38,39,40,41,42,43,44,45,46,47,48,49,50,51,54,55,64,65,97,98,101,102,134,135,136,137] Z (rG (evI ?_)))))));refine eZ Z (oN ?_);refine lQ (_, _, _, _, _, _) ?_ ?_
  ·dsimp only
   first
   | exact ExI.next hL hg hk0 (by omega) hto hex hrun hpl (tok_r' (by assumption) (by assumption) (by assumption) (by assumption) (by assumption) (i := ((pile.length : Int) - 2).toNat) (j := ((pile.length : Int) - 2 + 1).toNat) (by omega) (by omega) (by omega) (by first | assumption | simp_all)) rfl (by simp) (by simp [SH]) rfl rfl rfl
  ·(show Int.toNat _ < Int.toNat _); omega
 simp only [HS] at h1;refine AP (tE (AK (AI (tN (sQ ?_)))))
 have hpl1 := NP (by omega) hrun
 refine rG (eZ Z (Ac tys Z Z (AA Z) Z Z Z Z Z Z Z Z (by omega) (by omega) (AS tys Z Z (AA Z) Z Z Z Z (Dk _ _ (by omega) (by omega)) Z (eK 2 Z (nB (AQ (Le.close (u := 100) 1100 Z Z Z) (nY Z (AQ (Le.close (u := 101) 1101 Z Z Z) (nY Z (rT ?_))))))))));refine eP [_, _, _] ?_ ?_
 ·(have he := OL (by omega) hex; exact Fn (by rw [he, List.getElem?_eq_getElem (by omega)]; rfl) (by rw [he]; rfl))
 ·(have he := OL (by omega) hex; rw [he]; rfl)
open Go.Eng
def blS (L : Lev) (f : Func) (b : List Int) (s : Sx) : Int × Int × Sx := blockS (L.stmt f) f b s
def BlInv (p : Prog) (inp : List Int) (f : Func) (L : Lev) (b : List Int) (s : Sx) (pv iv fbv fsv : Value) (most dp : Int) (bm bb : Nat) (k : Int) (b1 b2 b3 : Blk) : Prop :=
 ∃ (s1 : Sx), 0 ≤ k ∧ k ≤ b.length ∧ Sx.to p inp f 0 s s1 ∧ blS L f b s = blockS (L.stmt f) f (b.drop k.toNat) s1 ∧
  b1 = .obox (.pointer (some ⟨bm, 0, none⟩)) (mS pv iv most s1.m) ∧ b2 = .box (cS f fbv fsv s1.vars s1.off s1.res dp bb) ∧ b3 = .obox (.pointer (some ⟨bb, 0, none⟩)) (bS s1.by')
section
variable {p : Prog} {inp : List Int} {f : Func} {L : Lev} {b : List Int} {s s1 : Sx} {pv iv fbv fsv : Value} {most dp : Int} {bm bb : Nat} {k : Int} {R : Int × Int × Sx}
theorem BlInv.next (h0 : 0 ≤ k) (h1 : k < b.length) (hto : Sx.to p inp f 0 s s1) (hex : blS L f b s = blockS (L.stmt f) f (b.drop k.toNat) s1) (hR : R = L.stmt f (stmtAt f (b[k.toNat]'(by omega))) s1) (hok : Sx.to p inp f R.1 s1 R.2.2) (hz : R.1 = 0) {k' : Int} (hk : k' = k + 1) {b1 b2 b3 : Blk}
  (e3 : b1 = .obox (.pointer (some ⟨bm, 0, none⟩)) (mS pv iv most R.2.2.m)) (e4 : b2 = .box (cS f fbv fsv R.2.2.vars R.2.2.off R.2.2.res dp bb)) (e5 : b3 = .obox (.pointer (some ⟨bb, 0, none⟩)) (bS R.2.2.by')) :
  BlInv p inp f L b s pv iv fbv fsv most dp bm bb k' b1 b2 b3 := by
 subst hk;rw [hz] at hok;refine ⟨R.2.2, by omega, by omega, hto.trans hok (by omega), ?_, e3, e4, e5⟩;rw [hex, Ct h0 h1, blockS];rw [← hR, if_pos hz]
theorem Oc (h0 : 0 ≤ k) (h1 : k < b.length) (hex : blS L f b s = blockS (L.stmt f) f (b.drop k.toNat) s1) (hR : R = L.stmt f (stmtAt f (b[k.toNat]'(by omega))) s1) (hz : ¬ R.1 = 0) : blS L f b s = R := by
 rw [hex, Ct h0 h1, blockS];rw [← hR, if_neg hz]
theorem Qq (h1 : (b.length : Int) ≤ k) (hex : blS L f b s = blockS (L.stmt f) f (b.drop k.toNat) s1) : blS L f b s = (0, 0, s1) := by
 rw [hex, A1 h1, blockS]
end
end Go.Proofs.YtddfnpiikkilhaaGreat
