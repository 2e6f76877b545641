/- Walks and laws of the claim. -/
import Derived.Test.YtddfnpiikkilhaaGb
import Derived.Test.YtddfnpiikkilhaaFa
import Derived.Test.YtddfnpiikkilhaaMb
import Derived.Test.YtddfnpiikkilhaaMd
import Derived.Test.YtddfnpiikkilhaaMe
import Derived.Test.YtddfnpiikkilhaaMc
set_option linter.unusedVariables false
set_option linter.unusedSimpArgs false
set_option maxRecDepth 10000
set_option maxHeartbeats 1000000
namespace Go.Proofs.Ytddfnpiikkilhaa
open Go.Eng
open Go.Eng
def reachP (p : Prog) (fn : Int) : List Int := FR p.funcs.length (Ao p) fn
theorem MD {l : List Int} : ∀ {m : List Int}, l.Nodup → (∀ x, x ∈ l → x ∈ m) → l.length ≤ m.length := by
 induction l with
 | nil => intro m _ _; exact Nat.zero_le _
 | cons x l ih =>
  intro m hn hm;rw [Qc] at hn
  have hx := hm x (Qi ..)
  have := ih (m := m.erase x) hn.2 fun y hy => (List.mem_erase_of_ne fun e => hn.1 (by rw [← e]; exact hy)).2 (hm y (Ql _ hy))
  have h2 := List.length_erase_of_mem hx
  have h3 := List.length_pos_of_mem hx
  rw [QW]; omega
structure Met (N : Nat) (calls : Int → List Int) (fn : Int) (met : List Int) (k : Nat) : Prop where
 nodup : met.Nodup
 lead : ∀ x, x ∈ met → HN calls fn x
 first : fn ∈ met
 closed : ∀ (i : Nat) (h : i < met.length), i < k → ∀ c, c ∈ calls met[i] → c ∈ met
section
variable {N : Nat} {calls : Int → List Int} {fn : Int} {met : List Int} {k : Nat}
theorem Met.start : Met N calls fn [fn] 0 := ⟨by simp, fun x hx => by rw [Qf] at hx; subst hx; exact .refl, Qf.2 rfl, fun i _ h => by omega⟩
theorem Met.inN (h : Met N calls fn met k) (hc : InN N calls) (h0 : 0 ≤ fn) (h1 : fn < N) {x : Int} (hx : x ∈ met) : 0 ≤ x ∧ x < N := FZ hc h0 h1 (h.lead x hx)
theorem Met.len (h : Met N calls fn met k) (hc : InN N calls) (h0 : 0 ≤ fn) (h1 : fn < N) : met.length ≤ N := by
 have := MD (m := CP N) h.nodup fun x hx => mem_upto.2 (h.inN hc h0 h1 hx)
 rwa [Ax] at this
theorem Met.add (h : Met N calls fn met k) (hk : k ≤ met.length) {x y : Int} (hx : x ∈ met) (hy : y ∈ calls x) (hn : y ∉ met) : Met N calls fn (met ++ [y]) k := by
 refine ⟨?_, fun z hz => ?_, Qv _ h.first, fun i hi hik c hcc => ?_⟩
 ·rw [QY]
  exact ⟨h.nodup, by simp, fun a ha b hb e => hn (by rw [Qf] at hb; rw [← hb, ← e]; exact ha)⟩
 ·rcases QV.1 hz with hz | hz
  ·exact h.lead z hz
  ·rw [Qf] at hz; subst hz; exact .step (h.lead x hx) hy
 ·rw [List.getElem_append_left (by omega)] at hcc
  exact Qv _ (h.closed i (by omega) hik c hcc)
theorem Met.next (h : Met N calls fn met k) (hk : k < met.length) (hc : ∀ c, c ∈ calls met[k] → c ∈ met) : Met N calls fn met (k + 1) :=
 ⟨h.nodup, h.lead, h.first, fun i hi hik => by
  by_cases e : i = k
  ·subst e; exact hc
  ·exact h.closed i hi (by omega)⟩
theorem Met.done (h : Met N calls fn met k) (hc : InN N calls) (h0 : 0 ≤ fn) (h1 : fn < N) (hN : N ≤ 5) (hk : met.length ≤ k) : F8 5 met = FR N calls fn := by
 refine Dn (CV ..) (CV ..) fun x => ?_
 rw [Eg (S := fun x => x ∈ met) hc h0 h1 h.first (fun x hx c hcc => by
  obtain ⟨i, hi, rfl⟩ := Qs hx
  exact h.closed i hi (by omega) c hcc) h.lead]
 rw [mem_setN];refine ⟨fun h => h.2, fun hx => ⟨?_, hx⟩⟩
 have := h.inN hc h0 h1 hx
 omega
end
theorem Nh {fn : Int} (h0 : 0 ≤ fn) (h1 : fn < 5) : [fn] = F8 5 [fn] := by
 refine Dn (by simp) (CV ..) fun x => ?_
 rw [mem_setN];exact ⟨fun h => ⟨by rw [Qf] at h; subst h; exact ⟨h0, h1⟩, h⟩, fun h => h.2⟩
theorem II (p : Prog) (fn : Int) (hp : p.ok 1048576) (hg : AZ p = true) (hn0 : 0 ≤ fn) (hn1 : fn < p.funcs.length) : Fun Try.prog 59 [.t p.tt, .t (.int fn)] (Aw [.t (T.ints (reachP p fn))]) := by
  have hgl := BZ hg
  have hin := Fm hg
  refine Fun.begin tys Try.func59 Z Z (N := 44) [(0, .t p.tt), (1, .t (.int fn))] Z Z (fun w0 G F0 => ?_);refine sG (AU Z Z (AA Z) Z Z (nZ Z (eZ Z (nA (eZ Z ?_)))));refine ND tys [T.int fn] Z Z (AA Z) Z Z Z Z Z (by decide) (by repeat (first | exact PartsF.nil' | refine PartsF.cons' rfl Z ?_)) Z ?_;refine nZ Z (eZ Z (nA (eZ Z (bZ [T.int fn] ?_))));refine nZ Z (eZ Z (nB (sQ (sQ (kY [2,4,5,6] Z (rG (eZ Z (nB (AD ?_)))))))));refine lK (α := Int × Nat × List T × List Int) [2] [2] (fun x => [(7, .t (.int (x.1))), (6, .sl 13 0 (x.2.1)), (5, .t (T.ints (x.2.2.2)))]) (fun x => [(13, .L 1 (x.2.2.1))]) (fun x => ∃ met : List Int, 0 ≤ (x.1) ∧ (x.1) ≤ met.length ∧ (x.2.1) = (x.2.2.1).length ∧ (x.2.2.1) = met.map T.int ∧ (x.2.2.2) = F8 5 met ∧ Met p.funcs.length (Ao p) fn met (x.1).toNat) (fun x => Int.toNat (5 - (x.1))) (0, 1, [T.int fn], [fn]) ?_ (fun x hx => ?_)
  · exact ⟨[fn], by omega, by simp, rfl, rfl, Nh hn0 (by omega), Met.start⟩
  obtain ⟨k, m, ms, out⟩ := x
  obtain ⟨met, hk0, hk1, hm, hms, hout, hmet⟩ := hx
  dsimp only at hk0 hk1 hm hms hout hmet ⊢;refine nY Z (sQ (sG (eK 2 Z (evE ?_))));refine eZ Z (nB ?_);refine AB Z (fun h1 => ?_) (fun h1 => ?_)
  ·
    simp only [HS] at h1;refine AC (tN (sQ (AD (sQ (Am BO (by kernel_rfl) ?_)))))
    have hmm : ms.length = met.length := by rw [hms, QT]
    have hml := hmet.len hin hn0 hn1
    have hcl := Gg p (met[k.toNat]'(by omega))
    have hxm : met[k.toNat]'(by omega) ∈ met := Qb _
    have hxi := hmet.inN hin hn0 hn1 hxm
    refine QL_evZ tys Z Z (AA Z) Z Z (evQ ?_);refine AR Z (evQ ?_);refine Fz tys Z Z (AA Z) Z Z Z Z Z Z Z Z (by omega) (by omega) (E9 tys Z Z (AA Z) Z Z Z Z (by rw [hms]; exact Dc T.int met (by omega) (by omega)) Z ?_);refine Oq Z Z (AA Z) Z Z Z Z Z (IJ p _ hp hg hxi.1 hxi.2) Z (evEQ ?_);refine evQ ?_;refine AR Z (BF (tN (AD ?_)));refine lK (α := Int × Nat × List T × List Int) [2, 7, 25, 26] [2] (fun x => [(27, .t (.int (x.1))), (6, .sl 13 0 (x.2.1)), (5, .t (T.ints (x.2.2.2)))]) (fun x => [(13, .L 1 (x.2.2.1))]) (fun x => ∃ met2 : List Int, 0 ≤ (x.1) ∧ (x.1) ≤ (Ao p (met[k.toNat]'(by omega))).length ∧ (x.2.1) = (x.2.2.1).length ∧ (x.2.2.1) = met2.map T.int ∧ (x.2.2.2) = F8 5 met2 ∧ Met p.funcs.length (Ao p) fn met2 k.toNat ∧ met.length ≤ met2.length ∧ met2[k.toNat]? = some (met[k.toNat]'(by omega)) ∧ ∀ c, c ∈ (Ao p (met[k.toNat]'(by omega))).take (x.1).toNat → c ∈ met2) (fun x => Int.toNat ((Ao p (met[k.toNat]'(by omega))).length - (x.1))) (0, m, ms, out) ?_ (fun x hx => ?_)
    · exact ⟨met, by omega, by omega, hm, hms, hout, hmet, Qm _, List.getElem?_eq_getElem (l := met) (by omega), by simp⟩
    obtain ⟨j, m2, ms2, o2⟩ := x
    obtain ⟨met2, hj0, hj1, hm2, hms2, ho2, hmet2, hle, hat, hcs⟩ := hx
    dsimp only at hj0 hj1 hm2 hms2 ho2 hmet2 hle hat hcs ⊢;refine nY Z (sG (eZ Z (nB (sQ ?_))));refine AB Z (fun h2 => ?_) (fun h2 => ?_)
    ·
      simp only [HS] at h2;refine AC (tN (sQ (AD (sG ?_))));refine iY (k := ?_);refine eK 2 Z (nA (eK 2 Z (AI ?_)));refine ⟨_, argI hms2 (MN met2 _ (by have := hmet2.len hin hn0 hn1; omega)), rfl, ?_⟩;refine eZ Z (nB ?_);refine AB Z (fun h3 => ?_) (fun h3 => ?_)
      ·
        simp only [HS] at h3;refine sQ (kY [2,5,6,7,9,25,26,27,28,29,30,31,32,33,34] Z (rG ?_))
        have hml2 := hmet2.len hin hn0 hn1
        refine eK 2 Z (bZ [T.int ((Ao p (met[k.toNat]'(by omega)))[j.toNat]'(by omega))] ?_);refine nZ Z (AF tys Z Z (AA Z) Z Z Z Z Z (.own Z (by first | omega | (simp only [QS]; omega))) Z (.own Z (by first | decide | omega)) (by decide) (by simp only [Qa, QW, List.length_nil]; rw [hms2, QT]; omega) (by decide) Z ?_);refine nZ Z (eZ Z (nB (rG (eK 2 Z (BE Z Z (AA Z) Z Z Z Z Z (Fc _ _ (by rw [ho2]; exact Qu (Eu _ _) (by decide)) (by rw [ho2]; exact FH _ _)) Z ?_)))));refine eZ Z (kZ [2,5,6,7,9,25,26,27,28,29,30,31,32,33,34,35,36,37,38,39,40,41] Z (oN (bN (tN (rG (evI ?_))))));refine eZ Z (oN ?_);refine lQ (_, _, _, _) ?_ ?_
        · dsimp only
          have hcj : (Ao p (met[k.toNat]'(by omega)))[j.toNat]'(by omega) ∈ Ao p (met[k.toNat]'(by omega)) := Qb _
          have hkm : met[k.toNat]'(by omega) ∈ met2 := Qz hat
          first
          | (subst hm2
             refine ⟨met2 ++ [(Ao p (met[k.toNat]'(by omega)))[j.toNat]'(by omega)], by omega, by omega, by simp, by rw [Qj, hms2]; simp, ?_, hmet2.add (by omega) hkm hcj h3, by simp; omega, ?_, ?_⟩
             · rw [ho2, Gn (hin _ _ hcj).1 (by have := (hin _ _ hcj).2; omega)]
             · rw [List.getElem?_append_left (by omega)]; exact hat
             · intro c hc
               rw [Bh hj0 (by omega), QV, Qf] at hc
               rcases hc with hc | rfl
               · exact Qv _ (hcs c hc)
               · exact Q0 _ (Qf.2 rfl))
        · (show Int.toNat _ < Int.toNat _); omega
      simp only [HS] at h3;refine AC (bN (tN (kY [2,5,6,7,9,25,26,27,28,29,30,31,32,33,34] Z (rG (evI ?_)))));refine eZ Z (oN ?_);refine lQ (_, _, _, _) ?_ ?_
      · dsimp only
        have hcj : (Ao p (met[k.toNat]'(by omega)))[j.toNat]'(by omega) ∈ Ao p (met[k.toNat]'(by omega)) := Qb _
        have hkm : met[k.toNat]'(by omega) ∈ met2 := Qz hat
        first
        | (refine ⟨met2, by omega, by omega, hm2, hms2, ho2, hmet2, hle, hat, ?_⟩
           intro c hc;rw [Bh hj0 (by omega), QV, Qf] at hc
           rcases hc with hc | rfl
           · exact hcs c hc
           · exact h3)
      · (show Int.toNat _ < Int.toNat _); omega
    simp only [HS] at h2;refine AP (tE (AM (AK (bN (tN (rG (eZ Z (evI ?_))))))));refine eZ Z (oN ?_);refine lQ (_, _, _, _) ?_ ?_
    · dsimp only
      have hk : k.toNat < met2.length := by omega
      have he : met2[k.toNat] = met[k.toNat]'(by omega) := by rw [List.getElem?_eq_getElem hk] at hat; exact Option.some.inj hat
      refine ⟨met2, by omega, by omega, hm2, hms2, ho2, ?_⟩;rw [show (k + 1).toNat = k.toNat + 1 from by omega];refine hmet2.next hk ?_;rw [he]
      rwa [A5 (by omega)] at hcs
    · (show Int.toNat _ < Int.toNat _); omega
  simp only [HS] at h1;refine AP (tE (AM (AK (tN (sG (eK 2 Z (nB (rT (eR ?_)))))))))
  · refine Nq ?_
    rw [hout, hmet.done hin hn0 hn1 (by omega) (by have hmm : ms.length = met.length := (by rw [hms, QT]); omega)];rfl
structure Dfs (calls : Int → List Int) (fn : Int) (S ol : List Int) : Prop where
 leadS : ∀ x, x ∈ S → HN calls fn x
 leadO : ∀ x, x ∈ ol → HN calls fn x
 first : fn ∈ S ∨ fn ∈ ol
 closed : ∀ x, x ∈ S → ∀ c, c ∈ calls x → c ∈ S ∨ c ∈ ol
section
variable {N : Nat} {calls : Int → List Int} {fn x : Int} {S ol : List Int}
theorem Dfs.skip (h : Dfs calls fn S (ol ++ [x])) (hx : x ∈ S) : Dfs calls fn S ol := by
 have key : ∀ c, c ∈ ol ++ [x] → c ∈ S ∨ c ∈ ol := fun c hc => by
  rcases QV.1 hc with hc | hc
  ·exact .inr hc
  ·rw [Qf] at hc; subst hc; exact .inl hx
 exact ⟨h.leadS, fun y hy => h.leadO y (Qv _ hy), h.first.elim .inl (key fn), fun y hy c hc => (h.closed y hy c hc).elim .inl (key c)⟩
theorem Dfs.take (h : Dfs calls fn S (ol ++ [x])) : Dfs calls fn (S ++ [x]) (ol ++ calls x) := by
 have hx : HN calls fn x := h.leadO x (Q0 _ (Qf.2 rfl))
 have key : ∀ c, c ∈ S ∨ c ∈ ol ++ [x] → c ∈ S ++ [x] ∨ c ∈ ol ++ calls x := fun c hc => by
  rcases hc with hc | hc
  ·exact .inl (Qv _ hc)
  ·rcases QV.1 hc with hc | hc
   ·exact .inr (Qv _ hc)
   ·exact .inl (Q0 _ hc)
 refine ⟨fun y hy => ?_, fun y hy => ?_, key fn h.first, fun y hy c hc => ?_⟩
 ·rcases QV.1 hy with hy | hy
  ·exact h.leadS y hy
  ·rw [Qf] at hy; subst hy; exact hx
 ·rcases QV.1 hy with hy | hy
  ·exact h.leadO y (Qv _ hy)
  ·exact .step hx hy
 ·rcases QV.1 hy with hy | hy
  ·exact key c (h.closed y hy c hc)
  ·rw [Qf] at hy; subst hy; exact .inr (Q0 _ hc)
theorem Dfs.done (h : Dfs calls fn S []) (hc : InN N calls) (h0 : 0 ≤ fn) (h1 : fn < N) : DV N (fun x => decide (x ∈ S)) = FR N calls fn := by
 refine Dn (CV ..) (CV ..) fun x => ?_
 rw [Eg (S := fun x => x ∈ S) hc h0 h1 (h.first.elim id fun h => by cases h) (fun x hx c hcc => (h.closed x hx c hcc).elim id fun h => by cases h) h.leadS];rw [mem_pickN, decide_eq_true_eq];exact ⟨fun h => h.2, fun hx => ⟨FZ hc h0 h1 (h.leadS x hx), hx⟩⟩
end
def unB : List T → Int
 | [] => 0
 | .v (.bool false) :: l => unB l + 1
 | _ :: l => unB l
def unS (N : Nat) (S : List Int) : Nat := ((CP N).filter fun x => decide (x ∉ S)).length
theorem LY (S : List Int) : ∀ l : List Int, unB (l.map fun n => T.bool (decide (n ∈ S))) = ((l.filter fun x => decide (x ∉ S)).length : Nat)
 | [] => rfl
 | n :: l => by
  have ih := LY S l
  rw [Qw, RF]
  by_cases h : n ∈ S
  ·simp only [h, decide_true, not_true_eq_false, decide_false]
   exact ih
  ·simp only [h, decide_false, not_false_eq_true, decide_true, if_true, QW]
   show unB _ + 1 = _;rw [ih]; omega
theorem FD (N : Nat) (S : List Int) : unB (marks N S) = unS N S := LY S _
theorem Je {N : Nat} {S : List Int} {x : Int} (h0 : 0 ≤ x) (h1 : x < N) (h : x ∉ S) : unS N (S ++ [x]) < unS N S := by
 refine Fj (fun y _ hy => ?_) ⟨x, mem_upto.2 ⟨h0, h1⟩, by simpa using h, by simp⟩;simp only [decide_eq_true_eq] at hy ⊢
 exact fun h => hy (Qv _ h)
theorem unS_le (N : Nat) (S : List Int) : unS N S ≤ N := by
 have := List.length_filter_le (fun x => decide (x ∉ S)) (CP N)
 rw [Ax] at this; exact this
theorem OI {os : List T} {ol : List Int} {m : Nat} {k : Int} (h : os.take m = ol.map T.int) (hk0 : 0 ≤ k) (hk : k < m) (hm : m ≤ os.length) : ∃ h : k.toNat < ol.length, os[0 + k.toNat]? = some (T.int (ol[k.toNat]'h)) := by
 have hl := congrArg List.length h
 rw [Qa, QT] at hl;refine ⟨by omega, ?_⟩
 have h2 := congrArg (fun l => l[k.toNat]?) h
 simp only [List.getElem?_map] at h2;rw [List.getElem?_take_of_lt (by omega), List.getElem?_eq_getElem (l := ol) (by omega)] at h2;rw [Qg, h2]; rfl
theorem KY {ol : List Int} {k : Nat} (h : ol.length = k + 1) : ol = ol.take k ++ [ol[k]'(by omega)] := by
 conv => lhs; rw [← RK k ol]
 rw [Q7 (by omega), List.drop_of_length_le (by omega)]
theorem Gv (p : Prog) (fn : Int) (hp : p.ok 1048576) (hg : AZ p = true) (hn0 : 0 ≤ fn) (hn1 : fn < p.funcs.length) : Fun Try.prog 72 [.t p.tt, .t (.int fn)] (Aw [.own (T.ints (reachP p fn))]) := by
  have hgl := BZ hg
  have hin := Fm hg
  refine Fun.begin tys Try.func72 Z Z (N := 61) [(0, .t p.tt), (1, .t (.int fn))] Z Z (fun w0 G F0 => ?_);refine sG (AU Z Z (AA Z) Z Z (nZ Z (eZ Z (nA (eK 2 Z (evE ?_))))));refine Ft tys (.v (.bool false)) _ Z Z (AA Z) Z Z Z Z Z (by repeat (first | exact AbsL.nil' | refine AbsL.v' ?_ | refine AbsL.none' ?_)) Z (by omega) (by decide) ?_;refine nZ Z (eZ Z (nB (sQ (kY [1,2,4,5] Z (rG (eZ Z (bZ [T.int fn] ?_)))))));refine nZ Z (eZ Z (nB (sQ (AD ?_))));refine lK (α := Nat × List T × List T) [2] [2] (fun x => [(6, .sl 16 0 (x.1)), (5, .sl 14 0 p.funcs.length)]) (fun x => [(16, .L 1 (x.2.1)), (14, .L 1 (x.2.2))]) (fun x => ∃ S ol : List Int, (x.1) ≤ (x.2.1).length ∧ (x.2.1).take (x.1) = ol.map T.int ∧ (x.2.2) = marks p.funcs.length S ∧ Dfs (Ao p) fn S ol ∧ (x.1) + 5 * unS p.funcs.length S ≤ 26) (fun x => Int.toNat (6 * unB (x.2.2) + (x.1))) (1, [T.int fn], List.replicate p.funcs.length (T.bool false)) ?_ (fun x hx => ?_)
  · refine ⟨[], [fn], by simp, rfl, H7 _, ⟨by simp, ?_, .inr (by simp), by simp⟩, ?_⟩
    · intro x hx; rw [Qf] at hx; subst hx; exact .refl
    · have := unS_le p.funcs.length []; show 1 + _ ≤ _; omega
  obtain ⟨m, os, bs⟩ := x
  obtain ⟨S, ol, hml, hos, hbs, hd, hsz⟩ := hx
  dsimp only at hml hos hbs hd hsz ⊢;refine nY Z (sQ (sG (eZ Z (evE ?_))));refine eZ Z (nB ?_);refine AB Z (fun h1 => ?_) (fun h1 => ?_)
  ·
    simp only [HS] at h1;refine AC (tN (AD (sG (eK 2 Z (evE ?_)))));refine evI ?_
    obtain ⟨hxl, hxe⟩ := OI hos (k := (m : Int) - 1) (by omega) (by omega) hml
    have hxi := FZ hin hn0 hn1 (hd.leadO _ (Qb hxl))
    have hos' : ol.length = ((m : Int) - 1).toNat + 1 := by have := congrArg List.length hos; simp only [Qa, QT] at this; omega
    have hsp := KY hos'
    have hbl : bs.length = p.funcs.length := by rw [hbs, CH]
    have htk : os.take (((m : Int) - 1).toNat - (0 : Int).toNat) = (ol.take ((m : Int) - 1).toNat).map T.int := by
      have := congrArg (List.take ((m : Int) - 1).toNat) hos
      rw [List.take_take, Nat.min_eq_left (by omega)] at this;rw [List.map_take, ← this]; rfl
    have hfs : F8 5 (Gq (p.funcs[(ol[((m : Int) - 1).toNat]'hxl).toNat]'(by omega)).stmts) = Ao p (ol[((m : Int) - 1).toNat]'hxl) := by rw [Ao, Ka, ← BC (by omega)]
    have hcl := Gg p (ol[((m : Int) - 1).toNat]'hxl)
    have hd' : Dfs (Ao p) fn S (ol.take ((m : Int) - 1).toNat ++ [ol[((m : Int) - 1).toNat]'hxl]) := by rw [← hsp]; exact hd
    refine Ag tys Z Z (AA Z) Z Z Z Z Z Z Z Z (by omega) (by omega) (AV tys Z Z (AA Z) Z Z Z Z hxe Z (kZ [2,5,6,17,18,19,20,21,22,23,24,25] Z (eZ Z (nA (eK 2 Z (evE ?_))))));refine evI ?_;refine DF tys Z Z (AA Z) Z Z Z Z Z Z Z Z Z (by omega) (by omega) (by omega) (eZ Z (nB (sQ (kY [2,5,6,7,17,18,19,20,21,22,23,24,25,26,27,28,29,30] Z (rG (eK 2 Z (Ag tys Z Z (AA Z) Z Z Z Z Z Z Z Z (by omega) (by omega) (AV tys Z Z (AA Z) Z Z Z Z (by rw [hbs]; exact FX hxi.1 hxi.2) Z ?_))))))));refine eZ Z (nB ?_);refine AB Z (fun h2 => ?_) (fun h2 => ?_)
    ·
      simp only [HS] at h2;refine sG (eK 2 Z (Ag tys Z Z (AA Z) Z Z Z Z Z Z Z Z (by omega) (by omega) ?_));refine Bu tys (T.bool true) Z Z Z Z Z Z (by first | exact Qg _ | rfl) (by omega) Z (by repeat (first | exact AbsL.nil' | refine AbsL.v' ?_ | refine AbsL.own' ?_)) Z Z Z ?_;refine nZ Z (kZ [2,5,6,7,17,18,19,20,21,22,23,24,25,26,27,28,29,30,31,32,33,34,35,36,37,38] Z (nB (rG (eK 4 Z ?_))));refine iY (k := ?_);refine eZ Z ?_
      try refine WO_le (Le.freeze (u := 44) rfl) ?_
      refine nZ Z (AI ?_);refine ⟨_, JT _ (CL hp _) (by have := Gp hg (ol[((m : Int) - 1).toNat]'hxl); unfold Ka at this; rw [← BC (by omega)] at this; intro x hx; have := this x hx; omega), rfl, ?_⟩;refine WO_le (Le.adoptE (u := 45) 45 Z (by first | exact Kl | exact Z)) ?_;refine nZ Z (AF tys Z Z (AA Z) Z Z Z Z Z (.own Z (by first | omega | (simp only [QS]; omega))) Z (.own Z (by simp)) (by decide) (by have := Eu 5 (Gq (p.funcs[(ol[((m : Int) - 1).toNat]'hxl).toNat]'(by omega)).stmts); simp only [Qa, QT]; omega) (by decide) Z ?_);refine nZ Z (eZ Z (kZ [2,5,6,7,17,18,19,20,21,22,23,24,25,26,27,28,29,30,31,32,33,34,35,36,37,38,39,40,41,42,43,44,45,46] Z (oN (bN ?_))));refine lQ (_, _, _) ?_ ?_
      · dsimp only
        first
        | (refine ⟨S ++ [ol[((m : Int) - 1).toNat]'hxl], ol.take ((m : Int) - 1).toNat ++ Ao p (ol[((m : Int) - 1).toNat]'hxl), by simp, ?_, by rw [hbs, D1 hxi.1 hxi.2], hd'.take, ?_⟩
           · rw [Gl, htk, QU (l := (F8 5 _).map T.int) (by simp), hfs, Qt]
           · have hu := Je hxi.1 hxi.2 h2
             rw [hfs];simp only [Qa, QT]
             omega)
      · dsimp only
        first
        | (have hu := Je hxi.1 hxi.2 h2
           have e1 : unB bs = (unS p.funcs.length S : Nat) := by rw [hbs, FD]
           have e2 : unB (bs.set (ol[((m : Int) - 1).toNat]'hxl).toNat (T.bool true)) = (unS p.funcs.length (S ++ [ol[((m : Int) - 1).toNat]'hxl]) : Nat) := by rw [hbs, D1 hxi.1 hxi.2, FD]
           rw [e1, e2, hfs];simp only [Qa, QT]
           omega)
    simp only [HS] at h2;refine AC (bN ?_);refine lQ (_, _, _) ?_ ?_
    · dsimp only
      first
      | exact ⟨S, ol.take ((m : Int) - 1).toNat, by omega, htk, hbs, hd'.skip h2, by omega⟩
    · dsimp only
      first
      | (rw [hbs, FD]; omega)
  simp only [HS] at h1;refine AP (tE (AM (AK (tN (sG (eZ Z (WO_le (Le.nilOwn (u := 8) 1 Z) (WO_le (Le.adoptE (u := 8) 8 Z Z) (nZ Z (nB (sQ (sG (eZ Z (evE ?_))))))))))))));refine eZ Z (nB (AD ?_));refine lK (α := Int × Nat × List T) [47, 48] [14] (fun x => [(49, .t (.int (x.1))), (8, .sl 8 0 (x.2.1))]) (fun x => [(8, .L 1 (x.2.2))]) (fun x => 0 ≤ (x.1) ∧ (x.1) ≤ p.funcs.length ∧ (x.2.1) = (x.2.2).length ∧ (x.2.2).length ≤ (x.1) ∧ (x.2.2) = (I9 p.funcs.length (fun x => decide (x ∈ S)) (x.1)).map T.int) (fun x => Int.toNat (p.funcs.length - (x.1))) (0, 0, []) ?_ (fun x hx => ?_)
  · exact ⟨by omega, by omega, rfl, by simp, rfl⟩
  obtain ⟨q, m2, ws⟩ := x
  obtain ⟨hq0, hq1, hm2, hwl, hws⟩ := hx
  dsimp only at hq0 hq1 hm2 hwl hws ⊢;refine nY Z (sG (eZ Z (nB (sQ ?_))));refine AB Z (fun h2 => ?_) (fun h2 => ?_)
  ·
    simp only [HS] at h2;refine AC (tN (sQ (AD (sG (eZ Z (Ag tys Z Z (AA Z) Z Z Z Z Z Z Z Z (by omega) (by omega) (AV tys Z Z (AA Z) Z Z Z Z (by rw [hbs]; exact FX hq0 (by omega)) Z ?_)))))));refine eK 2 Z (nA (eZ Z (nB ?_)));refine AB Z (fun h3 => ?_) (fun h3 => ?_)
    ·
      simp only [HS] at h3;refine kY [8,9,10,47,48,49,50,51,52,53,54] Z (rG (eK 2 Z (bZ [T.int q] ?_)));refine nZ Z (AF tys Z Z (AA Z) Z Z Z Z Z (.own Z (by first | omega | (simp only [QS]; omega))) Z (.own Z (by first | decide | omega)) (by decide) (by simp only [Qa, QW, List.length_nil]; omega) (by decide) Z ?_);refine nZ Z (eZ Z (oN (bN (tN (rG (evI ?_))))));refine eZ Z (oN ?_);refine lQ (_, _, _) ?_ ?_
      · dsimp only
        subst hm2
        first
        | (refine ⟨by omega, by omega, by simp, by simp; omega, ?_⟩; rw [Qj, hws, Ey hq0 (by omega), if_pos (by simpa using h3), Qt]; rfl)
      · (show Int.toNat _ < Int.toNat _); omega
    simp only [HS] at h3;refine AC (bN (tN (kY [8,9,10,47,48,49,50,51,52,53,54] Z (rG (evI ?_)))));refine eZ Z (oN ?_);refine lQ (_, _, _) ?_ ?_
    · dsimp only
      subst hm2
      first
      | (refine ⟨by omega, by omega, rfl, by omega, ?_⟩; rw [hws, Ey hq0 (by omega), if_neg (by simpa using h3), Qo]; done)
    · (show Int.toNat _ < Int.toNat _); omega
  simp only [HS] at h2;refine AP (tE (AM (AK (tN (sG (eK 2 Z (nB (AO (Le.gather (u := 4) (id := 8) Z Z (by omega)) (rT (eR ?_))))))))))
  · have hol : ol = [] := Qy (by have := congrArg List.length hos; simp only [Qa, QT] at this; omega)
    subst hol;rw [hm2, Qj, hws]; refine Ly ?_; rw [Hr (by omega), hd.done hin hn0 hn1];rfl
open Go.Eng
theorem M3 {α : Type} {p : α → Bool} {l : List α} {k : Int} (h0 : 0 ≤ k) (h1 : k < l.length) (h : (l.take k.toNat).any p = false) (h2 : p (l[k.toNat]'(by omega)) = false) : (l.take (k + 1).toNat).any p = false := by
 rw [Bh h0 h1, List.any_append, h]; simpa using h2
theorem Fp {α : Type} {p : α → Bool} {l : List α} {k : Int} (h0 : 0 ≤ k) (h1 : k < l.length) (h : p (l[k.toNat]'(by omega)) = true) : l.any p = true :=
 RJ.2 ⟨_, Qb _, h⟩
theorem JX {α : Type} {p : α → Bool} {l : List α} {k : Int} (h1 : (l.length : Int) ≤ k) (h : (l.take k.toNat).any p = false) : l.any p = false := by rwa [A5 h1] at h
theorem GU {p : Prog} (hg : AZ p = true) (n : Int) : (reachP p n).length ≤ 5 := by
 have := Kf (N := p.funcs.length) (calls := Ao p) (a := n)
 have := BZ hg
 unfold reachP; omega
theorem FQ {p : Prog} {n x : Int} (h : x ∈ reachP p n) : 0 ≤ x ∧ x < p.funcs.length := (mem_pickN.1 h).1
def LU (p : Prog) (q : Stmt → Bool) : Bool := (reachP p 0).any fun n => (funcAt p n).stmts.any q
theorem Ie (n : Int) (p : Prog) (f : Nat) (q : Stmt → Bool) (hp : p.ok 1048576) (hn0 : 0 ≤ n) (hn1 : n < p.funcs.length) (hf : ∀ s : Stmt, s.ok 1048576 → Fun Try.prog f [.t s.tt] (.t (.bool (q s)))) : Fun Try.prog 73 [.t (.int n), .rp p.tt 0, .rp (.agg [.v (.func (.func f) #[] #[])]) 0] (Aw [.t (.bool ((funcAt p n).stmts.any q))]) := by
 refine Fun.begin tys Try.func73 Z Z (N := 13) [(0, .t (.int n)), (1, .rp p.tt 0), (2, .rp (.agg [.v (.func (.func f) #[] #[])]) 0)] Z Z (fun w0 G F0 => ?_);refine sG (eZ Z (nB (sQ (Am BO (by kernel_rfl) (evQ ?_)))));refine evQ ?_;refine evQ ?_;refine CO tys Z Z (AA Z) Z Z Z Z Z Z Z (by omega) _ (G3 _ _ (by omega) (by omega)) (evQ ?_);refine AR Z (evQ ?_);refine QL_evC tys Z Z (AA Z) Z (Gh ?_);refine ⟨_, Fe _ q f [] Z (by have := (CL hp (n := n.toNat) (by omega)).2.1.1; omega) (fun s hs => hf s ((CL hp (n := n.toNat) (by omega)).2.1.2 s hs)), rfl, ?_⟩;refine evQ ?_;refine BF (tN (rT (eR ?_)))
 ·refine retB ?_
  rw [BC]
theorem Fq (p : Prog) (f : Nat) (q : Stmt → Bool) (hp : p.ok 1048576) (hg : AZ p = true) (hf : ∀ s : Stmt, s.ok 1048576 → Fun Try.prog f [.t s.tt] (.t (.bool (q s)))) : Fun Try.prog 40 [.t p.tt, .clo f []] (Aw [.t (.bool (LU p q))]) := by
 have hgl := BZ hg
 have hrl := GU hg 0
 refine Fun.begin tys Try.func40 Z Z (N := 9) [(0, .t p.tt), (1, .clo f [])] Z Z (fun w0 G F0 => ?_);refine sG (nZ Z (WO_le (Le.cloV (u := 1) Z) (nZ Z (AU Z Z (AA Z) Z Z (nZ Z (AU Z Z (AA Z) Z Z (nZ Z (eZ Z (nA (eZ Z ?_))))))))))
 try refine WO_le (Le.freeze (u := 5) rfl) ?_
 refine nZ Z (AI ?_);refine ⟨_, Gv p 0 hp hg (by omega) (by omega), rfl, ?_⟩;refine WO_le (Le.adoptE (u := 6) 6 Z (by first | exact Kl | exact Z)) ?_;refine nZ Z (eZ Z (AI ?_));refine ⟨_, D7 (reachP p 0) (fun n => (funcAt p n).stmts.any q) _ [.rp p.tt 0, .rp (.agg [.v (.func (.func f) #[] #[])]) 0] Z (by omega) (fun n hn => Ie n p f q hp (FQ hn).1 (FQ hn).2 hf), rfl, ?_⟩;refine eZ Z (nB (rT (eR ?_)))
 ·rfl
open Go.Eng
def w64 (n : Int) : Int := IntKind.i64.wrap n
def w32 (n : Int) : Int := IntKind.i64.wrap (IntKind.i32.wrap n)
def Bf (op x y : Int) : Option Int :=
 if op = 3 then some (w32 (w64 (x + y))) else if op = 4 then some (w32 (w64 (x - y))) else if op = 5 then some (w32 (w64 (x * y)))
 else if op = 6 then (if y = 0 then none else some (w32 (w64 (x.tdiv y)))) else if op = 7 then some (if x < y then 1 else 0) else some (if x = y then 1 else 0)
structure Ms where
 used : Nat
 fuel : Nat
 deep : Nat
 trace : List Int
structure By where
 how : Int
 pan : Int
 exd : Bool
structure Sx where
 m : Ms
 vars : List Int
 off : List Int
 res : Int
 by' : Option By
def HJ : Option By → Int × Option By
 | none => (0, none)
 | some b => if b.how = 2 then (b.pan, some ⟨if b.exd then 3 else 1, b.pan, b.exd⟩) else (0, some b)
def inS (inp : List Int) (m : Ms) : Int × Ms := if m.used < inp.length then ((inp[m.used]?).getD 0, ⟨m.used + 1, m.fuel, m.deep, m.trace⟩) else (0, m)
def EP (cal : Int → List Int → Ms → Int × Int × Ms) (ps : List Int) (inp : List Int) (t : Tok) (pile : List Int) (s : Sx) : Int × Int × List Int × Sx :=
 if t.op = 1 then (0, 0, pile ++ [t.n], s)
 else if t.op = 2 then (0, 0, pile ++ [atI s.vars t.n], s)
 else if t.op = 9 then (0, 0, pile ++ [(inS inp s.m).1], { s with m := (inS inp s.m).2 })
 else if t.op = 10 then (0, 0, pile ++ [(HJ s.by').1], { s with by' := (HJ s.by').2 })
 else if t.op = 11 then
  let k := pile.length - (atI ps t.n).toNat
  let r := cal t.n (pile.drop k) s.m
  if r.1 = 1 then (0, 0, pile.take k ++ [r.2.1], { s with m := r.2.2 }) else (r.1, r.2.1, pile, { s with m := r.2.2 })
 else match Bf t.op ((pile[pile.length - 2]?).getD 0) ((pile[pile.length - 1]?).getD 0) with
  | none => (2, -1, pile, s)
  | some v => (0, 0, pile.take (pile.length - 2) ++ [v], s)
def exprS (cal : Int → List Int → Ms → Int × Int × Ms) (ps : List Int) (inp : List Int) : List Tok → List Int → Sx → Int × Int × Sx
 | [], pile, s => (0, (pile[0]?).getD 0, s)
 | t :: l, pile, s => let r := EP cal ps inp t pile s
  if r.1 = 0 then exprS cal ps inp l r.2.2.1 r.2.2.2 else (r.1, r.2.1, r.2.2.2)
def blockS (st : Stmt → Sx → Int × Int × Sx) (f : Func) : List Int → Sx → Int × Int × Sx
 | [], s => (0, 0, s)
 | k :: l, s => let r := st (BU f k) s
  if r.1 = 0 then blockS st f l r.2.2 else r
structure Lev where
 stmt : Func → Stmt → Sx → Int × Int × Sx
 call : Int → List Int → Option By → Ms → Int × Int × Option By × Ms
def Lev.cal (L : Lev) (fn : Int) (args : List Int) (m : Ms) : Int × Int × Ms := ((L.call fn args none m).1, (L.call fn args none m).2.1, (L.call fn args none m).2.2.2)
def A7 (m : Ms) : Ms := ⟨m.used, m.fuel - 1, m.deep, m.trace⟩
def doS (L : Lev) (f : Func) (t : Stmt) (v : Int) (s : Sx) : Int × Int × Sx :=
 if t.kind = 1 then (0, 0, { s with vars := s.vars.set t.n.toNat v })
 else if t.kind = 2 then (0, 0, { s with m := ⟨s.m.used, s.m.fuel, s.m.deep, s.m.trace ++ [v]⟩ })
 else if t.kind = 4 then (2, v, s)
 else if t.kind = 5 then (1, 0, { s with res := v })
 else if t.kind = 7 then (if v ≠ 0 then blockS (L.stmt f) f t.thn s else blockS (L.stmt f) f t.els s)
 else if t.kind = 8 then (if v = 0 then (0, 0, s) else
  let r := blockS (L.stmt f) f t.thn s
  if r.1 = 0 then L.stmt f t r.2.2 else r)
 else (0, 0, s)
def ER (L : Lev) (ps inp : List Int) (f : Func) (t : Stmt) (s : Sx) : Int × Int × Sx :=
 if s.m.fuel = 0 then (5, 0, s)
 else if t.kind = 3 then (0, 0, { s with m := A7 s.m, off := s.off ++ [t.n] })
 else if t.kind = 6 then (3, 0, { s with m := A7 s.m })
 else
  let r := exprS L.cal ps inp t.ex [] { s with m := A7 s.m }
  if r.1 = 0 then doS L f t r.2.1 r.2.2 else r
def offR (cal : Int → Option By → Ms → Int × Int × Option By × Ms) : List Int → By → Ms → Int × By × Ms
 | [], b, m => (0, b, m)
 | k :: l, b, m => let r := cal k (some b) m
  let b1 := r.2.2.1.getD b
  if 4 ≤ r.1 then (r.1, b1, r.2.2.2) else if r.1 = 1 then offR cal l b1 r.2.2.2
  else offR cal l ⟨r.1, if r.1 = 2 then r.2.1 else b1.pan, b1.exd || decide (r.1 = 3)⟩ r.2.2.2
def setL (n : Nat) (args : List Int) : List Int := args ++ (List.replicate n 0).drop args.length
def startS (f : Func) (args : List Int) (b : Option By) (m : Ms) : Sx := ⟨⟨m.used, m.fuel - 1, m.deep + 1, m.trace⟩, setL f.vars.toNat args, [], 0, b⟩
def endS (h v : Int) : By := ⟨if h = 0 then 1 else h, if h = 2 then v else 0, decide (h = 3)⟩
def EE (L : Lev) (p : Prog) (most : Nat) (fn : Int) (args : List Int) (b : Option By) (m : Ms) : Int × Int × Option By × Ms :=
 if m.fuel = 0 then (5, 0, b, m)
 else if m.deep = most then (4, 0, b, A7 m)
 else
  let f := funcAt p fn
  let r := blockS (L.stmt f) f f.body (startS f args b m)
  if 4 ≤ r.1 then (r.1, 0, r.2.2.by', r.2.2.m)
  else
   let q := offR (fun k b m => L.call k [] b m) r.2.2.off.reverse (endS r.1 r.2.1) r.2.2.m
   if 4 ≤ q.1 then (q.1, 0, r.2.2.by', q.2.2)
   else (q.2.1.how, if q.2.1.how = 2 then q.2.1.pan else r.2.2.res, r.2.2.by', ⟨q.2.2.used, q.2.2.fuel, q.2.2.deep - 1, q.2.2.trace⟩)
def lev (p : Prog) (inp : List Int) (most : Nat) : Nat → Lev
 | 0 => ⟨fun _ _ s => (5, 0, s), fun _ _ b m => (5, 0, b, m)⟩
 | n + 1 => ⟨ER (lev p inp most n) (paramsL p) inp, EE (lev p inp most n) p most⟩
/-! ### What it keeps to -/
def Ms.le (inp : List Int) (m m' : Ms) : Prop := m'.fuel ≤ m.fuel ∧ m'.trace.length + m'.fuel ≤ m.trace.length + m.fuel ∧ m'.used ≤ inp.length
theorem Ms.le.trans {inp : List Int} {a b c : Ms} (h : a.le inp b) (k : b.le inp c) : a.le inp c := ⟨Qu k.1 h.1, Qu k.2.1 h.2.1, k.2.2⟩
structure Sx.ok (p : Prog) (inp : List Int) (f : Func) (s : Sx) : Prop where
 vars : s.vars.length = f.vars.toNat
 off : ∀ x, x ∈ s.off → 0 ≤ x ∧ x < p.funcs.length ∧ atI (paramsL p) x = 0
 used : s.m.used ≤ inp.length
def ByOk (b : Option By) : Prop := ∀ x, b = some x → 1 ≤ x.how ∧ x.how < 4
structure Sx.to (p : Prog) (inp : List Int) (f : Func) (h : Int) (s s' : Sx) : Prop where
 ok : s'.ok p inp f
 le : s.m.le inp s'.m
 offl : s'.off.length + s'.m.fuel ≤ s.off.length + s.m.fuel
 h0 : 0 ≤ h
 h5 : h ≤ 5
 deep : h < 4 → s'.m.deep = s.m.deep
 by' : s'.by'.isSome = s.by'.isSome
 byk : ByOk s.by' → ByOk s'.by'
structure Ms.to (inp : List Int) (h : Int) (b b' : Option By) (m m' : Ms) : Prop where
 le : m.le inp m'
 h1 : 1 ≤ h
 h5 : h ≤ 5
 deep : h < 4 → m'.deep = m.deep
 by' : b'.isSome = b.isSome
 byk : ByOk b → ByOk b'
theorem Sx.to.trans {p : Prog} {inp : List Int} {f : Func} {h h' : Int} {a b c : Sx} (x : Sx.to p inp f h a b) (y : Sx.to p inp f h' b c) (hx : h < 4) : Sx.to p inp f h' a c :=
 ⟨y.ok, x.le.trans y.le, Qu y.offl x.offl, y.h0, y.h5, fun hh => (y.deep hh).trans (x.deep hx), y.by'.trans x.by', fun h => y.byk (x.byk h)⟩
theorem Sx.to.refl {p : Prog} {inp : List Int} {f : Func} {a : Sx} (h : a.ok p inp f) {e : Int} (h0 : 0 ≤ e) (h5 : e ≤ 5) : Sx.to p inp f e a a :=
 ⟨h, ⟨Qm _, Qm _, h.used⟩, Qm _, h0, h5, fun _ => rfl, rfl, id⟩
def Pm (f : Func) (b : List Int) : Prop := ∀ x, x ∈ b → 0 ≤ x ∧ x < f.stmts.length
structure Ee (p : Prog) (inp : List Int) (L : Lev) : Prop where
 stmt : ∀ f, f ∈ p.funcs → ∀ t, t ∈ f.stmts → ∀ s : Sx, s.ok p inp f → Sx.to p inp f (L.stmt f t s).1 s (L.stmt f t s).2.2
 call : ∀ (fn : Int) (args : List Int) (b : Option By) (m : Ms), 0 ≤ fn → fn < p.funcs.length → args.length = (atI (paramsL p) fn).toNat → m.used ≤ inp.length → Ms.to inp (L.call fn args b m).1 b (L.call fn args b m).2.2.1 m (L.call fn args b m).2.2.2
section
variable {p : Prog} {inp : List Int} {f : Func} {L : Lev}
theorem Ms.to_s {s : Sx} {h : Int} {m' : Ms} {b b' : Option By} (hs : s.ok p inp f) (ht : Ms.to inp h b b' s.m m') : Sx.to p inp f h s { s with m := m' } :=
 ⟨⟨hs.vars, hs.off, ht.le.2.2⟩, ht.le, by have := ht.le.1; show s.off.length + m'.fuel ≤ _; omega, by have := ht.h1; omega, ht.h5, ht.deep, rfl, id⟩
theorem inS_le {m : Ms} (h : m.used ≤ inp.length) : m.le inp (inS inp m).2 ∧ (inS inp m).2.deep = m.deep ∧ (inS inp m).2.fuel = m.fuel := by
 unfold inS;split
 ·exact ⟨⟨Qm _, Qm _, by assumption⟩, rfl, rfl⟩
 ·exact ⟨⟨Qm _, Qm _, h⟩, rfl, rfl⟩
theorem Ho (b : Option By) : (HJ b).2.isSome = b.isSome := by
 unfold HJ;split
 ·rfl
 ·split <;> rfl
theorem PU {b : Option By} (h : ByOk b) : ByOk (HJ b).2 := by
 unfold HJ;split
 ·exact h
 ·split
  ·intro x hx
   cases hx;dsimp only
   split <;> omega
  ·exact h
theorem Iz (hL : Ee p inp L) (hg : AZ p = true) {vs : Int} {t : Tok} {pile : List Int} {s : Sx} (hs : s.ok p inp f) (hk : knownT vs (paramsL p).length t = true) (hn : Ak (paramsL p) t ≤ pile.length) :
  Sx.to p inp f (EP L.cal (paramsL p) inp t pile s).1 s (EP L.cal (paramsL p) inp t pile s).2.2.2 ∧
  ((EP L.cal (paramsL p) inp t pile s).1 = 0 → ((EP L.cal (paramsL p) inp t pile s).2.2.1.length : Int) = pile.length + (1 - Ak (paramsL p) t)) := by
 have hps := G2 hg
 have h0 := Sx.to.refl hs (e := 0) (by omega) (by omega)
 unfold EP
 by_cases o1 : t.op = 1
 ·rw [if_pos o1]
  exact ⟨h0, fun _ => by simp [Ak, o1]⟩
 rw [if_neg o1]
 by_cases o2 : t.op = 2
 ·rw [if_pos o2]
  exact ⟨h0, fun _ => by simp [Ak, o2]⟩
 rw [if_neg o2]
 by_cases o9 : t.op = 9
 ·rw [if_pos o9]
  obtain ⟨g1, g2, g3⟩ := inS_le hs.used
  exact ⟨⟨⟨hs.vars, hs.off, g1.2.2⟩, g1, by show s.off.length + (inS inp s.m).2.fuel ≤ _; omega, by show (0 : Int) ≤ 0; omega, by show (0 : Int) ≤ 5; omega, fun _ => g2, rfl, id⟩, fun _ => by simp [Ak, o9]⟩
 rw [if_neg o9]
 by_cases o10 : t.op = 10
 ·rw [if_pos o10]
  exact ⟨⟨⟨hs.vars, hs.off, hs.used⟩, h0.le, h0.offl, h0.h0, h0.h5, fun _ => rfl, Ho _, PU⟩, fun _ => by simp [Ak, o10]⟩
 rw [if_neg o10]
 by_cases o11 : t.op = 11
 ·rw [if_pos o11]
  obtain ⟨k0, k1⟩ := CY hk o11
  rw [BN] at k1
  have hne : Ak (paramsL p) t = atI (paramsL p) t.n := by simp [Ak, o11]
  have hb := JU hps t.n
  rw [hne] at hn ⊢
  have hc := hL.call t.n (pile.drop (pile.length - (atI (paramsL p) t.n).toNat)) none s.m k0 k1 (by rw [RE]; omega) hs.used
  dsimp only [Lev.cal];split
  ·rename_i h
   rw [h] at hc
   have := Ms.to_s hs hc
   refine ⟨⟨this.ok, this.le, this.offl, by show (0 : Int) ≤ 0; omega, by show (0 : Int) ≤ 5; omega, fun _ => hc.deep (by omega), rfl, id⟩, fun _ => ?_⟩;simp only [QS, Qa, QW, List.length_nil];omega
  ·rename_i h
   refine ⟨Ms.to_s hs hc, fun hz => ?_⟩
   have := hc.h1
   have hz' : (L.call t.n (pile.drop (pile.length - (atI (paramsL p) t.n).toNat)) none s.m).1 = 0 := hz
   omega
 rw [if_neg o11]
 have hop : 3 ≤ t.op ∧ t.op ≤ 8 := by
  unfold knownT at hk;rw [if_neg o1, if_neg o2, if_neg o11] at hk;simp only [QR, decide_eq_true_eq] at hk;omega
 have hne : Ak (paramsL p) t = 2 := by simp [Ak, hop]
 split
 ·exact ⟨Sx.to.refl hs (e := 2) (by omega) (by omega), fun h => by simp at h⟩
 ·refine ⟨h0, fun _ => ?_⟩
  rw [hne] at hn ⊢;simp only [QS, Qa, QW, List.length_nil];omega
theorem E5 (hL : Ee p inp L) (hg : AZ p = true) {vs : Int} : ∀ {l : List Tok} {pile : List Int} {s : Sx} {mx : Int} {r : Int × Int}, s.ok p inp f → Cw vs (paramsL p) l pile.length mx = some r →
  Sx.to p inp f (exprS L.cal (paramsL p) inp l pile s).1 s (exprS L.cal (paramsL p) inp l pile s).2.2
 | [], pile, s, mx, r, hs, _ => Sx.to.refl hs (by show (0 : Int) ≤ 0; omega) (by show (0 : Int) ≤ 5; omega)
 | t :: l, pile, s, mx, r, hs, hr => by
  rw [Cw] at hr;split at hr
  ·rename_i hc
   rw [QR, decide_eq_true_eq] at hc
   obtain ⟨h1, h2⟩ := Iz hL hg hs hc.1 hc.2
   rw [exprS];split
   ·rename_i h0
    rw [← h2 h0] at hr;exact h1.trans (E5 hL hg h1.ok hr) (by omega)
   ·exact h1
  ·cases hr
theorem Bb {st : Stmt → Sx → Int × Int × Sx} (hst : ∀ t, t ∈ f.stmts → ∀ s : Sx, s.ok p inp f → Sx.to p inp f (st t s).1 s (st t s).2.2) : ∀ {b : List Int} {s : Sx}, Pm f b → s.ok p inp f → Sx.to p inp f (blockS st f b s).1 s (blockS st f b s).2.2
 | [], s, _, hs => Sx.to.refl hs (by show (0 : Int) ≤ 0; omega) (by show (0 : Int) ≤ 5; omega)
 | k :: b, s, hb, hs => by
  have hk := hb k (by simp)
  have hm : BU f k ∈ f.stmts := by rw [← Dg (by omega)]; exact Qb _
  have h1 := hst _ hm s hs
  rw [blockS];split
  ·rename_i h0
   exact h1.trans (Bb hst (fun x hx => hb x (by simp [hx])) h1.ok) (by omega)
  ·exact h1
theorem Sx.ok.burn {s : Sx} (h : s.ok p inp f) (hf : s.m.fuel ≠ 0) : Sx.to p inp f 0 s { s with m := A7 s.m } := by
 refine ⟨⟨h.vars, h.off, h.used⟩, ⟨?_, ?_, h.used⟩, ?_, by omega, by omega, fun _ => rfl, rfl, id⟩
 ·show s.m.fuel - 1 ≤ s.m.fuel; omega
 ·show s.m.trace.length + (s.m.fuel - 1) ≤ _; omega
 ·show s.off.length + (s.m.fuel - 1) ≤ _; omega
theorem GR {f : Func} (h : Ai f = true) : BT f.stmts.length (kids f.stmts) ∧ inB f.stmts.length 0 f.body ∧ ord f.stmts.length (kids f.stmts) f.body = CP f.stmts.length := by
 unfold Ai at h;simp only [QR] at h;exact shapeB_iff.1 h.2.2.1
theorem Gz {f : Func} (hsh : Ai f = true) {t : Stmt} (ht : t ∈ f.stmts) : Pm f t.thn ∧ Pm f t.els ∧ Pm f f.body := by
 obtain ⟨hd, hb, _⟩ := GR hsh
 obtain ⟨i, hi, rfl⟩ := Qs ht
 have h := hd i (by omega) (by omega)
 rw [kids_at (by omega)] at h;exact ⟨fun x hx => ⟨by have := (h.1 x hx).1; omega, (h.1 x hx).2⟩, fun x hx => ⟨by have := (h.2 x hx).1; omega, (h.2 x hx).2⟩, fun x hx => hb x hx⟩
theorem EF {f : Func} (hsh : Ai f = true) : Pm f f.body := fun x hx => (GR hsh).2.1 x hx
theorem FF {vars : Int} {ps : List Int} {t : Stmt} (h : A6 vars ps t = true) (h3 : t.kind ≠ 3) (h6 : t.kind ≠ 6) : ∃ m : Int, Cw vars ps t.ex 0 0 = some (1, m) := by
 have hx : C0 vars ps t.ex = true := by
  rcases stmtG_ex h with h' | h'
  ·exfalso
   revert h
   grind [A6, Af, C0, Cw]
  ·exact h'
 unfold C0 at hx
 cases hr : Cw vars ps t.ex 0 0 with
 | none => rw [hr] at hx; cases hx
 | some q =>
  obtain ⟨a, m⟩ := q
  rw [hr] at hx;simp only [QR, decide_eq_true_eq] at hx;exact ⟨m, by rw [hx.1]⟩
theorem Nc (hL : Ee p inp L) (hg : AZ p = true) (hf : f ∈ p.funcs) {t : Stmt} (ht : t ∈ f.stmts) {s : Sx} (hs : s.ok p inp f) : Sx.to p inp f (ER L (paramsL p) inp f t s).1 s (ER L (paramsL p) inp f t s).2.2 := by
 obtain ⟨q, hq, rfl⟩ := Qs hf
 have hgf := DL hg hq
 have hsh := Ff hgf
 have hst : A6 (p.funcs[q]).vars (paramsL p) t = true := by
  obtain ⟨i, hi, rfl⟩ := Qs ht
  exact D8 hgf hi
 obtain ⟨hk1, hk2, _⟩ := Gz hsh ht
 unfold ER
 by_cases hz : s.m.fuel = 0
 ·rw [if_pos hz]
  exact Sx.to.refl hs (by show (0 : Int) ≤ 5; omega) (by show (5 : Int) ≤ 5; omega)
 rw [if_neg hz]
 have hb := hs.burn hz
 by_cases k3 : t.kind = 3
 ·rw [if_pos k3]
  obtain ⟨n0, n1, _⟩ := HV hst k3
  have hn : atI (paramsL p) t.n = 0 := by
   unfold A6 at hst;rw [if_pos k3, QR, decide_eq_true_eq] at hst;exact hst.2
  rw [BN] at n1;refine ⟨⟨hs.vars, fun x hx => ?_, hs.used⟩, hb.le, ?_, by show (0 : Int) ≤ 0; omega, by show (0 : Int) ≤ 5; omega, fun _ => rfl, rfl, id⟩
  ·rcases QV.1 hx with hx | hx
   ·exact hs.off x hx
   ·rw [Qf] at hx
    subst hx;exact ⟨n0, n1, hn⟩
  ·show (s.off ++ [t.n]).length + (s.m.fuel - 1) ≤ _
   simp only [QS, QW, List.length_nil];omega
 rw [if_neg k3]
 by_cases k6 : t.kind = 6
 ·rw [if_pos k6]
  exact ⟨hb.ok, hb.le, hb.offl, by show (0 : Int) ≤ 3; omega, by show (3 : Int) ≤ 5; omega, fun _ => rfl, rfl, id⟩
 rw [if_neg k6]
 obtain ⟨mx, hr⟩ := FF hst k3 k6
 have he := E5 hL hg (pile := []) hb.ok (l := t.ex) (mx := 0) (by simpa using hr)
 dsimp only;generalize exprS L.cal (paramsL p) inp t.ex [] { s with m := A7 s.m } = r at he
 obtain ⟨h, v, s2⟩ := r
 dsimp only at he ⊢
 have h1 := hb.trans he (by omega)
 split
 ·rename_i hh
  subst hh;unfold doS;dsimp only
  have hok := he.ok
  split
  ·exact h1.trans ⟨⟨by rw [Q6]; exact hok.vars, hok.off, hok.used⟩, ⟨Qm _, Qm _, hok.used⟩, Qm _, by show (0 : Int) ≤ 0; omega, by show (0 : Int) ≤ 5; omega, fun _ => rfl, rfl, id⟩ (by omega)
  split
  ·have hfu : s2.m.trace.length + 1 + s2.m.fuel ≤ s.m.trace.length + s.m.fuel := by
    have a1 : s2.m.trace.length + s2.m.fuel ≤ s.m.trace.length + (s.m.fuel - 1) := he.le.2.1
    omega
   refine ⟨⟨hok.vars, hok.off, hok.used⟩, ⟨h1.le.1, ?_, hok.used⟩, h1.offl, by show (0 : Int) ≤ 0; omega, by show (0 : Int) ≤ 5; omega, fun _ => h1.deep (by omega), h1.by', h1.byk⟩;show (s2.m.trace ++ [v]).length + s2.m.fuel ≤ _;simp only [QS, QW, List.length_nil];omega
  split
  ·exact ⟨h1.ok, h1.le, h1.offl, by show (0 : Int) ≤ 2; omega, by show (2 : Int) ≤ 5; omega, fun _ => h1.deep (by omega), h1.by', h1.byk⟩
  split
  ·exact ⟨⟨hok.vars, hok.off, hok.used⟩, h1.le, h1.offl, by show (0 : Int) ≤ 1; omega, by show (1 : Int) ≤ 5; omega, fun _ => h1.deep (by omega), h1.by', h1.byk⟩
  split
  ·split
   ·exact h1.trans (Bb (hL.stmt _ hf) hk1 hok) (by omega)
   ·exact h1.trans (Bb (hL.stmt _ hf) hk2 hok) (by omega)
  split
  ·split
   ·exact h1
   ·have hbl := Bb (hL.stmt _ hf) hk1 hok
    split
    ·rename_i h0
     exact h1.trans (hbl.trans (hL.stmt _ hf _ ht _ hbl.ok) (by omega)) (by omega)
    ·exact h1.trans hbl (by omega)
  ·exact h1
 ·exact h1
theorem JC {cal : Int → Option By → Ms → Int × Int × Option By × Ms} (hc : ∀ (k : Int) (b : Option By) (m : Ms), 0 ≤ k → k < p.funcs.length → atI (paramsL p) k = 0 → m.used ≤ inp.length → Ms.to inp (cal k b m).1 b (cal k b m).2.2.1 m (cal k b m).2.2.2) :
  ∀ {l : List Int} {b : By} {m : Ms}, (∀ x, x ∈ l → 0 ≤ x ∧ x < p.funcs.length ∧ atI (paramsL p) x = 0) → m.used ≤ inp.length → 1 ≤ b.how → b.how < 4 →
   m.le inp (offR cal l b m).2.2 ∧ 0 ≤ (offR cal l b m).1 ∧ (offR cal l b m).1 ≤ 5 ∧ ((offR cal l b m).1 < 4 → (offR cal l b m).2.2.deep = m.deep ∧ 1 ≤ (offR cal l b m).2.1.how ∧ (offR cal l b m).2.1.how < 4)
 | [], b, m, _, hu, h1, h2 => ⟨⟨Qm _, Qm _, hu⟩, by show (0 : Int) ≤ 0; omega, by show (0 : Int) ≤ 5; omega, fun _ => ⟨rfl, h1, h2⟩⟩
 | k :: l, b, m, hl, hu, h1, h2 => by
  obtain ⟨q0, q1, q2⟩ := hl k (by simp)
  have hk := hc k (some b) m q0 q1 q2 hu
  rw [offR]
  have hb1 : ∃ b1, (cal k (some b) m).2.2.1 = some b1 := by
   have := hk.by'
   cases h : (cal k (some b) m).2.2.1 with
   | none => rw [h] at this; cases this
   | some b1 => exact ⟨b1, rfl⟩
  have hH1 := hk.h1
  split
  ·rename_i h4
   exact ⟨hk.le, by omega, hk.h5, fun h => by omega⟩
  ·rename_i h4
   split
   ·rename_i e1
    obtain ⟨b1, hb1⟩ := hb1
    have hbk := hk.byk (fun x hx => by cases hx; exact ⟨h1, h2⟩) b1 hb1
    rw [hb1]
    have ih := JC hc (l := l) (b := b1) (m := (cal k (some b) m).2.2.2) (fun x hx => hl x (by simp [hx])) hk.le.2.2 hbk.1 hbk.2
    exact ⟨hk.le.trans ih.1, ih.2.1, ih.2.2.1, fun h => ⟨((ih.2.2.2 h).1).trans (hk.deep (by omega)), (ih.2.2.2 h).2⟩⟩
   ·rename_i e1
    have ih := JC hc (l := l) (b := ⟨(cal k (some b) m).1, if (cal k (some b) m).1 = 2 then (cal k (some b) m).2.1 else ((cal k (some b) m).2.2.1.getD b).pan, ((cal k (some b) m).2.2.1.getD b).exd || decide ((cal k (some b) m).1 = 3)⟩) (m := (cal k (some b) m).2.2.2) (fun x hx => hl x (by simp [hx])) hk.le.2.2 hH1 (by show (cal k (some b) m).1 < 4; omega)
    exact ⟨hk.le.trans ih.1, ih.2.1, ih.2.2.1, fun h => ⟨((ih.2.2.2 h).1).trans (hk.deep (by omega)), (ih.2.2.2 h).2⟩⟩
theorem BB {p : Prog} {n : Int} (h0 : 0 ≤ n) (h1 : n < p.funcs.length) : funcAt p n ∈ p.funcs := by rw [← BC (by omega)]; exact Qb _
theorem B7 {p : Prog} {n : Int} (h0 : 0 ≤ n) (h1 : n < p.funcs.length) : atI (paramsL p) n = (funcAt p n).params := by rw [BP h0 h1, ← BC (by omega)]
theorem CK {p : Prog} (hg : AZ p = true) {f : Func} (hf : f ∈ p.funcs) : 0 ≤ f.params ∧ f.params ≤ 2 ∧ f.params ≤ f.vars ∧ f.vars ≤ 6 ∧ Ai f = true ∧ f.stmts.length ≤ 16 := by
 obtain ⟨q, hq, rfl⟩ := Qs hf
 have hgf := DL hg hq
 have hsh := Ff hgf
 have hl := Ma hgf
 have h := hsh
 unfold Ai at h;rw [QR] at h
 have h2 := h.1
 unfold EZ at h2;simp only [QR, decide_eq_true_eq] at h2;exact ⟨h2.1.1, h2.1.2, h2.2.1.1, h2.2.1.2, hsh, hl⟩
theorem Nj {n : Nat} {args : List Int} (h : args.length ≤ n) : (setL n args).length = n := by simp [setL]; omega
theorem FG {p : Prog} {inp : List Int} {f : Func} {args : List Int} {b : Option By} {m : Ms} (ha : args.length ≤ f.vars.toNat) (hu : m.used ≤ inp.length) : (startS f args b m).ok p inp f :=
 ⟨Nj ha, (fun x hx => absurd hx List.not_mem_nil), hu⟩
theorem Mm {h v : Int} (h0 : 0 ≤ h) (h4 : h < 4) : 1 ≤ (endS h v).how ∧ (endS h v).how < 4 := by
 unfold endS;dsimp only
 split <;> omega
theorem Ob (hL : Ee p inp L) (hg : AZ p = true) {most : Nat} {fn : Int} {args : List Int} {b : Option By} {m : Ms} (h0 : 0 ≤ fn) (h1 : fn < p.funcs.length) (ha : args.length = (atI (paramsL p) fn).toNat) (hu : m.used ≤ inp.length) :
  Ms.to inp (EE L p most fn args b m).1 b (EE L p most fn args b m).2.2.1 m (EE L p most fn args b m).2.2.2 := by
 have hm := BB h0 h1
 obtain ⟨g1, g2, g3, g4, hsh, g6⟩ := CK hg hm
 rw [B7 h0 h1] at ha;unfold EE
 by_cases hz : m.fuel = 0
 ·rw [if_pos hz]; exact ⟨⟨Qm _, Qm _, hu⟩, by show (1 : Int) ≤ 5; omega, by show (5 : Int) ≤ 5; omega, fun _ => rfl, rfl, id⟩
 rw [if_neg hz]
 by_cases hd : m.deep = most
 ·rw [if_pos hd]; exact ⟨⟨by show m.fuel - 1 ≤ m.fuel; omega, by show m.trace.length + (m.fuel - 1) ≤ _; omega, hu⟩, by show (1 : Int) ≤ 4; omega, by show (4 : Int) ≤ 5; omega, fun _ => rfl, rfl, id⟩
 rw [if_neg hd];dsimp only
 have hs := FG (p := p) (inp := inp) (f := funcAt p fn) (args := args) (b := b) (m := m) (by omega) hu
 have hb := Bb (hL.stmt _ hm) (EF hsh) hs
 generalize blockS (L.stmt (funcAt p fn)) (funcAt p fn) (funcAt p fn).body (startS (funcAt p fn) args b m) = r at hb
 obtain ⟨h, v, s1⟩ := r
 dsimp only at hb ⊢
 have e1 : s1.m.fuel ≤ m.fuel - 1 := hb.le.1
 have e2 : s1.m.trace.length + s1.m.fuel ≤ m.trace.length + (m.fuel - 1) := hb.le.2.1
 have hl1 : m.le inp s1.m := ⟨by omega, by omega, hb.le.2.2⟩
 have hh0 := hb.h0
 have hh5 := hb.h5
 split
 ·rename_i h4
  exact ⟨hl1, by show (1 : Int) ≤ h; omega, hb.h5, fun h => by omega, hb.by', hb.byk⟩
 ·rename_i h4
  have he := Mm (v := v) hb.h0 (by omega)
  have ho := JC (p := p) (inp := inp) (cal := fun k b m => L.call k [] b m) (fun k b m k0 k1 k2 ku => hL.call k [] b m k0 k1 (by rw [k2]; rfl) ku) (l := s1.off.reverse) (b := endS h v) (m := s1.m) (fun x hx => hb.ok.off x (by simpa using hx)) hb.ok.used he.1 he.2
  generalize offR (fun k b m => L.call k [] b m) s1.off.reverse (endS h v) s1.m = q at ho
  obtain ⟨h2, b2, m2⟩ := q
  dsimp only at ho ⊢
  obtain ⟨o1, o2, o3, o4⟩ := ho
  split
  ·rename_i h5
   exact ⟨hl1.trans o1, by show (1 : Int) ≤ h2; omega, o3, fun h => by omega, hb.by', hb.byk⟩
  ·rename_i h5
   obtain ⟨p1, p2, p3⟩ := o4 (by omega)
   have hd1 : s1.m.deep = m.deep + 1 := hb.deep (by omega)
   refine ⟨⟨(hl1.trans o1).1, (hl1.trans o1).2.1, o1.2.2⟩, p2, by show b2.how ≤ 5; omega, fun _ => ?_, hb.by', hb.byk⟩;show m2.deep - 1 = m.deep;omega
theorem FY {p : Prog} {inp : List Int} (hg : AZ p = true) (most : Nat) : ∀ n, Ee p inp (lev p inp most n)
 | 0 => ⟨fun f _ t _ s hs => Sx.to.refl hs (by show (0 : Int) ≤ 5; omega) (by show (5 : Int) ≤ 5; omega), fun fn args b m _ _ _ hu => ⟨⟨Qm _, Qm _, hu⟩, by show (1 : Int) ≤ 5; omega, by show (5 : Int) ≤ 5; omega, fun _ => rfl, rfl, id⟩⟩
 | n + 1 => ⟨fun f hf t ht s hs => Nc (FY hg most n) hg hf ht hs, fun fn args b m h0 h1 ha hu => Ob (FY hg most n) hg h0 h1 ha hu⟩
end
open Go.Eng
def ptr (b : Nat) : Value := .pointer (some ⟨b, 0, none⟩)
def mS (pv iv : Value) (most : Int) (m : Ms) : List D := [.t (.v pv), .t (.v iv), .t (.int m.used), .t (.int m.fuel), .t (.int most), .own (T.ints m.trace)]
def byH : Option By → Int
 | none => 0
 | some b => b.how
def byV : Option By → Int
 | none => 0
 | some b => if b.how = 2 then b.pan else 0
def byB : Option By → Int
 | none => 0
 | some b => if b.exd then 3 else 1
def bS (b : Option By) : List D := [.t (.int (byH b)), .t (.int (byV b)), .t (.int (byB b))]
def cS (f : Func) (fbv fsv : Value) (vars off : List Int) (res dp : Int) (bb : Nat) : List D :=
 [.t (.int f.params), .t (.int f.vars), .t (.v fbv), .t (.v fsv), .own (T.ints vars), .own (T.ints off), .t (.int res), .t (.int dp), .t (.v (.pointer (some ⟨bb, 0, none⟩)))]
def Ep (op x y : Int) : Int := (Bf op x y).getD 0
open Go.Eng
def rS (pv iv : Value) (most fu co : Int) (m : Ms) : List D := [.t (.v pv), .t (.v iv), .t (.int most), .t (.int fu), .t (.int m.deep), .t (.int co), .t (.int 0), .own (T.ints m.trace), .t (.int m.used)]
def gC (fn : Int) (vars off : List Int) (res e pan : Int) (exd : Bool) (bp : Value) : List D := [.t (.int fn), .own (T.ints vars), .t (.int res), .own (T.ints off), .t (.int e), .t (.int pan), .t (.bool exd), .t (.v bp)]
structure Kp where
 fn : Int
 vars : List Int
 off : List Int
 res : Int
 bp : Value
def byP (bb : Nat) : Option By → Value
 | none => .pointer none
 | some _ => .pointer (some ⟨bb, 0, none⟩)
def hH : Option By → Int
 | none => 0
 | some b => b.how
def nH : Option By → Int
 | none => 0
 | some b => b.pan
def xH : Option By → Bool
 | none => false
 | some b => b.exd
def byK (bb : Nat) (q : Kp) (b : Option By) : Blk := .obox (byP bb b) (gC q.fn q.vars q.off q.res (hH b) (nH b) (xH b) q.bp)
def fuH (h : Int) (m : Ms) : Int := if h = 4 then (m.fuel : Int) + 1 else m.fuel
def coH (h : Int) : Int := if 4 ≤ h then h else 0
def haH (h : Int) : Int := if 4 ≤ h then 4 else h
theorem Ox {b b' : Bool} (h : b = b') : Aw [D.t (T.v (Value.bool b))] = D.t (T.bool b') := by rw [h]; rfl
theorem Lx {b b' : Int} (h : b = b') : Aw [D.t (T.v (Value.int .i64 b))] = D.t (T.int b') := by rw [h]; rfl
theorem Fo (bm : Nat) (pv iv : Value) (most : Int) (m : Ms) (rv : List Value) (rt : List T) (hm : m.fuel ≤ 1048576) : Proc Try.prog 94 [.t (.v (.pointer (some ⟨bm, 0, none⟩)))] (rv) (rt) [.obox (.pointer (some ⟨bm, 0, none⟩)) (rS pv iv most m.fuel 0 m)] (.t (.bool (decide (m.fuel ≠ 0)))) [.obox (.pointer (some ⟨bm, 0, none⟩)) (rS pv iv most (A7 m).fuel (if m.fuel = 0 then 5 else 0) (A7 m))] := by
 refine Proc.intro tys Try.func94 Z Z (N := 19) [100] 99 ([(0, .t (.v (.pointer (some ⟨bm, 0, none⟩))))]) ([(100, .obox (.pointer (some ⟨bm, 0, none⟩)) (rS pv iv most m.fuel 0 m)), (99, .ro rv rt)]) Z Z Z Z (by decide) (by decide) Z (fun w0 G F0 => ?_);refine nY Z (AO (Le.openNew (u := 100) 1100 Z Z Z Z Z) (nY Z (AO (Le.named (t := 0) (u := 100) 1100 Z Z) (nY Z (sG (eZ Z (nB (sQ (sG (eZ Z (AE rfl Z (AA Z) Z Z Z (eK 3 Z (nB ?_)))))))))))));refine AB Z (fun h1 => ?_) (fun h1 => ?_)
 ·
  simp only [HS] at h1;refine sG (eZ Z (AE rfl Z (AA Z) Z Z Z (eZ Z (kZ [0,2,10] Z (eZ Z (sT Z (nZ Z (nA (eZ Z (nB (AO (Le.close (u := 100) 1100 Z Z Z) (nY Z (rT (tR ?_))))))))))))));refine eP [_] ?_ ?_
  ·exact Ox (by simp; omega)
  ·(have h : (m.fuel : Int) = 0 := (by assumption); have hz : m.fuel = 0 := (by omega); simp only [rS, A7, hz]; rfl)
 simp only [HS] at h1;refine AC (tN (sG (eZ Z (AE rfl Z (AA Z) Z Z Z (eZ Z (kZ [2,12,14] Z (eZ Z (evI ?_))))))));refine AE rfl Z (AA Z) Z Z Z (eZ Z (sT Z (nZ Z (nA (eZ Z (nB (AO (Le.close (u := 100) 1100 Z Z Z) (nY Z (rT ?_)))))))));refine eP [_] ?_ ?_
 ·exact Ox (by simp; omega)
 ·(have h : (m.fuel : Int) - 1 = ((m.fuel - 1 : Nat) : Int) := (by omega); rw [h, if_neg (by omega)]; rfl)
theorem recSn {b : By} (h : ¬ b.how = 2) : HJ (some b) = (0, some b) := by rw [HJ, if_neg h]
theorem Nr {b : By} (h : b.how = 2) : HJ (some b) = (b.pan, some ⟨if b.exd = true then 3 else 1, b.pan, b.exd⟩) := by rw [HJ, if_pos h]
theorem L5 (bc bb : Nat) (q : Kp) (fn : Int) (vars off : List Int) (res e pan : Int) (exd : Bool) (rv : List Value) (rt : List T) : Proc Try.prog 121 [.t (.v (.pointer (some ⟨bc, 0, none⟩)))] (rv) (rt) [.obox (.pointer (some ⟨bc, 0, none⟩)) (gC fn vars off res e pan exd (byP bb none)), byK bb q none] (.t (.int 0)) [.obox (.pointer (some ⟨bc, 0, none⟩)) (gC fn vars off res e pan exd (byP bb none)), byK bb q none] := by
 refine Proc.intro tys Try.func121 Z Z (N := 44) [100, 101] 99 ([(0, .t (.v (.pointer (some ⟨bc, 0, none⟩))))]) ([(100, .obox (.pointer (some ⟨bc, 0, none⟩)) (gC fn vars off res e pan exd (byP bb none))), (101, byK bb q none), (99, .ro rv rt)]) Z Z Z Z (by decide) (by decide) Z (fun w0 G F0 => ?_);refine nY Z (AO (Le.openNew (u := 100) 1100 Z Z Z Z Z) (nY Z (AO (Le.named (t := 0) (u := 100) 1100 Z Z) (nY Z (sG (eZ Z (nB (sQ (sG (eZ Z (AE rfl Z (AA Z) Z Z Z (eK 2 Z (Ii (e := 109) (b := true) Z Z (AA Z) Z (by kernel_rfl) Z Z (.inl ⟨rfl, rfl⟩) (WO_le (Le.known (t := 7) true Z (by simp)) ?_))))))))))))));refine xK 3 Z (kZ [0,2,8,10] Z (xK 7 Z (nB (Ap Z (sQ (kY [0,2] Z (rG (eZ Z (nB (AO (Le.close (u := 100) 1100 Z Z Z) (nY Z (rT (tR ?_)))))))))))));refine eP [_, _] ?_ ?_
 ·rfl
 ·rfl
theorem L4 (bc bb : Nat) (q : Kp) (b : By) (fn : Int) (vars off : List Int) (res e pan : Int) (exd : Bool) (rv : List Value) (rt : List T) : Proc Try.prog 121 [.t (.v (.pointer (some ⟨bc, 0, none⟩)))] (rv) (rt) [.obox (.pointer (some ⟨bc, 0, none⟩)) (gC fn vars off res e pan exd (byP bb (some b))), .obox (.pointer (some ⟨bb, 0, none⟩)) (gC q.fn q.vars q.off q.res b.how b.pan b.exd q.bp)] (.t (.int (HJ (some b)).1)) [.obox (.pointer (some ⟨bc, 0, none⟩)) (gC fn vars off res e pan exd (byP bb (some b))), byK bb q (HJ (some b)).2] := by
 refine Proc.intro tys Try.func121 Z Z (N := 44) [100, 101] 99 ([(0, .t (.v (.pointer (some ⟨bc, 0, none⟩))))]) ([(100, .obox (.pointer (some ⟨bc, 0, none⟩)) (gC fn vars off res e pan exd (byP bb (some b)))), (101, .obox (.pointer (some ⟨bb, 0, none⟩)) (gC q.fn q.vars q.off q.res b.how b.pan b.exd q.bp)), (99, .ro rv rt)]) Z Z Z Z (by decide) (by decide) Z (fun w0 G F0 => ?_);refine nY Z (AO (Le.openNew (u := 100) 1100 Z Z Z Z Z) (nY Z (AO (Le.named (t := 0) (u := 100) 1100 Z Z) (nY Z (AO (Le.openNew (u := 101) 1101 Z Z Z Z Z) (nY Z (sG (eZ Z (nB (sQ (sG (eZ Z (AE rfl Z (AA Z) Z Z Z (eK 2 Z (Ii (e := 109) (b := false) Z Z (AA Z) Z (by kernel_rfl) Z Z (.inl ⟨rfl, rfl⟩) ?_)))))))))))))));refine WO_le (Le.known (t := 7) false Z (by simp)) ?_;refine xK 2 Z (gY Z (AE rfl Z (AA Z) Z Z Z (kZ [0,2,8,10] Z (xK 2 Z (WO_le (Le.named (t := 12) (u := 101) 1101 Z Z) (gY Z (AE rfl Z (AA Z) Z Z Z (xK 4 Z (nB ?_)))))))));refine AB Z (fun h1 => ?_) (fun h1 => ?_)
 ·
  simp only [HS] at h1;refine sQ (kY [0,2] Z (rG (eZ Z (nB (AO (Le.close (u := 100) 1100 Z Z Z) (nY Z (AO (Le.close (u := 101) 1101 Z Z Z) (nY Z (rT (tR ?_))))))))));refine eP [_, _] ?_ ?_
  ·exact Lx (by rw [recSn (by assumption)])
  ·(rw [recSn (by assumption)]; rfl)
 simp only [HS] at h1;refine AC (tN (sQ (kY [0,2] Z (rG (eZ Z (AE rfl Z (AA Z) Z Z Z (eK 2 Z (WO_le (Le.named (t := 21) (u := 101) 1101 Z Z) (AE rfl Z (AA Z) Z Z Z (eZ Z (sT Z (nZ Z (nB (sQ (sQ ?_)))))))))))))));refine kY [0,2] Z (rG (eZ Z (AE rfl Z (AA Z) Z Z Z (eK 2 Z (WO_le (Le.named (t := 27) (u := 101) 1101 Z Z) (AE rfl Z (AA Z) Z Z Z (eK 2 Z (nB ?_))))))));refine AB Z (fun h2 => ?_) (fun h2 => ?_)
 ·
  refine kY [0,2] Z (rG (eZ Z (AE rfl Z (AA Z) Z Z Z (eK 2 Z (WO_le (Le.named (t := 34) (u := 101) 1101 Z Z) (AE rfl Z (AA Z) Z Z Z (eZ Z (sT Z (nZ Z (nB (sQ (kY [0,2] Z (rG (eZ Z (AE rfl Z (AA Z) Z Z Z ?_)))))))))))))));refine eK 2 Z (WO_le (Le.named (t := 40) (u := 101) 1101 Z Z) (AE rfl Z (AA Z) Z Z Z (eK 3 Z (nB (AO (Le.close (u := 100) 1100 Z Z Z) (nY Z (AO (Le.close (u := 101) 1101 Z Z Z) (nY Z (rT ?_)))))))));refine eP [_, _] ?_ ?_
  ·exact Lx (by rw [Nr (by omega)])
  ·(rw [Nr (by omega), if_pos (by assumption)]; rfl)
 refine AC (tN (sQ (kY [0,2] Z (rG (eZ Z (AE rfl Z (AA Z) Z Z Z (eK 2 Z (WO_le (Le.named (t := 40) (u := 101) 1101 Z Z) (AE rfl Z (AA Z) Z Z Z (eK 3 Z (nB (AO (Le.close (u := 100) 1100 Z Z Z) (nY Z (AO (Le.close (u := 101) 1101 Z Z Z) (nY Z ?_)))))))))))))));refine rT ?_;refine eP [_, _] ?_ ?_
 ·exact Lx (by rw [Nr (by omega)])
 ·(rw [Nr (by omega), if_neg (by simp_all)]; rfl)
theorem Ns (bc bb : Nat) (q : Kp) (b : Option By) (fn : Int) (vars off : List Int) (res e pan : Int) (exd : Bool) (rv : List Value) (rt : List T) : Proc Try.prog 121 [.t (.v (.pointer (some ⟨bc, 0, none⟩)))] rv rt
  [.obox (.pointer (some ⟨bc, 0, none⟩)) (gC fn vars off res e pan exd (byP bb b)), byK bb q b] (.t (.int (HJ b).1)) [.obox (.pointer (some ⟨bc, 0, none⟩)) (gC fn vars off res e pan exd (byP bb b)), byK bb q (HJ b).2] := by
 cases b with
 | none => exact L5 bc bb q fn vars off res e pan exd rv rt
 | some b => exact L4 bc bb q b fn vars off res e pan exd rv rt
theorem Fn {bb : Nat} {a b : Option By} (h : a.isSome = b.isSome) : byP bb a = byP bb b := by
 cases a <;> cases b <;> first | rfl | cases h
theorem KN (bc : Nat) (h v : Int) (fn : Int) (vars off : List Int) (res e pan : Int) (exd : Bool) (bp : Value) (rv : List Value) (rt : List T) : Proc Try.prog 96 [.t (.v (.pointer (some ⟨bc, 0, none⟩))), .t (.int h), .t (.int v)] (rv) (rt) [.obox (.pointer (some ⟨bc, 0, none⟩)) (gC fn vars off res e pan exd bp)] (.tup []) [.obox (.pointer (some ⟨bc, 0, none⟩)) (gC fn vars off res h (if h = 2 then v else pan) (or exd (decide (h = 3))) bp)] := by
 refine Proc.intro tys Try.func96 Z Z (N := 22) [100] 99 ([(0, .t (.v (.pointer (some ⟨bc, 0, none⟩)))), (1, .t (.int h)), (2, .t (.int v))]) ([(100, .obox (.pointer (some ⟨bc, 0, none⟩)) (gC fn vars off res e pan exd bp)), (99, .ro rv rt)]) Z Z Z Z (by decide) (by decide) Z (fun w0 G F0 => ?_);refine nY Z (AO (Le.openNew (u := 100) 1100 Z Z Z Z Z) (nY Z (AO (Le.named (t := 0) (u := 100) 1100 Z Z) (nY Z (QI (sG (eK 2 Z (AE rfl Z (AA Z) Z Z Z (eZ Z (sT Z (nZ Z (nA (eZ Z (nB (AD ?_)))))))))))))));refine sG (eK 2 Z (nB ?_));refine AB Z (fun h1 => ?_) (fun h1 => ?_)
 ·
  simp only [HS] at h1;refine kY [0,2] Z (rG (eK 2 Z (AE rfl Z (AA Z) Z Z Z (eZ Z (sT Z (nZ Z (oN (bN ?_))))))));refine ⟨_, Le.close (u := 100) 1100 Z Z rfl, ?_⟩;refine eP [_] ?_ ?_
  ·rfl
  ·simp_all [gC]
   done
 simp only [HS] at h1;refine sQ (kY [0,10] Z (rG (eK 2 Z (nB ?_))));refine AB Z (fun h2 => ?_) (fun h2 => ?_)
 ·
  simp only [HS] at h2;refine rG (eZ Z (AE rfl Z (AA Z) Z Z Z (eZ Z (sT Z (nZ Z (oN (bN ?_)))))));refine ⟨_, Le.close (u := 100) 1100 Z Z rfl, ?_⟩;refine eP [_] ?_ ?_
  ·rfl
  ·simp_all [gC]
   done
 simp only [HS] at h2;refine AC (bN ?_);refine ⟨_, Le.close (u := 100) 1100 Z Z rfl, ?_⟩;refine eP [_] ?_ ?_
 ·rfl
 ·simp_all [gC]
  done
theorem Df (n : Int) : Fun Try.prog 126 [.t (.int n)] (Aw [.t (.int (w32 n))]) := by
 refine Fun.begin tys Try.func126 Z Z (N := 6) [(0, .t (.int n))] Z Z (fun w0 G F0 => ?_);refine sG (eZ Z (nA (eZ Z (WO_conv (td := .int .i64) (k := .i32) Z Z (AA Z) Z (by kernel_rfl) (by kernel_rfl) Z (WO_conv (td := .int .i32) (k := .i64) Z Z (AA Z) Z (by kernel_rfl) (by kernel_rfl) Z (eZ Z (nB (rT (eR ?_)))))))))
 ·rfl
theorem Dp {a a' : Int} {b b' : Bool} (h : a = a') (h' : b = b') : [D.t (T.v (Value.int .i64 a)), D.t (T.v (Value.bool b))] = [D.t (T.int a'), D.t (T.bool b')] := by rw [h, h']
theorem L3 (op x y : Int) : Fun Try.prog 122 [.t (.int op), .t (.int x), .t (.int y)] (Aw [.t (.int (Ep op x y)), .t (.bool (Bf op x y).isSome)]) := by
 refine Fun.begin tys Try.func122 Z Z (N := 45) [(0, .t (.int op)), (1, .t (.int x)), (2, .t (.int y))] Z Z (fun w0 G F0 => ?_);refine sG (eK 2 Z (nA (eZ Z (nB (sQ (sG (eZ Z (nB (AD (sG (eK 2 Z (nB ?_))))))))))));refine AB Z (fun h1 => ?_) (fun h1 => ?_)
 ·
  simp only [HS] at h1;refine sG (eK 3 Z (kZ [6,7,8,17] Z (AI ?_)));refine ⟨_, Df _, rfl, ?_⟩;refine eK 2 Z (nB (rT (bR (tR (eR ?_)))))
  ·exact Dp (by grind [Ep, Bf, w64]) (by grind [Bf])
 simp only [HS] at h1;refine sG (eK 2 Z (nB ?_));refine AB Z (fun h2 => ?_) (fun h2 => ?_)
 ·
  simp only [HS] at h2;refine sQ (kY [1,2,6,7,8] Z (rG (eK 3 Z (AI ?_))));refine ⟨_, Df _, rfl, ?_⟩;refine eK 2 Z (nB (rT (bR (tR (eR ?_)))))
  ·exact Dp (by grind [Ep, Bf, w64]) (by grind [Bf])
 simp only [HS] at h2;refine sQ (kY [1,2,6,7,8,9] Z (rG (eK 2 Z (nB ?_))));refine AB Z (fun h3 => ?_) (fun h3 => ?_)
 ·
  simp only [HS] at h3;refine sG (eK 3 Z (AI ?_));refine ⟨_, Df _, rfl, ?_⟩;refine eK 2 Z (nB (rT (bR (tR (eR ?_)))))
  ·exact Dp (by grind [Ep, Bf, w64]) (by grind [Bf])
 simp only [HS] at h3;refine sG (eK 2 Z (nB ?_));refine AB Z (fun h4 => ?_) (fun h4 => ?_)
 ·
  simp only [HS] at h4;refine sQ (sG (eK 2 Z (nB ?_)));refine AB Z (fun h5 => ?_) (fun h5 => ?_)
  ·
   simp only [HS] at h5;refine sG (eK 2 Z (nB (rT (tR (bR (tR (eR ?_)))))))
   ·exact Dp (by grind [Ep, Bf, w64]) (by grind [Bf])
  simp only [HS] at h5;refine AC (tN (sG (eK 2 Z (WO_quo Z Z (AA Z) Z Z Z (by first | decide | omega) ?_))));refine kZ [6,7,8,37] Z (AI ?_);refine ⟨_, Df _, rfl, ?_⟩;refine eK 2 Z (nB (rT (bR (tR (eR ?_)))))
  ·exact Dp (by grind [Ep, Bf, w64]) (by grind [Bf])
 simp only [HS] at h4;refine sG (eK 2 Z (nB ?_));refine AB Z (fun h5 => ?_) (fun h5 => ?_)
 ·
  simp only [HS] at h5;refine rG (eK 3 Z (kZ [6,7,8,43] Z (eZ Z (oN (bN (tN (sQ (sG (eZ Z (nB ?_))))))))));refine AB Z (fun h6 => ?_) (fun h6 => ?_)
  ·
   simp only [HS] at h6;refine sG (eK 2 Z (nB (rT (tR (eR ?_)))))
   ·exact Dp (by grind [Ep, Bf, w64]) (by grind [Bf])
  simp only [HS] at h6;refine AC (tN (sG (eK 2 Z (nB (rT (eR ?_))))))
  ·exact Dp (by grind [Ep, Bf, w64]) (by grind [Bf])
 simp only [HS] at h5;refine rG (eK 3 Z (kZ [6,7,8,12] Z (eZ Z (oN (bN (tN (sQ (sG (eZ Z (nB ?_))))))))));refine AB Z (fun h6 => ?_) (fun h6 => ?_)
 ·
  simp only [HS] at h6;refine sG (eK 2 Z (nB (rT (tR (eR ?_)))))
  ·exact Dp (by grind [Ep, Bf, w64]) (by grind [Bf])
 simp only [HS] at h6;refine AC (tN (sG (eK 2 Z (nB (rT (eR ?_))))))
 ·exact Dp (by grind [Ep, Bf, w64]) (by grind [Bf])
open Go.Eng
def exS (p : Prog) (inp : List Int) (L : Lev) (l : List Tok) (s : Sx) : Int × Int × Sx := exprS L.cal (paramsL p) inp l [] s
section
variable {p : Prog} {inp : List Int} {f : Func} {L : Lev} {l : List Tok} {s s1 : Sx} {pv iv fbv fsv : Value} {most dp : Int} {bb : Nat} {k : Int} {pile : List Int}
theorem He (h0 : 0 ≤ k) (h1 : k < l.length) (hr : ∃ r mx, Cw f.vars (paramsL p) (l.drop k.toNat) pile.length mx = some (1, r)) :
  knownT f.vars (paramsL p).length (l[k.toNat]'(by omega)) = true ∧ Ak (paramsL p) (l[k.toNat]'(by omega)) ≤ pile.length ∧ ∃ r mx, Cw f.vars (paramsL p) (l.drop (k + 1).toNat) (pile.length + (1 - Ak (paramsL p) (l[k.toNat]'(by omega)))) mx = some (1, r) := by
 obtain ⟨r, mx, hr⟩ := hr
 rw [DU h0 h1] at hr;split at hr
 ·rename_i h
  rw [QR, decide_eq_true_eq] at h;exact ⟨h.1, h.2, r, _, hr⟩
 ·cases hr
theorem Lw (h1 : (l.length : Int) ≤ k) (hr : ∃ r mx, Cw f.vars (paramsL p) (l.drop k.toNat) pile.length mx = some (1, r)) : pile.length = 1 := by
 obtain ⟨r, mx, hr⟩ := hr
 rw [Av h1, Cw] at hr
 have := (Prod.mk.inj (Option.some.inj hr)).1
 omega
theorem E6 (h0 : 0 ≤ k) (h1 : k < l.length) (hex : exS p inp L l s = exprS L.cal (paramsL p) inp (l.drop k.toNat) pile s1) {h v : Int} {pile' : List Int} {s' : Sx} (ht : EP L.cal (paramsL p) inp (l[k.toNat]'(by omega)) pile s1 = (h, v, pile', s')) (hh : h ≠ 0) : exS p inp L l s = (h, v, s') := by
 rw [hex, Cc h0 h1, exprS, ht]
 simp [hh]
theorem Mi (h1 : (l.length : Int) ≤ k) (hex : exS p inp L l s = exprS L.cal (paramsL p) inp (l.drop k.toNat) pile s1) : exS p inp L l s = (0, (pile[0]?).getD 0, s1) := by
 rw [hex, Av h1, exprS]
variable {t : Tok}
theorem tok_1 (h : t.op = 1) : EP L.cal (paramsL p) inp t pile s1 = (0, 0, pile ++ [t.n], s1) := by rw [EP, if_pos h]
theorem tok_2 (h : t.op = 2) : EP L.cal (paramsL p) inp t pile s1 = (0, 0, pile ++ [atI s1.vars t.n], s1) := by rw [EP, if_neg (by omega), if_pos h]
theorem tok_9 (h : t.op = 9) : EP L.cal (paramsL p) inp t pile s1 = (0, 0, pile ++ [(inS inp s1.m).1], { s1 with m := (inS inp s1.m).2 }) := by rw [EP, if_neg (by omega), if_neg (by omega), if_pos h]
theorem tok_10 (h : t.op = 10) : EP L.cal (paramsL p) inp t pile s1 = (0, 0, pile ++ [(HJ s1.by').1], { s1 with by' := (HJ s1.by').2 }) := by rw [EP, if_neg (by omega), if_neg (by omega), if_neg (by omega), if_pos h]
theorem tok_11 {R : Int × Int × Option By × Ms} (hR : R = L.call t.n (pile.drop (pile.length - (atI (paramsL p) t.n).toNat)) none s1.m) (h : t.op = 11) (h1 : R.1 = 1) : EP L.cal (paramsL p) inp t pile s1 = (0, 0, pile.take (pile.length - (atI (paramsL p) t.n).toNat) ++ [R.2.1], { s1 with m := R.2.2.2 }) := by
 subst hR;rw [EP, if_neg (by omega), if_neg (by omega), if_neg (by omega), if_neg (by omega), if_pos h];dsimp only [Lev.cal];rw [if_pos h1]
theorem Lc {R : Int × Int × Option By × Ms} (hR : R = L.call t.n (pile.drop (pile.length - (atI (paramsL p) t.n).toNat)) none s1.m) (h : t.op = 11) (h1 : ¬ R.1 = 1) : EP L.cal (paramsL p) inp t pile s1 = (R.1, R.2.1, pile, { s1 with m := R.2.2.2 }) := by
 subst hR;rw [EP, if_neg (by omega), if_neg (by omega), if_neg (by omega), if_neg (by omega), if_pos h];dsimp only [Lev.cal];rw [if_neg h1]
theorem tok_r (h1 : ¬ t.op = 1) (h2 : ¬ t.op = 2) (h9 : ¬ t.op = 9) (h10 : ¬ t.op = 10) (h11 : ¬ t.op = 11) (hk : 2 ≤ pile.length) : EP L.cal (paramsL p) inp t pile s1 = match Bf t.op (pile[pile.length - 2]'(by omega)) (pile[pile.length - 1]'(by omega)) with
  | none => (2, -1, pile, s1)
  | some v => (0, 0, pile.take (pile.length - 2) ++ [v], s1) := by
 rw [EP, if_neg h1, if_neg h2, if_neg h9, if_neg h10, if_neg h11, List.getElem?_eq_getElem (by omega), List.getElem?_eq_getElem (by omega)];rfl
theorem tok_r' (h1 : ¬ t.op = 1) (h2 : ¬ t.op = 2) (h9 : ¬ t.op = 9) (h10 : ¬ t.op = 10) (h11 : ¬ t.op = 11) (hk : 2 ≤ pile.length) {i j : Nat} (hi : i = pile.length - 2) (hj : j = pile.length - 1) (hv : (Bf t.op (pile[i]'(by omega)) (pile[j]'(by omega))).isSome = true) : EP L.cal (paramsL p) inp t pile s1 = (0, 0, pile.take i ++ [Ep t.op (pile[i]'(by omega)) (pile[j]'(by omega))], s1) := by
 subst hi hj;rw [tok_r h1 h2 h9 h10 h11 hk, Ep]
 cases h : Bf t.op (pile[pile.length - 2]'(by omega)) (pile[pile.length - 1]'(by omega)) with
 | none => rw [h] at hv; cases hv
 | some v => rfl
theorem Ov (h1 : ¬ t.op = 1) (h2 : ¬ t.op = 2) (h9 : ¬ t.op = 9) (h10 : ¬ t.op = 10) (h11 : ¬ t.op = 11) (hk : 2 ≤ pile.length) {i j : Nat} (hi : i = pile.length - 2) (hj : j = pile.length - 1) (hv : ¬ (Bf t.op (pile[i]'(by omega)) (pile[j]'(by omega))).isSome = true) : EP L.cal (paramsL p) inp t pile s1 = (2, -1, pile, s1) := by
 subst hi hj;rw [tok_r h1 h2 h9 h10 h11 hk]
 cases h : Bf t.op (pile[pile.length - 2]'(by omega)) (pile[pile.length - 1]'(by omega)) with
 | none => rfl
 | some v => rw [h] at hv; exact absurd rfl hv
end
theorem slI {pile : List Int} {Q : Int} {q : Nat} (h0 : 0 ≤ Q) (h1 : Q ≤ pile.length) (hq : q = pile.length - Q.toNat) : ((pile.map T.int).drop (0 + ((pile.length : Int) - Q).toNat)).take ((pile.length : Int).toNat - ((pile.length : Int) - Q).toNat) = (pile.drop q).map T.int := by
 rw [List.map_drop, show 0 + ((pile.length : Int) - Q).toNat = q from by omega, QU (by simp; omega)]
open Go.Eng
def NN (p : Prog) (inp : List Int) (most n : Nat) (L : Lev) : Prop :=
 ∀ (fn : Int) (args : List Int) (b : Option By) (m : Ms) (bm bb : Nat) (q : Kp) (pv iv : Value) (xv : List Value) (xt : List T), 0 ≤ fn → fn < p.funcs.length → args.length = (atI (paramsL p) fn).toNat → m.used ≤ inp.length → m.deep ≤ most → m.fuel ≤ n → m.fuel ≤ 1048576 → m.trace.length + m.fuel ≤ 1048576 →
  Proc Try.prog 65 [.t (.v (.pointer (some ⟨bm, 0, none⟩))), .t (.int fn), .t (T.ints args), .t (.v (byP bb b))] (pv :: iv :: xv) (T.Funcs p.funcs :: T.ints inp :: xt)
   [byK bb q b, .obox (.pointer (some ⟨bm, 0, none⟩)) (rS pv iv most m.fuel 0 m)]
   (.tup [.t (.int (haH (L.call fn args b m).1)), .t (.int (L.call fn args b m).2.1)])
   [.obox (byP bb b) (gC q.fn q.vars q.off q.res (hH (L.call fn args b m).2.2.1) (nH (L.call fn args b m).2.2.1) (xH (L.call fn args b m).2.2.1) q.bp), .obox (.pointer (some ⟨bm, 0, none⟩)) (rS pv iv most (fuH (L.call fn args b m).1 (L.call fn args b m).2.2.2) (coH (L.call fn args b m).1) (L.call fn args b m).2.2.2)]
def ExI (p : Prog) (inp : List Int) (f : Func) (L : Lev) (l : List Tok) (s : Sx) (pv iv bp : Value) (q : Kp) (bpv : Value) (most fn : Int) (k : Int) (m : Nat) (ws : List T) (b1 b2 b3 : Blk) : Prop :=
 ∃ (pile : List Int) (s1 : Sx), 0 ≤ k ∧ k ≤ l.length ∧ Sx.to p inp f 0 s s1 ∧ exS p inp L l s = exprS L.cal (paramsL p) inp (l.drop k.toNat) pile s1 ∧ (∃ r mx, Cw f.vars (paramsL p) (l.drop k.toNat) pile.length mx = some (1, r)) ∧ (pile.length : Int) ≤ k ∧
  m = pile.length ∧ ws = pile.map T.int ∧ b1 = .box (rS pv iv most s1.m.fuel 0 s1.m) ∧ b2 = .box (gC fn s1.vars s1.off s1.res 0 0 false bp) ∧ b3 = .obox bpv (gC q.fn q.vars q.off q.res (hH s1.by') (nH s1.by') (xH s1.by') q.bp)
section
variable {p : Prog} {inp : List Int} {f : Func} {L : Lev} {l : List Tok} {s s1 : Sx} {pv iv bp bpv : Value} {most fn : Int} {q : Kp} {k : Int} {pile : List Int}
theorem ExI.next (hL : Ee p inp L) (hg : AZ p = true) (h0 : 0 ≤ k) (h1 : k < l.length) (hto : Sx.to p inp f 0 s s1) (hex : exS p inp L l s = exprS L.cal (paramsL p) inp (l.drop k.toNat) pile s1) (hr : ∃ r mx, Cw f.vars (paramsL p) (l.drop k.toNat) pile.length mx = some (1, r)) (hpl : (pile.length : Int) ≤ k)
  {pile' : List Int} {s' : Sx} {v : Int} (ht : EP L.cal (paramsL p) inp (l[k.toNat]'(by omega)) pile s1 = (0, v, pile', s')) {k' : Int} (hk : k' = k + 1) {m : Nat} {ws : List T} {b1 b2 b3 : Blk}
  (e1 : m = pile'.length) (e2 : ws = pile'.map T.int) (e3 : b1 = .box (rS pv iv most s'.m.fuel 0 s'.m)) (e4 : b2 = .box (gC fn s'.vars s'.off s'.res 0 0 false bp)) (e5 : b3 = .obox bpv (gC q.fn q.vars q.off q.res (hH s'.by') (nH s'.by') (xH s'.by') q.bp)) :
  ExI p inp f L l s pv iv bp q bpv most fn k' m ws b1 b2 b3 := by
 subst hk
 obtain ⟨g1, g2, r, mx, g3⟩ := He h0 h1 hr
 obtain ⟨q1, q2⟩ := Iz hL hg hto.ok g1 g2
 rw [ht] at q1 q2;dsimp only at q1 q2
 have q2 := q2 rfl
 have hps := Ci (G2 hg) (l[k.toNat]'(by omega))
 refine ⟨pile', s', by omega, by omega, hto.trans q1 (by omega), ?_, ⟨r, mx, by rw [q2]; exact g3⟩, by omega, e1, e2, e3, e4, e5⟩;rw [hex, Cc h0 h1, exprS, ht];rfl
theorem Pp {h : Int} (e : haH h = 1) : h = 1 := by unfold haH at e; split at e <;> omega
theorem O6 {h : Int} (e : ¬ haH h = 1) : ¬ h = 1 := by intro h; subst h; exact e rfl
theorem IU {h : Int} (e : h < 4) (m : Ms) : fuH h m = m.fuel := by unfold fuH; rw [if_neg (by omega)]
theorem IY {h : Int} (e : h < 4) : coH h = 0 := by unfold coH; rw [if_neg (by omega)]
theorem Po {h : Int} (e : h < 4) : haH h = h := by unfold haH; rw [if_neg (by omega)]
end
theorem Proc.argLi {F : Nat} {a b e : D} {zs : List T} {ys : List Int} {rv : List Value} {rt : List T} {ks ks' : List Blk} {r : D} (h : zs = ys.map T.int) (hp : Proc Try.prog F [a, b, .t (T.ints ys), e] rv rt ks r ks') : Proc Try.prog F [a, b, .t (.list 1 zs), e] rv rt ks r ks' := by
 subst h; exact hp
theorem Ev {a a' b b' : Int} (h1 : a = a') (h2 : b = b') : Aw [D.t (T.v (Value.int .i64 a)), D.t (T.v (Value.int .i64 b))] = D.tup [D.t (T.int a'), D.t (T.int b')] := by rw [h1, h2]; rfl
theorem Mh (p : Prog) (inp : List Int) (most n : Nat) (L : Lev) (hL : Ee p inp L) (hC : NN p inp most n L) (hg : AZ p = true) (hp : p.ok 1048576) (hi : inp.length ≤ 1048576) (f : Func) (hf : f ∈ p.funcs) (fn : Int) (l : List Tok) (hl : l.length ≤ 12) (hr : ∃ r, Cw f.vars (paramsL p) l 0 0 = some (1, r)) (s : Sx) (hs : s.ok p inp f) (hn : s.m.fuel ≤ n) (hn2 : s.m.fuel ≤ 1048576) (hti : s.m.trace.length + s.m.fuel ≤ 1048576) (hdm : s.m.deep ≤ most) (hmost : most ≤ 1048576) (bm bc bb : Nat) (q : Kp) (pv iv : Value) (xv : List Value) (xt : List T) : Proc Try.prog 118 [.t (.v (.pointer (some ⟨bm, 0, none⟩))), .t (.v (.pointer (some ⟨bc, 0, none⟩))), .t (T.Toks l)] ((pv :: iv :: xv)) ((T.Funcs p.funcs :: T.ints inp :: xt)) [.obox (.pointer (some ⟨bm, 0, none⟩)) (rS pv iv most s.m.fuel 0 s.m), .obox (.pointer (some ⟨bc, 0, none⟩)) (gC fn s.vars s.off s.res 0 0 false (byP bb s.by')), byK bb q s.by'] (.tup [.t (.int (exS p inp L l s).2.1), .t (.int (haH (exS p inp L l s).1))]) [.obox (.pointer (some ⟨bm, 0, none⟩)) (rS pv iv most (fuH (exS p inp L l s).1 (exS p inp L l s).2.2.m) (coH (exS p inp L l s).1) (exS p inp L l s).2.2.m), .obox (.pointer (some ⟨bc, 0, none⟩)) (gC fn (exS p inp L l s).2.2.vars (exS p inp L l s).2.2.off (exS p inp L l s).2.2.res 0 0 false (byP bb s.by')), .obox (byP bb s.by') (gC q.fn q.vars q.off q.res (hH (exS p inp L l s).2.2.by') (nH (exS p inp L l s).2.2.by') (xH (exS p inp L l s).2.2.by') q.bp)] := by
 have hgp := BZ hg
 have hgv := CK hg hf
 refine Proc.intro tys Try.func118 Z Z (N := 142) [100, 101, 102] 99 ([(0, .t (.v (.pointer (some ⟨bm, 0, none⟩)))), (1, .t (.v (.pointer (some ⟨bc, 0, none⟩)))), (2, .t (T.Toks l))]) ([(100, .obox (.pointer (some ⟨bm, 0, none⟩)) (rS pv iv most s.m.fuel 0 s.m)), (101, .obox (.pointer (some ⟨bc, 0, none⟩)) (gC fn s.vars s.off s.res 0 0 false (byP bb s.by'))), (102, byK bb q s.by'), (99, .ro (pv :: iv :: xv) (T.Funcs p.funcs :: T.ints inp :: xt))]) Z Z Z Z (by decide) (by decide) Z (fun w0 G F0 => ?_);refine nY Z (AO (Le.openNew (u := 100) 1100 Z Z Z Z Z) (nY Z (AO (Le.named (t := 0) (u := 100) 1100 Z Z) (nY Z (AO (Le.openNew (u := 101) 1101 Z Z Z Z Z) (nY Z (AO (Le.named (t := 1) (u := 101) 1101 Z Z) (nY Z (sG (eK 2 Z (nA (eZ Z (WO_le (Le.nilOwn (u := 8) 1 Z) (WO_le (Le.adoptE (u := 8) 8 Z Z) (nZ Z ?_)))))))))))))));refine nB (sQ (sG (eZ Z (evE ?_))));refine eZ Z (nB (AD ?_));refine lK (α := Int × Nat × List T × Blk × Blk × Blk) [0, 1, 18, 19] [99, 1100, 1101] (fun x => [(20, .t (.int (x.1))), (8, .sl 8 0 (x.2.1))]) (fun x => [(8, .L 1 (x.2.2.1)), (100, (x.2.2.2.1)), (101, (x.2.2.2.2.1)), (102, (x.2.2.2.2.2))]) (fun x => ExI p inp f L l s pv iv (byP bb s.by') q (byP bb s.by') most fn (x.1) (x.2.1) (x.2.2.1) (x.2.2.2.1) (x.2.2.2.2.1) (x.2.2.2.2.2)) (fun x => Int.toNat (l.length - (x.1))) (0, 0, [], .box (rS pv iv most s.m.fuel 0 s.m), .box (gC fn s.vars s.off s.res 0 0 false (byP bb s.by')), .obox (byP bb s.by') (gC q.fn q.vars q.off q.res (hH s.by') (nH s.by') (xH s.by') q.bp)) ?_ (fun x hx => ?_)
 ·exact ⟨[], s, by omega, by omega, Sx.to.refl hs (by omega) (by omega), rfl, hr.imp fun r h => ⟨0, h⟩, by simp, rfl, rfl, rfl, rfl, rfl⟩
 obtain ⟨k, m, ws, b1, b2, b3⟩ := x
 obtain ⟨pile, s1, hk0, hk1, hto, hex, hrun, hpl, hm, hws, hb1, hb2, hb3⟩ := hx
 dsimp only at hk0 hk1 hto hex hrun hpl hm hws hb1 hb2 hb3 ⊢;subst hm hws hb1 hb2 hb3;refine nY Z (sG (eZ Z (nB (sQ ?_))));refine AB Z (fun h1 => ?_) (fun h1 => ?_)
 ·
  simp only [HS] at h1;refine AC (tN (sQ (AD (sG ?_))))
  have hkl : k < l.length := by omega
  obtain ⟨hkn, hnd, hrun2⟩ := He hk0 hkl hrun
  have hpl12 : pile.length ≤ 12 := by omega
  have hfu : s1.m.fuel ≤ s.m.fuel := hto.le.1
  have hft : s1.m.trace.length + s1.m.fuel ≤ s.m.trace.length + s.m.fuel := hto.le.2.1
  have hus : s1.m.used ≤ inp.length := hto.le.2.2
  have hdp : s1.m.deep = s.m.deep := hto.deep (by omega)
  have hvl : s1.vars.length = f.vars.toNat := hto.ok.vars
  refine iY (k := ?_);refine eZ Z ?_
  try refine WO_le (Le.freeze (u := 23) rfl) ?_
  refine nZ Z (AJ tys Z Z (AA Z) Z Z Z (nZ Z (sT Z (nZ Z (nA (eZ Z (nB (sQ (sG (eK 2 Z (nB (AD (sQ (kY [0,1,8,10,11,18,19,20,21,22,23,24,25] Z (rG ?_)))))))))))))));refine eK 2 Z (nB ?_);refine AB Z (fun h2 => ?_) (fun h2 => ?_)
  ·
   simp only [HS] at h2;refine rG (eK 3 Z (oN (bN (tN ?_))))
   skip
   refine rG (eK 2 Z (bZ [T.v _] ?_));refine nZ Z (AF tys Z Z (AA Z) Z Z Z Z Z (.own Z (by first | omega | (simp; done) | (simp; omega))) Z (.own Z (by simp)) (by decide) (by simp; omega) (by decide) Z ?_);refine nZ Z (kZ [0,1,8,10,11,18,19,20,21,22,23,24,25,50,51,52,53,134,135,136,137] Z (eZ Z (oN (bN (tN (rG (evI ?_)))))));refine eZ Z (oN ?_);refine lQ (_, _, _, _, _, _) ?_ ?_
   ·dsimp only
    first
    | exact ExI.next hL hg hk0 (by omega) hto hex hrun hpl (tok_1 (by assumption)) rfl (by simp) (by simp [QU]) rfl rfl rfl
   ·(show Int.toNat _ < Int.toNat _); omega
  simp only [HS] at h2;refine sG (eK 2 Z (nB ?_));refine AB Z (fun h3 => ?_) (fun h3 => ?_)
  ·
   simp only [HS] at h3
   have hk2 : 0 ≤ (l[k.toNat]'(by omega)).n ∧ (l[k.toNat]'(by omega)).n < f.vars := by have h2 : (l[k.toNat]'(by omega)).op = 2 := (by assumption); simp [knownT, h2] at hkn; exact hkn
   refine AO (Le.adoptBox (u := 101) (j := 1) (id := 191) Z Z Z) (nY Z (Am BO (by kernel_rfl) (evQ ?_)));refine Az rfl Z (AA Z) Z Z Z (AR Z (evQ ?_));refine evQ ?_;refine evQ ?_;refine evQ ?_;refine Fz tys Z Z (AA Z) Z Z Z Z Z Z Z Z hk2.1 (by rw [QT, hvl]; omega) ?_;refine E9 tys Z Z (AA Z) Z Z Z Z (Dc _ _ hk2.1 (by rw [hvl]; omega)) Z ?_;refine AR Z (evQ ?_);refine BF (bN (tN ?_))
   (refine AO (Le.gatherBox (u := 101) (j := 1) (id := 191) rfl rfl rfl (by simp) rfl) ?_; refine Ae rfl ?_)
   refine rG (eK 2 Z (bZ [T.v _] ?_));refine nZ Z (AF tys Z Z (AA Z) Z Z Z Z Z (.own Z (by first | omega | (simp; done) | (simp; omega))) Z (.own Z (by simp)) (by decide) (by simp; omega) (by decide) Z ?_);refine nZ Z (eZ Z (oN (bN (tN (rG (evI ?_))))));refine eZ Z (oN ?_);refine lQ (_, _, _, _, _, _) ?_ ?_
   ·dsimp only
    first
    | exact ExI.next hL hg hk0 (by omega) hto hex hrun hpl (tok_2 (by assumption)) rfl (by simp) (by rw [Bc hk2.1 (by omega)]; simp [QU]) rfl (by simp [gC, QU, T.ints]) rfl
   ·(show Int.toNat _ < Int.toNat _); omega
  simp only [HS] at h3;refine sG (eK 2 Z (nB ?_));refine AB Z (fun h4 => ?_) (fun h4 => ?_)
  ·
   simp only [HS] at h4;refine sQ (Am BO (by kernel_rfl) (evQ ?_));refine AR Z (Az rfl Z (AA Z) Z Z Z (evQ ?_));refine evQ ?_;refine evQ ?_;refine evQ ?_;refine Az rfl Z (AA Z) Z Z Z (AR Z (evQ ?_));refine Cr tys 99 1 Z Z (AA Z) Z Z Z Z (evEQ ?_);refine evQ ?_;refine BF (tN ?_);refine AB Z (fun h5 => ?_) (fun h5 => ?_)
   ·
    simp only [HS] at h5;refine sQ (Am BO (by kernel_rfl) (evQ ?_));refine Az rfl Z (AA Z) Z Z Z (AR Z (evQ ?_));refine Cr tys 99 1 Z Z (AA Z) Z Z Z Z (evQ ?_);refine Az rfl Z (AA Z) Z Z Z (evQ ?_);refine evQ ?_;refine AR Z (evQ ?_);refine CO tys Z Z (AA Z) Z Z Z Z Z Z Z (by omega) _ (G3 _ _ (by omega) (by omega)) (evQ ?_);refine evQ ?_;refine BF (tN (rG (eZ Z (AE rfl Z (AA Z) Z Z Z (eK 3 Z (kZ [0,1,8,10,11,18,19,20,21,22,23,24,25,50,51,54,55,64,65,66,67,68,69,70,71,72,73,74,75,76,77,78,79,80,81,82,83,84,85,86,87,88,89,90,91,92] Z (evI ?_)))))));refine AE rfl Z (AA Z) Z Z Z (eK 2 Z (sT Z (nZ Z (oN (bN (tN ?_))))))
    skip
    refine rG (eK 2 Z (bZ [T.v _] ?_));refine nZ Z (AF tys Z Z (AA Z) Z Z Z Z Z (.own Z (by first | omega | (simp; done) | (simp; omega))) Z (.own Z (by simp)) (by decide) (by simp; omega) (by decide) Z ?_);refine nZ Z (kZ [0,1,8,10,11,18,19,20,21,22,23,24,25,50,51,54,55,64,65,66,67,68,69,70,71,72,73,74,75,76,77,78,79,80,81,82,83,84,85,86,87,88,89,90,91,92,93,94,95,96,134,135,136,137] Z (eZ Z (oN (bN (tN (rG (evI ?_)))))));refine eZ Z (oN ?_);refine lQ (_, _, _, _, _, _) ?_ ?_
    ·dsimp only
     first
     | exact ExI.next hL hg hk0 (by omega) hto hex hrun hpl (tok_9 (by assumption)) rfl (by simp) (by rw [inS, if_pos (by omega), List.getElem?_eq_getElem (by omega)]; simp [QU]) (by rw [inS, if_pos (by omega)]; rfl) rfl rfl
    ·(show Int.toNat _ < Int.toNat _); omega
   simp only [HS] at h5;refine AC (bN (tN ?_))
   skip
   refine rG (eK 2 Z (bZ [T.v _] ?_));refine nZ Z (AF tys Z Z (AA Z) Z Z Z Z Z (.own Z (by first | omega | (simp; done) | (simp; omega))) Z (.own Z (by simp)) (by decide) (by simp; omega) (by decide) Z ?_);refine nZ Z (eZ Z (kZ [0,1,8,10,11,18,19,20,21,22,23,24,25,50,51,54,55,64,65,66,67,68,69,70,71,72,73,74,75,76,134,135,136,137] Z (oN (bN (tN (rG (evI ?_)))))));refine eZ Z (oN ?_);refine lQ (_, _, _, _, _, _) ?_ ?_
   ·dsimp only
    first
    | exact ExI.next hL hg hk0 (by omega) hto hex hrun hpl (tok_9 (by assumption)) rfl (by simp) (by rw [inS, if_neg (by omega)]; simp [QU]) (by rw [inS, if_neg (by omega)]; rfl) rfl rfl
   ·(show Int.toNat _ < Int.toNat _); omega
  simp only [HS] at h4;refine sG (eK 2 Z (nB ?_));refine AB Z (fun h5 => ?_) (fun h5 => ?_)
  ·
   simp only [HS] at h5;refine kY [0,1,8,10,11,18,19,20,21,22,23,24,25,50,51,54,55,64,65,97,98] Z (rG ?_)
   have hrec := Ns bc bb q s1.by' fn s1.vars s1.off s1.res 0 0 false (pv :: iv :: xv) (T.Funcs p.funcs :: T.ints inp :: xt)
   unfold byK at hrec;rw [Fn (bb := bb) (Ho s1.by'), Fn (bb := bb) hto.by'] at hrec;refine eZ Z (WO_le (Le.close (u := 101) 1101 Z Z Z) (nZ Z ?_));refine cP [101,102] (hm := (hrec)) (k := ?_);refine nZ Z (WO_le (Le.open (u := 101) 1101 Z Z Z Z) (nZ Z (eZ Z (oN (bN (tN ?_))))))
   skip
   refine rG (eK 2 Z (bZ [T.v _] ?_));refine nZ Z (AF tys Z Z (AA Z) Z Z Z Z Z (.own Z (by first | omega | (simp; done) | (simp; omega))) Z (.own Z (by simp)) (by decide) (by simp; omega) (by decide) Z ?_);refine nZ Z (eZ Z (oN (bN (tN (kY [0,1,8,10,11,18,19,20,21,22,23,24,25,50,51,54,55,64,65,97,98,99,100,134,135,136,137] Z (rG (evI ?_)))))));refine eZ Z (oN ?_);refine lQ (_, _, _, _, _, _) ?_ ?_
   ·dsimp only
    first
    | exact ExI.next hL hg hk0 (by omega) hto hex hrun hpl (tok_10 (by assumption)) rfl (by simp) (by simp [QU]) rfl rfl rfl
   ·(show Int.toNat _ < Int.toNat _); omega
  simp only [HS] at h5;refine sQ (kY [0,1,8,10,11,18,19,20,21,22,23,24,25,50,51,54,55,64,65,97,98] Z (rG (eK 2 Z (nB ?_))));refine AB Z (fun h6 => ?_) (fun h6 => ?_)
  ·
   simp only [HS] at h6;refine sQ ?_
   have h11 : (l[k.toNat]'(by omega)).op = 11 := by assumption
   have hk11 := CY hkn h11
   rw [BN] at hk11
   have hfu11 := BP hk11.1 hk11.2
   have hpb := JU (G2 hg) (l[k.toNat]'(by omega)).n
   have hnd11 : atI (paramsL p) (l[k.toNat]'(by omega)).n ≤ pile.length := by have := hnd; rw [Ak, if_neg (by omega), if_pos h11] at this; exact this
   refine Am BO (by kernel_rfl) (evQ ?_);refine evEQ ?_;refine evQ ?_;refine Az rfl Z (AA Z) Z Z Z (AR Z (evQ ?_));refine evQ ?_;refine Cr tys 99 0 Z Z (AA Z) Z Z Z Z (evQ ?_);refine evQ ?_;refine CO tys Z Z (AA Z) Z Z Z Z Z Z Z hk11.1 _ (G3 _ _ hk11.1 hk11.2) (AR Z (evQ ?_));refine evQ ?_;refine evIQ ?_;refine evQ ?_;refine BF (tN (sQ ?_))
   obtain ⟨R, hR⟩ : ∃ R, R = L.call (l[k.toNat]'(by omega)).n (pile.drop (pile.length - (atI (paramsL p) (l[k.toNat]'(by omega)).n).toNat)) none s1.m := ⟨_, rfl⟩
   have hcl11 := hL.call (l[k.toNat]'(by omega)).n (pile.drop (pile.length - (atI (paramsL p) (l[k.toNat]'(by omega)).n).toNat)) none s1.m hk11.1 hk11.2 (by rw [RE]; omega) hto.ok.used
   have hCa := hC (l[k.toNat]'(by omega)).n (pile.drop (pile.length - (atI (paramsL p) (l[k.toNat]'(by omega)).n).toNat)) none s1.m bm 0 ⟨0, [], [], 0, .pointer none⟩ pv iv xv xt hk11.1 hk11.2 (by rw [RE]; omega) hto.ok.used (by omega) (by omega) (by omega) (by omega)
   rw [← hR] at hcl11 hCa;refine AO (Le.close (u := 100) 1100 Z Z Z) (nY Z (AO (Le.noBox 150 (gC 0 [] [] 0 0 0 false (.pointer none)) Z) (nY Z (Bd [[], [], [], [], [], [], [], [], [], [], [], []] BO (by kernel_rfl) (AY (QG_ev tys Z Z (AA Z) Z (AG (AY (QG_ev tys Z Z (AA Z) Z (AG (AY (QG_ev tys Z Z (AA Z) Z (AG (AY (QG_ev tys Z Z (AA Z) Z ?_)))))))))))))));refine AG (Ah Z (AY (QG_ev tys Z Z (AA Z) Z (AG (DS (NK tys Z Z (AA Z) Z Z Z Z Z Z Z Z Z (by omega) (by omega) (by omega) (AG ?_)))))));refine Ca (rid := 99) [150, 100] Z Z (AA Z) Z Z (by repeat (first | exact ResP.done | refine ResP.pin0 1150 Z ?_ | refine ResP.pin0 1100 Z ?_ | refine ResP.t ?_ | refine ResP.nil 1 ?_ | refine ResP.nil' ?_ | refine ResP.own ?_ | refine ResP.sl Z Z (by first | omega | (simp; omega)) ?_ | refine ResP.aggT (by repeat (first | exact ResP.done | refine ResP.t ?_)) ?_)) Z (by repeat (first | exact trivial | refine ⟨rfl, rfl, ?_⟩)) (by decide) (Proc.argLi (slI (q := pile.length - (atI (paramsL p) (l[k.toNat]'(by omega)).n).toNat) (by omega) (by omega) (by omega)) hCa) Z Z Z ?_;refine AY (QG_ev tys Z Z (AA Z) Z (AG (Ah Z (AY (QG_ev tys Z Z (AA Z) Z (AG (AY (QG_ev tys Z Z (AA Z) Z (AG (AY (QG_ev tys Z Z (AA Z) Z (AG (AY (QG_ev tys Z Z (AA Z) Z (AG ?_)))))))))))))));refine Ah Z (EL ?_);refine ⟨by kernel_rfl, ?_⟩;refine nZ Z (WO_le (Le.open (u := 100) 1100 Z Z Z Z) (nZ Z (nB (sQ (sG (eK 2 Z (nB ?_)))))));refine AB Z (fun h7 => ?_) (fun h7 => ?_)
   ·
    simp only [HS] at h7;refine sG (eK 4 Z (nB (AO (Le.close (u := 100) 1100 Z Z Z) (nY Z (AO (Le.close (u := 101) 1101 Z Z Z) (nY Z (rT (tR (bR (tR (bR (tR (AN (bR (tR ?_)))))))))))))));refine eP [_, _, _] ?_ ?_
    ·(have he := E6 hk0 hkl hex (Lc hR (by assumption) (O6 (by assumption))) (by have := hcl11.h1; omega); exact Ev (by rw [he]) (by rw [he]))
    ·(have he := E6 hk0 hkl hex (Lc hR (by assumption) (O6 (by assumption))) (by have := hcl11.h1; omega); rw [he]; rfl)
   simp only [HS] at h7;refine AC (tN (rG (eK 2 Z (DF tys Z Z (AA Z) Z Z Z Z Z Z Z Z Z (by omega) (by omega) (by omega) (eK 3 Z (oN (bN (tN ?_))))))))
   skip
   refine kY [0,1,8,10,11,12,13,14,18,19,20,21,22,23,24,25,50,51,54,55,64,65,97,98,101,102,103,104,105,106,107,108,109,110,111,112,113,114,115,116,117,118,119,120,121,122,123,124,125,126,127,130,131,132,133] Z (rG (eK 2 Z (bZ [T.v _] ?_)));refine nZ Z (AF tys Z Z (AA Z) Z Z Z Z Z (.own Z (by first | omega | (simp; done) | (simp; omega))) Z (.own Z (by simp)) (by decide) (by simp; omega) (by decide) Z ?_);refine nZ Z (eZ Z (oN (bN (tN (rG (evI ?_))))));refine eZ Z (oN ?_);refine lQ (_, _, _, _, _, _) ?_ ?_
   ·dsimp only
    first
    | exact ExI.next hL hg hk0 (by omega) hto hex hrun hpl (tok_11 hR (by assumption) (Pp (by assumption))) rfl (by simp; omega) (by simp [QU]; omega) (by have e := Pp (by assumption); rw [IU (by omega), IY (by omega)]; rfl) rfl rfl
   ·(show Int.toNat _ < Int.toNat _); omega
  simp only [HS] at h6;refine sQ ?_
  have hk3 : 3 ≤ (l[k.toNat]'(by omega)).op ∧ (l[k.toNat]'(by omega)).op ≤ 8 := by have := hkn; unfold knownT at this; rw [if_neg (by assumption), if_neg (by assumption), if_neg (by assumption)] at this; simp only [QR, decide_eq_true_eq] at this; omega
  have hp2 : 2 ≤ pile.length := by have := hnd; rw [Ak, if_pos hk3] at this; omega
  refine rG (eZ Z (evE ?_));refine evI ?_;refine eZ Z (nB (sQ (Am BO (by kernel_rfl) (evQ ?_))));refine AR Z (evQ ?_);refine evQ ?_;refine evQ ?_;refine Fz tys Z Z (AA Z) Z Z Z Z Z Z Z Z (by omega) (by omega) (E9 tys Z Z (AA Z) Z Z Z Z (Dc _ _ (by omega) (by omega)) Z (evQ ?_));refine AR Z (evQ ?_);refine evIQ ?_;refine Fz tys Z Z (AA Z) Z Z Z Z Z Z Z Z (by omega) (by omega) (E9 tys Z Z (AA Z) Z Z Z Z (Dc _ _ (by omega) (by omega)) Z (Gh ?_));refine ⟨_, L3 _ _ _, rfl, ?_⟩;refine evQ ?_;refine AR Z (evQ ?_);refine evQ ?_;refine evQ ?_;refine evQ ?_;refine BF (tN (sQ (sG (eK 2 Z (nB ?_)))));refine AB Z (fun h7 => ?_) (fun h7 => ?_)
  ·
   simp only [HS] at h7;refine sG (eK 2 Z (nB (AO (Le.close (u := 100) 1100 Z Z Z) (nY Z (AO (Le.close (u := 101) 1101 Z Z Z) (nY Z (rT (tR (bR (tR (bR (tR (AN (bR (tR ?_)))))))))))))));refine eP [_, _, _] ?_ ?_
   ·(have he := E6 hk0 hkl hex (Ov (by assumption) (by assumption) (by assumption) (by assumption) (by assumption) (i := ((pile.length : Int) - 2).toNat) (j := ((pile.length : Int) - 2 + 1).toNat) (by omega) (by omega) (by omega) (by first | assumption | simp_all)) (by decide); exact Ev (by rw [he]) (by rw [he]; rfl))
   ·(have he := E6 hk0 hkl hex (Ov (by assumption) (by assumption) (by assumption) (by assumption) (by assumption) (i := ((pile.length : Int) - 2).toNat) (j := ((pile.length : Int) - 2 + 1).toNat) (by omega) (by omega) (by omega) (by first | assumption | simp_all)) (by decide); rw [he]; rfl)
  simp only [HS] at h7;refine AC (tN (rG (eK 2 Z (DF tys Z Z (AA Z) Z Z Z Z Z Z Z Z Z (by omega) (by omega) (by omega) (kZ [0,1,8,10,11,15,16,17,18,19,20,21,22,23,24,25,26,27,28,29,30,31,32,33,34,35,36,37,38,39,40,41,42,43,44,45,46,47,48,50,51,54,55,64,65,97,98,101,102] Z (eK 3 Z (oN (bN (tN ?_)))))))))
  skip
  refine rG (eK 2 Z (bZ [T.v _] ?_));refine nZ Z (AF tys Z Z (AA Z) Z Z Z Z Z (.own Z (by first | omega | (simp; done) | (simp; omega))) Z (.own Z (by simp)) (by decide) (by simp; omega) (by decide) Z ?_);refine nZ Z (eZ Z (oN (bN (tN (kY [0,1,8,10,11,15,16,17,18,19,20,21,22,23,24,25,26,27,28,29,30,31,32,33,34,35,36,37,38,39,40,41,42,43,44,45,46,47,48,49,50,51,54,55,64,65,97,98,101,102,134,135,136,137] Z (rG (evI ?_)))))));refine eZ Z (oN ?_);refine lQ (_, _, _, _, _, _) ?_ ?_
  ·dsimp only
   first
   | exact ExI.next hL hg hk0 (by omega) hto hex hrun hpl (tok_r' (by assumption) (by assumption) (by assumption) (by assumption) (by assumption) (i := ((pile.length : Int) - 2).toNat) (j := ((pile.length : Int) - 2 + 1).toNat) (by omega) (by omega) (by omega) (by first | assumption | simp_all)) rfl (by simp) (by simp [QU]) rfl rfl rfl
  ·(show Int.toNat _ < Int.toNat _); omega
 simp only [HS] at h1;refine AP (tE (AM (AK (tN (sQ ?_)))))
 have hpl1 := Lw (by omega) hrun
 refine rG (eZ Z (Ag tys Z Z (AA Z) Z Z Z Z Z Z Z Z (by omega) (by omega) (AV tys Z Z (AA Z) Z Z Z Z (Dc _ _ (by omega) (by omega)) Z (eK 2 Z (nB (AO (Le.close (u := 100) 1100 Z Z Z) (nY Z (AO (Le.close (u := 101) 1101 Z Z Z) (nY Z (rT ?_))))))))));refine eP [_, _, _] ?_ ?_
 ·(have he := Mi (by omega) hex; exact Ev (by rw [he, List.getElem?_eq_getElem (by omega)]; rfl) (by rw [he]; rfl))
 ·(have he := Mi (by omega) hex; rw [he]; rfl)
open Go.Eng
def blS (L : Lev) (f : Func) (b : List Int) (s : Sx) : Int × Int × Sx := blockS (L.stmt f) f b s
def BlInv (p : Prog) (inp : List Int) (f : Func) (L : Lev) (b : List Int) (s : Sx) (pv iv fbv fsv : Value) (most dp : Int) (bm bb : Nat) (k : Int) (b1 b2 b3 : Blk) : Prop :=
 ∃ (s1 : Sx), 0 ≤ k ∧ k ≤ b.length ∧ Sx.to p inp f 0 s s1 ∧ blS L f b s = blockS (L.stmt f) f (b.drop k.toNat) s1 ∧
  b1 = .obox (.pointer (some ⟨bm, 0, none⟩)) (mS pv iv most s1.m) ∧ b2 = .box (cS f fbv fsv s1.vars s1.off s1.res dp bb) ∧ b3 = .obox (.pointer (some ⟨bb, 0, none⟩)) (bS s1.by')
section
variable {p : Prog} {inp : List Int} {f : Func} {L : Lev} {b : List Int} {s s1 : Sx} {pv iv fbv fsv : Value} {most dp : Int} {bm bb : Nat} {k : Int} {R : Int × Int × Sx}
theorem BlInv.next (h0 : 0 ≤ k) (h1 : k < b.length) (hto : Sx.to p inp f 0 s s1) (hex : blS L f b s = blockS (L.stmt f) f (b.drop k.toNat) s1) (hR : R = L.stmt f (BU f (b[k.toNat]'(by omega))) s1) (hok : Sx.to p inp f R.1 s1 R.2.2) (hz : R.1 = 0) {k' : Int} (hk : k' = k + 1) {b1 b2 b3 : Blk}
  (e3 : b1 = .obox (.pointer (some ⟨bm, 0, none⟩)) (mS pv iv most R.2.2.m)) (e4 : b2 = .box (cS f fbv fsv R.2.2.vars R.2.2.off R.2.2.res dp bb)) (e5 : b3 = .obox (.pointer (some ⟨bb, 0, none⟩)) (bS R.2.2.by')) :
  BlInv p inp f L b s pv iv fbv fsv most dp bm bb k' b1 b2 b3 := by
 subst hk;rw [hz] at hok;refine ⟨R.2.2, by omega, by omega, hto.trans hok (by omega), ?_, e3, e4, e5⟩;rw [hex, Cc h0 h1, blockS];rw [← hR, if_pos hz]
theorem Mz (h0 : 0 ≤ k) (h1 : k < b.length) (hex : blS L f b s = blockS (L.stmt f) f (b.drop k.toNat) s1) (hR : R = L.stmt f (BU f (b[k.toNat]'(by omega))) s1) (hz : ¬ R.1 = 0) : blS L f b s = R := by
 rw [hex, Cc h0 h1, blockS];rw [← hR, if_neg hz]
theorem PB (h1 : (b.length : Int) ≤ k) (hex : blS L f b s = blockS (L.stmt f) f (b.drop k.toNat) s1) : blS L f b s = (0, 0, s1) := by
 rw [hex, Av h1, blockS]
end
open Go.Eng
def NF (p : Prog) (inp : List Int) (most n : Nat) (L : Lev) : Prop :=
 ∀ (fn : Int) (f : Func) (t : Stmt) (s : Sx) (bm bc bb : Nat) (q : Kp) (pv iv : Value) (xv : List Value) (xt : List T), 0 ≤ fn → fn < p.funcs.length → f = funcAt p fn → t ∈ f.stmts → s.ok p inp f → s.m.fuel ≤ n → s.m.fuel ≤ 1048576 → s.m.trace.length + s.m.fuel ≤ 1048576 → s.off.length + s.m.fuel ≤ 1048576 → s.m.deep ≤ most →
  Proc Try.prog 112 [.t (.v (.pointer (some ⟨bm, 0, none⟩))), .t (.v (.pointer (some ⟨bc, 0, none⟩))), .t t.tt] (pv :: iv :: xv) (T.Funcs p.funcs :: T.ints inp :: xt)
   [.obox (.pointer (some ⟨bm, 0, none⟩)) (rS pv iv most s.m.fuel 0 s.m), .obox (.pointer (some ⟨bc, 0, none⟩)) (gC fn s.vars s.off s.res 0 0 false (byP bb s.by')), byK bb q s.by']
   (.tup [.t (.int (haH (L.stmt f t s).1)), .t (.int (L.stmt f t s).2.1)])
   [.obox (.pointer (some ⟨bm, 0, none⟩)) (rS pv iv most (fuH (L.stmt f t s).1 (L.stmt f t s).2.2.m) (coH (L.stmt f t s).1) (L.stmt f t s).2.2.m), .obox (.pointer (some ⟨bc, 0, none⟩)) (gC fn (L.stmt f t s).2.2.vars (L.stmt f t s).2.2.off (L.stmt f t s).2.2.res 0 0 false (byP bb s.by')), .obox (byP bb s.by') (gC q.fn q.vars q.off q.res (hH (L.stmt f t s).2.2.by') (nH (L.stmt f t s).2.2.by') (xH (L.stmt f t s).2.2.by') q.bp)]
def BlI (p : Prog) (inp : List Int) (f : Func) (L : Lev) (b : List Int) (s : Sx) (pv iv bp bpv : Value) (q : Kp) (most fn : Int) (k : Int) (b1 b2 b3 : Blk) : Prop :=
 ∃ (s1 : Sx), 0 ≤ k ∧ k ≤ b.length ∧ Sx.to p inp f 0 s s1 ∧ blS L f b s = blockS (L.stmt f) f (b.drop k.toNat) s1 ∧
  b1 = .box (rS pv iv most s1.m.fuel 0 s1.m) ∧ b2 = .box (gC fn s1.vars s1.off s1.res 0 0 false bp) ∧ b3 = .obox bpv (gC q.fn q.vars q.off q.res (hH s1.by') (nH s1.by') (xH s1.by') q.bp)
section
variable {p : Prog} {inp : List Int} {f : Func} {L : Lev} {b : List Int} {s s1 : Sx} {pv iv bp bpv : Value} {most fn : Int} {q : Kp} {k : Int} {R : Int × Int × Sx}
theorem BlI.next (h0 : 0 ≤ k) (h1 : k < b.length) (hto : Sx.to p inp f 0 s s1) (hex : blS L f b s = blockS (L.stmt f) f (b.drop k.toNat) s1) (hR : R = L.stmt f (BU f (b[k.toNat]'(by omega))) s1) (hok : Sx.to p inp f R.1 s1 R.2.2) (hz : R.1 = 0) {k' : Int} (hk : k' = k + 1) {b1 b2 b3 : Blk}
  (e3 : b1 = .box (rS pv iv most (fuH R.1 R.2.2.m) (coH R.1) R.2.2.m)) (e4 : b2 = .box (gC fn R.2.2.vars R.2.2.off R.2.2.res 0 0 false bp)) (e5 : b3 = .obox bpv (gC q.fn q.vars q.off q.res (hH R.2.2.by') (nH R.2.2.by') (xH R.2.2.by') q.bp)) :
  BlI p inp f L b s pv iv bp bpv q most fn k' b1 b2 b3 := by
 subst hk;rw [hz] at hok;rw [hz, IU (by omega), IY (by omega)] at e3;refine ⟨R.2.2, by omega, by omega, hto.trans hok (by omega), ?_, e3, e4, e5⟩;rw [hex, Cc h0 h1, blockS];rw [← hR, if_pos hz]
theorem Pq {h : Int} (e : haH h = 0) : h = 0 := by unfold haH at e; split at e <;> omega
theorem KE {h : Int} (e : ¬ haH h = 0) : ¬ h = 0 := by intro h; subst h; exact e rfl
end
theorem DN (p : Prog) (inp : List Int) (most n : Nat) (L : Lev) (hL : Ee p inp L) (hC : NF p inp most n L) (fn : Int) (f : Func) (h0 : 0 ≤ fn) (h1' : fn < p.funcs.length) (hfd : f = funcAt p fn) (hfl : f.stmts.length ≤ 1048576) (b : List Int) (hb : Pm f b) (hbl : b.length ≤ 1048576) (s : Sx) (hs : s.ok p inp f) (hn : s.m.fuel ≤ n) (hn2 : s.m.fuel ≤ 1048576) (hti : s.m.trace.length + s.m.fuel ≤ 1048576) (hof : s.off.length + s.m.fuel ≤ 1048576) (hdm : s.m.deep ≤ most) (bm bc bb : Nat) (q : Kp) (pv iv : Value) (xv : List Value) (xt : List T) : Proc Try.prog 95 [.t (.v (.pointer (some ⟨bm, 0, none⟩))), .t (.v (.pointer (some ⟨bc, 0, none⟩))), .t (T.ints b)] ((pv :: iv :: xv)) ((T.Funcs p.funcs :: T.ints inp :: xt)) [.obox (.pointer (some ⟨bm, 0, none⟩)) (rS pv iv most s.m.fuel 0 s.m), .obox (.pointer (some ⟨bc, 0, none⟩)) (gC fn s.vars s.off s.res 0 0 false (byP bb s.by')), byK bb q s.by'] (.tup [.t (.int (haH (blS L f b s).1)), .t (.int (blS L f b s).2.1)]) [.obox (.pointer (some ⟨bm, 0, none⟩)) (rS pv iv most (fuH (blS L f b s).1 (blS L f b s).2.2.m) (coH (blS L f b s).1) (blS L f b s).2.2.m), .obox (.pointer (some ⟨bc, 0, none⟩)) (gC fn (blS L f b s).2.2.vars (blS L f b s).2.2.off (blS L f b s).2.2.res 0 0 false (byP bb s.by')), .obox (byP bb s.by') (gC q.fn q.vars q.off q.res (hH (blS L f b s).2.2.by') (nH (blS L f b s).2.2.by') (xH (blS L f b s).2.2.by') q.bp)] := by
 have hfa : p.funcs[fn.toNat]'(by omega) = f := by rw [hfd]; exact BC (by omega)
 have hfm : f ∈ p.funcs := hfd ▸ BB h0 h1'
 have hget : (p.funcs.map Func.tt)[fn.toNat]? = some f.tt := by rw [G3 _ _ h0 h1', hfa]
 refine Proc.intro tys Try.func95 Z Z (N := 44) [100, 101, 102] 99 ([(0, .t (.v (.pointer (some ⟨bm, 0, none⟩)))), (1, .t (.v (.pointer (some ⟨bc, 0, none⟩)))), (2, .t (T.ints b))]) ([(100, .obox (.pointer (some ⟨bm, 0, none⟩)) (rS pv iv most s.m.fuel 0 s.m)), (101, .obox (.pointer (some ⟨bc, 0, none⟩)) (gC fn s.vars s.off s.res 0 0 false (byP bb s.by'))), (102, byK bb q s.by'), (99, .ro (pv :: iv :: xv) (T.Funcs p.funcs :: T.ints inp :: xt))]) Z Z Z Z (by decide) (by decide) Z (fun w0 G F0 => ?_);refine nY Z (AO (Le.openNew (u := 100) 1100 Z Z Z Z Z) (nY Z (AO (Le.named (t := 0) (u := 100) 1100 Z Z) (nY Z (AO (Le.openNew (u := 101) 1101 Z Z Z Z Z) (nY Z (AO (Le.named (t := 1) (u := 101) 1101 Z Z) (nY Z (sG (eK 2 Z (nB (sQ (sG (eZ Z (evE ?_)))))))))))))));refine eZ Z (nB (AD ?_));refine lK (α := Int × Blk × Blk × Blk) [0, 1, 12, 13] [99, 1100, 1101] (fun x => [(14, .t (.int (x.1)))]) (fun x => [(100, (x.2.1)), (101, (x.2.2.1)), (102, (x.2.2.2))]) (fun x => BlI p inp f L b s pv iv (byP bb s.by') (byP bb s.by') q most fn (x.1) (x.2.1) (x.2.2.1) (x.2.2.2)) (fun x => Int.toNat (b.length - (x.1))) (0, .box (rS pv iv most s.m.fuel 0 s.m), .box (gC fn s.vars s.off s.res 0 0 false (byP bb s.by')), .obox (byP bb s.by') (gC q.fn q.vars q.off q.res (hH s.by') (nH s.by') (xH s.by') q.bp)) ?_ (fun x hx => ?_)
 ·exact ⟨s, by omega, by omega, Sx.to.refl hs (by omega) (by omega), rfl, rfl, rfl, rfl⟩
 obtain ⟨k, b1, b2, b3⟩ := x
 obtain ⟨s1, hk0, hk1, hto, hex, hb1, hb2, hb3⟩ := hx
 dsimp only at hk0 hk1 hto hex hb1 hb2 hb3 ⊢;subst hb1 hb2 hb3;refine nY Z (sG (eZ Z (nB (sQ ?_))));refine AB Z (fun h1 => ?_) (fun h1 => ?_)
 ·
  simp only [HS] at h1;refine AC (tN (sQ (AD (sG ?_))))
  have hkl : k < b.length := by omega
  have hbk := hb (b[k.toNat]'(by omega)) (Qb _)
  have hmem : BU f (b[k.toNat]'(by omega)) ∈ f.stmts := by rw [← Dg (by omega)]; exact Qb _
  have hfu : s1.m.fuel ≤ s.m.fuel := hto.le.1
  have hft : s1.m.trace.length + s1.m.fuel ≤ s.m.trace.length + s.m.fuel := hto.le.2.1
  have hfo : s1.off.length + s1.m.fuel ≤ s.off.length + s.m.fuel := hto.offl
  have hdp : s1.m.deep = s.m.deep := hto.deep (by omega)
  obtain ⟨R, hR⟩ : ∃ R, R = L.stmt f (BU f (b[k.toNat]'(by omega))) s1 := ⟨_, rfl⟩
  have hok1 := hL.stmt f hfm _ hmem s1 hto.ok
  rw [← hR] at hok1
  have hh0 := hok1.h0
  have hCa := hC fn f (BU f (b[k.toNat]'(by omega))) s1 bm bc bb q pv iv xv xt h0 h1' hfd hmem hto.ok (by omega) (by omega) (by omega) (by omega) (by omega)
  unfold byK at hCa;rw [← hR, ← Dg (f := f) (n := b[k.toNat]'(by omega)) (by omega), Fn (bb := bb) hto.by'] at hCa;refine iY (k := ?_);refine eK 2 Z (nB (sQ (Bd [[100, 101], [100, 101], [], [], [], [], [], [], [], [], [], [], [], [], [], [], [], [], [], [], [], [], []] BO (by kernel_rfl) (DS (QG_ev tys Z Z (AA Z) Z (AG (DS (QG_ev tys Z Z (AA Z) Z (AG (AY (QG_ev tys Z Z (AA Z) Z (AG (AY (Bz rfl Z (AA Z) Z Z Z (AG ?_)))))))))))))));refine Ah Z (AY (QG_ev tys Z Z (AA Z) Z (AG (AY (QG_ev tys Z Z (AA Z) Z (AG (AY (NJ tys 99 0 Z Z (AA Z) Z Z Z Z (AG (AY (QG_ev tys Z Z (AA Z) Z (AG (Ah Z (AY (Bz rfl Z (AA Z) Z Z Z ?_)))))))))))))));refine AG (AY (QG_ev tys Z Z (AA Z) Z (AG (AY (QG_ev tys Z Z (AA Z) Z (AG (DS (NL tys Z Z (AA Z) Z Z Z Z Z Z Z h0 _ hget (AG (Ah Z (AY (QG_ev tys Z Z (AA Z) Z (AG (AY (QG_ev tys Z Z (AA Z) Z ?_)))))))))))))));refine AG (AY (QG_ev tys Z Z (AA Z) Z (AG (DS (NL tys Z Z (AA Z) Z Z Z Z Z Z Z (by omega) _ (G3 _ _ (by omega) (by omega)) (AG (Ah Z (QH_ev2 tys (u1 := 100) (u2 := 101) 1100 1101 Z Z (AA Z) Z Z Z Z Z Z Z Z Z (Ah Z ?_)))))))));refine Ca (rid := 99) [100, 101, 102] Z Z (AA Z) Z Z (by repeat (first | exact ResP.done | refine ResP.pin0 1100 Z ?_ | refine ResP.pin0 1101 Z ?_ | refine ResP.pin0 1102 Z ?_ | refine ResP.t ?_ | refine ResP.nil 1 ?_ | refine ResP.nil' ?_ | refine ResP.own ?_ | refine ResP.sl Z Z (by first | omega | (simp; omega)) ?_ | refine ResP.aggT (by repeat (first | exact ResP.done | refine ResP.t ?_)) ?_)) Z (by repeat (first | exact trivial | refine ⟨rfl, rfl, ?_⟩)) (by decide) (hCa) Z Z Z ?_;refine AY (QG_ev tys Z Z (AA Z) Z (AG (AY (QG_ev tys Z Z (AA Z) Z (AG (Ah Z (AY (QG_ev tys Z Z (AA Z) Z (AG (AY (QG_ev tys Z Z (AA Z) Z (AG (AY (QG_ev tys Z Z (AA Z) Z (AG ?_)))))))))))))));refine EL ?_;refine ⟨by kernel_rfl, ?_⟩;refine nZ Z (WO_le (Le.open (u := 100) 1100 Z Z Z Z) (nZ Z (WO_le (Le.open (u := 101) 1101 Z Z Z Z) (nZ Z (nA (eK 2 Z (nB ?_)))))));refine AB Z (fun h2 => ?_) (fun h2 => ?_)
  ·
   simp only [HS] at h2;refine sG (eK 4 Z (nB (AO (Le.close (u := 100) 1100 Z Z Z) (nY Z (AO (Le.close (u := 101) 1101 Z Z Z) (nY Z (rT (bR (tR (AN (bR (tR ?_))))))))))));refine eP [_, _, _] ?_ ?_
   ·(have he := Mz hk0 hkl hex hR (KE (by assumption)); exact Ev (by rw [he]) (by rw [he]))
   ·(have he := Mz hk0 hkl hex hR (KE (by assumption)); rw [he]; rfl)
  simp only [HS] at h2;refine AC (bN (tN (rG (evI ?_))));refine eZ Z (oN ?_);refine lQ (_, _, _, _) ?_ ?_
  ·dsimp only
   exact BlI.next hk0 (by omega) hto hex hR hok1 (Pq (by assumption)) rfl rfl rfl rfl
  ·(show Int.toNat _ < Int.toNat _); omega
 simp only [HS] at h1;refine AP (tE (AM (AK (tN (sG (eK 2 Z (nB (AO (Le.close (u := 100) 1100 Z Z Z) (nY Z (AO (Le.close (u := 101) 1101 Z Z Z) (nY Z (rT ?_))))))))))));refine eP [_, _, _] ?_ ?_
 ·(have he := PB (by omega) hex; exact Ev (by rw [he]; rfl) (by rw [he]))
 ·(have he := PB (by omega) hex; rw [he]; rfl)
open Go.Eng
def stS (p : Prog) (inp : List Int) (L : Lev) (f : Func) (t : Stmt) (s : Sx) : Int × Int × Sx := ER L (paramsL p) inp f t s
section
variable {p : Prog} {inp : List Int} {f : Func} {L : Lev} {t : Stmt} {s : Sx} {R B : Int × Int × Sx} {v : Int}
theorem KP {m : Ms} (h : m.fuel = 0) : A7 m = m := by
 obtain ⟨u, fu, d, tr⟩ := m
 cases h;rfl
theorem st_0 (h : s.m.fuel = 0) : stS p inp L f t s = (5, 0, ⟨A7 s.m, s.vars, s.off, s.res, s.by'⟩) := by rw [stS, ER, if_pos h, KP h]
theorem st_3 (hf : s.m.fuel ≠ 0) (h : t.kind = 3) : stS p inp L f t s = (0, 0, ⟨A7 s.m, s.vars, s.off ++ [t.n], s.res, s.by'⟩) := by rw [stS, ER, if_neg hf, if_pos h]
theorem st_6 (hf : s.m.fuel ≠ 0) (h : t.kind = 6) : stS p inp L f t s = (3, 0, ⟨A7 s.m, s.vars, s.off, s.res, s.by'⟩) := by rw [stS, ER, if_neg hf, if_neg (by omega), if_pos h]
theorem st_e (hf : s.m.fuel ≠ 0) (h3 : t.kind ≠ 3) (h6 : t.kind ≠ 6) (hR : R = exS p inp L t.ex ⟨A7 s.m, s.vars, s.off, s.res, s.by'⟩) (h0 : ¬ R.1 = 0) : stS p inp L f t s = R := by
 rw [stS, ER, if_neg hf, if_neg h3, if_neg h6]
 have e : exprS L.cal (paramsL p) inp t.ex [] { s with m := A7 s.m } = R := hR.symm
 simp only [e, if_neg h0]
theorem LP (hf : s.m.fuel ≠ 0) (h3 : t.kind ≠ 3) (h6 : t.kind ≠ 6) (hR : R = exS p inp L t.ex ⟨A7 s.m, s.vars, s.off, s.res, s.by'⟩) (h0 : R.1 = 0) : stS p inp L f t s = doS L f t R.2.1 R.2.2 := by
 rw [stS, ER, if_neg hf, if_neg h3, if_neg h6]
 have e : exprS L.cal (paramsL p) inp t.ex [] { s with m := A7 s.m } = R := hR.symm
 simp only [e, if_pos h0]
theorem do_1 (h : t.kind = 1) : doS L f t v s = (0, 0, ⟨s.m, s.vars.set t.n.toNat v, s.off, s.res, s.by'⟩) := by rw [doS, if_pos h]
theorem do_2 (h : t.kind = 2) : doS L f t v s = (0, 0, ⟨⟨s.m.used, s.m.fuel, s.m.deep, s.m.trace ++ [v]⟩, s.vars, s.off, s.res, s.by'⟩) := by rw [doS, if_neg (by omega), if_pos h]
theorem do_4 (h : t.kind = 4) : doS L f t v s = (2, v, s) := by rw [doS, if_neg (by omega), if_neg (by omega), if_pos h]
theorem do_5 (h : t.kind = 5) : doS L f t v s = (1, 0, ⟨s.m, s.vars, s.off, v, s.by'⟩) := by rw [doS, if_neg (by omega), if_neg (by omega), if_neg (by omega), if_pos h]
theorem do_7t (h : t.kind = 7) (hv : v ≠ 0) : doS L f t v s = blS L f t.thn s := by rw [doS, if_neg (by omega), if_neg (by omega), if_neg (by omega), if_neg (by omega), if_pos h, if_pos hv]; rfl
theorem do_7e (h : t.kind = 7) (hv : ¬ v ≠ 0) : doS L f t v s = blS L f t.els s := by rw [doS, if_neg (by omega), if_neg (by omega), if_neg (by omega), if_neg (by omega), if_pos h, if_neg hv]; rfl
theorem do_8z (h : t.kind = 8) (hv : v = 0) : doS L f t v s = (0, 0, s) := by rw [doS, if_neg (by omega), if_neg (by omega), if_neg (by omega), if_neg (by omega), if_neg (by omega), if_pos h, if_pos hv]
theorem do_8b (h : t.kind = 8) (hv : ¬ v = 0) (hB : B = blS L f t.thn s) (h0 : ¬ B.1 = 0) : doS L f t v s = B := by
 rw [doS, if_neg (by omega), if_neg (by omega), if_neg (by omega), if_neg (by omega), if_neg (by omega), if_pos h, if_neg hv]
 have e : blockS (L.stmt f) f t.thn s = B := hB.symm
 simp only [e, if_neg h0]
theorem do_8s (h : t.kind = 8) (hv : ¬ v = 0) (hB : B = blS L f t.thn s) (h0 : B.1 = 0) : doS L f t v s = L.stmt f t B.2.2 := by
 rw [doS, if_neg (by omega), if_neg (by omega), if_neg (by omega), if_neg (by omega), if_neg (by omega), if_pos h, if_neg hv]
 have e : blockS (L.stmt f) f t.thn s = B := hB.symm
 simp only [e, if_pos h0]
theorem do_9 (h1 : ¬ t.kind = 1) (h2 : ¬ t.kind = 2) (h4 : ¬ t.kind = 4) (h5 : ¬ t.kind = 5) (h7 : ¬ t.kind = 7) (h8 : ¬ t.kind = 8) : doS L f t v s = (0, 0, s) := by rw [doS, if_neg h1, if_neg h2, if_neg h4, if_neg h5, if_neg h7, if_neg h8]
end
theorem putI (x v : Int) : (T.int x).put 0 [T.int v] = T.int v := rfl
end Go.Proofs.Ytddfnpiikkilhaa
