/- Walks and laws of the claim. -/
import Derived.Test.YtddfnpiikkilhaaGb
import Derived.Test.YtddfnpiikkilhaaFa
import Derived.Test.YtddfnpiikkilhaaMb
import Derived.Test.YtddfnpiikkilhaaMd
import Derived.Test.YtddfnpiikkilhaaMe
import Derived.Test.YtddfnpiikkilhaaMc
set_option linter.unusedVariables false
set_option linter.unusedSimpArgs false
set_option maxRecDepth 10000
set_option maxHeartbeats 1000000
namespace Go.Proofs.Ytddfnpiikkilhaa
open Go.Eng
open Go.Eng
def AO (p : Prog) (fn : Int) : List Int := Ed p.funcs.length (BF p) fn
theorem OS {l : List Int} : ∀ {m : List Int}, l.Nodup → (∀ x, x ∈ l → x ∈ m) → l.length ≤ m.length := by
 induction l with
 | nil => intro m _ _; exact Tm _
 | cons x l ih =>
  intro m hn hm;rw [S0] at hn
  have hx := hm x (S9 ..)
  have := ih (m := m.erase x) hn.2 fun y hy => (List.mem_erase_of_ne fun e => hn.1 (by rw [← e]; exact hy)).2 (hm y (TC _ hy))
  have h2 := List.length_erase_of_mem hx
  have h3 := List.length_pos_of_mem hx
  rw [Sp]; omega
structure Met (N : Nat) (calls : Int → List Int) (fn : Int) (met : List Int) (k : Nat) : Prop where
 nodup : met.Nodup
 lead : ∀ x, x ∈ met → MT calls fn x
 first : fn ∈ met
 closed : ∀ (i : Nat) (h : i < met.length), i < k → ∀ c, c ∈ calls met[i] → c ∈ met
section
variable {N : Nat} {calls : Int → List Int} {fn : Int} {met : List Int} {k : Nat}
theorem Met.start : Met N calls fn [fn] 0 := ⟨by simp, fun x hx => by rw [S1] at hx; subst hx; exact .refl, S1.2 rfl, fun i _ h => by omega⟩
theorem Met.inN (h : Met N calls fn met k) (hc : InN N calls) (h0 : 0 ≤ fn) (h1 : fn < N) {x : Int} (hx : x ∈ met) : 0 ≤ x ∧ x < N := Gh hc h0 h1 (h.lead x hx)
theorem Met.len (h : Met N calls fn met k) (hc : InN N calls) (h0 : 0 ≤ fn) (h1 : fn < N) : met.length ≤ N := by
 have := OS (m := Bs N) h.nodup fun x hx => mem_upto.2 (h.inN hc h0 h1 hx)
 rwa [Aw] at this
theorem Met.add (h : Met N calls fn met k) (hk : k ≤ met.length) {x y : Int} (hx : x ∈ met) (hy : y ∈ calls x) (hn : y ∉ met) : Met N calls fn (met ++ [y]) k := by
 refine ⟨?_, fun z hz => ?_, TG _ h.first, fun i hi hik c hcc => ?_⟩
 ·rw [Su]
  exact ⟨h.nodup, by simp, fun a ha b hb e => hn (by rw [S1] at hb; rw [← hb, ← e]; exact ha)⟩
 ·rcases So.1 hz with hz | hz
  ·exact h.lead z hz
  ·rw [S1] at hz; subst hz; exact .step (h.lead x hx) hy
 ·rw [List.getElem_append_left (by omega)] at hcc
  exact TG _ (h.closed i (by omega) hik c hcc)
theorem Met.next (h : Met N calls fn met k) (hk : k < met.length) (hc : ∀ c, c ∈ calls met[k] → c ∈ met) : Met N calls fn met (k + 1) :=
 ⟨h.nodup, h.lead, h.first, fun i hi hik => by
  by_cases e : i = k
  ·subst e; exact hc
  ·exact h.closed i hi (by omega)⟩
theorem Met.done (h : Met N calls fn met k) (hc : InN N calls) (h0 : 0 ≤ fn) (h1 : fn < N) (hN : N ≤ 5) (hk : met.length ≤ k) : HF 5 met = Ed N calls fn := by
 refine EY (CR ..) (CR ..) fun x => ?_
 rw [FZ (S := fun x => x ∈ met) hc h0 h1 h.first (fun x hx c hcc => by
  obtain ⟨i, hi, rfl⟩ := TH hx
  exact h.closed i hi (by omega) c hcc) h.lead]
 rw [mem_setN];refine ⟨fun h => h.2, fun hx => ⟨?_, hx⟩⟩
 have := h.inN hc h0 h1 hx
 omega
end
theorem P8 {fn : Int} (h0 : 0 ≤ fn) (h1 : fn < 5) : [fn] = HF 5 [fn] := by
 refine EY (by simp) (CR ..) fun x => ?_
 rw [mem_setN];exact ⟨fun h => ⟨by rw [S1] at h; subst h; exact ⟨h0, h1⟩, h⟩, fun h => h.2⟩
theorem Fh (p : Prog) (fn : Int) (hp : p.ok 1048576) (hg : AS p = true) (hn0 : 0 ≤ fn) (hn1 : fn < p.funcs.length) : Fun Try.prog 59 [.t p.tt, .t (.int fn)] (A2 [.t (T.ints (AO p fn))]) := by
  have hgl := AX hg
  have hin := CI hg
  refine Fun.begin tys Try.func59 Z Z (N := 44) [(0, .t p.tt), (1, .t (.int fn))] Z Z (fun w0 G F0 => ?_);refine sG (AV Z Z (AA Z) Z Z (nZ Z (eZ Z (nA (eZ Z ?_)))));refine Pc tys [T.int fn] Z Z (AA Z) Z Z Z Z Z (by decide) (by repeat (first | exact PartsF.nil' | refine PartsF.cons' rfl Z ?_)) Z ?_;refine nZ Z (eZ Z (nA (eZ Z (bZ [T.int fn] ?_))));refine nZ Z (eZ Z (nB (sQ (sQ (kY [2,4,5,6] Z (rG (eZ Z (nB (AD ?_)))))))));refine lK (α := Int × Nat × List T × List Int) [2] [2] (fun x => [(7, .t (.int (x.1))), (6, .sl 13 0 (x.2.1)), (5, .t (T.ints (x.2.2.2)))]) (fun x => [(13, .L 1 (x.2.2.1))]) (fun x => ∃ met : List Int, 0 ≤ (x.1) ∧ (x.1) ≤ met.length ∧ (x.2.1) = (x.2.2.1).length ∧ (x.2.2.1) = met.map T.int ∧ (x.2.2.2) = HF 5 met ∧ Met p.funcs.length (BF p) fn met (x.1).toNat) (fun x => Int.toNat (5 - (x.1))) (0, 1, [T.int fn], [fn]) ?_ (fun x hx => ?_)
  · exact ⟨[fn], by omega, by simp, rfl, rfl, P8 hn0 (by omega), Met.start⟩
  obtain ⟨k, m, ms, out⟩ := x
  obtain ⟨met, hk0, hk1, hm, hms, hout, hmet⟩ := hx
  dsimp only at hk0 hk1 hm hms hout hmet ⊢;refine nY Z (sQ (sG (eK 2 Z (evE ?_))));refine eZ Z (nB ?_);refine AB Z (fun h1 => ?_) (fun h1 => ?_)
  ·
    simp only [HS] at h1;refine AC (tN (sQ (AD (sQ (Aj BE (by kernel_rfl) ?_)))))
    have hmm : ms.length = met.length := by rw [hms, Sk]
    have hml := hmet.len hin hn0 hn1
    have hcl := Ht p (met[k.toNat]'(by omega))
    have hxm : met[k.toNat]'(by omega) ∈ met := Ss _
    have hxi := hmet.inN hin hn0 hn1 hxm
    refine Rm tys Z Z (AA Z) Z Z (evQ ?_);refine AR Z (evQ ?_);refine EN tys Z Z (AA Z) Z Z Z Z Z Z Z Z (by omega) (by omega) (GA tys Z Z (AA Z) Z Z Z Z (by rw [hms]; exact D1 T.int met (by omega) (by omega)) Z ?_);refine RN Z Z (AA Z) Z Z Z Z Z (Jp p _ hp hg hxi.1 hxi.2) Z (evEQ ?_);refine evQ ?_;refine AR Z (A7 (tN (AD ?_)));refine lK (α := Int × Nat × List T × List Int) [2, 7, 25, 26] [2] (fun x => [(27, .t (.int (x.1))), (6, .sl 13 0 (x.2.1)), (5, .t (T.ints (x.2.2.2)))]) (fun x => [(13, .L 1 (x.2.2.1))]) (fun x => ∃ met2 : List Int, 0 ≤ (x.1) ∧ (x.1) ≤ (BF p (met[k.toNat]'(by omega))).length ∧ (x.2.1) = (x.2.2.1).length ∧ (x.2.2.1) = met2.map T.int ∧ (x.2.2.2) = HF 5 met2 ∧ Met p.funcs.length (BF p) fn met2 k.toNat ∧ met.length ≤ met2.length ∧ met2[k.toNat]? = some (met[k.toNat]'(by omega)) ∧ ∀ c, c ∈ (BF p (met[k.toNat]'(by omega))).take (x.1).toNat → c ∈ met2) (fun x => Int.toNat ((BF p (met[k.toNat]'(by omega))).length - (x.1))) (0, m, ms, out) ?_ (fun x hx => ?_)
    · exact ⟨met, by omega, by omega, hm, hms, hout, hmet, S2 _, List.getElem?_eq_getElem (l := met) (by omega), by simp⟩
    obtain ⟨j, m2, ms2, o2⟩ := x
    obtain ⟨met2, hj0, hj1, hm2, hms2, ho2, hmet2, hle, hat, hcs⟩ := hx
    dsimp only at hj0 hj1 hm2 hms2 ho2 hmet2 hle hat hcs ⊢;refine nY Z (sG (eZ Z (nB (sQ ?_))));refine AB Z (fun h2 => ?_) (fun h2 => ?_)
    ·
      simp only [HS] at h2;refine AC (tN (sQ (AD (sG ?_))));refine iY (k := ?_);refine eK 2 Z (nA (eK 2 Z (AM ?_)));refine ⟨_, argI hms2 (Gm met2 _ (by have := hmet2.len hin hn0 hn1; omega)), rfl, ?_⟩;refine eZ Z (nB ?_);refine AB Z (fun h3 => ?_) (fun h3 => ?_)
      ·
        simp only [HS] at h3;refine sQ (kY [2,5,6,7,9,25,26,27,28,29,30,31,32,33,34] Z (rG ?_))
        have hml2 := hmet2.len hin hn0 hn1
        refine eK 2 Z (bZ [T.int ((BF p (met[k.toNat]'(by omega)))[j.toNat]'(by omega))] ?_);refine nZ Z (AE tys Z Z (AA Z) Z Z Z Z Z (.own Z (by first | omega | (simp only [Sm]; omega))) Z (.own Z (by first | decide | omega)) (by decide) (by simp only [Sq, Sp, List.length_nil]; rw [hms2, Sk]; omega) (by decide) Z ?_);refine nZ Z (eZ Z (nB (rG (eK 2 Z (CA Z Z (AA Z) Z Z Z Z Z (Gk _ _ (by rw [ho2]; exact TQ (Ft _ _) (by decide)) (by rw [ho2]; exact GO _ _)) Z ?_)))));refine eZ Z (kZ [2,5,6,7,9,25,26,27,28,29,30,31,32,33,34,35,36,37,38,39,40,41] Z (oN (bN (tN (rG (evI ?_))))));refine eZ Z (oN ?_);refine lQ (_, _, _, _) ?_ ?_
        · dsimp only
          have hcj : (BF p (met[k.toNat]'(by omega)))[j.toNat]'(by omega) ∈ BF p (met[k.toNat]'(by omega)) := Ss _
          have hkm : met[k.toNat]'(by omega) ∈ met2 := TJ hat
          first
          | (subst hm2
             refine ⟨met2 ++ [(BF p (met[k.toNat]'(by omega)))[j.toNat]'(by omega)], by omega, by omega, by simp, by rw [Sy, hms2]; simp, ?_, hmet2.add (by omega) hkm hcj h3, by simp; omega, ?_, ?_⟩
             · rw [ho2, H4 (hin _ _ hcj).1 (by have := (hin _ _ hcj).2; omega)]
             · rw [List.getElem?_append_left (by omega)]; exact hat
             · intro c hc
               rw [BO hj0 (by omega), So, S1] at hc
               rcases hc with hc | rfl
               · exact TG _ (hcs c hc)
               · exact TL _ (S1.2 rfl))
        · (show Int.toNat _ < Int.toNat _); omega
      simp only [HS] at h3;refine AC (bN (tN (kY [2,5,6,7,9,25,26,27,28,29,30,31,32,33,34] Z (rG (evI ?_)))));refine eZ Z (oN ?_);refine lQ (_, _, _, _) ?_ ?_
      · dsimp only
        have hcj : (BF p (met[k.toNat]'(by omega)))[j.toNat]'(by omega) ∈ BF p (met[k.toNat]'(by omega)) := Ss _
        have hkm : met[k.toNat]'(by omega) ∈ met2 := TJ hat
        first
        | (refine ⟨met2, by omega, by omega, hm2, hms2, ho2, hmet2, hle, hat, ?_⟩
           intro c hc;rw [BO hj0 (by omega), So, S1] at hc
           rcases hc with hc | rfl
           · exact hcs c hc
           · exact h3)
      · (show Int.toNat _ < Int.toNat _); omega
    simp only [HS] at h2;refine AN (tE (AJ (AI (bN (tN (rG (eZ Z (evI ?_))))))));refine eZ Z (oN ?_);refine lQ (_, _, _, _) ?_ ?_
    · dsimp only
      have hk : k.toNat < met2.length := by omega
      have he : met2[k.toNat] = met[k.toNat]'(by omega) := by rw [List.getElem?_eq_getElem hk] at hat; exact Option.some.inj hat
      refine ⟨met2, by omega, by omega, hm2, hms2, ho2, ?_⟩;rw [show (k + 1).toNat = k.toNat + 1 from by omega];refine hmet2.next hk ?_;rw [he]
      rwa [A5 (by omega)] at hcs
    · (show Int.toNat _ < Int.toNat _); omega
  simp only [HS] at h1;refine AN (tE (AJ (AI (tN (sG (eK 2 Z (nB (rT (eR ?_)))))))))
  · refine QJ ?_
    rw [hout, hmet.done hin hn0 hn1 (by omega) (by have hmm : ms.length = met.length := (by rw [hms, Sk]); omega)];rfl
structure Dfs (calls : Int → List Int) (fn : Int) (S ol : List Int) : Prop where
 leadS : ∀ x, x ∈ S → MT calls fn x
 leadO : ∀ x, x ∈ ol → MT calls fn x
 first : fn ∈ S ∨ fn ∈ ol
 closed : ∀ x, x ∈ S → ∀ c, c ∈ calls x → c ∈ S ∨ c ∈ ol
section
variable {N : Nat} {calls : Int → List Int} {fn x : Int} {S ol : List Int}
theorem Dfs.skip (h : Dfs calls fn S (ol ++ [x])) (hx : x ∈ S) : Dfs calls fn S ol := by
 have key : ∀ c, c ∈ ol ++ [x] → c ∈ S ∨ c ∈ ol := fun c hc => by
  rcases So.1 hc with hc | hc
  ·exact .inr hc
  ·rw [S1] at hc; subst hc; exact .inl hx
 exact ⟨h.leadS, fun y hy => h.leadO y (TG _ hy), h.first.elim .inl (key fn), fun y hy c hc => (h.closed y hy c hc).elim .inl (key c)⟩
theorem Dfs.take (h : Dfs calls fn S (ol ++ [x])) : Dfs calls fn (S ++ [x]) (ol ++ calls x) := by
 have hx : MT calls fn x := h.leadO x (TL _ (S1.2 rfl))
 have key : ∀ c, c ∈ S ∨ c ∈ ol ++ [x] → c ∈ S ++ [x] ∨ c ∈ ol ++ calls x := fun c hc => by
  rcases hc with hc | hc
  ·exact .inl (TG _ hc)
  ·rcases So.1 hc with hc | hc
   ·exact .inr (TG _ hc)
   ·exact .inl (TL _ hc)
 refine ⟨fun y hy => ?_, fun y hy => ?_, key fn h.first, fun y hy c hc => ?_⟩
 ·rcases So.1 hy with hy | hy
  ·exact h.leadS y hy
  ·rw [S1] at hy; subst hy; exact hx
 ·rcases So.1 hy with hy | hy
  ·exact h.leadO y (TG _ hy)
  ·exact .step hx hy
 ·rcases So.1 hy with hy | hy
  ·exact key c (h.closed y hy c hc)
  ·rw [S1] at hy; subst hy; exact .inr (TL _ hc)
theorem Dfs.done (h : Dfs calls fn S []) (hc : InN N calls) (h0 : 0 ≤ fn) (h1 : fn < N) : C5 N (fun x => decide (x ∈ S)) = Ed N calls fn := by
 refine EY (CR ..) (CR ..) fun x => ?_
 rw [FZ (S := fun x => x ∈ S) hc h0 h1 (h.first.elim id fun h => by cases h) (fun x hx c hcc => (h.closed x hx c hcc).elim id fun h => by cases h) h.leadS];rw [mem_pickN, decide_eq_true_eq];exact ⟨fun h => h.2, fun hx => ⟨Gh hc h0 h1 (h.leadS x hx), hx⟩⟩
end
def unB : List T → Int
 | [] => 0
 | .v (.bool false) :: l => unB l + 1
 | _ :: l => unB l
def unS (N : Nat) (S : List Int) : Nat := ((Bs N).filter fun x => decide (x ∉ S)).length
theorem NY (S : List Int) : ∀ l : List Int, unB (l.map fun n => T.bool (decide (n ∈ S))) = ((l.filter fun x => decide (x ∉ S)).length : Nat)
 | [] => rfl
 | n :: l => by
  have ih := NY S l
  rw [TA, TV]
  by_cases h : n ∈ S
  ·simp only [h, decide_true, not_true_eq_false, decide_false]
   exact ih
  ·simp only [h, decide_false, not_false_eq_true, decide_true, if_true, Sp]
   show unB _ + 1 = _;rw [ih]; omega
theorem GG (N : Nat) (S : List Int) : unB (marks N S) = unS N S := NY S _
theorem LQ {N : Nat} {S : List Int} {x : Int} (h0 : 0 ≤ x) (h1 : x < N) (h : x ∉ S) : unS N (S ++ [x]) < unS N S := by
 refine Gu (fun y _ hy => ?_) ⟨x, mem_upto.2 ⟨h0, h1⟩, by simpa using h, by simp⟩;simp only [decide_eq_true_eq] at hy ⊢
 exact fun h => hy (TG _ h)
theorem unS_le (N : Nat) (S : List Int) : unS N S ≤ N := by
 have := List.length_filter_le (fun x => decide (x ∉ S)) (Bs N)
 rw [Aw] at this; exact this
theorem Qi {os : List T} {ol : List Int} {m : Nat} {k : Int} (h : os.take m = ol.map T.int) (hk0 : 0 ≤ k) (hk : k < m) (hm : m ≤ os.length) : ∃ h : k.toNat < ol.length, os[0 + k.toNat]? = some (T.int (ol[k.toNat]'h)) := by
 have hl := congrArg List.length h
 rw [Sq, Sk] at hl;refine ⟨by omega, ?_⟩
 have h2 := congrArg (fun l => l[k.toNat]?) h
 simp only [List.getElem?_map] at h2;rw [List.getElem?_take_of_lt (by omega), List.getElem?_eq_getElem (l := ol) (by omega)] at h2;rw [S7, h2]; rfl
theorem MY {ol : List Int} {k : Nat} (h : ol.length = k + 1) : ol = ol.take k ++ [ol[k]'(by omega)] := by
 conv => lhs; rw [← Tg k ol]
 rw [TX (by omega), List.drop_of_length_le (by omega)]
theorem IA (p : Prog) (fn : Int) (hp : p.ok 1048576) (hg : AS p = true) (hn0 : 0 ≤ fn) (hn1 : fn < p.funcs.length) : Fun Try.prog 72 [.t p.tt, .t (.int fn)] (A2 [.own (T.ints (AO p fn))]) := by
  have hgl := AX hg
  have hin := CI hg
  refine Fun.begin tys Try.func72 Z Z (N := 61) [(0, .t p.tt), (1, .t (.int fn))] Z Z (fun w0 G F0 => ?_);refine sG (AV Z Z (AA Z) Z Z (nZ Z (eZ Z (nA (eK 2 Z (evE ?_))))));refine DS tys (.v (.bool false)) _ Z Z (AA Z) Z Z Z Z Z (by repeat (first | exact AbsL.nil' | refine AbsL.v' ?_ | refine AbsL.none' ?_)) Z (by omega) (by decide) ?_;refine nZ Z (eZ Z (nB (sQ (kY [1,2,4,5] Z (rG (eZ Z (bZ [T.int fn] ?_)))))));refine nZ Z (eZ Z (nB (sQ (AD ?_))));refine lK (α := Nat × List T × List T) [2] [2] (fun x => [(6, .sl 16 0 (x.1)), (5, .sl 14 0 p.funcs.length)]) (fun x => [(16, .L 1 (x.2.1)), (14, .L 1 (x.2.2))]) (fun x => ∃ S ol : List Int, (x.1) ≤ (x.2.1).length ∧ (x.2.1).take (x.1) = ol.map T.int ∧ (x.2.2) = marks p.funcs.length S ∧ Dfs (BF p) fn S ol ∧ (x.1) + 5 * unS p.funcs.length S ≤ 26) (fun x => Int.toNat (6 * unB (x.2.2) + (x.1))) (1, [T.int fn], List.replicate p.funcs.length (T.bool false)) ?_ (fun x hx => ?_)
  · refine ⟨[], [fn], by simp, rfl, Jh _, ⟨by simp, ?_, .inr (by simp), by simp⟩, ?_⟩
    · intro x hx; rw [S1] at hx; subst hx; exact .refl
    · have := unS_le p.funcs.length []; show 1 + _ ≤ _; omega
  obtain ⟨m, os, bs⟩ := x
  obtain ⟨S, ol, hml, hos, hbs, hd, hsz⟩ := hx
  dsimp only at hml hos hbs hd hsz ⊢;refine nY Z (sQ (sG (eZ Z (evE ?_))));refine eZ Z (nB ?_);refine AB Z (fun h1 => ?_) (fun h1 => ?_)
  ·
    simp only [HS] at h1;refine AC (tN (AD (sG (eK 2 Z (evE ?_)))));refine evI ?_
    obtain ⟨hxl, hxe⟩ := Qi hos (k := (m : Int) - 1) (by omega) (by omega) hml
    have hxi := Gh hin hn0 hn1 (hd.leadO _ (Ss hxl))
    have hos' : ol.length = ((m : Int) - 1).toNat + 1 := by have := congrArg List.length hos; simp only [Sq, Sk] at this; omega
    have hsp := MY hos'
    have hbl : bs.length = p.funcs.length := by rw [hbs, Ca]
    have htk : os.take (((m : Int) - 1).toNat - (0 : Int).toNat) = (ol.take ((m : Int) - 1).toNat).map T.int := by
      have := congrArg (List.take ((m : Int) - 1).toNat) hos
      rw [List.take_take, Tf (by omega)] at this;rw [List.map_take, ← this]; rfl
    have hfs : HF 5 (ET (p.funcs[(ol[((m : Int) - 1).toNat]'hxl).toNat]'(by omega)).stmts) = BF p (ol[((m : Int) - 1).toNat]'hxl) := by rw [BF, Mb, ← Ax (by omega)]
    have hcl := Ht p (ol[((m : Int) - 1).toNat]'hxl)
    have hd' : Dfs (BF p) fn S (ol.take ((m : Int) - 1).toNat ++ [ol[((m : Int) - 1).toNat]'hxl]) := by rw [← hsp]; exact hd
    refine Ae tys Z Z (AA Z) Z Z Z Z Z Z Z Z (by omega) (by omega) (Al tys Z Z (AA Z) Z Z Z Z hxe Z (kZ [2,5,6,17,18,19,20,21,22,23,24,25] Z (eZ Z (nA (eK 2 Z (evE ?_))))));refine evI ?_;refine Dg tys Z Z (AA Z) Z Z Z Z Z Z Z Z Z (by omega) (by omega) (by omega) (eZ Z (nB (sQ (kY [2,5,6,7,17,18,19,20,21,22,23,24,25,26,27,28,29,30] Z (rG (eK 2 Z (Ae tys Z Z (AA Z) Z Z Z Z Z Z Z Z (by omega) (by omega) (Al tys Z Z (AA Z) Z Z Z Z (by rw [hbs]; exact Gg hxi.1 hxi.2) Z ?_))))))));refine eZ Z (nB ?_);refine AB Z (fun h2 => ?_) (fun h2 => ?_)
    ·
      simp only [HS] at h2;refine sG (eK 2 Z (Ae tys Z Z (AA Z) Z Z Z Z Z Z Z Z (by omega) (by omega) ?_));refine BD tys (T.bool true) Z Z Z Z Z Z (by first | exact S7 _ | rfl) (by omega) Z (by repeat (first | exact AbsL.nil' | refine AbsL.v' ?_ | refine AbsL.own' ?_)) Z Z Z ?_;refine nZ Z (kZ [2,5,6,7,17,18,19,20,21,22,23,24,25,26,27,28,29,30,31,32,33,34,35,36,37,38] Z (nB (rG (eK 4 Z ?_))));refine iY (k := ?_);refine eZ Z ?_
      try refine WO_le (Le.freeze (u := 44) rfl) ?_
      refine nZ Z (AM ?_);refine ⟨_, LC _ (B5 hp _) (by have := D6 hg (ol[((m : Int) - 1).toNat]'hxl); unfold Mb at this; rw [← Ax (by omega)] at this; intro x hx; have := this x hx; omega), rfl, ?_⟩;refine WO_le (Le.adoptE (u := 45) 45 Z (by first | exact Iq | exact Z)) ?_;refine nZ Z (AE tys Z Z (AA Z) Z Z Z Z Z (.own Z (by first | omega | (simp only [Sm]; omega))) Z (.own Z (by simp)) (by decide) (by have := Ft 5 (ET (p.funcs[(ol[((m : Int) - 1).toNat]'hxl).toNat]'(by omega)).stmts); simp only [Sq, Sk]; omega) (by decide) Z ?_);refine nZ Z (eZ Z (kZ [2,5,6,7,17,18,19,20,21,22,23,24,25,26,27,28,29,30,31,32,33,34,35,36,37,38,39,40,41,42,43,44,45,46] Z (oN (bN ?_))));refine lQ (_, _, _) ?_ ?_
      · dsimp only
        first
        | (refine ⟨S ++ [ol[((m : Int) - 1).toNat]'hxl], ol.take ((m : Int) - 1).toNat ++ BF p (ol[((m : Int) - 1).toNat]'hxl), by simp, ?_, by rw [hbs, En hxi.1 hxi.2], hd'.take, ?_⟩
           · rw [Fs, htk, Sn (l := (HF 5 _).map T.int) (by simp), hfs, S5]
           · have hu := LQ hxi.1 hxi.2 h2
             rw [hfs];simp only [Sq, Sk]
             omega)
      · dsimp only
        first
        | (have hu := LQ hxi.1 hxi.2 h2
           have e1 : unB bs = (unS p.funcs.length S : Nat) := by rw [hbs, GG]
           have e2 : unB (bs.set (ol[((m : Int) - 1).toNat]'hxl).toNat (T.bool true)) = (unS p.funcs.length (S ++ [ol[((m : Int) - 1).toNat]'hxl]) : Nat) := by rw [hbs, En hxi.1 hxi.2, GG]
           rw [e1, e2, hfs];simp only [Sq, Sk]
           omega)
    simp only [HS] at h2;refine AC (bN ?_);refine lQ (_, _, _) ?_ ?_
    · dsimp only
      first
      | exact ⟨S, ol.take ((m : Int) - 1).toNat, by omega, htk, hbs, hd'.skip h2, by omega⟩
    · dsimp only
      first
      | (rw [hbs, GG]; omega)
  simp only [HS] at h1;refine AN (tE (AJ (AI (tN (sG (eZ Z (WO_le (Le.nilOwn (u := 8) 1 Z) (WO_le (Le.adoptE (u := 8) 8 Z Z) (nZ Z (nB (sQ (sG (eZ Z (evE ?_))))))))))))));refine eZ Z (nB (AD ?_));refine lK (α := Int × Nat × List T) [47, 48] [14] (fun x => [(49, .t (.int (x.1))), (8, .sl 8 0 (x.2.1))]) (fun x => [(8, .L 1 (x.2.2))]) (fun x => 0 ≤ (x.1) ∧ (x.1) ≤ p.funcs.length ∧ (x.2.1) = (x.2.2).length ∧ (x.2.2).length ≤ (x.1) ∧ (x.2.2) = (IC p.funcs.length (fun x => decide (x ∈ S)) (x.1)).map T.int) (fun x => Int.toNat (p.funcs.length - (x.1))) (0, 0, []) ?_ (fun x hx => ?_)
  · exact ⟨by omega, by omega, rfl, by simp, rfl⟩
  obtain ⟨q, m2, ws⟩ := x
  obtain ⟨hq0, hq1, hm2, hwl, hws⟩ := hx
  dsimp only at hq0 hq1 hm2 hwl hws ⊢;refine nY Z (sG (eZ Z (nB (sQ ?_))));refine AB Z (fun h2 => ?_) (fun h2 => ?_)
  ·
    simp only [HS] at h2;refine AC (tN (sQ (AD (sG (eZ Z (Ae tys Z Z (AA Z) Z Z Z Z Z Z Z Z (by omega) (by omega) (Al tys Z Z (AA Z) Z Z Z Z (by rw [hbs]; exact Gg hq0 (by omega)) Z ?_)))))));refine eK 2 Z (nA (eZ Z (nB ?_)));refine AB Z (fun h3 => ?_) (fun h3 => ?_)
    ·
      simp only [HS] at h3;refine kY [8,9,10,47,48,49,50,51,52,53,54] Z (rG (eK 2 Z (bZ [T.int q] ?_)));refine nZ Z (AE tys Z Z (AA Z) Z Z Z Z Z (.own Z (by first | omega | (simp only [Sm]; omega))) Z (.own Z (by first | decide | omega)) (by decide) (by simp only [Sq, Sp, List.length_nil]; omega) (by decide) Z ?_);refine nZ Z (eZ Z (oN (bN (tN (rG (evI ?_))))));refine eZ Z (oN ?_);refine lQ (_, _, _) ?_ ?_
      · dsimp only
        subst hm2
        first
        | (refine ⟨by omega, by omega, by simp, by simp; omega, ?_⟩; rw [Sy, hws, Ck hq0 (by omega), if_pos (by simpa using h3), S5]; rfl)
      · (show Int.toNat _ < Int.toNat _); omega
    simp only [HS] at h3;refine AC (bN (tN (kY [8,9,10,47,48,49,50,51,52,53,54] Z (rG (evI ?_)))));refine eZ Z (oN ?_);refine lQ (_, _, _) ?_ ?_
    · dsimp only
      subst hm2
      first
      | (refine ⟨by omega, by omega, rfl, by omega, ?_⟩; rw [hws, Ck hq0 (by omega), if_neg (by simpa using h3), S3]; done)
    · (show Int.toNat _ < Int.toNat _); omega
  simp only [HS] at h2;refine AN (tE (AJ (AI (tN (sG (eK 2 Z (nB (AQ (Le.gather (u := 4) (id := 8) Z Z (by omega)) (rT (eR ?_))))))))))
  · have hol : ol = [] := TM (by have := congrArg List.length hos; simp only [Sq, Sk] at this; omega)
    subst hol;rw [hm2, Sy, hws]; refine Km ?_; rw [Ef (by omega), hd.done hin hn0 hn1];rfl
open Go.Eng
theorem M1 (l : List Int) (n : Int) (hl : l.length ≤ 1073741824) : Fun Try.prog 88 [.t (T.ints l), .t (.int n)] (A2 [.t (.int (EI (fun x => decide (n = x)) l 0))]) := by
 refine Fun.begin tys Try.func88 Z Z (N := 19) [(0, .t (T.ints l)), (1, .t (.int n))] Z Z (fun w0 G F0 => ?_);refine sG (eZ Z (nB (sQ (sG (eZ Z (evE ?_))))));refine eZ Z (nB (AD ?_));refine lK (α := Int) [0, 1, 6, 7] [] (fun x => [(8, .t (.int x))]) (fun x => []) (fun x => 0 ≤ x ∧ x ≤ l.length ∧ EI (fun x => decide (n = x)) l 0 = EI (fun x => decide (n = x)) (l.drop x.toNat) x) (fun x => Int.toNat (l.length - x)) 0 ?_ (fun k hx => ?_)
 ·exact ⟨by omega, by omega, rfl⟩
 obtain ⟨hk0, hk1, hk2⟩ := hx
 refine nY Z (sG (eZ Z (nB (sQ ?_))));refine AB Z (fun h1 => ?_) (fun h1 => ?_)
 ·
  simp only [HS] at h1;refine AC (tN (sQ (AD (sG (eK 2 Z (nA (eK 3 Z ?_)))))));refine iY (k := ?_);refine eK 2 Z (kZ [0,1,5,6,7,8,9,10,11,12,13,14,15,16] Z (nB ?_));refine AB Z (fun h2 => ?_) (fun h2 => ?_)
  ·
   simp only [HS] at h2;refine sG (eK 2 Z (nB (rT (bR (tR (AP (bR (tR (eR ?_)))))))))
   ·refine Hc ?_
    rw [hk2, Hn hk0 h1]
    simp [h2]
    done
  simp only [HS] at h2;refine AC (bN (tN (rG (evI ?_))));refine eZ Z (oN ?_);refine lQ _ ?_ ?_
  ·skip
   refine ⟨by omega, by omega, ?_⟩; rw [hk2, Hn hk0 h1]; simp [h2]
  ·(show Int.toNat _ < Int.toNat _); omega
 simp only [HS] at h1;refine AN (tE (AJ (AI (tN (sG (eZ Z (nB (rT (eR ?_)))))))))
 ·refine Hc ?_
  rw [hk2, BC h1];rfl
theorem NF {l : List Int} {n : Int} : (l.any fun x => decide (n = x)) = decide (n ∈ l) := by
 rw [Bool.eq_iff_iff, Tk, decide_eq_true_eq]
 constructor
 ·rintro ⟨x, hx, he⟩
  have : n = x := of_decide_eq_true he
  subst this; exact hx
 ·exact fun h => ⟨n, h, decide_eq_true rfl⟩
theorem DQ (l : List Int) (n : Int) (hl : l.length ≤ 1073741824) : Fun Try.prog 55 [.t (T.ints l), .t (.int n)] (A2 [.t (.bool (decide (n ∈ l)))]) := by
 refine Fun.begin tys Try.func55 Z Z (N := 9) [(0, .t (T.ints l)), (1, .t (.int n))] Z Z (fun w0 G F0 => ?_);refine sG (eZ Z (nA (eK 2 Z (AM ?_))));refine ⟨_, M1 l n hl, rfl, ?_⟩;refine eK 2 Z (nB (rT (eR ?_)))
 ·refine retB ?_
  rw [← NF, ← Et (Tr 0)]
open Go.Eng
theorem FI {p : Prog} (hg : AS p = true) (n : Int) : (AO p n).length ≤ 5 := by
 have := Hg (N := p.funcs.length) (calls := BF p) (a := n)
 have := AX hg
 unfold AO; omega
theorem BQ {p : Prog} {n x : Int} (h : x ∈ AO p n) : 0 ≤ x ∧ x < p.funcs.length := (mem_pickN.1 h).1
open Go.Eng
def Cs (p : Prog) : List Int := C5 p.funcs.length fun k => !decide (k ∈ AO p 0)
def CK (p : Prog) : List Int := if AS p then Cs p else []
theorem Iw {p : Prog} (h : AS p = false) : [D.own (T.list 1 []), D.t (T.v (.bool false))] = [D.own (T.ints (CK p)), D.t (T.bool (AS p))] := by
 rw [CK, h]; rfl
theorem HQ {p : Prog} {l : List Int} (h : AS p = true) (hl : l = Cs p) : [D.own (T.list 1 (l.map T.int)), D.t (T.v (.bool true))] = [D.own (T.ints (CK p)), D.t (T.bool (AS p))] := by
 rw [CK, h, hl]; rfl
theorem HE (p : Prog) (hp : p.ok 1048576) : Fun Try.prog 31 [.t p.tt] (A2 [.own (T.ints (CK p)), .t (.bool (AS p))]) := by
 have hpl : p.funcs.length ≤ 1048576 := hp.1.1
 refine Fun.begin tys Try.func31 Z Z (N := 28) [(0, .t p.tt)] Z Z (fun w0 G F0 => ?_);refine sG (AV Z Z (AA Z) Z Z (nZ Z (eZ Z (WO_le (Le.nilOwn (u := 2) 1 Z) (nZ Z (eZ Z (nB (sQ (sG (eZ Z ?_))))))))))
 try refine WO_le (Le.freeze (u := 7) rfl) ?_
 refine nZ Z (AM ?_);refine ⟨_, Co p hp, rfl, ?_⟩;refine eZ Z (nB ?_);refine AB Z (fun h1 => ?_) (fun h1 => ?_)
 ·
  simp only [HS] at h1;refine sG (eZ Z (WO_le (Le.nilOwn (u := 2) 1 Z) (nZ Z (eZ Z (nB (rT (tR (eR ?_))))))))
  ·first
   | exact Iw h1
 simp only [HS] at h1;refine AC (tN (sG (eZ Z (WO_le (Le.nilOwn (u := 4) 1 Z) (WO_le (Le.adoptE (u := 4) 4 Z Z) (nZ Z (nB (sQ (kY [1,2,3,4] Z (rG (eZ Z ?_)))))))))))
 try refine WO_le (Le.freeze (u := 10) rfl) ?_
 refine nZ Z (CA Z Z (AA Z) Z Z Z Z Z (Fh p 0 hp h1 (by omega) (by have := AX h1; omega)) Z ?_);refine eZ Z (nB (sQ (sG (eK 2 Z (evE ?_)))));refine eZ Z (nB (AD ?_));refine lK (α := Int × Nat × List T) [5, 13, 14] [] (fun x => [(15, .t (.int (x.1))), (4, .sl 4 0 (x.2.1))]) (fun x => [(4, .L 1 (x.2.2))]) (fun x => 0 ≤ (x.1) ∧ (x.1) ≤ p.funcs.length ∧ (x.2.1) = (x.2.2).length ∧ (x.2.2).length ≤ (x.1) ∧ (x.2.2) = (IC p.funcs.length (fun k => !decide (k ∈ AO p 0)) (x.1)).map T.int) (fun x => Int.toNat (p.funcs.length - (x.1))) (0, 0, []) ?_ (fun x hx => ?_)
 ·exact ⟨by omega, by omega, rfl, by simp, rfl⟩
 obtain ⟨q, m, ws⟩ := x
 obtain ⟨hq0, hq1, hm, hwl, hws⟩ := hx
 dsimp only at hq0 hq1 hm hwl hws ⊢;refine nY Z (sG (eZ Z (nB (sQ ?_))));refine AB Z (fun h2 => ?_) (fun h2 => ?_)
 ·
  simp only [HS] at h2;refine AC (tN (sQ (AD (sG (eK 2 Z (nA (eK 2 Z (AM ?_))))))));refine ⟨_, Gm _ _ (by have := FI h1 0; omega), rfl, ?_⟩;refine eZ Z (nB ?_);refine AB Z (fun h3 => ?_) (fun h3 => ?_)
  ·
   simp only [HS] at h3;refine kY [4,5,6,13,14,15,16,17,18,19,20,21] Z (rG (eK 2 Z (bZ [T.int q] ?_)));refine nZ Z (AE tys Z Z (AA Z) Z Z Z Z Z (.own Z (by first | omega | (simp only [Sm]; omega))) Z (.own Z (by first | decide | omega)) (by decide) (by simp only [Sq, Sp, List.length_nil]; omega) (by decide) Z ?_);refine nZ Z (eZ Z (oN (bN (tN (rG (evI ?_))))));refine eZ Z (oN ?_);refine lQ (_, _, _) ?_ ?_
   ·dsimp only
    subst hm
    first
    | (refine ⟨by omega, by omega, by simp, by simp; omega, ?_⟩; rw [Sy, hws, Ck hq0 (by omega), if_pos (by simpa using h3), S5]; rfl)
   ·(show Int.toNat _ < Int.toNat _); omega
  simp only [HS] at h3;refine AC (bN (tN (kY [4,5,6,13,14,15,16,17,18,19,20,21] Z (rG (evI ?_)))));refine eZ Z (oN ?_);refine lQ (_, _, _) ?_ ?_
  ·dsimp only
   subst hm
   first
   | (refine ⟨by omega, by omega, rfl, by omega, ?_⟩; rw [hws, Ck hq0 (by omega), if_neg (by simpa using h3), S3]; done)
  ·(show Int.toNat _ < Int.toNat _); omega
 simp only [HS] at h2;refine AN (tE (AJ (AI (tN (sG (eK 3 Z (nB ?_)))))))
 (refine AQ (Le.gather (u := 2) (id := 4) rfl rfl (by omega)) ?_)
 refine rT (eR ?_)
 ·first
  | (rw [hm, Sy, hws]; exact HQ h1 (Ef (by omega)))
theorem FW (p : Prog) (hp : p.ok 1048576) (hg : AS p = true) : Fun Try.prog 58 [.t p.tt] (A2 [.own (T.ints (Cs p))]) := by
 have hgl := AX hg
 have hrl := FI hg 0
 refine Fun.begin tys Try.func58 Z Z (N := 24) [(0, .t p.tt)] Z Z (fun w0 G F0 => ?_);refine sG (AV Z Z (AA Z) Z Z (nZ Z (eZ Z (nA (eZ Z ?_)))))
 try refine WO_le (Le.freeze (u := 6) rfl) ?_
 refine nZ Z (AM ?_);refine ⟨_, IA p 0 hp hg (by omega) (by omega), rfl, ?_⟩;refine WO_le (Le.adoptE (u := 7) 7 Z (by first | exact Iq | exact Z)) ?_;refine nZ Z (eZ Z (nA (eZ Z (WO_le (Le.nilOwn (u := 4) 1 Z) (WO_le (Le.adoptE (u := 4) 4 Z Z) (nZ Z (nB (sQ (sG (eK 2 Z (evE ?_)))))))))));refine kZ [2,3,4,10] Z (eZ Z (nB (AD ?_)));refine lK (α := Int × Nat × List T) [3, 9, 10] [7] (fun x => [(11, .t (.int (x.1))), (4, .sl 4 0 (x.2.1))]) (fun x => [(4, .L 1 (x.2.2))]) (fun x => 0 ≤ (x.1) ∧ (x.1) ≤ p.funcs.length ∧ (x.2.1) = (x.2.2).length ∧ (x.2.2).length ≤ (x.1) ∧ (x.2.2) = (IC p.funcs.length (fun k => !decide (k ∈ AO p 0)) (x.1)).map T.int) (fun x => Int.toNat (p.funcs.length - (x.1))) (0, 0, []) ?_ (fun x hx => ?_)
 ·exact ⟨by omega, by omega, rfl, by simp, rfl⟩
 obtain ⟨q, m, ws⟩ := x
 obtain ⟨hq0, hq1, hm, hwl, hws⟩ := hx
 dsimp only at hq0 hq1 hm hwl hws ⊢;refine nY Z (sG (eZ Z (nB (sQ ?_))));refine AB Z (fun h1 => ?_) (fun h1 => ?_)
 ·
  simp only [HS] at h1;refine AC (tN (sQ (AD (sG (eK 2 Z (nA (eK 2 Z (AM ?_))))))));refine ⟨_, DQ _ _ (by omega), rfl, ?_⟩;refine eZ Z (nB ?_);refine AB Z (fun h2 => ?_) (fun h2 => ?_)
  ·
   simp only [HS] at h2;refine kY [3,4,5,9,10,11,12,13,14,15,16,17] Z (rG (eK 2 Z (bZ [T.int q] ?_)));refine nZ Z (AE tys Z Z (AA Z) Z Z Z Z Z (.own Z (by first | omega | (simp only [Sm]; omega))) Z (.own Z (by first | decide | omega)) (by decide) (by simp only [Sq, Sp, List.length_nil]; omega) (by decide) Z ?_);refine nZ Z (eZ Z (oN (bN (tN (rG (evI ?_))))));refine eZ Z (oN ?_);refine lQ (_, _, _) ?_ ?_
   ·dsimp only
    subst hm
    first
    | (refine ⟨by omega, by omega, by simp, by simp; omega, ?_⟩; rw [Sy, hws, Ck hq0 (by omega), if_pos (by simpa using h2), S5]; rfl)
   ·(show Int.toNat _ < Int.toNat _); omega
  simp only [HS] at h2;refine AC (bN (tN (kY [3,4,5,9,10,11,12,13,14,15,16,17] Z (rG (evI ?_)))));refine eZ Z (oN ?_);refine lQ (_, _, _) ?_ ?_
  ·dsimp only
   subst hm
   first
   | (refine ⟨by omega, by omega, rfl, by omega, ?_⟩; rw [hws, Ck hq0 (by omega), if_neg (by simpa using h2), S3]; done)
  ·(show Int.toNat _ < Int.toNat _); omega
 simp only [HS] at h1;refine AN (tE (AJ (AI (tN (sG (eK 2 Z (nB (AQ (Le.gather (u := 2) (id := 4) Z Z (by omega)) (rT (eR ?_))))))))))
 ·(rw [hm, Sy, hws]; exact Km (Ef (by omega)))
theorem D4 (p : Prog) (hp : p.ok 1048576) : Fun Try.prog 30 [.t p.tt] (A2 [.own (T.ints (CK p)), .t (.bool (AS p))]) := by
 refine Fun.begin tys Try.func30 Z Z (N := 9) [(0, .t p.tt)] Z Z (fun w0 G F0 => ?_);refine sG (AV Z Z (AA Z) Z Z (nZ Z (eZ Z (WO_le (Le.nilOwn (u := 2) 1 Z) (nZ Z (eZ Z (nB (sQ (sG (eZ Z ?_))))))))))
 try refine WO_le (Le.freeze (u := 4) rfl) ?_
 refine nZ Z (AM ?_);refine ⟨_, DA p hp, rfl, ?_⟩;refine eZ Z (nB ?_);refine AB Z (fun h1 => ?_) (fun h1 => ?_)
 ·
  simp only [HS] at h1;refine sG (eZ Z (WO_le (Le.nilOwn (u := 2) 1 Z) (nZ Z (eZ Z (nB (rT (tR (eR ?_))))))))
  ·first
   | exact Iw h1
 simp only [HS] at h1;refine AC (tN (sG (eZ Z ?_)))
 try refine WO_le (Le.freeze (u := 7) rfl) ?_
 refine nZ Z (AM ?_);refine ⟨_, FW p hp h1, rfl, ?_⟩;refine A0 Z Z (AA Z) (.inl Z) Z Z (kZ [2,3] Z (eZ Z (nB (rT (eR ?_)))))
 ·first
  | exact HQ h1 rfl
theorem Ka (p : Prog) : (CK p).length ≤ p.funcs.length := by
 unfold CK;split
 ·exact C4 ..
 ·exact Tm _
open Go.Eng
def w64 (n : Int) : Int := IntKind.i64.wrap n
def w32 (n : Int) : Int := IntKind.i64.wrap (IntKind.i32.wrap n)
def reckS (op x y : Int) : Option Int :=
 if op = 3 then some (w32 (w64 (x + y))) else if op = 4 then some (w32 (w64 (x - y))) else if op = 5 then some (w32 (w64 (x * y)))
 else if op = 6 then (if y = 0 then none else some (w32 (w64 (x.tdiv y)))) else if op = 7 then some (if x < y then 1 else 0) else some (if x = y then 1 else 0)
structure Ms where
 used : Nat
 fuel : Nat
 deep : Nat
 trace : List Int
structure By where
 how : Int
 pan : Int
 exd : Bool
structure Sx where
 m : Ms
 vars : List Int
 off : List Int
 res : Int
 by' : Option By
def KW : Option By → Int × Option By
 | none => (0, none)
 | some b => if b.how = 2 then (b.pan, some ⟨if b.exd then 3 else 1, b.pan, b.exd⟩) else (0, some b)
def inS (inp : List Int) (m : Ms) : Int × Ms := if m.used < inp.length then ((inp[m.used]?).getD 0, ⟨m.used + 1, m.fuel, m.deep, m.trace⟩) else (0, m)
def tokX (cal : Int → List Int → Ms → Int × Int × Ms) (ps : List Int) (inp : List Int) (t : Tok) (pile : List Int) (s : Sx) : Int × Int × List Int × Sx :=
 if t.op = 1 then (0, 0, pile ++ [t.n], s)
 else if t.op = 2 then (0, 0, pile ++ [atI s.vars t.n], s)
 else if t.op = 9 then (0, 0, pile ++ [(inS inp s.m).1], { s with m := (inS inp s.m).2 })
 else if t.op = 10 then (0, 0, pile ++ [(KW s.by').1], { s with by' := (KW s.by').2 })
 else if t.op = 11 then
  let k := pile.length - (atI ps t.n).toNat
  let r := cal t.n (pile.drop k) s.m
  if r.1 = 1 then (0, 0, pile.take k ++ [r.2.1], { s with m := r.2.2 }) else (r.1, r.2.1, pile, { s with m := r.2.2 })
 else match reckS t.op ((pile[pile.length - 2]?).getD 0) ((pile[pile.length - 1]?).getD 0) with
  | none => (2, -1, pile, s)
  | some v => (0, 0, pile.take (pile.length - 2) ++ [v], s)
def exprS (cal : Int → List Int → Ms → Int × Int × Ms) (ps : List Int) (inp : List Int) : List Tok → List Int → Sx → Int × Int × Sx
 | [], pile, s => (0, (pile[0]?).getD 0, s)
 | t :: l, pile, s => let r := tokX cal ps inp t pile s
  if r.1 = 0 then exprS cal ps inp l r.2.2.1 r.2.2.2 else (r.1, r.2.1, r.2.2.2)
def blockS (st : Stmt → Sx → Int × Int × Sx) (f : Func) : List Int → Sx → Int × Int × Sx
 | [], s => (0, 0, s)
 | k :: l, s => let r := st (stmtAt f k) s
  if r.1 = 0 then blockS st f l r.2.2 else r
structure Lev where
 stmt : Func → Stmt → Sx → Int × Int × Sx
 call : Int → List Int → Option By → Ms → Int × Int × Option By × Ms
def Lev.cal (L : Lev) (fn : Int) (args : List Int) (m : Ms) : Int × Int × Ms := ((L.call fn args none m).1, (L.call fn args none m).2.1, (L.call fn args none m).2.2.2)
def A6 (m : Ms) : Ms := ⟨m.used, m.fuel - 1, m.deep, m.trace⟩
def doS (L : Lev) (f : Func) (t : Stmt) (v : Int) (s : Sx) : Int × Int × Sx :=
 if t.kind = 1 then (0, 0, { s with vars := s.vars.set t.n.toNat v })
 else if t.kind = 2 then (0, 0, { s with m := ⟨s.m.used, s.m.fuel, s.m.deep, s.m.trace ++ [v]⟩ })
 else if t.kind = 4 then (2, v, s)
 else if t.kind = 5 then (1, 0, { s with res := v })
 else if t.kind = 7 then (if v ≠ 0 then blockS (L.stmt f) f t.thn s else blockS (L.stmt f) f t.els s)
 else if t.kind = 8 then (if v = 0 then (0, 0, s) else
  let r := blockS (L.stmt f) f t.thn s
  if r.1 = 0 then L.stmt f t r.2.2 else r)
 else (0, 0, s)
def FC (L : Lev) (ps inp : List Int) (f : Func) (t : Stmt) (s : Sx) : Int × Int × Sx :=
 if s.m.fuel = 0 then (5, 0, s)
 else if t.kind = 3 then (0, 0, { s with m := A6 s.m, off := s.off ++ [t.n] })
 else if t.kind = 6 then (3, 0, { s with m := A6 s.m })
 else
  let r := exprS L.cal ps inp t.ex [] { s with m := A6 s.m }
  if r.1 = 0 then doS L f t r.2.1 r.2.2 else r
def offR (cal : Int → Option By → Ms → Int × Int × Option By × Ms) : List Int → By → Ms → Int × By × Ms
 | [], b, m => (0, b, m)
 | k :: l, b, m => let r := cal k (some b) m
  let b1 := r.2.2.1.getD b
  if 4 ≤ r.1 then (r.1, b1, r.2.2.2) else if r.1 = 1 then offR cal l b1 r.2.2.2
  else offR cal l ⟨r.1, if r.1 = 2 then r.2.1 else b1.pan, b1.exd || decide (r.1 = 3)⟩ r.2.2.2
def setL (n : Nat) (args : List Int) : List Int := args ++ (List.replicate n 0).drop args.length
def startS (f : Func) (args : List Int) (b : Option By) (m : Ms) : Sx := ⟨⟨m.used, m.fuel - 1, m.deep + 1, m.trace⟩, setL f.vars.toNat args, [], 0, b⟩
def endS (h v : Int) : By := ⟨if h = 0 then 1 else h, if h = 2 then v else 0, decide (h = 3)⟩
def Ez (L : Lev) (p : Prog) (most : Nat) (fn : Int) (args : List Int) (b : Option By) (m : Ms) : Int × Int × Option By × Ms :=
 if m.fuel = 0 then (5, 0, b, m)
 else if m.deep = most then (4, 0, b, A6 m)
 else
  let f := funcAt p fn
  let r := blockS (L.stmt f) f f.body (startS f args b m)
  if 4 ≤ r.1 then (r.1, 0, r.2.2.by', r.2.2.m)
  else
   let q := offR (fun k b m => L.call k [] b m) r.2.2.off.reverse (endS r.1 r.2.1) r.2.2.m
   if 4 ≤ q.1 then (q.1, 0, r.2.2.by', q.2.2)
   else (q.2.1.how, if q.2.1.how = 2 then q.2.1.pan else r.2.2.res, r.2.2.by', ⟨q.2.2.used, q.2.2.fuel, q.2.2.deep - 1, q.2.2.trace⟩)
def lev (p : Prog) (inp : List Int) (most : Nat) : Nat → Lev
 | 0 => ⟨fun _ _ s => (5, 0, s), fun _ _ b m => (5, 0, b, m)⟩
 | n + 1 => ⟨FC (lev p inp most n) (paramsL p) inp, Ez (lev p inp most n) p most⟩
/-! ### What it keeps to -/
def Ms.le (inp : List Int) (m m' : Ms) : Prop := m'.fuel ≤ m.fuel ∧ m'.trace.length + m'.fuel ≤ m.trace.length + m.fuel ∧ m'.used ≤ inp.length
theorem Ms.le.trans {inp : List Int} {a b c : Ms} (h : a.le inp b) (k : b.le inp c) : a.le inp c := ⟨TQ k.1 h.1, TQ k.2.1 h.2.1, k.2.2⟩
structure Sx.ok (p : Prog) (inp : List Int) (f : Func) (s : Sx) : Prop where
 vars : s.vars.length = f.vars.toNat
 off : ∀ x, x ∈ s.off → 0 ≤ x ∧ x < p.funcs.length ∧ atI (paramsL p) x = 0
 used : s.m.used ≤ inp.length
def ByOk (b : Option By) : Prop := ∀ x, b = some x → 1 ≤ x.how ∧ x.how < 4
structure Sx.to (p : Prog) (inp : List Int) (f : Func) (h : Int) (s s' : Sx) : Prop where
 ok : s'.ok p inp f
 le : s.m.le inp s'.m
 offl : s'.off.length + s'.m.fuel ≤ s.off.length + s.m.fuel
 h0 : 0 ≤ h
 h5 : h ≤ 5
 deep : h < 4 → s'.m.deep = s.m.deep
 by' : s'.by'.isSome = s.by'.isSome
 byk : ByOk s.by' → ByOk s'.by'
structure Ms.to (inp : List Int) (h : Int) (b b' : Option By) (m m' : Ms) : Prop where
 le : m.le inp m'
 h1 : 1 ≤ h
 h5 : h ≤ 5
 deep : h < 4 → m'.deep = m.deep
 by' : b'.isSome = b.isSome
 byk : ByOk b → ByOk b'
theorem Sx.to.trans {p : Prog} {inp : List Int} {f : Func} {h h' : Int} {a b c : Sx} (x : Sx.to p inp f h a b) (y : Sx.to p inp f h' b c) (hx : h < 4) : Sx.to p inp f h' a c :=
 ⟨y.ok, x.le.trans y.le, TQ y.offl x.offl, y.h0, y.h5, fun hh => (y.deep hh).trans (x.deep hx), y.by'.trans x.by', fun h => y.byk (x.byk h)⟩
theorem Sx.to.refl {p : Prog} {inp : List Int} {f : Func} {a : Sx} (h : a.ok p inp f) {e : Int} (h0 : 0 ≤ e) (h5 : e ≤ 5) : Sx.to p inp f e a a :=
 ⟨h, ⟨S2 _, S2 _, h.used⟩, S2 _, h0, h5, fun _ => rfl, rfl, id⟩
def inF' (f : Func) (b : List Int) : Prop := ∀ x, x ∈ b → 0 ≤ x ∧ x < f.stmts.length
structure KU (p : Prog) (inp : List Int) (L : Lev) : Prop where
 stmt : ∀ f, f ∈ p.funcs → ∀ t, t ∈ f.stmts → ∀ s : Sx, s.ok p inp f → Sx.to p inp f (L.stmt f t s).1 s (L.stmt f t s).2.2
 call : ∀ (fn : Int) (args : List Int) (b : Option By) (m : Ms), 0 ≤ fn → fn < p.funcs.length → args.length = (atI (paramsL p) fn).toNat → m.used ≤ inp.length → Ms.to inp (L.call fn args b m).1 b (L.call fn args b m).2.2.1 m (L.call fn args b m).2.2.2
section
variable {p : Prog} {inp : List Int} {f : Func} {L : Lev}
theorem Ms.to_s {s : Sx} {h : Int} {m' : Ms} {b b' : Option By} (hs : s.ok p inp f) (ht : Ms.to inp h b b' s.m m') : Sx.to p inp f h s { s with m := m' } :=
 ⟨⟨hs.vars, hs.off, ht.le.2.2⟩, ht.le, by have := ht.le.1; show s.off.length + m'.fuel ≤ _; omega, by have := ht.h1; omega, ht.h5, ht.deep, rfl, id⟩
theorem inS_le {m : Ms} (h : m.used ≤ inp.length) : m.le inp (inS inp m).2 ∧ (inS inp m).2.deep = m.deep ∧ (inS inp m).2.fuel = m.fuel := by
 unfold inS;split
 ·exact ⟨⟨S2 _, S2 _, by assumption⟩, rfl, rfl⟩
 ·exact ⟨⟨S2 _, S2 _, h⟩, rfl, rfl⟩
theorem JO (b : Option By) : (KW b).2.isSome = b.isSome := by
 unfold KW;split
 ·rfl
 ·split <;> rfl
theorem Rv {b : Option By} (h : ByOk b) : ByOk (KW b).2 := by
 unfold KW;split
 ·exact h
 ·split
  ·intro x hx
   cases hx;dsimp only
   split <;> omega
  ·exact h
theorem Nd (hL : KU p inp L) (hg : AS p = true) {vs : Int} {t : Tok} {pile : List Int} {s : Sx} (hs : s.ok p inp f) (hk : knownT vs (paramsL p).length t = true) (hn : As (paramsL p) t ≤ pile.length) :
  Sx.to p inp f (tokX L.cal (paramsL p) inp t pile s).1 s (tokX L.cal (paramsL p) inp t pile s).2.2.2 ∧
  ((tokX L.cal (paramsL p) inp t pile s).1 = 0 → ((tokX L.cal (paramsL p) inp t pile s).2.2.1.length : Int) = pile.length + (1 - As (paramsL p) t)) := by
 have hps := IM hg
 have h0 := Sx.to.refl hs (e := 0) (by omega) (by omega)
 unfold tokX
 by_cases o1 : t.op = 1
 ·rw [if_pos o1]
  exact ⟨h0, fun _ => by simp [As, o1]⟩
 rw [if_neg o1]
 by_cases o2 : t.op = 2
 ·rw [if_pos o2]
  exact ⟨h0, fun _ => by simp [As, o2]⟩
 rw [if_neg o2]
 by_cases o9 : t.op = 9
 ·rw [if_pos o9]
  obtain ⟨g1, g2, g3⟩ := inS_le hs.used
  exact ⟨⟨⟨hs.vars, hs.off, g1.2.2⟩, g1, by show s.off.length + (inS inp s.m).2.fuel ≤ _; omega, by show (0 : Int) ≤ 0; omega, by show (0 : Int) ≤ 5; omega, fun _ => g2, rfl, id⟩, fun _ => by simp [As, o9]⟩
 rw [if_neg o9]
 by_cases o10 : t.op = 10
 ·rw [if_pos o10]
  exact ⟨⟨⟨hs.vars, hs.off, hs.used⟩, h0.le, h0.offl, h0.h0, h0.h5, fun _ => rfl, JO _, Rv⟩, fun _ => by simp [As, o10]⟩
 rw [if_neg o10]
 by_cases o11 : t.op = 11
 ·rw [if_pos o11]
  obtain ⟨k0, k1⟩ := DM hk o11
  rw [BL] at k1
  have hne : As (paramsL p) t = atI (paramsL p) t.n := by simp [As, o11]
  have hb := LF hps t.n
  rw [hne] at hn ⊢
  have hc := hL.call t.n (pile.drop (pile.length - (atI (paramsL p) t.n).toNat)) none s.m k0 k1 (by rw [Te]; omega) hs.used
  dsimp only [Lev.cal];split
  ·rename_i h
   rw [h] at hc
   have := Ms.to_s hs hc
   refine ⟨⟨this.ok, this.le, this.offl, by show (0 : Int) ≤ 0; omega, by show (0 : Int) ≤ 5; omega, fun _ => hc.deep (by omega), rfl, id⟩, fun _ => ?_⟩;simp only [Sm, Sq, Sp, List.length_nil];omega
  ·rename_i h
   refine ⟨Ms.to_s hs hc, fun hz => ?_⟩
   have := hc.h1
   have hz' : (L.call t.n (pile.drop (pile.length - (atI (paramsL p) t.n).toNat)) none s.m).1 = 0 := hz
   omega
 rw [if_neg o11]
 have hop : 3 ≤ t.op ∧ t.op ≤ 8 := by
  unfold knownT at hk;rw [if_neg o1, if_neg o2, if_neg o11] at hk;simp only [Sl, decide_eq_true_eq] at hk;omega
 have hne : As (paramsL p) t = 2 := by simp [As, hop]
 split
 ·exact ⟨Sx.to.refl hs (e := 2) (by omega) (by omega), fun h => by simp at h⟩
 ·refine ⟨h0, fun _ => ?_⟩
  rw [hne] at hn ⊢;simp only [Sm, Sq, Sp, List.length_nil];omega
theorem IU (hL : KU p inp L) (hg : AS p = true) {vs : Int} : ∀ {l : List Tok} {pile : List Int} {s : Sx} {mx : Int} {r : Int × Int}, s.ok p inp f → C3 vs (paramsL p) l pile.length mx = some r →
  Sx.to p inp f (exprS L.cal (paramsL p) inp l pile s).1 s (exprS L.cal (paramsL p) inp l pile s).2.2
 | [], pile, s, mx, r, hs, _ => Sx.to.refl hs (by show (0 : Int) ≤ 0; omega) (by show (0 : Int) ≤ 5; omega)
 | t :: l, pile, s, mx, r, hs, hr => by
  rw [C3] at hr;split at hr
  ·rename_i hc
   rw [Sl, decide_eq_true_eq] at hc
   obtain ⟨h1, h2⟩ := Nd hL hg hs hc.1 hc.2
   rw [exprS];split
   ·rename_i h0
    rw [← h2 h0] at hr;exact h1.trans (IU hL hg h1.ok hr) (by omega)
   ·exact h1
  ·cases hr
theorem Cf {st : Stmt → Sx → Int × Int × Sx} (hst : ∀ t, t ∈ f.stmts → ∀ s : Sx, s.ok p inp f → Sx.to p inp f (st t s).1 s (st t s).2.2) : ∀ {b : List Int} {s : Sx}, inF' f b → s.ok p inp f → Sx.to p inp f (blockS st f b s).1 s (blockS st f b s).2.2
 | [], s, _, hs => Sx.to.refl hs (by show (0 : Int) ≤ 0; omega) (by show (0 : Int) ≤ 5; omega)
 | k :: b, s, hb, hs => by
  have hk := hb k (by simp)
  have hm : stmtAt f k ∈ f.stmts := by rw [← GK (by omega)]; exact Ss _
  have h1 := hst _ hm s hs
  rw [blockS];split
  ·rename_i h0
   exact h1.trans (Cf hst (fun x hx => hb x (by simp [hx])) h1.ok) (by omega)
  ·exact h1
theorem Sx.ok.burn {s : Sx} (h : s.ok p inp f) (hf : s.m.fuel ≠ 0) : Sx.to p inp f 0 s { s with m := A6 s.m } := by
 refine ⟨⟨h.vars, h.off, h.used⟩, ⟨?_, ?_, h.used⟩, ?_, by omega, by omega, fun _ => rfl, rfl, id⟩
 ·show s.m.fuel - 1 ≤ s.m.fuel; omega
 ·show s.m.trace.length + (s.m.fuel - 1) ≤ _; omega
 ·show s.off.length + (s.m.fuel - 1) ≤ _; omega
theorem Hb {f : Func} (h : Ag f = true) : Bm f.stmts.length (kids f.stmts) ∧ inB f.stmts.length 0 f.body ∧ ord f.stmts.length (kids f.stmts) f.body = Bs f.stmts.length := by
 unfold Ag at h;simp only [Sl] at h;exact shapeB_iff.1 h.2.2.1
theorem L2 {f : Func} (hsh : Ag f = true) {t : Stmt} (ht : t ∈ f.stmts) : inF' f t.thn ∧ inF' f t.els ∧ inF' f f.body := by
 obtain ⟨hd, hb, _⟩ := Hb hsh
 obtain ⟨i, hi, rfl⟩ := TH ht
 have h := hd i (by omega) (by omega)
 rw [kids_at (by omega)] at h;exact ⟨fun x hx => ⟨by have := (h.1 x hx).1; omega, (h.1 x hx).2⟩, fun x hx => ⟨by have := (h.2 x hx).1; omega, (h.2 x hx).2⟩, fun x hx => hb x hx⟩
theorem IZ {f : Func} (hsh : Ag f = true) : inF' f f.body := fun x hx => (Hb hsh).2.1 x hx
theorem I2 {vars : Int} {ps : List Int} {t : Stmt} (h : BJ vars ps t = true) (h3 : t.kind ≠ 3) (h6 : t.kind ≠ 6) : ∃ m : Int, C3 vars ps t.ex 0 0 = some (1, m) := by
 have hx : CN vars ps t.ex = true := by
  rcases stmtG_ex h with h' | h'
  ·exfalso
   revert h
   grind [BJ, Ah, CN, C3]
  ·exact h'
 unfold CN at hx
 cases hr : C3 vars ps t.ex 0 0 with
 | none => rw [hr] at hx; cases hx
 | some q =>
  obtain ⟨a, m⟩ := q
  rw [hr] at hx;simp only [Sl, decide_eq_true_eq] at hx;exact ⟨m, by rw [hx.1]⟩
theorem P4 (hL : KU p inp L) (hg : AS p = true) (hf : f ∈ p.funcs) {t : Stmt} (ht : t ∈ f.stmts) {s : Sx} (hs : s.ok p inp f) : Sx.to p inp f (FC L (paramsL p) inp f t s).1 s (FC L (paramsL p) inp f t s).2.2 := by
 obtain ⟨q, hq, rfl⟩ := TH hf
 have hgf := DP hg hq
 have hsh := EJ hgf
 have hst : BJ (p.funcs[q]).vars (paramsL p) t = true := by
  obtain ⟨i, hi, rfl⟩ := TH ht
  exact IP hgf hi
 obtain ⟨hk1, hk2, _⟩ := L2 hsh ht
 unfold FC
 by_cases hz : s.m.fuel = 0
 ·rw [if_pos hz]
  exact Sx.to.refl hs (by show (0 : Int) ≤ 5; omega) (by show (5 : Int) ≤ 5; omega)
 rw [if_neg hz]
 have hb := hs.burn hz
 by_cases k3 : t.kind = 3
 ·rw [if_pos k3]
  obtain ⟨n0, n1, _⟩ := I3 hst k3
  have hn : atI (paramsL p) t.n = 0 := by
   unfold BJ at hst;rw [if_pos k3, Sl, decide_eq_true_eq] at hst;exact hst.2
  rw [BL] at n1;refine ⟨⟨hs.vars, fun x hx => ?_, hs.used⟩, hb.le, ?_, by show (0 : Int) ≤ 0; omega, by show (0 : Int) ≤ 5; omega, fun _ => rfl, rfl, id⟩
  ·rcases So.1 hx with hx | hx
   ·exact hs.off x hx
   ·rw [S1] at hx
    subst hx;exact ⟨n0, n1, hn⟩
  ·show (s.off ++ [t.n]).length + (s.m.fuel - 1) ≤ _
   simp only [Sm, Sp, List.length_nil];omega
 rw [if_neg k3]
 by_cases k6 : t.kind = 6
 ·rw [if_pos k6]
  exact ⟨hb.ok, hb.le, hb.offl, by show (0 : Int) ≤ 3; omega, by show (3 : Int) ≤ 5; omega, fun _ => rfl, rfl, id⟩
 rw [if_neg k6]
 obtain ⟨mx, hr⟩ := I2 hst k3 k6
 have he := IU hL hg (pile := []) hb.ok (l := t.ex) (mx := 0) (by simpa using hr)
 dsimp only;generalize exprS L.cal (paramsL p) inp t.ex [] { s with m := A6 s.m } = r at he
 obtain ⟨h, v, s2⟩ := r
 dsimp only at he ⊢
 have h1 := hb.trans he (by omega)
 split
 ·rename_i hh
  subst hh;unfold doS;dsimp only
  have hok := he.ok
  split
  ·exact h1.trans ⟨⟨by rw [TN]; exact hok.vars, hok.off, hok.used⟩, ⟨S2 _, S2 _, hok.used⟩, S2 _, by show (0 : Int) ≤ 0; omega, by show (0 : Int) ≤ 5; omega, fun _ => rfl, rfl, id⟩ (by omega)
  split
  ·have hfu : s2.m.trace.length + 1 + s2.m.fuel ≤ s.m.trace.length + s.m.fuel := by
    have a1 : s2.m.trace.length + s2.m.fuel ≤ s.m.trace.length + (s.m.fuel - 1) := he.le.2.1
    omega
   refine ⟨⟨hok.vars, hok.off, hok.used⟩, ⟨h1.le.1, ?_, hok.used⟩, h1.offl, by show (0 : Int) ≤ 0; omega, by show (0 : Int) ≤ 5; omega, fun _ => h1.deep (by omega), h1.by', h1.byk⟩;show (s2.m.trace ++ [v]).length + s2.m.fuel ≤ _;simp only [Sm, Sp, List.length_nil];omega
  split
  ·exact ⟨h1.ok, h1.le, h1.offl, by show (0 : Int) ≤ 2; omega, by show (2 : Int) ≤ 5; omega, fun _ => h1.deep (by omega), h1.by', h1.byk⟩
  split
  ·exact ⟨⟨hok.vars, hok.off, hok.used⟩, h1.le, h1.offl, by show (0 : Int) ≤ 1; omega, by show (1 : Int) ≤ 5; omega, fun _ => h1.deep (by omega), h1.by', h1.byk⟩
  split
  ·split
   ·exact h1.trans (Cf (hL.stmt _ hf) hk1 hok) (by omega)
   ·exact h1.trans (Cf (hL.stmt _ hf) hk2 hok) (by omega)
  split
  ·split
   ·exact h1
   ·have hbl := Cf (hL.stmt _ hf) hk1 hok
    split
    ·rename_i h0
     exact h1.trans (hbl.trans (hL.stmt _ hf _ ht _ hbl.ok) (by omega)) (by omega)
    ·exact h1.trans hbl (by omega)
  ·exact h1
 ·exact h1
theorem Ku {cal : Int → Option By → Ms → Int × Int × Option By × Ms} (hc : ∀ (k : Int) (b : Option By) (m : Ms), 0 ≤ k → k < p.funcs.length → atI (paramsL p) k = 0 → m.used ≤ inp.length → Ms.to inp (cal k b m).1 b (cal k b m).2.2.1 m (cal k b m).2.2.2) :
  ∀ {l : List Int} {b : By} {m : Ms}, (∀ x, x ∈ l → 0 ≤ x ∧ x < p.funcs.length ∧ atI (paramsL p) x = 0) → m.used ≤ inp.length → 1 ≤ b.how → b.how < 4 →
   m.le inp (offR cal l b m).2.2 ∧ 0 ≤ (offR cal l b m).1 ∧ (offR cal l b m).1 ≤ 5 ∧ ((offR cal l b m).1 < 4 → (offR cal l b m).2.2.deep = m.deep ∧ 1 ≤ (offR cal l b m).2.1.how ∧ (offR cal l b m).2.1.how < 4)
 | [], b, m, _, hu, h1, h2 => ⟨⟨S2 _, S2 _, hu⟩, by show (0 : Int) ≤ 0; omega, by show (0 : Int) ≤ 5; omega, fun _ => ⟨rfl, h1, h2⟩⟩
 | k :: l, b, m, hl, hu, h1, h2 => by
  obtain ⟨q0, q1, q2⟩ := hl k (by simp)
  have hk := hc k (some b) m q0 q1 q2 hu
  rw [offR]
  have hb1 : ∃ b1, (cal k (some b) m).2.2.1 = some b1 := by
   have := hk.by'
   cases h : (cal k (some b) m).2.2.1 with
   | none => rw [h] at this; cases this
   | some b1 => exact ⟨b1, rfl⟩
  have hH1 := hk.h1
  split
  ·rename_i h4
   exact ⟨hk.le, by omega, hk.h5, fun h => by omega⟩
  ·rename_i h4
   split
   ·rename_i e1
    obtain ⟨b1, hb1⟩ := hb1
    have hbk := hk.byk (fun x hx => by cases hx; exact ⟨h1, h2⟩) b1 hb1
    rw [hb1]
    have ih := Ku hc (l := l) (b := b1) (m := (cal k (some b) m).2.2.2) (fun x hx => hl x (by simp [hx])) hk.le.2.2 hbk.1 hbk.2
    exact ⟨hk.le.trans ih.1, ih.2.1, ih.2.2.1, fun h => ⟨((ih.2.2.2 h).1).trans (hk.deep (by omega)), (ih.2.2.2 h).2⟩⟩
   ·rename_i e1
    have ih := Ku hc (l := l) (b := ⟨(cal k (some b) m).1, if (cal k (some b) m).1 = 2 then (cal k (some b) m).2.1 else ((cal k (some b) m).2.2.1.getD b).pan, ((cal k (some b) m).2.2.1.getD b).exd || decide ((cal k (some b) m).1 = 3)⟩) (m := (cal k (some b) m).2.2.2) (fun x hx => hl x (by simp [hx])) hk.le.2.2 hH1 (by show (cal k (some b) m).1 < 4; omega)
    exact ⟨hk.le.trans ih.1, ih.2.1, ih.2.2.1, fun h => ⟨((ih.2.2.2 h).1).trans (hk.deep (by omega)), (ih.2.2.2 h).2⟩⟩
theorem Cc {p : Prog} {n : Int} (h0 : 0 ≤ n) (h1 : n < p.funcs.length) : funcAt p n ∈ p.funcs := by rw [← Ax (by omega)]; exact Ss _
theorem BM {p : Prog} {n : Int} (h0 : 0 ≤ n) (h1 : n < p.funcs.length) : atI (paramsL p) n = (funcAt p n).params := by rw [Bj h0 h1, ← Ax (by omega)]
theorem Dc {p : Prog} (hg : AS p = true) {f : Func} (hf : f ∈ p.funcs) : 0 ≤ f.params ∧ f.params ≤ 2 ∧ f.params ≤ f.vars ∧ f.vars ≤ 6 ∧ Ag f = true ∧ f.stmts.length ≤ 16 := by
 obtain ⟨q, hq, rfl⟩ := TH hf
 have hgf := DP hg hq
 have hsh := EJ hgf
 have hl := Ol hgf
 have h := hsh
 unfold Ag at h;rw [Sl] at h
 have h2 := h.1
 unfold DZ at h2;simp only [Sl, decide_eq_true_eq] at h2;exact ⟨h2.1.1, h2.1.2, h2.2.1.1, h2.2.1.2, hsh, hl⟩
theorem QA {n : Nat} {args : List Int} (h : args.length ≤ n) : (setL n args).length = n := by simp [setL]; omega
theorem I4 {p : Prog} {inp : List Int} {f : Func} {args : List Int} {b : Option By} {m : Ms} (ha : args.length ≤ f.vars.toNat) (hu : m.used ≤ inp.length) : (startS f args b m).ok p inp f :=
 ⟨QA ha, (fun x hx => absurd hx List.not_mem_nil), hu⟩
theorem O4 {h v : Int} (h0 : 0 ≤ h) (h4 : h < 4) : 1 ≤ (endS h v).how ∧ (endS h v).how < 4 := by
 unfold endS;dsimp only
 split <;> omega
theorem Q9 (hL : KU p inp L) (hg : AS p = true) {most : Nat} {fn : Int} {args : List Int} {b : Option By} {m : Ms} (h0 : 0 ≤ fn) (h1 : fn < p.funcs.length) (ha : args.length = (atI (paramsL p) fn).toNat) (hu : m.used ≤ inp.length) :
  Ms.to inp (Ez L p most fn args b m).1 b (Ez L p most fn args b m).2.2.1 m (Ez L p most fn args b m).2.2.2 := by
 have hm := Cc h0 h1
 obtain ⟨g1, g2, g3, g4, hsh, g6⟩ := Dc hg hm
 rw [BM h0 h1] at ha;unfold Ez
 by_cases hz : m.fuel = 0
 ·rw [if_pos hz]; exact ⟨⟨S2 _, S2 _, hu⟩, by show (1 : Int) ≤ 5; omega, by show (5 : Int) ≤ 5; omega, fun _ => rfl, rfl, id⟩
 rw [if_neg hz]
 by_cases hd : m.deep = most
 ·rw [if_pos hd]; exact ⟨⟨by show m.fuel - 1 ≤ m.fuel; omega, by show m.trace.length + (m.fuel - 1) ≤ _; omega, hu⟩, by show (1 : Int) ≤ 4; omega, by show (4 : Int) ≤ 5; omega, fun _ => rfl, rfl, id⟩
 rw [if_neg hd];dsimp only
 have hs := I4 (p := p) (inp := inp) (f := funcAt p fn) (args := args) (b := b) (m := m) (by omega) hu
 have hb := Cf (hL.stmt _ hm) (IZ hsh) hs
 generalize blockS (L.stmt (funcAt p fn)) (funcAt p fn) (funcAt p fn).body (startS (funcAt p fn) args b m) = r at hb
 obtain ⟨h, v, s1⟩ := r
 dsimp only at hb ⊢
 have e1 : s1.m.fuel ≤ m.fuel - 1 := hb.le.1
 have e2 : s1.m.trace.length + s1.m.fuel ≤ m.trace.length + (m.fuel - 1) := hb.le.2.1
 have hl1 : m.le inp s1.m := ⟨by omega, by omega, hb.le.2.2⟩
 have hh0 := hb.h0
 have hh5 := hb.h5
 split
 ·rename_i h4
  exact ⟨hl1, by show (1 : Int) ≤ h; omega, hb.h5, fun h => by omega, hb.by', hb.byk⟩
 ·rename_i h4
  have he := O4 (v := v) hb.h0 (by omega)
  have ho := Ku (p := p) (inp := inp) (cal := fun k b m => L.call k [] b m) (fun k b m k0 k1 k2 ku => hL.call k [] b m k0 k1 (by rw [k2]; rfl) ku) (l := s1.off.reverse) (b := endS h v) (m := s1.m) (fun x hx => hb.ok.off x (by simpa using hx)) hb.ok.used he.1 he.2
  generalize offR (fun k b m => L.call k [] b m) s1.off.reverse (endS h v) s1.m = q at ho
  obtain ⟨h2, b2, m2⟩ := q
  dsimp only at ho ⊢
  obtain ⟨o1, o2, o3, o4⟩ := ho
  split
  ·rename_i h5
   exact ⟨hl1.trans o1, by show (1 : Int) ≤ h2; omega, o3, fun h => by omega, hb.by', hb.byk⟩
  ·rename_i h5
   obtain ⟨p1, p2, p3⟩ := o4 (by omega)
   have hd1 : s1.m.deep = m.deep + 1 := hb.deep (by omega)
   refine ⟨⟨(hl1.trans o1).1, (hl1.trans o1).2.1, o1.2.2⟩, p2, by show b2.how ≤ 5; omega, fun _ => ?_, hb.by', hb.byk⟩;show m2.deep - 1 = m.deep;omega
theorem Hm {p : Prog} {inp : List Int} (hg : AS p = true) (most : Nat) : ∀ n, KU p inp (lev p inp most n)
 | 0 => ⟨fun f _ t _ s hs => Sx.to.refl hs (by show (0 : Int) ≤ 5; omega) (by show (5 : Int) ≤ 5; omega), fun fn args b m _ _ _ hu => ⟨⟨S2 _, S2 _, hu⟩, by show (1 : Int) ≤ 5; omega, by show (5 : Int) ≤ 5; omega, fun _ => rfl, rfl, id⟩⟩
 | n + 1 => ⟨fun f hf t ht s hs => P4 (Hm hg most n) hg hf ht hs, fun fn args b m h0 h1 ha hu => Q9 (Hm hg most n) hg h0 h1 ha hu⟩
end
open Go.Eng
def ptr (b : Nat) : Value := .pointer (some ⟨b, 0, none⟩)
def mS (pv iv : Value) (most : Int) (m : Ms) : List D := [.t (.v pv), .t (.v iv), .t (.int m.used), .t (.int m.fuel), .t (.int most), .own (T.ints m.trace)]
def byH : Option By → Int
 | none => 0
 | some b => b.how
def byV : Option By → Int
 | none => 0
 | some b => if b.how = 2 then b.pan else 0
def byB : Option By → Int
 | none => 0
 | some b => if b.exd then 3 else 1
def bS (b : Option By) : List D := [.t (.int (byH b)), .t (.int (byV b)), .t (.int (byB b))]
def cS (f : Func) (fbv fsv : Value) (vars off : List Int) (res dp : Int) (bb : Nat) : List D :=
 [.t (.int f.params), .t (.int f.vars), .t (.v fbv), .t (.v fsv), .own (T.ints vars), .own (T.ints off), .t (.int res), .t (.int dp), .t (.v (.pointer (some ⟨bb, 0, none⟩)))]
def Fo (op x y : Int) : Int := (reckS op x y).getD 0
open Go.Eng
def rS (pv iv : Value) (most fu co : Int) (m : Ms) : List D := [.t (.v pv), .t (.v iv), .t (.int most), .t (.int fu), .t (.int m.deep), .t (.int co), .t (.int 0), .own (T.ints m.trace), .t (.int m.used)]
def gC (fn : Int) (vars off : List Int) (res e pan : Int) (exd : Bool) (bp : Value) : List D := [.t (.int fn), .own (T.ints vars), .t (.int res), .own (T.ints off), .t (.int e), .t (.int pan), .t (.bool exd), .t (.v bp)]
structure Kp where
 fn : Int
 vars : List Int
 off : List Int
 res : Int
 bp : Value
def byP (bb : Nat) : Option By → Value
 | none => .pointer none
 | some _ => .pointer (some ⟨bb, 0, none⟩)
def hH : Option By → Int
 | none => 0
 | some b => b.how
def nH : Option By → Int
 | none => 0
 | some b => b.pan
def xH : Option By → Bool
 | none => false
 | some b => b.exd
def byK (bb : Nat) (q : Kp) (b : Option By) : Blk := .obox (byP bb b) (gC q.fn q.vars q.off q.res (hH b) (nH b) (xH b) q.bp)
def fuH (h : Int) (m : Ms) : Int := if h = 4 then (m.fuel : Int) + 1 else m.fuel
def coH (h : Int) : Int := if 4 ≤ h then h else 0
def haH (h : Int) : Int := if 4 ≤ h then 4 else h
theorem RR {b b' : Bool} (h : b = b') : A2 [D.t (T.v (Value.bool b))] = D.t (T.bool b') := by rw [h]; rfl
theorem N3 {b b' : Int} (h : b = b') : A2 [D.t (T.v (Value.int .i64 b))] = D.t (T.int b') := by rw [h]; rfl
theorem Gz (bm : Nat) (pv iv : Value) (most : Int) (m : Ms) (rv : List Value) (rt : List T) (hm : m.fuel ≤ 1048576) : Proc Try.prog 94 [.t (.v (.pointer (some ⟨bm, 0, none⟩)))] (rv) (rt) [.obox (.pointer (some ⟨bm, 0, none⟩)) (rS pv iv most m.fuel 0 m)] (.t (.bool (decide (m.fuel ≠ 0)))) [.obox (.pointer (some ⟨bm, 0, none⟩)) (rS pv iv most (A6 m).fuel (if m.fuel = 0 then 5 else 0) (A6 m))] := by
 refine Proc.intro tys Try.func94 Z Z (N := 19) [100] 99 ([(0, .t (.v (.pointer (some ⟨bm, 0, none⟩))))]) ([(100, .obox (.pointer (some ⟨bm, 0, none⟩)) (rS pv iv most m.fuel 0 m)), (99, .ro rv rt)]) Z Z Z Z (by decide) (by decide) Z (fun w0 G F0 => ?_);refine nY Z (AQ (Le.openNew (u := 100) 1100 Z Z Z Z Z) (nY Z (AQ (Le.named (t := 0) (u := 100) 1100 Z Z) (nY Z (sG (eZ Z (nB (sQ (sG (eZ Z (AK rfl Z (AA Z) Z Z Z (eK 3 Z (nB ?_)))))))))))));refine AB Z (fun h1 => ?_) (fun h1 => ?_)
 ·
  simp only [HS] at h1;refine sG (eZ Z (AK rfl Z (AA Z) Z Z Z (eZ Z (kZ [0,2,10] Z (eZ Z (sT Z (nZ Z (nA (eZ Z (nB (AQ (Le.close (u := 100) 1100 Z Z Z) (nY Z (rT (tR ?_))))))))))))));refine eP [_] ?_ ?_
  ·exact RR (by simp; omega)
  ·(have h : (m.fuel : Int) = 0 := (by assumption); have hz : m.fuel = 0 := (by omega); simp only [rS, A6, hz]; rfl)
 simp only [HS] at h1;refine AC (tN (sG (eZ Z (AK rfl Z (AA Z) Z Z Z (eZ Z (kZ [2,12,14] Z (eZ Z (evI ?_))))))));refine AK rfl Z (AA Z) Z Z Z (eZ Z (sT Z (nZ Z (nA (eZ Z (nB (AQ (Le.close (u := 100) 1100 Z Z Z) (nY Z (rT ?_)))))))));refine eP [_] ?_ ?_
 ·exact RR (by simp; omega)
 ·(have h : (m.fuel : Int) - 1 = ((m.fuel - 1 : Nat) : Int) := (by omega); rw [h, if_neg (by omega)]; rfl)
theorem recSn {b : By} (h : ¬ b.how = 2) : KW (some b) = (0, some b) := by rw [KW, if_neg h]
theorem QK {b : By} (h : b.how = 2) : KW (some b) = (b.pan, some ⟨if b.exd = true then 3 else 1, b.pan, b.exd⟩) := by rw [KW, if_pos h]
theorem N8 (bc bb : Nat) (q : Kp) (fn : Int) (vars off : List Int) (res e pan : Int) (exd : Bool) (rv : List Value) (rt : List T) : Proc Try.prog 121 [.t (.v (.pointer (some ⟨bc, 0, none⟩)))] (rv) (rt) [.obox (.pointer (some ⟨bc, 0, none⟩)) (gC fn vars off res e pan exd (byP bb none)), byK bb q none] (.t (.int 0)) [.obox (.pointer (some ⟨bc, 0, none⟩)) (gC fn vars off res e pan exd (byP bb none)), byK bb q none] := by
 refine Proc.intro tys Try.func121 Z Z (N := 44) [100, 101] 99 ([(0, .t (.v (.pointer (some ⟨bc, 0, none⟩))))]) ([(100, .obox (.pointer (some ⟨bc, 0, none⟩)) (gC fn vars off res e pan exd (byP bb none))), (101, byK bb q none), (99, .ro rv rt)]) Z Z Z Z (by decide) (by decide) Z (fun w0 G F0 => ?_);refine nY Z (AQ (Le.openNew (u := 100) 1100 Z Z Z Z Z) (nY Z (AQ (Le.named (t := 0) (u := 100) 1100 Z Z) (nY Z (sG (eZ Z (nB (sQ (sG (eZ Z (AK rfl Z (AA Z) Z Z Z (eK 2 Z (KL (e := 109) (b := true) Z Z (AA Z) Z (by kernel_rfl) Z Z (.inl ⟨rfl, rfl⟩) (WO_le (Le.known (t := 7) true Z (by simp)) ?_))))))))))))));refine xK 3 Z (kZ [0,2,8,10] Z (xK 7 Z (nB (Ao Z (sQ (kY [0,2] Z (rG (eZ Z (nB (AQ (Le.close (u := 100) 1100 Z Z Z) (nY Z (rT (tR ?_)))))))))))));refine eP [_, _] ?_ ?_
 ·rfl
 ·rfl
theorem N7 (bc bb : Nat) (q : Kp) (b : By) (fn : Int) (vars off : List Int) (res e pan : Int) (exd : Bool) (rv : List Value) (rt : List T) : Proc Try.prog 121 [.t (.v (.pointer (some ⟨bc, 0, none⟩)))] (rv) (rt) [.obox (.pointer (some ⟨bc, 0, none⟩)) (gC fn vars off res e pan exd (byP bb (some b))), .obox (.pointer (some ⟨bb, 0, none⟩)) (gC q.fn q.vars q.off q.res b.how b.pan b.exd q.bp)] (.t (.int (KW (some b)).1)) [.obox (.pointer (some ⟨bc, 0, none⟩)) (gC fn vars off res e pan exd (byP bb (some b))), byK bb q (KW (some b)).2] := by
 refine Proc.intro tys Try.func121 Z Z (N := 44) [100, 101] 99 ([(0, .t (.v (.pointer (some ⟨bc, 0, none⟩))))]) ([(100, .obox (.pointer (some ⟨bc, 0, none⟩)) (gC fn vars off res e pan exd (byP bb (some b)))), (101, .obox (.pointer (some ⟨bb, 0, none⟩)) (gC q.fn q.vars q.off q.res b.how b.pan b.exd q.bp)), (99, .ro rv rt)]) Z Z Z Z (by decide) (by decide) Z (fun w0 G F0 => ?_);refine nY Z (AQ (Le.openNew (u := 100) 1100 Z Z Z Z Z) (nY Z (AQ (Le.named (t := 0) (u := 100) 1100 Z Z) (nY Z (AQ (Le.openNew (u := 101) 1101 Z Z Z Z Z) (nY Z (sG (eZ Z (nB (sQ (sG (eZ Z (AK rfl Z (AA Z) Z Z Z (eK 2 Z (KL (e := 109) (b := false) Z Z (AA Z) Z (by kernel_rfl) Z Z (.inl ⟨rfl, rfl⟩) ?_)))))))))))))));refine WO_le (Le.known (t := 7) false Z (by simp)) ?_;refine xK 2 Z (gY Z (AK rfl Z (AA Z) Z Z Z (kZ [0,2,8,10] Z (xK 2 Z (WO_le (Le.named (t := 12) (u := 101) 1101 Z Z) (gY Z (AK rfl Z (AA Z) Z Z Z (xK 4 Z (nB ?_)))))))));refine AB Z (fun h1 => ?_) (fun h1 => ?_)
 ·
  simp only [HS] at h1;refine sQ (kY [0,2] Z (rG (eZ Z (nB (AQ (Le.close (u := 100) 1100 Z Z Z) (nY Z (AQ (Le.close (u := 101) 1101 Z Z Z) (nY Z (rT (tR ?_))))))))));refine eP [_, _] ?_ ?_
  ·exact N3 (by rw [recSn (by assumption)])
  ·(rw [recSn (by assumption)]; rfl)
 simp only [HS] at h1;refine AC (tN (sQ (kY [0,2] Z (rG (eZ Z (AK rfl Z (AA Z) Z Z Z (eK 2 Z (WO_le (Le.named (t := 21) (u := 101) 1101 Z Z) (AK rfl Z (AA Z) Z Z Z (eZ Z (sT Z (nZ Z (nB (sQ (sQ ?_)))))))))))))));refine kY [0,2] Z (rG (eZ Z (AK rfl Z (AA Z) Z Z Z (eK 2 Z (WO_le (Le.named (t := 27) (u := 101) 1101 Z Z) (AK rfl Z (AA Z) Z Z Z (eK 2 Z (nB ?_))))))));refine AB Z (fun h2 => ?_) (fun h2 => ?_)
 ·
  refine kY [0,2] Z (rG (eZ Z (AK rfl Z (AA Z) Z Z Z (eK 2 Z (WO_le (Le.named (t := 34) (u := 101) 1101 Z Z) (AK rfl Z (AA Z) Z Z Z (eZ Z (sT Z (nZ Z (nB (sQ (kY [0,2] Z (rG (eZ Z (AK rfl Z (AA Z) Z Z Z ?_)))))))))))))));refine eK 2 Z (WO_le (Le.named (t := 40) (u := 101) 1101 Z Z) (AK rfl Z (AA Z) Z Z Z (eK 3 Z (nB (AQ (Le.close (u := 100) 1100 Z Z Z) (nY Z (AQ (Le.close (u := 101) 1101 Z Z Z) (nY Z (rT ?_)))))))));refine eP [_, _] ?_ ?_
  ·exact N3 (by rw [QK (by omega)])
  ·(rw [QK (by omega), if_pos (by assumption)]; rfl)
 refine AC (tN (sQ (kY [0,2] Z (rG (eZ Z (AK rfl Z (AA Z) Z Z Z (eK 2 Z (WO_le (Le.named (t := 40) (u := 101) 1101 Z Z) (AK rfl Z (AA Z) Z Z Z (eK 3 Z (nB (AQ (Le.close (u := 100) 1100 Z Z Z) (nY Z (AQ (Le.close (u := 101) 1101 Z Z Z) (nY Z ?_)))))))))))))));refine rT ?_;refine eP [_, _] ?_ ?_
 ·exact N3 (by rw [QK (by omega)])
 ·(rw [QK (by omega), if_neg (by simp_all)]; rfl)
theorem QM (bc bb : Nat) (q : Kp) (b : Option By) (fn : Int) (vars off : List Int) (res e pan : Int) (exd : Bool) (rv : List Value) (rt : List T) : Proc Try.prog 121 [.t (.v (.pointer (some ⟨bc, 0, none⟩)))] rv rt
  [.obox (.pointer (some ⟨bc, 0, none⟩)) (gC fn vars off res e pan exd (byP bb b)), byK bb q b] (.t (.int (KW b).1)) [.obox (.pointer (some ⟨bc, 0, none⟩)) (gC fn vars off res e pan exd (byP bb b)), byK bb q (KW b).2] := by
 cases b with
 | none => exact N8 bc bb q fn vars off res e pan exd rv rt
 | some b => exact N7 bc bb q b fn vars off res e pan exd rv rt
theorem Gy {bb : Nat} {a b : Option By} (h : a.isSome = b.isSome) : byP bb a = byP bb b := by
 cases a <;> cases b <;> first | rfl | cases h
theorem MF (bc : Nat) (h v : Int) (fn : Int) (vars off : List Int) (res e pan : Int) (exd : Bool) (bp : Value) (rv : List Value) (rt : List T) : Proc Try.prog 96 [.t (.v (.pointer (some ⟨bc, 0, none⟩))), .t (.int h), .t (.int v)] (rv) (rt) [.obox (.pointer (some ⟨bc, 0, none⟩)) (gC fn vars off res e pan exd bp)] (.tup []) [.obox (.pointer (some ⟨bc, 0, none⟩)) (gC fn vars off res h (if h = 2 then v else pan) (or exd (decide (h = 3))) bp)] := by
 refine Proc.intro tys Try.func96 Z Z (N := 22) [100] 99 ([(0, .t (.v (.pointer (some ⟨bc, 0, none⟩)))), (1, .t (.int h)), (2, .t (.int v))]) ([(100, .obox (.pointer (some ⟨bc, 0, none⟩)) (gC fn vars off res e pan exd bp)), (99, .ro rv rt)]) Z Z Z Z (by decide) (by decide) Z (fun w0 G F0 => ?_);refine nY Z (AQ (Le.openNew (u := 100) 1100 Z Z Z Z Z) (nY Z (AQ (Le.named (t := 0) (u := 100) 1100 Z Z) (nY Z (PU (sG (eK 2 Z (AK rfl Z (AA Z) Z Z Z (eZ Z (sT Z (nZ Z (nA (eZ Z (nB (AD ?_)))))))))))))));refine sG (eK 2 Z (nB ?_));refine AB Z (fun h1 => ?_) (fun h1 => ?_)
 ·
  simp only [HS] at h1;refine kY [0,2] Z (rG (eK 2 Z (AK rfl Z (AA Z) Z Z Z (eZ Z (sT Z (nZ Z (oN (bN ?_))))))));refine ⟨_, Le.close (u := 100) 1100 Z Z rfl, ?_⟩;refine eP [_] ?_ ?_
  ·rfl
  ·simp_all [gC]
   done
 simp only [HS] at h1;refine sQ (kY [0,10] Z (rG (eK 2 Z (nB ?_))));refine AB Z (fun h2 => ?_) (fun h2 => ?_)
 ·
  simp only [HS] at h2;refine rG (eZ Z (AK rfl Z (AA Z) Z Z Z (eZ Z (sT Z (nZ Z (oN (bN ?_)))))));refine ⟨_, Le.close (u := 100) 1100 Z Z rfl, ?_⟩;refine eP [_] ?_ ?_
  ·rfl
  ·simp_all [gC]
   done
 simp only [HS] at h2;refine AC (bN ?_);refine ⟨_, Le.close (u := 100) 1100 Z Z rfl, ?_⟩;refine eP [_] ?_ ?_
 ·rfl
 ·simp_all [gC]
  done
theorem EQ (n : Int) : Fun Try.prog 126 [.t (.int n)] (A2 [.t (.int (w32 n))]) := by
 refine Fun.begin tys Try.func126 Z Z (N := 6) [(0, .t (.int n))] Z Z (fun w0 G F0 => ?_);refine sG (eZ Z (nA (eZ Z (WO_conv (td := .int .i64) (k := .i32) Z Z (AA Z) Z (by kernel_rfl) (by kernel_rfl) Z (WO_conv (td := .int .i32) (k := .i64) Z Z (AA Z) Z (by kernel_rfl) (by kernel_rfl) Z (eZ Z (nB (rT (eR ?_)))))))))
 ·rfl
theorem EZ {a a' : Int} {b b' : Bool} (h : a = a') (h' : b = b') : [D.t (T.v (Value.int .i64 a)), D.t (T.v (Value.bool b))] = [D.t (T.int a'), D.t (T.bool b')] := by rw [h, h']
theorem N6 (op x y : Int) : Fun Try.prog 122 [.t (.int op), .t (.int x), .t (.int y)] (A2 [.t (.int (Fo op x y)), .t (.bool (reckS op x y).isSome)]) := by
 refine Fun.begin tys Try.func122 Z Z (N := 45) [(0, .t (.int op)), (1, .t (.int x)), (2, .t (.int y))] Z Z (fun w0 G F0 => ?_);refine sG (eK 2 Z (nA (eZ Z (nB (sQ (sG (eZ Z (nB (AD (sG (eK 2 Z (nB ?_))))))))))));refine AB Z (fun h1 => ?_) (fun h1 => ?_)
 ·
  simp only [HS] at h1;refine sG (eK 3 Z (kZ [6,7,8,17] Z (AM ?_)));refine ⟨_, EQ _, rfl, ?_⟩;refine eK 2 Z (nB (rT (bR (tR (eR ?_)))))
  ·exact EZ (by grind [Fo, reckS, w64]) (by grind [reckS])
 simp only [HS] at h1;refine sG (eK 2 Z (nB ?_));refine AB Z (fun h2 => ?_) (fun h2 => ?_)
 ·
  simp only [HS] at h2;refine sQ (kY [1,2,6,7,8] Z (rG (eK 3 Z (AM ?_))));refine ⟨_, EQ _, rfl, ?_⟩;refine eK 2 Z (nB (rT (bR (tR (eR ?_)))))
  ·exact EZ (by grind [Fo, reckS, w64]) (by grind [reckS])
 simp only [HS] at h2;refine sQ (kY [1,2,6,7,8,9] Z (rG (eK 2 Z (nB ?_))));refine AB Z (fun h3 => ?_) (fun h3 => ?_)
 ·
  simp only [HS] at h3;refine sG (eK 3 Z (AM ?_));refine ⟨_, EQ _, rfl, ?_⟩;refine eK 2 Z (nB (rT (bR (tR (eR ?_)))))
  ·exact EZ (by grind [Fo, reckS, w64]) (by grind [reckS])
 simp only [HS] at h3;refine sG (eK 2 Z (nB ?_));refine AB Z (fun h4 => ?_) (fun h4 => ?_)
 ·
  simp only [HS] at h4;refine sQ (sG (eK 2 Z (nB ?_)));refine AB Z (fun h5 => ?_) (fun h5 => ?_)
  ·
   simp only [HS] at h5;refine sG (eK 2 Z (nB (rT (tR (bR (tR (eR ?_)))))))
   ·exact EZ (by grind [Fo, reckS, w64]) (by grind [reckS])
  simp only [HS] at h5;refine AC (tN (sG (eK 2 Z (WO_quo Z Z (AA Z) Z Z Z (by first | decide | omega) ?_))));refine kZ [6,7,8,37] Z (AM ?_);refine ⟨_, EQ _, rfl, ?_⟩;refine eK 2 Z (nB (rT (bR (tR (eR ?_)))))
  ·exact EZ (by grind [Fo, reckS, w64]) (by grind [reckS])
 simp only [HS] at h4;refine sG (eK 2 Z (nB ?_));refine AB Z (fun h5 => ?_) (fun h5 => ?_)
 ·
  simp only [HS] at h5;refine rG (eK 3 Z (kZ [6,7,8,43] Z (eZ Z (oN (bN (tN (sQ (sG (eZ Z (nB ?_))))))))));refine AB Z (fun h6 => ?_) (fun h6 => ?_)
  ·
   simp only [HS] at h6;refine sG (eK 2 Z (nB (rT (tR (eR ?_)))))
   ·exact EZ (by grind [Fo, reckS, w64]) (by grind [reckS])
  simp only [HS] at h6;refine AC (tN (sG (eK 2 Z (nB (rT (eR ?_))))))
  ·exact EZ (by grind [Fo, reckS, w64]) (by grind [reckS])
 simp only [HS] at h5;refine rG (eK 3 Z (kZ [6,7,8,12] Z (eZ Z (oN (bN (tN (sQ (sG (eZ Z (nB ?_))))))))));refine AB Z (fun h6 => ?_) (fun h6 => ?_)
 ·
  simp only [HS] at h6;refine sG (eK 2 Z (nB (rT (tR (eR ?_)))))
  ·exact EZ (by grind [Fo, reckS, w64]) (by grind [reckS])
 simp only [HS] at h6;refine AC (tN (sG (eK 2 Z (nB (rT (eR ?_))))))
 ·exact EZ (by grind [Fo, reckS, w64]) (by grind [reckS])
open Go.Eng
theorem Gl (l : List Int) (hl : l.length ≤ 1073741824) : Fun Try.prog 85 [.t (T.ints l)] (A2 [.own (T.ints l)]) := by
 refine Fun.begin tys Try.func85 Z Z (N := 6) [(0, .t (T.ints l))] Z Z (fun w0 G F0 => ?_);refine sG (eZ Z (nA (bZ [] ?_)));refine nZ Z (eZ Z (AE tys Z Z (AA Z) Z Z Z Z Z (.own Z (by first | omega | (simp only [Sm]; omega))) Z (.read (N9 l)) (by decide) (by simp; omega) (by decide) Z ?_));refine nZ Z (eZ Z (nB (AQ (Le.gather (u := 2) (id := 3) Z Z (by simp)) ?_)));refine rT (eR ?_)
 ·(simp only [Fs, Sy, Tp, List.length_nil, S7, List.take_nil]; rfl)
def movT (to : List Int) (t : Tok) : Tok := if t.op = 11 then ⟨t.op, atI to t.n⟩ else t
def movN (to : List Int) (s : Stmt) : Int := if s.kind = 3 then atI to s.n else s.n
def movS (to : List Int) (s : Stmt) : Stmt := ⟨s.kind, movN to s, s.ex.map (movT to), s.thn, s.els⟩
def movF (to : List Int) (f : Func) : Func := ⟨f.params, f.vars, f.body, f.stmts.map (movS to)⟩
theorem Fg (f : Func) (to : List Int) (hf : f.ok 1048576) (hs : ∀ x, x ∈ ET f.stmts → 0 ≤ x ∧ x < to.length) (ht : to.length ≤ 1048576) : Fun Try.prog 51 [.t f.tt, .t (T.ints to)] (A2 [.agg [.t (T.int f.params), .t (T.int f.vars), .own (T.ints f.body), .own (T.Stmts (f.stmts.map (movS to)))]]) := by
  have hl : f.stmts.length ≤ 1048576 := hf.2.1.1
  have hbl : f.body.length ≤ 1048576 := hf.1
  refine Fun.begin tys Try.func51 Z Z (N := 77) [(0, .t f.tt), (1, .t (T.ints to))] Z Z (fun w0 G F0 => ?_);refine sG (AV Z Z (AA Z) Z Z (nZ Z (AF tys Z Z (AA Z) Z Z Z (nZ Z (nB (sQ (DF 9 BE Z (by kernel_rfl) (by kernel_rfl) ?_)))))))
  iterate 4 (refine QG_ev tys rfl rfl (AA rfl) rfl ?_)
  refine Cz Z (QG_ev tys Z Z (AA Z) Z (QG_ev tys Z Z (AA Z) Z (Fj ?_)));refine ⟨_, Gl _ (by omega), rfl, ?_⟩;refine E7 tys Z Z (AA Z) Z Z Z (by kernel_rfl) Z Z Z Z Z Z (Im tys Z Z (AA Z) Z Z Z Z (AG ?_));refine ⟨by kernel_rfl, ?_⟩;refine nZ Z (sT Z (nZ Z (nB (sQ (sG (nZ Z (WO_le (Le.nilBox (u := 5) (j := 3) 5 Z Z) (nZ Z (WO_le (Le.adoptBox (u := 5) (j := 3) (id := 170) Z Z Z) (nZ Z (eK 2 Z (evE ?_))))))))))));refine eZ Z (nB (AD ?_));refine lK (α := Int × Nat × List T) [1, 4, 5, 20, 21] [4] (fun x => [(22, .t (.int (x.1)))]) (fun x => [(5, .box [.t (T.int f.params), .t (T.int f.vars), .own (T.ints f.body), .sl 170 0 (x.2.1)]), (170, .L 5 (x.2.2))]) (fun x => 0 ≤ (x.1) ∧ (x.1) ≤ f.stmts.length ∧ (x.2.1) = (x.2.2).length ∧ (x.2.2) = (f.stmts.take (x.1).toNat).map (fun s => (movS to s).tt)) (fun x => Int.toNat (f.stmts.length - (x.1))) (0, 0, []) ?_ (fun x hx => ?_)
  · exact ⟨by omega, by omega, rfl, rfl⟩
  obtain ⟨k, m, xs⟩ := x
  obtain ⟨hk0, hk1, hm, hxs⟩ := hx
  dsimp only at hk0 hk1 hm hxs ⊢;refine nY Z (sG (eZ Z (nB (sQ ?_))));refine AB Z (fun h1 => ?_) (fun h1 => ?_)
  ·
    simp only [HS] at h1;refine AC (tN (sQ (AD (sG ?_))))
    have hso := Bw hf (n := k.toNat) (by omega)
    refine iY (k := ?_);refine eZ Z ?_
    try refine WO_le (Le.freeze (u := 25) rfl) ?_
    refine nZ Z (AF tys Z Z (AA Z) Z Z Z (nZ Z (sT Z (nZ Z (nB (sQ (DF 12 BE Z (by kernel_rfl) (by kernel_rfl) (QG_ev tys Z Z (AA Z) Z (Cz Z ?_)))))))))
    iterate 5 (refine QG_ev tys rfl rfl (AA rfl) rfl ?_)
    refine Fj ?_;refine ⟨_, Gl _ (by omega), rfl, ?_⟩;refine Cz Z (QG_ev tys Z Z (AA Z) Z (QG_ev tys Z Z (AA Z) Z (Fj ?_)));refine ⟨_, Gl _ (by omega), rfl, ?_⟩;refine E7 tys Z Z (AA Z) Z Z Z (by kernel_rfl) Z Z Z Z Z Z (Im tys Z Z (AA Z) Z Z Z Z (AG ?_));refine ⟨by kernel_rfl, ?_⟩;refine nZ Z (sT Z (nZ Z (nB (sQ (sG (eK 3 Z (nB ?_)))))));refine A4 (α := Int) [1, 4, 5, 7, 8, 20, 21, 22, 23, 24, 25, 26, 27, 28, 29, 30, 31, 32, 33, 34, 35, 36, 37, 38, 39] [4, 5, 7, 170] (fun x => []) (fun x => [(8, .box [.t (T.int (f.stmts[k.toNat]'(by omega)).kind), .t (.int x), .nil, .own (T.ints (f.stmts[k.toNat]'(by omega)).thn), .own (T.ints (f.stmts[k.toNat]'(by omega)).els)])]) (fun x => x = movN to (f.stmts[k.toNat]'(by omega))) ?_ (fun nn hx => ?_)
    ·
      refine AB Z (fun h2 => ?_) (fun h2 => ?_)
      ·
        simp only [HS] at h2;refine rG ?_
        have hn := H6 hs (n := k.toNat) (by omega) h2
        refine eK 3 Z ?_;refine iY (k := ?_);refine eZ Z (kZ [1,4,5,7,8,20,21,22,23,24,25,26,27,28,29,30,31,32,33,34,35,36,37,38,39,40,41,42,43,44] Z (eZ Z (sT Z (nZ Z (oN (jQ _ ?_))))))
        first
        | (rw [movN, if_pos h2, Ay hn.1 hn.2]; done)
      simp only [HS] at h2;refine AC (jQ _ ?_)
      first
      | (rw [movN, if_neg h2]; done)
    have hnn := hx
    refine tN (sQ (sQ (kY [1,4,5,7,8,20,21,22,23,24,25,26,27,28,29,30,31,32,33,34,35,36,37,38,39] Z (rG (nZ Z (WO_le (Le.nilBox (u := 8) (j := 2) 2 Z Z) (nZ Z (WO_le (Le.adoptBox (u := 8) (j := 2) (id := 171) Z Z Z) (nZ Z (eK 2 Z (evE ?_)))))))))));refine eZ Z (nB (AD ?_));refine lK (α := Int × Nat × List T) [1, 4, 5, 8, 20, 21, 22, 47, 48] [4, 5, 170] (fun x => [(49, .t (.int (x.1)))]) (fun x => [(8, .box [.t (T.int (f.stmts[k.toNat]'(by omega)).kind), .t (.int nn), .sl 171 0 (x.2.1), .own (T.ints (f.stmts[k.toNat]'(by omega)).thn), .own (T.ints (f.stmts[k.toNat]'(by omega)).els)]), (171, .L 2 (x.2.2))]) (fun x => 0 ≤ (x.1) ∧ (x.1) ≤ (f.stmts[k.toNat]'(by omega)).ex.length ∧ (x.2.1) = (x.2.2).length ∧ (x.2.2) = ((f.stmts[k.toNat]'(by omega)).ex.take (x.1).toNat).map (fun t => (movT to t).tt)) (fun x => Int.toNat ((f.stmts[k.toNat]'(by omega)).ex.length - (x.1))) (0, 0, []) ?_ (fun x hx => ?_)
    · exact ⟨by omega, by omega, rfl, rfl⟩
    obtain ⟨j, m2, ys⟩ := x
    obtain ⟨hj0, hj1, hm2, hys⟩ := hx
    dsimp only at hj0 hj1 hm2 hys ⊢;refine nY Z (sG (eZ Z (nB (sQ ?_))));refine AB Z (fun h2 => ?_) (fun h2 => ?_)
    ·
      simp only [HS] at h2;refine AC (tN (sQ (AD (sG ?_))));refine iY (k := ?_);refine eZ Z ?_
      try refine WO_le (Le.freeze (u := 52) rfl) ?_
      refine nZ Z (AF tys Z Z (AA Z) Z Z Z (nZ Z (sT Z (nZ Z (nB (sQ (sG (eK 3 Z (nB ?_)))))))));refine A4 (α := Int) [1, 4, 5, 8, 10, 20, 21, 22, 47, 48, 49, 50, 51, 52, 53, 54, 55] [4, 5, 8, 170, 171] (fun x => []) (fun x => [(10, .box [.t (T.int ((f.stmts[k.toNat]'(by omega)).ex[j.toNat]'(by omega)).op), .t (.int x)])]) (fun x => x = (movT to ((f.stmts[k.toNat]'(by omega)).ex[j.toNat]'(by omega))).n) ?_ (fun tn hx => ?_)
      ·
        refine AB Z (fun h3 => ?_) (fun h3 => ?_)
        ·
          simp only [HS] at h3;refine kY [1,4,5,8,10,20,21,22,47,48,49,50,51,52,53,54,55] Z (rG ?_)
          have hn := H5 hs (n := k.toNat) (by omega) (j := j.toNat) (by omega) h3
          refine eK 3 Z ?_;refine iY (k := ?_);refine eK 2 Z (sT Z (nZ Z (oN (jQ _ ?_))))
          first
          | (rw [movT, if_pos h3, Ay hn.1 hn.2]; done)
        simp only [HS] at h3;refine AC (jQ _ ?_)
        first
        | (rw [movT, if_neg h3]; done)
      have htn := hx
      refine tN (kY [1,4,5,8,10,20,21,22,47,48,49,50,51,52,53,54,55] Z (rG (eK 3 Z ?_)))
      try refine WO_le (Le.freeze (u := 64) rfl) ?_
      refine nZ Z (bZ [.agg [T.int ((f.stmts[k.toNat]'(by omega)).ex[j.toNat]'(by omega)).op, T.int tn]] ?_);refine nZ Z (AE tys Z Z (AA Z) Z Z Z Z Z (.own Z (by first | omega | (simp only [Sm]; omega))) Z (.own Z (by first | decide | omega)) (by decide) (by simp only [Sq, Sp, List.length_nil]; rw [hys, Sk, Sq]; omega) (by decide) Z ?_);refine nZ Z (eZ Z (sT Z (nZ Z (oN (bN (tN (kY [1,4,5,8,10,20,21,22,47,48,49,50,51,52,53,54,55,62,63,64,65,66,67] Z (rG (evI ?_)))))))));refine eZ Z (oN ?_);refine lQ (_, _, _) ?_ ?_
      · dsimp only
        have e : (movT to ((f.stmts[k.toNat]'(by omega)).ex[j.toNat]'(by omega))).tt = .agg [T.int ((f.stmts[k.toNat]'(by omega)).ex[j.toNat]'(by omega)).op, T.int tn] := by
         rw [htn];unfold movT
         split <;> rfl
        subst hm2;refine ⟨by omega, by omega, by simp, ?_⟩;rw [Sy, hys, BO hj0 (by omega), S5, TA, List.map_nil, e];rfl
      · (show Int.toNat _ < Int.toNat _); omega
    simp only [HS] at h2;refine AN (tE (AJ (AI (tN (rG (eK 2 Z (nZ Z (WO_le (Le.gatherBox (u := 8) (j := 2) (id := 171) Z Z Z (by omega) Z) (nZ Z (Ap tys Z Z (AA Z) Z Z Z Z Z Z (nZ Z (bZ [.agg [T.int (f.stmts[k.toNat]'(by omega)).kind, T.int nn, .list 2 (ys.take m2), T.ints (f.stmts[k.toNat]'(by omega)).thn, T.ints (f.stmts[k.toNat]'(by omega)).els]] ?_))))))))))));refine nZ Z (AE tys Z Z (AA Z) Z Z Z Z Z (.own Z (by first | omega | (simp only [Sm]; omega))) Z (.own Z (by first | decide | omega)) (by decide) (by simp only [Sq, Sp, List.length_nil]; rw [hxs, Sk, Sq]; omega) (by decide) Z ?_);refine nZ Z (eZ Z (sT Z (nZ Z (oN (bN (tN (kY [1,4,5,8,20,21,22,47,48,49,50,69,70,71,72,73,74] Z (rG (evI ?_)))))))));refine eZ Z (oN ?_);refine lQ (_, _, _) ?_ ?_
    · dsimp only
      have e : (movS to (f.stmts[k.toNat]'(by omega))).tt = .agg [T.int (f.stmts[k.toNat]'(by omega)).kind, T.int nn, .list 2 (ys.take m2), T.ints (f.stmts[k.toNat]'(by omega)).thn, T.ints (f.stmts[k.toNat]'(by omega)).els] := by
       rw [hm2, Sy, hys, A5 (l := (f.stmts[k.toNat]'(by omega)).ex) (k := j) (by omega), hnn];show T.agg [_, _, T.list 2 (List.map Tok.tt (List.map (movT to) _)), _, _] = _;rw [List.map_map];rfl
      subst hm;refine ⟨by omega, by omega, by simp, ?_⟩;rw [Sy, hxs, BO hk0 (by omega), S5, TA, List.map_nil, e];rfl
    · (show Int.toNat _ < Int.toNat _); omega
  simp only [HS] at h1;refine AN (tE (AJ (AI (tN (sG (nZ Z (WO_le (Le.gatherBox (u := 5) (j := 3) (id := 170) Z Z Z (by omega) Z) (nZ Z (Ap tys Z Z (AA Z) Z Z Z Z Z Z (nZ Z (sT Z (nZ Z (nB (rT (eR ?_)))))))))))))))
  · rw [hm, Sy, hxs, A5 (by omega)]
    show [D.agg [_, _, _, D.own (.list 5 _)]] = [D.agg [_, _, _, D.own (.list 5 (List.map Stmt.tt (List.map (movS to) f.stmts)))]];rw [List.map_map];rfl
open Go.Eng
def exS (p : Prog) (inp : List Int) (L : Lev) (l : List Tok) (s : Sx) : Int × Int × Sx := exprS L.cal (paramsL p) inp l [] s
section
variable {p : Prog} {inp : List Int} {f : Func} {L : Lev} {l : List Tok} {s s1 : Sx} {pv iv fbv fsv : Value} {most dp : Int} {bb : Nat} {k : Int} {pile : List Int}
theorem JG (h0 : 0 ≤ k) (h1 : k < l.length) (hr : ∃ r mx, C3 f.vars (paramsL p) (l.drop k.toNat) pile.length mx = some (1, r)) :
  knownT f.vars (paramsL p).length (l[k.toNat]'(by omega)) = true ∧ As (paramsL p) (l[k.toNat]'(by omega)) ≤ pile.length ∧ ∃ r mx, C3 f.vars (paramsL p) (l.drop (k + 1).toNat) (pile.length + (1 - As (paramsL p) (l[k.toNat]'(by omega)))) mx = some (1, r) := by
 obtain ⟨r, mx, hr⟩ := hr
 rw [EA h0 h1] at hr;split at hr
 ·rename_i h
  rw [Sl, decide_eq_true_eq] at h;exact ⟨h.1, h.2, r, _, hr⟩
 ·cases hr
theorem N2 (h1 : (l.length : Int) ≤ k) (hr : ∃ r mx, C3 f.vars (paramsL p) (l.drop k.toNat) pile.length mx = some (1, r)) : pile.length = 1 := by
 obtain ⟨r, mx, hr⟩ := hr
 rw [BC h1, C3] at hr
 have := (Prod.mk.inj (Option.some.inj hr)).1
 omega
theorem F6 (h0 : 0 ≤ k) (h1 : k < l.length) (hex : exS p inp L l s = exprS L.cal (paramsL p) inp (l.drop k.toNat) pile s1) {h v : Int} {pile' : List Int} {s' : Sx} (ht : tokX L.cal (paramsL p) inp (l[k.toNat]'(by omega)) pile s1 = (h, v, pile', s')) (hh : h ≠ 0) : exS p inp L l s = (h, v, s') := by
 rw [hex, Cx h0 h1, exprS, ht]
 simp [hh]
theorem O1 (h1 : (l.length : Int) ≤ k) (hex : exS p inp L l s = exprS L.cal (paramsL p) inp (l.drop k.toNat) pile s1) : exS p inp L l s = (0, (pile[0]?).getD 0, s1) := by
 rw [hex, BC h1, exprS]
variable {t : Tok}
theorem tok_1 (h : t.op = 1) : tokX L.cal (paramsL p) inp t pile s1 = (0, 0, pile ++ [t.n], s1) := by rw [tokX, if_pos h]
theorem tok_2 (h : t.op = 2) : tokX L.cal (paramsL p) inp t pile s1 = (0, 0, pile ++ [atI s1.vars t.n], s1) := by rw [tokX, if_neg (by omega), if_pos h]
theorem tok_9 (h : t.op = 9) : tokX L.cal (paramsL p) inp t pile s1 = (0, 0, pile ++ [(inS inp s1.m).1], { s1 with m := (inS inp s1.m).2 }) := by rw [tokX, if_neg (by omega), if_neg (by omega), if_pos h]
theorem tok_10 (h : t.op = 10) : tokX L.cal (paramsL p) inp t pile s1 = (0, 0, pile ++ [(KW s1.by').1], { s1 with by' := (KW s1.by').2 }) := by rw [tokX, if_neg (by omega), if_neg (by omega), if_neg (by omega), if_pos h]
theorem tok_11 {R : Int × Int × Option By × Ms} (hR : R = L.call t.n (pile.drop (pile.length - (atI (paramsL p) t.n).toNat)) none s1.m) (h : t.op = 11) (h1 : R.1 = 1) : tokX L.cal (paramsL p) inp t pile s1 = (0, 0, pile.take (pile.length - (atI (paramsL p) t.n).toNat) ++ [R.2.1], { s1 with m := R.2.2.2 }) := by
 subst hR;rw [tokX, if_neg (by omega), if_neg (by omega), if_neg (by omega), if_neg (by omega), if_pos h];dsimp only [Lev.cal];rw [if_pos h1]
theorem Nc {R : Int × Int × Option By × Ms} (hR : R = L.call t.n (pile.drop (pile.length - (atI (paramsL p) t.n).toNat)) none s1.m) (h : t.op = 11) (h1 : ¬ R.1 = 1) : tokX L.cal (paramsL p) inp t pile s1 = (R.1, R.2.1, pile, { s1 with m := R.2.2.2 }) := by
 subst hR;rw [tokX, if_neg (by omega), if_neg (by omega), if_neg (by omega), if_neg (by omega), if_pos h];dsimp only [Lev.cal];rw [if_neg h1]
theorem tok_r (h1 : ¬ t.op = 1) (h2 : ¬ t.op = 2) (h9 : ¬ t.op = 9) (h10 : ¬ t.op = 10) (h11 : ¬ t.op = 11) (hk : 2 ≤ pile.length) : tokX L.cal (paramsL p) inp t pile s1 = match reckS t.op (pile[pile.length - 2]'(by omega)) (pile[pile.length - 1]'(by omega)) with
  | none => (2, -1, pile, s1)
  | some v => (0, 0, pile.take (pile.length - 2) ++ [v], s1) := by
 rw [tokX, if_neg h1, if_neg h2, if_neg h9, if_neg h10, if_neg h11, List.getElem?_eq_getElem (by omega), List.getElem?_eq_getElem (by omega)];rfl
theorem tok_r' (h1 : ¬ t.op = 1) (h2 : ¬ t.op = 2) (h9 : ¬ t.op = 9) (h10 : ¬ t.op = 10) (h11 : ¬ t.op = 11) (hk : 2 ≤ pile.length) {i j : Nat} (hi : i = pile.length - 2) (hj : j = pile.length - 1) (hv : (reckS t.op (pile[i]'(by omega)) (pile[j]'(by omega))).isSome = true) : tokX L.cal (paramsL p) inp t pile s1 = (0, 0, pile.take i ++ [Fo t.op (pile[i]'(by omega)) (pile[j]'(by omega))], s1) := by
 subst hi hj;rw [tok_r h1 h2 h9 h10 h11 hk, Fo]
 cases h : reckS t.op (pile[pile.length - 2]'(by omega)) (pile[pile.length - 1]'(by omega)) with
 | none => rw [h] at hv; cases hv
 | some v => rfl
theorem RP (h1 : ¬ t.op = 1) (h2 : ¬ t.op = 2) (h9 : ¬ t.op = 9) (h10 : ¬ t.op = 10) (h11 : ¬ t.op = 11) (hk : 2 ≤ pile.length) {i j : Nat} (hi : i = pile.length - 2) (hj : j = pile.length - 1) (hv : ¬ (reckS t.op (pile[i]'(by omega)) (pile[j]'(by omega))).isSome = true) : tokX L.cal (paramsL p) inp t pile s1 = (2, -1, pile, s1) := by
 subst hi hj;rw [tok_r h1 h2 h9 h10 h11 hk]
 cases h : reckS t.op (pile[pile.length - 2]'(by omega)) (pile[pile.length - 1]'(by omega)) with
 | none => rfl
 | some v => rw [h] at hv; exact absurd rfl hv
end
theorem slI {pile : List Int} {Q : Int} {q : Nat} (h0 : 0 ≤ Q) (h1 : Q ≤ pile.length) (hq : q = pile.length - Q.toNat) : ((pile.map T.int).drop (0 + ((pile.length : Int) - Q).toNat)).take ((pile.length : Int).toNat - ((pile.length : Int) - Q).toNat) = (pile.drop q).map T.int := by
 rw [List.map_drop, show 0 + ((pile.length : Int) - Q).toNat = q from by omega, Sn (by simp; omega)]
open Go.Eng
def Po (p : Prog) (inp : List Int) (most n : Nat) (L : Lev) : Prop :=
 ∀ (fn : Int) (args : List Int) (b : Option By) (m : Ms) (bm bb : Nat) (q : Kp) (pv iv : Value) (xv : List Value) (xt : List T), 0 ≤ fn → fn < p.funcs.length → args.length = (atI (paramsL p) fn).toNat → m.used ≤ inp.length → m.deep ≤ most → m.fuel ≤ n → m.fuel ≤ 1048576 → m.trace.length + m.fuel ≤ 1048576 →
  Proc Try.prog 65 [.t (.v (.pointer (some ⟨bm, 0, none⟩))), .t (.int fn), .t (T.ints args), .t (.v (byP bb b))] (pv :: iv :: xv) (T.Funcs p.funcs :: T.ints inp :: xt)
   [byK bb q b, .obox (.pointer (some ⟨bm, 0, none⟩)) (rS pv iv most m.fuel 0 m)]
   (.tup [.t (.int (haH (L.call fn args b m).1)), .t (.int (L.call fn args b m).2.1)])
   [.obox (byP bb b) (gC q.fn q.vars q.off q.res (hH (L.call fn args b m).2.2.1) (nH (L.call fn args b m).2.2.1) (xH (L.call fn args b m).2.2.1) q.bp), .obox (.pointer (some ⟨bm, 0, none⟩)) (rS pv iv most (fuH (L.call fn args b m).1 (L.call fn args b m).2.2.2) (coH (L.call fn args b m).1) (L.call fn args b m).2.2.2)]
def ExI (p : Prog) (inp : List Int) (f : Func) (L : Lev) (l : List Tok) (s : Sx) (pv iv bp : Value) (q : Kp) (bpv : Value) (most fn : Int) (k : Int) (m : Nat) (ws : List T) (b1 b2 b3 : Blk) : Prop :=
 ∃ (pile : List Int) (s1 : Sx), 0 ≤ k ∧ k ≤ l.length ∧ Sx.to p inp f 0 s s1 ∧ exS p inp L l s = exprS L.cal (paramsL p) inp (l.drop k.toNat) pile s1 ∧ (∃ r mx, C3 f.vars (paramsL p) (l.drop k.toNat) pile.length mx = some (1, r)) ∧ (pile.length : Int) ≤ k ∧
  m = pile.length ∧ ws = pile.map T.int ∧ b1 = .box (rS pv iv most s1.m.fuel 0 s1.m) ∧ b2 = .box (gC fn s1.vars s1.off s1.res 0 0 false bp) ∧ b3 = .obox bpv (gC q.fn q.vars q.off q.res (hH s1.by') (nH s1.by') (xH s1.by') q.bp)
section
variable {p : Prog} {inp : List Int} {f : Func} {L : Lev} {l : List Tok} {s s1 : Sx} {pv iv bp bpv : Value} {most fn : Int} {q : Kp} {k : Int} {pile : List Int}
theorem ExI.next (hL : KU p inp L) (hg : AS p = true) (h0 : 0 ≤ k) (h1 : k < l.length) (hto : Sx.to p inp f 0 s s1) (hex : exS p inp L l s = exprS L.cal (paramsL p) inp (l.drop k.toNat) pile s1) (hr : ∃ r mx, C3 f.vars (paramsL p) (l.drop k.toNat) pile.length mx = some (1, r)) (hpl : (pile.length : Int) ≤ k)
  {pile' : List Int} {s' : Sx} {v : Int} (ht : tokX L.cal (paramsL p) inp (l[k.toNat]'(by omega)) pile s1 = (0, v, pile', s')) {k' : Int} (hk : k' = k + 1) {m : Nat} {ws : List T} {b1 b2 b3 : Blk}
  (e1 : m = pile'.length) (e2 : ws = pile'.map T.int) (e3 : b1 = .box (rS pv iv most s'.m.fuel 0 s'.m)) (e4 : b2 = .box (gC fn s'.vars s'.off s'.res 0 0 false bp)) (e5 : b3 = .obox bpv (gC q.fn q.vars q.off q.res (hH s'.by') (nH s'.by') (xH s'.by') q.bp)) :
  ExI p inp f L l s pv iv bp q bpv most fn k' m ws b1 b2 b3 := by
 subst hk
 obtain ⟨g1, g2, r, mx, g3⟩ := JG h0 h1 hr
 obtain ⟨q1, q2⟩ := Nd hL hg hto.ok g1 g2
 rw [ht] at q1 q2;dsimp only at q1 q2
 have q2 := q2 rfl
 have hps := C7 (IM hg) (l[k.toNat]'(by omega))
 refine ⟨pile', s', by omega, by omega, hto.trans q1 (by omega), ?_, ⟨r, mx, by rw [q2]; exact g3⟩, by omega, e1, e2, e3, e4, e5⟩;rw [hex, Cx h0 h1, exprS, ht];rfl
theorem SD {h : Int} (e : haH h = 1) : h = 1 := by unfold haH at e; split at e <;> omega
theorem RZ {h : Int} (e : ¬ haH h = 1) : ¬ h = 1 := by intro h; subst h; exact e rfl
theorem Jz {h : Int} (e : h < 4) (m : Ms) : fuH h m = m.fuel := by unfold fuH; rw [if_neg (by omega)]
theorem J9 {h : Int} (e : h < 4) : coH h = 0 := by unfold coH; rw [if_neg (by omega)]
theorem SC {h : Int} (e : h < 4) : haH h = h := by unfold haH; rw [if_neg (by omega)]
end
theorem Proc.argLi {F : Nat} {a b e : D} {zs : List T} {ys : List Int} {rv : List Value} {rt : List T} {ks ks' : List Blk} {r : D} (h : zs = ys.map T.int) (hp : Proc Try.prog F [a, b, .t (T.ints ys), e] rv rt ks r ks') : Proc Try.prog F [a, b, .t (.list 1 zs), e] rv rt ks r ks' := by
 subst h; exact hp
theorem Fu {a a' b b' : Int} (h1 : a = a') (h2 : b = b') : A2 [D.t (T.v (Value.int .i64 a)), D.t (T.v (Value.int .i64 b))] = D.tup [D.t (T.int a'), D.t (T.int b')] := by rw [h1, h2]; rfl
theorem O0 (p : Prog) (inp : List Int) (most n : Nat) (L : Lev) (hL : KU p inp L) (hC : Po p inp most n L) (hg : AS p = true) (hp : p.ok 1048576) (hi : inp.length ≤ 1048576) (f : Func) (hf : f ∈ p.funcs) (fn : Int) (l : List Tok) (hl : l.length ≤ 12) (hr : ∃ r, C3 f.vars (paramsL p) l 0 0 = some (1, r)) (s : Sx) (hs : s.ok p inp f) (hn : s.m.fuel ≤ n) (hn2 : s.m.fuel ≤ 1048576) (hti : s.m.trace.length + s.m.fuel ≤ 1048576) (hdm : s.m.deep ≤ most) (hmost : most ≤ 1048576) (bm bc bb : Nat) (q : Kp) (pv iv : Value) (xv : List Value) (xt : List T) : Proc Try.prog 118 [.t (.v (.pointer (some ⟨bm, 0, none⟩))), .t (.v (.pointer (some ⟨bc, 0, none⟩))), .t (T.Toks l)] ((pv :: iv :: xv)) ((T.Funcs p.funcs :: T.ints inp :: xt)) [.obox (.pointer (some ⟨bm, 0, none⟩)) (rS pv iv most s.m.fuel 0 s.m), .obox (.pointer (some ⟨bc, 0, none⟩)) (gC fn s.vars s.off s.res 0 0 false (byP bb s.by')), byK bb q s.by'] (.tup [.t (.int (exS p inp L l s).2.1), .t (.int (haH (exS p inp L l s).1))]) [.obox (.pointer (some ⟨bm, 0, none⟩)) (rS pv iv most (fuH (exS p inp L l s).1 (exS p inp L l s).2.2.m) (coH (exS p inp L l s).1) (exS p inp L l s).2.2.m), .obox (.pointer (some ⟨bc, 0, none⟩)) (gC fn (exS p inp L l s).2.2.vars (exS p inp L l s).2.2.off (exS p inp L l s).2.2.res 0 0 false (byP bb s.by')), .obox (byP bb s.by') (gC q.fn q.vars q.off q.res (hH (exS p inp L l s).2.2.by') (nH (exS p inp L l s).2.2.by') (xH (exS p inp L l s).2.2.by') q.bp)] := by
 have hgp := AX hg
 have hgv := Dc hg hf
 refine Proc.intro tys Try.func118 Z Z (N := 142) [100, 101, 102] 99 ([(0, .t (.v (.pointer (some ⟨bm, 0, none⟩)))), (1, .t (.v (.pointer (some ⟨bc, 0, none⟩)))), (2, .t (T.Toks l))]) ([(100, .obox (.pointer (some ⟨bm, 0, none⟩)) (rS pv iv most s.m.fuel 0 s.m)), (101, .obox (.pointer (some ⟨bc, 0, none⟩)) (gC fn s.vars s.off s.res 0 0 false (byP bb s.by'))), (102, byK bb q s.by'), (99, .ro (pv :: iv :: xv) (T.Funcs p.funcs :: T.ints inp :: xt))]) Z Z Z Z (by decide) (by decide) Z (fun w0 G F0 => ?_);refine nY Z (AQ (Le.openNew (u := 100) 1100 Z Z Z Z Z) (nY Z (AQ (Le.named (t := 0) (u := 100) 1100 Z Z) (nY Z (AQ (Le.openNew (u := 101) 1101 Z Z Z Z Z) (nY Z (AQ (Le.named (t := 1) (u := 101) 1101 Z Z) (nY Z (sG (eK 2 Z (nA (eZ Z (WO_le (Le.nilOwn (u := 8) 1 Z) (WO_le (Le.adoptE (u := 8) 8 Z Z) (nZ Z ?_)))))))))))))));refine nB (sQ (sG (eZ Z (evE ?_))));refine eZ Z (nB (AD ?_));refine lK (α := Int × Nat × List T × Blk × Blk × Blk) [0, 1, 18, 19] [99, 1100, 1101] (fun x => [(20, .t (.int (x.1))), (8, .sl 8 0 (x.2.1))]) (fun x => [(8, .L 1 (x.2.2.1)), (100, (x.2.2.2.1)), (101, (x.2.2.2.2.1)), (102, (x.2.2.2.2.2))]) (fun x => ExI p inp f L l s pv iv (byP bb s.by') q (byP bb s.by') most fn (x.1) (x.2.1) (x.2.2.1) (x.2.2.2.1) (x.2.2.2.2.1) (x.2.2.2.2.2)) (fun x => Int.toNat (l.length - (x.1))) (0, 0, [], .box (rS pv iv most s.m.fuel 0 s.m), .box (gC fn s.vars s.off s.res 0 0 false (byP bb s.by')), .obox (byP bb s.by') (gC q.fn q.vars q.off q.res (hH s.by') (nH s.by') (xH s.by') q.bp)) ?_ (fun x hx => ?_)
 ·exact ⟨[], s, by omega, by omega, Sx.to.refl hs (by omega) (by omega), rfl, hr.imp fun r h => ⟨0, h⟩, by simp, rfl, rfl, rfl, rfl, rfl⟩
 obtain ⟨k, m, ws, b1, b2, b3⟩ := x
 obtain ⟨pile, s1, hk0, hk1, hto, hex, hrun, hpl, hm, hws, hb1, hb2, hb3⟩ := hx
 dsimp only at hk0 hk1 hto hex hrun hpl hm hws hb1 hb2 hb3 ⊢;subst hm hws hb1 hb2 hb3;refine nY Z (sG (eZ Z (nB (sQ ?_))));refine AB Z (fun h1 => ?_) (fun h1 => ?_)
 ·
  simp only [HS] at h1;refine AC (tN (sQ (AD (sG ?_))))
  have hkl : k < l.length := by omega
  obtain ⟨hkn, hnd, hrun2⟩ := JG hk0 hkl hrun
  have hpl12 : pile.length ≤ 12 := by omega
  have hfu : s1.m.fuel ≤ s.m.fuel := hto.le.1
  have hft : s1.m.trace.length + s1.m.fuel ≤ s.m.trace.length + s.m.fuel := hto.le.2.1
  have hus : s1.m.used ≤ inp.length := hto.le.2.2
  have hdp : s1.m.deep = s.m.deep := hto.deep (by omega)
  have hvl : s1.vars.length = f.vars.toNat := hto.ok.vars
  refine iY (k := ?_);refine eZ Z ?_
  try refine WO_le (Le.freeze (u := 23) rfl) ?_
  refine nZ Z (AF tys Z Z (AA Z) Z Z Z (nZ Z (sT Z (nZ Z (nA (eZ Z (nB (sQ (sG (eK 2 Z (nB (AD (sQ (kY [0,1,8,10,11,18,19,20,21,22,23,24,25] Z (rG ?_)))))))))))))));refine eK 2 Z (nB ?_);refine AB Z (fun h2 => ?_) (fun h2 => ?_)
  ·
   simp only [HS] at h2;refine rG (eK 3 Z (oN (bN (tN ?_))))
   skip
   refine rG (eK 2 Z (bZ [T.v _] ?_));refine nZ Z (AE tys Z Z (AA Z) Z Z Z Z Z (.own Z (by first | omega | (simp; done) | (simp; omega))) Z (.own Z (by simp)) (by decide) (by simp; omega) (by decide) Z ?_);refine nZ Z (kZ [0,1,8,10,11,18,19,20,21,22,23,24,25,50,51,52,53,134,135,136,137] Z (eZ Z (oN (bN (tN (rG (evI ?_)))))));refine eZ Z (oN ?_);refine lQ (_, _, _, _, _, _) ?_ ?_
   ·dsimp only
    first
    | exact ExI.next hL hg hk0 (by omega) hto hex hrun hpl (tok_1 (by assumption)) rfl (by simp) (by simp [Sn]) rfl rfl rfl
   ·(show Int.toNat _ < Int.toNat _); omega
  simp only [HS] at h2;refine sG (eK 2 Z (nB ?_));refine AB Z (fun h3 => ?_) (fun h3 => ?_)
  ·
   simp only [HS] at h3
   have hk2 : 0 ≤ (l[k.toNat]'(by omega)).n ∧ (l[k.toNat]'(by omega)).n < f.vars := by have h2 : (l[k.toNat]'(by omega)).op = 2 := (by assumption); simp [knownT, h2] at hkn; exact hkn
   refine AQ (Le.adoptBox (u := 101) (j := 1) (id := 191) Z Z Z) (nY Z (Aj BE (by kernel_rfl) (evQ ?_)));refine BI rfl Z (AA Z) Z Z Z (AR Z (evQ ?_));refine evQ ?_;refine evQ ?_;refine evQ ?_;refine EN tys Z Z (AA Z) Z Z Z Z Z Z Z Z hk2.1 (by rw [Sk, hvl]; omega) ?_;refine GA tys Z Z (AA Z) Z Z Z Z (D1 _ _ hk2.1 (by rw [hvl]; omega)) Z ?_;refine AR Z (evQ ?_);refine A7 (bN (tN ?_))
   (refine AQ (Le.gatherBox (u := 101) (j := 1) (id := 191) rfl rfl rfl (by simp) rfl) ?_; refine AU rfl ?_)
   refine rG (eK 2 Z (bZ [T.v _] ?_));refine nZ Z (AE tys Z Z (AA Z) Z Z Z Z Z (.own Z (by first | omega | (simp; done) | (simp; omega))) Z (.own Z (by simp)) (by decide) (by simp; omega) (by decide) Z ?_);refine nZ Z (eZ Z (oN (bN (tN (rG (evI ?_))))));refine eZ Z (oN ?_);refine lQ (_, _, _, _, _, _) ?_ ?_
   ·dsimp only
    first
    | exact ExI.next hL hg hk0 (by omega) hto hex hrun hpl (tok_2 (by assumption)) rfl (by simp) (by rw [Ay hk2.1 (by omega)]; simp [Sn]) rfl (by simp [gC, Sn, T.ints]) rfl
   ·(show Int.toNat _ < Int.toNat _); omega
  simp only [HS] at h3;refine sG (eK 2 Z (nB ?_));refine AB Z (fun h4 => ?_) (fun h4 => ?_)
  ·
   simp only [HS] at h4;refine sQ (Aj BE (by kernel_rfl) (evQ ?_));refine AR Z (BI rfl Z (AA Z) Z Z Z (evQ ?_));refine evQ ?_;refine evQ ?_;refine evQ ?_;refine BI rfl Z (AA Z) Z Z Z (AR Z (evQ ?_));refine DG tys 99 1 Z Z (AA Z) Z Z Z Z (evEQ ?_);refine evQ ?_;refine A7 (tN ?_);refine AB Z (fun h5 => ?_) (fun h5 => ?_)
   ·
    simp only [HS] at h5;refine sQ (Aj BE (by kernel_rfl) (evQ ?_));refine BI rfl Z (AA Z) Z Z Z (AR Z (evQ ?_));refine DG tys 99 1 Z Z (AA Z) Z Z Z Z (evQ ?_);refine BI rfl Z (AA Z) Z Z Z (evQ ?_);refine evQ ?_;refine AR Z (evQ ?_);refine A9 tys Z Z (AA Z) Z Z Z Z Z Z Z (by omega) _ (EK _ _ (by omega) (by omega)) (evQ ?_);refine evQ ?_;refine A7 (tN (rG (eZ Z (AK rfl Z (AA Z) Z Z Z (eK 3 Z (kZ [0,1,8,10,11,18,19,20,21,22,23,24,25,50,51,54,55,64,65,66,67,68,69,70,71,72,73,74,75,76,77,78,79,80,81,82,83,84,85,86,87,88,89,90,91,92] Z (evI ?_)))))));refine AK rfl Z (AA Z) Z Z Z (eK 2 Z (sT Z (nZ Z (oN (bN (tN ?_))))))
    skip
    refine rG (eK 2 Z (bZ [T.v _] ?_));refine nZ Z (AE tys Z Z (AA Z) Z Z Z Z Z (.own Z (by first | omega | (simp; done) | (simp; omega))) Z (.own Z (by simp)) (by decide) (by simp; omega) (by decide) Z ?_);refine nZ Z (kZ [0,1,8,10,11,18,19,20,21,22,23,24,25,50,51,54,55,64,65,66,67,68,69,70,71,72,73,74,75,76,77,78,79,80,81,82,83,84,85,86,87,88,89,90,91,92,93,94,95,96,134,135,136,137] Z (eZ Z (oN (bN (tN (rG (evI ?_)))))));refine eZ Z (oN ?_);refine lQ (_, _, _, _, _, _) ?_ ?_
    ·dsimp only
     first
     | exact ExI.next hL hg hk0 (by omega) hto hex hrun hpl (tok_9 (by assumption)) rfl (by simp) (by rw [inS, if_pos (by omega), List.getElem?_eq_getElem (by omega)]; simp [Sn]) (by rw [inS, if_pos (by omega)]; rfl) rfl rfl
    ·(show Int.toNat _ < Int.toNat _); omega
   simp only [HS] at h5;refine AC (bN (tN ?_))
   skip
   refine rG (eK 2 Z (bZ [T.v _] ?_));refine nZ Z (AE tys Z Z (AA Z) Z Z Z Z Z (.own Z (by first | omega | (simp; done) | (simp; omega))) Z (.own Z (by simp)) (by decide) (by simp; omega) (by decide) Z ?_);refine nZ Z (eZ Z (kZ [0,1,8,10,11,18,19,20,21,22,23,24,25,50,51,54,55,64,65,66,67,68,69,70,71,72,73,74,75,76,134,135,136,137] Z (oN (bN (tN (rG (evI ?_)))))));refine eZ Z (oN ?_);refine lQ (_, _, _, _, _, _) ?_ ?_
   ·dsimp only
    first
    | exact ExI.next hL hg hk0 (by omega) hto hex hrun hpl (tok_9 (by assumption)) rfl (by simp) (by rw [inS, if_neg (by omega)]; simp [Sn]) (by rw [inS, if_neg (by omega)]; rfl) rfl rfl
   ·(show Int.toNat _ < Int.toNat _); omega
  simp only [HS] at h4;refine sG (eK 2 Z (nB ?_));refine AB Z (fun h5 => ?_) (fun h5 => ?_)
  ·
   simp only [HS] at h5;refine kY [0,1,8,10,11,18,19,20,21,22,23,24,25,50,51,54,55,64,65,97,98] Z (rG ?_)
   have hrec := QM bc bb q s1.by' fn s1.vars s1.off s1.res 0 0 false (pv :: iv :: xv) (T.Funcs p.funcs :: T.ints inp :: xt)
   unfold byK at hrec;rw [Gy (bb := bb) (JO s1.by'), Gy (bb := bb) hto.by'] at hrec;refine eZ Z (WO_le (Le.close (u := 101) 1101 Z Z Z) (nZ Z ?_));refine cP [101,102] (hm := (hrec)) (k := ?_);refine nZ Z (WO_le (Le.open (u := 101) 1101 Z Z Z Z) (nZ Z (eZ Z (oN (bN (tN ?_))))))
   skip
   refine rG (eK 2 Z (bZ [T.v _] ?_));refine nZ Z (AE tys Z Z (AA Z) Z Z Z Z Z (.own Z (by first | omega | (simp; done) | (simp; omega))) Z (.own Z (by simp)) (by decide) (by simp; omega) (by decide) Z ?_);refine nZ Z (eZ Z (oN (bN (tN (kY [0,1,8,10,11,18,19,20,21,22,23,24,25,50,51,54,55,64,65,97,98,99,100,134,135,136,137] Z (rG (evI ?_)))))));refine eZ Z (oN ?_);refine lQ (_, _, _, _, _, _) ?_ ?_
   ·dsimp only
    first
    | exact ExI.next hL hg hk0 (by omega) hto hex hrun hpl (tok_10 (by assumption)) rfl (by simp) (by simp [Sn]) rfl rfl rfl
   ·(show Int.toNat _ < Int.toNat _); omega
  simp only [HS] at h5;refine sQ (kY [0,1,8,10,11,18,19,20,21,22,23,24,25,50,51,54,55,64,65,97,98] Z (rG (eK 2 Z (nB ?_))));refine AB Z (fun h6 => ?_) (fun h6 => ?_)
  ·
   simp only [HS] at h6;refine sQ ?_
   have h11 : (l[k.toNat]'(by omega)).op = 11 := by assumption
   have hk11 := DM hkn h11
   rw [BL] at hk11
   have hfu11 := Bj hk11.1 hk11.2
   have hpb := LF (IM hg) (l[k.toNat]'(by omega)).n
   have hnd11 : atI (paramsL p) (l[k.toNat]'(by omega)).n ≤ pile.length := by have := hnd; rw [As, if_neg (by omega), if_pos h11] at this; exact this
   refine Aj BE (by kernel_rfl) (evQ ?_);refine evEQ ?_;refine evQ ?_;refine BI rfl Z (AA Z) Z Z Z (AR Z (evQ ?_));refine evQ ?_;refine DG tys 99 0 Z Z (AA Z) Z Z Z Z (evQ ?_);refine evQ ?_;refine A9 tys Z Z (AA Z) Z Z Z Z Z Z Z hk11.1 _ (EK _ _ hk11.1 hk11.2) (AR Z (evQ ?_));refine evQ ?_;refine evIQ ?_;refine evQ ?_;refine A7 (tN (sQ ?_))
   obtain ⟨R, hR⟩ : ∃ R, R = L.call (l[k.toNat]'(by omega)).n (pile.drop (pile.length - (atI (paramsL p) (l[k.toNat]'(by omega)).n).toNat)) none s1.m := ⟨_, rfl⟩
   have hcl11 := hL.call (l[k.toNat]'(by omega)).n (pile.drop (pile.length - (atI (paramsL p) (l[k.toNat]'(by omega)).n).toNat)) none s1.m hk11.1 hk11.2 (by rw [Te]; omega) hto.ok.used
   have hCa := hC (l[k.toNat]'(by omega)).n (pile.drop (pile.length - (atI (paramsL p) (l[k.toNat]'(by omega)).n).toNat)) none s1.m bm 0 ⟨0, [], [], 0, .pointer none⟩ pv iv xv xt hk11.1 hk11.2 (by rw [Te]; omega) hto.ok.used (by omega) (by omega) (by omega) (by omega)
   rw [← hR] at hcl11 hCa;refine AQ (Le.close (u := 100) 1100 Z Z Z) (nY Z (AQ (Le.noBox 150 (gC 0 [] [] 0 0 0 false (.pointer none)) Z) (nY Z (Br [[], [], [], [], [], [], [], [], [], [], [], []] BE (by kernel_rfl) (Ac (QG_ev tys Z Z (AA Z) Z (AG (Ac (QG_ev tys Z Z (AA Z) Z (AG (Ac (QG_ev tys Z Z (AA Z) Z (AG (Ac (QG_ev tys Z Z (AA Z) Z ?_)))))))))))))));refine AG (Aq Z (Ac (QG_ev tys Z Z (AA Z) Z (AG (D3 (Pm tys Z Z (AA Z) Z Z Z Z Z Z Z Z Z (by omega) (by omega) (by omega) (AG ?_)))))));refine Cr (rid := 99) [150, 100] Z Z (AA Z) Z Z (by repeat (first | exact ResP.done | refine ResP.pin0 1150 Z ?_ | refine ResP.pin0 1100 Z ?_ | refine ResP.t ?_ | refine ResP.nil 1 ?_ | refine ResP.nil' ?_ | refine ResP.own ?_ | refine ResP.sl Z Z (by first | omega | (simp; omega)) ?_ | refine ResP.aggT (by repeat (first | exact ResP.done | refine ResP.t ?_)) ?_)) Z (by repeat (first | exact trivial | refine ⟨rfl, rfl, ?_⟩)) (by decide) (Proc.argLi (slI (q := pile.length - (atI (paramsL p) (l[k.toNat]'(by omega)).n).toNat) (by omega) (by omega) (by omega)) hCa) Z Z Z ?_;refine Ac (QG_ev tys Z Z (AA Z) Z (AG (Aq Z (Ac (QG_ev tys Z Z (AA Z) Z (AG (Ac (QG_ev tys Z Z (AA Z) Z (AG (Ac (QG_ev tys Z Z (AA Z) Z (AG (Ac (QG_ev tys Z Z (AA Z) Z (AG ?_)))))))))))))));refine Aq Z (E6 ?_);refine ⟨by kernel_rfl, ?_⟩;refine nZ Z (WO_le (Le.open (u := 100) 1100 Z Z Z Z) (nZ Z (nB (sQ (sG (eK 2 Z (nB ?_)))))));refine AB Z (fun h7 => ?_) (fun h7 => ?_)
   ·
    simp only [HS] at h7;refine sG (eK 4 Z (nB (AQ (Le.close (u := 100) 1100 Z Z Z) (nY Z (AQ (Le.close (u := 101) 1101 Z Z Z) (nY Z (rT (tR (bR (tR (bR (tR (AP (bR (tR ?_)))))))))))))));refine eP [_, _, _] ?_ ?_
    ·(have he := F6 hk0 hkl hex (Nc hR (by assumption) (RZ (by assumption))) (by have := hcl11.h1; omega); exact Fu (by rw [he]) (by rw [he]))
    ·(have he := F6 hk0 hkl hex (Nc hR (by assumption) (RZ (by assumption))) (by have := hcl11.h1; omega); rw [he]; rfl)
   simp only [HS] at h7;refine AC (tN (rG (eK 2 Z (Dg tys Z Z (AA Z) Z Z Z Z Z Z Z Z Z (by omega) (by omega) (by omega) (eK 3 Z (oN (bN (tN ?_))))))))
   skip
   refine kY [0,1,8,10,11,12,13,14,18,19,20,21,22,23,24,25,50,51,54,55,64,65,97,98,101,102,103,104,105,106,107,108,109,110,111,112,113,114,115,116,117,118,119,120,121,122,123,124,125,126,127,130,131,132,133] Z (rG (eK 2 Z (bZ [T.v _] ?_)));refine nZ Z (AE tys Z Z (AA Z) Z Z Z Z Z (.own Z (by first | omega | (simp; done) | (simp; omega))) Z (.own Z (by simp)) (by decide) (by simp; omega) (by decide) Z ?_);refine nZ Z (eZ Z (oN (bN (tN (rG (evI ?_))))));refine eZ Z (oN ?_);refine lQ (_, _, _, _, _, _) ?_ ?_
   ·dsimp only
    first
    | exact ExI.next hL hg hk0 (by omega) hto hex hrun hpl (tok_11 hR (by assumption) (SD (by assumption))) rfl (by simp; omega) (by simp [Sn]; omega) (by have e := SD (by assumption); rw [Jz (by omega), J9 (by omega)]; rfl) rfl rfl
   ·(show Int.toNat _ < Int.toNat _); omega
  simp only [HS] at h6;refine sQ ?_
  have hk3 : 3 ≤ (l[k.toNat]'(by omega)).op ∧ (l[k.toNat]'(by omega)).op ≤ 8 := by have := hkn; unfold knownT at this; rw [if_neg (by assumption), if_neg (by assumption), if_neg (by assumption)] at this; simp only [Sl, decide_eq_true_eq] at this; omega
  have hp2 : 2 ≤ pile.length := by have := hnd; rw [As, if_pos hk3] at this; omega
  refine rG (eZ Z (evE ?_));refine evI ?_;refine eZ Z (nB (sQ (Aj BE (by kernel_rfl) (evQ ?_))));refine AR Z (evQ ?_);refine evQ ?_;refine evQ ?_;refine EN tys Z Z (AA Z) Z Z Z Z Z Z Z Z (by omega) (by omega) (GA tys Z Z (AA Z) Z Z Z Z (D1 _ _ (by omega) (by omega)) Z (evQ ?_));refine AR Z (evQ ?_);refine evIQ ?_;refine EN tys Z Z (AA Z) Z Z Z Z Z Z Z Z (by omega) (by omega) (GA tys Z Z (AA Z) Z Z Z Z (D1 _ _ (by omega) (by omega)) Z (E0 ?_));refine ⟨_, N6 _ _ _, rfl, ?_⟩;refine evQ ?_;refine AR Z (evQ ?_);refine evQ ?_;refine evQ ?_;refine evQ ?_;refine A7 (tN (sQ (sG (eK 2 Z (nB ?_)))));refine AB Z (fun h7 => ?_) (fun h7 => ?_)
  ·
   simp only [HS] at h7;refine sG (eK 2 Z (nB (AQ (Le.close (u := 100) 1100 Z Z Z) (nY Z (AQ (Le.close (u := 101) 1101 Z Z Z) (nY Z (rT (tR (bR (tR (bR (tR (AP (bR (tR ?_)))))))))))))));refine eP [_, _, _] ?_ ?_
   ·(have he := F6 hk0 hkl hex (RP (by assumption) (by assumption) (by assumption) (by assumption) (by assumption) (i := ((pile.length : Int) - 2).toNat) (j := ((pile.length : Int) - 2 + 1).toNat) (by omega) (by omega) (by omega) (by first | assumption | simp_all)) (by decide); exact Fu (by rw [he]) (by rw [he]; rfl))
   ·(have he := F6 hk0 hkl hex (RP (by assumption) (by assumption) (by assumption) (by assumption) (by assumption) (i := ((pile.length : Int) - 2).toNat) (j := ((pile.length : Int) - 2 + 1).toNat) (by omega) (by omega) (by omega) (by first | assumption | simp_all)) (by decide); rw [he]; rfl)
  simp only [HS] at h7;refine AC (tN (rG (eK 2 Z (Dg tys Z Z (AA Z) Z Z Z Z Z Z Z Z Z (by omega) (by omega) (by omega) (kZ [0,1,8,10,11,15,16,17,18,19,20,21,22,23,24,25,26,27,28,29,30,31,32,33,34,35,36,37,38,39,40,41,42,43,44,45,46,47,48,50,51,54,55,64,65,97,98,101,102] Z (eK 3 Z (oN (bN (tN ?_)))))))))
  skip
  refine rG (eK 2 Z (bZ [T.v _] ?_));refine nZ Z (AE tys Z Z (AA Z) Z Z Z Z Z (.own Z (by first | omega | (simp; done) | (simp; omega))) Z (.own Z (by simp)) (by decide) (by simp; omega) (by decide) Z ?_);refine nZ Z (eZ Z (oN (bN (tN (kY [0,1,8,10,11,15,16,17,18,19,20,21,22,23,24,25,26,27,28,29,30,31,32,33,34,35,36,37,38,39,40,41,42,43,44,45,46,47,48,49,50,51,54,55,64,65,97,98,101,102,134,135,136,137] Z (rG (evI ?_)))))));refine eZ Z (oN ?_);refine lQ (_, _, _, _, _, _) ?_ ?_
  ·dsimp only
   first
   | exact ExI.next hL hg hk0 (by omega) hto hex hrun hpl (tok_r' (by assumption) (by assumption) (by assumption) (by assumption) (by assumption) (i := ((pile.length : Int) - 2).toNat) (j := ((pile.length : Int) - 2 + 1).toNat) (by omega) (by omega) (by omega) (by first | assumption | simp_all)) rfl (by simp) (by simp [Sn]) rfl rfl rfl
  ·(show Int.toNat _ < Int.toNat _); omega
 simp only [HS] at h1;refine AN (tE (AJ (AI (tN (sQ ?_)))))
 have hpl1 := N2 (by omega) hrun
 refine rG (eZ Z (Ae tys Z Z (AA Z) Z Z Z Z Z Z Z Z (by omega) (by omega) (Al tys Z Z (AA Z) Z Z Z Z (D1 _ _ (by omega) (by omega)) Z (eK 2 Z (nB (AQ (Le.close (u := 100) 1100 Z Z Z) (nY Z (AQ (Le.close (u := 101) 1101 Z Z Z) (nY Z (rT ?_))))))))));refine eP [_, _, _] ?_ ?_
 ·(have he := O1 (by omega) hex; exact Fu (by rw [he, List.getElem?_eq_getElem (by omega)]; rfl) (by rw [he]; rfl))
 ·(have he := O1 (by omega) hex; rw [he]; rfl)
end Go.Proofs.Ytddfnpiikkilhaa
