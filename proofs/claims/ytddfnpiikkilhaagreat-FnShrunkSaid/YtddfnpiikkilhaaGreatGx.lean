/- Walks and laws of the claim. -/
import Derived.Test.YtddfnpiikkilhaaGreatGb
import Derived.Test.YtddfnpiikkilhaaGreatIh
import Derived.Test.YtddfnpiikkilhaaGreatMd
import Derived.Test.YtddfnpiikkilhaaGreatIk
import Derived.Test.YtddfnpiikkilhaaGreatMc
set_option linter.unusedVariables false
set_option linter.unusedSimpArgs false
set_option maxRecDepth 10000
set_option maxHeartbeats 1000000
namespace Go.Proofs.YtddfnpiikkilhaaGreat
open Go.Eng
open Go.Eng
def run (m : Int) (g : Nat) : List Int := (List.range g).map fun i : Nat => m + i
theorem DP (m : Int) (g : Nat) : (run m g).length = g := by simp [run]
theorem Eo (m : Int) (g : Nat) : run m (g + 1) = run m g ++ [m + g] := by simp [run, List.range_succ]
theorem mem_run {m x : Int} {g : Nat} : x ∈ run m g ↔ m ≤ x ∧ x < m + g := by
 simp only [run, TM, TJ]
 constructor
 ·rintro ⟨i, hi, rfl⟩; omega
 ·intro h; exact ⟨(x - m).toNat, by omega, by omega⟩
theorem P4 (m : Int) (g : Nat) : (run m g).Pairwise (· < ·) := by
 induction g with
 | zero => simp [run]
 | succ g ih =>
  rw [Eo, List.pairwise_append];refine ⟨ih, by simp, fun a ha b hb => ?_⟩;rw [TB] at hb;subst hb;exact (mem_run.1 ha).2
theorem Ib (m : Int) (g h : Nat) : run m (g + h) = run m g ++ run (m + g) h := by
 induction h with
 | zero => simp [run]
 | succ h ih => rw [← Tk, Eo, ih, Eo, S2]; congr 3; simp; omega
theorem N4 {m : Int} {g : Nat} {a b : List Int} (h : run m g = a ++ b) : a = run m a.length ∧ b = run (m + a.length) b.length := by
 have hl := congrArg List.length h
 rw [DP, Sk] at hl;rw [hl, Ib] at h;exact ⟨(List.append_inj_left h (by rw [DP])).symm, (List.append_inj_right h (by rw [DP])).symm⟩
theorem IM (N : Nat) : DY N = run 0 N := by simp [DY, run]
theorem Rr (m : Int) (g : Nat) : put (run m g) (m + g) = run m (g + 1) := by
 have h : ∀ x, x ∈ run m g → decide (x < m + (g : Int)) = true := fun x hx => decide_eq_true (mem_run.1 hx).2
 rw [put, if_neg (fun h => by have := (mem_run.1 h).2; omega), Eo]
 congr 1
 ·have : ∀ l : List Int, (∀ x, x ∈ l → decide (x < m + (g : Int)) = true) → l.takeWhile (fun x => decide (x < m + (g : Int))) = l := by
   intro l hl
   induction l with
   | nil => rfl
   | cons y l ih => rw [List.takeWhile_cons, if_pos (hl y (by simp)), ih fun x hx => hl x (by simp [hx])]
  exact this _ h
 ·have : ∀ l : List Int, (∀ x, x ∈ l → decide (x < m + (g : Int)) = true) → l.dropWhile (fun x => decide (x < m + (g : Int))) = [] := by
   intro l hl
   induction l with
   | nil => rfl
   | cons y l ih => rw [List.dropWhile_cons, if_pos (hl y (by simp)), ih fun x hx => hl x (by simp [hx])]
  rw [this _ h]
theorem ord_app {N : Int} {kids : Int → List Int × List Int} (hd : BQ N kids) : ∀ {a b : List Int}, inB N 0 (a ++ b) → ord N kids (a ++ b) = ord N kids a ++ ord N kids b
 | [], b, _ => by rw [ord_nil]; rfl
 | x :: a, b, h => by
  rw [TU] at h ⊢
  rw [CD hd h, CD hd (fun y hy => h y (by
   rcases Su.1 hy with rfl | hy
   ·exact TA ..
   ·exact S7 _ (Td _ hy))), ord_app hd (a := a) (fun y hy => h y (S7 _ hy))]
  simp
theorem QP {N : Int} {kids : Int → List Int × List Int} (hd : BQ N kids) {b : List Int} (hb : inB N 0 b) (m : Int) (hm : m ∈ ord N kids b) : ∃ l r, ord N kids b = l ++ ord N kids [m] ++ r :=
 D7 hd (p := fun b o => m ∈ o → ∃ l r, o = l ++ ord N kids [m] ++ r) (fun h => by cases h) (fun n b h1 h2 _ i1 i2 i3 hm => by
  simp only [TU, Su, So] at hm ⊢
  rcases hm with rfl | (hm | hm) | hm
  ·refine ⟨[], ord N kids b, ?_⟩
   rw [CD hd (by intro x hx; rw [TB] at hx; subst hx; exact ⟨h1, h2⟩), ord_nil]
   simp
  ·obtain ⟨l, r, e⟩ := i1 hm; exact ⟨n :: l, r ++ (ord N kids (kids n).2 ++ ord N kids b), by rw [e]; simp⟩
  ·obtain ⟨l, r, e⟩ := i2 hm; exact ⟨n :: (ord N kids (kids n).1 ++ l), r ++ ord N kids b, by rw [e]; simp⟩
  ·obtain ⟨l, r, e⟩ := i3 hm; exact ⟨n :: (ord N kids (kids n).1 ++ (ord N kids (kids n).2 ++ l)), r, by rw [e]; simp⟩) hb hm
theorem B8 {f : Func} (h : Ao f = true) : BQ f.stmts.length (kids f.stmts) ∧ inB f.stmts.length 0 f.body ∧ ord f.stmts.length (kids f.stmts) f.body = DY f.stmts.length := by
 unfold Ao at h;simp only [Si] at h;exact shapeB_iff.1 h.2.2.1
def CV (f : Func) (s : Int) : Nat := (Al f [s]).length
theorem C1 {f : Func} (h : Ao f = true) {s : Int} (h0 : 0 ≤ s) (h1 : s < f.stmts.length) : Al f [s] = run s (CV f s) ∧ 1 ≤ CV f s ∧ s + CV f s ≤ f.stmts.length := by
 obtain ⟨hd, hb, ho⟩ := B8 h
 have hm : s ∈ ord f.stmts.length (kids f.stmts) f.body := by rw [ho]; exact mem_upto.2 ⟨h0, h1⟩
 obtain ⟨l, r, e⟩ := QP hd hb s hm
 rw [ho, IM, S2] at e
 have hs : Al f [s] = s :: (Al f (kids f.stmts s).1 ++ Al f (kids f.stmts s).2) := by
  unfold Al;rw [CD hd (by intro x hx; rw [TB] at hx; subst hx; exact ⟨h0, h1⟩), ord_nil]
  simp
 have hl := congrArg List.length e
 rw [DP, Sk, Sk] at hl
 obtain ⟨e1, e2⟩ := N4 e
 obtain ⟨e3, e4⟩ := N4 e2.symm
 have e5 : Al f [s] = run (0 + (l.length : Int)) (CV f s) := e3
 have hg : 1 ≤ CV f s := by unfold CV; rw [hs]; simp
 have e6 : s = 0 + (l.length : Int) := by
  have h2 : (Al f [s]).head? = some s := by rw [hs]; rfl
  rw [e5] at h2
  obtain ⟨g, hg'⟩ : ∃ g, CV f s = g + 1 := ⟨CV f s - 1, by omega⟩
  rw [hg'] at h2
  simp [run, List.range_succ_eq_map] at h2
  omega
 rw [← e6] at e5;refine ⟨e5, hg, ?_⟩
 have : (ord (f.stmts.length : Int) (kids f.stmts) [s]).length = CV f s := rfl
 omega
def BD (f : Func) (s : Int) : List Int := (BK f s).thn ++ (BK f s).els
theorem kidsL_kids {f : Func} {s : Int} : BD f s = both (kids f.stmts) s := by
 unfold BD both kids BK
 cases f.stmts[s.toNat]? <;> rfl
theorem Gf {f : Func} (hd : BQ f.stmts.length (kids f.stmts)) {s : Int} (h0 : 0 ≤ s) (h1 : s < f.stmts.length) : inB f.stmts.length (s + 1) (BD f s) := by
 intro x hx;rw [kidsL_kids] at hx
 rcases So.1 hx with hx | hx
 ·exact (hd s h0 h1).1 x hx
 ·exact (hd s h0 h1).2 x hx
theorem Lz {f : Func} (hd : BQ f.stmts.length (kids f.stmts)) {s : Int} (h0 : 0 ≤ s) (h1 : s < f.stmts.length) : Al f [s] = s :: Al f (BD f s) := by
 have hk := Gf hd h0 h1
 have hk2 := Au hk (show (0 : Int) ≤ s + 1 by omega)
 rw [kidsL_kids] at hk2;unfold Al;rw [CD hd (by intro x hx; rw [TB] at hx; subst hx; exact ⟨h0, h1⟩), ord_nil, kidsL_kids, both, ord_app hd hk2]
 simp
theorem Qa {f : Func} (hd : BQ f.stmts.length (kids f.stmts)) {s : Int} (h0 : 0 ≤ s) (h1 : s < f.stmts.length) (hg : Al f [s] = run s (CV f s)) {k : Nat} (hk : k < (BD f s).length) :
  (∀ (j : Nat) (hj : j < (Al f [(BD f s)[k]]).length), (Al f [(BD f s)[k]])[j] = s + ((1 + (Al f ((BD f s).take k)).length + j : Nat) : Int)) ∧ 1 + (Al f ((BD f s).take (k + 1))).length = 1 + (Al f ((BD f s).take k)).length + (Al f [(BD f s)[k]]).length ∧ 1 + (Al f ((BD f s).take k)).length + (Al f [(BD f s)[k]]).length ≤ CV f s := by
 have hin := Au (Gf hd h0 h1) (show (0 : Int) ≤ s + 1 by omega)
 have e1 : Al f ((BD f s).take (k + 1)) = Al f ((BD f s).take k) ++ Al f [(BD f s)[k]] := by
  have hq : inB f.stmts.length 0 ((BD f s).take k ++ [(BD f s)[k]]) := fun x hx => hin x (by
   rw [← List.take_succ_eq_append_getElem hk] at hx
   exact TC hx)
  unfold Al;rw [List.take_succ_eq_append_getElem hk, ord_app hd hq]
 have e2 : Al f (BD f s) = Al f ((BD f s).take (k + 1)) ++ Al f ((BD f s).drop (k + 1)) := by
  unfold Al;rw [← ord_app hd (by rw [TH]; exact hin), TH]
 rw [Lz hd h0 h1, e2, e1] at hg
 refine ⟨fun j hj => ?_, by rw [e1, Sk]; omega, by
  have hl := congrArg List.length hg
  simp only [Sl, Sk, DP] at hl
  omega⟩
 have h2 := congrArg (fun l => l[1 + (Al f ((BD f s).take k)).length + j]?) hg
 have hl := congrArg List.length hg
 simp only [Sl, Sk, DP] at hl;simp only [run, List.getElem?_map, List.getElem?_range] at h2
 rw [show 1 + (Al f ((BD f s).take k)).length + j = (Al f ((BD f s).take k)).length + j + 1 from by omega, List.getElem?_cons_succ, S2, List.getElem?_append_right (by omega), List.getElem?_append_left (by omega),
  show (Al f ((BD f s).take k)).length + j - (Al f ((BD f s).take k)).length = j from by omega, List.getElem?_eq_getElem hj, List.getElem?_eq_getElem (by simp; omega)] at h2
 simp only [Tl, Option.some.injEq, List.getElem_range] at h2;rw [h2]; omega
theorem KJ (f : Func) (s : Int) (hf : f.ok 1048576) (hn : f.stmts.length ≤ 16) (hs0 : 0 ≤ s) (hs1 : s < f.stmts.length) (hd : BQ f.stmts.length (kids f.stmts)) (hg : Al f [s] = run s (CV f s)) (hgn : s + CV f s ≤ f.stmts.length) (ih : ∀ n, n ∈ BD f s → Fun Tryz.prog 108 [.t f.tt, .t (.int n)] (.t (T.ints (Al f [n])))) : Fun Tryz.prog 108 [.t f.tt, .t (.int s)] (Av [.t (T.ints (Al f [s]))]) := by
  have hso := Br hf (n := s.toNat) (by omega)
  have hin := Gf hd hs0 hs1
  have hkl : (BD f s).length ≤ 2097152 := by rw [BD, BK, List.getElem?_eq_getElem (by omega)]; simp; omega
  have hge : CV f s = 1 + (Al f (BD f s)).length := by unfold CV; rw [Lz hd hs0 hs1]; simp; omega
  refine Fun.begin tys Tryz.func108 Z Z (N := 43) [(0, .t f.tt), (1, .t (.int s))] Z Z (fun w0 G F0 => ?_);refine sG (AV Z Z (AA Z) Z Z (nZ Z (eZ Z (nA (eK 3 Z ?_)))));refine iY (k := ?_);refine eZ Z ?_
  try refine AB (Le.freeze (u := 15) rfl) ?_
  refine nZ Z (AG tys Z Z (AA Z) Z Z Z (nZ Z (sT Z (nZ Z (kZ [1,2,4,5] Z (nA (eZ Z (bZ [T.int s] ?_))))))));refine nZ Z (AB (Le.gather (u := 17) (id := 17) Z Z (by first | (simp; done) | (simp; omega) | omega)) ?_);refine nZ Z (AB (Le.freeze (u := 17) Z) (nZ Z (eZ Z (nB (sQ (sQ (HZ 5 7 Ai Z Z Z Z Z Z Z (AA Z) (by kernel_rfl) (by kernel_rfl) (by kernel_rfl) (by kernel_rfl) (by kernel_rfl) (evQ ?_))))))));refine evQ ?_;refine FN ?_;refine ⟨_, Dp _ (by omega), rfl, ?_⟩;refine AU Z (evQ ?_);refine evQ ?_;refine A8 (nZ Z (AB (Le.adoptE (u := 20) 20 Z (by first | exact Ec | exact Z)) ?_));refine nZ Z (AH tys Z Z (AA Z) Z Z Z Z Z (.own Z (by simp)) Z (.read (Mq _)) (by decide) (by simp; omega) (by decide) Z ?_);refine nZ Z (AB (Le.gather (u := 23) (id := 20) Z Z (by simp)) ?_);refine nZ Z ?_
  refine AB (Le.eqF (u := 23) (e := .own (T.ints (BD f s))) Z (by
   show D.own (.list 1 _) = D.own (T.ints (BD f s));rw [BD, BK, List.getElem?_eq_getElem (by omega)]
   simp [T.ints, Sh])) ?_
  refine nZ Z (AB (Le.freeze (u := 23) Z) (nZ Z (evE ?_)));refine oN (nQ_n (tN (AF ?_)));refine lK (α := Int × List Int) [2, 23, 24] [2] (fun x => [(25, .t (.int (x.1))), (6, .t (T.ints (x.2)))]) (fun x => []) (fun x => 0 ≤ (x.1) ∧ (x.1) ≤ (BD f s).length ∧ (x.2) = run s (1 + (Al f ((BD f s).take (x.1).toNat)).length)) (fun x => Int.toNat ((BD f s).length - (x.1))) (0, [s]) ?_ (fun x hx => ?_)
  · refine ⟨by omega, by omega, ?_⟩
    rw [show (0 : Int).toNat = 0 from rfl, List.take_zero, Ii]
    simp [run]
  obtain ⟨k, out⟩ := x
  obtain ⟨hk0, hk1, ho⟩ := hx
  dsimp only at hk0 hk1 ho ⊢;refine nY Z (sG (eZ Z (nB (sQ ?_))));refine AC Z (fun h1 => ?_) (fun h1 => ?_)
  ·
    simp only [HS] at h1;refine AD (tN (sQ (AF (sG ?_))))
    have hkn := hin _ (Ss (show k.toNat < (BD f s).length by omega))
    refine iY (k := ?_);refine eK 2 Z (nA (eZ Z ?_))
    try refine AB (Le.freeze (u := 29) rfl) ?_
    refine nZ Z (eZ Z (Cb Z Z (AA Z) Z Z Z Z Z (ih _ (Ss (show k.toNat < (BD f s).length by omega))) Z ?_))
    obtain ⟨hr1, hr2, hr3⟩ := Qa hd hs0 hs1 hg (k := k.toNat) (by omega)
    refine evE ?_;refine eZ Z (kZ [2,6,8,23,24,25,26,27,28,29,30,31,32,33] Z (nB (AF ?_)));refine lK (α := Int × List Int) [2, 23, 24, 25, 31, 32] [2] (fun x => [(33, .t (.int (x.1))), (6, .t (T.ints (x.2)))]) (fun x => []) (fun x => 0 ≤ (x.1) ∧ (x.1) ≤ (Al f [(BD f s)[k.toNat]'(by omega)]).length ∧ (x.2) = run s (1 + (Al f ((BD f s).take k.toNat)).length + (x.1).toNat)) (fun x => Int.toNat ((Al f [(BD f s)[k.toNat]'(by omega)]).length - (x.1))) (0, out) ?_ (fun x hx => ?_)
    · exact ⟨by omega, by omega, ho⟩
    obtain ⟨j, o2⟩ := x
    obtain ⟨hj0, hj1, ho2⟩ := hx
    dsimp only at hj0 hj1 ho2 ⊢;refine nY Z (sG (eZ Z (nB (sQ ?_))));refine AC Z (fun h2 => ?_) (fun h2 => ?_)
    ·
      simp only [HS] at h2;refine AD (tN (sQ (AF (sG ?_))));refine iY (k := ?_);refine eK 2 Z (nB (rG (eK 2 Z (Cb Z Z (AA Z) Z Z Z Z Z (Od _ _ (by rw [ho2, DP]; omega) (by rw [ho2]; exact P4 _ _)) Z ?_))));refine eZ Z (oN (bN (tN (kY [2,6,10,23,24,25,31,32,33,34,35,36,37,38,39] Z (rG (evI ?_))))));refine eZ Z (oN ?_);refine lQ (_, _) ?_ ?_
      · dsimp only
        refine ⟨by omega, by omega, ?_⟩
        have e := hr1 j.toNat (by omega)
        rw [e, ho2, show (j + 1).toNat = j.toNat + 1 from by omega, ← Tk, ← Rr]
      · (show Int.toNat _ < Int.toNat _); omega
    simp only [HS] at h2;refine AS (tE (AP (AK (bN (tN (rG (evI ?_)))))));refine eZ Z (oN ?_);refine lQ (_, _) ?_ ?_
    · dsimp only
      refine ⟨by omega, by omega, ?_⟩;rw [ho2, show (k + 1).toNat = k.toNat + 1 from by omega, hr2, show j.toNat = (Al f [(BD f s)[k.toNat]'(by omega)]).length from by omega]
    · (show Int.toNat _ < Int.toNat _); omega
  simp only [HS] at h1;refine AS (tE (AP (AK (tN (sG (eK 2 Z (nB (rT (eR ?_)))))))))
  · rw [ho, BL (by omega), hg, hge]
    rfl
theorem HI {f : Func} (hf : f.ok 1048576) (hn : f.stmts.length ≤ 16) (hs : Ao f = true) : ∀ (k : Nat) (s : Int), 0 ≤ s → s < f.stmts.length → f.stmts.length - s ≤ k → Fun Tryz.prog 108 [.t f.tt, .t (.int s)] (.t (T.ints (Al f [s])))
 | 0, s, h0, h1, h2 => by omega
 | k + 1, s, h0, h1, h2 => by
  obtain ⟨hd, _, _⟩ := B8 hs
  obtain ⟨g1, g2, g3⟩ := C1 hs h0 h1
  refine KJ f s hf hn h0 h1 hd g1 g3 fun n hn' => ?_
  have := Gf hd h0 h1 n hn'
  exact HI hf hn hs k n (by omega) (by omega) (by omega)
def EO (gone : List Int) (n : Int) : Int := ((gone.filter fun m => decide (m < n)).length : Nat)
def Ct (gone b : List Int) : List Int := (b.filter fun n => !decide (n ∈ gone)).map fun n => n - EO gone n
theorem Cn (gone b : List Int) : (Ct gone b).length ≤ b.length := by
 unfold Ct; rw [Sj]; exact List.length_filter_le ..
theorem MB {l : List Int} {n k : Int} (h0 : 0 ≤ k) (h1 : k < l.length) : EO (l.take (k + 1).toNat) n = EO (l.take k.toNat) n + (if l[k.toNat]'(by omega) < n then 1 else 0) := by
 unfold EO;rw [Bi h0 h1, List.filter_append, Sk];split
 ·rename_i h; rw [List.filter_cons_of_pos (by simpa using h)]; simp
 ·rename_i h; rw [List.filter_cons_of_neg (by simpa using h)]; simp
theorem J9 (l : List Int) (n : Int) : 0 ≤ EO l n ∧ EO l n ≤ l.length := by
 unfold EO
 have := List.length_filter_le (fun m => decide (m < n)) l
 omega
theorem ME {gone b : List Int} {k : Int} (h0 : 0 ≤ k) (h1 : k < b.length) : Ct gone (b.take (k + 1).toNat) = Ct gone (b.take k.toNat) ++ (if b[k.toNat]'(by omega) ∈ gone then [] else [b[k.toNat]'(by omega) - EO gone (b[k.toNat]'(by omega))]) := by
 unfold Ct;rw [Bi h0 h1, List.filter_append, S1]
 congr 1
 split
 ·rename_i h; rw [List.filter_cons_of_neg (by simpa using h)]; rfl
 ·rename_i h; rw [List.filter_cons_of_pos (by simpa using h)]; rfl
theorem Ee (b gone : List Int) (hb : b.length ≤ 1048576) (hg : gone.length ≤ 1048576) (hv : ∀ n, n ∈ b → -1073741824 ≤ n ∧ n ≤ 1073741824) : Fun Tryz.prog 109 [.t (T.ints b), .t (T.ints gone)] (Av [.own (T.ints (Ct gone b))]) := by
 refine Fun.begin tys Tryz.func109 Z Z (N := 40) [(0, .t (T.ints b)), (1, .t (T.ints gone))] Z Z (fun w0 G F0 => ?_);refine sG (eZ Z (nA (eZ Z (AB (Le.nilOwn (u := 5) 1 Z) (AB (Le.adoptE (u := 5) 5 Z Z) (nZ Z (nB (sQ (sG (eZ Z (evE ?_)))))))))));refine eZ Z (nB (AF ?_));refine lK (α := Int × Nat × List T) [1, 11, 12] [] (fun x => [(13, .t (.int (x.1))), (5, .sl 5 0 (x.2.1))]) (fun x => [(5, .L 1 (x.2.2))]) (fun x => 0 ≤ (x.1) ∧ (x.1) ≤ b.length ∧ (x.2.1) = (x.2.2).length ∧ (x.2.2).length ≤ (x.1) ∧ (x.2.2) = (Ct gone (b.take (x.1).toNat)).map T.int) (fun x => Int.toNat (b.length - (x.1))) (0, 0, []) ?_ (fun x hx => ?_)
 ·exact ⟨by omega, by omega, rfl, by simp, rfl⟩
 obtain ⟨k, m, ws⟩ := x
 obtain ⟨hk0, hk1, hm, hwl, hws⟩ := hx
 dsimp only at hk0 hk1 hm hwl hws ⊢;refine nY Z (sG (eZ Z (nB (sQ ?_))));refine AC Z (fun h1 => ?_) (fun h1 => ?_)
 ·
  simp only [HS] at h1;refine AD (tN (sQ (AF (sG ?_))));refine iY (k := ?_);refine eK 2 Z (nB (sQ (sG (eK 2 Z (AL ?_)))));refine ⟨_, KI _ _ (by omega), rfl, ?_⟩;refine nB ?_;refine AC Z (fun h2 => ?_) (fun h2 => ?_)
  ·
   simp only [HS] at h2;refine AS (tE (AK (tN (kY [1,5,7,11,12,13,14,15,16,17,18,19] Z (rG (evI ?_))))));refine eZ Z (oN ?_);refine lQ (_, _, _) ?_ ?_
   ·dsimp only
    subst hm
    first
    | (refine ⟨by omega, by omega, rfl, by omega, ?_⟩; rw [hws, ME hk0 (by omega), if_pos (by assumption), S9]; done)
   ·(show Int.toNat _ < Int.toNat _); omega
  simp only [HS] at h2;refine AD (tN (sQ (kY [1,5,7,11,12,13,14,15,16,17,18,19] Z (rG (eZ Z (nB (sQ (sG ?_))))))))
  have hvk := hv _ (Ss (show k.toNat < b.length by omega))
  refine eZ Z (evE ?_);refine eZ Z (nB (AF ?_));refine lK (α := Int × Int) [1, 5, 7, 11, 12, 13, 20, 21] [5] (fun x => [(22, .t (.int (x.1))), (8, .t (.int (x.2)))]) (fun x => []) (fun x => 0 ≤ (x.1) ∧ (x.1) ≤ gone.length ∧ (x.2) = EO (gone.take (x.1).toNat) (b[k.toNat]'(by omega))) (fun x => Int.toNat (gone.length - (x.1))) (0, 0) ?_ (fun x hx => ?_)
  ·exact ⟨by omega, by omega, rfl⟩
  obtain ⟨j, c⟩ := x
  obtain ⟨hj0, hj1, hc⟩ := hx
  dsimp only at hj0 hj1 hc ⊢;refine nY Z (sG (eZ Z (nB (sQ ?_))));refine AC Z (fun h3 => ?_) (fun h3 => ?_)
  ·
   simp only [HS] at h3;refine AD (tN (sQ (AF (sG ?_))));refine iY (k := ?_);refine eK 2 Z (nA ?_)
   have hcb := J9 (gone.take j.toNat) (b[k.toNat]'(by omega))
   have hcl : (gone.take j.toNat).length ≤ 1048576 := by rw [Sm]; omega
   refine eK 3 Z (nB ?_);refine AC Z (fun h4 => ?_) (fun h4 => ?_)
   ·
    simp only [HS] at h4;refine kY [1,5,7,8,10,11,12,13,20,21,22,23,24,25,26,27,28] Z (rG (eZ Z (evI ?_)));refine eZ Z (oN (bN (tN (rG (evI ?_)))));refine eZ Z (oN ?_);refine lQ (_, _) ?_ ?_
    ·dsimp only
     refine ⟨by omega, by omega, ?_⟩;rw [MB hj0 (by omega)]
     first
     | (rw [if_pos (by assumption), hc]; done)
    ·(show Int.toNat _ < Int.toNat _); omega
   simp only [HS] at h4;refine AD (bN (tN (kY [1,5,7,8,10,11,12,13,20,21,22,23,24,25,26,27,28] Z (rG (evI ?_)))));refine eZ Z (oN ?_);refine lQ (_, _) ?_ ?_
   ·dsimp only
    refine ⟨by omega, by omega, ?_⟩;rw [MB hj0 (by omega)]
    first
    | (rw [if_neg (by omega), hc]; omega)
   ·(show Int.toNat _ < Int.toNat _); omega
  simp only [HS] at h3;refine AS (tE (AP (AK (tN (rG ?_)))))
  have hcb := J9 gone (b[k.toNat]'(by omega))
  have hc' : c = EO gone (b[k.toNat]'(by omega)) := by rw [hc, BL (by omega)]
  refine eK 3 Z (evI ?_);refine bZ [T.int (b[k.toNat]'(by omega) - c)] ?_;refine nZ Z (AH tys Z Z (AA Z) Z Z Z Z Z (.own Z (by first | omega | (simp only [Sk]; omega))) Z (.own Z (by first | decide | omega)) (by decide) (by simp only [Sm, Sl, List.length_nil]; omega) (by decide) Z ?_);refine nZ Z (eZ Z (oN (bN (tN (kY [1,5,7,8,11,12,13,20,21,22,23,32,33,34,35,36,37] Z (rG (evI ?_)))))));refine eZ Z (oN ?_);refine lQ (_, _, _) ?_ ?_
  ·dsimp only
   subst hm
   first
   | (refine ⟨by omega, by omega, by simp, by simp; omega, ?_⟩; rw [Sr, hws, ME hk0 (by omega), if_neg (by assumption), S1, hc']; rfl)
  ·(show Int.toNat _ < Int.toNat _); omega
 simp only [HS] at h1;refine AS (tE (AP (AK (tN (sG (eK 2 Z (nB (AN (Le.gather (u := 4) (id := 5) Z Z (by omega)) (rT (eR ?_))))))))))
 ·(rw [hm, Sr, hws]; refine N8 ?_; rw [BL (by omega)])
open Go.Eng
def GQ (gone : List Int) (s : Stmt) : Stmt := ⟨s.kind, s.n, s.ex, Ct gone s.thn, Ct gone s.els⟩
def B5 (gone : List Int) (n : Int) : Bool := !decide (n ∈ gone)
def leftF (gone : List Int) (f : Func) : Func := ⟨f.params, f.vars, Ct gone f.body, (BW (B5 gone) 0 f.stmts).map (GQ gone)⟩
def Fo (p : Prog) (fn s k : Int) : List Int := if k = fn then Al (funcAt p k) [s] else []
def B6 (p : Prog) (fn s : Int) : Prog := ⟨(List.range p.funcs.length).map fun k : Nat => leftF (Fo p fn s k) (funcAt p k)⟩
theorem DI (p : Prog) (fn s : Int) : (B6 p fn s).funcs.length = p.funcs.length := by simp [B6]
def NK (p : Prog) (fn s : Int) (k : Nat) : List Func := (List.range k).map fun k : Nat => leftF (Fo p fn s k) (funcAt p k)
theorem NJ (p : Prog) (fn s : Int) (k : Nat) : NK p fn s (k + 1) = NK p fn s k ++ [leftF (Fo p fn s k) (funcAt p k)] := by simp [NK, List.range_succ]
theorem O6 (p : Prog) (fn s : Int) (k : Nat) : (NK p fn s k).length = k := by simp [NK]
theorem FZ {N i : Int} {b : List Int} (h : inB N i b) (h0 : 0 ≤ i) (hN : N ≤ 1048576) : ∀ n, n ∈ b → -1073741824 ≤ n ∧ n ≤ 1073741824 := fun n hn => by have := h n hn; omega
theorem HK (p : Prog) (fn s : Int) (hp : p.ok 1048576) (hg : AZ p = true) (hf0 : 0 ≤ fn) (hf1 : fn < p.funcs.length) (hs0 : 0 ≤ s) (hs1 : s < (funcAt p fn).stmts.length) : Fun Tryz.prog 70 [.t p.tt, .t (.int fn), .t (.int s)] (Av [.agg [.own (T.Funcs (B6 p fn s).funcs)]]) := by
  have hpl : p.funcs.length ≤ 1048576 := hp.1.1
  refine Fun.begin tys Tryz.func70 Z Z (N := 80) [(0, .t p.tt), (1, .t (.int fn)), (2, .t (.int s))] Z Z (fun w0 G F0 => ?_);refine sG (AV Z Z (AA Z) Z Z (nZ Z (AG tys Z Z (AA Z) Z Z Z (nZ Z (nA (AG tys Z Z (AA Z) Z Z Z (nZ Z (nB (sQ (sG (nZ Z (AB (Le.nilBox (u := 7) (j := 0) 4 Z Z) (nZ Z (AB (Le.adoptBox (u := 7) (j := 0) (id := 190) Z Z Z) (nZ Z ?_)))))))))))))));refine eK 2 Z (evE ?_);refine eZ Z (nB (AF ?_));refine lK (α := Int × Nat × List T) [1, 2, 3, 6, 7, 15, 16] [3, 6] (fun x => [(17, .t (.int (x.1)))]) (fun x => [(7, .box [.sl 190 0 (x.2.1)]), (190, .L 4 (x.2.2))]) (fun x => 0 ≤ (x.1) ∧ (x.1) ≤ p.funcs.length ∧ (x.2.1) = (x.2.2).length ∧ (x.2.2) = (NK p fn s (x.1).toNat).map Func.tt) (fun x => Int.toNat (p.funcs.length - (x.1))) (0, 0, []) ?_ (fun x hx => ?_)
  · exact ⟨by omega, by omega, rfl, rfl⟩
  obtain ⟨k, m, xs⟩ := x
  obtain ⟨hk0, hk1, hm, hxs⟩ := hx
  dsimp only at hk0 hk1 hm hxs ⊢;refine nY Z (sG (eZ Z (nB (sQ ?_))));refine AC Z (fun h1 => ?_) (fun h1 => ?_)
  ·
    simp only [HS] at h1;refine AD (tN (sQ (AF (sG (eZ Z ?_)))))
    have hf := Bk hp (n := k.toNat) (by omega)
    have hgf := CE hg (n := k.toNat) (by omega)
    have hfl := Ds hgf
    have hsh := Bj hgf
    obtain ⟨hd, hib, hob⟩ := B8 hsh
    have hfa := funcAt_at (p := p) (n := k) (by omega)
    refine iY (k := ?_);refine eZ Z ?_
    try refine AB (Le.freeze (u := 21) rfl) ?_
    refine nZ Z (AG tys Z Z (AA Z) Z Z Z (nZ Z (eZ Z (sT Z (nZ Z (nB (sQ (kY [1,2,3,6,7,8,9,15,16,17,18,19,20,21] Z (rG (eZ Z (AB (Le.nilT (u := 10) 1 Z) (AB (Le.eqF (u := 10) (e := .t (T.ints [])) Z Z) (nZ Z (nB (sQ ?_)))))))))))))));refine sG (eK 3 Z (nB ?_));refine A4 (α := List Int) [1, 2, 3, 6, 7, 8, 9, 15, 16, 17, 18, 19, 20, 21, 22, 23, 24] [3, 6, 7, 9, 190] (fun x => [(10, .t (T.ints x))]) (fun x => []) (fun x => x = Fo p fn s k ∧ x.length ≤ 1048576) ?_ (fun g hx => ?_)
    ·
      refine AC Z (fun h2 => ?_) (fun h2 => ?_)
      ·
        simp only [HS] at h2;refine rG (eZ Z ?_)
        try refine AB (Le.freeze (u := 25) rfl) ?_
        refine nZ Z (eZ Z (Cb Z Z (AA Z) Z Z Z Z Z (HI hf hfl hsh (p.funcs[k.toNat]'(by omega)).stmts.length s hs0 (by rw [hfa, show k = fn from by assumption]; exact hs1) (by omega)) Z ?_));refine eZ Z (oN (jQ _ ?_))
        first
        | (refine ⟨?_, ?_⟩
           · rw [Fo, if_pos (by assumption), ← hfa]
           · have hq := C1 hsh hs0 (by rw [hfa, show k = fn from by assumption]; exact hs1)
             have : (Al (p.funcs[k.toNat]'(by omega)) [s]).length = CV (p.funcs[k.toNat]'(by omega)) s := rfl
             omega)
      simp only [HS] at h2;refine AD (jQ _ ?_)
      first
      | (refine ⟨?_, by simp⟩; rw [Fo, if_neg (by assumption)])
    obtain ⟨hgk, hgl⟩ := hx
    refine tN (sQ (kY [1,2,3,6,7,8,9,10,15,16,17,18,19,20,21,22,23,24] Z (BZ 10 Ai Z (by kernel_rfl) (by kernel_rfl) ?_)))
    iterate 6 (refine QG_ev tys rfl rfl (AA rfl) rfl ?_)
    refine BB Z (QG_ev tys Z Z (AA Z) Z (Dx ?_));refine ⟨_, Ee _ _ hf.1 hgl (FZ hib (by omega) (by omega)), rfl, ?_⟩;refine Cs tys Z Z (AA Z) Z Z Z (by kernel_rfl) Z Z Z Z Z Z (EN tys Z Z (AA Z) Z Z Z Z (AE ?_));refine ⟨by kernel_rfl, ?_⟩;refine nZ Z (sT Z (nZ Z (nB (sQ (sG (nZ Z (AB (Le.nilBox (u := 11) (j := 3) 5 Z Z) (nZ Z (AB (Le.adoptBox (u := 11) (j := 3) (id := 180) Z Z Z) (nZ Z (eK 2 Z (evE ?_))))))))))));refine eZ Z (nB (AF ?_));refine lK (α := Int × Nat × List T) [1, 2, 3, 6, 7, 9, 10, 11, 15, 16, 17, 38, 39] [3, 6, 7, 9, 190] (fun x => [(40, .t (.int (x.1)))]) (fun x => [(11, .box [.t (T.int (p.funcs[k.toNat]'(by omega)).params), .t (T.int (p.funcs[k.toNat]'(by omega)).vars), .own (T.ints (Ct g (p.funcs[k.toNat]'(by omega)).body)), .sl 180 0 (x.2.1)]), (180, .L 5 (x.2.2))]) (fun x => 0 ≤ (x.1) ∧ (x.1) ≤ (p.funcs[k.toNat]'(by omega)).stmts.length ∧ (x.2.1) = (x.2.2).length ∧ (x.2.2) = ((BW (B5 g) 0 ((p.funcs[k.toNat]'(by omega)).stmts.take (x.1).toNat)).map (GQ g)).map Stmt.tt) (fun x => Int.toNat ((p.funcs[k.toNat]'(by omega)).stmts.length - (x.1))) (0, 0, []) ?_ (fun x hx => ?_)
    · exact ⟨by omega, by omega, rfl, rfl⟩
    obtain ⟨j, m2, ys⟩ := x
    obtain ⟨hj0, hj1, hm2, hys⟩ := hx
    dsimp only at hj0 hj1 hm2 hys ⊢;refine nY Z (sG (eZ Z (nB (sQ ?_))));refine AC Z (fun h2 => ?_) (fun h2 => ?_)
    ·
      simp only [HS] at h2;refine AD (tN (sQ (AF (sG (eZ Z ?_)))))
      have hso := Br hf (n := j.toNat) (by omega)
      have hkd := hd j (by omega) (by omega)
      rw [kids_at (by omega)] at hkd;refine iY (k := ?_);refine eZ Z ?_
      try refine AB (Le.freeze (u := 44) rfl) ?_
      refine nZ Z (AG tys Z Z (AA Z) Z Z Z (nZ Z (eZ Z (sT Z (nZ Z (nB (sQ (kY [1,2,3,6,7,9,10,11,12,13,15,16,17,38,39,40,41,42,43,44] Z (rG (eK 2 Z (AL ?_)))))))))));refine ⟨_, KI _ _ (by omega), rfl, ?_⟩;refine eZ Z (nB ?_);refine AC Z (fun h3 => ?_) (fun h3 => ?_)
      ·
        simp only [HS] at h3;refine BZ 20 Ai Z (by kernel_rfl) (by kernel_rfl) (QG_ev tys Z Z (AA Z) Z (QG_ev tys Z Z (AA Z) Z (BB Z ?_)))
        iterate 4 (refine QG_ev tys rfl rfl (AA rfl) rfl ?_)
        refine BV tys [] Z Z (AA Z) Z Z Z Z Z (by decide) (by repeat (first | exact PartsOk.nil' | refine PartsOk.cons' rfl (by repeat (first | exact AbsL.nil' | refine AbsL.v' ?_ | refine AbsL.own' ?_ | refine AbsL.none' ?_)) Z ?_)) Z Z Z (by decide) ?_;refine QG_ev tys Z Z (AA Z) Z (BB Z (QG_ev tys Z Z (AA Z) Z (Kr tys Z Z (AA Z) Z Z Z Z Z Z Z Z (fun _ => .read (Fe _)) (by simp; omega) (by decide) Z ?_)))
        iterate 3 (refine QG_ev tys rfl rfl (AA rfl) rfl ?_)
        refine Dx ?_;refine ⟨_, Ee _ _ hso.1 hgl (FZ (Au hkd.1 (show (0 : Int) ≤ j + 1 by omega)) (by omega) (by omega)), rfl, ?_⟩;refine BB Z ?_
        iterate 3 (refine QG_ev tys rfl rfl (AA rfl) rfl ?_)
        refine Dx ?_;refine ⟨_, Ee _ _ hso.2.1 hgl (FZ (Au hkd.2 (show (0 : Int) ≤ j + 1 by omega)) (by omega) (by omega)), rfl, ?_⟩;refine Cs tys Z Z (AA Z) Z Z Z (by kernel_rfl) Z Z Z Z Z Z ?_;refine BV tys [(GQ g ((p.funcs[k.toNat]'(by omega)).stmts[j.toNat]'(by omega))).tt] Z Z (AA Z) Z Z Z Z Z (AA Z) (by repeat (first | exact PartsOk.nil' | refine PartsOk.cons' rfl (by repeat (first | exact AbsL.nil' | refine AbsL.v' ?_ | refine AbsL.own' ?_ | refine AbsL.none' ?_)) Z ?_)) Z Z Z (by decide) ?_;refine BB Z (AE ?_);refine ⟨by kernel_rfl, ?_⟩;refine nZ Z (AB (Le.adoptE (u := 68) 68 Z Z) (nZ Z (AH tys Z Z (AA Z) Z Z Z Z Z (.own Z (by first | omega | (simp only [Sk]; omega))) Z (.own Z (by first | decide | omega)) (by decide) (by simp only [Sm, Sl, List.length_nil]; rw [hys, Sj, Sj]; have := Ex (B5 g) 0 ((p.funcs[k.toNat]'(by omega)).stmts.take j.toNat); simp at this; omega) (by decide) Z ?_)));refine nZ Z (eZ Z (sT Z (nZ Z (oN (bN (tN (rG (evI ?_))))))));refine eZ Z (oN ?_);refine lQ (_, _, _) ?_ ?_
        · dsimp only
          have hw : B5 g ((j.toNat : Nat) : Int) = true ↔ j ∉ g := by
           rw [show ((j.toNat : Nat) : Int) = j from by omega]
           simp [B5]
          have hp1 := Lw (B5 g) (p.funcs[k.toNat]'(by omega)).stmts (k := j.toNat) (by omega)
          rw [show j.toNat + 1 = (j + 1).toNat from by omega] at hp1
          first
          | (rw [if_pos (hw.2 (by assumption))] at hp1
             subst hm2;refine ⟨by omega, by omega, by simp, ?_⟩;rw [Sr, hp1, hys, S1, S1]
             rfl)
        · (show Int.toNat _ < Int.toNat _); omega
      simp only [HS] at h3;refine AD (bN (tN (rG (evI ?_))));refine eZ Z (oN ?_);refine lQ (_, _, _) ?_ ?_
      · dsimp only
        have hw : B5 g ((j.toNat : Nat) : Int) = true ↔ j ∉ g := by
         rw [show ((j.toNat : Nat) : Int) = j from by omega]
         simp [B5]
        have hp1 := Lw (B5 g) (p.funcs[k.toNat]'(by omega)).stmts (k := j.toNat) (by omega)
        rw [show j.toNat + 1 = (j + 1).toNat from by omega] at hp1
        first
        | (rw [if_neg (fun h => hw.1 h (by assumption)), S9] at hp1
           exact ⟨by omega, by omega, hm2, by rw [hp1]; exact hys⟩)
      · (show Int.toNat _ < Int.toNat _); omega
    simp only [HS] at h2;refine AS (tE (AP (AK (tN (rG (nZ Z (AB (Le.gatherBox (u := 11) (j := 3) (id := 180) Z Z Z (by omega) Z) (nZ Z (eK 2 Z (Ad tys Z Z (AA Z) Z Z Z Z Z Z (nZ Z (bZ [.agg [T.int (p.funcs[k.toNat]'(by omega)).params, T.int (p.funcs[k.toNat]'(by omega)).vars, T.ints (Ct g (p.funcs[k.toNat]'(by omega)).body), .list 5 (ys.take m2)]] ?_))))))))))));refine nZ Z (AH tys Z Z (AA Z) Z Z Z Z Z (.own Z (by first | omega | (simp only [Sk]; omega))) Z (.own Z (by first | decide | omega)) (by decide) (by simp only [Sm, Sl, List.length_nil]; rw [hxs, Sj, O6]; omega) (by decide) Z ?_);refine nZ Z (eZ Z (sT Z (nZ Z (oN (bN (tN (kY [1,2,3,6,7,9,10,11,15,16,17,38,39,40,41,72,73,74,75,76,77] Z (rG (evI ?_)))))))));refine eZ Z (oN ?_);refine lQ (_, _, _) ?_ ?_
    · dsimp only
      have e : (leftF g (p.funcs[k.toNat]'(by omega))).tt = .agg [T.int (p.funcs[k.toNat]'(by omega)).params, T.int (p.funcs[k.toNat]'(by omega)).vars, T.ints (Ct g (p.funcs[k.toNat]'(by omega)).body), .list 5 (ys.take m2)] := by
       rw [hm2, Sr, hys, Sh (l := (p.funcs[k.toNat]'(by omega)).stmts) (by omega)];rfl
      subst hm;refine ⟨by omega, by omega, by simp, ?_⟩;rw [Sr, hxs, show (k + 1).toNat = k.toNat + 1 from by omega, NJ, S1, S8, List.map_nil, show ((k.toNat : Nat) : Int) = k from by omega, ← hgk, ← hfa, e];rfl
    · (show Int.toNat _ < Int.toNat _); omega
  simp only [HS] at h1;refine AS (tE (AP (AK (tN (sG (nZ Z (AB (Le.gatherBox (u := 7) (j := 0) (id := 190) Z Z Z (by omega) Z) (nZ Z (Ad tys Z Z (AA Z) Z Z Z Z Z Z (nZ Z (sT Z (nZ Z (nB (rT (eR ?_)))))))))))))))
  · rw [hm, Sr, hxs, show k.toNat = p.funcs.length from by omega]
    rfl
open Go.Eng
theorem PL (l : List Func) : ∀ x, x ∈ l.map Func.tt → (T.cells x).length = 4 := by
 intro x hx; obtain ⟨t, _, rfl⟩ := TM.1 hx; rfl
theorem PK (l : List Stmt) : ∀ x, x ∈ l.map Stmt.tt → (T.cells x).length = 5 := by
 intro x hx; obtain ⟨t, _, rfl⟩ := TM.1 hx; rfl
theorem Rx {α β : Type} {f : α → β} {l : List α} {k : Nat} {x : α} (h : l[k]? = some x) : (l.map f)[k]? = some (f x) := by rw [List.getElem?_map, h]; rfl
open Go.Eng
theorem Qq (b n cap i j : Nat) (vs : List Value) (hij : i ≤ j) (hj : j ≤ n) (hn : n ≤ cap) (hl : vs.length = n * 5) : Proc Tryz.prog 107 [.t (.v (.slice (some ⟨b, 0, none⟩) n cap)), .t (.int (i : Nat)), .t (.int (j : Nat))] ([]) ([]) [.raw b (cap * 5) vs (vs.map T.v)] (.t (.v (.slice (some ⟨b, 0, none⟩) (n - (j - i)) cap))) [.raw b (cap * 5) (vs.take (i * 5) ++ vs.drop (j * 5)) ((vs.take (i * 5) ++ vs.drop (j * 5)).map T.v)] := by
 refine Proc.intro tys Tryz.func107 Z Z (N := 33) [100] 99 ([(0, .t (.v (.slice (some ⟨b, 0, none⟩) n cap))), (1, .t (.int (i : Nat))), (2, .t (.int (j : Nat)))]) ([(100, .raw b (cap * 5) vs (vs.map T.v)), (99, .ro [] [])]) Z Z Z Z (by decide) (by decide) Z (fun w0 G F0 => ?_);refine nY Z (sG (eZ Z (nA (eK 4 Z (La Z Z (AA Z) Z ⟨57, by kernel_rfl⟩ rfl (Nb tys Z Z (AA Z) Z Z Z Z Z Z Z Z (by omega) (by omega) (by omega) (by omega) (nB (sQ (sQ (kY [0,1,2,6] Z (rG (eK 3 Z (nB ?_)))))))))))));refine AC Z (fun h1 => ?_) (fun h1 => ?_)
 ·
  simp only [HS] at h1;refine sG (eK 2 Z (nB (rT (tR ?_))));refine eP [_] ?_ ?_
  ·(have h5 : (i : Int) = j := (by assumption); have h6 : i = j := (by omega); subst h6; show D.t (T.v (Value.slice _ _ _)) = D.t (T.v (Value.slice _ _ _)); rw [Nat.sub_self]; rfl)
  ·(have h5 : (i : Int) = j := (by assumption); have h6 : i = j := (by omega); subst h6; simp; done)
 simp only [HS] at h1;refine AD (tN (sG (eZ Z (La Z Z (AA Z) Z ⟨57, by kernel_rfl⟩ rfl (eZ Z (nB (sQ (Ce 6 Ai Z (by kernel_rfl) (by kernel_rfl) (evQ ?_)))))))));refine AU Z (evQ ?_);refine Ko tys Z Z (AA Z) Z Z Z Z Z Z Z Z (by omega) (by omega) (by omega) hn (evQ ?_);refine evQ ?_;refine Ko tys Z Z (AA Z) Z Z Z Z Z Z Z Z (by omega) (by omega) (by omega) hn (A8 (nZ Z (AB (Le.eqF (u := 22) (d := .t (.v (.slice (Iz b 5 (0 : Int).toNat cap) ((i : Int).toNat - (0 : Int).toNat) (cap - (0 : Int).toNat)))) (e := .t (.v (.slice (some ⟨b, 0, none⟩) i cap))) Z (by simp [Iz])) ?_)));refine nZ Z (AB (Le.eqF (u := 25) (d := .t (.v (.slice (Iz b 5 (j : Int).toNat cap) ((n : Int).toNat - (j : Int).toNat) (cap - (j : Int).toNat)))) (e := .t (.v (.slice (Iz b 5 j cap) (n - j) (cap - j)))) Z (by rw [Int.toNat_natCast, Int.toNat_natCast])) ?_);refine nZ Z (Nc tys (id := 100) (m := n - j) (j := j) Z Z (AA Z) Z Z Z Z Z Z Z Z (by rw [hl]; congr 1; omega) (by omega) hij (by omega) Z ?_);refine nZ Z (eZ Z (nA (eK 2 Z (La Z Z (AA Z) Z ⟨57, by kernel_rfl⟩ rfl (eZ Z (nZ Z (Hb tys Z Z (AA Z) Z Z Z Z Z Z Z Z (by omega) (by omega) (by omega) (by omega) (nZ Z (AB (Le.eqF (u := 31) (d := .t (.v (.slice (Iz b 5 ((i + (n - j) : Nat) : Int).toNat cap) ((n : Int).toNat - ((i + (n - j) : Nat) : Int).toNat) (cap - ((i + (n - j) : Nat) : Int).toNat)))) (e := .t (.v (.slice (Iz b 5 (i + (n - j)) cap) (n - (i + (n - j))) (cap - (i + (n - j)))))) Z (by rw [Int.toNat_natCast, Int.toNat_natCast])) ?_)))))))));refine nZ Z (Pb tys (t := 31) (id := 100) (off := i + (n - j)) (m := n - (i + (n - j))) Z (.inr Z) (AA Z) Z Z Z Z Z Z Z Z Z (by simp; omega) (by omega) ?_);refine nZ Z (nB (sQ (kY [0,6] Z (rG (eK 2 Z (nB (rT ?_)))))));refine eP [_] ?_ ?_
 ·show D.t (T.v (Value.slice _ _ _)) = D.t (T.v (Value.slice _ _ _))
  rw [show i + (n - j) = n - (j - i) from by omega]
 ·rfl
theorem PA (b n cap : Nat) (i j : Int) (vs : List Value) (hi : 0 ≤ i) (hij : i ≤ j) (hj : j ≤ n) (hn : n ≤ cap) (hl : vs.length = n * 5) :
  Proc Tryz.prog 107 [.t (.v (.slice (some ⟨b, 0, none⟩) n cap)), .t (.int i), .t (.int j)] [] [] [.raw b (cap * 5) vs (vs.map T.v)] (.t (.v (.slice (some ⟨b, 0, none⟩) (n - (j.toNat - i.toNat)) cap)))
   [.raw b (cap * 5) (vs.take (i.toNat * 5) ++ vs.drop (j.toNat * 5)) ((vs.take (i.toNat * 5) ++ vs.drop (j.toNat * 5)).map T.v)] := by
 obtain ⟨i, rfl⟩ := Int.eq_ofNat_of_zero_le hi
 obtain ⟨j, rfl⟩ := Int.eq_ofNat_of_zero_le (show 0 ≤ j by omega)
 have := Qq b n cap i j vs (by omega) (by omega) hn hl
 simpa using this
def leftI (s : Int) (g : Nat) (b : List Int) : List Int := b.flatMap fun n => if n < s then [n] else if s + g ≤ n then [n - g] else []
theorem Ik {s : Int} {g : Nat} {b : List Int} {k : Int} (h0 : 0 ≤ k) (h1 : k < b.length) : leftI s g (b.take (k + 1).toNat) = leftI s g (b.take k.toNat) ++ (if b[k.toNat]'(by omega) < s then [b[k.toNat]'(by omega)] else if s + g ≤ b[k.toNat]'(by omega) then [b[k.toNat]'(by omega) - g] else []) := by
 unfold leftI;rw [Bi h0 h1, Tc]
 congr 1
 simp
theorem J8 (s : Int) (n : Int) (h : ¬ n < s) : ∀ g : Nat, s + g ≤ n → EO (run s g) n = g
 | 0, _ => rfl
 | g + 1, hg => by
  have ih := J8 s n h g (by omega)
  unfold EO at ih ⊢;rw [Eo, List.filter_append, Sk, List.filter_cons_of_pos (by simp; omega)]
  simp
  omega
theorem Mz (s : Int) (n : Int) (h : n < s) (g : Nat) : EO (run s g) n = 0 := by
 unfold EO;rw [List.filter_eq_nil_iff.2]
 ·rfl
 ·intro x hx
  have := mem_run.1 hx
  simp; omega
theorem Gc (s : Int) (g : Nat) (b : List Int) : leftI s g b = Ct (run s g) b := by
 induction b with
 | nil => rfl
 | cons n b ih =>
  have e1 : leftI s g (n :: b) = (if n < s then [n] else if s + g ≤ n then [n - g] else []) ++ leftI s g b := rfl
  have e2 : Ct (run s g) (n :: b) = (if n ∈ run s g then [] else [n - EO (run s g) n]) ++ Ct (run s g) b := by
   unfold Ct
   by_cases h : n ∈ run s g
   ·rw [List.filter_cons_of_neg (by simpa using h), if_pos h]; rfl
   ·rw [List.filter_cons_of_pos (by simpa using h), if_neg h]; rfl
  rw [e1, e2, ih]
  congr 1
  by_cases h1 : n < s
  ·rw [if_pos h1, if_neg (fun h => by have := mem_run.1 h; omega), Mz s n h1]
   simp
  ·rw [if_neg h1]
   by_cases h2 : s + g ≤ n
   ·rw [if_pos h2, if_neg (fun h => by have := mem_run.1 h; omega), J8 s n h1 g h2]
   ·rw [if_neg h2, if_pos (mem_run.2 ⟨by omega, by omega⟩)]
theorem KA (s : Int) (g : Nat) (b : List Int) : (leftI s g b).length ≤ b.length := by rw [Gc]; exact Cn _ _
theorem Ij (b : List Int) (s : Int) (g : Nat) (hb : b.length ≤ 1048576) (hv : ∀ n, n ∈ b → -1073741824 ≤ n ∧ n ≤ 1073741824) (hs0 : 0 ≤ s) (hs1 : s ≤ 1048576) (hg : g ≤ 1048576) : Fun Tryz.prog 106 [.t (T.ints b), .rp (.agg [T.int s]) 0, .rp (.agg [T.int g]) 0] (Av [.own (T.ints (leftI s g b))]) := by
 refine Fun.begin tys Tryz.func106 Z Z (N := 36) [(0, .t (T.ints b)), (1, .rp (.agg [T.int s]) 0), (2, .rp (.agg [T.int g]) 0)] Z Z (fun w0 G F0 => ?_);refine sG (eZ Z (nA (eZ Z (AB (Le.nilOwn (u := 5) 1 Z) (AB (Le.adoptE (u := 5) 5 Z Z) (nZ Z (nB (sQ (sG (eZ Z (evE ?_)))))))))));refine eZ Z (nB (AF ?_));refine lK (α := Int × Nat × List T) [1, 2, 8, 9] [] (fun x => [(10, .t (.int (x.1))), (5, .sl 5 0 (x.2.1))]) (fun x => [(5, .L 1 (x.2.2))]) (fun x => 0 ≤ (x.1) ∧ (x.1) ≤ b.length ∧ (x.2.1) = (x.2.2).length ∧ (x.2.2).length ≤ (x.1) ∧ (x.2.2) = (leftI s g (b.take (x.1).toNat)).map T.int) (fun x => Int.toNat (b.length - (x.1))) (0, 0, []) ?_ (fun x hx => ?_)
 ·exact ⟨by omega, by omega, rfl, by simp, rfl⟩
 obtain ⟨k, m, ws⟩ := x
 obtain ⟨hk0, hk1, hm, hwl, hws⟩ := hx
 dsimp only at hk0 hk1 hm hwl hws ⊢;refine nY Z (sG (eZ Z (nB (sQ ?_))));refine AC Z (fun h1 => ?_) (fun h1 => ?_)
 ·
  simp only [HS] at h1;refine AD (tN (sQ (AF (sG ?_))));refine iY (k := ?_)
  have hvk := hv _ (Ss (show k.toNat < b.length by omega))
  refine eK 2 Z (nB (AF (sG (eK 4 Z (nB ?_)))));refine AC Z (fun h2 => ?_) (fun h2 => ?_)
  ·
   simp only [HS] at h2;refine kY [1,2,5,7,8,9,10,11,12,13,14,15,16,17] Z (rG (eK 2 Z (bZ [T.int (b[k.toNat]'(by omega))] ?_)));refine nZ Z (AH tys Z Z (AA Z) Z Z Z Z Z (.own Z (by first | omega | (simp only [Sk]; omega))) Z (.own Z (by first | decide | omega)) (by decide) (by simp only [Sm, Sl, List.length_nil]; omega) (by decide) Z ?_);refine nZ Z (eZ Z (oN (bN (bN (tN (rG (evI ?_)))))));refine eZ Z (oN ?_);refine lQ (_, _, _) ?_ ?_
   ·dsimp only
    subst hm
    have hla := Ik (s := s) (g := g) hk0 (show k < b.length by omega)
    first
    | (refine ⟨by omega, by omega, by simp, by simp; omega, ?_⟩; rw [Sr, hws, hla, if_pos (by assumption), S1]; rfl)
   ·(show Int.toNat _ < Int.toNat _); omega
  simp only [HS] at h2;refine sQ (kY [1,2,5,7,8,9,10,11,12,13,14,15,16,17] Z (rG (eK 3 Z (evI ?_))));refine eK 2 Z (nB ?_);refine AC Z (fun h3 => ?_) (fun h3 => ?_)
  ·
   simp only [HS] at h3;refine rG (eK 3 Z (kZ [1,2,5,7,8,9,10,11,12,13,14,15,16,17,22,23,24,25,26,27,28,29,30] Z (evI ?_)));refine bZ [T.int (b[k.toNat]'(by omega) - g)] ?_;refine nZ Z (AH tys Z Z (AA Z) Z Z Z Z Z (.own Z (by first | omega | (simp only [Sk]; omega))) Z (.own Z (by first | decide | omega)) (by decide) (by simp only [Sm, Sl, List.length_nil]; omega) (by decide) Z ?_);refine nZ Z (eZ Z (oN (bN (bN (tN (rG (evI ?_)))))));refine eZ Z (oN ?_);refine lQ (_, _, _) ?_ ?_
   ·dsimp only
    subst hm
    have hla := Ik (s := s) (g := g) hk0 (show k < b.length by omega)
    first
    | (refine ⟨by omega, by omega, by simp, by simp; omega, ?_⟩; rw [Sr, hws, hla, if_neg (by omega), if_pos (by omega), S1]; rfl)
   ·(show Int.toNat _ < Int.toNat _); omega
  simp only [HS] at h3;refine AD (bN (bN (tN (rG (evI ?_)))));refine eZ Z (oN ?_);refine lQ (_, _, _) ?_ ?_
  ·dsimp only
   subst hm
   have hla := Ik (s := s) (g := g) hk0 (show k < b.length by omega)
   first
   | (refine ⟨by omega, by omega, rfl, by omega, ?_⟩; rw [hws, hla, if_neg (by omega), if_neg (by omega), S9]; done)
  ·(show Int.toNat _ < Int.toNat _); omega
 simp only [HS] at h1;refine AS (tE (AP (AK (tN (sG (eK 2 Z (nB (AN (Le.gather (u := 4) (id := 5) Z Z (by omega)) (rT (eR ?_))))))))))
 ·(rw [hm, Sr, hws]; refine N8 ?_; rw [BL (by omega)])
open Go.Eng
def toldF (C : List (Func × List Value)) : List T := C.map fun c => .agg (c.2.map T.v)
theorem Mg (C : List (Func × List Value)) : (toldF C).flatMap T.cells = (C.flatMap (·.2)).map T.v := by
 unfold toldF; rw [List.flatMap_map, List.map_flatMap]; rfl
theorem K2 {C : List (Func × List Value)} (h : ∀ c, c ∈ C → c.2.length = 4) : ∀ y, y ∈ toldF C → (T.cells y).length = 4 := by
 intro y hy
 obtain ⟨c, hc, rfl⟩ := TM.1 hy
 show (c.2.map T.v).length = 4;rw [Sj, h c hc]
open Go.Eng
theorem MP (p : Prog) : p.funcs = (List.range p.funcs.length).map fun k : Nat => funcAt p k := by
 refine List.ext_getElem (by simp) fun i h1 h2 => ?_
 rw [List.getElem_map, List.getElem_range];exact funcAt_at (n := (i : Int)) (by omega)
open Go.Eng
theorem Gk {α β : Type} {f : α → List β} {n : Nat} : ∀ {xs : List α}, (∀ x, x ∈ xs → (f x).length = n) → ∀ {i : Nat} (hi : i < xs.length) {j : Nat}, j < n → (xs.flatMap f)[i * n + j]? = (f xs[i])[j]?
 | [], _, i, hi, _, _ => by simp at hi
 | x :: xs, hw, 0, _, j, hj => by
  rw [Sy, Nat.zero_mul, Sz, List.getElem?_append_left (by rw [hw x (by simp)]; exact hj)];rfl
 | x :: xs, hw, i + 1, hi, j, hj => by
  have hx := hw x (by simp)
  rw [Sy, List.getElem?_append_right (by rw [hx, Tg]; omega), hx, Tg, show i * n + n + j - n = i * n + j from by omega]
  simpa using Gk (fun y hy => hw y (by simp [hy])) (by simpa using hi) hj
def GJ (C : List (Stmt × List Value)) : List T := C.map fun c => .agg (c.2.map T.v)
theorem Mf (C : List (Stmt × List Value)) : (GJ C).flatMap T.cells = (C.flatMap (·.2)).map T.v := by
 unfold GJ; rw [List.flatMap_map, List.map_flatMap]; rfl
theorem Kx {C : List (Stmt × List Value)} (h : ∀ c, c ∈ C → c.2.length = 5) : ∀ y, y ∈ GJ C → (T.cells y).length = 5 := by
 intro y hy
 obtain ⟨c, hc, rfl⟩ := TM.1 hy
 show (c.2.map T.v).length = 5;rw [Sj, h c hc]
def doneS (s : Int) (g : Nat) (c : Stmt × List Value) : T := .agg [.v (c.2.getD 0 undef), .v (c.2.getD 1 undef), .v (c.2.getD 2 undef), T.ints (leftI s g c.1.thn), T.ints (leftI s g c.1.els)]
def mixS (s : Int) (g : Nat) (C : List (Stmt × List Value)) (k : Nat) : List T := (C.take k).map (doneS s g) ++ GJ (C.drop k)
theorem QV (s : Int) (g : Nat) (C : List (Stmt × List Value)) (k : Nat) : (mixS s g C k).length = C.length := by simp [mixS, GJ]; omega
theorem OT (s : Int) (g : Nat) (C : List (Stmt × List Value)) : mixS s g C 0 = GJ C := by simp [mixS]
theorem QW (s : Int) (g : Nat) (C : List (Stmt × List Value)) {k : Nat} (h : C.length ≤ k) : mixS s g C k = C.map (doneS s g) := by
 simp [mixS, Sh h, List.drop_eq_nil_of_le h, GJ]
theorem Rv (s : Int) (g : Nat) (C : List (Stmt × List Value)) {k : Nat} (h : k < C.length) : (mixS s g C k)[k]? = some (.agg ((C[k]).2.map T.v)) := by
 rw [mixS, List.getElem?_append_right (by simp; omega)]
 simp [Tb (Nat.le_of_lt h), List.getElem?_eq_getElem h, GJ]
theorem QT (s : Int) (g : Nat) (C : List (Stmt × List Value)) {k : Nat} (h : k < C.length) : (mixS s g C k).set k (doneS s g C[k]) = mixS s g C (k + 1) := by
 have e : C.drop k = C[k] :: C.drop (k + 1) := TW h
 rw [mixS, mixS, e, List.set_append_right _ _ (by simp; omega)];simp only [Sj, Sm, Tb (Nat.le_of_lt h), Nat.sub_self, GJ, S8, List.set_cons_zero];rw [List.take_succ_eq_append_getElem h, S1]
 simp
theorem HB (b : List Int) : Ct [] b = b := by
 unfold Ct;rw [List.filter_eq_self.2 (by simp)]
 conv => rhs; rw [← List.map_id b]
 exact Tn fun n _ => by simp [EO]
theorem Ff {β : Type} {q : Int → Bool} (h : ∀ x, q x = true) : ∀ (i : Int) (l : List β), BW q i l = l
 | _, [] => rfl
 | i, x :: l => by rw [BW, if_pos (h i), Ff h]
theorem KC (f : Func) : leftF [] f = f := by
 have h1 : GQ [] = id := by
  funext s
  unfold GQ;rw [HB, HB]; rfl
 unfold leftF;rw [HB, Ff (by simp [B5]), h1, List.map_id]
theorem OH {β : Type} (m : Nat) : ∀ (i : Int) (l : List β) (s : Int) (g : Nat), s = i + m → BW (B5 (run s g)) i l = l.take m ++ l.drop (m + g) := by
 intro i l s g h
 induction m generalizing i l with
 | zero =>
  have hs : s = i := by omega
  subst hs;rw [List.take_zero, Th, Sz];clear h
  induction g generalizing s l with
  | zero => rw [Ff (by simp [B5, run]), List.drop_zero]
  | succ g ih =>
   cases l with
   | nil => rfl
   | cons x l =>
    rw [BW, if_neg (by simp [B5, mem_run]; omega), List.drop_succ_cons]
    have hw : ∀ (j : Int) (l : List β), s + 1 ≤ j → BW (B5 (run s (g + 1))) j l = BW (B5 (run (s + 1) g)) j l := by
     intro j l
     induction l generalizing j with
     | nil => intro _; rfl
     | cons y l ih2 =>
      intro hj
      have e : B5 (run s (g + 1)) j = B5 (run (s + 1) g) j := by
       unfold B5
       congr 1
       rw [decide_eq_decide, mem_run, mem_run];omega
      rw [BW, BW, e, ih2 (j + 1) (by omega)]
    rw [hw _ _ (by omega)];exact ih (s + 1) l
 | succ m ih =>
  cases l with
  | nil => simp [BW]
  | cons x l =>
   rw [BW, if_pos (by simp [B5, mem_run]; omega), ih (i + 1) l (by omega), List.take_succ_cons, show m + 1 + g = (m + g) + 1 from by omega, List.drop_succ_cons];rfl
theorem KB (f : Func) {s : Int} {g : Nat} (h0 : 0 ≤ s) : leftF (run s g) f = ⟨f.params, f.vars, leftI s g f.body, (f.stmts.take s.toNat ++ f.stmts.drop (s.toNat + g)).map fun x => ⟨x.kind, x.n, x.ex, leftI s g x.thn, leftI s g x.els⟩⟩ := by
 unfold leftF;rw [OH s.toNat 0 f.stmts s g (by omega), Gc]
 congr 1
 refine Tn fun x _ => ?_
 unfold GQ;rw [Gc, Gc]
theorem Qp (p : Prog) {fn s : Int} {g : Nat} (hf0 : 0 ≤ fn) (hf1 : fn < p.funcs.length) (hr : Al (funcAt p fn) [s] = run s g) : (B6 p fn s).funcs = p.funcs.set fn.toNat (leftF (run s g) (funcAt p fn)) := by
 unfold B6
 refine List.ext_getElem (by simp) fun i h1 h2 => ?_
 rw [List.getElem_map, List.getElem_range, List.getElem_set]
 by_cases h : fn.toNat = i
 ·subst h
  rw [if_pos rfl, show ((fn.toNat : Nat) : Int) = fn from by omega, Fo, if_pos rfl, hr]
 ·rw [if_neg h, Fo, if_neg (by omega), KC]
  exact (funcAt_at (n := (i : Int)) (by simp at h1; omega)).symm
theorem Ft {α β : Type} {f : α → List β} {n : Nat} : ∀ {xs : List α}, (∀ x, x ∈ xs → (f x).length = n) → ∀ (m : Nat), (xs.flatMap f).take (m * n) = (xs.take m).flatMap f ∧ (xs.flatMap f).drop (m * n) = (xs.drop m).flatMap f
 | [], _, m => by simp
 | x :: xs, hw, 0 => by simp
 | x :: xs, hw, m + 1 => by
  have hx := hw x (by simp)
  obtain ⟨h1, h2⟩ := Ft (xs := xs) (fun y hy => hw y (S7 _ hy)) m
  rw [Sy, List.take_succ_cons, List.drop_succ_cons, Sy, Tg, List.take_append, List.drop_append, hx];rw [Sh (by omega), List.drop_eq_nil_of_le (by omega), show m * n + n - n = m * n from by omega, h1, h2]
  simp
theorem Le.eqM {c : Ctx} {s : St} {id : Nat} {k k' : Blk} (h1 : lookM s.M id = some k) (h : k = k') : Le c s ⟨s.fr, (id, k') :: s.M⟩ := by
 subst h;refine Le.of (fun t => .inl Z) (fun i => .inl ?_);simp only [lookM];split
 ·rename_i e; subst e; exact h1.symm
 ·rfl
theorem QU {s : Int} {g : Nat} {K : List (Stmt × List Value)} (h : ∀ c, c ∈ K → c.2.length = 5) :
  Mix (K.flatMap (·.2)) ((K.map (·.1)).flatMap fun x => T.cells (Stmt.tt x)) ((K.map (doneS s g)).flatMap T.cells) ((((K.map (·.1)).map fun x : Stmt => (⟨x.kind, x.n, x.ex, leftI s g x.thn, leftI s g x.els⟩ : Stmt)).map Stmt.tt).flatMap T.cells) := by
 simp only [List.flatMap_map, List.map_map]
 refine Mix.flat (f := fun c : Stmt × List Value => c.2) fun c hc => ?_
 obtain ⟨x, l⟩ := c
 have hl := h _ hc
 match l, hl with
 | [w0, w1, w2, w3, w4], _ => exact .claim (.claim (.claim (.keep (.keep .nil))))
theorem QX : ∀ {C : List (Func × List Value)}, (∀ c, c ∈ C → c.2.length = 4) → Mix (C.flatMap (·.2)) (((C.map (·.1)).map Func.tt).flatMap T.cells) ((toldF C).flatMap T.cells) (((C.map (·.1)).map Func.tt).flatMap T.cells)
 | C, h => by
  unfold toldF;simp only [List.flatMap_map, List.map_map]
  refine Mix.flat (f := fun c : Func × List Value => c.2) fun c hc => ?_
  obtain ⟨x, l⟩ := c
  have hl := h _ hc
  match l, hl with
  | [w0, w1, w2, w3], _ => exact .claim (.claim (.claim (.claim .nil)))
theorem L6 {y e2 e3 : T} {v0 v1 v2 v3 : Value} : ∀ {C : List (Func × List Value)}, (∀ c, c ∈ C → c.2.length = 4) → ∀ {i : Nat} (hi : i < C.length), (C[i]).2 = [v0, v1, v2, v3] → T.v v0 = T.int (C[i]).1.params → T.v v1 = T.int (C[i]).1.vars →
  Mix (C.flatMap (·.2)) ((((C.map (·.1)).map Func.tt).flatMap T.cells).set (i * 4 + 3) y) (((toldF C).set i (.agg [.v v0, .v v1, e2, e3])).flatMap T.cells) ((((C.map (·.1)).map Func.tt).set i (.agg [T.v v0, T.v v1, e2, e3])).flatMap T.cells)
 | [], _, i, hi, _, _, _ => by simp at hi
 | c :: C, h, 0, _, hv, h0, h1 => by
  obtain ⟨x, l⟩ := c
  have hl : l = [v0, v1, v2, v3] := hv
  subst hl
  have hr := QX (C := C) fun d hd => h d (S7 _ hd)
  have e : ((((⟨x, [v0, v1, v2, v3]⟩ :: C : List (Func × List Value)).map (·.1)).map Func.tt).flatMap T.cells).set (0 * 4 + 3) y = [T.v v0, T.v v1, T.ints x.body, y] ++ ((C.map (·.1)).map Func.tt).flatMap T.cells := by
   have h0' : T.int x.params = T.v v0 := h0.symm
   have h1' : T.int x.vars = T.v v1 := h1.symm
   show ([T.int x.params, T.int x.vars, T.ints x.body, T.Stmts x.stmts] ++ ((C.map (·.1)).map Func.tt).flatMap T.cells).set 3 y = _;rw [h0', h1']; rfl
  rw [e];exact Mix.app (vs := [v0, v1, v2, v3]) (ts := [T.v v0, T.v v1, T.ints x.body, y]) (ys := [.v v0, .v v1, e2, e3]) (xs := [T.v v0, T.v v1, e2, e3]) (.claim (.claim (.keep (.keep .nil)))) hr
 | c :: C, h, i + 1, hi, hv, h0, h1 => by
  obtain ⟨x, l⟩ := c
  have hl := h _ (TA ..)
  have hr := L6 (y := y) (e2 := e2) (e3 := e3) (C := C) (fun d hd => h d (S7 _ hd)) (i := i) (by simpa using hi) (by simpa using hv) (by simpa using h0) (by simpa using h1)
  match l, hl with
  | [w0, w1, w2, w3], _ =>
   have e : ((((⟨x, [w0, w1, w2, w3]⟩ :: C : List (Func × List Value)).map (·.1)).map Func.tt).flatMap T.cells).set ((i + 1) * 4 + 3) y = T.cells x.tt ++ (((C.map (·.1)).map Func.tt).flatMap T.cells).set (i * 4 + 3) y := by
    have hx : (T.cells x.tt).length = 4 := rfl
    simp only [S8, Sy];rw [List.set_append_right _ _ (by rw [hx]; omega), hx, show (i + 1) * 4 + 3 - 4 = i * 4 + 3 from by omega]
   rw [e];exact Mix.app (vs := [w0, w1, w2, w3]) (ts := T.cells x.tt) (ys := [.v w0, .v w1, .v w2, .v w3]) (xs := T.cells x.tt) (.claim (.claim (.claim (.claim .nil)))) hr
open Go.Eng
theorem KY (p : Prog) (fn s : Int) (hp : p.ok 1048576) (hg : AZ p = true) (hf0 : 0 ≤ fn) (hf1 : fn < p.funcs.length) (hs0 : 0 ≤ s) (hs1 : s < (funcAt p fn).stmts.length) : Fun Tryz.prog 69 [.t p.tt, .t (.int fn), .t (.int s)] (Av [.agg [.own (T.Funcs (B6 p fn s).funcs)]]) := by
  have hpl : p.funcs.length ≤ 1048576 := hp.1.1
  have hf := Bk hp (n := fn.toNat) (by omega)
  have hgf := CE hg (n := fn.toNat) (by omega)
  have hfl := Ds hgf
  have hsh := Bj hgf
  obtain ⟨hd, hib, hob⟩ := B8 hsh
  have hfa := funcAt_at (p := p) (n := fn) (by omega)
  rw [← hfa] at hs1
  obtain ⟨hg1, hg2, hg3⟩ := C1 hsh hs0 hs1
  rw [Qp p hf0 hf1 (g := CV (p.funcs[fn.toNat]'(by omega)) s) (by rw [← hfa]; exact hg1), ← hfa, KB _ hs0];generalize hG : CV (p.funcs[fn.toNat]'(by omega)) s = g at *;refine Fun.begin tys Tryz.func69 Z Z (N := 82) [(0, .t p.tt), (1, .t (.int fn)), (2, .t (.int s))] Z Z (fun w0 G F0 => ?_);refine sG (AV Z Z (AA Z) Z Z (nZ Z (AV Z Z (AA Z) Z Z (nZ Z (AG tys Z Z (AA Z) Z Z Z (nZ Z (nA (eZ Z ?_))))))))
  try refine AB (Le.freeze (u := 13) rfl) ?_
  refine nZ Z (AL ?_);refine ⟨_, FK p hp, rfl, ?_⟩;refine AG tys Z Z (AA Z) Z Z Z (nZ Z (sT Z (nZ Z (nB (sQ (kY [1,5,6,7] Z (rG (nZ Z (AB (Le.adoptBox (u := 7) (j := 0) (id := 101) Z Z Z) (nZ Z ?_))))))))));refine ID (id := 101) (idp := 133) Z Z (fun vs hvs => ?_)
  obtain ⟨C, hC1, hC2, rfl⟩ := cutV (l := p.funcs) (vs := vs) (n := 4) (by rw [hvs, Sj])
  have hCl : C.length = p.funcs.length := by rw [← hC1, Sj]
  refine ⟨toldF C, Mg C, by rw [toldF, Sj, Sj, hCl], K2 hC2, ?_⟩;refine nZ Z ?_
  have hkl : fn.toNat < C.length := by omega
  obtain ⟨v0, v1, v2, v3, hv⟩ : ∃ v0 v1 v2 v3, (C[fn.toNat]'hkl).2 = [v0, v1, v2, v3] := by
   have h4 := hC2 _ (Ss hkl)
   match (C[fn.toNat]'hkl).2, h4 with
   | [v0, v1, v2, v3], _ => exact ⟨_, _, _, _, rfl⟩
  have hy : (toldF C)[fn.toNat]? = some (.agg [.v v0, .v v1, .v v2, .v v3]) := by rw [toldF, List.getElem?_map, List.getElem?_eq_getElem hkl]; simp [hv]
  have hcv : ∀ j, j < 4 → (C.flatMap (·.2))[fn.toNat * 4 + j]? = [v0, v1, v2, v3][j]? := fun j hj => by
   have h4 := Gk (xs := C) (f := (·.2)) (n := 4) hC2 (i := fn.toNat) hkl hj
   rw [h4, hv]
  have hct : ∀ j, j < 4 → ((p.funcs.map Func.tt).flatMap T.cells)[fn.toNat * 4 + j]? = (T.cells (p.funcs[fn.toNat]'(by omega)).tt)[j]? := fun j hj => Gl (PL _) (Rx (List.getElem?_eq_getElem (by omega))) hj
  have hbl : (T.Funcs p.funcs).cells = [T.Funcs p.funcs] := rfl
  refine PT 133 (fn.toNat * 4 + 0) Z Z (x := .int .i64 (p.funcs[fn.toNat]'(by omega)).params) (hct 0 (by decide)) (hcv 0 (by decide)) (fun hv0 => ?_);refine PT 133 (fn.toNat * 4 + 1) Z Z (x := .int .i64 (p.funcs[fn.toNat]'(by omega)).vars) (hct 1 (by decide)) (hcv 1 (by decide)) (fun hv1 => ?_);subst hv0 hv1;refine eK 3 Z (BI tys Z Z (AA Z) Z Z Z Z Z Z Z Z hf0 (by rw [Sj]; exact hf1) ?_);refine nZ Z (eZ Z (nB (sQ (AX [[9], [9], [9], [9], [9], [9], [9], [], []] Ai (by kernel_rfl) (BJ (QG_ev tys Z Z (AA Z) Z (AE (BJ (Ax rfl Z (AA Z) Z Z Z (AE (BJ (JF tys Z Z (AA Z) Z Z Z Z (by rw [Sz]; exact hy) Z ?_))))))))))));refine AE (BJ (QG_ev tys Z Z (AA Z) Z (AE (AQ Z (BJ ?_)))));refine BV tys [T.int s] Z Z (AA Z) Z Z Z Z Z (AA Z) (by repeat (first | exact PartsOk.nil' | refine PartsOk.cons' rfl (by repeat (first | exact AbsL.nil' | refine AbsL.v' ?_ | refine AbsL.own' ?_ | refine AbsL.none' ?_)) Z ?_)) Z Z Z (by decide) ?_;refine AE (BJ (JG Z Z (AA Z) Z Z (es := [.t (p.funcs[fn.toNat]'(by omega)).tt, .t (T.ints [s]), .nil]) (ResL.aggT (ResL.t (ResL.t (ResL.raw (id := 133) (j := fn.toNat * 4 + 2) Z (hcv 2 (by decide)) (hct 2 (by decide)) (ResL.raw (id := 133) (j := fn.toNat * 4 + 3) Z (hcv 3 (by decide)) (hct 3 (by decide)) ResL.done)))) (ResL.own (ResL.nil' ResL.done))) (Dh _ hf hd (by intro x hx; rw [TB] at hx; subst hx; exact ⟨hs0, hs1⟩) (by simp) (by rw [hg1, DP]; omega)).toFun Z ?_));refine AE (BJ (Sf Z Z (AA Z) Z ⟨3, by kernel_rfl⟩ rfl (m := g) (by rw [Sj, hg1, DP]) ?_));refine AE (AM (EN tys Z Z (AA Z) Z Z Z Z (AE (AQ Z (B4 tys 10008 Z Z Z Z Z Z Z Z Z (S4 Z) (BP ?_))))));refine ⟨by kernel_rfl, ?_⟩;refine nZ Z (nA (nZ Z ?_));refine IE (id := 133) (j := fn.toNat * 4 + 3) (id2 := 102) (n := 5) (u := v3) (xs := (p.funcs[fn.toNat]'(by omega)).stmts.map Stmt.tt) Z Z (hcv 3 (by decide)) (hct 3 (by decide)) Z (fun e ad b cap ws hu hb he hlc hcm hn => ?_);rw [Sj] at hu hlc
  have he0 : e = false := by cases e with | false => rfl | true => have := congrArg List.length (he rfl); rw [Sj, List.length_nil] at this; omega
  subst he0
  obtain rfl : ad = some ⟨b, 0, none⟩ := hb rfl
  subst hu;refine nZ Z ?_;refine PV 102 Z Z (fun hwl => ?_)
  obtain ⟨K, hK1, hK2, rfl⟩ := cutV (l := (p.funcs[fn.toNat]'(by omega)).stmts) (vs := ws) (n := 5) (by rw [hwl, Aj (PK _), Sj])
  have hKl : K.length = (p.funcs[fn.toNat]'(by omega)).stmts.length := by rw [← hK1, Sj]
  refine AB (Le.rawTell (id := 102) 135 Z Z) (nZ Z (AB (Le.roNil 99) (nZ Z (eK 2 Z (nB (sQ (AX [[102], [], [], [], [], [], [], [], [], [], [], [], []] Ai (by kernel_rfl) (BJ (QG_ev tys Z Z (AA Z) Z (AE (AM (QG_ev tys Z Z (AA Z) Z (AE (AM (Ax rfl Z (AA Z) Z Z Z ?_)))))))))))))));refine AE (AM (QG_ev tys Z Z (AA Z) Z (AE (AQ Z (BJ (JF tys Z Z (AA Z) Z Z Z Z (by rw [Sz]; exact hy) Z ?_))))));refine AE (AM (QG_ev tys Z Z (AA Z) Z (AE (AM (QG_ev tys Z Z (AA Z) Z (AE (AM (QG_ev tys Z Z (AA Z) Z (AE (AQ Z (AM (Md tys Z Z (AA Z) Z (C4 (by omega) (by omega)) (AE ?_)))))))))))));refine Bh (rid := 99) [102] Z Z (AA Z) Z Z (by repeat (first | exact ResP.done | refine ResP.pin0 1102 Z ?_ | refine ResP.t ?_ | refine ResP.nil 1 ?_ | refine ResP.nil' ?_ | refine ResP.own ?_ | refine ResP.sl Z Z (by first | omega | (simp; omega)) ?_ | refine ResP.aggT (by repeat (first | exact ResP.done | refine ResP.t ?_)) ?_)) Z (by repeat (first | exact trivial | refine ⟨rfl, rfl, ?_⟩)) (by decide) (PA b _ cap s (s + g) (K.flatMap fun c : Stmt × List Value => c.2) hs0 (by omega) (by omega) hlc (by rw [hwl, Aj (PK _), Sj])) Z Z Z ?_;refine AM (Ax rfl Z (AA Z) Z Z Z (AE (AM (QG_ev tys Z Z (AA Z) Z (AE (AQ Z ?_))))));refine Fx tys 10012 [.v (.slice (some ⟨b, 0, none⟩) ((p.funcs[fn.toNat]'(by omega)).stmts.length - ((s + g).toNat - s.toNat)) cap)] Z Z Z Z Z Z (by rw [Sz]; exact hy) Z Z (by repeat (first | exact AbsL.nil' | refine AbsL.v' ?_ | refine AbsL.own' ?_)) Z (by decide) (S4 Z) ?_;refine BP ?_;refine ⟨by kernel_rfl, ?_⟩;refine nZ Z ?_
  obtain ⟨K', hK'⟩ : ∃ K', K' = K.take s.toNat ++ K.drop (s.toNat + g) := ⟨_, rfl⟩
  have hnew : (p.funcs[fn.toNat]'(by omega)).stmts.length - ((s + g).toNat - s.toNat) = K'.length := by rw [hK', Sk, Sm, TD, hKl]; omega
  have hKm : ∀ c, c ∈ K' → c ∈ K := fun c hc => by
   rw [hK'] at hc
   rcases So.1 hc with hc | hc
   · exact TC hc
   · exact TG hc
  have hK2' : ∀ c, c ∈ K' → c.2.length = 5 := fun c hc => hK2 c (hKm c hc)
  have hcut : (K.flatMap fun c : Stmt × List Value => c.2).take (s.toNat * 5) ++ (K.flatMap fun c : Stmt × List Value => c.2).drop ((s + g).toNat * 5) = K'.flatMap fun c : Stmt × List Value => c.2 := by
   rw [(Ft hK2 s.toNat).1, (Ft hK2 (s + g).toNat).2, hK', Tc, show (s + g).toNat = s.toNat + g from by omega]
  refine AB (Le.rawPick (idp := 135) (g := fun x => T.cells (Stmt.tt x)) (n := 5) (C := K) (C' := K') (R := (K.drop s.toNat).take g) Z (fun _ => rfl) hK2 Z (by rw [hK1, List.flatMap_map]) (by
   rw [hK', S2]
   conv => lhs; rw [← TH s.toNat K]
   refine List.Perm.append_left _ ?_
   conv => lhs; rw [← TH g (K.drop s.toNat)]
   rw [List.drop_drop]
   exact List.perm_append_comm)) ?_
  refine nZ Z (AB (Le.rawList (id := 102) (n := 5) (ys := GJ K') 1102 Z Z Z Z (by rw [Mf, hcut]) (Kx hK2') (by rw [GJ, Sj]; omega) hcm) ?_);refine nZ Z (AB (Le.eqM (id := 101) Z (k' := .L 4 ((toldF C).set fn.toNat (.agg [T.int (p.funcs[fn.toNat]'(by omega)).params, T.int (p.funcs[fn.toNat]'(by omega)).vars, .v v2, .v (.slice (some ⟨b, 0, none⟩) K'.length cap)]))) (by rw [Sz, ← hnew]; rfl)) ?_);refine nZ Z ?_
  have hfl2 : fn.toNat < (toldF C).length := by rw [toldF, Sj]; exact hkl
  refine nA (eK 3 Z (AJ rfl Z (AA Z) Z Z Z (eZ Z ?_)));refine Ay tys Z Z (AA Z) Z Z Z Z (by rw [Sz]; exact List.getElem?_set_self hfl2) Z ?_;refine nZ Z ?_;refine Bm Z Z (AA Z) Z Z (es := [.t (T.ints (p.funcs[fn.toNat]'(by omega)).body), .rp (.agg [T.int s]) 0, .rp (.agg [T.int g]) 0]) (ResL.raw (id := 133) (j := fn.toNat * 4 + 2) Z (hcv 2 (by decide)) (by rw [List.getElem?_set_ne (by omega)]; exact hct 2 (by decide)) (ResL.ref Z (ResL.t ResL.done) (ResL.ref Z (ResL.t ResL.done) ResL.done))) (Ij _ s g hf.1 (FZ hib (by omega) (by omega)) hs0 (by omega) (by omega)) Z ?_;refine nZ Z (AJ rfl Z (AA Z) Z Z Z (eZ Z (kZ [6,7,8,10,45,47] Z ?_)));refine Bz tys [T.ints (leftI s g (p.funcs[fn.toNat]'(by omega)).body)] Z Z Z Z Z Z (by rw [Sz]; exact List.getElem?_set_self hfl2) Z (by repeat (first | exact AbsL.nil' | refine AbsL.v' ?_ | refine AbsL.own' ?_)) Z (by decide) (S4 Z) ?_;refine nZ Z (AB (Le.eqM (id := 101) Z (k' := .L 4 ((toldF C).set fn.toNat (.agg [T.int (p.funcs[fn.toNat]'(by omega)).params, T.int (p.funcs[fn.toNat]'(by omega)).vars, T.ints (leftI s g (p.funcs[fn.toNat]'(by omega)).body), .v (.slice (some ⟨b, 0, none⟩) K'.length cap)]))) (by rw [Sz, List.set_set]; rfl)) ?_);refine nZ Z (nZ Z (nB (sQ (sG (eZ Z (AJ rfl Z (AA Z) Z Z Z (eZ Z ?_)))))));refine Ay tys Z Z (AA Z) Z Z Z Z (by rw [Sz]; exact List.getElem?_set_self hfl2) Z ?_;refine nZ Z (AB (Le.namedS (t := 51) 1102 Z Z (by omega)) (nZ Z (evE ?_)));refine eZ Z (nB (AF ?_));refine lK (α := Int × List T) [6, 7, 8, 10, 51, 52] [5, 6, 7, 9, 101, 133, 135, 1102] (fun x => [(53, .t (.int (x.1)))]) (fun x => [(102, .L 5 (x.2))]) (fun x => 0 ≤ (x.1) ∧ (x.1) ≤ K'.length ∧ (x.2) = mixS s g K' (x.1).toNat) (fun x => Int.toNat (K'.length - (x.1))) (0, GJ K') ?_ (fun x hx => ?_)
  · exact ⟨by omega, by omega, (OT ..).symm⟩
  obtain ⟨k, zs⟩ := x
  obtain ⟨hk0, hk1, hzs⟩ := hx
  dsimp only at hk0 hk1 hzs ⊢;refine nY Z (sG (eZ Z (nB (sQ ?_))));refine AC Z (fun h1 => ?_) (fun h1 => ?_)
  ·
    simp only [HS] at h1;refine AD (tN (sQ (AF (sG (eZ Z ?_)))))
    have hkk : k.toNat < K'.length := by omega
    obtain ⟨w0, w1, w2, w3, w4, hw⟩ : ∃ w0 w1 w2 w3 w4, (K'[k.toNat]'hkk).2 = [w0, w1, w2, w3, w4] := by
     have h4 := hK2' _ (Ss hkk)
     match (K'[k.toNat]'hkk).2, h4 with
     | [w0, w1, w2, w3, w4], _ => exact ⟨_, _, _, _, _, rfl⟩
    have hz : zs[k.toNat]? = some (.agg [.v w0, .v w1, .v w2, .v w3, .v w4]) := by rw [hzs, Rv s g K' hkk, hw]; rfl
    have hzl : zs.length = K'.length := by rw [hzs, QV]
    have hkv : ∀ j, j < 5 → (K'.flatMap fun c : Stmt × List Value => c.2)[k.toNat * 5 + j]? = [w0, w1, w2, w3, w4][j]? := fun j hj => by rw [Gk hK2' hkk hj, hw]
    have hkt : ∀ j, j < 5 → ((K'.map (·.1)).flatMap fun x => T.cells (Stmt.tt x))[k.toNat * 5 + j]? = (T.cells (K'[k.toNat]'hkk).1.tt)[j]? := fun j hj => by
     rw [Gk (n := 5) (fun _ _ => rfl) (by rw [Sj]; exact hkk) hj, List.getElem_map]
    have hso : (K'[k.toNat]'hkk).1.thn.length ≤ 1048576 ∧ (K'[k.toNat]'hkk).1.els.length ≤ 1048576 ∧ (∀ x, x ∈ (K'[k.toNat]'hkk).1.thn → -1073741824 ≤ x ∧ x ≤ 1073741824) ∧ (∀ x, x ∈ (K'[k.toNat]'hkk).1.els → -1073741824 ≤ x ∧ x ≤ 1073741824) := by
     have hin : (K'[k.toNat]'hkk).1 ∈ (p.funcs[fn.toNat]'(by omega)).stmts := by
      rw [← hK1];exact TM.2 ⟨_, hKm _ (Ss hkk), rfl⟩
     obtain ⟨m, hm, e⟩ := TF hin
     rw [← e]
     have ho := Br hf hm
     have hkd := hd m (by omega) (by omega)
     rw [kids_at (by omega)] at hkd;exact ⟨ho.1, ho.2.1, FZ (Au hkd.1 (show (0 : Int) ≤ m + 1 by omega)) (by omega) (by omega), FZ (Au hkd.2 (show (0 : Int) ≤ m + 1 by omega)) (by omega) (by omega)⟩
    refine BI tys Z Z (AA Z) Z Z Z Z Z Z Z Z hk0 (by omega) (nZ Z (Ay tys Z Z (AA Z) Z Z Z Z (by rw [Sz]; exact hz) Z ?_));refine nZ Z (nZ Z (AG tys Z Z (AA Z) Z Z Z (nZ Z (eZ Z (sT Z (nZ Z (nB (kY [6,7,8,10,11,12,51,52,53,54,55,56,57] Z (AX [[], [], [], [], [], [], [], [], [], [102], [], [], [], [], [], [], [], [], [], [], [], [], [], []] Ai (by kernel_rfl) (AM (QG_ev tys Z Z (AA Z) Z (AE (AM (Ax rfl Z (AA Z) Z Z Z (AE ?_)))))))))))))));refine AM (QG_ev tys Z Z (AA Z) Z (AE (BJ ?_)));refine D2 tys 1102 Z Z (AA Z) Z Z Z Z (by rw [Sz]; exact List.getElem?_set_self hfl2) Z Z (by omega) ?_;refine AE (AQ Z (AM (QG_ev tys Z Z (AA Z) Z (AE (AM (QG_ev tys Z Z (AA Z) Z (AE (AM (Ax rfl Z (AA Z) Z Z Z (AE (AM (QG_ev tys Z Z (AA Z) Z (AE (AQ Z (BJ ?_)))))))))))))));refine D2 tys 1102 Z Z (AA Z) Z Z Z Z (by rw [Sz]; exact List.getElem?_set_self hfl2) Z Z (by omega) ?_;refine AE (BJ (QG_ev tys Z Z (AA Z) Z (AE (AM (QG_ev tys Z Z (AA Z) Z (AE (AM (QG_ev tys Z Z (AA Z) Z (AE (AQ Z (AM (QG_ev tys Z Z (AA Z) Z (AE (BJ (JG Z Z (AA Z) Z Z (es := [.t (T.ints (K'[k.toNat]'hkk).1.thn), .rp (.agg [T.int s]) 0, .rp (.agg [T.int g]) 0]) (ResL.raw (id := 135) (j := k.toNat * 5 + 3) Z (hkv 3 (by decide)) (hkt 3 (by decide)) (ResL.ref Z (ResL.t ResL.done) (ResL.ref Z (ResL.t ResL.done) ResL.done))) (Ij _ s g hso.1 hso.2.2.1 hs0 (by omega) (by omega)) Z ?_)))))))))))))));refine AE (AM (QG_ev tys Z Z (AA Z) Z (AE (AM (QG_ev tys Z Z (AA Z) Z (AE (AQ Z (AM (QG_ev tys Z Z (AA Z) Z (AE (BJ (JG Z Z (AA Z) Z Z (es := [.t (T.ints (K'[k.toNat]'hkk).1.els), .rp (.agg [T.int s]) 0, .rp (.agg [T.int g]) 0]) (ResL.raw (id := 135) (j := k.toNat * 5 + 4) Z (hkv 4 (by decide)) (hkt 4 (by decide)) (ResL.ref Z (ResL.t ResL.done) (ResL.ref Z (ResL.t ResL.done) ResL.done))) (Ij _ s g hso.2.1 hso.2.2.2 hs0 (by omega) (by omega)) Z (AE (BJ (DX tys Z Z (AA Z) Z Z Z Z Z Z Z Z hk0 (by omega) ?_)))))))))))))));refine AE (AM (QG_ev tys Z Z (AA Z) Z (AE (AQ Z ?_))));refine Hi tys [T.ints (leftI s g (K'[k.toNat]'hkk).1.thn)] Z Z Z Z Z Z (by rw [Sz]; exact hz) Z Z (by repeat (first | exact AbsL.nil' | refine AbsL.v' ?_ | refine AbsL.own' ?_)) Z (by decide) (S4 Z) ?_;refine BJ (DX tys Z Z (AA Z) Z Z Z Z Z Z Z Z hk0 (by omega) (AE (AM (QG_ev tys Z Z (AA Z) Z (AE ?_)))));refine Hi tys [T.ints (leftI s g (K'[k.toNat]'hkk).1.els)] Z Z Z Z Z Z (by rw [Sz]; exact List.getElem?_set_self (by omega)) Z Z (by repeat (first | exact AbsL.nil' | refine AbsL.v' ?_ | refine AbsL.own' ?_)) Z (by decide) (S4 Z) ?_;refine AQ Z (BP ?_);refine ⟨by kernel_rfl, ?_⟩;refine nZ Z (oN (bN (tN (rG (evI ?_)))));refine eZ Z (oN ?_);refine lQ (_, _) ?_ ?_
    · dsimp only
      refine ⟨by omega, by omega, ?_⟩;rw [hzs, Sz, List.set_set, show (k + 1).toNat = k.toNat + 1 from by omega, ← QT s g K' hkk]
      congr 1
      unfold doneS;rw [hw];rfl
    · (show Int.toNat _ < Int.toNat _); omega
  simp only [HS] at h1;refine AS (tE (AP (AK (tN (sG ?_)))))
  have hzs' : zs = K'.map (doneS s g) := by rw [hzs, QW s g K' (by omega)]
  subst hzs';refine nZ Z (AB (Le.claimMix (id := 102) (idp := 135) (xs := ((K'.map (·.1)).map fun x : Stmt => (⟨x.kind, x.n, x.ex, leftI s g x.thn, leftI s g x.els⟩ : Stmt)).map Stmt.tt) Z Z (QU hK2') (by simp) (PK _) Z) ?_);refine nZ Z ?_;refine AB (Le.claimL (id := 101) (id2 := 102) (pid := 1102) (i := fn.toNat) (off := 3) Z Z Z (List.getElem?_set_self hfl2) Z (by simp) Z) ?_;refine nZ Z (AB (Le.eqM (id := 101) Z (k' := .L 4 ((toldF C).set fn.toNat (.agg [T.int (p.funcs[fn.toNat]'(by omega)).params, T.int (p.funcs[fn.toNat]'(by omega)).vars, T.ints (leftI s g (p.funcs[fn.toNat]'(by omega)).body), T.Stmts ((K'.map (·.1)).map fun x : Stmt => (⟨x.kind, x.n, x.ex, leftI s g x.thn, leftI s g x.els⟩ : Stmt))]))) (by rw [List.set_set]; rfl)) ?_);refine nZ Z ?_
  have hCf : (C[fn.toNat]'hkl).1 = p.funcs[fn.toNat]'(by omega) := by
   have : (C.map (·.1))[fn.toNat]'(by rw [Sj]; exact hkl) = p.funcs[fn.toNat]'(by omega) := by congr 1
   simpa using this
  have hmx := L6 (y := .v (.slice (some ⟨b, 0, none⟩) (p.funcs[fn.toNat]'(by omega)).stmts.length cap)) (e2 := T.ints (leftI s g (p.funcs[fn.toNat]'(by omega)).body)) (e3 := T.Stmts ((K'.map (·.1)).map fun x : Stmt => (⟨x.kind, x.n, x.ex, leftI s g x.thn, leftI s g x.els⟩ : Stmt))) hC2 hkl hv (by rw [hCf]) (by rw [hCf])
  rw [hC1] at hmx
  refine AB (Le.claimMix (id := 101) (idp := 133) Z Z hmx (by rw [TR, TR, toldF, Sj, Sj, hCl]) (fun x hx => by
   rcases Tf hx with hx | rfl
   · exact PL _ x hx
   · rfl) rfl) ?_
  refine nZ Z (AB (Le.gatherBox (u := 7) (j := 0) (id := 101) Z Z Z (by simp) Z) ?_);refine nZ Z (Ad tys Z Z (AA Z) Z Z Z Z Z Z (nZ Z (sT Z (nZ Z (nB (rT (eR ?_)))))))
  · rw [Sh (by simp), show K'.map (·.1) = (p.funcs[fn.toNat]'(by omega)).stmts.take s.toNat ++ (p.funcs[fn.toNat]'(by omega)).stmts.drop (s.toNat + g) from by rw [hK', S1, List.map_take, List.map_drop, hK1], T.Funcs, TX]
    rfl
open Go.Eng
theorem Qs {α : Type} (ct : α → Int) {l l' : List α} (h : l.Perm l') : ctL ct l = ctL ct l' := by
 induction h with
 | nil => rfl
 | cons x _ ih => rw [DV, DV, ih]
 | swap x y l => rw [DV, DV, DV, DV]; omega
 | trans _ _ h1 h2 => rw [h1, h2]
open Go.Eng
theorem Qt {α : Type} (ct : α → Int) (a b : List α) : ctL ct (a ++ b) = ctL ct a + ctL ct b := by
 unfold ctL; rw [S1, List.sum_append]
open Go.Eng
def CN (p : Prog) (fn s : Int) : Bool := AZ p && (decide (0 ≤ fn ∧ fn < p.funcs.length) && decide (0 ≤ s ∧ s < (funcAt p fn).stmts.length))
def HT (p : Prog) (fn s : Int) : Prog := if CN p fn s then B6 p fn s else ⟨[]⟩
theorem DH {p : Prog} {fn s : Int} (h1 : AZ p = true) (h2 : 0 ≤ fn ∧ fn < p.funcs.length) (h3 : 0 ≤ s ∧ s < (funcAt p fn).stmts.length) : [D.agg [D.own (T.Funcs (B6 p fn s).funcs)], D.t (T.v (.bool true))] = [D.agg [D.own (T.Funcs (HT p fn s).funcs)], D.t (T.bool (CN p fn s))] := by
 have h : CN p fn s = true := by simp [CN, h1, h2, h3]
 rw [HT, h]; rfl
theorem EE {p : Prog} {fn s : Int} (h : CN p fn s = false) : [D.agg [D.own (T.list 4 [])], D.t (T.v (.bool false))] = [D.agg [D.own (T.Funcs (HT p fn s).funcs)], D.t (T.bool (CN p fn s))] := by
 rw [HT, h]; rfl
theorem IX (p : Prog) (fn s : Int) (hp : p.ok 1048576) : Fun Tryz.prog 33 [.t p.tt, .t (.int fn), .t (.int s)] (Av [.agg [.own (T.Funcs (HT p fn s).funcs)], .t (.bool (CN p fn s))]) := by
 have hpl : p.funcs.length ≤ 1048576 := hp.1.1
 refine Fun.begin tys Tryz.func33 Z Z (N := 38) [(0, .t p.tt), (1, .t (.int fn)), (2, .t (.int s))] Z Z (fun w0 G F0 => ?_);refine sG (AV Z Z (AA Z) Z Z (nZ Z (AG tys Z Z (AA Z) Z Z Z (nZ Z (eZ Z (nB (sQ (sG (eZ Z ?_)))))))))
 try refine AB (Le.freeze (u := 8) rfl) ?_
 refine nZ Z (AL ?_);refine ⟨_, C0 p hp, rfl, ?_⟩;refine eK 2 Z ?_;refine gB (fun h1 => ?_) (fun h1 => ?_)
 ·
  simp only [HS] at h1;refine xK 2 Z (kZ [1,2,3,6,7,11,12,14] Z (xK 9 Z (kZ [1,2,3,6,7,20,21,23] Z (xK 9 Z (kZ [1,2,3,6,7,32] Z (nB (Af Z (sG (AI tys Z Z (AA Z) Z Z Z (by kernel_rfl) Z Z Z Z Z Z (sT Z (nZ Z (eZ Z (nB ?_)))))))))))))
  try (refine AN (Le.nilBox (u := 6) (j := 0) 4 rfl rfl) ?_; refine Ac rfl ?_)
  refine rT (tR (eR ?_))
  ·first
   | exact DH (by assumption) (by omega) (by rw [← funcAt_at (n := fn) (by omega)]; omega)
   | (refine EE ?_; unfold CN; rw [← Bool.not_eq_true]; simp only [Si, decide_eq_true_eq]; rintro ⟨g1, g2, g3⟩; first | omega | (simp_all; done) | (rw [← funcAt_at (n := fn) (by omega)] at g3; omega))
 simp only [HS] at h1;refine xK 2 Z (kZ [1,2,3,6,7,11,12,13] Z (xZ Z (gY Z (evE ?_))));refine gY Z (evI ?_);refine gY Z (AL ?_);refine ⟨_, Ar _ _ _, rfl, ?_⟩;refine xK 3 Z ?_;refine gB (fun h2 => ?_) (fun h2 => ?_)
 ·
  simp only [HS] at h2;refine xK 2 Z (kZ [1,2,3,6,7,20,21,23] Z (xK 9 Z (kZ [1,2,3,6,7,32] Z (nB (Af Z (sG (AI tys Z Z (AA Z) Z Z Z (by kernel_rfl) Z Z Z Z Z Z (sT Z (nZ Z (eZ Z (nB ?_)))))))))))
  try (refine AN (Le.nilBox (u := 6) (j := 0) 4 rfl rfl) ?_; refine Ac rfl ?_)
  refine rT (tR (eR ?_))
  ·first
   | exact DH (by assumption) (by omega) (by rw [← funcAt_at (n := fn) (by omega)]; omega)
   | (refine EE ?_; unfold CN; rw [← Bool.not_eq_true]; simp only [Si, decide_eq_true_eq]; rintro ⟨g1, g2, g3⟩; first | omega | (simp_all; done) | (rw [← funcAt_at (n := fn) (by omega)] at g3; omega))
 simp only [HS] at h2;refine xK 2 Z (kZ [1,2,3,6,7,20,21,22] Z (xK 2 Z (gY Z ?_)))
 have hso := (Bk hp (n := fn.toNat) (by omega)).2.1.1
 have hfa := funcAt_at (p := p) (n := fn) (by omega)
 refine iY (k := ?_);refine xK 2 Z (gY Z (evE ?_));refine gY Z (evI ?_);refine gY Z (AL ?_);refine ⟨_, Ar _ _ _, rfl, ?_⟩;refine xZ Z (kZ [1,2,3,6,7,20,31] Z (eZ Z (nB ?_)));refine AC Z (fun h3 => ?_) (fun h3 => ?_)
 ·
  simp only [HS] at h3;refine sG (AI tys Z Z (AA Z) Z Z Z (by kernel_rfl) Z Z Z Z Z Z (sT Z (nZ Z (eZ Z (nB ?_)))))
  try (refine AN (Le.nilBox (u := 6) (j := 0) 4 rfl rfl) ?_; refine Ac rfl ?_)
  refine rT (tR (eR ?_))
  ·first
   | (refine EE ?_; unfold CN; rw [← Bool.not_eq_true]; simp only [Si, decide_eq_true_eq]; rintro ⟨g1, g2, g3⟩; first | omega | (simp_all; done) | (rw [← funcAt_at (n := fn) (by omega)] at g3; omega))
 simp only [HS] at h3;refine AD (tN (sG (eZ Z ?_)))
 try refine AB (Le.freeze (u := 34) rfl) ?_
 refine nZ Z (eK 2 Z (AL ?_));refine ⟨_, HK p fn s hp (by assumption) (by omega) (by omega) (by omega) (by rw [← funcAt_at (n := fn) (by omega)]; omega), rfl, ?_⟩;refine sT Z (nZ Z (eZ Z (nB ?_)))
 try (refine AN (Le.nilBox (u := 6) (j := 0) 4 rfl rfl) ?_; refine Ac rfl ?_)
 refine rT (eR ?_)
 ·first
  | exact DH (by assumption) (by omega) (by rw [← funcAt_at (n := fn) (by omega)]; omega)
theorem It (p : Prog) (fn s : Int) (hp : p.ok 1048576) : Fun Tryz.prog 32 [.t p.tt, .t (.int fn), .t (.int s)] (Av [.agg [.own (T.Funcs (HT p fn s).funcs)], .t (.bool (CN p fn s))]) := by
 have hpl : p.funcs.length ≤ 1048576 := hp.1.1
 refine Fun.begin tys Tryz.func32 Z Z (N := 38) [(0, .t p.tt), (1, .t (.int fn)), (2, .t (.int s))] Z Z (fun w0 G F0 => ?_);refine sG (AV Z Z (AA Z) Z Z (nZ Z (AG tys Z Z (AA Z) Z Z Z (nZ Z (eZ Z (nB (sQ (sG (eZ Z ?_)))))))))
 try refine AB (Le.freeze (u := 8) rfl) ?_
 refine nZ Z (AL ?_);refine ⟨_, EA p hp, rfl, ?_⟩;refine eK 2 Z ?_;refine gB (fun h1 => ?_) (fun h1 => ?_)
 ·
  simp only [HS] at h1;refine xK 2 Z (kZ [1,2,3,6,7,11,12,14] Z (xK 9 Z (kZ [1,2,3,6,7,20,21,23] Z (xK 9 Z (kZ [1,2,3,6,7,32] Z (nB (Af Z (sG (AI tys Z Z (AA Z) Z Z Z (by kernel_rfl) Z Z Z Z Z Z (sT Z (nZ Z (eZ Z (nB ?_)))))))))))))
  try (refine AN (Le.nilBox (u := 6) (j := 0) 4 rfl rfl) ?_; refine Ac rfl ?_)
  refine rT (tR (eR ?_))
  ·first
   | exact DH (by assumption) (by omega) (by rw [← funcAt_at (n := fn) (by omega)]; omega)
   | (refine EE ?_; unfold CN; rw [← Bool.not_eq_true]; simp only [Si, decide_eq_true_eq]; rintro ⟨g1, g2, g3⟩; first | omega | (simp_all; done) | (rw [← funcAt_at (n := fn) (by omega)] at g3; omega))
 simp only [HS] at h1;refine xK 2 Z (kZ [1,2,3,6,7,11,12,13] Z (xZ Z (gY Z (evE ?_))));refine gY Z (evI ?_);refine gY Z (AL ?_);refine ⟨_, Ah _ _ _, rfl, ?_⟩;refine xK 3 Z ?_;refine gB (fun h2 => ?_) (fun h2 => ?_)
 ·
  simp only [HS] at h2;refine xK 2 Z (kZ [1,2,3,6,7,20,21,23] Z (xK 9 Z (kZ [1,2,3,6,7,32] Z (nB (Af Z (sG (AI tys Z Z (AA Z) Z Z Z (by kernel_rfl) Z Z Z Z Z Z (sT Z (nZ Z (eZ Z (nB ?_)))))))))))
  try (refine AN (Le.nilBox (u := 6) (j := 0) 4 rfl rfl) ?_; refine Ac rfl ?_)
  refine rT (tR (eR ?_))
  ·first
   | exact DH (by assumption) (by omega) (by rw [← funcAt_at (n := fn) (by omega)]; omega)
   | (refine EE ?_; unfold CN; rw [← Bool.not_eq_true]; simp only [Si, decide_eq_true_eq]; rintro ⟨g1, g2, g3⟩; first | omega | (simp_all; done) | (rw [← funcAt_at (n := fn) (by omega)] at g3; omega))
 simp only [HS] at h2;refine xK 2 Z (kZ [1,2,3,6,7,20,21,22] Z (xK 2 Z (gY Z ?_)))
 have hso := (Bk hp (n := fn.toNat) (by omega)).2.1.1
 refine iY (k := ?_);refine xK 2 Z (gY Z (evE ?_));refine gY Z (evI ?_);refine gY Z (AL ?_);refine ⟨_, Ah _ _ _, rfl, ?_⟩;refine xZ Z (kZ [1,2,3,6,7,20,31] Z (eZ Z (nB ?_)));refine AC Z (fun h3 => ?_) (fun h3 => ?_)
 ·
  simp only [HS] at h3;refine sG (AI tys Z Z (AA Z) Z Z Z (by kernel_rfl) Z Z Z Z Z Z (sT Z (nZ Z (eZ Z (nB ?_)))))
  try (refine AN (Le.nilBox (u := 6) (j := 0) 4 rfl rfl) ?_; refine Ac rfl ?_)
  refine rT (tR (eR ?_))
  ·first
   | (refine EE ?_; unfold CN; rw [← Bool.not_eq_true]; simp only [Si, decide_eq_true_eq]; rintro ⟨g1, g2, g3⟩; first | omega | (simp_all; done) | (rw [← funcAt_at (n := fn) (by omega)] at g3; omega))
 simp only [HS] at h3;refine AD (tN (sG (eZ Z ?_)))
 try refine AB (Le.freeze (u := 34) rfl) ?_
 refine nZ Z (eK 2 Z (AL ?_));refine ⟨_, KY p fn s hp (by assumption) (by omega) (by omega) (by omega) (by rw [← funcAt_at (n := fn) (by omega)]; omega), rfl, ?_⟩;refine sT Z (nZ Z (eZ Z (nB ?_)))
 try (refine AN (Le.nilBox (u := 6) (j := 0) 4 rfl rfl) ?_; refine Ac rfl ?_)
 refine rT (eR ?_)
 ·first
  | exact DH (by assumption) (by omega) (by rw [← funcAt_at (n := fn) (by omega)]; omega)
open Go.Eng
def rr (s : Int) (g : Nat) (n : Int) : Int := if n < s then n else n - g
def Hn (s : Int) (g : Nat) (x : Stmt) : Stmt := ⟨x.kind, x.n, x.ex, leftI s g x.thn, leftI s g x.els⟩
def FX (s : Int) (g : Nat) (l : List Stmt) : List Stmt := (l.take s.toNat ++ l.drop (s.toNat + g)).map (Hn s g)
theorem DE (s : Int) (g : Nat) (n : Int) (b : List Int) : leftI s g (n :: b) = (if n < s then [n] else if s + g ≤ n then [n - g] else []) ++ leftI s g b := rfl
theorem Dn (s : Int) (g : Nat) (a b : List Int) : leftI s g (a ++ b) = leftI s g a ++ leftI s g b := by unfold leftI; rw [Tc]
theorem leftI_mem {s : Int} {g : Nat} {b : List Int} {x : Int} : x ∈ leftI s g b ↔ ∃ n, n ∈ b ∧ (n < s ∨ s + g ≤ n) ∧ x = rr s g n := by
 unfold leftI;rw [TE]
 constructor
 ·rintro ⟨n, hn, hx⟩
  refine ⟨n, hn, ?_⟩;unfold rr;split at hx
  ·rename_i h; simp at hx; exact ⟨.inl h, by rw [if_pos h]; exact hx⟩
  ·rename_i h
   split at hx
   ·rename_i h2; simp at hx; exact ⟨.inr h2, by rw [if_neg h]; exact hx⟩
   ·simp at hx
 ·rintro ⟨n, hn, h, rfl⟩
  refine ⟨n, hn, ?_⟩;unfold rr
  by_cases hs : n < s
  ·rw [if_pos hs, if_pos hs]; simp
  ·rw [if_neg hs, if_neg hs, if_pos (by omega)]; simp
theorem MD {s : Int} {g : Nat} {b : List Int} {n : Int} (h : n < s ∨ s + g ≤ n) : leftI s g (n :: b) = rr s g n :: leftI s g b := by
 rw [DE];unfold rr
 by_cases hs : n < s
 ·rw [if_pos hs, if_pos hs]; rfl
 ·rw [if_neg hs, if_neg hs, if_pos (by omega)]; rfl
theorem Fn {s : Int} {g : Nat} : ∀ {b : List Int}, (∀ x, x ∈ b → s ≤ x ∧ x < s + g) → leftI s g b = []
 | [], _ => rfl
 | n :: b, h => by
  have h1 := h n (by simp)
  rw [DE, if_neg (by omega), if_neg (by omega), Fn fun x hx => h x (by simp [hx])];rfl
section
variable {f : Func} {s : Int} {g : Nat}
theorem El (h0 : 0 ≤ s) (h2 : s + g ≤ f.stmts.length) : (FX s g f.stmts).length + g = f.stmts.length := by
 unfold FX;simp only [Sj, Sk, Sm, TD];omega
theorem N6 {n : Int} (h0 : 0 ≤ s) (h : n < s ∨ s + g ≤ n) (hn0 : 0 ≤ n) (hn1 : n < f.stmts.length) (h2 : s + g ≤ f.stmts.length) : 0 ≤ rr s g n ∧ rr s g n < (FX s g f.stmts).length := by
 have := El (f := f) h0 h2
 unfold rr
 split <;> omega
theorem K6 {n : Int} (h0 : 0 ≤ s) (h : n < s ∨ s + g ≤ n) (hn0 : 0 ≤ n) (hn1 : n < f.stmts.length) (h2 : s + g ≤ f.stmts.length) : (FX s g f.stmts)[(rr s g n).toNat]? = some (Hn s g (f.stmts[n.toNat]'(by omega))) := by
 unfold FX rr;rw [List.getElem?_map]
 by_cases hs : n < s
 ·rw [if_pos hs, List.getElem?_append_left (by rw [Sm]; omega), List.getElem?_take_of_lt (by omega), List.getElem?_eq_getElem (by omega)]
  rfl
 ·rw [if_neg hs, List.getElem?_append_right (by rw [Sm]; omega), List.getElem?_drop, Sm, show s.toNat + g + ((n - g).toNat - min s.toNat f.stmts.length) = n.toNat from by omega, List.getElem?_eq_getElem (by omega)]
  rfl
theorem kidsZ {n : Int} (h0 : 0 ≤ s) (h : n < s ∨ s + g ≤ n) (hn0 : 0 ≤ n) (hn1 : n < f.stmts.length) (h2 : s + g ≤ f.stmts.length) : kids (FX s g f.stmts) (rr s g n) = (leftI s g (kids f.stmts n).1, leftI s g (kids f.stmts n).2) := by
 have h' := K6 h0 h hn0 hn1 h2
 rw [kids_at (l := f.stmts) (by omega)];unfold kids;rw [h'];rfl
theorem RO {m : Int} (h0 : 0 ≤ s) (h2 : s + g ≤ f.stmts.length) (hm0 : 0 ≤ m) (hm1 : m < (FX s g f.stmts).length) : ∃ n, (n < s ∨ s + g ≤ n) ∧ 0 ≤ n ∧ n < f.stmts.length ∧ rr s g n = m := by
 have hl := El (f := f) h0 h2
 by_cases h : m < s
 ·exact ⟨m, .inl h, hm0, by omega, by unfold rr; rw [if_pos h]⟩
 ·exact ⟨m + g, .inr (by omega), by omega, by omega, by unfold rr; rw [if_neg (by omega)]; omega⟩
theorem MH {i : Int} {b : List Int} (h0 : 0 ≤ s) (h2 : s + g ≤ f.stmts.length) (hi : 0 ≤ i) (hb : inB f.stmts.length i b) : inB (FX s g f.stmts).length 0 (leftI s g b) := fun x hx => by
 obtain ⟨n, hn, h, rfl⟩ := leftI_mem.1 hx
 have := hb n hn
 exact N6 h0 h (by omega) this.2 h2
theorem downZ (h0 : 0 ≤ s) (h2 : s + g ≤ f.stmts.length) (hd : BQ f.stmts.length (kids f.stmts)) : BQ (FX s g f.stmts).length (kids (FX s g f.stmts)) := by
 intro m hm0 hm1
 obtain ⟨n, hn, hn0, hn1, rfl⟩ := RO h0 h2 hm0 hm1
 rw [kidsZ h0 hn hn0 hn1 h2]
 have hk := hd n hn0 hn1
 have key : ∀ b, inB f.stmts.length (n + 1) b → inB (FX s g f.stmts).length (rr s g n + 1) (leftI s g b) := fun b hb x hx => by
  obtain ⟨y, hy, h, rfl⟩ := leftI_mem.1 hx
  have h3 := hb y hy
  have h4 := N6 (f := f) h0 h (by omega) h3.2 h2
  refine ⟨?_, h4.2⟩;unfold rr
  split <;> split <;> omega
 exact ⟨key _ hk.1, key _ hk.2⟩
theorem PE {l : List Int} {F : Int → List Int} {x n m : Int} (hn : n ∈ l) (hm : m ∈ l) (hne : n ≠ m) (h1 : x ∈ F n) (h2 : x ∈ F m) : 2 ≤ (l.flatMap F).count x := by
 induction l with
 | nil => simp at hn
 | cons y l ih =>
  rw [Sy, List.count_append]
  have pos : ∀ k, k ∈ l → x ∈ F k → 1 ≤ (l.flatMap F).count x := fun k hk hx => List.count_pos_iff.2 (TE.2 ⟨k, hk, hx⟩)
  rcases Su.1 hn with e | hn'
  ·subst e
   have hm' := (Su.1 hm).resolve_left (Ne.symm hne)
   have := pos m hm' h2
   have := List.count_pos_iff.2 h1
   omega
  ·rcases Su.1 hm with e | hm'
   ·subst e
    have := pos n hn' h1
    have := List.count_pos_iff.2 h2
    omega
   ·have := ih hn' hm'
    omega
theorem enter (hsh : Ao f = true) (h0 : 0 ≤ s) (h1 : s < f.stmts.length) (hg : g = CV f s) : (∀ n : Int, 0 ≤ n → n < f.stmts.length → (n < s ∨ s + g ≤ n) → ∀ x, x ∈ both (kids f.stmts) n → s ≤ x → x < s + g → x = s) ∧ ∀ x, x ∈ f.body → s ≤ x → x < s + g → x = s := by
 obtain ⟨hd, hb, ho⟩ := B8 hsh
 obtain ⟨g1, g2, g3⟩ := C1 hsh h0 h1
 rw [← hg] at g1 g3
 obtain ⟨o1, _, _⟩ := EY hd hb ho
 have hin1 : inB f.stmts.length 0 [s] := fun x hx => by rw [TB] at hx; subst hx; exact ⟨h0, h1⟩
 have par : ∀ x, s ≤ x → x < s + g → ¬ x = s → ∃ m, (s ≤ m ∧ m < s + g) ∧ x ∈ both (kids f.stmts) m := fun x hx1 hx2 hne => by
  have hc := G6 hd hin1 x
  have e : ord f.stmts.length (kids f.stmts) [s] = run s g := g1
  rw [e] at hc
  have hx : 1 ≤ (run s g).count x := List.count_pos_iff.2 (mem_run.2 ⟨hx1, hx2⟩)
  have hz : [s].count x = 0 := TZ (by simpa using hne)
  have hp : 0 < ((run s g).flatMap (both (kids f.stmts))).count x := by omega
  obtain ⟨m, hm, hxm⟩ := TE.1 (List.count_pos_iff.1 hp)
  exact ⟨m, mem_run.1 hm, hxm⟩
 refine ⟨fun n hn0 hn1 hn x hx hx1 hx2 => Classical.byContradiction fun hne => ?_, fun x hx hx1 hx2 => Classical.byContradiction fun hne => ?_⟩
 ·obtain ⟨m, hm, hxm⟩ := par x hx1 hx2 hne
  have h2 := o1 x (by omega) (by omega)
  unfold Nj at h2;rw [List.count_append] at h2
  have h3 := PE (l := DY f.stmts.length) (F := both (kids f.stmts)) (x := x) (n := n) (m := m) (mem_upto.2 ⟨hn0, hn1⟩) (mem_upto.2 ⟨by omega, by omega⟩) (by omega) hx hxm
  omega
 ·obtain ⟨m, hm, hxm⟩ := par x hx1 hx2 hne
  have h2 := o1 x (by omega) (by omega)
  unfold Nj at h2;rw [List.count_append] at h2
  have h3 : 1 ≤ f.body.count x := List.count_pos_iff.2 hx
  have h4 : 1 ≤ ((DY f.stmts.length).flatMap (both (kids f.stmts))).count x := List.count_pos_iff.2 (TE.2 ⟨m, mem_upto.2 ⟨by omega, by omega⟩, hxm⟩)
  omega
theorem MC (hsh : Ao f = true) (h0 : 0 ≤ s) (h1 : s < f.stmts.length) (hg : g = CV f s) {b : List Int} (hb : inB f.stmts.length 0 b) (hc : ∀ x, x ∈ b → s ≤ x → x < s + g → x = s) :
  leftI s g (ord f.stmts.length (kids f.stmts) b) = ord (FX s g f.stmts).length (kids (FX s g f.stmts)) (leftI s g b) := by
 obtain ⟨hd, hbo, ho⟩ := B8 hsh
 obtain ⟨g1, g2, g3⟩ := C1 hsh h0 h1
 rw [← hg] at g1 g2 g3
 have hcl := (enter hsh h0 h1 hg).1
 have hd' := downZ (f := f) (g := g) h0 g3 hd
 have g1' : ord f.stmts.length (kids f.stmts) [s] = run s g := g1
 refine D7 hd (p := fun b o => (∀ x, x ∈ b → s ≤ x → x < s + g → x = s) → leftI s g o = ord (FX s g f.stmts).length (kids (FX s g f.stmts)) (leftI s g b)) ?_ ?_ hb hc
 ·intro _
  rw [show leftI s g [] = [] from rfl, ord_nil]
 ·intro n b hn0 hn1 hb i1 i2 i3 hc
  have hcb := i3 fun x hx => hc x (by simp [hx])
  have hin1 : inB f.stmts.length 0 [n] := fun x hx => by rw [TB] at hx; subst hx; exact ⟨hn0, hn1⟩
  have hk := hd n hn0 hn1
  by_cases hs : n = s
  ·have e : n :: (ord f.stmts.length (kids f.stmts) (kids f.stmts n).1 ++ ord f.stmts.length (kids f.stmts) (kids f.stmts n).2) = run s g := by
    rw [← g1', ← hs, CD hd hin1, ord_nil, S9]
   rw [e, Dn, Fn (fun x hx => mem_run.1 hx), hcb, DE, if_neg (by omega), if_neg (by omega)];rfl
  ·have hng : n < s ∨ s + g ≤ n := by
    by_cases h : n < s ∨ s + g ≤ n
    ·exact h
    ·exact absurd (hc n (by simp) (by omega) (by omega)) hs
   have hcn := hcl n hn0 hn1 hng
   have e1 := i1 fun x hx => hcn x (Td _ hx)
   have e2 := i2 fun x hx => hcn x (Tj _ hx)
   have hr := N6 (f := f) h0 hng hn0 hn1 g3
   rw [TU, MD hng, Dn, Dn, e1, e2, hcb, MD hng, CD hd' (fun x hx => by
    rcases Su.1 hx with rfl | hx
    ·exact hr
    ·exact MH h0 g3 (by omega) hb x hx), kidsZ h0 hng hn0 hn1 g3, TU]
theorem OY (h0 : 0 ≤ s) (h2 : s + g ≤ f.stmts.length) : leftI s g (DY f.stmts.length) = DY (FX s g f.stmts).length := by
 have hl := El (f := f) h0 h2
 have e : run 0 f.stmts.length = run 0 s.toNat ++ (run s g ++ run (s + g) (f.stmts.length - s.toNat - g)) := by
  have a := Ib 0 s.toNat (g + (f.stmts.length - s.toNat - g))
  have b := Ib (0 + (s.toNat : Int)) g (f.stmts.length - s.toNat - g)
  rw [b, show s.toNat + (g + (f.stmts.length - s.toNat - g)) = f.stmts.length from by omega, show (0 : Int) + (s.toNat : Int) = s from by omega] at a;exact a
 have k1 : ∀ {l : List Int}, (∀ x, x ∈ l → x < s) → leftI s g l = l := by
  intro l
  induction l with
  | nil => intro _; rfl
  | cons y l ih => intro h; rw [DE, if_pos (h y (by simp)), ih fun x hx => h x (by simp [hx])]; rfl
 have k2 : ∀ {l : List Int}, (∀ x, x ∈ l → s + g ≤ x) → leftI s g l = l.map fun x : Int => x - (g : Int) := by
  intro l
  induction l with
  | nil => intro _; rfl
  | cons y l ih =>
   intro h
   have := h y (by simp)
   rw [DE, if_neg (by omega), if_pos this, ih fun x hx => h x (by simp [hx])]; rfl
 have k3 : ∀ (m : Int) (c : Nat), (run (m + g) c).map (fun x => x - (g : Int)) = run m c := fun m c => by
  unfold run;rw [List.map_map]
  refine Tn fun i _ => ?_
  show m + (g : Int) + (i : Int) - g = m + i;omega
 rw [IM, IM, e, Dn, Dn, Fn (fun x hx => mem_run.1 hx), k1 (fun x hx => by have := (mem_run.1 hx).2; omega), k2 (fun x hx => (mem_run.1 hx).1), k3, Th]
 have a := Ib 0 s.toNat (f.stmts.length - s.toNat - g)
 rw [show (0 : Int) + (s.toNat : Int) = s from by omega] at a;rw [← a]
 congr 1
 omega
theorem Ny (l : List Stmt) : ∀ k, (Am l k).length = (l.filter fun x => decide (x.kind = 3)).length := by
 induction l with
 | nil => intro k; rfl
 | cons x l ih =>
  intro k;rw [Am, List.filter_cons];split
  ·rename_i h; rw [if_pos (by simpa using h)]; simp [ih]
  ·rename_i h; rw [if_neg (by simpa using h)]; exact ih _
theorem Mh {vars : Int} {ps : List Int} {x : Stmt} (h : BM vars ps x = true) : BM vars ps (Hn s g x) = true := by
 have h1 := KA s g x.thn
 have h2 := KA s g x.els
 have e : CQ (Hn s g x) ≤ CQ x ∧ 0 ≤ CQ (Hn s g x) := by unfold CQ Hn; dsimp only; omega
 have e2 : ((Hn s g x).els.length : Int) ≤ x.els.length := by show ((leftI s g x.els).length : Int) ≤ _; omega
 have k1 : (Hn s g x).kind = x.kind := rfl
 have k2 : (Hn s g x).n = x.n := rfl
 have k3 : (Hn s g x).ex = x.ex := rfl
 unfold BM Ap at h ⊢;rw [k1, k2, k3]
 grind
def M1 (s : Int) (g : Nat) (f : Func) : Func := ⟨f.params, f.vars, leftI s g f.body, FX s g f.stmts⟩
theorem ND {ps : List Int} (hgf : CA ps f = true) (h0 : 0 ≤ s) (h1 : s < f.stmts.length) (hg : g = CV f s) : CA ps (M1 s g f) = true := by
 have hsh := Bj hgf
 obtain ⟨hd, hb, ho⟩ := B8 hsh
 obtain ⟨g1, g2, g3⟩ := C1 hsh h0 h1
 rw [← hg] at g1 g2 g3
 have hl := El (f := f) h0 g3
 have hen := enter hsh h0 h1 hg
 have hd' := downZ (f := f) (g := g) h0 g3 hd
 unfold CA;rw [Si]
 constructor
 ·have hsh' := hsh
  unfold Ao at hsh' ⊢;simp only [Si] at hsh' ⊢
  obtain ⟨s1, s2, s3, s4⟩ := hsh'
  refine ⟨?_, ?_, ?_, ?_⟩
  ·unfold E3 at s1 ⊢
   simp only [Si, decide_eq_true_eq] at s1 ⊢;refine ⟨s1.1, s1.2.1, ?_⟩;show ((FX s g f.stmts).length : Int) ≤ 16;omega
  ·unfold LB at s2 ⊢
   rw [decide_eq_true_eq] at s2 ⊢;rw [Ny] at s2 ⊢
   have hf : ((FX s g f.stmts).filter fun x => decide (x.kind = 3)).length = ((f.stmts.take s.toNat ++ f.stmts.drop (s.toNat + g)).filter fun x => decide (x.kind = 3)).length := by
    unfold FX;rw [List.filter_map, Sj];rfl
   have hq : ((f.stmts.take s.toNat ++ f.stmts.drop (s.toNat + g)).filter fun x => decide (x.kind = 3)).length ≤ (f.stmts.filter fun x => decide (x.kind = 3)).length := by
    refine List.Sublist.length_le (List.Sublist.filter _ ?_)
    have e : f.stmts = f.stmts.take s.toNat ++ (((f.stmts.drop s.toNat).take g) ++ f.stmts.drop (s.toNat + g)) := by
     rw [show f.stmts.drop (s.toNat + g) = (f.stmts.drop s.toNat).drop g from by rw [List.drop_drop], TH, TH]
    conv => rhs; rw [e]
    exact List.Sublist.append_left (List.sublist_append_right _ _) _
   show (((FX s g f.stmts).filter fun x => decide (x.kind = 3)).length : Int) ≤ 4;rw [hf];omega
  ·rw [shapeB_iff]
   refine ⟨hd', MH h0 g3 (Te 0) hb, ?_⟩;show ord (FX s g f.stmts).length (kids (FX s g f.stmts)) (leftI s g f.body) = DY (FX s g f.stmts).length;rw [← MC hsh h0 h1 hg hb hen.2, ho, OY h0 g3]
  ·unfold Ht at s4 ⊢
   rw [Sp] at s4 ⊢;intro x hx
   have hx' : x ∈ FX s g f.stmts := hx
   obtain ⟨i, hi, rfl⟩ := TF hx'
   obtain ⟨n, hn, hn0, hn1, hr⟩ := RO (f := f) (m := (i : Int)) h0 g3 (by omega) (by omega)
   have hat := K6 (f := f) h0 hn hn0 hn1 g3
   rw [hr, show ((i : Int)).toNat = i from rfl, List.getElem?_eq_getElem hi] at hat;rw [Option.some.inj hat]
   have h4 := s4 _ (Ss (show n.toNat < f.stmts.length by omega))
   unfold C5 at h4 ⊢;show (if (f.stmts[n.toNat]'(by omega)).kind = 8 then Jz (M1 s g f) (leftI s g (f.stmts[n.toNat]'(by omega)).thn) else true) = true;split
   ·rename_i hk
    rw [if_pos hk] at h4;unfold Jz at h4 ⊢;rw [Sp] at h4 ⊢
    have hkd := hd n hn0 hn1
    have ekn : (kids f.stmts n).1 = (f.stmts[n.toNat]'(by omega)).thn := by rw [kids_at (by omega)]
    have e : Al (M1 s g f) (leftI s g (f.stmts[n.toNat]'(by omega)).thn) = leftI s g (Al f (f.stmts[n.toNat]'(by omega)).thn) := by
     rw [← ekn];exact (MC hsh h0 h1 hg (Au hkd.1 (by omega)) (fun x hx => hen.1 n hn0 hn1 hn x (Td _ hx))).symm
    rw [e];intro y hy
    obtain ⟨m, hm, hmn, rfl⟩ := leftI_mem.1 hy
    have hr2 : inB f.stmts.length 0 (Al f (f.stmts[n.toNat]'(by omega)).thn) := by
     rw [← ekn]; exact Di hd (Au hkd.1 (by omega))
    have hm2 := hr2 m hm
    have h5 := h4 m hm
    have e3 : GF (M1 s g f) (rr s g m) = GF f m := by
     unfold GF;show (match (FX s g f.stmts)[(rr s g m).toNat]? with | some s => s.kind | none => 0) = _;rw [K6 h0 hmn hm2.1 hm2.2 g3, List.getElem?_eq_getElem (by omega)];rfl
    rw [e3];exact h5
   ·rfl
 ·rw [Sp]
  intro x hx
  have hx' : x ∈ FX s g f.stmts := hx
  unfold FX at hx'
  obtain ⟨y, hy, rfl⟩ := TM.1 hx'
  have hyf : y ∈ f.stmts := by
   rcases So.1 hy with h | h
   ·exact TC h
   ·exact TG h
  unfold CA at hgf;rw [Si, Sp] at hgf;exact Mh (hgf.2 y hyf)
end
theorem OZ {f : Func} {s : Int} (hsh : Ao f = true) (h0 : 0 ≤ s) (h1 : s < f.stmts.length) : leftF (Al f [s]) f = M1 s (CV f s) f := by
 obtain ⟨g1, g2, g3⟩ := C1 hsh h0 h1
 rw [g1, KB f h0];rfl
theorem MX {p : Prog} {fn s : Int} {k : Nat} (hk : k < p.funcs.length) : (B6 p fn s).funcs[k]'(by rw [DI]; exact hk) = if (k : Int) = fn then leftF (Al (p.funcs[k]) [s]) (p.funcs[k]) else p.funcs[k] := by
 have e : funcAt p (k : Int) = p.funcs[k] := (funcAt_at (n := (k : Int)) (by omega)).symm
 unfold B6;rw [List.getElem_map, List.getElem_range, e];unfold Fo;split
 ·rw [e]
 ·exact KC _
theorem EC {p : Prog} {fn s : Int} (hg : AZ p = true) (hf0 : 0 ≤ fn) (hf1 : fn < p.funcs.length) (hs0 : 0 ≤ s) (hs1 : s < (funcAt p fn).stmts.length) : AZ (B6 p fn s) = true := by
 have hpa : paramsL (B6 p fn s) = paramsL p := by
  refine List.ext_getElem (by rw [A9, A9, DI]) fun k h1 h2 => ?_
  rw [A9] at h2
  have a1 : (paramsL (B6 p fn s))[k] = ((B6 p fn s).funcs[k]'(by rw [DI]; exact h2)).params := List.getElem_map ..
  have a2 : (paramsL p)[k]'(by rw [A9]; exact h2) = (p.funcs[k]).params := List.getElem_map ..
  rw [a1, a2, MX h2]
  split <;> rfl
 have hg' := hg
 unfold AZ at hg ⊢;simp only [Si, decide_eq_true_eq] at hg ⊢;rw [hpa, DI];refine ⟨hg.1, hg.2.1, hg.2.2.1, ?_⟩;rw [Sp];intro x hx
 obtain ⟨k, hk, rfl⟩ := TF hx
 have hk' := hk
 rw [DI] at hk';rw [MX hk']
 have hgf := CE hg' hk'
 split
 ·rename_i e
  have hfe : funcAt p fn = p.funcs[k] := by rw [← e]; exact (funcAt_at (n := (k : Int)) (by omega)).symm
  rw [hfe] at hs1;rw [OZ (Bj hgf) hs0 hs1];exact ND hgf hs0 hs1 rfl
 ·exact hgf
open Go.Eng
theorem Qr (gone : List Int) (s : Stmt) : FI (GQ gone s) ≤ FI s := by
 have h1 := Cn gone s.thn
 have h2 := Cn gone s.els
 show 1 + 1 + ctL PC s.ex + ((Ct gone s.thn).length : Int) + ((Ct gone s.els).length : Int) ≤ 1 + 1 + ctL PC s.ex + (s.thn.length : Int) + (s.els.length : Int);omega
theorem LW {α β : Type} {ct : β → Int} {f g : α → β} : ∀ {l : List α}, (∀ x, x ∈ l → ct (f x) ≤ ct (g x)) → ctL ct (l.map f) ≤ ctL ct (l.map g)
 | [], _ => Te _
 | x :: l, h => by
  have h1 := h x (by simp)
  have h2 := LW (l := l) (f := f) (g := g) (ct := ct) fun y hy => h y (by simp [hy])
  unfold ctL at *;simp only [S8, List.sum_cons];omega
theorem Qu (gone : List Int) (f : Func) : Kb (leftF gone f) ≤ Kb f := by
 have h1 := Cn gone f.body
 have h2 := LW (ct := FI) (f := GQ gone) (g := id) (l := BW (B5 gone) 0 f.stmts) fun x _ => Qr gone x
 rw [List.map_id] at h2
 obtain ⟨R, hR⟩ := Fg (B5 gone) 0 f.stmts
 have h3 := Qs FI hR
 rw [Qt] at h3
 have h4 := PD NM R
 show 1 + 1 + ((Ct gone f.body).length : Int) + ctL FI ((BW (B5 gone) 0 f.stmts).map (GQ gone)) ≤ 1 + 1 + (f.body.length : Int) + ctL FI f.stmts;omega
theorem QR (gone : List Int) {B : Nat} {f : Func} (h : f.ok B) : (leftF gone f).ok B := by
 have hl := Ex (B5 gone) 0 f.stmts
 refine ⟨TL (Cn gone f.body) h.1, ⟨by show ((BW (B5 gone) 0 f.stmts).map (GQ gone)).length ≤ B; rw [Sj]; exact TL hl h.2.1.1, fun s hs => ?_⟩, trivial⟩
 obtain ⟨s', hs', rfl⟩ := TM.1 hs
 obtain ⟨R, hR⟩ := Fg (B5 gone) 0 f.stmts
 have := h.2.1.2 s' (hR.mem_iff.2 (Td _ hs'))
 exact ⟨this.1, TL (Cn gone s'.thn) this.2.1, TL (Cn gone s'.els) this.2.2.1, trivial⟩
theorem E2 {p : Prog} {B : Nat} (hp : p.ok B) (fn s : Int) : (B6 p fn s).ok B := by
 refine ⟨⟨by rw [DI]; exact hp.1.1, fun f hf => ?_⟩, trivial⟩
 obtain ⟨k, hk, rfl⟩ := TM.1 hf
 have hk := TJ.1 hk
 rw [← funcAt_at (n := (k : Int)) (by omega)];exact QR _ (hp.1.2 _ (Ss _))
end Go.Proofs.YtddfnpiikkilhaaGreat
