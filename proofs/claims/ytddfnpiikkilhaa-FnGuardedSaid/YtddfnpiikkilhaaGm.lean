/- Walks and laws of the claim. -/
import Derived.Test.YtddfnpiikkilhaaGb
import Derived.Test.YtddfnpiikkilhaaFa
import Derived.Test.YtddfnpiikkilhaaMb
import Derived.Test.YtddfnpiikkilhaaMd
import Derived.Test.YtddfnpiikkilhaaMc
import Derived.Test.YtddfnpiikkilhaaUj
import Derived.Test.YtddfnpiikkilhaaIc
import Derived.Test.YtddfnpiikkilhaaMe
set_option linter.unusedVariables false
set_option linter.unusedSimpArgs false
set_option maxRecDepth 10000
set_option maxHeartbeats 4000000
namespace Go.Proofs.Ytddfnpiikkilhaa
open Go.Eng
open Go.Eng
theorem E1 (l : List Int) (hl : l.length ≤ 1073741824) : Fun Try.prog 82 [.t (T.ints l)] (A5 [.own (T.ints l)]) := by
 refine Fun.begin tys Try.func82 Z Z (N := 8) [(0, .t (T.ints l))] Z Z (fun w0 G F0 => ?_);refine sG (eZ Z (nB (sQ (sG (eZ Z ?_)))));refine Ks (e := 3) Z Z (AA Z) Z (by kernel_rfl) Z Z (fun b hb => ?_);refine nB ?_;refine AD Z (fun h1 => ?_) (fun h1 => ?_)
 ·
  refine sG (eZ Z (nB (AU (Le.nilOwn (u := 2) 1 Z) (rT (tR (eR ?_))))))
  ·have e := List.map_eq_nil_iff.1 (hb h1)
   rw [e];rfl
 refine AE (tN (sG (bZ [] ?_)));refine nZ Z (eZ Z (AJ tys Z Z (AA Z) Z Z Z Z Z (.own Z (by first | omega | (simp only [Qg]; omega))) Z (.read (MU _)) (by decide) (by simp; omega) (by decide) Z ?_));refine nZ Z (eZ Z (nB (AU (Le.gather (u := 2) (id := 5) Z Z (by simp)) ?_)));refine rT (eR ?_)
 ·show [D.own (.list 1 _)] = [D.own (.list 1 _)]
  simp only [Qt, List.nil_append, Qh];rw [Qi (by simp)]
theorem Ps (l : List Tok) : ∀ x, x ∈ l.map Tok.tt → (T.cells x).length = 2 ∧ ∀ y, y ∈ T.cells x → ∃ v, y = .v v := by
 intro x hx
 obtain ⟨t, _, rfl⟩ := RA.1 hx
 refine ⟨rfl, fun y hy => ?_⟩
 have : T.cells (Tok.tt t) = [T.int t.op, T.int t.n] := rfl
 rw [this] at hy
 rcases Qp.1 hy with rfl | hy
 ·exact ⟨_, rfl⟩
 ·rw [Q5] at hy; exact ⟨_, hy⟩
theorem Ir (l : List Tok) (hl : l.length ≤ 1073741824) : Fun Try.prog 83 [.t (T.Toks l)] (A5 [.own (T.Toks l)]) := by
 refine Fun.begin tys Try.func83 Z Z (N := 8) [(0, .t (T.Toks l))] Z Z (fun w0 G F0 => ?_);refine sG (eZ Z (nB (sQ (sG (eZ Z ?_)))));refine Ks (e := 69) Z Z (AA Z) Z (by kernel_rfl) Z Z (fun b hb => ?_);refine nB ?_;refine AD Z (fun h1 => ?_) (fun h1 => ?_)
 ·
  refine sG (eZ Z (nB (AU (Le.nilOwn (u := 2) 2 Z) (rT (tR (eR ?_))))))
  ·have e := List.map_eq_nil_iff.1 (hb h1)
   rw [e];rfl
 refine AE (tN (sG (bZ [] ?_)));refine nZ Z (eZ Z (AJ tys Z Z (AA Z) Z Z Z Z Z (.own Z (by first | omega | (simp only [Qg]; omega))) Z (.read (Ps _)) (by decide) (by simp; omega) (by decide) Z ?_));refine nZ Z (eZ Z (nB (AU (Le.gather (u := 2) (id := 5) Z Z (by simp)) ?_)));refine rT (eR ?_)
 ·show [D.own (.list 2 _)] = [D.own (.list 2 _)]
  simp only [Qt, List.nil_append, Qh];rw [Qi (by simp)]
theorem HH (p : Prog) (hp : p.ok 1048576) : Fun Try.prog 48 [.t p.tt] (A5 [.agg [.own (T.Funcs p.funcs)]]) := by
  have hpl : p.funcs.length ≤ 1048576 := hp.1.1
  refine Fun.begin tys Try.func48 Z Z (N := 59) [(0, .t p.tt)] Z Z (fun w0 G F0 => ?_);refine sG (Af Z Z (AA Z) Z Z (nZ Z (AH tys Z Z (AA Z) Z Z Z (nZ Z (nA (AH tys Z Z (AA Z) Z Z Z (nZ Z (nB (sQ (sG (nZ Z (AC (Le.nilBox (u := 3) (j := 0) 4 Z Z) (nZ Z (AC (Le.adoptBox (u := 3) (j := 0) (id := 190) Z Z Z) (nZ Z ?_)))))))))))))));refine eK 2 Z (evE ?_);refine eZ Z (nB (AF ?_));refine lK (α := Int × Nat × List T) [2, 3, 10, 11] [2] (fun x => [(12, .t (.int (x.1)))]) (fun x => [(3, .box [.sl 190 0 (x.2.1)]), (190, .L 4 (x.2.2))]) (fun x => 0 ≤ (x.1) ∧ (x.1) ≤ p.funcs.length ∧ (x.2.1) = (x.2.2).length ∧ (x.2.2) = (p.funcs.take (x.1).toNat).map Func.tt) (fun x => Int.toNat (p.funcs.length - (x.1))) (0, 0, []) ?_ (fun x hx => ?_)
  · exact ⟨by omega, by omega, rfl, rfl⟩
  obtain ⟨k, m, xs⟩ := x
  obtain ⟨hk0, hk1, hm, hxs⟩ := hx
  dsimp only at hk0 hk1 hm hxs ⊢;refine nY Z (sG (eZ Z (nB (sQ ?_))));refine AD Z (fun h1 => ?_) (fun h1 => ?_)
  ·
    simp only [HS] at h1;refine AE (tN (sQ (AF (sG ?_))));refine iY (k := ?_)
    have hf := DG hp (n := k.toNat) (by omega)
    have hl : (p.funcs[k.toNat]'(by omega)).stmts.length ≤ 1048576 := hf.2.1.1
    have hbl : (p.funcs[k.toNat]'(by omega)).body.length ≤ 1048576 := hf.1
    refine eZ Z ?_
    try refine AC (Le.freeze (u := 15) rfl) ?_
    refine nZ Z (AH tys Z Z (AA Z) Z Z Z (nZ Z (sT Z (nZ Z (nB (sQ (C0 9 A9 Z (by kernel_rfl) (by kernel_rfl) (QG_ev tys Z Z (AA Z) Z (DI Z ?_)))))))))
    iterate 5 (refine QG_ev tys rfl rfl (AA rfl) rfl ?_)
    refine FD ?_;refine ⟨_, E1 _ (by omega), rfl, ?_⟩;refine DI Z (Eh tys Z Z (AA Z) Z Z Z (by kernel_rfl) Z Z Z Z Z Z (HZ tys Z Z (AA Z) Z Z Z Z (AI ?_)));refine ⟨by kernel_rfl, ?_⟩;refine nZ Z (sT Z (nZ Z (nB (sQ (sG (nZ Z (AC (Le.nilBox (u := 6) (j := 3) 5 Z Z) (nZ Z (AC (Le.adoptBox (u := 6) (j := 3) (id := 180) Z Z Z) (nZ Z (eK 2 Z (evE ?_))))))))))));refine eZ Z (nB (AF ?_));refine lK (α := Int × Nat × List T) [2, 3, 6, 10, 11, 12, 25, 26] [2, 3, 190] (fun x => [(27, .t (.int (x.1)))]) (fun x => [(6, .box [.t (T.int (p.funcs[k.toNat]'(by omega)).params), .t (T.int (p.funcs[k.toNat]'(by omega)).vars), .own (T.ints (p.funcs[k.toNat]'(by omega)).body), .sl 180 0 (x.2.1)]), (180, .L 5 (x.2.2))]) (fun x => 0 ≤ (x.1) ∧ (x.1) ≤ (p.funcs[k.toNat]'(by omega)).stmts.length ∧ (x.2.1) = (x.2.2).length ∧ (x.2.2) = ((p.funcs[k.toNat]'(by omega)).stmts.take (x.1).toNat).map Stmt.tt) (fun x => Int.toNat ((p.funcs[k.toNat]'(by omega)).stmts.length - (x.1))) (0, 0, []) ?_ (fun x hx => ?_)
    · exact ⟨by omega, by omega, rfl, rfl⟩
    obtain ⟨j, m2, ys⟩ := x
    obtain ⟨hj0, hj1, hm2, hys⟩ := hx
    dsimp only at hj0 hj1 hm2 hys ⊢;refine nY Z (sG (eZ Z (nB (sQ ?_))));refine AD Z (fun h2 => ?_) (fun h2 => ?_)
    ·
      simp only [HS] at h2;refine AE (tN (sQ (AF (sG ?_))));refine iY (k := ?_)
      have hso := CM hf (n := j.toNat) (by omega)
      refine eZ Z ?_
      try refine AC (Le.freeze (u := 30) rfl) ?_
      refine nZ Z (AH tys Z Z (AA Z) Z Z Z (nZ Z (sT Z (nZ Z (nB (C0 17 A9 Z (by kernel_rfl) (by kernel_rfl) (QG_ev tys Z Z (AA Z) Z (DI Z ?_))))))))
      iterate 6 (refine QG_ev tys rfl rfl (AA rfl) rfl ?_)
      refine DI Z (QG_ev tys Z Z (AA Z) Z (FD ?_));refine ⟨_, Ir _ (by omega), rfl, ?_⟩;refine QG_ev tys Z Z (AA Z) Z (QG_ev tys Z Z (AA Z) Z (FD ?_));refine ⟨_, E1 _ (by omega), rfl, ?_⟩;refine QG_ev tys Z Z (AA Z) Z (DI Z (QG_ev tys Z Z (AA Z) Z (FD ?_)));refine ⟨_, E1 _ (by omega), rfl, ?_⟩;refine Eh tys Z Z (AA Z) Z Z Z (by kernel_rfl) Z Z Z Z Z Z ?_;refine Dc tys [(((p.funcs[k.toNat]'(by omega)).stmts)[j.toNat]'(by omega)).tt] Z Z (AA Z) Z Z Z Z Z (AA Z) (by repeat (first | exact PartsOk.nil' | refine PartsOk.cons' rfl (by repeat (first | exact AbsL.nil' | refine AbsL.v' ?_ | refine AbsL.own' ?_ | refine AbsL.none' ?_)) Z ?_)) Z Z Z (by decide) ?_;refine AI ?_;refine ⟨by kernel_rfl, ?_⟩;refine nZ Z (AC (Le.adoptE (u := 47) 47 Z Z) (nZ Z (AJ tys Z Z (AA Z) Z Z Z Z Z (.own Z (by first | omega | (simp only [Qg]; omega))) Z (.own Z (by first | decide | omega)) (by decide) (by simp only [Qo, Qk, List.length_nil]; rw [hys, Qh, Qo]; omega) (by decide) Z ?_)));refine nZ Z (eZ Z (sT Z (nZ Z (oN (bN (tN (rG (evI ?_))))))));refine eZ Z (oN ?_);refine lQ (_, _, _) ?_ ?_
      · dsimp only
        subst hm2;refine ⟨by omega, by omega, by simp, ?_⟩;rw [Qt, hys, CD hj0 (by omega), Q8]
        all_goals rfl
      · (show Int.toNat _ < Int.toNat _); omega
    simp only [HS] at h2;refine AV (tE (AP (AO (tN (rG (eK 2 Z (nZ Z (AC (Le.gatherBox (u := 6) (j := 3) (id := 180) Z Z Z (by omega) Z) (nZ Z (Ak tys Z Z (AA Z) Z Z Z Z Z Z (nZ Z (bZ [.agg [T.int (p.funcs[k.toNat]'(by omega)).params, T.int (p.funcs[k.toNat]'(by omega)).vars, T.ints (p.funcs[k.toNat]'(by omega)).body, .list 5 (ys.take m2)]] ?_))))))))))));refine nZ Z (AJ tys Z Z (AA Z) Z Z Z Z Z (.own Z (by first | omega | (simp only [Qg]; omega))) Z (.own Z (by first | decide | omega)) (by decide) (by simp only [Qo, Qk, List.length_nil]; rw [hxs, Qh, Qo]; omega) (by decide) Z ?_);refine nZ Z (eZ Z (sT Z (nZ Z (oN (bN (tN (kY [2,3,6,10,11,12,25,26,27,28,51,52,53,54,55,56] Z (rG (evI ?_)))))))));refine eZ Z (oN ?_);refine lQ (_, _, _) ?_ ?_
    · dsimp only
      have e : (p.funcs[k.toNat]'(by omega)).tt = .agg [T.int (p.funcs[k.toNat]'(by omega)).params, T.int (p.funcs[k.toNat]'(by omega)).vars, T.ints (p.funcs[k.toNat]'(by omega)).body, .list 5 (ys.take m2)] := by
       rw [hm2, Qt, hys, BW (l := (p.funcs[k.toNat]'(by omega)).stmts) (k := j) (by omega)]
       all_goals rfl
      subst hm;refine ⟨by omega, by omega, by simp, ?_⟩;rw [Qt, hxs, CD hk0 (by omega), Q8, Q4, List.map_nil, e]
      all_goals rfl
    · (show Int.toNat _ < Int.toNat _); omega
  simp only [HS] at h1;refine AV (tE (AP (AO (tN (sG (nZ Z (AC (Le.gatherBox (u := 3) (j := 0) (id := 190) Z Z Z (by omega) Z) (nZ Z (Ak tys Z Z (AA Z) Z Z Z Z Z Z (nZ Z (sT Z (nZ Z (nB (rT (eR ?_)))))))))))))))
  · rw [hm, Qt, hxs, BW (by omega)]
    all_goals rfl
open Go.Eng
def run (m : Int) (g : Nat) : List Int := (List.range g).map fun i : Nat => m + i
theorem Gz (m : Int) (g : Nat) : (run m g).length = g := by simp [run]
theorem J3 (m : Int) (g : Nat) : run m (g + 1) = run m g ++ [m + g] := by simp [run, List.range_succ]
theorem mem_run {m x : Int} {g : Nat} : x ∈ run m g ↔ m ≤ x ∧ x < m + g := by
 simp only [run, RA, RI]
 constructor
 ·rintro ⟨i, hi, rfl⟩; omega
 ·intro h; exact ⟨(x - m).toNat, by omega, by omega⟩
theorem Pp (m : Int) (g h : Nat) : run m (g + h) = run m g ++ run (m + g) h := by
 induction h with
 | zero => simp [run]
 | succ h ih => rw [← Nat.add_assoc, J3, ih, J3, Qz]; congr 3; simp; omega
theorem ML {m : Int} {g : Nat} {a b : List Int} (h : run m g = a ++ b) : a = run m a.length ∧ b = run (m + a.length) b.length := by
 have hl := congrArg List.length h
 rw [Gz, Qg] at hl;rw [hl, Pp] at h;exact ⟨(List.append_inj_left h (by rw [Gz])).symm, (List.append_inj_right h (by rw [Gz])).symm⟩
theorem Nw (N : Nat) : DM N = run 0 N := by simp [DM, run]
theorem OU {N : Int} {kids : Int → List Int × List Int} (hd : Ba N kids) {b : List Int} (hb : inB N 0 b) (m : Int) (hm : m ∈ ord N kids b) : ∃ l r, ord N kids b = l ++ ord N kids [m] ++ r :=
 EO hd (p := fun b o => m ∈ o → ∃ l r, o = l ++ ord N kids [m] ++ r) (fun h => by cases h) (fun n b h1 h2 _ i1 i2 i3 hm => by
  simp only [RT, Qp, Qj] at hm ⊢
  rcases hm with rfl | (hm | hm) | hm
  ·refine ⟨[], ord N kids b, ?_⟩
   rw [Di hd (by intro x hx; rw [Q5] at hx; subst hx; exact ⟨h1, h2⟩), DT]
   simp
  ·obtain ⟨l, r, e⟩ := i1 hm; exact ⟨n :: l, r ++ (ord N kids (kids n).2 ++ ord N kids b), by rw [e]; simp⟩
  ·obtain ⟨l, r, e⟩ := i2 hm; exact ⟨n :: (ord N kids (kids n).1 ++ l), r ++ ord N kids b, by rw [e]; simp⟩
  ·obtain ⟨l, r, e⟩ := i3 hm; exact ⟨n :: (ord N kids (kids n).1 ++ (ord N kids (kids n).2 ++ l)), r, by rw [e]; simp⟩) hb hm
theorem Gf {f : Func} (h : Ae f = true) : Ba f.stmts.length (kids f.stmts) ∧ inB f.stmts.length 0 f.body ∧ ord f.stmts.length (kids f.stmts) f.body = DM f.stmts.length := by
 unfold Ae at h;simp only [Qf] at h;exact shapeB_iff.1 h.2.2.1
def GV (f : Func) (s : Int) : Nat := (BF f [s]).length
theorem Ol {f : Func} (h : Ae f = true) {s : Int} (h0 : 0 ≤ s) (h1 : s < f.stmts.length) : BF f [s] = run s (GV f s) ∧ 1 ≤ GV f s ∧ s + GV f s ≤ f.stmts.length := by
 obtain ⟨hd, hb, ho⟩ := Gf h
 have hm : s ∈ ord f.stmts.length (kids f.stmts) f.body := by rw [ho]; exact mem_upto.2 ⟨h0, h1⟩
 obtain ⟨l, r, e⟩ := OU hd hb s hm
 rw [ho, Nw, Qz] at e
 have hs : BF f [s] = s :: (BF f (kids f.stmts s).1 ++ BF f (kids f.stmts s).2) := by
  unfold BF;rw [Di hd (by intro x hx; rw [Q5] at hx; subst hx; exact ⟨h0, h1⟩), DT]
  simp
 have hl := congrArg List.length e
 rw [Gz, Qg, Qg] at hl
 obtain ⟨e1, e2⟩ := ML e
 obtain ⟨e3, e4⟩ := ML e2.symm
 have e5 : BF f [s] = run (0 + (l.length : Int)) (GV f s) := e3
 have hg : 1 ≤ GV f s := by unfold GV; rw [hs]; simp
 have e6 : s = 0 + (l.length : Int) := by
  have h2 : (BF f [s]).head? = some s := by rw [hs]; rfl
  rw [e5] at h2
  obtain ⟨g, hg'⟩ : ∃ g, GV f s = g + 1 := ⟨GV f s - 1, by omega⟩
  rw [hg'] at h2
  simp [run, List.range_succ_eq_map] at h2
  omega
 rw [← e6] at e5;refine ⟨e5, hg, ?_⟩
 have : (ord (f.stmts.length : Int) (kids f.stmts) [s]).length = GV f s := rfl
 omega
open Go.Eng
theorem Iu (l : List Func) : ∀ x, x ∈ l.map Func.tt → (T.cells x).length = 4 := by
 intro x hx; obtain ⟨t, _, rfl⟩ := RA.1 hx; rfl
theorem It (l : List Stmt) : ∀ x, x ∈ l.map Stmt.tt → (T.cells x).length = 5 := by
 intro x hx; obtain ⟨t, _, rfl⟩ := RA.1 hx; rfl
theorem Km (l : List Tok) : ∀ x, x ∈ l.map Tok.tt → (T.cells x).length = 2 := by
 intro x hx; obtain ⟨t, _, rfl⟩ := RA.1 hx; rfl
def flF (to : List Int) (l : List Func) (k : Nat) : List T := ((mixL (movF to) l k).map Func.tt).flatMap T.cells
def flS (to : List Int) (l : List Stmt) (k : Nat) : List T := ((mixL (movS to) l k).map Stmt.tt).flatMap T.cells
def flT (to : List Int) (l : List Tok) (k : Nat) : List T := ((mixL (movT to) l k).map Tok.tt).flatMap T.cells
theorem M4 (to : List Int) (l : List Func) (k : Nat) : (flF to l k).length = l.length * 4 := by rw [flF, AX (Iu _), Qh, DC]
theorem M3 (to : List Int) (l : List Stmt) (k : Nat) : (flS to l k).length = l.length * 5 := by rw [flS, AX (It _), Qh, DC]
theorem P8 (to : List Int) (l : List Tok) (k : Nat) : (flT to l k).length = l.length * 2 := by rw [flT, AX (Km _), Qh, DC]
theorem JU {α β : Type} {f : α → β} {l : List α} {k : Nat} {x : α} (h : l[k]? = some x) : (l.map f)[k]? = some (f x) := by rw [List.getElem?_map, h]; rfl
theorem flF_at (to : List Int) (l : List Func) {k : Nat} (h : k < l.length) {j : Nat} (hj : j < 4) : (flF to l k)[k * 4 + j]? = (T.cells (l[k]).tt)[j]? := Dn (Iu _) (JU (D8 _ _ h)) hj
theorem Ii (to : List Int) (l : List Stmt) {k : Nat} (h : k < l.length) {j : Nat} (hj : j < 5) : (flS to l k)[k * 5 + j]? = (T.cells (l[k]).tt)[j]? := Dn (It _) (JU (D8 _ _ h)) hj
theorem M2 (to : List Int) (l : List Tok) {k : Nat} (h : k < l.length) {j : Nat} (hj : j < 2) : (flT to l k)[k * 2 + j]? = (T.cells (l[k]).tt)[j]? := Dn (Km _) (JU (D8 _ _ h)) hj
theorem Oq (to : List Int) (l : List Func) {k : Nat} (h : k < l.length) : (flF to l k).set (k * 4 + 3) (T.Stmts ((l[k]).stmts.map (movS to))) = flF to l (k + 1) := by
 unfold flF;rw [← FO _ _ h, List.map_set];exact CA (Iu _) (JU (D8 _ _ h)) (by decide) rfl
theorem Oo (to : List Int) (l : List Stmt) {k : Nat} (h : k < l.length) : ((flS to l k).set (k * 5 + 1) (T.int (movN to l[k]))).set (k * 5 + 2) (T.Toks ((l[k]).ex.map (movT to))) = flS to l (k + 1) := by
 unfold flS;rw [← FO _ _ h, List.map_set]
 have h1 := CA (It (mixL (movS to) l k)) (JU (D8 _ _ h)) (j := 1) (y := .agg [T.int (l[k]).kind, T.int (movN to l[k]), T.Toks (l[k]).ex, T.ints (l[k]).thn, T.ints (l[k]).els]) (t := T.int (movN to l[k])) (by decide) rfl
 rw [h1]
 have hw : ∀ x, x ∈ ((mixL (movS to) l k).map Stmt.tt).set k (.agg [T.int (l[k]).kind, T.int (movN to l[k]), T.Toks (l[k]).ex, T.ints (l[k]).thn, T.ints (l[k]).els]) → (T.cells x).length = 5 := by
  intro x hx
  rcases RU hx with hx | rfl
  ·exact It _ x hx
  ·rfl
 have hk : k < ((mixL (movS to) l k).map Stmt.tt).length := by rw [Qh, DC]; exact h
 rw [CA hw (x := .agg [T.int (l[k]).kind, T.int (movN to l[k]), T.Toks (l[k]).ex, T.ints (l[k]).thn, T.ints (l[k]).els]) (y := (movS to l[k]).tt) (List.getElem?_set_self hk) (by decide) rfl, List.set_set]
theorem On (to : List Int) (l : List Tok) {k : Nat} (h : k < l.length) (h11 : (l[k]).op = 11) : (flT to l k).set (k * 2 + 1) (T.int (atI to (l[k]).n)) = flT to l (k + 1) := by
 unfold flT;rw [← FO _ _ h, List.map_set];exact CA (Km _) (JU (D8 _ _ h)) (by decide) (by rw [movT, if_pos h11]; rfl)
theorem Om (to : List Int) (l : List Tok) {k : Nat} (h : k < l.length) (h11 : ¬ (l[k]).op = 11) : flT to l k = flT to l (k + 1) := by
 unfold flT;rw [← FO _ _ h, List.map_set, movT, if_neg h11]
 congr 1
 exact (J1 (JU (D8 _ _ h))).symm
theorem K7 (p : Prog) (to : List Int) (hp : p.ok 1048576) (hs : ∀ f, f ∈ p.funcs → ∀ x, x ∈ OC f.stmts → 0 ≤ x ∧ x < to.length) (ht : to.length ≤ 1048576) : WriteF Try.prog 49 ([T.Funcs p.funcs]) (.t (T.ints to)) none ([T.Funcs (p.funcs.map (movF to))]) := by
  have hpl : p.funcs.length ≤ 1048576 := hp.1.1
  refine WriteF.intro Try.func49 Z Z (N := 62) Z (fun vs hvs w0 G F0 => ?_)
  obtain ⟨a0, rfl⟩ : ∃ a0, vs = [a0] := by
    match vs, hvs with
    | [a0], _ => exact ⟨_, rfl⟩
  refine NT (sG (Af Z Z (AA Z) Z Z (Aj Z (nA (eK 2 Z (Aj Z ?_))))));refine Dv (id := 62) (j := 0) (id2 := 101) (n := 4) (u := a0) (xs := p.funcs.map Func.tt) Z Z Z Z Z (fun e ad b cap ws hu hb he hlc hcm hn => ?_);rw [Qh] at hu hlc;subst hu;refine Aj Z (Js Z Z (AA Z) Z ⟨72, by kernel_rfl⟩ rfl (eZ Z (nB (AF ?_))));refine lK (α := Int × List T) [1, 11, 12] [62] (fun x => [(13, .t (.int (x.1)))]) (fun x => [(101, rb e b (cap * 4) ws (x.2))]) (fun x => 0 ≤ (x.1) ∧ (x.1) ≤ p.funcs.length ∧ (x.2) = flF to p.funcs (x.1).toNat) (fun x => Int.toNat (p.funcs.length - (x.1))) (0, flF to p.funcs 0) ?_ (fun x hx => ?_)
  · exact ⟨by omega, by omega, rfl⟩
  obtain ⟨k, ts1⟩ := x
  obtain ⟨hk0, hk1, hts1⟩ := hx
  dsimp only at hk0 hk1 hts1 ⊢;refine HQ Z (sG (eZ Z (nB (sQ ?_))));refine AD Z (fun h1 => ?_) (fun h1 => ?_)
  ·
    simp only [HS] at h1;refine AE (tN (sQ (AF (sG ?_))))
    have hkl : k.toNat < p.funcs.length := by omega
    have he0 : e = false := by cases e with | false => rfl | true => have := congrArg List.length (he rfl); rw [Qh, List.length_nil] at this; omega
    subst he0
    obtain rfl : ad = some ⟨b, 0, none⟩ := hb rfl
    have hf := DG hp (n := k.toNat) hkl
    have hsf := hs _ (Qr hkl)
    have hsl : (p.funcs[k.toNat]).stmts.length ≤ 1048576 := hf.2.1.1
    refine HT tys Z Z (AA Z) Z Z Z Z Z Z (by omega) (by omega) ?_;refine GG 101 Z Z (fun hl1 => ?_);refine GH (id := 101) (off := k.toNat * 4) (m := 4) tys Z Z (AA Z) Z Z Z Z Z Z (by rw [hl1, hts1, M4]; omega) (fun us hus1 hus2 => ?_)
    obtain ⟨c0, c1, c2, c3, rfl⟩ : ∃ c0 c1 c2 c3, us = [c0, c1, c2, c3] := by
     match us, hus1 with
     | [c0, c1, c2, c3], _ => exact ⟨_, _, _, _, rfl⟩
    refine Aj Z (AH tys Z Z (AA Z) Z Z Z (Aj Z (sT Z (Aj Z (nA (eK 2 Z (Aj Z ?_)))))));refine Dv (id := 101) (j := k.toNat * 4 + 3) (id2 := 102) (n := 5) (u := c3) (xs := (p.funcs[k.toNat]).stmts.map Stmt.tt) Z Z (hus2 3 (by decide)) (by rw [hts1, flF_at to p.funcs hkl (by decide)]; rfl) Z (fun e2 ad2 b2 cap2 ws2 hu2 hb2 he2 hlc2 hcm2 hn2 => ?_);rw [Qh] at hu2 hlc2;subst hu2;refine Aj Z (Js Z Z (AA Z) Z ⟨62, by kernel_rfl⟩ rfl (eZ Z (PC [1, 5, 11, 12, 13, 14, 15, 16, 17, 18, 19, 20] Z (nB (AF ?_)))));refine lK (α := Int × List Value × List T) [1, 5, 11, 12, 13, 18, 19] [62, 101, 5] (fun x => [(20, .t (.int (x.1)))]) (fun x => [(102, rb e2 b2 (cap2 * 5) (x.2.1) (x.2.2))]) (fun x => 0 ≤ (x.1) ∧ (x.1) ≤ (p.funcs[k.toNat]).stmts.length ∧ (x.2.2) = flS to (p.funcs[k.toNat]).stmts (x.1).toNat) (fun x => Int.toNat ((p.funcs[k.toNat]).stmts.length - (x.1))) (0, ws2, flS to (p.funcs[k.toNat]).stmts 0) ?_ (fun x hx => ?_)
    · exact ⟨by omega, by omega, rfl⟩
    obtain ⟨j, w2, t2⟩ := x
    obtain ⟨hj0, hj1, ht2⟩ := hx
    dsimp only at hj0 hj1 ht2 ⊢;refine HQ Z (sG (eZ Z (nB (sQ ?_))));refine AD Z (fun h2 => ?_) (fun h2 => ?_)
    ·
      simp only [HS] at h2;refine AE (tN (sQ (AF (sG ?_))))
      have hjl : j.toNat < (p.funcs[k.toNat]).stmts.length := by omega
      have he0 : e2 = false := by cases e2 with | false => rfl | true => have := congrArg List.length (he2 rfl); rw [Qh, List.length_nil] at this; omega
      subst he0
      obtain rfl : ad2 = some ⟨b2, 0, none⟩ := hb2 rfl
      have hso := CM hf (n := j.toNat) hjl
      refine eZ Z (HT tys Z Z (AA Z) Z Z Z Z Z Z (by omega) (by omega) ?_);refine GG 102 Z Z (fun hl2 => ?_);refine GH (id := 102) (off := j.toNat * 5) (m := 5) tys Z Z (AA Z) Z Z Z Z Z Z (by rw [hl2, ht2, M3]; omega) (fun us hus1 hus3 => ?_)
      obtain ⟨d0, d1, d2, d3, d4, rfl⟩ : ∃ d0 d1 d2 d3 d4, us = [d0, d1, d2, d3, d4] := by
       match us, hus1 with
       | [d0, d1, d2, d3, d4], _ => exact ⟨_, _, _, _, _, rfl⟩
      refine HR 102 (j.toNat * 5 + 0) Z Z (x := .int .i64 ((p.funcs[k.toNat]).stmts[j.toNat]).kind) (by rw [ht2, Ii to _ hjl (by decide)]; rfl) (hus3 0 (by decide)) (fun hd0 => ?_);refine HR 102 (j.toNat * 5 + 1) Z Z (x := .int .i64 ((p.funcs[k.toNat]).stmts[j.toNat]).n) (by rw [ht2, Ii to _ hjl (by decide)]; rfl) (hus3 1 (by decide)) (fun hd1 => ?_);subst hd0 hd1;refine Aj Z (AH tys Z Z (AA Z) Z Z Z (Aj Z (eZ Z (sT Z (Aj Z (nB (sQ (sQ (Jo [1, 5, 6, 7, 11, 12, 13, 18, 19, 20, 21, 22, 23, 24] Z (rG (eK 3 Z (nB ?_))))))))))));refine A1 (α := List Value × List T) [1, 5, 6, 7, 11, 12, 13, 18, 19, 20, 21, 22, 23, 24, 25, 26, 27] [62, 101, 5, 7] (fun x => []) (fun x => [(102, .raw b2 (cap2 * 5) (x.1) (x.2))]) (fun x => (x.2) = t2.set (j.toNat * 5 + 1) (T.int (movN to (p.funcs[k.toNat]).stmts[j.toNat])) ∧ (x.1)[j.toNat * 5 + 2]? = some d2) ?_ (fun x hx => ?_)
      ·
        refine AD Z (fun h3 => ?_) (fun h3 => ?_)
        ·
          simp only [HS] at h3;refine B4 10 A9 Z (by kernel_rfl) (by kernel_rfl) ?_
          have hn := ME hsf hjl (by assumption)
          refine evQ ?_;refine evQ ?_;refine evQ ?_;refine FZ Z (evQ ?_);refine evQ ?_;refine evQ ?_;refine A3 tys Z Z (AA Z) Z Z Z Z Z Z Z (by omega) _ (EE _ _ (by omega) (by omega)) (evQ ?_);refine Ng tys Z Z (AA Z) Z Z Z Z Z Z (by omega) (by omega) (FZ Z (I8 tys Z Z (AA Z) Z Z Z Z Z (BE (I0 (off := j.toNat * 5 + 1) tys (id := 102) Z Z Z Z Z Z Z (u0 := .int .i64 ((p.funcs[k.toNat]).stmts[j.toNat]).n) (by rw [ht2, Ii to _ hjl (by decide)]; rfl) Z Z Z ?_))));refine Aj Z (oN (jQ (_, _) ?_));dsimp only
          first
          | (rw [movN, if_pos (by assumption), BL hn.1 hn.2]; refine ⟨rfl, ?_⟩; rw [List.getElem?_set_ne (by omega)]; exact hus3 2 (by decide))
        simp only [HS] at h3;refine AE (jQ (_, _) ?_);dsimp only
        first
        | (refine ⟨?_, hus3 2 (by decide)⟩; rw [movN, if_neg (by assumption)]; exact (J1 (by rw [ht2, Ii to _ hjl (by decide)]; rfl)).symm)
      obtain ⟨w3, t3⟩ := x
      obtain ⟨ht3, hw3⟩ := hx
      dsimp only at ht3 hw3 ⊢;refine tN (sQ (Jo [1, 5, 6, 7, 11, 12, 13, 18, 19, 20, 21, 22, 23, 24, 25, 26, 27] Z (rG (eK 2 Z (Aj Z ?_)))));refine Dv (id := 102) (j := j.toNat * 5 + 2) (id2 := 103) (n := 2) (u := d2) (xs := ((p.funcs[k.toNat]).stmts[j.toNat]).ex.map Tok.tt) Z Z hw3 (by rw [ht3, List.getElem?_set_ne (by omega), ht2, Ii to _ hjl (by decide)]; rfl) Z (fun e3 ad3 b3 cap3 ws3 hu3 hb3 he3 hlc3 hcm3 hn3 => ?_);rw [Qh] at hu3 hlc3;subst hu3;refine Aj Z (Js Z Z (AA Z) Z ⟨69, by kernel_rfl⟩ rfl (eZ Z (nB (AF ?_))));refine lK (α := Int × List Value × List T) [1, 5, 7, 11, 12, 13, 18, 19, 20, 39, 40] [62, 101, 102, 5, 7] (fun x => [(41, .t (.int (x.1)))]) (fun x => [(103, rb e3 b3 (cap3 * 2) (x.2.1) (x.2.2))]) (fun x => 0 ≤ (x.1) ∧ (x.1) ≤ ((p.funcs[k.toNat]).stmts[j.toNat]).ex.length ∧ (x.2.2) = flT to ((p.funcs[k.toNat]).stmts[j.toNat]).ex (x.1).toNat) (fun x => Int.toNat (((p.funcs[k.toNat]).stmts[j.toNat]).ex.length - (x.1))) (0, ws3, flT to ((p.funcs[k.toNat]).stmts[j.toNat]).ex 0) ?_ (fun x hx => ?_)
      · exact ⟨by omega, by omega, rfl⟩
      obtain ⟨i, w4, t4⟩ := x
      obtain ⟨hi0, hi1, ht4⟩ := hx
      dsimp only at hi0 hi1 ht4 ⊢;refine HQ Z (sG (eZ Z (nB (sQ ?_))));refine AD Z (fun h3 => ?_) (fun h3 => ?_)
      ·
        simp only [HS] at h3;refine AE (tN (sQ (AF (sG ?_))))
        have hil : i.toNat < ((p.funcs[k.toNat]).stmts[j.toNat]).ex.length := by omega
        have he0 : e3 = false := by cases e3 with | false => rfl | true => have := congrArg List.length (he3 rfl); rw [Qh, List.length_nil] at this; omega
        subst he0
        obtain rfl : ad3 = some ⟨b3, 0, none⟩ := hb3 rfl
        refine eZ Z (HT tys Z Z (AA Z) Z Z Z Z Z Z (by omega) (by omega) ?_);refine GG 103 Z Z (fun hl3 => ?_);refine GH (id := 103) (off := i.toNat * 2) (m := 2) tys Z Z (AA Z) Z Z Z Z Z Z (by rw [hl3, ht4, P8]; omega) (fun us hus1 hus4 => ?_)
        obtain ⟨f0, f1, rfl⟩ : ∃ f0 f1, us = [f0, f1] := by
         match us, hus1 with
         | [f0, f1], _ => exact ⟨_, _, rfl⟩
        refine HR 103 (i.toNat * 2 + 0) Z Z (x := .int .i64 (((p.funcs[k.toNat]).stmts[j.toNat]).ex[i.toNat]).op) (by rw [ht4, M2 to _ hil (by decide)]; rfl) (hus4 0 (by decide)) (fun hd0 => ?_);refine HR 103 (i.toNat * 2 + 1) Z Z (x := .int .i64 (((p.funcs[k.toNat]).stmts[j.toNat]).ex[i.toNat]).n) (by rw [ht4, M2 to _ hil (by decide)]; rfl) (hus4 1 (by decide)) (fun hd1 => ?_);subst hd0 hd1;refine Aj Z (AH tys Z Z (AA Z) Z Z Z (Aj Z (eZ Z (sT Z (Aj Z (nB (sQ (Jo [1, 5, 7, 8, 9, 11, 12, 13, 18, 19, 20, 39, 40, 41, 42, 43, 44, 45] Z (rG (eK 3 Z (nB ?_)))))))))));refine AD Z (fun h4 => ?_) (fun h4 => ?_)
        ·
          simp only [HS] at h4;refine B4 10 A9 Z (by kernel_rfl) (by kernel_rfl) ?_
          have hm := MD hsf hjl hil (by assumption)
          refine evQ ?_;refine evQ ?_;refine evQ ?_;refine FZ Z (evQ ?_);refine evQ ?_;refine evQ ?_;refine A3 tys Z Z (AA Z) Z Z Z Z Z Z Z (by omega) _ (EE _ _ (by omega) (by omega)) (evQ ?_);refine Ng tys Z Z (AA Z) Z Z Z Z Z Z (by omega) (by omega) (FZ Z (I8 tys Z Z (AA Z) Z Z Z Z Z (BE (I0 (off := i.toNat * 2 + 1) tys (id := 103) Z Z Z Z Z Z Z (u0 := .int .i64 (((p.funcs[k.toNat]).stmts[j.toNat]).ex[i.toNat]).n) (by rw [ht4, M2 to _ hil (by decide)]; rfl) Z Z Z ?_))));refine Aj Z (oN (bN (tN (rG (evI ?_)))));refine eZ Z (oN ?_);refine lQ (_, _, _) ?_ ?_
          · dsimp only
            refine ⟨by omega, by omega, ?_⟩;rw [ht4, show (i + 1).toNat = i.toNat + 1 from by omega]
            first
            | (refine Eq.trans ?_ (On to _ hil (by assumption)); rw [BL hm.1 hm.2]; done)
          · (show Int.toNat _ < Int.toNat _); omega
        simp only [HS] at h4;refine AE (bN (tN (rG (evI ?_))));refine eZ Z (oN ?_);refine lQ (_, _, _) ?_ ?_
        · dsimp only
          refine ⟨by omega, by omega, ?_⟩;rw [ht4, show (i + 1).toNat = i.toNat + 1 from by omega]
          first
          | exact Om to _ hil (by assumption)
        · (show Int.toNat _ < Int.toNat _); omega
      simp only [HS] at h3;refine AV (tE (AP (AO (bN (tN (rG ?_))))))
      have e4 : t4 = ((((p.funcs[k.toNat]).stmts[j.toNat]).ex.map (movT to)).map Tok.tt).flatMap T.cells := by rw [ht4, flT, G6 _ _ (by omega)]
      subst e4;refine Aj Z ?_;refine AC (Le.implode (id := 102) (id2 := 103) (j := j.toNat * 5 + 2) (n := 2) (e := e3) (b := b3) (cap := cap3) (ad := ad3) (len := ((p.funcs[k.toNat]).stmts[j.toNat]).ex.length) (u := .slice ad3 ((p.funcs[k.toNat]).stmts[j.toNat]).ex.length cap3) (ys := (((p.funcs[k.toNat]).stmts[j.toNat]).ex.map (movT to)).map Tok.tt) Z Z hw3 (List.getElem?_set_self (by rw [ht3, RQ, ht2, M3]; omega)) Z Z hb3 (fun h => by rw [List.map_eq_nil_iff.1 (he3 h)]; rfl) (by simp) hlc3 hcm3 (Km _) Z) ?_;refine Aj Z (evI ?_);refine eZ Z (oN ?_);refine lQ (_, _, _) ?_ ?_
      · dsimp only
        refine ⟨by omega, by omega, ?_⟩;rw [ht3, ht2, List.set_set, show (j + 1).toNat = j.toNat + 1 from by omega];exact Oo to _ (by omega)
      · (show Int.toNat _ < Int.toNat _); omega
    simp only [HS] at h2;refine AV (tE (AP (AO (bN (tN (rG ?_))))))
    have e2' : t2 = (((p.funcs[k.toNat]).stmts.map (movS to)).map Stmt.tt).flatMap T.cells := by rw [ht2, flS, G6 _ _ (by omega)]
    subst e2';refine Aj Z ?_;refine AC (Le.implode (id := 101) (id2 := 102) (j := k.toNat * 4 + 3) (n := 5) (e := e2) (b := b2) (cap := cap2) (ad := ad2) (len := (p.funcs[k.toNat]).stmts.length) (u := .slice ad2 (p.funcs[k.toNat]).stmts.length cap2) (ys := ((p.funcs[k.toNat]).stmts.map (movS to)).map Stmt.tt) Z Z (hus2 3 (by decide)) (List.getElem?_set_self (by rw [hts1, M4]; omega)) Z Z hb2 (fun h => by rw [List.map_eq_nil_iff.1 (he2 h)]; rfl) (by simp) hlc2 hcm2 (It _) Z) ?_;refine Aj Z (evI ?_);refine eZ Z (oN ?_);refine lQ (_, _) ?_ ?_
    · dsimp only
      refine ⟨by omega, by omega, ?_⟩;rw [hts1, List.set_set, show (k + 1).toNat = k.toNat + 1 from by omega];exact Oq to p.funcs (by omega)
    · (show Int.toNat _ < Int.toNat _); omega
  simp only [HS] at h1;refine AV (tE (AP (AO ?_)))
  have e1 : ts1 = ((p.funcs.map (movF to)).map Func.tt).flatMap T.cells := by rw [hts1, flF, G6 _ _ (by omega)]
  subst e1;refine ⟨_, Le.implode (id := 62) (id2 := 101) (j := 0) (n := 4) (e := e) (b := b) (cap := cap) (ad := ad) (len := p.funcs.length) (u := .slice ad p.funcs.length cap) (ys := (p.funcs.map (movF to)).map Func.tt) Z Z Z Z Z Z hb (fun h => by rw [List.map_eq_nil_iff.1 (he h)]; rfl) (by simp) hlc hcm (Iu _) rfl, JB (.inl Z) Z Z rfl⟩
open Go.Eng
theorem O7 {l : List Int} {lo hi : Int} (h : ∀ x, x ∈ l → lo ≤ x ∧ x ≤ hi) : CK l lo hi = true := by
 unfold CK;rw [Qn];intro x hx
 simpa using h x hx
theorem Ex {p : Prog} (hg : Au p = true) {to : List Int} (hl : to.length = p.funcs.length) : ∀ f, f ∈ p.funcs → ∀ x, x ∈ OC f.stmts → 0 ≤ x ∧ x < to.length := by
 intro f hf x hx
 obtain ⟨n, hn, rfl⟩ := RC hf
 have := MG (CG hg hn) x hx
 rw [hl]
 have e : (paramsL p).length = p.funcs.length := by unfold paramsL; simp
 omega
theorem Fun.arg0 {P : Program} {f : FuncId} {x y : T} {ds : List D} {r : D} (h : Fun P f (.t y :: ds) r) (e : x = y) : Fun P f (.t x :: ds) r := by rw [e]; exact h
def CY (C : List (Func × List Value)) : List T := C.map fun c => .agg (c.2.map T.v)
theorem De (C : List (Func × List Value)) : (CY C).flatMap T.cells = (C.flatMap (·.2)).map T.v := by
 unfold CY; rw [List.flatMap_map, List.map_flatMap]; rfl
theorem C8 {C : List (Func × List Value)} (h : ∀ c, c ∈ C → c.2.length = 4) : ∀ y, y ∈ CY C → (T.cells y).length = 4 := by
 intro y hy
 obtain ⟨c, hc, rfl⟩ := RA.1 hy
 show (c.2.map T.v).length = 4;rw [Qh, h c hc]
open Go.Eng
theorem Px (to : List Int) {B : Nat} {f : Func} (h : f.ok B) : (movF to f).ok B := by
 refine ⟨h.1, ⟨by show (f.stmts.map (movS to)).length ≤ B; rw [Qh]; exact h.2.1.1, fun s hs => ?_⟩, trivial⟩
 obtain ⟨s', hs', rfl⟩ := RA.1 hs
 have := h.2.1.2 s' hs'
 exact ⟨by show (s'.ex.map (movT to)).length ≤ B; rw [Qh]; exact this.1, this.2.1, this.2.2.1, trivial⟩
open Go.Eng
section
variable {f : Func} {s : Int} {g : Nat}
theorem ND {l : List Int} {F : Int → List Int} {x n m : Int} (hn : n ∈ l) (hm : m ∈ l) (hne : n ≠ m) (h1 : x ∈ F n) (h2 : x ∈ F m) : 2 ≤ (l.flatMap F).count x := by
 induction l with
 | nil => simp at hn
 | cons y l ih =>
  rw [Q0, List.count_append]
  have pos : ∀ k, k ∈ l → x ∈ F k → 1 ≤ (l.flatMap F).count x := fun k hk hx => List.count_pos_iff.2 (Q7.2 ⟨k, hk, hx⟩)
  rcases Qp.1 hn with e | hn'
  ·subst e
   have hm' := (Qp.1 hm).resolve_left (Ne.symm hne)
   have := pos m hm' h2
   have := List.count_pos_iff.2 h1
   omega
  ·rcases Qp.1 hm with e | hm'
   ·subst e
    have := pos n hn' h1
    have := List.count_pos_iff.2 h2
    omega
   ·have := ih hn' hm'
    omega
theorem enter (hsh : Ae f = true) (h0 : 0 ≤ s) (h1 : s < f.stmts.length) (hg : g = GV f s) : (∀ n : Int, 0 ≤ n → n < f.stmts.length → (n < s ∨ s + g ≤ n) → ∀ x, x ∈ Hd (kids f.stmts) n → s ≤ x → x < s + g → x = s) ∧ ∀ x, x ∈ f.body → s ≤ x → x < s + g → x = s := by
 obtain ⟨hd, hb, ho⟩ := Gf hsh
 obtain ⟨g1, g2, g3⟩ := Ol hsh h0 h1
 rw [← hg] at g1 g3
 obtain ⟨o1, _, _⟩ := D7 hd hb ho
 have hin1 : inB f.stmts.length 0 [s] := fun x hx => by rw [Q5] at hx; subst hx; exact ⟨h0, h1⟩
 have par : ∀ x, s ≤ x → x < s + g → ¬ x = s → ∃ m, (s ≤ m ∧ m < s + g) ∧ x ∈ Hd (kids f.stmts) m := fun x hx1 hx2 hne => by
  have hc := Fp hd hin1 x
  have e : ord f.stmts.length (kids f.stmts) [s] = run s g := g1
  rw [e] at hc
  have hx : 1 ≤ (run s g).count x := List.count_pos_iff.2 (mem_run.2 ⟨hx1, hx2⟩)
  have hz : [s].count x = 0 := RM (by simpa using hne)
  have hp : 0 < ((run s g).flatMap (Hd (kids f.stmts))).count x := by omega
  obtain ⟨m, hm, hxm⟩ := Q7.1 (List.count_pos_iff.1 hp)
  exact ⟨m, mem_run.1 hm, hxm⟩
 refine ⟨fun n hn0 hn1 hn x hx hx1 hx2 => Classical.byContradiction fun hne => ?_, fun x hx hx1 hx2 => Classical.byContradiction fun hne => ?_⟩
 ·obtain ⟨m, hm, hxm⟩ := par x hx1 hx2 hne
  have h2 := o1 x (by omega) (by omega)
  unfold Lr at h2;rw [List.count_append] at h2
  have h3 := ND (l := DM f.stmts.length) (F := Hd (kids f.stmts)) (x := x) (n := n) (m := m) (mem_upto.2 ⟨hn0, hn1⟩) (mem_upto.2 ⟨by omega, by omega⟩) (by omega) hx hxm
  omega
 ·obtain ⟨m, hm, hxm⟩ := par x hx1 hx2 hne
  have h2 := o1 x (by omega) (by omega)
  unfold Lr at h2;rw [List.count_append] at h2
  have h3 : 1 ≤ f.body.count x := List.count_pos_iff.2 hx
  have h4 : 1 ≤ ((DM f.stmts.length).flatMap (Hd (kids f.stmts))).count x := List.count_pos_iff.2 (Q7.2 ⟨m, mem_upto.2 ⟨by omega, by omega⟩, hxm⟩)
  omega
end
open Go.Eng
structure Ou where
 code : Int
 value : Int
 trace : List Int
 used : Int
def DR (p : Prog) (inp : List Int) (most fuel : Nat) : Bool := Cg p inp most && decide (fuel ≤ 600)
def outP (p : Prog) (inp : List Int) (most fuel : Nat) : Ou := ⟨(Co p inp most fuel).1, PP (Co p inp most fuel).1 (Co p inp most fuel).2.1, (Co p inp most fuel).2.2.2.trace, (Co p inp most fuel).2.2.2.used⟩
def DL (p : Prog) (inp : List Int) (most fuel : Nat) : Ou := if DR p inp most fuel = true then outP p inp most fuel else ⟨0, 0, [], 0⟩
def Ou.dd (o : Ou) : D := .agg [.t (.int o.code), .t (.int o.value), .own (T.ints o.trace), .t (.int o.used)]
theorem NN {p : Prog} {inp : List Int} {most : Int} (h : Cg p inp most = true) : Au p = true := by
 unfold Cg at h;simp only [Qf] at h;exact h.1
theorem Pv {p : Prog} {inp : List Int} {most fuel : Nat} (h : DR p inp most fuel = true) : [D.agg [.t (T.v (.int .i64 (Co p inp most fuel).1)), .t (T.v (.int .i64 (PP (Co p inp most fuel).1 (Co p inp most fuel).2.1))), .own (T.ints (Co p inp most fuel).2.2.2.trace), .t (T.v (.int .i64 (Co p inp most fuel).2.2.2.used))], D.t (T.v (.bool true))] = [(DL p inp most fuel).dd, D.t (T.bool (DR p inp most fuel))] := by
 rw [DL, h]; rfl
theorem PO {p : Prog} {inp : List Int} {most fuel : Nat} (h : DR p inp most fuel = false) : [D.agg [.t (T.v (.int .i64 0)), .t (T.v (.int .i64 0)), .own (T.list 1 []), .t (T.v (.int .i64 0))], D.t (T.v (.bool false))] = [(DL p inp most fuel).dd, D.t (T.bool (DR p inp most fuel))] := by
 rw [DL, h]; rfl
theorem EB (p : Prog) (inp : List Int) (most fuel : Nat) (hp : p.ok 1048576) (hi : inp.length ≤ 1048576) (hm : most ≤ 1048576) (hf : fuel ≤ 1048576) : Fun Try.prog 8 [.t p.tt, .t (T.ints inp), .t (.int most), .t (.int fuel)] (A5 [(DL p inp most fuel).dd, .t (.bool (DR p inp most fuel))]) := by
 refine Fun.begin tys Try.func8 Z Z (N := 26) [(0, .t p.tt), (1, .t (T.ints inp)), (2, .t (.int most)), (3, .t (.int fuel))] Z Z (fun w0 G F0 => ?_);refine sG (Af Z Z (AA Z) Z Z (nZ Z (AH tys Z Z (AA Z) Z Z Z (nZ Z (eZ Z (nB (sQ (sG (eZ Z ?_)))))))))
 try refine AC (Le.freeze (u := 10) rfl) ?_
 refine nZ Z (eK 2 Z (AQ ?_));refine ⟨_, Lc p inp most hp hi, rfl, ?_⟩;refine eK 2 Z (kZ [1,2,3,4,8,9,15] Z ?_);refine gB (fun h1 => ?_) (fun h1 => ?_)
 ·
  simp only [HS] at h1;refine xK 3 Z (nB (AY Z (sG (AG tys Z Z (AA Z) Z Z Z (by kernel_rfl) Z Z Z Z Z Z (sT Z (nZ Z (eZ Z (nB ?_))))))))
  try (refine AU (Le.nilBox (u := 8) (j := 2) 1 rfl rfl) ?_; refine A2 rfl ?_)
  refine rT (tR (eR ?_))
  ·first
   | (refine PO ?_; unfold DR; rw [← Bool.not_eq_true]; simp only [Qf, decide_eq_true_eq]; rintro ⟨g1, g2⟩; first | omega | (simp_all; done) | (simp_all; omega))
 simp only [HS] at h1;refine eZ Z (gY Z (AQ ?_));refine ⟨_, Al _ _ _, rfl, ?_⟩;refine xK 2 Z (nB ?_);refine AD Z (fun h2 => ?_) (fun h2 => ?_)
 ·
  simp only [HS] at h2;refine sG (AG tys Z Z (AA Z) Z Z Z (by kernel_rfl) Z Z Z Z Z Z (sT Z (nZ Z (eZ Z (nB ?_)))))
  try (refine AU (Le.nilBox (u := 8) (j := 2) 1 rfl rfl) ?_; refine A2 rfl ?_)
  refine rT (tR (eR ?_))
  ·first
   | (refine PO ?_; unfold DR; rw [← Bool.not_eq_true]; simp only [Qf, decide_eq_true_eq]; rintro ⟨g1, g2⟩; first | omega | (simp_all; done) | (simp_all; omega))
 simp only [HS] at h2;refine AE (tN (sG (eZ Z ?_)))
 try refine AC (Le.freeze (u := 21) rfl) ?_
 refine nZ Z (eK 3 Z ?_)
 have hok : DR p inp most fuel = true := by unfold DR; simp_all <;> omega
 have hasked : Cg p inp most = true := by unfold DR at hok; simp only [Qf] at hok; exact hok.1
 refine AQ ?_;refine ⟨_, K5 p inp most fuel (NN hasked) hp hi hm hf, rfl, ?_⟩;refine kZ [8,9,25] Z (sT Z (nZ Z (eZ Z (nB ?_))))
 try (refine AU (Le.nilBox (u := 8) (j := 2) 1 rfl rfl) ?_; refine A2 rfl ?_)
 refine rT (eR ?_)
 ·first
  | exact Pv hok
open Go.Eng
theorem Fh (p : Prog) (hp : p.ok 1048576) : Fun Try.prog 22 [.t p.tt] (A5 [.t (.bool (Ap p)), .t (.bool (Au p))]) := by
  refine Fun.begin tys Try.func22 Z Z (N := 86) [(0, .t p.tt)] Z Z (fun w0 G F0 => ?_);refine sG (Af Z Z (AA Z) Z Z (nZ Z (eK 2 Z (nB (sQ (sG (eZ Z ?_)))))))
  try refine AC (Le.freeze (u := 6) rfl) ?_
  refine nZ Z (AQ ?_);refine ⟨_, FC p hp, rfl, ?_⟩;refine eZ Z (nB ?_);refine AD Z (fun h1 => ?_) (fun h1 => ?_)
  ·
    simp only [HS] at h1;refine sG (eK 2 Z (nB (rT (tR (eR ?_)))))
    · first
      | exact Cp (by rw [Ap, h1]; rfl) h1.symm
  simp only [HS] at h1;refine AE (tN (sG ?_))
  have hgl := B9 h1
  refine eK 2 Z ?_;refine iY (k := ?_);refine kZ [1,2,3,11] Z (eK 3 Z (nB (sQ (sG ?_))));generalize hf0 : p.funcs[(0 : Int).toNat]'(by omega) = f0;refine eZ Z (evE ?_);refine eK 2 Z ?_;refine gB (fun h2 => ?_) (fun h2 => ?_)
  ·
    simp only [HS] at h2;refine xK 2 Z (kZ [1,2,3,4,17,20] Z (xK 9 Z (kZ [1,2,3,4,24,29] Z (xK 9 Z (kZ [1,2,3,4,38] Z (xK 9 Z (kZ [1,2,3,4,39,47] Z (eZ Z (nB (AY Z (sG (eK 2 Z (nB (rT (tR ?_)))))))))))))));refine eR ?_
    · first
      | (simp only [AL] at hf0; (try simp only [AB] at h3); (try simp only [AB] at h4); (try simp only [AB] at h5); (try simp only [AB, Ar] at h6)
         refine Cp ?_ h1.symm;rw [Ap, h1, hf0]
         (try simp only [AB, AL] at hf2); (try rw [hf2]); (try simp only [AB] at h8); (try simp only [AB] at h9); (try simp only [AB, Ar])
         simp [Bg, Bf, *]
         done)
  simp only [HS] at h2;refine eZ Z (gY Z ?_);refine iY (k := ?_);refine kZ [1,2,3,4,17,19] Z (xK 5 Z ?_);refine gB (fun h3 => ?_) (fun h3 => ?_)
  ·
    simp only [HS] at h3;refine xK 4 Z (kZ [1,2,3,4,24,29] Z (xK 9 Z (kZ [1,2,3,4,38] Z (xK 9 Z (kZ [1,2,3,4,39,47] Z (eZ Z (nB (AY Z (sG (eK 2 Z (nB (rT (tR (eR ?_))))))))))))))
    · first
      | (simp only [AL] at hf0; (try simp only [AB] at h3); (try simp only [AB] at h4); (try simp only [AB] at h5); (try simp only [AB, Ar] at h6)
         refine Cp ?_ h1.symm;rw [Ap, h1, hf0]
         (try simp only [AB, AL] at hf2); (try rw [hf2]); (try simp only [AB] at h8); (try simp only [AB] at h9); (try simp only [AB, Ar])
         simp [Bg, Bf, *]
         done)
  simp only [HS] at h3;refine eZ Z (gY Z ?_);refine iY (k := ?_);refine xK 2 Z (kZ [1,2,3,4,24,28] Z (xK 3 Z ?_));refine gB (fun h4 => ?_) (fun h4 => ?_)
  ·
    simp only [HS] at h4;refine xK 6 Z (kZ [1,2,3,4,38] Z (xK 9 Z (kZ [1,2,3,4,39,47] Z (eZ Z (nB (AY Z (sG (eK 2 Z (nB (rT (tR (eR ?_))))))))))))
    · first
      | (simp only [AL] at hf0; (try simp only [AB] at h3); (try simp only [AB] at h4); (try simp only [AB] at h5); (try simp only [AB, Ar] at h6)
         refine Cp ?_ h1.symm;rw [Ap, h1, hf0]
         (try simp only [AB, AL] at hf2); (try rw [hf2]); (try simp only [AB] at h8); (try simp only [AB] at h9); (try simp only [AB, Ar])
         simp [Bg, Bf, *]
         done)
  simp only [HS] at h4;refine eZ Z (gY Z ?_);refine iY (k := ?_);refine xK 2 Z (gY Z (evE ?_));refine xZ Z (kZ [1,2,3,4,31,37] Z (eK 2 Z ?_));refine gB (fun h5 => ?_) (fun h5 => ?_)
  ·
    simp only [HS] at h5;refine xK 7 Z (kZ [1,2,3,4,39,47] Z (eZ Z (nB (AY Z (sG (eK 2 Z (nB (rT (tR (eR ?_))))))))))
    · first
      | (simp only [AL] at hf0; (try simp only [AB] at h3); (try simp only [AB] at h4); (try simp only [AB] at h5); (try simp only [AB, Ar] at h6)
         refine Cp ?_ h1.symm;rw [Ap, h1, hf0]
         (try simp only [AB, AL] at hf2); (try rw [hf2]); (try simp only [AB] at h8); (try simp only [AB] at h9); (try simp only [AB, Ar])
         simp [Bg, Bf, *]
         done)
  simp only [HS] at h5;refine eZ Z (gY Z ?_);refine iY (k := ?_);refine xK 2 Z (gY Z ?_);refine iY (k := ?_);refine xK 2 Z (kZ [1,2,3,4,39,46] Z (xK 2 Z (nB ?_)));refine AD Z (fun h6 => ?_) (fun h6 => ?_)
  ·
    simp only [HS] at h6;refine sG (eK 2 Z (nB (rT (tR (eR ?_)))))
    · first
      | (simp only [AL] at hf0; (try simp only [AB] at h3); (try simp only [AB] at h4); (try simp only [AB] at h5); (try simp only [AB, Ar] at h6)
         refine Cp ?_ h1.symm;rw [Ap, h1, hf0]
         (try simp only [AB, AL] at hf2); (try rw [hf2]); (try simp only [AB] at h8); (try simp only [AB] at h9); (try simp only [AB, Ar])
         simp [Bg, Bf, *]
         done)
  simp only [HS] at h6;refine AE (tN (sQ (Ai A9 (by kernel_rfl) ?_)))
  have hgf : BM (paramsL p) f0 = true := by rw [← hf0]; exact CG h1 _
  have hn := DP (DF hgf (n := (0 : Int).toNat) (by omega)) h3
  rw [Ax] at hn;refine evQ ?_;refine evQ ?_;refine evQ ?_;refine A3 tys Z Z (AA Z) Z Z Z Z Z Z Z (by omega) _ (EE _ _ (by omega) (by omega)) (AS Z (evQ ?_));refine evQ ?_;refine A3 tys Z Z (AA Z) Z Z Z Z Z Z Z (by omega) _ (EE _ _ (by omega) (by omega)) (evQ ?_);refine evQ ?_;refine evQ ?_;refine AS Z (BE (tN (sG ?_)));generalize hf2 : p.funcs[((f0.stmts[(0 : Int).toNat]'(by omega)).n).toNat]'(by omega) = f2;refine eZ Z (evE ?_);refine eK 2 Z ?_;refine gB (fun h7 => ?_) (fun h7 => ?_)
  ·
    simp only [HS] at h7;refine xK 5 Z (kZ [2,3,5,67] Z (xK 9 Z (kZ [2,3,5,76] Z (xK 9 Z (kZ [2,3,85] Z (eK 2 Z (nB (rT (eR ?_)))))))))
    · first
      | (simp only [AL] at hf0; (try simp only [AB] at h3); (try simp only [AB] at h4); (try simp only [AB] at h5); (try simp only [AB, Ar] at h6)
         refine Cp ?_ h1.symm;rw [Ap, h1, hf0]
         (try simp only [AB, AL] at hf2); (try rw [hf2]); (try simp only [AB] at h8); (try simp only [AB] at h9); (try simp only [AB, Ar])
         simp [Bg, Bf, *]
         done)
  simp only [HS] at h7;refine eZ Z (gY Z ?_);refine iY (k := ?_);refine xK 3 Z (kZ [2,3,5,61,66] Z (eK 2 Z ?_));refine gB (fun h8 => ?_) (fun h8 => ?_)
  ·
    simp only [HS] at h8;refine xK 7 Z (kZ [2,3,5,76] Z (xK 9 Z (kZ [2,3,85] Z (eK 2 Z (nB (rT (eR ?_)))))))
    · first
      | (simp only [AL] at hf0; (try simp only [AB] at h3); (try simp only [AB] at h4); (try simp only [AB] at h5); (try simp only [AB, Ar] at h6)
         refine Cp ?_ h1.symm;rw [Ap, h1, hf0]
         (try simp only [AB, AL] at hf2); (try rw [hf2]); (try simp only [AB] at h8); (try simp only [AB] at h9); (try simp only [AB, Ar])
         simp [Bg, Bf, *]
         done)
  simp only [HS] at h8;refine eZ Z (gY Z ?_);refine iY (k := ?_);refine xK 2 Z (gY Z (evE ?_));refine xK 2 Z (kZ [2,3,5,75] Z (eZ Z ?_));refine gB (fun h9 => ?_) (fun h9 => ?_)
  ·
    simp only [HS] at h9;refine xK 8 Z (kZ [2,3,85] Z (eK 2 Z (nB (rT (eR ?_)))))
    · first
      | (simp only [AL] at hf0; (try simp only [AB] at h3); (try simp only [AB] at h4); (try simp only [AB] at h5); (try simp only [AB, Ar] at h6)
         refine Cp ?_ h1.symm;rw [Ap, h1, hf0]
         (try simp only [AB, AL] at hf2); (try rw [hf2]); (try simp only [AB] at h8); (try simp only [AB] at h9); (try simp only [AB, Ar])
         simp [Bg, Bf, *]
         done)
  simp only [HS] at h9;refine eZ Z (gY Z ?_);refine iY (k := ?_);refine xK 2 Z (gY Z ?_);refine iY (k := ?_);refine xK 3 Z (kZ [2,3,76,84] Z (eK 3 Z (nB (rT (eR ?_)))))
  · first
    | (simp only [AL] at hf0; (try simp only [AB] at h3); (try simp only [AB] at h4); (try simp only [AB] at h5); (try simp only [AB, Ar] at h6)
       refine Cp ?_ h1.symm;rw [Ap, h1, hf0]
       (try simp only [AB, AL] at hf2); (try rw [hf2]); (try simp only [AB] at h8); (try simp only [AB] at h9); (try simp only [AB, Ar])
       simp [Bg, Bf, *]
       done)
theorem DX (p : Prog) (hp : p.ok 1048576) : Fun Try.prog 18 [.t p.tt] (A5 [.t (.bool (Ap p)), .t (.bool (Au p))]) := by
  refine Fun.begin tys Try.func18 Z Z (N := 86) [(0, .t p.tt)] Z Z (fun w0 G F0 => ?_);refine sG (Af Z Z (AA Z) Z Z (nZ Z (eK 2 Z (nB (sQ (sG (eZ Z ?_)))))))
  try refine AC (Le.freeze (u := 6) rfl) ?_
  refine nZ Z (AQ ?_);refine ⟨_, Dm p hp, rfl, ?_⟩;refine eZ Z (nB ?_);refine AD Z (fun h1 => ?_) (fun h1 => ?_)
  ·
    simp only [HS] at h1;refine sG (eK 2 Z (nB (rT (tR (eR ?_)))))
    · first
      | exact Cp (by rw [Ap, h1]; rfl) h1.symm
  simp only [HS] at h1;refine AE (tN (sG ?_))
  have hgl := B9 h1
  refine eK 2 Z ?_;refine iY (k := ?_);refine kZ [1,2,3,11] Z (eK 3 Z (nB (sQ (sG ?_))));generalize hf0 : p.funcs[(0 : Int).toNat]'(by omega) = f0;refine eZ Z (evE ?_);refine eK 2 Z ?_;refine gB (fun h2 => ?_) (fun h2 => ?_)
  ·
    simp only [HS] at h2;refine xK 2 Z (kZ [1,2,3,4,17,20] Z (xK 9 Z (kZ [1,2,3,4,24,29] Z (xK 9 Z (kZ [1,2,3,4,38] Z (xK 9 Z (kZ [1,2,3,4,39,47] Z (eZ Z (nB (AY Z (sG (eK 2 Z (nB (rT (tR ?_)))))))))))))));refine eR ?_
    · first
      | (simp only [AL] at hf0; (try simp only [AB] at h3); (try simp only [AB] at h4); (try simp only [AB] at h5); (try simp only [AB, Ar] at h6)
         refine Cp ?_ h1.symm;rw [Ap, h1, hf0]
         (try simp only [AB, AL] at hf2); (try rw [hf2]); (try simp only [AB] at h8); (try simp only [AB] at h9); (try simp only [AB, Ar])
         simp [Bg, Bf, *]
         done)
  simp only [HS] at h2;refine eZ Z (gY Z ?_);refine iY (k := ?_);refine kZ [1,2,3,4,17,19] Z (xK 5 Z ?_);refine gB (fun h3 => ?_) (fun h3 => ?_)
  ·
    simp only [HS] at h3;refine xK 4 Z (kZ [1,2,3,4,24,29] Z (xK 9 Z (kZ [1,2,3,4,38] Z (xK 9 Z (kZ [1,2,3,4,39,47] Z (eZ Z (nB (AY Z (sG (eK 2 Z (nB (rT (tR (eR ?_))))))))))))))
    · first
      | (simp only [AL] at hf0; (try simp only [AB] at h3); (try simp only [AB] at h4); (try simp only [AB] at h5); (try simp only [AB, Ar] at h6)
         refine Cp ?_ h1.symm;rw [Ap, h1, hf0]
         (try simp only [AB, AL] at hf2); (try rw [hf2]); (try simp only [AB] at h8); (try simp only [AB] at h9); (try simp only [AB, Ar])
         simp [Bg, Bf, *]
         done)
  simp only [HS] at h3;refine eZ Z (gY Z ?_);refine iY (k := ?_);refine xK 2 Z (kZ [1,2,3,4,24,28] Z (xK 3 Z ?_));refine gB (fun h4 => ?_) (fun h4 => ?_)
  ·
    simp only [HS] at h4;refine xK 6 Z (kZ [1,2,3,4,38] Z (xK 9 Z (kZ [1,2,3,4,39,47] Z (eZ Z (nB (AY Z (sG (eK 2 Z (nB (rT (tR (eR ?_))))))))))))
    · first
      | (simp only [AL] at hf0; (try simp only [AB] at h3); (try simp only [AB] at h4); (try simp only [AB] at h5); (try simp only [AB, Ar] at h6)
         refine Cp ?_ h1.symm;rw [Ap, h1, hf0]
         (try simp only [AB, AL] at hf2); (try rw [hf2]); (try simp only [AB] at h8); (try simp only [AB] at h9); (try simp only [AB, Ar])
         simp [Bg, Bf, *]
         done)
  simp only [HS] at h4;refine eZ Z (gY Z ?_);refine iY (k := ?_);refine xK 2 Z (gY Z (evE ?_));refine xZ Z (kZ [1,2,3,4,31,37] Z (eK 2 Z ?_));refine gB (fun h5 => ?_) (fun h5 => ?_)
  ·
    simp only [HS] at h5;refine xK 7 Z (kZ [1,2,3,4,39,47] Z (eZ Z (nB (AY Z (sG (eK 2 Z (nB (rT (tR (eR ?_))))))))))
    · first
      | (simp only [AL] at hf0; (try simp only [AB] at h3); (try simp only [AB] at h4); (try simp only [AB] at h5); (try simp only [AB, Ar] at h6)
         refine Cp ?_ h1.symm;rw [Ap, h1, hf0]
         (try simp only [AB, AL] at hf2); (try rw [hf2]); (try simp only [AB] at h8); (try simp only [AB] at h9); (try simp only [AB, Ar])
         simp [Bg, Bf, *]
         done)
  simp only [HS] at h5;refine eZ Z (gY Z ?_);refine iY (k := ?_);refine xK 2 Z (gY Z ?_);refine iY (k := ?_);refine xK 2 Z (kZ [1,2,3,4,39,46] Z (xK 2 Z (nB ?_)));refine AD Z (fun h6 => ?_) (fun h6 => ?_)
  ·
    simp only [HS] at h6;refine sG (eK 2 Z (nB (rT (tR (eR ?_)))))
    · first
      | (simp only [AL] at hf0; (try simp only [AB] at h3); (try simp only [AB] at h4); (try simp only [AB] at h5); (try simp only [AB, Ar] at h6)
         refine Cp ?_ h1.symm;rw [Ap, h1, hf0]
         (try simp only [AB, AL] at hf2); (try rw [hf2]); (try simp only [AB] at h8); (try simp only [AB] at h9); (try simp only [AB, Ar])
         simp [Bg, Bf, *]
         done)
  simp only [HS] at h6;refine AE (tN (sQ (Ai A9 (by kernel_rfl) ?_)))
  have hgf : BM (paramsL p) f0 = true := by rw [← hf0]; exact CG h1 _
  have hn := DP (DF hgf (n := (0 : Int).toNat) (by omega)) h3
  rw [Ax] at hn;refine evQ ?_;refine evQ ?_;refine evQ ?_;refine A3 tys Z Z (AA Z) Z Z Z Z Z Z Z (by omega) _ (EE _ _ (by omega) (by omega)) (AS Z (evQ ?_));refine evQ ?_;refine A3 tys Z Z (AA Z) Z Z Z Z Z Z Z (by omega) _ (EE _ _ (by omega) (by omega)) (evQ ?_);refine evQ ?_;refine evQ ?_;refine AS Z (BE (tN (sG ?_)));generalize hf2 : p.funcs[((f0.stmts[(0 : Int).toNat]'(by omega)).n).toNat]'(by omega) = f2;refine eZ Z (evE ?_);refine eK 2 Z ?_;refine gB (fun h7 => ?_) (fun h7 => ?_)
  ·
    simp only [HS] at h7;refine xK 5 Z (kZ [2,3,5,67] Z (xK 9 Z (kZ [2,3,5,76] Z (xK 9 Z (kZ [2,3,85] Z (eK 2 Z (nB (rT (eR ?_)))))))))
    · first
      | (simp only [AL] at hf0; (try simp only [AB] at h3); (try simp only [AB] at h4); (try simp only [AB] at h5); (try simp only [AB, Ar] at h6)
         refine Cp ?_ h1.symm;rw [Ap, h1, hf0]
         (try simp only [AB, AL] at hf2); (try rw [hf2]); (try simp only [AB] at h8); (try simp only [AB] at h9); (try simp only [AB, Ar])
         simp [Bg, Bf, *]
         done)
  simp only [HS] at h7;refine eZ Z (gY Z ?_);refine iY (k := ?_);refine xK 3 Z (kZ [2,3,5,61,66] Z (eK 2 Z ?_));refine gB (fun h8 => ?_) (fun h8 => ?_)
  ·
    simp only [HS] at h8;refine xK 7 Z (kZ [2,3,5,76] Z (xK 9 Z (kZ [2,3,85] Z (eK 2 Z (nB (rT (eR ?_)))))))
    · first
      | (simp only [AL] at hf0; (try simp only [AB] at h3); (try simp only [AB] at h4); (try simp only [AB] at h5); (try simp only [AB, Ar] at h6)
         refine Cp ?_ h1.symm;rw [Ap, h1, hf0]
         (try simp only [AB, AL] at hf2); (try rw [hf2]); (try simp only [AB] at h8); (try simp only [AB] at h9); (try simp only [AB, Ar])
         simp [Bg, Bf, *]
         done)
  simp only [HS] at h8;refine eZ Z (gY Z ?_);refine iY (k := ?_);refine xK 2 Z (gY Z (evE ?_));refine xK 2 Z (kZ [2,3,5,75] Z (eZ Z ?_));refine gB (fun h9 => ?_) (fun h9 => ?_)
  ·
    simp only [HS] at h9;refine xK 8 Z (kZ [2,3,85] Z (eK 2 Z (nB (rT (eR ?_)))))
    · first
      | (simp only [AL] at hf0; (try simp only [AB] at h3); (try simp only [AB] at h4); (try simp only [AB] at h5); (try simp only [AB, Ar] at h6)
         refine Cp ?_ h1.symm;rw [Ap, h1, hf0]
         (try simp only [AB, AL] at hf2); (try rw [hf2]); (try simp only [AB] at h8); (try simp only [AB] at h9); (try simp only [AB, Ar])
         simp [Bg, Bf, *]
         done)
  simp only [HS] at h9;refine eZ Z (gY Z ?_);refine iY (k := ?_);refine xK 2 Z (gY Z ?_);refine iY (k := ?_);refine xK 3 Z (kZ [2,3,76,84] Z (eK 3 Z (nB (rT (eR ?_)))))
  · first
    | (simp only [AL] at hf0; (try simp only [AB] at h3); (try simp only [AB] at h4); (try simp only [AB] at h5); (try simp only [AB, Ar] at h6)
       refine Cp ?_ h1.symm;rw [Ap, h1, hf0]
       (try simp only [AB, AL] at hf2); (try rw [hf2]); (try simp only [AB] at h8); (try simp only [AB] at h9); (try simp only [AB, Ar])
       simp [Bg, Bf, *]
       done)
open Go.Eng
theorem IT (p : Prog) (hp : p.ok 1048576) : Fun Try.prog 19 [.t p.tt] (A5 [.t (.bool (Au p))]) := by
 refine Fun.begin tys Try.func19 Z Z (N := 5) [(0, .t p.tt)] Z Z (fun w0 G F0 => ?_);refine sG (Af Z Z (AA Z) Z Z (nZ Z (eZ Z (nA (eZ Z ?_)))))
 try refine AC (Le.freeze (u := 3) rfl) ?_
 refine nZ Z (AQ ?_);refine ⟨_, Dm p hp, rfl, ?_⟩;refine eZ Z (nB (rT (eR ?_)))
 ·rfl
/-! ### What a program made less is -/
section
variable {p q : Prog} {inp : List Int} {code value : Int}
end
open Go.Eng
structure Ren (p q : Prog) (to : List Int) (D : Int → Prop) : Prop where
 fn : ∀ n, D n → funcAt q (atI to n) = movF to (funcAt p n)
 ps : ∀ n, D n → atI (paramsL q) (atI to n) = atI (paramsL p) n
 cl : ∀ n, D n → ∀ t, t ∈ (funcAt p n).stmts → ∀ x, x ∈ Nq t → D x
section
variable {p q : Prog} {to inp : List Int} {D : Int → Prop} {K e most : Nat} {full : Prop}
def upM (K e : Nat) (m : Ms) : Ms := ⟨m.used, m.fuel + K, m.deep + e, m.trace⟩
def upX (K e : Nat) (to : List Int) (s : Sx) : Sx := ⟨upM K e s.m, s.vars, s.off.map (atI to), s.res, s.by'⟩
def SimC (full : Prop) (K e : Nat) (d : Nat) (r r' : Int × Int × Option By × Ms) : Prop :=
 ((r.1 < 4 ∨ full) → r' = (r.1, r.2.1, r.2.2.1, upM K e r.2.2.2)) ∧ (r.1 < 4 → r.2.2.2.deep = d)
def SimX (full : Prop) (K e : Nat) (to : List Int) (D : Int → Prop) (d : Nat) (r r' : Int × Int × Sx) : Prop :=
 ((r.1 < 4 ∨ full) → r' = (r.1, r.2.1, upX K e to r.2.2)) ∧ (r.1 < 4 → r.2.2.m.deep = d) ∧ (∀ x, x ∈ r.2.2.off → D x)
structure GN (p q : Prog) (to : List Int) (D : Int → Prop) (K e : Nat) (full : Prop) (L L' : Lev) : Prop where
 stmt : ∀ fn, D fn → ∀ t, (∀ x, x ∈ Nq t → D x) → ∀ s : Sx, (∀ x, x ∈ s.off → D x) → SimX full K e to D s.m.deep (L.stmt (funcAt p fn) t s) (L'.stmt (movF to (funcAt p fn)) (movS to t) (upX K e to s))
 call : ∀ fn, D fn → ∀ args b m, SimC full K e m.deep (L.call fn args b m) (L'.call (atI to fn) args b (upM K e m))
theorem inS_up (m : Ms) : inS inp (upM K e m) = ((inS inp m).1, upM K e (inS inp m).2) := by
 unfold inS upM;dsimp only
 split <;> rfl
theorem Ob (m : Ms) : (inS inp m).2.deep = m.deep := by
 unfold inS; split <;> rfl
theorem N3 (hr : Ren p q to D) {L L' : Lev} (hL : GN p q to D K e full L L') {x : Tok} (hx : x.op = 11 → D x.n) {pile : List Int} {s : Sx} (hs : ∀ y, y ∈ s.off → D y) :
  (((tokX L.cal (paramsL p) inp x pile s).1 < 4 ∨ full) → tokX L'.cal (paramsL q) inp (movT to x) pile (upX K e to s) = ((tokX L.cal (paramsL p) inp x pile s).1, (tokX L.cal (paramsL p) inp x pile s).2.1, (tokX L.cal (paramsL p) inp x pile s).2.2.1, upX K e to (tokX L.cal (paramsL p) inp x pile s).2.2.2)) ∧
  ((tokX L.cal (paramsL p) inp x pile s).1 < 4 → (tokX L.cal (paramsL p) inp x pile s).2.2.2.m.deep = s.m.deep) ∧ (∀ y, y ∈ (tokX L.cal (paramsL p) inp x pile s).2.2.2.off → D y) := by
 by_cases o11 : x.op = 11
 ·have hD := hx o11
  have hc := hL.call x.n hD (pile.drop (pile.length - (atI (paramsL p) x.n).toNat)) none s.m
  have hp := hr.ps x.n hD
  have em : movT to x = ⟨11, atI to x.n⟩ := by rw [movT, if_pos o11, o11]
  have e1 : tokX L.cal (paramsL p) inp x pile s = if (L.call x.n (pile.drop (pile.length - (atI (paramsL p) x.n).toNat)) none s.m).1 = 1 then (0, 0, pile.take (pile.length - (atI (paramsL p) x.n).toNat) ++ [(L.call x.n (pile.drop (pile.length - (atI (paramsL p) x.n).toNat)) none s.m).2.1], { s with m := (L.call x.n (pile.drop (pile.length - (atI (paramsL p) x.n).toNat)) none s.m).2.2.2 }) else ((L.call x.n (pile.drop (pile.length - (atI (paramsL p) x.n).toNat)) none s.m).1, (L.call x.n (pile.drop (pile.length - (atI (paramsL p) x.n).toNat)) none s.m).2.1, pile, { s with m := (L.call x.n (pile.drop (pile.length - (atI (paramsL p) x.n).toNat)) none s.m).2.2.2 }) := by
   simp [tokX, o11, Lev.cal]
   rfl
  have e2 : tokX L'.cal (paramsL q) inp (movT to x) pile (upX K e to s) = if (L'.call (atI to x.n) (pile.drop (pile.length - (atI (paramsL p) x.n).toNat)) none (upM K e s.m)).1 = 1 then (0, 0, pile.take (pile.length - (atI (paramsL p) x.n).toNat) ++ [(L'.call (atI to x.n) (pile.drop (pile.length - (atI (paramsL p) x.n).toNat)) none (upM K e s.m)).2.1], { upX K e to s with m := (L'.call (atI to x.n) (pile.drop (pile.length - (atI (paramsL p) x.n).toNat)) none (upM K e s.m)).2.2.2 }) else ((L'.call (atI to x.n) (pile.drop (pile.length - (atI (paramsL p) x.n).toNat)) none (upM K e s.m)).1, (L'.call (atI to x.n) (pile.drop (pile.length - (atI (paramsL p) x.n).toNat)) none (upM K e s.m)).2.1, pile, { upX K e to s with m := (L'.call (atI to x.n) (pile.drop (pile.length - (atI (paramsL p) x.n).toNat)) none (upM K e s.m)).2.2.2 }) := by
   rw [em]
   simp [tokX, Lev.cal, hp]
   rfl
  rw [e1, e2];generalize L.call x.n (pile.drop (pile.length - (atI (paramsL p) x.n).toNat)) none s.m = r at hc;generalize L'.call (atI to x.n) (pile.drop (pile.length - (atI (paramsL p) x.n).toNat)) none (upM K e s.m) = r' at hc
  obtain ⟨h, v, b, m⟩ := r
  dsimp only [SimC] at hc ⊢
  by_cases h1 : h = 1
  ·rw [if_pos h1]
   have h2 := hc.1 (Or.inl (by omega))
   refine ⟨fun _ => ?_, fun _ => hc.2 (by omega), hs⟩;rw [h2];dsimp only;rw [if_pos h1];rfl
  ·rw [if_neg h1]
   refine ⟨fun hg => ?_, hc.2, hs⟩;rw [hc.1 hg];dsimp only;rw [if_neg h1];rfl
 ·have em : movT to x = x := by rw [movT, if_neg o11]
  rw [em];unfold tokX
  by_cases o1 : x.op = 1
  ·simp only [if_pos o1]; exact ⟨fun _ => by first | rfl | trivial, fun _ => by first | rfl | trivial, hs⟩
  by_cases o2 : x.op = 2
  ·simp only [if_neg o1, if_pos o2]; exact ⟨fun _ => by first | rfl | trivial, fun _ => by first | rfl | trivial, hs⟩
  by_cases o9 : x.op = 9
  ·simp only [if_neg o1, if_neg o2, if_pos o9]
   refine ⟨fun _ => ?_, fun _ => Ob _, hs⟩;show (_, _, pile ++ [(inS inp (upM K e s.m)).1], { upX K e to s with m := (inS inp (upM K e s.m)).2 }) = _;rw [inS_up]; rfl
  by_cases o10 : x.op = 10
  ·simp only [if_neg o1, if_neg o2, if_neg o9, if_pos o10]; exact ⟨fun _ => by first | rfl | trivial, fun _ => by first | rfl | trivial, hs⟩
  simp only [if_neg o1, if_neg o2, if_neg o9, if_neg o10, if_neg o11]
  cases reckS x.op ((pile[pile.length - 2]?).getD 0) ((pile[pile.length - 1]?).getD 0) <;> exact ⟨fun _ => by first | rfl | trivial, fun _ => by first | rfl | trivial, hs⟩
theorem Ik (hr : Ren p q to D) {L L' : Lev} (hL : GN p q to D K e full L L') : ∀ {l : List Tok} {pile : List Int} {s : Sx}, (∀ x, x ∈ Pm l → D x) → (∀ y, y ∈ s.off → D y) →
  SimX full K e to D s.m.deep (exprS L.cal (paramsL p) inp l pile s) (exprS L'.cal (paramsL q) inp (l.map (movT to)) pile (upX K e to s))
 | [], pile, s, _, hs => ⟨fun _ => rfl, fun _ => rfl, hs⟩
 | x :: l, pile, s, hl, hs => by
  have hx : x.op = 11 → D x.n := fun h => hl _ (by unfold Pm; exact RA.2 ⟨x, List.mem_filter.2 ⟨by simp, by simpa using h⟩, rfl⟩)
  have hl2 : ∀ y, y ∈ Pm l → D y := fun y hy => hl y (by
   unfold Pm at hy ⊢
   obtain ⟨z, hz, rfl⟩ := RA.1 hy
   have := List.mem_filter.1 hz
   exact RA.2 ⟨z, List.mem_filter.2 ⟨by simp [this.1], this.2⟩, rfl⟩)
  have h1 := N3 (inp := inp) hr hL hx (pile := pile) hs
  rw [Q4, exprS, exprS];generalize tokX L.cal (paramsL p) inp x pile s = r at h1;generalize tokX L'.cal (paramsL q) inp (movT to x) pile (upX K e to s) = r' at h1
  obtain ⟨h, v, pl, s2⟩ := r
  dsimp only at h1 ⊢
  by_cases h0 : h = 0
  ·have h2 := h1.1 (Or.inl (by omega))
   rw [h2];simp only [if_pos h0]
   have := Ik hr hL (l := l) (pile := pl) (s := s2) hl2 h1.2.2
   rw [h1.2.1 (by omega)] at this;exact this
  ·simp only [if_neg h0]
   refine ⟨fun hg => ?_, h1.2.1, h1.2.2⟩;rw [h1.1 hg];simp only [if_neg h0]
theorem Kx (f : Func) (k : Int) : stmtAt (movF to f) k = movS to (stmtAt f k) := by
 unfold stmtAt movF;dsimp only;rw [List.getElem?_map]
 cases f.stmts[k.toNat]? <;> rfl
theorem Kw (hr : Ren p q to D) {fn : Int} (hD : D fn) (k : Int) : ∀ x, x ∈ Nq (stmtAt (funcAt p fn) k) → D x := by
 intro x hx
 cases h : (funcAt p fn).stmts[k.toNat]? with
 | none => unfold stmtAt at hx; rw [h] at hx; simp [Nq, d3, Pm] at hx
 | some t => unfold stmtAt at hx; rw [h] at hx; exact hr.cl fn hD t (RE h) x hx
theorem Cy (hr : Ren p q to D) {L L' : Lev} (hL : GN p q to D K e full L L') {fn : Int} (hD : D fn) : ∀ {b : List Int} {s : Sx}, (∀ y, y ∈ s.off → D y) →
  SimX full K e to D s.m.deep (blockS (L.stmt (funcAt p fn)) (funcAt p fn) b s) (blockS (L'.stmt (movF to (funcAt p fn))) (movF to (funcAt p fn)) b (upX K e to s))
 | [], s, hs => ⟨fun _ => rfl, fun _ => rfl, hs⟩
 | k :: b, s, hs => by
  have h1 := hL.stmt fn hD (stmtAt (funcAt p fn) k) (Kw hr hD k) s hs
  rw [blockS, blockS, Kx];generalize L.stmt (funcAt p fn) (stmtAt (funcAt p fn) k) s = r at h1;generalize L'.stmt (movF to (funcAt p fn)) (movS to (stmtAt (funcAt p fn) k)) (upX K e to s) = r' at h1
  obtain ⟨h, v, s2⟩ := r
  obtain ⟨h1, h2, h3⟩ := h1
  dsimp only at h1 h2 h3 ⊢
  by_cases h0 : h = 0
  ·rw [h1 (Or.inl (by omega))]
   simp only [if_pos h0]
   have := Cy hr hL hD (b := b) (s := s2) h3
   rw [h2 (by omega)] at this;exact this
  ·simp only [if_neg h0]
   refine ⟨fun hg => ?_, h2, h3⟩;rw [h1 hg];simp only [if_neg h0]
theorem Jj {m : Ms} (h : m.fuel ≠ 0) : Ay (upM K e m) = upM K e (Ay m) := by
 unfold Ay upM;simp only [Ms.mk.injEq, true_and, and_true];omega
theorem QF (hr : Ren p q to D) {L L' : Lev} (hL : GN p q to D K e full L L') {fn : Int} (hD : D fn) {t : Stmt} (ht : ∀ x, x ∈ Nq t → D x) {v : Int} {s : Sx} (hs : ∀ y, y ∈ s.off → D y) :
  SimX full K e to D s.m.deep (doS L (funcAt p fn) t v s) (doS L' (movF to (funcAt p fn)) (movS to t) v (upX K e to s)) := by
 have ek : (movS to t).kind = t.kind := rfl
 have ethn : (movS to t).thn = t.thn := rfl
 have eels : (movS to t).els = t.els := rfl
 unfold doS;rw [ek, ethn, eels]
 by_cases k1 : t.kind = 1
 ·have en : (movS to t).n = t.n := by show movN to t = t.n; rw [movN, if_neg (by omega)]
  rw [if_pos k1, if_pos k1, en];exact ⟨fun _ => rfl, fun _ => rfl, hs⟩
 rw [if_neg k1, if_neg k1]
 by_cases k2 : t.kind = 2
 ·rw [if_pos k2, if_pos k2]; exact ⟨fun _ => rfl, fun _ => rfl, hs⟩
 rw [if_neg k2, if_neg k2]
 by_cases k4 : t.kind = 4
 ·rw [if_pos k4, if_pos k4]; exact ⟨fun _ => rfl, fun _ => rfl, hs⟩
 rw [if_neg k4, if_neg k4]
 by_cases k5 : t.kind = 5
 ·rw [if_pos k5, if_pos k5]; exact ⟨fun _ => rfl, fun _ => rfl, hs⟩
 rw [if_neg k5, if_neg k5]
 by_cases k7 : t.kind = 7
 ·rw [if_pos k7, if_pos k7]
  by_cases v0 : v ≠ 0
  ·rw [if_pos v0, if_pos v0]; exact Cy hr hL hD hs
  ·rw [if_neg v0, if_neg v0]; exact Cy hr hL hD hs
 rw [if_neg k7, if_neg k7]
 by_cases k8 : t.kind = 8
 ·rw [if_pos k8, if_pos k8]
  by_cases v0 : v = 0
  ·rw [if_pos v0, if_pos v0]; exact ⟨fun _ => rfl, fun _ => rfl, hs⟩
  ·rw [if_neg v0, if_neg v0]
   have h1 := Cy hr hL hD (b := t.thn) (s := s) hs
   dsimp only;generalize blockS (L.stmt (funcAt p fn)) (funcAt p fn) t.thn s = r at h1;generalize blockS (L'.stmt (movF to (funcAt p fn))) (movF to (funcAt p fn)) t.thn (upX K e to s) = r' at h1
   obtain ⟨h, w, s2⟩ := r
   obtain ⟨h1, h2, h3⟩ := h1
   dsimp only at h1 h2 h3 ⊢
   by_cases h0 : h = 0
   ·rw [h1 (Or.inl (by omega))]
    simp only [if_pos h0]
    have := hL.stmt fn hD t ht s2 h3
    rw [h2 (by omega)] at this;exact this
   ·simp only [if_neg h0]
    refine ⟨fun hg => ?_, h2, h3⟩;rw [h1 hg];simp only [if_neg h0]
 rw [if_neg k8, if_neg k8];exact ⟨fun _ => rfl, fun _ => rfl, hs⟩
theorem L1 (hr : Ren p q to D) (hf : full → K = 0) {L L' : Lev} (hL : GN p q to D K e full L L') {fn : Int} (hD : D fn) {t : Stmt} (ht : ∀ x, x ∈ Nq t → D x) {s : Sx} (hs : ∀ y, y ∈ s.off → D y) :
  SimX full K e to D s.m.deep (Bj L (paramsL p) inp (funcAt p fn) t s) (Bj L' (paramsL q) inp (movF to (funcAt p fn)) (movS to t) (upX K e to s)) := by
 unfold Bj
 by_cases hz : s.m.fuel = 0
 ·rw [if_pos hz]
  refine ⟨fun hg => ?_, fun h => ?_, hs⟩
  ·rcases hg with hg | hg
   ·exfalso; revert hg; show ¬ ((5 : Int) < 4); omega
   ·have := hf hg
    rw [if_pos (show (upX K e to s).m.fuel = 0 by show s.m.fuel + K = 0; omega)]
  ·exfalso; revert h; show ¬ ((5 : Int) < 4); omega
 rw [if_neg hz, if_neg (show ¬ (upX K e to s).m.fuel = 0 by show ¬ s.m.fuel + K = 0; omega)]
 have ek : (movS to t).kind = t.kind := rfl
 have eb : ({ upX K e to s with m := Ay (upX K e to s).m } : Sx) = upX K e to { s with m := Ay s.m } := by
  show ({ upX K e to s with m := Ay (upM K e s.m) } : Sx) = _;rw [Jj hz]; rfl
 rw [ek]
 by_cases k3 : t.kind = 3
 ·rw [if_pos k3, if_pos k3]
  have en : (movS to t).n = atI to t.n := by show movN to t = _; rw [movN, if_pos k3]
  have hn : D t.n := ht _ (RX _ (by rw [d3, if_pos k3]; simp))
  refine ⟨fun _ => ?_, fun _ => rfl, fun x hx => ?_⟩
  ·rw [en]
   show (_, _, ({ upX K e to s with m := Ay (upM K e s.m), off := s.off.map (atI to) ++ [atI to t.n] } : Sx)) = _;rw [Jj hz];show _ = (_, _, upX K e to { s with m := Ay s.m, off := s.off ++ [t.n] });unfold upX
   simp
  ·rcases Qj.1 hx with hx | hx
   ·exact hs x hx
   ·rw [Q5] at hx; subst hx; exact hn
 rw [if_neg k3, if_neg k3]
 by_cases k6 : t.kind = 6
 ·rw [if_pos k6, if_pos k6, eb]
  exact ⟨fun _ => rfl, fun _ => rfl, hs⟩
 rw [if_neg k6, if_neg k6, eb]
 have ht2 : ∀ x, x ∈ Pm t.ex → D x := fun x hx => ht x (RL _ hx)
 have h1 := Ik (inp := inp) hr hL (l := t.ex) (pile := []) (s := { s with m := Ay s.m }) ht2 hs
 rw [show (movS to t).ex = t.ex.map (movT to) from rfl];dsimp only;generalize exprS L.cal (paramsL p) inp t.ex [] { s with m := Ay s.m } = r at h1;generalize exprS L'.cal (paramsL q) inp (t.ex.map (movT to)) [] (upX K e to { s with m := Ay s.m }) = r' at h1
 obtain ⟨h, w, s2⟩ := r
 obtain ⟨h1, h2, h3⟩ := h1
 dsimp only at h1 h2 h3 ⊢
 have hd : (({ s with m := Ay s.m } : Sx)).m.deep = s.m.deep := rfl
 rw [hd] at h2
 by_cases h0 : h = 0
 ·rw [h1 (Or.inl (by omega))]
  simp only [if_pos h0]
  have := QF hr hL hD ht (v := w) (s := s2) h3
  rw [h2 (by omega)] at this;exact this
 ·simp only [if_neg h0]
  refine ⟨fun hg => ?_, h2, h3⟩;rw [h1 hg];simp only [if_neg h0]
theorem G5 {c c' : Int → Option By → Ms → Int × Int × Option By × Ms} (hc : ∀ k, D k → ∀ b m, SimC full K e m.deep (c k b m) (c' (atI to k) b (upM K e m))) : ∀ {l : List Int} {b : By} {m : Ms}, (∀ x, x ∈ l → D x) →
  (((offR c l b m).1 < 4 ∨ full) → offR c' (l.map (atI to)) b (upM K e m) = ((offR c l b m).1, (offR c l b m).2.1, upM K e (offR c l b m).2.2)) ∧ ((offR c l b m).1 < 4 → (offR c l b m).2.2.deep = m.deep)
 | [], b, m, _ => ⟨fun _ => rfl, fun _ => rfl⟩
 | k :: l, b, m, hl => by
  have h1 := hc k (hl k (by simp)) (some b) m
  rw [Q4, offR, offR];generalize c k (some b) m = r at h1;generalize c' (atI to k) (some b) (upM K e m) = r' at h1
  obtain ⟨h, v, b2, m2⟩ := r
  obtain ⟨h1, h2⟩ := h1
  dsimp only at h1 h2 ⊢
  by_cases h4 : 4 ≤ h
  ·simp only [if_pos h4]
   refine ⟨fun hg => ?_, fun hh => by omega⟩;rw [h1 hg];simp only [if_pos h4]
  ·rw [h1 (Or.inl (by omega))]
   simp only [if_neg h4]
   have hd := h2 (by omega)
   by_cases he : h = 1
   ·simp only [if_pos he]
    have := G5 hc (l := l) (b := b2.getD b) (m := m2) (fun x hx => hl x (by simp [hx]))
    rw [hd] at this;exact this
   ·simp only [if_neg he]
    have := G5 hc (l := l) (b := ⟨h, if h = 2 then v else (b2.getD b).pan, (b2.getD b).exd || decide (h = 3)⟩) (m := m2) (fun x hx => hl x (by simp [hx]))
    rw [hd] at this;exact this
theorem NK (hr : Ren p q to D) (hf : full → K = 0 ∧ e = 0) {L L' : Lev} (hL : GN p q to D K e full L L') {fn : Int} (hD : D fn) (args : List Int) (b : Option By) (m : Ms) :
  SimC full K e m.deep (Ck L p most fn args b m) (Ck L' q (most + e) (atI to fn) args b (upM K e m)) := by
 unfold Ck
 by_cases hz : m.fuel = 0
 ·rw [if_pos hz]
  refine ⟨fun hg => ?_, fun h => ?_⟩
  ·rcases hg with hg | hg
   ·exfalso; revert hg; show ¬ ((5 : Int) < 4); omega
   ·have := hf hg
    rw [if_pos (show (upM K e m).fuel = 0 by show m.fuel + K = 0; omega)]
  ·exfalso; revert h; show ¬ ((5 : Int) < 4); omega
 rw [if_neg hz, if_neg (show ¬ (upM K e m).fuel = 0 by show ¬ m.fuel + K = 0; omega)]
 have ed : ((upM K e m).deep = most + e) = (m.deep = most) := by
  show (m.deep + e = most + e) = _;rw [Nat.add_right_cancel_iff]
 simp only [ed]
 by_cases hd : m.deep = most
 ·rw [if_pos hd, if_pos hd]
  refine ⟨fun _ => ?_, fun h => ?_⟩
  ·rw [Jj hz]
  ·exfalso; revert h; show ¬ ((4 : Int) < 4); omega
 rw [if_neg hd, if_neg hd]
 have es : startS (funcAt q (atI to fn)) args b (upM K e m) = upX K e to (startS (funcAt p fn) args b m) := by
  rw [hr.fn fn hD];unfold startS upX upM;simp only [Sx.mk.injEq, Ms.mk.injEq, true_and, and_true, List.map_nil];exact ⟨⟨by omega, by omega⟩, rfl⟩
 have h1 := Cy hr hL hD (b := (funcAt p fn).body) (s := startS (funcAt p fn) args b m) (fun y hy => absurd hy List.not_mem_nil)
 rw [es, hr.fn fn hD, show (movF to (funcAt p fn)).body = (funcAt p fn).body from rfl];generalize blockS (L.stmt (funcAt p fn)) (funcAt p fn) (funcAt p fn).body (startS (funcAt p fn) args b m) = r at h1;generalize blockS (L'.stmt (movF to (funcAt p fn))) (movF to (funcAt p fn)) (funcAt p fn).body (upX K e to (startS (funcAt p fn) args b m)) = r' at h1
 obtain ⟨h, v, s2⟩ := r
 obtain ⟨h1, h2, h3⟩ := h1
 dsimp only at h1 h2 h3 ⊢
 by_cases h4 : 4 ≤ h
 ·simp only [if_pos h4]
  refine ⟨fun hg => ?_, fun hh => ?_⟩
  ·rw [h1 hg]
   simp only [if_pos h4];rfl
  ·exfalso; revert hh; show ¬ (h < 4); omega
 ·rw [h1 (Or.inl (by omega))]
  simp only [if_neg h4]
  have hd1 : s2.m.deep = m.deep + 1 := h2 (by omega)
  have h5 := G5 (c := fun k b m => L.call k [] b m) (c' := fun k b m => L'.call k [] b m) (fun k hk b m => hL.call k hk [] b m) (l := s2.off.reverse) (b := endS h v) (m := s2.m) (fun x hx => h3 x (by simpa using hx))
  have eo : (upX K e to s2).off.reverse = s2.off.reverse.map (atI to) := by
   show (s2.off.map (atI to)).reverse = _;rw [List.map_reverse]
  have em : (upX K e to s2).m = upM K e s2.m := rfl
  rw [eo, em];generalize offR (fun k b m => L.call k [] b m) s2.off.reverse (endS h v) s2.m = o at h5;generalize offR (fun k b m => L'.call k [] b m) (s2.off.reverse.map (atI to)) (endS h v) (upM K e s2.m) = o' at h5
  obtain ⟨h', b2, m2⟩ := o
  obtain ⟨h5, h6⟩ := h5
  dsimp only at h5 h6 ⊢
  by_cases h7 : 4 ≤ h'
  ·simp only [if_pos h7]
   refine ⟨fun hg => ?_, fun hh => ?_⟩
   ·rw [h5 hg]
    simp only [if_pos h7];rfl
   ·exfalso; revert hh; show ¬ (h' < 4); omega
  ·rw [h5 (Or.inl (by omega))]
   simp only [if_neg h7]
   have hd2 := h6 (by omega)
   refine ⟨fun hg => ?_, fun hh => ?_⟩
   ·show (_, _, _, (⟨m2.used, m2.fuel + K, m2.deep + e - 1, m2.trace⟩ : Ms)) = (_, _, _, (⟨m2.used, m2.fuel + K, m2.deep - 1 + e, m2.trace⟩ : Ms))
    rw [show m2.deep + e - 1 = m2.deep - 1 + e by omega];rfl
   ·show m2.deep - 1 = m.deep
    omega
theorem Md (hr : Ren p q to D) (hf : full → K = 0 ∧ e = 0) : ∀ n n', n ≤ n' → (full → n = n') → GN p q to D K e full (lev p inp most n) (lev q inp (most + e) n')
 | 0, n', _, hn => by
  refine ⟨fun fn hD t ht s hs => ⟨fun hg => ?_, fun h => ?_, hs⟩, fun fn hD args b m => ⟨fun hg => ?_, fun h => ?_⟩⟩
  ·rcases hg with hg | hg
   ·exfalso; revert hg; show ¬ ((5 : Int) < 4); omega
   ·rw [← hn hg]; rfl
  ·exfalso; revert h; show ¬ ((5 : Int) < 4); omega
  ·rcases hg with hg | hg
   ·exfalso; revert hg; show ¬ ((5 : Int) < 4); omega
   ·rw [← hn hg]; rfl
  ·exfalso; revert h; show ¬ ((5 : Int) < 4); omega
 | n + 1, 0, h, _ => by omega
 | n + 1, n' + 1, h, hn => by
  have ih := Md hr hf n n' (by omega) (fun hg => by have := hn hg; omega)
  exact ⟨fun fn hD t ht s hs => L1 hr (fun hg => (hf hg).1) ih hD ht hs, fun fn hD args b m => NK hr hf ih hD args b m⟩
end
open Go.Eng
section
variable {ps ps' to : List Int} {f : Func}
theorem Gb (to : List Int) : ∀ (l : List Stmt) (k : Int), Ad (l.map (movS to)) k = Ad l k
 | [], _ => rfl
 | s :: l, k => by
  rw [Q4, Ad, Ad, Gb to l];rfl
theorem KR (to : List Int) (l : List Stmt) : kids (l.map (movS to)) = kids l := by
 funext m
 unfold kids;rw [List.getElem?_map]
 cases l[m.toNat]? <;> rfl
theorem LL (to : List Int) (f : Func) (n : Int) : FB (movF to f) n = FB f n := by
 unfold FB movF;dsimp only;rw [List.getElem?_map]
 cases f.stmts[n.toNat]? <;> rfl
theorem OV (to : List Int) (f : Func) (b : List Int) : BF (movF to f) b = BF f b := by
 unfold BF movF;dsimp only;rw [KR, Qh]
theorem Kz (to : List Int) (f : Func) : Ae (movF to f) = Ae f := by
 have e1 : DU (movF to f) = DU f := by
  unfold DU movF;dsimp only;rw [Qh]
 have e2 : Gx (movF to f) = Gx f := by
  unfold Gx;rw [show (movF to f).stmts = f.stmts.map (movS to) from rfl, Gb]
 have e3 : Bq (movF to f).stmts (movF to f).body = Bq f.stmts f.body := by
  rw [show (movF to f).stmts = f.stmts.map (movS to) from rfl, show (movF to f).body = f.body from rfl];unfold Bq Kk;rw [KR, Qh]
 have e4 : E4 (movF to f) = E4 f := by
  unfold E4;rw [show (movF to f).stmts = f.stmts.map (movS to) from rfl, List.all_map]
  congr 1
  funext s
  show CC (movF to f) (movS to s) = CC f s;unfold CC JS;rw [show (movS to s).kind = s.kind from rfl, show (movS to s).thn = s.thn from rfl, OV];split
  ·congr 1
   funext n
   rw [LL]
  ·rfl
 unfold Ae;rw [e1, e2, e3, e4]
def PG (ps ps' to : List Int) (x : Int) : Prop := 0 ≤ atI to x ∧ atI to x < ps'.length ∧ atI ps' (atI to x) = atI ps x
theorem LB {t : Tok} (h : t.op = 11 → PG ps ps' to t.n) : Ah ps' (movT to t) = Ah ps t := by
 by_cases o : t.op = 11
 ·have := (h o).2.2
  simp [Ah, movT, o, this]
 ·rw [movT, if_neg o]
  unfold Ah;rw [if_neg o, if_neg o]
theorem LK {vars : Int} {t : Tok} (h : t.op = 11 → PG ps ps' to t.n) (hk : knownT vars ps.length t = true) : knownT vars ps'.length (movT to t) = true := by
 by_cases o : t.op = 11
 ·have := h o
  unfold PG at this;unfold knownT movT;rw [if_pos o];simp only [o]
  simp
  omega
 ·rw [movT, if_neg o]
  unfold knownT at hk ⊢;rw [if_neg o] at hk ⊢;exact hk
theorem J4 {vars : Int} : ∀ {l : List Tok} {h m : Int} {r : Int × Int}, (∀ t, t ∈ l → t.op = 11 → PG ps ps' to t.n) → CO vars ps l h m = some r → CO vars ps' (l.map (movT to)) h m = some r
 | [], h, m, r, _, hr => hr
 | t :: l, h, m, r, hn, hr => by
  have ht := hn t (by simp)
  rw [CO] at hr;split at hr
  ·rename_i hc
   rw [Qf, decide_eq_true_eq] at hc;rw [Q4, CO, LB ht, LK ht hc.1, decide_eq_true hc.2, Bool.and_true, if_pos rfl];exact J4 (fun x hx => hn x (by simp [hx])) hr
  ·cases hr
theorem Mw {vars : Int} {l : List Tok} (hn : ∀ t, t ∈ l → t.op = 11 → PG ps ps' to t.n) (h : Bx vars ps l = true) : Bx vars ps' (l.map (movT to)) = true := by
 unfold Bx at h ⊢;split at h
 ·rename_i a b e
  rw [J4 hn e, Qh];exact h
 ·cases h
theorem L5 {vars : Int} {s : Stmt} (hn : ∀ x, x ∈ Nq s → PG ps ps' to x) (h : Av vars ps s = true) : Av vars ps' (movS to s) = true := by
 have ht : ∀ t, t ∈ s.ex → t.op = 11 → PG ps ps' to t.n := fun t h1 h2 => hn _ (RL _ (RA.2 ⟨t, List.mem_filter.2 ⟨h1, by simpa using h2⟩, rfl⟩))
 have hE : Bx vars ps s.ex = true → Bx vars ps' (s.ex.map (movT to)) = true := Mw ht
 by_cases k3 : s.kind = 3
 ·have hs := hn s.n (RX _ (by rw [d3, if_pos k3]; simp))
  obtain ⟨q1, q2, q3⟩ := hs
  have h' := h
  unfold Av Aa at h'
  simp [k3] at h'
  unfold Av Aa movS movN Bp
  simp [k3]
  unfold Bp at h';refine ⟨⟨h'.1.1, ⟨q1, by omega⟩, h'.1.2.2⟩, ?_⟩;rw [q3]; exact h'.2
 ·have en : (movS to s).n = s.n := by show movN to s = s.n; rw [movN, if_neg k3]
  have ek : (movS to s).kind = s.kind := rfl
  have ee : (movS to s).ex = s.ex.map (movT to) := rfl
  have el : Bp (movS to s) = Bp s := rfl
  have e4 : (movS to s).els = s.els := rfl
  unfold Av Aa at h ⊢;rw [ek, en, ee, el, e4];rw [if_neg k3] at h ⊢;simp only [if_neg k3, Bool.and_true] at h ⊢;rw [Qh]
  revert h
  cases hg : Bx vars ps s.ex
  ·repeat' split
   all_goals simp
  ·rw [hE hg]
   exact id
theorem Mu (hn : ∀ x, x ∈ OC f.stmts → PG ps ps' to x) (h : BM ps f = true) : BM ps' (movF to f) = true := by
 unfold BM at h ⊢;rw [Qf, Qn] at h;rw [Kz, h.1, Bool.true_and, Qn];intro t ht
 obtain ⟨s, hs, rfl⟩ := RA.1 ht
 exact L5 (fun x hx => hn x (Q7.2 ⟨s, hs, hx⟩)) (h.2 s hs)
end
theorem Oj {q : Prog} (h1 : 1 ≤ q.funcs.length) (h5 : q.funcs.length ≤ 5) (h0 : atI (paramsL q) 0 = 0) (hf : ∀ f, f ∈ q.funcs → BM (paramsL q) f = true) : Au q = true := by
 unfold Au;rw [decide_eq_true (by omega : (1 : Int) ≤ q.funcs.length ∧ (q.funcs.length : Int) ≤ 5), decide_eq_true h0, Bool.true_and, Bool.true_and, Qf];refine ⟨?_, Qn.2 hf⟩;unfold BJ;rw [decide_eq_true (by rw [Ax]; omega), Bool.true_and]
 refine O7 fun x hx => ?_
 obtain ⟨f, hfm, rfl⟩ := RA.1 hx
 have h := DE (hf f hfm)
 unfold Ae DU at h;simp only [Qf, decide_eq_true_eq] at h;exact h.1.1
section
variable {p : Prog} {to : List Int}
theorem IX (hg : Au p = true) {n : Int} (h0 : 0 ≤ n) (h1 : n < p.funcs.length) : BM (paramsL p) (funcAt p n) = true := by
 rw [← AL (by omega)]; exact CG hg _
theorem Po {n : Int} {t : Stmt} (ht : t ∈ (funcAt p n).stmts) {x : Int} (hx : x ∈ Nq t) : x ∈ seqP p n := Q7.2 ⟨t, ht, hx⟩
end
open Go.Eng
theorem Ip (cd : List Int) (hcd : Cc cd) : Fun Try.prog 47 [.t (T.bytes cd)] (A5 [.agg [.t (T.Funcs (pR cd).funcs)]]) := by
 refine Fun.begin tys Try.func47 Z Z (N := 9) [(0, .t (T.bytes cd))] Z Z (fun w0 G F0 => ?_);refine sG (AH tys Z Z (AA Z) Z Z Z (nZ Z (nA (eZ Z ?_))));refine GD (u := 4) 99 Z (fun pv => ?_);refine nZ Z (AG tys Z Z (AA Z) Z Z Z (by kernel_rfl) Z Z Z Z Z Z (Af Z Z (AA Z) Z Z (nZ Z (eZ Z (nA ?_)))));refine Pe (u := 6) (pid := 1006) Z Z (fun bw => ?_);refine nZ Z (eZ Z (AC (Le.close (u := 6) 1006 Z Z Z) (nZ Z ?_)));refine I7 (rid := 99) [6] Z Z (AA Z) Z Z (by repeat (first | exact ResQ.done | refine ResQ.pin0 1006 Z ?_ | refine ResQ.t ?_ | refine ResQ.nil 1 ?_)) Z (by repeat (first | exact trivial | refine ⟨rfl, rfl, ?_⟩)) (by decide) (GC cd cu0 bw pv hcd (by decide) (by decide)) Z Z Z ?_;refine nZ Z (AC (Le.open (u := 6) 1006 Z Z Z Z) (nZ Z (AC (Le.freeze (u := 8) Z) (nZ Z (sT Z (nZ Z (nB (rT (eR ?_)))))))))
 ·rfl
theorem IA {p : Prog} {inp : List Int} {most fuel : Nat} : (DL p inp most fuel).trace.length ≤ fuel := by
 unfold DL;split
 ·rename_i h
  have hg := NN (by unfold DR at h; rw [Qf] at h; exact h.1)
  have hm := Bw hg
  have := ((E7 (inp := inp) hg most fuel).call 0 [] none ⟨0, fuel, 0, []⟩ (by omega) hm.1 (by rw [hm.2]; rfl) (RO _)).le.2.1
  simp only [List.length_nil] at this;show (Co p inp most fuel).2.2.2.trace.length ≤ fuel;unfold Co;omega
 ·exact RO _
theorem Fl {p : Prog} {most fuel : Nat} (hg : Au p = true) (h1 : 1 ≤ most) (h2 : most ≤ 12) (h3 : fuel ≤ 600) : DR p [] most fuel = true := by
 unfold DR Cg;rw [hg, decide_eq_true (show 1 ≤ (most : Int) ∧ (most : Int) ≤ 12 from ⟨by omega, by omega⟩), decide_eq_true h3];rfl
open Go.Eng
theorem Mr (n : Int) (h0 : 0 ≤ n) (hn : n ≤ 1073741824) : Fun Try.prog 84 [.nil, .t (.int n)] (A5 [.own (T.Funcs [])]) := by
 refine Fun.begin tys Try.func84 Z Z (N := 27) [(0, .nil), (1, .t (.int n))] Z Z (fun w0 G F0 => ?_);refine sG (eZ Z (nB (sQ (sG (eK 2 Z (nB ?_))))));refine AD Z (fun h1 => ?_) (fun h1 => ?_)
 ·
  simp only [HS] at h1
  exfalso; first | omega | (simp_all; done) | (simp_all; omega)
 simp only [HS] at h1;refine AE (tN (sQ (sG (eK 2 Z (I6 Z Z (AA Z) Z ⟨72, by kernel_rfl⟩ rfl (eZ Z (evE ?_)))))));refine evI ?_;refine kZ [0,1,4,8,13] Z (evI ?_);refine eZ Z (nA (eK 2 Z (nB ?_)));refine AD Z (fun h2 => ?_) (fun h2 => ?_)
 ·
  simp only [HS] at h2;refine rG (eK 2 Z (I6 Z Z (AA Z) Z ⟨72, by kernel_rfl⟩ rfl (Jq tys Z Z (AA Z) Z Z Z Z Z Z Z (eZ Z (kZ [0,4,20,21] Z ?_)))));refine Lj tys (.agg [.v (.int .i64 0), .v (.int .i64 0), .list 1 [], .list 5 []]) Z Z (AA Z) Z Z Z Z (by kernel_rfl) Z Z (by repeat (first | exact AbsL.nil' | refine AbsL.v' ?_ | refine AbsL.none' ?_)) Z (by decide) (by omega) (by omega) (by decide) ?_;refine nZ Z (eZ Z (evE ?_));refine Db tys Z Z (AA Z) Z Z Z Z Z Z Z Z Z (by omega) (by omega) (by omega) (eZ Z (nA (eK 2 Z (nB (AU (Le.gather (u := 4) (id := 22) Z Z (by simp)) ?_)))));refine rT (eR ?_)
  ·rfl
 simp only [HS] at h2;refine AE (tN (sG (eK 2 Z (nB (AU (Le.nilOwn (u := 4) 4 Z) (rT (eR ?_)))))))
 ·rfl
def PK (l : List (List (Func × List Value))) : List T := l.map fun x => .list 4 (CY x)
theorem MT {C : List (Func × List Value)} (h : ∀ c, c ∈ C → c.2.length = 4) : ∀ x, x ∈ CY C → (T.cells x).length = 4 ∧ ∀ y, y ∈ T.cells x → ∃ v, y = .v v := by
 intro x hx;refine ⟨C8 h x hx, fun y hy => ?_⟩
 obtain ⟨c, _, rfl⟩ := RA.1 hx
 obtain ⟨v, _, rfl⟩ := RA.1 hy
 exact ⟨v, rfl⟩
theorem Lx (a b : List (Func × List Value)) : CY (a ++ b) = CY a ++ CY b := Q8
theorem A8 (a : List (Func × List Value)) : (CY a).length = a.length := Qh ..
theorem Ji (l : List (List (Func × List Value))) (hl : l.length ≤ 1048576) (hs : l.flatten.length ≤ 1048576) (h4 : ∀ x, x ∈ l → ∀ c, c ∈ x → c.2.length = 4) : Fun Try.prog 50 [.t (.list 1 (PK l))] (A5 [.own (.list 4 (CY l.flatten))]) := by
 refine Fun.begin tys Try.func50 Z Z (N := 36) [(0, .t (.list 1 (PK l)))] Z Z (fun w0 G F0 => ?_);refine sG (eZ Z (nA (eZ Z (nB (sQ (sG (eZ Z (evE ?_))))))));refine eZ Z (nB (AF ?_));refine lK (α := Int × Int) [0, 9, 10] [] (fun x => [(11, .t (.int (x.1))), (3, .t (.int (x.2)))]) (fun x => []) (fun x => 0 ≤ (x.1) ∧ (x.1) ≤ l.length ∧ 0 ≤ (x.2) ∧ (x.2) + (l.drop (x.1).toNat).flatten.length = l.flatten.length) (fun x => Int.toNat (l.length - (x.1))) (0, 0) ?_ (fun x hx => ?_)
 ·exact ⟨by omega, by omega, by omega, by simp⟩
 obtain ⟨k, n⟩ := x
 obtain ⟨hk0, hk1, hk2, hk⟩ := hx
 dsimp only at hk0 hk1 hk2 hk ⊢;refine nY Z (sG (eZ Z (nB (sQ ?_))));refine AD Z (fun h1 => ?_) (fun h1 => ?_)
 ·
  simp only [HS] at h1;refine AE (tN (sQ (AF (sG ?_))));refine iY (k := ?_);refine eK 2 Z (nA (eK 2 Z (evE ?_)))
  have hk3 := M1 hk0 h1
  have hk4 := congrArg List.length hk3
  simp only [Qg] at hk4;refine Kt tys Z Z (AA Z) Z (D0 (by omega) (by omega)) (eZ Z (kZ [0,3,5,9,10,11,12,13,14,15,16,17,18] Z (nA (eK 2 Z (nB ?_)))));refine AD Z (fun h2 => ?_) (fun h2 => ?_)
  ·
   simp only [HS] at h2
   exfalso; first | omega | (simp_all; done) | (simp_all; omega)
  simp only [HS] at h2;refine AE (bN (tN (rG (evI ?_))));refine eZ Z (oN ?_);refine lQ (_, _) ?_ ?_
  ·dsimp only
   exact ⟨by omega, by omega, by omega, by omega⟩
  ·(show Int.toNat _ < Int.toNat _); omega
 simp only [HS] at h1;refine AV (tE (AP (AO (tN (sG (eZ Z (AQ ?_)))))));refine ⟨_, Mr _ (by omega) (by omega), rfl, ?_⟩;refine AC (Le.adoptE (u := 24) 24 Z (by first | exact Lq | exact Z)) ?_;refine nZ Z (eZ Z (nB (sQ (sG (eZ Z (evE ?_))))));refine eZ Z (nB (AF ?_));refine lK (α := Int × Nat × List T) [0, 25, 26] [] (fun x => [(27, .t (.int (x.1))), (6, .sl 24 0 (x.2.1))]) (fun x => [(24, .L 4 (x.2.2))]) (fun x => 0 ≤ (x.1) ∧ (x.1) ≤ l.length ∧ (x.2.1) = (x.2.2).length ∧ (x.2.2) = CY (l.take (x.1).toNat).flatten) (fun x => Int.toNat (l.length - (x.1))) (0, 0, []) ?_ (fun x hx => ?_)
 ·exact ⟨by omega, by omega, by simp, by simp [CY]⟩
 obtain ⟨j, m, xs⟩ := x
 obtain ⟨hj0, hj1, hj2, hj3⟩ := hx
 dsimp only at hj0 hj1 hj2 hj3 ⊢;refine nY Z (sG (eZ Z (nB (sQ ?_))));refine AD Z (fun h2 => ?_) (fun h2 => ?_)
 ·
  simp only [HS] at h2;refine AE (tN (sQ (AF (sG ?_))));refine iY (k := ?_);refine eK 2 Z (nB (rG (eK 2 Z (AJ tys Z Z (AA Z) Z Z Z Z Z (.own Z (by first | omega | (simp only [Qg]; omega))) Z (.read (MT (h4 _ (Qr _)))) (by decide) (by have hq := HC (l := l) j.toNat; rw [M1 hj0 (by omega)] at hq; simp only [hj3, A8, Qg, Qo, Qh, List.length_nil] at hq ⊢; omega) (by decide) Z ?_))));refine nZ Z (eZ Z (oN (bN (tN (kY [0,6,8,25,26,27,28,29,30,31,32,33] Z (rG (evI ?_)))))));refine eZ Z (oN ?_);refine lQ (_, _, _) ?_ ?_
  ·dsimp only
   exact ⟨by omega, by omega, by simp [hj2], by rw [hj2, Qi (Qu _), Ig hj0 (by omega), Lx, ← hj3]⟩
  ·(show Int.toNat _ < Int.toNat _); omega
 simp only [HS] at h2;refine AV (tE (AP (AO (tN (sG (eK 2 Z (nB (AU (Le.gather (u := 2) (id := 24) Z Z (by omega)) (rT (eR ?_))))))))))
 ·rw [hj2, Qi (Qu _), hj3, BW (by omega)]
def CT (n : Int) : Func := ⟨0, 0, [0, 1], [⟨3, n + 1, [], [], []⟩, ⟨9, 0, [⟨11, 1⟩], [], []⟩]⟩
def lastF : Func := ⟨0, 0, [0], [⟨2, 0, [⟨10, 0⟩], [], []⟩]⟩
def upL (n : Nat) : List Int := (List.range n).map fun (i : Nat) => (i : Int) + 1
theorem DN (n : Nat) : (upL n).length = n := by simp [upL]
theorem Ny (n : Nat) : upL (n + 1) = upL n ++ [(n : Int) + 1] := by simp [upL, List.range_succ]
theorem PJ (n : Nat) {x : Int} (h0 : 0 ≤ x) (h1 : x < n) : atI (upL n) x = x + 1 := by
 rw [BL h0 (by rw [DN]; exact h1)]
 simp [upL]
 omega
def BA (p : Prog) : Bool := Au p && decide ((p.funcs.length : Int) ≤ 3)
def AN (p : Prog) : Prog := if BA p then ⟨CT p.funcs.length :: (p.funcs.map (movF [1, 2, 3]) ++ [lastF])⟩ else ⟨[]⟩
theorem FR {p : Prog} (h : BA p = false) : [D.agg [D.own (T.list 4 [])], D.t (T.v (.bool false))] = [D.agg [D.own (T.Funcs (AN p).funcs)], D.t (T.bool (BA p))] := by
 rw [AN, h]; rfl
theorem IW {p : Prog} {xs : List T} (h : BA p = true) (hx : xs = (CT p.funcs.length :: (p.funcs.map (movF [1, 2, 3]) ++ [lastF])).map Func.tt) : [D.agg [D.own (T.list 4 xs)], D.t (T.v (.bool true))] = [D.agg [D.own (T.Funcs (AN p).funcs)], D.t (T.bool (BA p))] := by
 rw [AN, h, hx]; rfl
theorem LC {to to' : List Int} {f : Func} (h : ∀ x, x ∈ OC f.stmts → atI to x = atI to' x) : movF to f = movF to' f := by
 unfold movF
 congr 1
 refine List.map_congr_left fun s hs => ?_
 have hS : ∀ x, x ∈ Nq s → atI to x = atI to' x := fun x hx => h x (Q7.2 ⟨s, hs, hx⟩)
 have e1 : movN to s = movN to' s := by
  unfold movN;split
  ·rename_i hk
   exact hS _ (RX _ (by rw [d3, if_pos hk]; simp))
  ·rfl
 have e2 : s.ex.map (movT to) = s.ex.map (movT to') := List.map_congr_left fun t ht => by
  unfold movT;split
  ·rename_i hk
   rw [hS t.n (RL _ (RA.2 ⟨t, List.mem_filter.2 ⟨ht, by simpa using hk⟩, rfl⟩))]
  ·rfl
 unfold movS;rw [e1, e2]
theorem mov_up {p : Prog} (hg : Au p = true) (h3 : (p.funcs.length : Int) ≤ 3) : p.funcs.map (movF (upL p.funcs.length)) = p.funcs.map (movF [1, 2, 3]) := by
 refine List.map_congr_left fun f hf => LC fun x hx => ?_
 have := Ex hg (DN _) f hf x hx
 rw [DN] at this;rw [PJ _ this.1 this.2, show ([1, 2, 3] : List Int) = upL 3 from rfl, PJ 3 this.1 (by omega)]
theorem EG (p : Prog) (hp : p.ok 1048576) : Fun Try.prog 16 [.t p.tt] (A5 [.agg [.own (T.Funcs (AN p).funcs)], .t (.bool (BA p))]) := by
  have hpl : p.funcs.length ≤ 1048576 := hp.1.1
  refine Fun.begin tys Try.func16 Z Z (N := 76) [(0, .t p.tt)] Z Z (fun w0 G F0 => ?_);refine sG (Af Z Z (AA Z) Z Z (nZ Z (AH tys Z Z (AA Z) Z Z Z (nZ Z (eZ Z (nA (eK 2 Z (evE ?_))))))));refine eZ Z (nB (sQ (sQ (kY [1,2,3,4] Z (rG (eZ Z ?_))))))
  try refine AC (Le.freeze (u := 15) rfl) ?_
  refine nZ Z (AQ ?_);refine ⟨_, FC p hp, rfl, ?_⟩;refine eK 2 Z ?_;refine gB (fun h1 => ?_) (fun h1 => ?_)
  ·
    simp only [HS] at h1;refine xK 2 Z (nB (AY Z (sG (AG tys Z Z (AA Z) Z Z Z (by kernel_rfl) Z Z Z Z Z Z (sT Z (nZ Z (eZ Z (kZ [1,2,3,4] Z (nB ?_)))))))))
    try (refine AU (Le.nilBox (u := 2) (j := 0) 4 rfl rfl) ?_; refine A2 rfl ?_)
    refine rT (tR (eR ?_))
    · first
      | exact FR (by rw [BA, h1]; rfl)
  simp only [HS] at h1;refine xK 3 Z (nB ?_);refine AD Z (fun h2 => ?_) (fun h2 => ?_)
  ·
    simp only [HS] at h2;refine sQ (kY [1,2,3,4] Z (rG (AG tys Z Z (AA Z) Z Z Z (by kernel_rfl) Z Z Z Z Z Z (sT Z (nZ Z (eZ Z (nB ?_)))))))
    try (refine AU (Le.nilBox (u := 2) (j := 0) 4 rfl rfl) ?_; refine A2 rfl ?_)
    refine rT (tR (eR ?_))
    · first
      | exact FR (by rw [BA, h1, decide_eq_false (by omega)]; rfl)
  simp only [HS] at h2;refine AE (tN (sQ (kY [1,2,3,4] Z (rG (eZ Z (AC (Le.nilOwn (u := 5) 1 Z) (AC (Le.adoptE (u := 5) 5 Z Z) (nZ Z (nB (sQ (sG (eK 2 Z (evE ?_)))))))))))));refine eZ Z (nB (AF ?_));refine lK (α := Int × Nat × List T) [1, 2, 3, 4, 24, 25] [1, 2] (fun x => [(26, .t (.int (x.1))), (5, .sl 5 0 (x.2.1))]) (fun x => [(5, .L 1 (x.2.2))]) (fun x => 0 ≤ (x.1) ∧ (x.1) ≤ p.funcs.length ∧ (x.2.1) = (x.2.2).length ∧ (x.2.2) = (upL (x.1).toNat).map T.int) (fun x => Int.toNat (p.funcs.length - (x.1))) (0, 0, []) ?_ (fun x hx => ?_)
  · exact ⟨by omega, by omega, rfl, rfl⟩
  obtain ⟨k, m, ws⟩ := x
  obtain ⟨hk0, hk1, hm, hws⟩ := hx
  dsimp only at hk0 hk1 hm hws ⊢;refine nY Z (sG (eZ Z (nB (sQ ?_))));refine AD Z (fun h3 => ?_) (fun h3 => ?_)
  ·
    simp only [HS] at h3;refine AE (tN (sQ (AF (sG (eK 2 Z (nB (rG (eK 2 Z (evI ?_)))))))));refine bZ [T.int (k + 1)] ?_;refine nZ Z (AJ tys Z Z (AA Z) Z Z Z Z Z (.own Z (by first | omega | (simp only [Qg]; omega))) Z (.own Z (by first | decide | omega)) (by decide) (by simp only [Qo, Qk, List.length_nil]; rw [hws, Qh, DN]; omega) (by decide) Z ?_);refine nZ Z (eZ Z (kZ [1,2,3,4,5,6,24,25,26,27,28,29,30,31,32,33] Z (oN (bN (tN (rG (evI ?_)))))));refine eZ Z (oN ?_);refine lQ (_, _, _) ?_ ?_
    · dsimp only
      subst hm;refine ⟨by omega, by omega, by simp, ?_⟩;rw [Qt, hws, show (k + 1).toNat = k.toNat + 1 from by omega, Ny, Q8, show ((k.toNat : Nat) : Int) = k from by omega];rfl
    · (show Int.toNat _ < Int.toNat _); omega
  simp only [HS] at h3;refine AV (tE (AP (AO (tN (sG ?_)))))
  have hws' : ws.take m = (upL p.funcs.length).map T.int := by rw [hm, Qt, hws, show k.toNat = p.funcs.length from by omega]
  refine nZ Z (AC (Le.gather (u := 5) (id := 5) Z Z (by omega)) ?_);rw [hws'];refine nZ Z (AC (Le.freeze (u := 5) Z) (nZ Z (bZ [T.int 0, T.int 1] ?_)));refine nZ Z (AC (Le.gather (u := 35) (id := 35) Z Z (by first | (simp; done) | (simp; omega) | omega)) ?_);refine nZ Z (eZ Z (evI ?_));refine AG tys Z Z (AA Z) Z Z Z (by kernel_rfl) Z Z Z Z Z Z (AG tys Z Z (AA Z) Z Z Z (by kernel_rfl) Z Z Z Z Z Z (bZ [(Tok.tt ⟨11, 1⟩)] ?_));refine nZ Z (AC (Le.gather (u := 40) (id := 40) Z Z (by first | (simp; done) | (simp; omega) | omega)) ?_);refine nZ Z (AG tys Z Z (AA Z) Z Z Z (by kernel_rfl) Z Z Z Z Z Z (bZ [(Stmt.tt ⟨3, (p.funcs.length : Int) + 1, [], [], []⟩), (Stmt.tt ⟨9, 0, [⟨11, 1⟩], [], []⟩)] ?_));refine nZ Z (AC (Le.gather (u := 42) (id := 42) Z Z (by first | (simp; done) | (simp; omega) | omega)) ?_);refine nZ Z (kZ [1,2,3,5,35,42] Z (AG tys Z Z (AA Z) Z Z Z (by kernel_rfl) Z Z Z Z Z Z (AH tys Z Z (AA Z) Z Z Z (nZ Z (sT Z (nZ Z (nA (Ak tys Z Z (AA Z) Z Z Z Z Z Z (nZ Z (bZ [(CT p.funcs.length).tt] ?_))))))))));refine nZ Z (AG tys Z Z (AA Z) Z Z Z (by kernel_rfl) Z Z Z Z Z Z (AH tys Z Z (AA Z) Z Z Z (nZ Z (sT Z (nZ Z (nB (sQ (sQ (kY [1,2,3,5,8] Z (rG (eK 2 Z (evE ?_))))))))))));refine eZ Z (nB (AF ?_));refine lK (α := Int × Nat × List T) [2, 3, 5, 8, 48, 49] [2] (fun x => [(50, .t (.int (x.1)))]) (fun x => [(8, .box [.sl 45 0 (x.2.1)]), (45, .L 4 (x.2.2))]) (fun x => 0 ≤ (x.1) ∧ (x.1) ≤ p.funcs.length ∧ (x.2.1) = (x.2.2).length ∧ (x.2.2) = (CT p.funcs.length :: (p.funcs.take (x.1).toNat).map (movF (upL p.funcs.length))).map Func.tt) (fun x => Int.toNat (p.funcs.length - (x.1))) (0, 1, [(CT p.funcs.length).tt]) ?_ (fun x hx => ?_)
  · exact ⟨by omega, by omega, rfl, rfl⟩
  obtain ⟨j, m2, xs⟩ := x
  obtain ⟨hj0, hj1, hm2, hxs⟩ := hx
  dsimp only at hj0 hj1 hm2 hxs ⊢;refine nY Z (sG (eZ Z (nB (sQ ?_))));refine AD Z (fun h4 => ?_) (fun h4 => ?_)
  ·
    simp only [HS] at h4;refine AE (tN (sQ (AF (sG ?_))));refine iY (k := ?_);refine eZ Z ?_
    try refine AC (Le.freeze (u := 53) rfl) ?_
    refine nZ Z (AH tys Z Z (AA Z) Z Z Z (nZ Z (sT Z (nZ Z (nB (C0 6 A9 Z (by kernel_rfl) (by kernel_rfl) (QG_ev tys Z Z (AA Z) Z (DI Z (QG_ev tys Z Z (AA Z) Z (QG_evZ tys Z Z (AA Z) Z Z (QG_ev tys Z Z (AA Z) Z (FD ?_))))))))))));refine ⟨_, IM (p.funcs[j.toNat]'(by omega)) (upL p.funcs.length) (DG hp (by omega)) (Ex h1 (DN _) _ (Qr _)) (by rw [DN]; omega), rfl, ?_⟩;refine Dc tys [(movF (upL p.funcs.length) (p.funcs[j.toNat]'(by omega))).tt] Z Z (AA Z) Z Z Z Z Z (AA Z) (by repeat (first | exact PartsOk.nil' | refine PartsOk.cons' rfl (by repeat (first | exact AbsL.nil' | refine AbsL.v' ?_ | refine AbsL.own' ?_ | refine AbsL.none' ?_)) Z ?_)) Z Z Z (by decide) ?_;refine AI ?_;refine ⟨by kernel_rfl, ?_⟩;refine nZ Z (AC (Le.adoptE (u := 59) 59 Z Z) (nZ Z (AJ tys Z Z (AA Z) Z Z Z Z Z (.own Z (by first | omega | (simp only [Qg]; omega))) Z (.own Z (by first | decide | omega)) (by decide) (by simp only [Qo, Qk, List.length_nil]; rw [hxs, Qh, Qk, Qh, Qo]; omega) (by decide) Z ?_)));refine nZ Z (eZ Z (sT Z (nZ Z (oN (bN (tN (rG (evI ?_))))))));refine eZ Z (oN ?_);refine lQ (_, _, _) ?_ ?_
    · dsimp only
      subst hm2;refine ⟨by omega, by omega, by simp, ?_⟩;rw [Qt, hxs, CD hj0 (by omega), Q8, Q4, Q4, Q8, Q4, List.map_nil];rfl
    · (show Int.toNat _ < Int.toNat _); omega
  simp only [HS] at h4;refine AV (tE (AP (AO (tN (sG (bZ [T.int 0] ?_))))));refine nZ Z (AC (Le.gather (u := 63) (id := 63) Z Z (by first | (simp; done) | (simp; omega) | omega)) ?_);refine nZ Z (AG tys Z Z (AA Z) Z Z Z (by kernel_rfl) Z Z Z Z Z Z (bZ [(Tok.tt ⟨10, 0⟩)] ?_));refine nZ Z (AC (Le.gather (u := 65) (id := 65) Z Z (by first | (simp; done) | (simp; omega) | omega)) ?_);refine nZ Z (AG tys Z Z (AA Z) Z Z Z (by kernel_rfl) Z Z Z Z Z Z (bZ [(Stmt.tt ⟨2, 0, [⟨10, 0⟩], [], []⟩)] ?_));refine nZ Z (AC (Le.gather (u := 67) (id := 67) Z Z (by first | (simp; done) | (simp; omega) | omega)) ?_);refine nZ Z (AG tys Z Z (AA Z) Z Z Z (by kernel_rfl) Z Z Z Z Z Z (AH tys Z Z (AA Z) Z Z Z (nZ Z (sT Z (nZ Z (kZ [2,3,8,11] Z (nA (eK 2 Z (Ak tys Z Z (AA Z) Z Z Z Z Z Z (nZ Z (bZ [lastF.tt] ?_)))))))))));refine nZ Z (AJ tys Z Z (AA Z) Z Z Z Z Z (.own Z (by first | omega | (simp only [Qg]; omega))) Z (.own Z (by first | decide | omega)) (by decide) (by simp only [Qo, Qk, List.length_nil]; rw [hxs, Qh, Qk, Qh, Qo]; omega) (by decide) Z ?_);refine nZ Z (eZ Z (sT Z (nZ Z (nB (sQ (kY [2,3,8] Z (rG (nZ Z (AC (Le.gatherBox (u := 8) (j := 0) (id := 45) Z Z Z (by simp) Z) ?_)))))))));refine nZ Z (Ak tys Z Z (AA Z) Z Z Z Z Z Z (nZ Z (sT Z (nZ Z (eZ Z (nB ?_))))))
  try (refine AU (Le.nilBox (u := 2) (j := 0) 4 rfl rfl) ?_; refine A2 rfl ?_)
  refine rT (eR ?_)
  · first
    | exact IW (by rw [BA, h1, decide_eq_true h2]; rfl) (by
       rw [← mov_up h1 h2, hm2, Qt, ← Qg, Qt, hxs, BW (by omega), ← RT, Q8]; rfl)
theorem G9 (p : Prog) (hp : p.ok 1048576) : Fun Try.prog 15 [.t p.tt] (A5 [.agg [.own (T.Funcs (AN p).funcs)], .t (.bool (BA p))]) := by
  have hpl : p.funcs.length ≤ 1048576 := hp.1.1
  refine Fun.begin tys Try.func15 Z Z (N := 50) [(0, .t p.tt)] Z Z (fun w0 G F0 => ?_);refine sG (Af Z Z (AA Z) Z Z (nZ Z (AH tys Z Z (AA Z) Z Z Z (nZ Z (eZ Z (nB (sQ (sG (eZ Z ?_)))))))))
  try refine AC (Le.freeze (u := 8) rfl) ?_
  refine nZ Z (AQ ?_);refine ⟨_, Dm p hp, rfl, ?_⟩;refine eK 2 Z ?_;refine gB (fun h1 => ?_) (fun h1 => ?_)
  ·
    simp only [HS] at h1;refine xK 2 Z (kZ [1,2,3,11,14] Z (xK 2 Z (nB (AY Z (sG (AG tys Z Z (AA Z) Z Z Z (by kernel_rfl) Z Z Z Z Z Z (sT Z (nZ Z (eZ Z (nB ?_))))))))))
    try (refine AU (Le.nilBox (u := 2) (j := 0) 4 rfl rfl) ?_; refine A2 rfl ?_)
    refine rT (tR (eR ?_))
    · first
      | exact FR (by rw [BA, h1]; rfl)
  simp only [HS] at h1;refine xK 2 Z (kZ [1,2,3,11,13] Z (gY Z (evE ?_)));refine xK 2 Z (nB ?_);refine AD Z (fun h2 => ?_) (fun h2 => ?_)
  ·
    simp only [HS] at h2;refine sG (AG tys Z Z (AA Z) Z Z Z (by kernel_rfl) Z Z Z Z Z Z (sT Z (nZ Z (eZ Z (nB ?_)))))
    try (refine AU (Le.nilBox (u := 2) (j := 0) 4 rfl rfl) ?_; refine A2 rfl ?_)
    refine rT (tR (eR ?_))
    · first
      | exact FR (by rw [BA, h1, decide_eq_false (by omega)]; rfl)
  simp only [HS] at h2;refine AE (tN (sG (eK 2 Z (evE ?_))));refine evI ?_;refine eZ Z (nB (sQ (kY [1,2,3,4] Z (rG (eZ Z ?_)))))
  try refine AC (Le.freeze (u := 22) rfl) ?_
  refine nZ Z (AQ ?_);refine ⟨_, HH p hp, rfl, ?_⟩;refine AH tys Z Z (AA Z) Z Z Z (nZ Z (sT Z (nZ Z (nA (nZ Z ?_)))));refine I4 (u := 5) (idp := 134) (j := 0) Z Z Z (fun v => ?_);refine nZ Z (eZ Z (nZ Z (bZ [T.int 1, T.int 2, T.int 3] ?_)));refine nZ Z (AC (Le.gather (u := 25) (id := 25) Z Z (by first | (simp; done) | (simp; omega) | omega)) ?_);refine nZ Z (AC (Le.freeze (u := 25) Z) (nZ Z (NU (id := 134) (us := [v]) Z Z (AA Z) Z Z Z Z Z Z Z (K7 p [1, 2, 3] hp (fun f hf x hx => by have := Ex h1 (DN _) f hf x hx; rw [DN] at this; simp; omega) (by simp)) ?_)));refine nZ Z (AC (Le.claimBox (u := 5) (idp := 134) (j := 0) Z Z Z Z) (nZ Z (nB (sQ (kY [2,3,4,5] Z (rG (bZ [T.int 0, T.int 1] ?_)))))));refine nZ Z (AC (Le.gather (u := 27) (id := 27) Z Z (by first | (simp; done) | (simp; omega) | omega)) ?_);refine nZ Z (eZ Z (AG tys Z Z (AA Z) Z Z Z (by kernel_rfl) Z Z Z Z Z Z (AG tys Z Z (AA Z) Z Z Z (by kernel_rfl) Z Z Z Z Z Z (bZ [(Tok.tt ⟨11, 1⟩)] ?_))));refine nZ Z (AC (Le.gather (u := 31) (id := 31) Z Z (by first | (simp; done) | (simp; omega) | omega)) ?_);refine nZ Z (AG tys Z Z (AA Z) Z Z Z (by kernel_rfl) Z Z Z Z Z Z (bZ [(Stmt.tt ⟨3, (p.funcs.length : Int) + 1, [], [], []⟩), (Stmt.tt ⟨9, 0, [⟨11, 1⟩], [], []⟩)] ?_));refine nZ Z (AC (Le.gather (u := 33) (id := 33) Z Z (by first | (simp; done) | (simp; omega) | omega)) ?_);refine nZ Z (AG tys Z Z (AA Z) Z Z Z (by kernel_rfl) Z Z Z Z Z Z (AH tys Z Z (AA Z) Z Z Z (nZ Z (kZ [2,3,5,6,34] Z (sT Z (nZ Z (nA (bZ [T.int 0] ?_))))))));refine nZ Z (AC (Le.gather (u := 35) (id := 35) Z Z (by first | (simp; done) | (simp; omega) | omega)) ?_);refine nZ Z (AG tys Z Z (AA Z) Z Z Z (by kernel_rfl) Z Z Z Z Z Z (bZ [(Tok.tt ⟨10, 0⟩)] ?_));refine nZ Z (AC (Le.gather (u := 37) (id := 37) Z Z (by first | (simp; done) | (simp; omega) | omega)) ?_);refine nZ Z (AG tys Z Z (AA Z) Z Z Z (by kernel_rfl) Z Z Z Z Z Z (bZ [(Stmt.tt ⟨2, 0, [⟨10, 0⟩], [], []⟩)] ?_));refine nZ Z (AC (Le.gather (u := 39) (id := 39) Z Z (by first | (simp; done) | (simp; omega) | omega)) ?_);refine nZ Z (AG tys Z Z (AA Z) Z Z Z (by kernel_rfl) Z Z Z Z Z Z (AH tys Z Z (AA Z) Z Z Z (nZ Z (sT Z (nZ Z (kZ [2,3,5,6,7] Z (nA (Ak tys Z Z (AA Z) Z Z Z Z Z Z (nZ Z (bZ [(CT p.funcs.length).tt] ?_))))))))));refine nZ Z (nZ Z (AC (Le.adoptBox (u := 5) (j := 0) (id := 144) Z Z Z) (nZ Z (eK 2 Z (Ak tys Z Z (AA Z) Z Z Z Z Z Z (nZ Z (bZ [lastF.tt] ?_)))))));refine nZ Z (nZ Z ?_);refine Du (id := 42) (idp := 142) Z Z (fun vs1 hvs1 => ?_)
  obtain ⟨C1, hC1, hD1, rfl⟩ := cutV (l := [CT p.funcs.length]) (vs := vs1) (n := 4) (by rw [hvs1]; rfl)
  have hl1 : C1.length = 1 := by have := congrArg List.length hC1; simpa using this
  refine ⟨CY C1, De C1, by rw [A8, hl1]; rfl, C8 hD1, ?_⟩;refine nZ Z ?_;refine Du (id := 144) (idp := 145) Z Z (fun vs2 hvs2 => ?_)
  obtain ⟨C2, hC2, hD2, rfl⟩ := cutV (l := p.funcs.map (movF [1, 2, 3])) (vs := vs2) (n := 4) (by rw [hvs2, Qh])
  have hl2 : C2.length = p.funcs.length := by have := congrArg List.length hC2; simpa using this
  refine ⟨CY C2, De C2, by simp [A8, hl2], C8 hD2, ?_⟩;refine nZ Z ?_;refine Du (id := 46) (idp := 146) Z Z (fun vs3 hvs3 => ?_)
  obtain ⟨C3, hC3, hD3, rfl⟩ := cutV (l := [lastF]) (vs := vs3) (n := 4) (by rw [hvs3]; rfl)
  have hl3 : C3.length = 1 := by have := congrArg List.length hC3; simpa using this
  refine ⟨CY C3, De C3, by rw [A8, hl3]; rfl, C8 hD3, ?_⟩;refine nZ Z (AC (Le.rawJoin (p := 142) (q := 145) Z Z Z) (nZ Z (AC (Le.rawJoin (p := 142) (q := 146) Z Z Z) (nZ Z (AC (Le.gather (u := 42) (id := 42) Z Z (by rw [A8, hl1]; exact Qu _)) ?_)))));refine nZ Z (AC (Le.gather (u := 44) (id := 144) Z Z (by rw [A8, hl2]; simp)) ?_);refine nZ Z (AC (Le.gather (u := 46) (id := 46) Z Z (by rw [A8, hl3]; exact Qu _)) ?_);refine nZ Z (bZ [(T.list 4 ((CY C1).take 1)), (T.list 4 ((CY C2).take ((p.funcs.map (movF [1, 2, 3])).map Func.tt).length)), (T.list 4 ((CY C3).take 1))] ?_);refine nZ Z (AC (Le.gather (u := 47) (id := 47) Z Z (by first | (simp; done) | (simp; omega) | omega)) ?_);refine nZ Z (AC (Le.freeze (u := 47) Z) (nZ Z (AQ ?_)))
  refine ⟨_, Fun.arg0 (Ji [C1, C2, C3] (by simp) (by simp only [List.flatten_cons, List.flatten_nil, Qg, List.length_nil]; omega) (by
   intro x hx;simp only [Qp, List.not_mem_nil, or_false] at hx
   rcases hx with rfl | rfl | rfl
   · exact hD1
   · exact hD2
   · exact hD3)) (by
   show T.list 1 [T.list 4 ((CY C1).take 1), T.list 4 ((CY C2).take ((p.funcs.map (movF [1, 2, 3])).map Func.tt).length), T.list 4 ((CY C3).take 1)] = _;rw [Qi (by rw [A8]; omega), Qi (by rw [A8]; simp; omega), Qi (by rw [A8]; omega)]
   rfl), rfl, ?_⟩
  refine AC (Le.adoptE (u := 48) 48 Z (by first | exact Lq | exact Z)) ?_;refine nZ Z (nZ Z (AC (Le.claimAll (id := 48) (idp := 142) (xs := (CT p.funcs.length :: (p.funcs.map (movF [1, 2, 3]) ++ [lastF])).map Func.tt) (ys := CY [C1, C2, C3].flatten) Z Z (by rw [De]; simp [Ra]) (by simp [Ra]) (by rw [A8]; simp; omega) (Iu _) Z) ?_));refine nZ Z (AC (Le.gather (u := 48) (id := 48) Z Z (by simp [A8]; omega)) ?_);refine nZ Z (AG tys Z Z (AA Z) Z Z Z (by kernel_rfl) Z Z Z Z Z Z (kZ [2,3,49] Z (sT Z (nZ Z (eZ Z (nB ?_))))))
  try (refine AU (Le.nilBox (u := 2) (j := 0) 4 rfl rfl) ?_; refine A2 rfl ?_)
  refine rT (eR ?_)
  · first
    | exact IW (by rw [BA, h1, decide_eq_true h2]; rfl) (Qi (by simp [A8]; omega))
end Go.Proofs.Ytddfnpiikkilhaa
