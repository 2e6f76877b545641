/- A good program is good still without a statement and all in it. -/
import Derived.Test.YtimpganophnehaaGreatHb
import Derived.Test.YtimpganophnehaaGreatGq
import Derived.Test.YtimpganophnehaaGreatGf
import Derived.Test.YtimpganophnehaaGreatGea
import Derived.Test.YtimpganophnehaaGreatFr
import Derived.Test.YtimpganophnehaaGreatFp
import Derived.Test.YtimpganophnehaaGreatMd
import Derived.Test.YtimpganophnehaaGreatIa
set_option linter.unusedVariables false
set_option linter.unusedSimpArgs false
set_option maxRecDepth 10000
set_option maxHeartbeats 1000000
namespace Go.Proofs.YtimpganophnehaaGreat
open Go.Eng

def rr (s : Int) (g : Nat) (n : Int) : Int := if n < s then n else n - g
def leftZ (s : Int) (g : Nat) (x : Stmt) : Stmt := ⟨x.kind, x.n, x.ex, leftI s g x.thn, leftI s g x.els⟩
def stmZ (s : Int) (g : Nat) (l : List Stmt) : List Stmt := (l.take s.toNat ++ l.drop (s.toNat + g)).map (leftZ s g)
theorem leftI_cons (s : Int) (g : Nat) (n : Int) (b : List Int) : leftI s g (n :: b) = (if n < s then [n] else if s + g ≤ n then [n - g] else []) ++ leftI s g b := rfl
theorem leftI_app (s : Int) (g : Nat) (a b : List Int) : leftI s g (a ++ b) = leftI s g a ++ leftI s g b := by unfold leftI; rw [List.flatMap_append]
theorem leftI_mem {s : Int} {g : Nat} {b : List Int} {x : Int} : x ∈ leftI s g b ↔ ∃ n, n ∈ b ∧ (n < s ∨ s + g ≤ n) ∧ x = rr s g n := by
 unfold leftI
 rw [List.mem_flatMap]
 constructor
 ·rintro ⟨n, hn, hx⟩
  refine ⟨n, hn, ?_⟩
  unfold rr
  split at hx
  ·rename_i h; simp at hx; exact ⟨.inl h, by rw [if_pos h]; exact hx⟩
  ·rename_i h
   split at hx
   ·rename_i h2; simp at hx; exact ⟨.inr h2, by rw [if_neg h]; exact hx⟩
   ·simp at hx
 ·rintro ⟨n, hn, h, rfl⟩
  refine ⟨n, hn, ?_⟩
  unfold rr
  by_cases hs : n < s
  ·rw [if_pos hs, if_pos hs]; simp
  ·rw [if_neg hs, if_neg hs, if_pos (by omega)]; simp
theorem leftI_in {s : Int} {g : Nat} {b : List Int} {n : Int} (h : n < s ∨ s + g ≤ n) : leftI s g (n :: b) = rr s g n :: leftI s g b := by
 rw [leftI_cons]
 unfold rr
 by_cases hs : n < s
 ·rw [if_pos hs, if_pos hs]; rfl
 ·rw [if_neg hs, if_neg hs, if_pos (by omega)]; rfl
theorem leftI_gone {s : Int} {g : Nat} : ∀ {b : List Int}, (∀ x, x ∈ b → s ≤ x ∧ x < s + g) → leftI s g b = []
 | [], _ => rfl
 | n :: b, h => by
  have h1 := h n (by simp)
  rw [leftI_cons, if_neg (by omega), if_neg (by omega), leftI_gone fun x hx => h x (by simp [hx])]
  rfl

section
variable {f : Func} {s : Int} {g : Nat}
theorem stmZ_len (h0 : 0 ≤ s) (h2 : s + g ≤ f.stmts.length) : (stmZ s g f.stmts).length + g = f.stmts.length := by
 unfold stmZ
 simp only [List.length_map, List.length_append, List.length_take, List.length_drop]
 omega
theorem rr_rng {n : Int} (h0 : 0 ≤ s) (h : n < s ∨ s + g ≤ n) (hn0 : 0 ≤ n) (hn1 : n < f.stmts.length) (h2 : s + g ≤ f.stmts.length) : 0 ≤ rr s g n ∧ rr s g n < (stmZ s g f.stmts).length := by
 have := stmZ_len (f := f) h0 h2
 unfold rr
 split <;> omega
theorem stmZ_at {n : Int} (h0 : 0 ≤ s) (h : n < s ∨ s + g ≤ n) (hn0 : 0 ≤ n) (hn1 : n < f.stmts.length) (h2 : s + g ≤ f.stmts.length) : (stmZ s g f.stmts)[(rr s g n).toNat]? = some (leftZ s g (f.stmts[n.toNat]'(by omega))) := by
 unfold stmZ rr
 rw [List.getElem?_map]
 by_cases hs : n < s
 ·rw [if_pos hs, List.getElem?_append_left (by rw [List.length_take]; omega), List.getElem?_take_of_lt (by omega), List.getElem?_eq_getElem (by omega)]
  rfl
 ·rw [if_neg hs, List.getElem?_append_right (by rw [List.length_take]; omega), List.getElem?_drop, List.length_take, show s.toNat + g + ((n - g).toNat - min s.toNat f.stmts.length) = n.toNat from by omega, List.getElem?_eq_getElem (by omega)]
  rfl
theorem kidsZ {n : Int} (h0 : 0 ≤ s) (h : n < s ∨ s + g ≤ n) (hn0 : 0 ≤ n) (hn1 : n < f.stmts.length) (h2 : s + g ≤ f.stmts.length) : kids (stmZ s g f.stmts) (rr s g n) = (leftI s g (kids f.stmts n).1, leftI s g (kids f.stmts n).2) := by
 have h' := stmZ_at h0 h hn0 hn1 h2
 rw [kids_at (l := f.stmts) (by omega)]
 unfold kids
 rw [h']
 rfl
theorem old_of {m : Int} (h0 : 0 ≤ s) (h2 : s + g ≤ f.stmts.length) (hm0 : 0 ≤ m) (hm1 : m < (stmZ s g f.stmts).length) : ∃ n, (n < s ∨ s + g ≤ n) ∧ 0 ≤ n ∧ n < f.stmts.length ∧ rr s g n = m := by
 have hl := stmZ_len (f := f) h0 h2
 by_cases h : m < s
 ·exact ⟨m, .inl h, hm0, by omega, by unfold rr; rw [if_pos h]⟩
 ·exact ⟨m + g, .inr (by omega), by omega, by omega, by unfold rr; rw [if_neg (by omega)]; omega⟩
theorem inB_left {i : Int} {b : List Int} (h0 : 0 ≤ s) (h2 : s + g ≤ f.stmts.length) (hi : 0 ≤ i) (hb : inB f.stmts.length i b) : inB (stmZ s g f.stmts).length 0 (leftI s g b) := fun x hx => by
 obtain ⟨n, hn, h, rfl⟩ := leftI_mem.1 hx
 have := hb n hn
 exact rr_rng h0 h (by omega) this.2 h2
theorem downZ (h0 : 0 ≤ s) (h2 : s + g ≤ f.stmts.length) (hd : downB f.stmts.length (kids f.stmts)) : downB (stmZ s g f.stmts).length (kids (stmZ s g f.stmts)) := by
 intro m hm0 hm1
 obtain ⟨n, hn, hn0, hn1, rfl⟩ := old_of h0 h2 hm0 hm1
 rw [kidsZ h0 hn hn0 hn1 h2]
 have hk := hd n hn0 hn1
 have key : ∀ b, inB f.stmts.length (n + 1) b → inB (stmZ s g f.stmts).length (rr s g n + 1) (leftI s g b) := fun b hb x hx => by
  obtain ⟨y, hy, h, rfl⟩ := leftI_mem.1 hx
  have h3 := hb y hy
  have h4 := rr_rng (f := f) h0 h (by omega) h3.2 h2
  refine ⟨?_, h4.2⟩
  unfold rr
  split <;> split <;> omega
 exact ⟨key _ hk.1, key _ hk.2⟩
theorem count_two {l : List Int} {F : Int → List Int} {x n m : Int} (hn : n ∈ l) (hm : m ∈ l) (hne : n ≠ m) (h1 : x ∈ F n) (h2 : x ∈ F m) : 2 ≤ (l.flatMap F).count x := by
 induction l with
 | nil => simp at hn
 | cons y l ih =>
  rw [List.flatMap_cons, List.count_append]
  have pos : ∀ k, k ∈ l → x ∈ F k → 1 ≤ (l.flatMap F).count x := fun k hk hx => List.count_pos_iff.2 (List.mem_flatMap.2 ⟨k, hk, hx⟩)
  rcases List.mem_cons.1 hn with e | hn'
  ·subst e
   have hm' := (List.mem_cons.1 hm).resolve_left (Ne.symm hne)
   have := pos m hm' h2
   have := List.count_pos_iff.2 h1
   omega
  ·rcases List.mem_cons.1 hm with e | hm'
   ·subst e
    have := pos n hn' h1
    have := List.count_pos_iff.2 h2
    omega
   ·have := ih hn' hm'
    omega
theorem enter (hsh : shapeF f = true) (h0 : 0 ≤ s) (h1 : s < f.stmts.length) (hg : g = goneN f s) : (∀ n : Int, 0 ≤ n → n < f.stmts.length → (n < s ∨ s + g ≤ n) → ∀ x, x ∈ both (kids f.stmts) n → s ≤ x → x < s + g → x = s) ∧ ∀ x, x ∈ f.body → s ≤ x → x < s + g → x = s := by
 obtain ⟨hd, hb, ho⟩ := shapeF_iff hsh
 obtain ⟨g1, g2, g3⟩ := gone_run hsh h0 h1
 rw [← hg] at g1 g3
 obtain ⟨o1, _, _⟩ := once_of_ord hd hb ho
 have hin1 : inB f.stmts.length 0 [s] := fun x hx => by rw [List.mem_singleton] at hx; subst hx; exact ⟨h0, h1⟩
 have par : ∀ x, s ≤ x → x < s + g → ¬ x = s → ∃ m, (s ≤ m ∧ m < s + g) ∧ x ∈ both (kids f.stmts) m := fun x hx1 hx2 hne => by
  have hc := ord_count hd hin1 x
  have e : ord f.stmts.length (kids f.stmts) [s] = run s g := g1
  rw [e] at hc
  have hx : 1 ≤ (run s g).count x := List.count_pos_iff.2 (mem_run.2 ⟨hx1, hx2⟩)
  have hz : [s].count x = 0 := List.count_eq_zero_of_not_mem (by simpa using hne)
  have hp : 0 < ((run s g).flatMap (both (kids f.stmts))).count x := by omega
  obtain ⟨m, hm, hxm⟩ := List.mem_flatMap.1 (List.count_pos_iff.1 hp)
  exact ⟨m, mem_run.1 hm, hxm⟩
 refine ⟨fun n hn0 hn1 hn x hx hx1 hx2 => Classical.byContradiction fun hne => ?_, fun x hx hx1 hx2 => Classical.byContradiction fun hne => ?_⟩
 ·obtain ⟨m, hm, hxm⟩ := par x hx1 hx2 hne
  have h2 := o1 x (by omega) (by omega)
  unfold allB at h2
  rw [List.count_append] at h2
  have h3 := count_two (l := upto f.stmts.length) (F := both (kids f.stmts)) (x := x) (n := n) (m := m) (mem_upto.2 ⟨hn0, hn1⟩) (mem_upto.2 ⟨by omega, by omega⟩) (by omega) hx hxm
  omega
 ·obtain ⟨m, hm, hxm⟩ := par x hx1 hx2 hne
  have h2 := o1 x (by omega) (by omega)
  unfold allB at h2
  rw [List.count_append] at h2
  have h3 : 1 ≤ f.body.count x := List.count_pos_iff.2 hx
  have h4 : 1 ≤ ((upto f.stmts.length).flatMap (both (kids f.stmts))).count x := List.count_pos_iff.2 (List.mem_flatMap.2 ⟨m, mem_upto.2 ⟨by omega, by omega⟩, hxm⟩)
  omega
theorem left_ord (hsh : shapeF f = true) (h0 : 0 ≤ s) (h1 : s < f.stmts.length) (hg : g = goneN f s) {b : List Int} (hb : inB f.stmts.length 0 b) (hc : ∀ x, x ∈ b → s ≤ x → x < s + g → x = s) :
  leftI s g (ord f.stmts.length (kids f.stmts) b) = ord (stmZ s g f.stmts).length (kids (stmZ s g f.stmts)) (leftI s g b) := by
 obtain ⟨hd, hbo, ho⟩ := shapeF_iff hsh
 obtain ⟨g1, g2, g3⟩ := gone_run hsh h0 h1
 rw [← hg] at g1 g2 g3
 have hcl := (enter hsh h0 h1 hg).1
 have hd' := downZ (f := f) (g := g) h0 g3 hd
 have g1' : ord f.stmts.length (kids f.stmts) [s] = run s g := g1
 refine ord_ind' hd (p := fun b o => (∀ x, x ∈ b → s ≤ x → x < s + g → x = s) → leftI s g o = ord (stmZ s g f.stmts).length (kids (stmZ s g f.stmts)) (leftI s g b)) ?_ ?_ hb hc
 ·intro _
  rw [show leftI s g [] = [] from rfl, ord_nil]
 ·intro n b hn0 hn1 hb i1 i2 i3 hc
  have hcb := i3 fun x hx => hc x (by simp [hx])
  have hin1 : inB f.stmts.length 0 [n] := fun x hx => by rw [List.mem_singleton] at hx; subst hx; exact ⟨hn0, hn1⟩
  have hk := hd n hn0 hn1
  by_cases hs : n = s
  ·have e : n :: (ord f.stmts.length (kids f.stmts) (kids f.stmts n).1 ++ ord f.stmts.length (kids f.stmts) (kids f.stmts n).2) = run s g := by
    rw [← g1', ← hs, ord_cons hd hin1, ord_nil, List.append_nil]
   rw [e, leftI_app, leftI_gone (fun x hx => mem_run.1 hx), hcb, leftI_cons, if_neg (by omega), if_neg (by omega)]
   rfl
  ·have hng : n < s ∨ s + g ≤ n := by
    by_cases h : n < s ∨ s + g ≤ n
    ·exact h
    ·exact absurd (hc n (by simp) (by omega) (by omega)) hs
   have hcn := hcl n hn0 hn1 hng
   have e1 := i1 fun x hx => hcn x (List.mem_append_left _ hx)
   have e2 := i2 fun x hx => hcn x (List.mem_append_right _ hx)
   have hr := rr_rng (f := f) h0 hng hn0 hn1 g3
   rw [List.cons_append, leftI_in hng, leftI_app, leftI_app, e1, e2, hcb, leftI_in hng, ord_cons hd' (fun x hx => by
    rcases List.mem_cons.1 hx with rfl | hx
    ·exact hr
    ·exact inB_left h0 g3 (by omega) hb x hx), kidsZ h0 hng hn0 hn1 g3, List.cons_append]
theorem left_upto (h0 : 0 ≤ s) (h2 : s + g ≤ f.stmts.length) : leftI s g (upto f.stmts.length) = upto (stmZ s g f.stmts).length := by
 have hl := stmZ_len (f := f) h0 h2
 have e : run 0 f.stmts.length = run 0 s.toNat ++ (run s g ++ run (s + g) (f.stmts.length - s.toNat - g)) := by
  have a := run_add 0 s.toNat (g + (f.stmts.length - s.toNat - g))
  have b := run_add (0 + (s.toNat : Int)) g (f.stmts.length - s.toNat - g)
  rw [b, show s.toNat + (g + (f.stmts.length - s.toNat - g)) = f.stmts.length from by omega, show (0 : Int) + (s.toNat : Int) = s from by omega] at a
  exact a
 have k1 : ∀ {l : List Int}, (∀ x, x ∈ l → x < s) → leftI s g l = l := by
  intro l
  induction l with
  | nil => intro _; rfl
  | cons y l ih => intro h; rw [leftI_cons, if_pos (h y (by simp)), ih fun x hx => h x (by simp [hx])]; rfl
 have k2 : ∀ {l : List Int}, (∀ x, x ∈ l → s + g ≤ x) → leftI s g l = l.map fun x : Int => x - (g : Int) := by
  intro l
  induction l with
  | nil => intro _; rfl
  | cons y l ih =>
   intro h
   have := h y (by simp)
   rw [leftI_cons, if_neg (by omega), if_pos this, ih fun x hx => h x (by simp [hx])]; rfl
 have k3 : ∀ (m : Int) (c : Nat), (run (m + g) c).map (fun x => x - (g : Int)) = run m c := fun m c => by
  unfold run
  rw [List.map_map]
  refine List.map_congr_left fun i _ => ?_
  show m + (g : Int) + (i : Int) - g = m + i
  omega
 rw [upto_run, upto_run, e, leftI_app, leftI_app, leftI_gone (fun x hx => mem_run.1 hx), k1 (fun x hx => by have := (mem_run.1 hx).2; omega), k2 (fun x hx => (mem_run.1 hx).1), k3, List.nil_append]
 have a := run_add 0 s.toNat (f.stmts.length - s.toNat - g)
 rw [show (0 : Int) + (s.toNat : Int) = s from by omega] at a
 rw [← a]
 congr 1
 omega
theorem sites_len (l : List Stmt) : ∀ k, (sitesF l k).length = (l.filter fun x => decide (x.kind = 3)).length := by
 induction l with
 | nil => intro k; rfl
 | cons x l ih =>
  intro k
  rw [sitesF, List.filter_cons]
  split
  ·rename_i h; rw [if_pos (by simpa using h)]; simp [ih]
  ·rename_i h; rw [if_neg (by simpa using h)]; exact ih _
theorem stmtG_left {vars : Int} {ps : List Int} {x : Stmt} (h : stmtG vars ps x = true) : stmtG vars ps (leftZ s g x) = true := by
 have h1 := leftI_len s g x.thn
 have h2 := leftI_len s g x.els
 have e : lens (leftZ s g x) ≤ lens x ∧ 0 ≤ lens (leftZ s g x) := by unfold lens leftZ; dsimp only; omega
 have e2 : ((leftZ s g x).els.length : Int) ≤ x.els.length := by show ((leftI s g x.els).length : Int) ≤ _; omega
 have k1 : (leftZ s g x).kind = x.kind := rfl
 have k2 : (leftZ s g x).n = x.n := rfl
 have k3 : (leftZ s g x).ex = x.ex := rfl
 unfold stmtG stmtW at h ⊢
 rw [k1, k2, k3]
 grind
def leftY (s : Int) (g : Nat) (f : Func) : Func := ⟨f.params, f.vars, leftI s g f.body, stmZ s g f.stmts⟩
theorem goodF_left {ps : List Int} (hgf : goodF ps f = true) (h0 : 0 ≤ s) (h1 : s < f.stmts.length) (hg : g = goneN f s) : goodF ps (leftY s g f) = true := by
 have hsh := goodF_shape hgf
 obtain ⟨hd, hb, ho⟩ := shapeF_iff hsh
 obtain ⟨g1, g2, g3⟩ := gone_run hsh h0 h1
 rw [← hg] at g1 g2 g3
 have hl := stmZ_len (f := f) h0 g3
 have hen := enter hsh h0 h1 hg
 have hd' := downZ (f := f) (g := g) h0 g3 hd
 unfold goodF
 rw [Bool.and_eq_true]
 constructor
 ·have hsh' := hsh
  unfold shapeF at hsh' ⊢
  simp only [Bool.and_eq_true] at hsh' ⊢
  obtain ⟨s1, s2, s3, s4⟩ := hsh'
  refine ⟨?_, ?_, ?_, ?_⟩
  ·unfold okNum at s1 ⊢
   simp only [Bool.and_eq_true, decide_eq_true_eq] at s1 ⊢
   refine ⟨s1.1, s1.2.1, ?_⟩
   show ((stmZ s g f.stmts).length : Int) ≤ 16
   omega
  ·unfold siteB at s2 ⊢
   rw [decide_eq_true_eq] at s2 ⊢
   rw [sites_len] at s2 ⊢
   have hf : ((stmZ s g f.stmts).filter fun x => decide (x.kind = 3)).length = ((f.stmts.take s.toNat ++ f.stmts.drop (s.toNat + g)).filter fun x => decide (x.kind = 3)).length := by
    unfold stmZ
    rw [List.filter_map, List.length_map]
    rfl
   have hq : ((f.stmts.take s.toNat ++ f.stmts.drop (s.toNat + g)).filter fun x => decide (x.kind = 3)).length ≤ (f.stmts.filter fun x => decide (x.kind = 3)).length := by
    refine List.Sublist.length_le (List.Sublist.filter _ ?_)
    have e : f.stmts = f.stmts.take s.toNat ++ (((f.stmts.drop s.toNat).take g) ++ f.stmts.drop (s.toNat + g)) := by
     rw [show f.stmts.drop (s.toNat + g) = (f.stmts.drop s.toNat).drop g from by rw [List.drop_drop], List.take_append_drop, List.take_append_drop]
    conv => rhs; rw [e]
    exact List.Sublist.append_left (List.sublist_append_right _ _) _
   show (((stmZ s g f.stmts).filter fun x => decide (x.kind = 3)).length : Int) ≤ 4
   rw [hf]
   omega
  ·rw [shapeB_iff]
   refine ⟨hd', inB_left h0 g3 (Int.le_refl 0) hb, ?_⟩
   show ord (stmZ s g f.stmts).length (kids (stmZ s g f.stmts)) (leftI s g f.body) = upto (stmZ s g f.stmts).length
   rw [← left_ord hsh h0 h1 hg hb hen.2, ho, left_upto h0 g3]
  ·unfold whileB at s4 ⊢
   rw [List.all_eq_true] at s4 ⊢
   intro x hx
   have hx' : x ∈ stmZ s g f.stmts := hx
   obtain ⟨i, hi, rfl⟩ := List.getElem_of_mem hx'
   obtain ⟨n, hn, hn0, hn1, hr⟩ := old_of (f := f) (m := (i : Int)) h0 g3 (by omega) (by omega)
   have hat := stmZ_at (f := f) h0 hn hn0 hn1 g3
   rw [hr, show ((i : Int)).toNat = i from rfl, List.getElem?_eq_getElem hi] at hat
   rw [Option.some.inj hat]
   have h4 := s4 _ (List.getElem_mem (show n.toNat < f.stmts.length by omega))
   unfold whileOk at h4 ⊢
   show (if (f.stmts[n.toNat]'(by omega)).kind = 8 then noDef (leftY s g f) (leftI s g (f.stmts[n.toNat]'(by omega)).thn) else true) = true
   split
   ·rename_i hk
    rw [if_pos hk] at h4
    unfold noDef at h4 ⊢
    rw [List.all_eq_true] at h4 ⊢
    have hkd := hd n hn0 hn1
    have ekn : (kids f.stmts n).1 = (f.stmts[n.toNat]'(by omega)).thn := by rw [kids_at (by omega)]
    have e : ordF (leftY s g f) (leftI s g (f.stmts[n.toNat]'(by omega)).thn) = leftI s g (ordF f (f.stmts[n.toNat]'(by omega)).thn) := by
     rw [← ekn]
     exact (left_ord hsh h0 h1 hg (inB_lower hkd.1 (by omega)) (fun x hx => hen.1 n hn0 hn1 hn x (List.mem_append_left _ hx))).symm
    rw [e]
    intro y hy
    obtain ⟨m, hm, hmn, rfl⟩ := leftI_mem.1 hy
    have hr2 : inB f.stmts.length 0 (ordF f (f.stmts[n.toNat]'(by omega)).thn) := by
     rw [← ekn]; exact ord_range hd (inB_lower hkd.1 (by omega))
    have hm2 := hr2 m hm
    have h5 := h4 m hm
    have e3 : kindAt (leftY s g f) (rr s g m) = kindAt f m := by
     unfold kindAt
     show (match (stmZ s g f.stmts)[(rr s g m).toNat]? with | some s => s.kind | none => 0) = _
     rw [stmZ_at h0 hmn hm2.1 hm2.2 g3, List.getElem?_eq_getElem (by omega)]
     rfl
    rw [e3]
    exact h5
   ·rfl
 ·rw [List.all_eq_true]
  intro x hx
  have hx' : x ∈ stmZ s g f.stmts := hx
  unfold stmZ at hx'
  obtain ⟨y, hy, rfl⟩ := List.mem_map.1 hx'
  have hyf : y ∈ f.stmts := by
   rcases List.mem_append.1 hy with h | h
   ·exact List.mem_of_mem_take h
   ·exact List.mem_of_mem_drop h
  unfold goodF at hgf
  rw [Bool.and_eq_true, List.all_eq_true] at hgf
  exact stmtG_left (hgf.2 y hyf)
end

theorem leftF_Y {f : Func} {s : Int} (hsh : shapeF f = true) (h0 : 0 ≤ s) (h1 : s < f.stmts.length) : leftF (ordF f [s]) f = leftY s (goneN f s) f := by
 obtain ⟨g1, g2, g3⟩ := gone_run hsh h0 h1
 rw [g1, leftF_run f h0]
 rfl
theorem dropP_at {p : Prog} {fn s : Int} {k : Nat} (hk : k < p.funcs.length) : (dropP p fn s).funcs[k]'(by rw [dropP_len]; exact hk) = if (k : Int) = fn then leftF (ordF (p.funcs[k]) [s]) (p.funcs[k]) else p.funcs[k] := by
 have e : funcAt p (k : Int) = p.funcs[k] := (funcAt_at (n := (k : Int)) (by omega)).symm
 unfold dropP
 rw [List.getElem_map, List.getElem_range, e]
 unfold goneK
 split
 ·rw [e]
 ·exact leftF_nil _
theorem goodP_drop {p : Prog} {fn s : Int} (hg : goodP p = true) (hf0 : 0 ≤ fn) (hf1 : fn < p.funcs.length) (hs0 : 0 ≤ s) (hs1 : s < (funcAt p fn).stmts.length) : goodP (dropP p fn s) = true := by
 have hpa : paramsL (dropP p fn s) = paramsL p := by
  refine List.ext_getElem (by rw [paramsL_len, paramsL_len, dropP_len]) fun k h1 h2 => ?_
  rw [paramsL_len] at h2
  have a1 : (paramsL (dropP p fn s))[k] = ((dropP p fn s).funcs[k]'(by rw [dropP_len]; exact h2)).params := List.getElem_map ..
  have a2 : (paramsL p)[k]'(by rw [paramsL_len]; exact h2) = (p.funcs[k]).params := List.getElem_map ..
  rw [a1, a2, dropP_at h2]
  split <;> rfl
 have hg' := hg
 unfold goodP at hg ⊢
 simp only [Bool.and_eq_true, decide_eq_true_eq] at hg ⊢
 rw [hpa, dropP_len]
 refine ⟨hg.1, hg.2.1, hg.2.2.1, ?_⟩
 rw [List.all_eq_true]
 intro x hx
 obtain ⟨k, hk, rfl⟩ := List.getElem_of_mem hx
 have hk' := hk
 rw [dropP_len] at hk'
 rw [dropP_at hk']
 have hgf := goodP_fn hg' hk'
 split
 ·rename_i e
  have hfe : funcAt p fn = p.funcs[k] := by rw [← e]; exact (funcAt_at (n := (k : Int)) (by omega)).symm
  rw [hfe] at hs1
  rw [leftF_Y (goodF_shape hgf) hs0 hs1]
  exact goodF_left hgf hs0 hs1 rfl
 ·exact hgf
end Go.Proofs.YtimpganophnehaaGreat
