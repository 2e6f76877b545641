/- What a program does, as both packages' machines reckon it: plain, with fuel; and what it keeps to. -/
import Derived.Test.YtimpganophnehaaGreatGf
import Derived.Test.YtimpganophnehaaGreatGea
import Derived.Test.YtimpganophnehaaGreatFr
import Derived.Test.YtimpganophnehaaGreatFp
import Derived.Test.YtimpganophnehaaGreatMd
set_option linter.unusedVariables false
set_option linter.unusedSimpArgs false
set_option maxRecDepth 10000
set_option maxHeartbeats 1000000
namespace Go.Proofs.YtimpganophnehaaGreat
open Go.Eng

def w64 (n : Int) : Int := IntKind.i64.wrap n
def w32 (n : Int) : Int := IntKind.i64.wrap (IntKind.i32.wrap n)
def reckS (op x y : Int) : Option Int :=
 if op = 3 then some (w32 (w64 (x + y))) else if op = 4 then some (w32 (w64 (x - y))) else if op = 5 then some (w32 (w64 (x * y)))
 else if op = 6 then (if y = 0 then none else some (w32 (w64 (x.tdiv y)))) else if op = 7 then some (if x < y then 1 else 0) else some (if x = y then 1 else 0)

structure Ms where
 used : Nat
 fuel : Nat
 deep : Nat
 trace : List Int
structure By where
 how : Int
 pan : Int
 exd : Bool
structure Sx where
 m : Ms
 vars : List Int
 off : List Int
 res : Int
 by' : Option By

def recS : Option By → Int × Option By
 | none => (0, none)
 | some b => if b.how = 2 then (b.pan, some ⟨if b.exd then 3 else 1, b.pan, b.exd⟩) else (0, some b)
def inS (inp : List Int) (m : Ms) : Int × Ms := if m.used < inp.length then ((inp[m.used]?).getD 0, ⟨m.used + 1, m.fuel, m.deep, m.trace⟩) else (0, m)
def tokX (cal : Int → List Int → Ms → Int × Int × Ms) (ps : List Int) (inp : List Int) (t : Tok) (pile : List Int) (s : Sx) : Int × Int × List Int × Sx :=
 if t.op = 1 then (0, 0, pile ++ [t.n], s)
 else if t.op = 2 then (0, 0, pile ++ [atI s.vars t.n], s)
 else if t.op = 9 then (0, 0, pile ++ [(inS inp s.m).1], { s with m := (inS inp s.m).2 })
 else if t.op = 10 then (0, 0, pile ++ [(recS s.by').1], { s with by' := (recS s.by').2 })
 else if t.op = 11 then
  let k := pile.length - (atI ps t.n).toNat
  let r := cal t.n (pile.drop k) s.m
  if r.1 = 1 then (0, 0, pile.take k ++ [r.2.1], { s with m := r.2.2 }) else (r.1, r.2.1, pile, { s with m := r.2.2 })
 else match reckS t.op ((pile[pile.length - 2]?).getD 0) ((pile[pile.length - 1]?).getD 0) with
  | none => (2, -1, pile, s)
  | some v => (0, 0, pile.take (pile.length - 2) ++ [v], s)
def exprS (cal : Int → List Int → Ms → Int × Int × Ms) (ps : List Int) (inp : List Int) : List Tok → List Int → Sx → Int × Int × Sx
 | [], pile, s => (0, (pile[0]?).getD 0, s)
 | t :: l, pile, s => let r := tokX cal ps inp t pile s
  if r.1 = 0 then exprS cal ps inp l r.2.2.1 r.2.2.2 else (r.1, r.2.1, r.2.2.2)
def blockS (st : Stmt → Sx → Int × Int × Sx) (f : Func) : List Int → Sx → Int × Int × Sx
 | [], s => (0, 0, s)
 | k :: l, s => let r := st (stmtAt f k) s
  if r.1 = 0 then blockS st f l r.2.2 else r

structure Lev where
 stmt : Func → Stmt → Sx → Int × Int × Sx
 call : Int → List Int → Option By → Ms → Int × Int × Option By × Ms
def Lev.cal (L : Lev) (fn : Int) (args : List Int) (m : Ms) : Int × Int × Ms := ((L.call fn args none m).1, (L.call fn args none m).2.1, (L.call fn args none m).2.2.2)
def burnM (m : Ms) : Ms := ⟨m.used, m.fuel - 1, m.deep, m.trace⟩
def doS (L : Lev) (f : Func) (t : Stmt) (v : Int) (s : Sx) : Int × Int × Sx :=
 if t.kind = 1 then (0, 0, { s with vars := s.vars.set t.n.toNat v })
 else if t.kind = 2 then (0, 0, { s with m := ⟨s.m.used, s.m.fuel, s.m.deep, s.m.trace ++ [v]⟩ })
 else if t.kind = 4 then (2, v, s)
 else if t.kind = 5 then (1, 0, { s with res := v })
 else if t.kind = 7 then (if v ≠ 0 then blockS (L.stmt f) f t.thn s else blockS (L.stmt f) f t.els s)
 else if t.kind = 8 then (if v = 0 then (0, 0, s) else
  let r := blockS (L.stmt f) f t.thn s
  if r.1 = 0 then L.stmt f t r.2.2 else r)
 else (0, 0, s)
def stmtS (L : Lev) (ps inp : List Int) (f : Func) (t : Stmt) (s : Sx) : Int × Int × Sx :=
 if s.m.fuel = 0 then (5, 0, s)
 else if t.kind = 3 then (0, 0, { s with m := burnM s.m, off := s.off ++ [t.n] })
 else if t.kind = 6 then (3, 0, { s with m := burnM s.m })
 else
  let r := exprS L.cal ps inp t.ex [] { s with m := burnM s.m }
  if r.1 = 0 then doS L f t r.2.1 r.2.2 else r
def offR (cal : Int → Option By → Ms → Int × Int × Option By × Ms) : List Int → By → Ms → Int × By × Ms
 | [], b, m => (0, b, m)
 | k :: l, b, m => let r := cal k (some b) m
  let b1 := r.2.2.1.getD b
  if 4 ≤ r.1 then (r.1, b1, r.2.2.2) else if r.1 = 1 then offR cal l b1 r.2.2.2
  else offR cal l ⟨r.1, if r.1 = 2 then r.2.1 else b1.pan, b1.exd || decide (r.1 = 3)⟩ r.2.2.2
def setL (n : Nat) (args : List Int) : List Int := args ++ (List.replicate n 0).drop args.length
def startS (f : Func) (args : List Int) (b : Option By) (m : Ms) : Sx := ⟨⟨m.used, m.fuel - 1, m.deep + 1, m.trace⟩, setL f.vars.toNat args, [], 0, b⟩
def endS (h v : Int) : By := ⟨if h = 0 then 1 else h, if h = 2 then v else 0, decide (h = 3)⟩
def callS (L : Lev) (p : Prog) (most : Nat) (fn : Int) (args : List Int) (b : Option By) (m : Ms) : Int × Int × Option By × Ms :=
 if m.fuel = 0 then (5, 0, b, m)
 else if m.deep = most then (4, 0, b, burnM m)
 else
  let f := funcAt p fn
  let r := blockS (L.stmt f) f f.body (startS f args b m)
  if 4 ≤ r.1 then (r.1, 0, r.2.2.by', r.2.2.m)
  else
   let q := offR (fun k b m => L.call k [] b m) r.2.2.off.reverse (endS r.1 r.2.1) r.2.2.m
   if 4 ≤ q.1 then (q.1, 0, r.2.2.by', q.2.2)
   else (q.2.1.how, if q.2.1.how = 2 then q.2.1.pan else r.2.2.res, r.2.2.by', ⟨q.2.2.used, q.2.2.fuel, q.2.2.deep - 1, q.2.2.trace⟩)
def lev (p : Prog) (inp : List Int) (most : Nat) : Nat → Lev
 | 0 => ⟨fun _ _ s => (5, 0, s), fun _ _ b m => (5, 0, b, m)⟩
 | n + 1 => ⟨stmtS (lev p inp most n) (paramsL p) inp, callS (lev p inp most n) p most⟩

/-! ### What it keeps to -/

def Ms.le (inp : List Int) (m m' : Ms) : Prop := m'.fuel ≤ m.fuel ∧ m'.trace.length + m'.fuel ≤ m.trace.length + m.fuel ∧ m'.used ≤ inp.length
theorem Ms.le.trans {inp : List Int} {a b c : Ms} (h : a.le inp b) (k : b.le inp c) : a.le inp c := ⟨Nat.le_trans k.1 h.1, Nat.le_trans k.2.1 h.2.1, k.2.2⟩
structure Sx.ok (p : Prog) (inp : List Int) (f : Func) (s : Sx) : Prop where
 vars : s.vars.length = f.vars.toNat
 off : ∀ x, x ∈ s.off → 0 ≤ x ∧ x < p.funcs.length ∧ atI (paramsL p) x = 0
 used : s.m.used ≤ inp.length
def ByOk (b : Option By) : Prop := ∀ x, b = some x → 1 ≤ x.how ∧ x.how < 4
structure Sx.to (p : Prog) (inp : List Int) (f : Func) (h : Int) (s s' : Sx) : Prop where
 ok : s'.ok p inp f
 le : s.m.le inp s'.m
 offl : s'.off.length + s'.m.fuel ≤ s.off.length + s.m.fuel
 h0 : 0 ≤ h
 h5 : h ≤ 5
 deep : h < 4 → s'.m.deep = s.m.deep
 by' : s'.by'.isSome = s.by'.isSome
 byk : ByOk s.by' → ByOk s'.by'
structure Ms.to (inp : List Int) (h : Int) (b b' : Option By) (m m' : Ms) : Prop where
 le : m.le inp m'
 h1 : 1 ≤ h
 h5 : h ≤ 5
 deep : h < 4 → m'.deep = m.deep
 by' : b'.isSome = b.isSome
 byk : ByOk b → ByOk b'
theorem Sx.to.trans {p : Prog} {inp : List Int} {f : Func} {h h' : Int} {a b c : Sx} (x : Sx.to p inp f h a b) (y : Sx.to p inp f h' b c) (hx : h < 4) : Sx.to p inp f h' a c :=
 ⟨y.ok, x.le.trans y.le, Nat.le_trans y.offl x.offl, y.h0, y.h5, fun hh => (y.deep hh).trans (x.deep hx), y.by'.trans x.by', fun h => y.byk (x.byk h)⟩
theorem Sx.to.refl {p : Prog} {inp : List Int} {f : Func} {a : Sx} (h : a.ok p inp f) {e : Int} (h0 : 0 ≤ e) (h5 : e ≤ 5) : Sx.to p inp f e a a :=
 ⟨h, ⟨Nat.le_refl _, Nat.le_refl _, h.used⟩, Nat.le_refl _, h0, h5, fun _ => rfl, rfl, id⟩

def inF' (f : Func) (b : List Int) : Prop := ∀ x, x ∈ b → 0 ≤ x ∧ x < f.stmts.length
structure LevOk (p : Prog) (inp : List Int) (L : Lev) : Prop where
 stmt : ∀ f, f ∈ p.funcs → ∀ t, t ∈ f.stmts → ∀ s : Sx, s.ok p inp f → Sx.to p inp f (L.stmt f t s).1 s (L.stmt f t s).2.2
 call : ∀ (fn : Int) (args : List Int) (b : Option By) (m : Ms), 0 ≤ fn → fn < p.funcs.length → args.length = (atI (paramsL p) fn).toNat → m.used ≤ inp.length → Ms.to inp (L.call fn args b m).1 b (L.call fn args b m).2.2.1 m (L.call fn args b m).2.2.2

section
variable {p : Prog} {inp : List Int} {f : Func} {L : Lev}

theorem Ms.to_s {s : Sx} {h : Int} {m' : Ms} {b b' : Option By} (hs : s.ok p inp f) (ht : Ms.to inp h b b' s.m m') : Sx.to p inp f h s { s with m := m' } :=
 ⟨⟨hs.vars, hs.off, ht.le.2.2⟩, ht.le, by have := ht.le.1; show s.off.length + m'.fuel ≤ _; omega, by have := ht.h1; omega, ht.h5, ht.deep, rfl, id⟩
theorem inS_le {m : Ms} (h : m.used ≤ inp.length) : m.le inp (inS inp m).2 ∧ (inS inp m).2.deep = m.deep ∧ (inS inp m).2.fuel = m.fuel := by
 unfold inS
 split
 ·exact ⟨⟨Nat.le_refl _, Nat.le_refl _, by assumption⟩, rfl, rfl⟩
 ·exact ⟨⟨Nat.le_refl _, Nat.le_refl _, h⟩, rfl, rfl⟩
theorem recS_some (b : Option By) : (recS b).2.isSome = b.isSome := by
 unfold recS
 split
 ·rfl
 ·split <;> rfl
theorem recS_ok {b : Option By} (h : ByOk b) : ByOk (recS b).2 := by
 unfold recS
 split
 ·exact h
 ·split
  ·intro x hx
   cases hx
   dsimp only
   split <;> omega
  ·exact h
theorem tokX_ok (hL : LevOk p inp L) (hg : goodP p = true) {vs : Int} {t : Tok} {pile : List Int} {s : Sx} (hs : s.ok p inp f) (hk : knownT vs (paramsL p).length t = true) (hn : needsT (paramsL p) t ≤ pile.length) :
  Sx.to p inp f (tokX L.cal (paramsL p) inp t pile s).1 s (tokX L.cal (paramsL p) inp t pile s).2.2.2 ∧
  ((tokX L.cal (paramsL p) inp t pile s).1 = 0 → ((tokX L.cal (paramsL p) inp t pile s).2.2.1.length : Int) = pile.length + (1 - needsT (paramsL p) t)) := by
 have hps := goodP_ps hg
 have h0 := Sx.to.refl hs (e := 0) (by omega) (by omega)
 unfold tokX
 by_cases o1 : t.op = 1
 ·rw [if_pos o1]
  exact ⟨h0, fun _ => by simp [needsT, o1]⟩
 rw [if_neg o1]
 by_cases o2 : t.op = 2
 ·rw [if_pos o2]
  exact ⟨h0, fun _ => by simp [needsT, o2]⟩
 rw [if_neg o2]
 by_cases o9 : t.op = 9
 ·rw [if_pos o9]
  obtain ⟨g1, g2, g3⟩ := inS_le hs.used
  exact ⟨⟨⟨hs.vars, hs.off, g1.2.2⟩, g1, by show s.off.length + (inS inp s.m).2.fuel ≤ _; omega, by show (0 : Int) ≤ 0; omega, by show (0 : Int) ≤ 5; omega, fun _ => g2, rfl, id⟩, fun _ => by simp [needsT, o9]⟩
 rw [if_neg o9]
 by_cases o10 : t.op = 10
 ·rw [if_pos o10]
  exact ⟨⟨⟨hs.vars, hs.off, hs.used⟩, h0.le, h0.offl, h0.h0, h0.h5, fun _ => rfl, recS_some _, recS_ok⟩, fun _ => by simp [needsT, o10]⟩
 rw [if_neg o10]
 by_cases o11 : t.op = 11
 ·rw [if_pos o11]
  obtain ⟨k0, k1⟩ := known_op hk o11
  rw [paramsL_len] at k1
  have hne : needsT (paramsL p) t = atI (paramsL p) t.n := by simp [needsT, o11]
  have hb := atI_bnd hps t.n
  rw [hne] at hn ⊢
  have hc := hL.call t.n (pile.drop (pile.length - (atI (paramsL p) t.n).toNat)) none s.m k0 k1 (by rw [List.length_drop]; omega) hs.used
  dsimp only [Lev.cal]
  split
  ·rename_i h
   rw [h] at hc
   have := Ms.to_s hs hc
   refine ⟨⟨this.ok, this.le, this.offl, by show (0 : Int) ≤ 0; omega, by show (0 : Int) ≤ 5; omega, fun _ => hc.deep (by omega), rfl, id⟩, fun _ => ?_⟩
   simp only [List.length_append, List.length_take, List.length_cons, List.length_nil]
   omega
  ·rename_i h
   refine ⟨Ms.to_s hs hc, fun hz => ?_⟩
   have := hc.h1
   have hz' : (L.call t.n (pile.drop (pile.length - (atI (paramsL p) t.n).toNat)) none s.m).1 = 0 := hz
   omega
 rw [if_neg o11]
 have hop : 3 ≤ t.op ∧ t.op ≤ 8 := by
  unfold knownT at hk
  rw [if_neg o1, if_neg o2, if_neg o11] at hk
  simp only [Bool.and_eq_true, decide_eq_true_eq] at hk
  omega
 have hne : needsT (paramsL p) t = 2 := by simp [needsT, hop]
 split
 ·exact ⟨Sx.to.refl hs (e := 2) (by omega) (by omega), fun h => by simp at h⟩
 ·refine ⟨h0, fun _ => ?_⟩
  rw [hne] at hn ⊢
  simp only [List.length_append, List.length_take, List.length_cons, List.length_nil]
  omega

theorem exprS_ok (hL : LevOk p inp L) (hg : goodP p = true) {vs : Int} : ∀ {l : List Tok} {pile : List Int} {s : Sx} {mx : Int} {r : Int × Int}, s.ok p inp f → runE vs (paramsL p) l pile.length mx = some r →
  Sx.to p inp f (exprS L.cal (paramsL p) inp l pile s).1 s (exprS L.cal (paramsL p) inp l pile s).2.2
 | [], pile, s, mx, r, hs, _ => Sx.to.refl hs (by show (0 : Int) ≤ 0; omega) (by show (0 : Int) ≤ 5; omega)
 | t :: l, pile, s, mx, r, hs, hr => by
  rw [runE] at hr
  split at hr
  ·rename_i hc
   rw [Bool.and_eq_true, decide_eq_true_eq] at hc
   obtain ⟨h1, h2⟩ := tokX_ok hL hg hs hc.1 hc.2
   rw [exprS]
   split
   ·rename_i h0
    rw [← h2 h0] at hr
    exact h1.trans (exprS_ok hL hg h1.ok hr) (by omega)
   ·exact h1
  ·cases hr

theorem blockS_ok {st : Stmt → Sx → Int × Int × Sx} (hst : ∀ t, t ∈ f.stmts → ∀ s : Sx, s.ok p inp f → Sx.to p inp f (st t s).1 s (st t s).2.2) : ∀ {b : List Int} {s : Sx}, inF' f b → s.ok p inp f → Sx.to p inp f (blockS st f b s).1 s (blockS st f b s).2.2
 | [], s, _, hs => Sx.to.refl hs (by show (0 : Int) ≤ 0; omega) (by show (0 : Int) ≤ 5; omega)
 | k :: b, s, hb, hs => by
  have hk := hb k (by simp)
  have hm : stmtAt f k ∈ f.stmts := by rw [← stmtAt_at (by omega)]; exact List.getElem_mem _
  have h1 := hst _ hm s hs
  rw [blockS]
  split
  ·rename_i h0
   exact h1.trans (blockS_ok hst (fun x hx => hb x (by simp [hx])) h1.ok) (by omega)
  ·exact h1

theorem Sx.ok.burn {s : Sx} (h : s.ok p inp f) (hf : s.m.fuel ≠ 0) : Sx.to p inp f 0 s { s with m := burnM s.m } := by
 refine ⟨⟨h.vars, h.off, h.used⟩, ⟨?_, ?_, h.used⟩, ?_, by omega, by omega, fun _ => rfl, rfl, id⟩
 ·show s.m.fuel - 1 ≤ s.m.fuel; omega
 ·show s.m.trace.length + (s.m.fuel - 1) ≤ _; omega
 ·show s.off.length + (s.m.fuel - 1) ≤ _; omega
theorem shapeF_bds {f : Func} (h : shapeF f = true) : downB f.stmts.length (kids f.stmts) ∧ inB f.stmts.length 0 f.body ∧ ord f.stmts.length (kids f.stmts) f.body = upto f.stmts.length := by
 unfold shapeF at h
 simp only [Bool.and_eq_true] at h
 exact shapeB_iff.1 h.2.2.1
theorem kids_inF {f : Func} (hsh : shapeF f = true) {t : Stmt} (ht : t ∈ f.stmts) : inF' f t.thn ∧ inF' f t.els ∧ inF' f f.body := by
 obtain ⟨hd, hb, _⟩ := shapeF_bds hsh
 obtain ⟨i, hi, rfl⟩ := List.getElem_of_mem ht
 have h := hd i (by omega) (by omega)
 rw [kids_at (by omega)] at h
 exact ⟨fun x hx => ⟨by have := (h.1 x hx).1; omega, (h.1 x hx).2⟩, fun x hx => ⟨by have := (h.2 x hx).1; omega, (h.2 x hx).2⟩, fun x hx => hb x hx⟩
theorem body_inF {f : Func} (hsh : shapeF f = true) : inF' f f.body := fun x hx => (shapeF_bds hsh).2.1 x hx

theorem stmtG_run {vars : Int} {ps : List Int} {t : Stmt} (h : stmtG vars ps t = true) (h3 : t.kind ≠ 3) (h6 : t.kind ≠ 6) : ∃ m : Int, runE vars ps t.ex 0 0 = some (1, m) := by
 have hx : goodE vars ps t.ex = true := by
  rcases stmtG_ex h with h' | h'
  ·exfalso
   revert h
   grind [stmtG, stmtW, goodE, runE]
  ·exact h'
 unfold goodE at hx
 cases hr : runE vars ps t.ex 0 0 with
 | none => rw [hr] at hx; cases hx
 | some q =>
  obtain ⟨a, m⟩ := q
  rw [hr] at hx
  simp only [Bool.and_eq_true, decide_eq_true_eq] at hx
  exact ⟨m, by rw [hx.1]⟩

theorem stmtS_ok (hL : LevOk p inp L) (hg : goodP p = true) (hf : f ∈ p.funcs) {t : Stmt} (ht : t ∈ f.stmts) {s : Sx} (hs : s.ok p inp f) : Sx.to p inp f (stmtS L (paramsL p) inp f t s).1 s (stmtS L (paramsL p) inp f t s).2.2 := by
 obtain ⟨q, hq, rfl⟩ := List.getElem_of_mem hf
 have hgf := goodP_fn hg hq
 have hsh := goodF_shape hgf
 have hst : stmtG (p.funcs[q]).vars (paramsL p) t = true := by
  obtain ⟨i, hi, rfl⟩ := List.getElem_of_mem ht
  exact goodF_at hgf hi
 obtain ⟨hk1, hk2, _⟩ := kids_inF hsh ht
 unfold stmtS
 by_cases hz : s.m.fuel = 0
 ·rw [if_pos hz]
  exact Sx.to.refl hs (by show (0 : Int) ≤ 5; omega) (by show (5 : Int) ≤ 5; omega)
 rw [if_neg hz]
 have hb := hs.burn hz
 by_cases k3 : t.kind = 3
 ·rw [if_pos k3]
  obtain ⟨n0, n1, _⟩ := stmtG_def hst k3
  have hn : atI (paramsL p) t.n = 0 := by
   unfold stmtG at hst
   rw [if_pos k3, Bool.and_eq_true, decide_eq_true_eq] at hst
   exact hst.2
  rw [paramsL_len] at n1
  refine ⟨⟨hs.vars, fun x hx => ?_, hs.used⟩, hb.le, ?_, by show (0 : Int) ≤ 0; omega, by show (0 : Int) ≤ 5; omega, fun _ => rfl, rfl, id⟩
  ·rcases List.mem_append.1 hx with hx | hx
   ·exact hs.off x hx
   ·rw [List.mem_singleton] at hx
    subst hx
    exact ⟨n0, n1, hn⟩
  ·show (s.off ++ [t.n]).length + (s.m.fuel - 1) ≤ _
   simp only [List.length_append, List.length_cons, List.length_nil]
   omega
 rw [if_neg k3]
 by_cases k6 : t.kind = 6
 ·rw [if_pos k6]
  exact ⟨hb.ok, hb.le, hb.offl, by show (0 : Int) ≤ 3; omega, by show (3 : Int) ≤ 5; omega, fun _ => rfl, rfl, id⟩
 rw [if_neg k6]
 obtain ⟨mx, hr⟩ := stmtG_run hst k3 k6
 have he := exprS_ok hL hg (pile := []) hb.ok (l := t.ex) (mx := 0) (by simpa using hr)
 dsimp only
 generalize exprS L.cal (paramsL p) inp t.ex [] { s with m := burnM s.m } = r at he
 obtain ⟨h, v, s2⟩ := r
 dsimp only at he ⊢
 have h1 := hb.trans he (by omega)
 split
 ·rename_i hh
  subst hh
  unfold doS
  dsimp only
  have hok := he.ok
  split
  ·exact h1.trans ⟨⟨by rw [List.length_set]; exact hok.vars, hok.off, hok.used⟩, ⟨Nat.le_refl _, Nat.le_refl _, hok.used⟩, Nat.le_refl _, by show (0 : Int) ≤ 0; omega, by show (0 : Int) ≤ 5; omega, fun _ => rfl, rfl, id⟩ (by omega)
  split
  ·have hfu : s2.m.trace.length + 1 + s2.m.fuel ≤ s.m.trace.length + s.m.fuel := by
    have a1 : s2.m.trace.length + s2.m.fuel ≤ s.m.trace.length + (s.m.fuel - 1) := he.le.2.1
    omega
   refine ⟨⟨hok.vars, hok.off, hok.used⟩, ⟨h1.le.1, ?_, hok.used⟩, h1.offl, by show (0 : Int) ≤ 0; omega, by show (0 : Int) ≤ 5; omega, fun _ => h1.deep (by omega), h1.by', h1.byk⟩
   show (s2.m.trace ++ [v]).length + s2.m.fuel ≤ _
   simp only [List.length_append, List.length_cons, List.length_nil]
   omega
  split
  ·exact ⟨h1.ok, h1.le, h1.offl, by show (0 : Int) ≤ 2; omega, by show (2 : Int) ≤ 5; omega, fun _ => h1.deep (by omega), h1.by', h1.byk⟩
  split
  ·exact ⟨⟨hok.vars, hok.off, hok.used⟩, h1.le, h1.offl, by show (0 : Int) ≤ 1; omega, by show (1 : Int) ≤ 5; omega, fun _ => h1.deep (by omega), h1.by', h1.byk⟩
  split
  ·split
   ·exact h1.trans (blockS_ok (hL.stmt _ hf) hk1 hok) (by omega)
   ·exact h1.trans (blockS_ok (hL.stmt _ hf) hk2 hok) (by omega)
  split
  ·split
   ·exact h1
   ·have hbl := blockS_ok (hL.stmt _ hf) hk1 hok
    split
    ·rename_i h0
     exact h1.trans (hbl.trans (hL.stmt _ hf _ ht _ hbl.ok) (by omega)) (by omega)
    ·exact h1.trans hbl (by omega)
  ·exact h1
 ·exact h1

theorem offR_ok {cal : Int → Option By → Ms → Int × Int × Option By × Ms} (hc : ∀ (k : Int) (b : Option By) (m : Ms), 0 ≤ k → k < p.funcs.length → atI (paramsL p) k = 0 → m.used ≤ inp.length → Ms.to inp (cal k b m).1 b (cal k b m).2.2.1 m (cal k b m).2.2.2) :
  ∀ {l : List Int} {b : By} {m : Ms}, (∀ x, x ∈ l → 0 ≤ x ∧ x < p.funcs.length ∧ atI (paramsL p) x = 0) → m.used ≤ inp.length → 1 ≤ b.how → b.how < 4 →
   m.le inp (offR cal l b m).2.2 ∧ 0 ≤ (offR cal l b m).1 ∧ (offR cal l b m).1 ≤ 5 ∧ ((offR cal l b m).1 < 4 → (offR cal l b m).2.2.deep = m.deep ∧ 1 ≤ (offR cal l b m).2.1.how ∧ (offR cal l b m).2.1.how < 4)
 | [], b, m, _, hu, h1, h2 => ⟨⟨Nat.le_refl _, Nat.le_refl _, hu⟩, by show (0 : Int) ≤ 0; omega, by show (0 : Int) ≤ 5; omega, fun _ => ⟨rfl, h1, h2⟩⟩
 | k :: l, b, m, hl, hu, h1, h2 => by
  obtain ⟨q0, q1, q2⟩ := hl k (by simp)
  have hk := hc k (some b) m q0 q1 q2 hu
  rw [offR]
  have hb1 : ∃ b1, (cal k (some b) m).2.2.1 = some b1 := by
   have := hk.by'
   cases h : (cal k (some b) m).2.2.1 with
   | none => rw [h] at this; cases this
   | some b1 => exact ⟨b1, rfl⟩
  have hH1 := hk.h1
  split
  ·rename_i h4
   exact ⟨hk.le, by omega, hk.h5, fun h => by omega⟩
  ·rename_i h4
   split
   ·rename_i e1
    obtain ⟨b1, hb1⟩ := hb1
    have hbk := hk.byk (fun x hx => by cases hx; exact ⟨h1, h2⟩) b1 hb1
    rw [hb1]
    have ih := offR_ok hc (l := l) (b := b1) (m := (cal k (some b) m).2.2.2) (fun x hx => hl x (by simp [hx])) hk.le.2.2 hbk.1 hbk.2
    exact ⟨hk.le.trans ih.1, ih.2.1, ih.2.2.1, fun h => ⟨((ih.2.2.2 h).1).trans (hk.deep (by omega)), (ih.2.2.2 h).2⟩⟩
   ·rename_i e1
    have ih := offR_ok hc (l := l) (b := ⟨(cal k (some b) m).1, if (cal k (some b) m).1 = 2 then (cal k (some b) m).2.1 else ((cal k (some b) m).2.2.1.getD b).pan, ((cal k (some b) m).2.2.1.getD b).exd || decide ((cal k (some b) m).1 = 3)⟩) (m := (cal k (some b) m).2.2.2) (fun x hx => hl x (by simp [hx])) hk.le.2.2 hH1 (by show (cal k (some b) m).1 < 4; omega)
    exact ⟨hk.le.trans ih.1, ih.2.1, ih.2.2.1, fun h => ⟨((ih.2.2.2 h).1).trans (hk.deep (by omega)), (ih.2.2.2 h).2⟩⟩

theorem funcAt_memI {p : Prog} {n : Int} (h0 : 0 ≤ n) (h1 : n < p.funcs.length) : funcAt p n ∈ p.funcs := by rw [← funcAt_at (by omega)]; exact List.getElem_mem _
theorem funcAt_params {p : Prog} {n : Int} (h0 : 0 ≤ n) (h1 : n < p.funcs.length) : atI (paramsL p) n = (funcAt p n).params := by rw [paramsL_at h0 h1, ← funcAt_at (by omega)]
theorem good_vars {p : Prog} (hg : goodP p = true) {f : Func} (hf : f ∈ p.funcs) : 0 ≤ f.params ∧ f.params ≤ 2 ∧ f.params ≤ f.vars ∧ f.vars ≤ 6 ∧ shapeF f = true ∧ f.stmts.length ≤ 16 := by
 obtain ⟨q, hq, rfl⟩ := List.getElem_of_mem hf
 have hgf := goodP_fn hg hq
 have hsh := goodF_shape hgf
 have hl := goodF_len hgf
 have h := hsh
 unfold shapeF at h
 rw [Bool.and_eq_true] at h
 have h2 := h.1
 unfold okNum at h2
 simp only [Bool.and_eq_true, decide_eq_true_eq] at h2
 exact ⟨h2.1.1, h2.1.2, h2.2.1.1, h2.2.1.2, hsh, hl⟩
theorem setL_len {n : Nat} {args : List Int} (h : args.length ≤ n) : (setL n args).length = n := by simp [setL]; omega
theorem startS_ok {p : Prog} {inp : List Int} {f : Func} {args : List Int} {b : Option By} {m : Ms} (ha : args.length ≤ f.vars.toNat) (hu : m.used ≤ inp.length) : (startS f args b m).ok p inp f :=
 ⟨setL_len ha, (fun x hx => absurd hx List.not_mem_nil), hu⟩
theorem endS_ok {h v : Int} (h0 : 0 ≤ h) (h4 : h < 4) : 1 ≤ (endS h v).how ∧ (endS h v).how < 4 := by
 unfold endS
 dsimp only
 split <;> omega
theorem callS_ok (hL : LevOk p inp L) (hg : goodP p = true) {most : Nat} {fn : Int} {args : List Int} {b : Option By} {m : Ms} (h0 : 0 ≤ fn) (h1 : fn < p.funcs.length) (ha : args.length = (atI (paramsL p) fn).toNat) (hu : m.used ≤ inp.length) :
  Ms.to inp (callS L p most fn args b m).1 b (callS L p most fn args b m).2.2.1 m (callS L p most fn args b m).2.2.2 := by
 have hm := funcAt_memI h0 h1
 obtain ⟨g1, g2, g3, g4, hsh, g6⟩ := good_vars hg hm
 rw [funcAt_params h0 h1] at ha
 unfold callS
 by_cases hz : m.fuel = 0
 ·rw [if_pos hz]; exact ⟨⟨Nat.le_refl _, Nat.le_refl _, hu⟩, by show (1 : Int) ≤ 5; omega, by show (5 : Int) ≤ 5; omega, fun _ => rfl, rfl, id⟩
 rw [if_neg hz]
 by_cases hd : m.deep = most
 ·rw [if_pos hd]; exact ⟨⟨by show m.fuel - 1 ≤ m.fuel; omega, by show m.trace.length + (m.fuel - 1) ≤ _; omega, hu⟩, by show (1 : Int) ≤ 4; omega, by show (4 : Int) ≤ 5; omega, fun _ => rfl, rfl, id⟩
 rw [if_neg hd]
 dsimp only
 have hs := startS_ok (p := p) (inp := inp) (f := funcAt p fn) (args := args) (b := b) (m := m) (by omega) hu
 have hb := blockS_ok (hL.stmt _ hm) (body_inF hsh) hs
 generalize blockS (L.stmt (funcAt p fn)) (funcAt p fn) (funcAt p fn).body (startS (funcAt p fn) args b m) = r at hb
 obtain ⟨h, v, s1⟩ := r
 dsimp only at hb ⊢
 have e1 : s1.m.fuel ≤ m.fuel - 1 := hb.le.1
 have e2 : s1.m.trace.length + s1.m.fuel ≤ m.trace.length + (m.fuel - 1) := hb.le.2.1
 have hl1 : m.le inp s1.m := ⟨by omega, by omega, hb.le.2.2⟩
 have hh0 := hb.h0
 have hh5 := hb.h5
 split
 ·rename_i h4
  exact ⟨hl1, by show (1 : Int) ≤ h; omega, hb.h5, fun h => by omega, hb.by', hb.byk⟩
 ·rename_i h4
  have he := endS_ok (v := v) hb.h0 (by omega)
  have ho := offR_ok (p := p) (inp := inp) (cal := fun k b m => L.call k [] b m) (fun k b m k0 k1 k2 ku => hL.call k [] b m k0 k1 (by rw [k2]; rfl) ku) (l := s1.off.reverse) (b := endS h v) (m := s1.m) (fun x hx => hb.ok.off x (by simpa using hx)) hb.ok.used he.1 he.2
  generalize offR (fun k b m => L.call k [] b m) s1.off.reverse (endS h v) s1.m = q at ho
  obtain ⟨h2, b2, m2⟩ := q
  dsimp only at ho ⊢
  obtain ⟨o1, o2, o3, o4⟩ := ho
  split
  ·rename_i h5
   exact ⟨hl1.trans o1, by show (1 : Int) ≤ h2; omega, o3, fun h => by omega, hb.by', hb.byk⟩
  ·rename_i h5
   obtain ⟨p1, p2, p3⟩ := o4 (by omega)
   have hd1 : s1.m.deep = m.deep + 1 := hb.deep (by omega)
   refine ⟨⟨(hl1.trans o1).1, (hl1.trans o1).2.1, o1.2.2⟩, p2, by show b2.how ≤ 5; omega, fun _ => ?_, hb.by', hb.byk⟩
   show m2.deep - 1 = m.deep
   omega
theorem lev_ok {p : Prog} {inp : List Int} (hg : goodP p = true) (most : Nat) : ∀ n, LevOk p inp (lev p inp most n)
 | 0 => ⟨fun f _ t _ s hs => Sx.to.refl hs (by show (0 : Int) ≤ 5; omega) (by show (5 : Int) ≤ 5; omega), fun fn args b m _ _ _ hu => ⟨⟨Nat.le_refl _, Nat.le_refl _, hu⟩, by show (1 : Int) ≤ 5; omega, by show (5 : Int) ≤ 5; omega, fun _ => rfl, rfl, id⟩⟩
 | n + 1 => ⟨fun f hf t ht s hs => stmtS_ok (lev_ok hg most n) hg hf ht hs, fun fn args b m h0 h1 ha hu => callS_ok (lev_ok hg most n) hg h0 h1 ha hu⟩
end

end Go.Proofs.YtimpganophnehaaGreat
