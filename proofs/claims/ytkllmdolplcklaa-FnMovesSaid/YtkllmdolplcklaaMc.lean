import Derived.Test.YtkllmdolplcklaaMb
set_option linter.unusedVariables false
set_option linter.unusedSimpArgs false
section
/- Rules for conversions of whole numbers, and for arrays of two. -/
namespace Go.Eng
open Go.RowKit
section
variable {P : Program} {c : Ctx} {s : St} {Q : Exit → St → Prop} {ops : Array Oper} {rest : List Oper} {o : Oper}
theorem WO_conv {src dst t : Nat} {x : Operand} {td : TypeDesc} {k k0 : IntKind} {n : Int} (hg : o.guard = none) (hd : o.dst = some t) (ht : t < c.n) (ho : o.op = .convert src dst x)
  (h1 : P.underlying src = some td) (h2 : P.underlying dst = some (.int k)) (hx : opd s.fr x = .t (.v (.int k0 n)))
  (kk : WO P c ops rest ⟨(t, .t (.v (.int k (k.wrap n)))) :: s.fr, s.M⟩ Q) : WO P c ops (o :: rest) s Q := by
 refine CD hg hd ht _ (fun a w F β fb mb ow hi => ?_) kk;refine ⟨.int k (k.wrap n), ?_, .t (.v rfl .nil) .done⟩
 have e := C4 hi hx
 simp only [execOp, ho, e, convert, N4, run_underlying h1, run_underlying h2, Ny, Conv.intToInt, Oc]
end
end Go.Eng
end
section
/- What is only read may be known by its value: so that lists of the call's own can hold it. -/
namespace Go.Eng
open Go.RowKit
section
variable {P : Program} {c : Ctx} {s : St} {Q : Exit → St → Prop} {ops : Array Oper} {rest : List Oper} {o : Oper}
theorem Conc.tell {a : Act} {w : World} {F β fb mb ow} (hi : Conc c s a w F β fb mb ow) {u n : Nat} {l : List T} (id : Nat) (h1 : look s.fr u = .t (.list n l)) :
  ∃ v, Is c ⟨(u, .t (.v v)) :: s.fr, (id, .ro [v] [.list n l]) :: s.M⟩ a w := by
 have hr := hi.fr u
 rw [h1] at hr;generalize hx : a.tmps.getD u undef = x at hr;generalize hfb : fb u = bu at hr
 cases hr with
 | t q1 q2 =>
  cases q2
  have hone : x.oneCell' = true := by cases q1 <;> rfl
  refine ⟨x, F, β, fb, fun i => if id = i then [] else mb i, ow, ?_⟩
  exact { hi with
   fr := fun v => by
    simp only [look];split
    ·rename_i e; subst e; rw [hx, hfb]; exact .t (.v hone .nil) .done
    ·exact hi.fr v
   mem := fun i => by
    simp only [lookM]
    by_cases h : id = i
    ·rw [if_pos h]; simp only [if_pos h]; exact ⟨q1, rfl⟩
    ·rw [if_neg h]; simp only [if_neg h]; exact hi.mem i
   omem := fun i b hb => by
    split at hb
    ·cases hb
    ·exact hi.omem i b hb
   nmem := fun i => by
    split
    ·simp
    ·exact hi.nmem i }
theorem Iq {l : List Oper} {u n : Nat} {xs : List T} (id : Nat) (h1 : look s.fr u = .t (.list n xs)) (k : ∀ v : Value, WO P c ops l ⟨(u, .t (.v v)) :: s.fr, (id, .ro [v] [.list n xs]) :: s.M⟩ Q) : WO P c ops l s Q := by
 rintro a w ⟨F, β, fb, mb, ow, hi⟩
 obtain ⟨v, h⟩ := hi.tell id h1
 exact k v a w h
theorem Le.roJoin {us vs : List Value} {ts ss : List T} (i1 i2 : Nat) (h1 : lookM s.M i1 = some (.ro us ts)) (h2 : lookM s.M i2 = some (.ro vs ss)) : Le c s ⟨s.fr, (i1, .ro (us ++ vs) (ts ++ ss)) :: s.M⟩ := by
 rintro a w ⟨F, β, fb, mb, ow, hi⟩
 have m1 := hi.mem i1
 have m2 := hi.mem i2
 rw [h1] at m1;rw [h2] at m2;refine ⟨F, β, fb, mb, ow, ?_⟩
 exact { hi with
  mem := fun i => by
   simp only [lookM]
   by_cases h : i1 = i
   ·subst h; rw [if_pos rfl]; exact ⟨m1.1.append m2.1, m1.2⟩
   ·rw [if_neg h]; exact hi.mem i }
theorem Le.roNil (i : Nat) : Le c s ⟨s.fr, (i, .ro [] []) :: s.M⟩ := by
 rintro a w ⟨F, β, fb, mb, ow, hi⟩
 refine ⟨F, β, fb, fun j => if i = j then [] else mb j, ow, ?_⟩
 exact { hi with
  mem := fun j => by
   simp only [lookM]
   by_cases h : i = j
   ·rw [if_pos h]; simp only [if_pos h]; exact ⟨.nil, rfl⟩
   ·rw [if_neg h]; simp only [if_neg h]; exact hi.mem j
  omem := fun j b hb => by
   split at hb
   ·cases hb
   ·exact hi.omem j b hb
  nmem := fun j => by
   split
   ·simp
   ·exact hi.nmem j }
theorem Hr {w : World} {F : Nat → Prop} : ∀ {vs us : List Value}, RelL w F vs (us.map T.v) → vs = us
 | [], [], _ => rfl
 | [], _ :: _, h => by cases h
 | _ :: _, [], h => by cases h
 | v :: vs, u :: us, h => by
  rw [OA] at h
  have h1 := h.cons.1
  have h2 := Hr h.cons.2
  cases h1 with
  | v _ _ => rw [h2]
theorem LJ (us : List Value) : (us.map T.v).flatMap T.cells = us.map T.v := by
 induction us with
 | nil => rfl
 | cons u us ih => rw [OA, Nt, ih]; rfl
theorem Hx {ts : List T} (h : ∀ t, t ∈ ts → t.cells = [t]) : ts.flatMap T.cells = ts := by
 induction ts with
 | nil => rfl
 | cons t ts ih => rw [Nt, h t (OP ..), ih fun x hx => h x (OB _ hx)]; rfl
theorem RelL.told {w : World} {F : Nat → Prop} {x : Value} {us : List Value} {ts : List T} (h : RelL w F [x] [.list 1 (us.map T.v)]) (hr : RelL w F us ts) (ht : ∀ t, t ∈ ts → t.cells = [t]) : RelL w F [x] [.list 1 ts] := by
 generalize hy : T.list 1 (us.map T.v) = y at h
 cases h with
 | v _ _ => cases hy
 | none q =>
  injection hy with e1 e2
  have : us = [] := List.map_eq_nil_iff.1 e2
  subst this;cases hr;exact .none .nil
 | @list b o cap n cs xs arr e fz vs ts' q1 q2 q3 q4 q5 q6 q7 =>
  injection hy with e1 e2
  subst e1; subst e2;rw [LJ] at q6
  have hcs := Hr q6
  subst hcs
  have hl := hr.length
  have h1 : (cs.map T.v).length = ts.length := by rw [Nj]; exact hl
  rw [h1];exact RelL.list q1 q2 q3 (fun t h => by rw [ht t h]; rfl) (by omega) (by rw [Hx ht]; exact hr) .nil
theorem Le.roRead {u id : Nat} {us : List Value} {ts : List T} (h1 : look s.fr u = .t (.list 1 (us.map T.v))) (h2 : lookM s.M id = some (.ro us ts)) (ht : ∀ t, t ∈ ts → t.cells = [t]) : Le c s ⟨(u, .t (.list 1 ts)) :: s.fr, s.M⟩ := by
 rintro a w ⟨F, β, fb, mb, ow, hi⟩
 have m := hi.mem id
 rw [h2] at m
 have hr := hi.fr u
 rw [h1] at hr
 have hb := hr.free1 rfl
 refine ⟨F, β, fb, mb, ow, ?_⟩
 exact { hi with
  fr := fun v => by
   simp only [look];split
   ·rename_i e
    subst e;rw [hb] at hr ⊢;generalize a.tmps.getD u undef = x at hr ⊢
    cases hr with
    | t q1 q2 => exact .t (q1.told m.1 ht) .done
   ·exact hi.fr v }
theorem Le.roReadE {u id : Nat} {us : List Value} {xs ts ts' : List T} (h1 : look s.fr u = .t (.list 1 xs)) (h2 : lookM s.M id = some (.ro us ts)) (he : xs = us.map T.v) (hts : ts = ts') (ht : ∀ t, t ∈ ts → t.cells = [t]) : Le c s ⟨(u, .t (.list 1 ts')) :: s.fr, s.M⟩ := by
 subst he hts; exact Le.roRead h1 h2 ht
end
end Go.Eng
end
section
/- Statements of open order in which an operation that hangs on nothing may come anywhere, beside others whose place is fixed. -/
namespace Go.Eng
open Go.RowKit
def G7 (ops : Array Oper) (m N : Nat) : Bool := ((List.range m).all fun k => (List.range (m + 1)).any fun j => Nat.blt k j && match ops[j]? with | some oj => bindsOn oj k | none => false) &&
 (List.range N).all fun p => Nat.ble p m || match ops[p]? with | some op => bindsOn op (p - 1) | none => false
def nQ (Q : Exit → St → Prop) : Exit → St → Prop
 | .normal, s => Q .normal s
 | _, _ => False
section
variable {P : Program} {c : Ctx} {s : St} {Q : Exit → St → Prop} {ops : Array Oper} {rest : List Oper} {o : Oper}
theorem nQ_n (h : Q .normal s) : nQ Q .normal s := h
theorem IJ {m N : Nat} (h : G7 ops m N = true) {k : Nat} (hk : k < m) : ∃ j oj, k < j ∧ j ≤ m ∧ ops[j]? = some oj ∧ ∃ e, e ∈ oj.after ∧ Region.binds .any e = true ∧ e.on = k := by
 unfold G7 at h;rw [Nk, Np] at h
 have h1 := h.1 k (OW.2 hk)
 rw [OJ] at h1
 obtain ⟨j, hj, h2⟩ := h1
 rw [Nk] at h2
 cases hoj : ops[j]? with
 | none => rw [hoj] at h2; cases h2.2
 | some oj =>
  rw [hoj] at h2
  have := OW.1 hj
  exact ⟨j, oj, by simpa using h2.1, by omega, hoj, Bv h2.2⟩
theorem Ft {m N : Nat} (h : G7 ops m N = true) {p : Nat} {op : Oper} (hp : ops[p]? = some op) (hN : p < N) (hm : m < p) : ∃ e, e ∈ op.after ∧ Region.binds .any e = true ∧ e.on = p - 1 := by
 unfold G7 at h;rw [Nk, Np (l := List.range N)] at h
 have h1 := h.2 p (OW.2 hN)
 rw [hp] at h1;rw [Bool.or_eq_true] at h1;exact Bv (h1.resolve_left (by simp; omega))
theorem G6 {Qx : Exit → Act → World → Prop} {m N : Nat} (hN : N ≤ ops.size) (hB : BR ops m = true) (hT : G7 ops m N = true) : ∀ (l : List Oper) (k : Nat) (listed : Array Bool) (a : Act) (w : World), m ≤ k → k + l.length = N → (∀ j, j < l.length → l[j]? = ops[k + j]?) →
  listed.size = ops.size → (∀ j, j < N → listed.getD j false = decide (j < k)) → (∀ j, N ≤ j → j < ops.size → listed.getD j false = true) → wpList P ops Qx l a w → wpAny P .any ops Qx l.length listed a w
 | [], k, listed, a, w, hmk, hl, hops, hsz, hli, hlz, h => by
  refine ⟨?_, h⟩
  refine List.eq_nil_iff_forall_not_mem.2 fun i hi => ?_
  obtain ⟨oi, h1, h2, _⟩ := CU hsz hi
  have := (Array.getElem?_eq_some_iff.1 h1).1
  simp only [N6] at hl
  by_cases hiN : i < N
  ·rw [hli i hiN] at h2
   simp at h2; omega
  ·rw [hlz i (by omega) this] at h2; cases h2
 | o :: l, k, listed, a, w, hmk, hl, hops, hsz, hli, hlz, h => by
  have hok : ops[k]? = some o := by have := hops 0 (by simp); simpa using this.symm
  have hkN : k < N := by simp only [Nx] at hl; omega
  have hk : k < ops.size := (Array.getElem?_eq_some_iff.1 hok).1
  have hrk : k ∈ Region.ready .any ops listed := EC hsz hok (by rw [hli k hkN]; simp) fun e he hb => by
   have := CB hB hok e he hb
   rw [hli _ (by omega)]; simpa using this
  rw [Nx];refine ⟨fun hn => (by rw [hn] at hrk; cases hrk), fun i hi => ?_⟩
  obtain ⟨oi, h1, h2, h3⟩ := CU hsz hi
  have hin := (Array.getElem?_eq_some_iff.1 h1).1
  have hiN : i < N := by
   refine Classical.byContradiction fun hn => ?_
   rw [hlz i (by omega) hin] at h2; cases h2
  have hik : i = k := by
   rw [hli i hiN] at h2
   have h2' : k ≤ i := by simpa using h2
   refine Classical.byContradiction fun hne => ?_
   obtain ⟨e, he, hb, hon⟩ := Ft hT h1 hiN (by omega)
   have := h3 e he hb
   rw [hon, hli _ (by omega)] at this
   simp at this; omega
  subst hik;unfold wpOp;rw [hok];dsimp only
  have ih := fun a w h => G6 (Qx := Qx) hN hB hT l (i + 1) (listed.setIfInBounds i true) a w (by omega) (by simp only [Nx] at hl; omega) (fun j hj => by have := hops (j + 1) (by simp; omega); simpa [Nat.add_assoc, Nat.add_comm 1 j] using this) (by simp [hsz]) (fun j hj => by
   rw [CZ (by omega), hli j hj]
   by_cases hji : j = i
   ·subst hji; simp
   ·have : (j == i) = false := by simp [hji]
    rw [this, OL]
    congr 1
    exact propext ⟨fun h => by omega, fun h => by omega⟩) (fun j hj hj' => by rw [CZ (by omega), hlz j hj hj']; rfl) h
  unfold wpList at h;split at h
  ·rename_i hw
   rw [if_pos hw]
   exact h.imp (fun h => Oper.wp_mono ih h) fun h => h
  ·rename_i hw
   rw [if_neg hw];exact ih _ _ h
theorem MN {l1 l2 l3 : List Oper} {ops : Array Oper} (he : ops = (l1 ++ (l2 ++ l3)).toArray) (hB : BR ops l1.length = true) (hT : G7 ops l1.length (l1.length + l2.length) = true) (h : QL P c ops l1 s (fun s' => WO P c ops l2 s' Q))
  {listed0 : Array Bool} {a : Act} {w : World} (hi : Is c s a w) (hsz0 : listed0.size = ops.size) (hl0 : ∀ j, j < l1.length + l2.length → listed0.getD j false = false) (hl1 : ∀ j, l1.length + l2.length ≤ j → j < ops.size → listed0.getD j false = true) : wpAny P .any ops (Fk c Q) (l1.length + l2.length) listed0 a w := by
 obtain ⟨r, sf, q1, q2, q3, q4⟩ := h.steps
 have hops : ∀ j, j < l1.length → ops[j]? = l1[j]? := fun j hj => by subst he; rw [List.getElem?_toArray, List.getElem?_append_left hj]
 have hops2 : ∀ j, j < l2.length → l2[j]? = ops[l1.length + j]? := fun j hj => by subst he; rw [List.getElem?_toArray, List.getElem?_append_right (Nat.le_add_right _ _), Nat.add_sub_cancel_left, List.getElem?_append_left hj]
 have hsize : ops.size = l1.length + (l2.length + l3.length) := by subst he; simp
 -- the state once X is done
 have key : ∀ (n : Nat) (listed : Array Bool) (a : Act) (w : World), listed.size = ops.size → n + (listed.toList.take l1.length).count true = l1.length →
   (∀ j, l1.length ≤ j → j < l1.length + l2.length → listed.getD j false = false) → (∀ j, l1.length + l2.length ≤ j → j < ops.size → listed.getD j false = true) →
   (∀ j oj, l1[j]? = some oj → listed.getD j false = true → ∀ e, e ∈ oj.after → Region.binds .any e = true → listed.getD e.on false = true) →
   (∃ s', s'.M = s.M ∧ (∀ u, look s'.fr u = lk r (look s.fr) (fun j => listed.getD j false) l1.length u) ∧ Is c s' a w) →
   wpAny P .any ops (Fk c Q) (n + l2.length) listed a w := by
  intro n
  induction n with
  | zero =>
   intro listed a w hsz hcnt htl htz hcl ⟨s', hM, hlook, hs'⟩
   have hall : ∀ j, j < l1.length → listed.getD j false = true := by
    intro j hj
    refine Classical.byContradiction fun hf => ?_
    have hf' : listed.getD j false = false := by simpa using hf
    have h2 : (listed.toList.take l1.length).length = l1.length := by have := N1 (xs := listed); rw [N0]; omega
    have h3 := List.count_le_length (a := true) (l := listed.toList.take l1.length)
    have h4 : (listed.toList.take l1.length).count true = (listed.toList.take l1.length).length := by omega
    rw [List.count_eq_length] at h4
    have hjs : j < listed.size := by omega
    have := h4 (listed[j]) (by rw [List.mem_take_iff_getElem]; exact ⟨j, by simp; omega, by simp⟩)
    rw [No, Array.getElem?_eq_getElem hjs] at hf';rw [← this] at hf'; cases hf'
   rw [N5];refine G6 (N := l1.length + l2.length) (by omega) hB hT l2 l1.length listed a w (Nm _) rfl hops2 hsz (fun j hj => ?_) htz ?_
   ·by_cases hjl : j < l1.length
    ·rw [hall j hjl]; simp [hjl]
    ·rw [htl j (by omega) hj]; simp [hjl]
   ·refine q1 a w (Le.of (s := s') (fun u => .inl ?_) (fun u => .inl (by rw [q2, hM])) _ _ hs')
    rw [q3, hlook]
    exact Bj fun j hj _ => (hall j hj).symm
  | succ n ih =>
   intro listed a w hsz hcnt htl htz hcl ⟨s', hM, hlook, hs'⟩
   -- one of the first is not done
   have hsome : ∃ i, i < l1.length ∧ listed.getD i false = false := by
    refine Classical.byContradiction fun hno => ?_
    have hall : ∀ j, j < l1.length → listed.getD j false = true := fun j hj => by
     refine Classical.byContradiction fun hf => hno ⟨j, hj, by simpa using hf⟩
    have h1 : l1.length ≤ (listed.toList.take l1.length).count true := by
     have h2 : (listed.toList.take l1.length).length = l1.length := by have := N1 (xs := listed); rw [N0]; omega
     have : (listed.toList.take l1.length).count true = (listed.toList.take l1.length).length := List.count_eq_length.2 fun b hb => by
      obtain ⟨j, hj, rfl⟩ := List.mem_take_iff_getElem.1 hb
      rw [N1 (xs := listed)] at hj
      have h5 := hall j (by omega)
      rw [No, Array.getElem?_eq_getElem (by omega)] at h5
      simpa using h5.symm
     omega
    omega
   have hleast : ∃ i, i < l1.length ∧ listed.getD i false = false ∧ ∀ j, j < i → listed.getD j false = true := by
    obtain ⟨i0, hi0, hu0⟩ := hsome
    clear hcnt
    induction i0 using Nat.strongRecOn with
    | _ n ihn =>
     by_cases hx : ∃ j, j < n ∧ listed.getD j false = false
     ·obtain ⟨j, hj, hf⟩ := hx
      exact ihn j hj (by omega) hf
     ·refine ⟨n, hi0, hu0, fun j hj => ?_⟩
      cases hf : listed.getD j false with
      | true => rfl
      | false => exact absurd ⟨j, hj, hf⟩ hx
   have hready : Region.ready .any ops listed ≠ [] := by
    obtain ⟨i, hi1, hi2, hi3⟩ := hleast
    have hoi : ops[i]? = some l1[i] := by rw [hops i hi1]; simp
    intro hnil
    have : i ∈ Region.ready .any ops listed := EC hsz hoi hi2 fun e he hb => hi3 _ (CB hB hoi e he hb)
    rw [hnil] at this; cases this
   rw [Nat.succ_add];refine ⟨fun h => absurd h hready, fun i hir => ?_⟩
   -- operation i, now
   obtain ⟨oi, hoi0, hun', hafter⟩ := CU hsz hir
   have hil : i < l1.length := by
    refine Classical.byContradiction fun hni => ?_
    by_cases hie : i = l1.length
    ·subst hie
     have hall : ∀ d j, j + d = l1.length → d ≠ 0 → listed.getD j false = true := by
      intro d
      induction d using Nat.strongRecOn with
      | _ d ihd =>
       intro j hjd hd
       obtain ⟨j2, oj2, p1, p2, p3, e, p4, p5, p6⟩ := IJ hT (k := j) (by omega)
       by_cases hj2 : j2 = l1.length
       ·subst hj2
        rw [hoi0] at p3; cases p3;rw [← p6]; exact hafter e p4 p5
       ·rw [← p6]
        exact hcl j2 oj2 (by rw [← hops j2 (by omega)]; exact p3) (ihd (l1.length - j2) (by omega) j2 (by omega) (by omega)) e p4 p5
     obtain ⟨j, hj, hf⟩ := hsome
     rw [hall (l1.length - j) j (by omega) (by omega)] at hf; cases hf
    ·have hiN : i < l1.length + l2.length := by
      refine Classical.byContradiction fun hn => ?_
      rw [htz i (by omega) (Array.getElem?_eq_some_iff.1 hoi0).1] at hun'; cases hun'
     obtain ⟨e, p4, p5, p6⟩ := Ft hT hoi0 hiN (by omega)
     have := hafter e p4 p5
     rw [p6, htl _ (by omega) (by omega)] at this; cases this
   have hoi : ops[i]? = some l1[i] := by rw [hops i hil]; simp
   rw [hoi] at hoi0; cases hoi0
   have hli : l1[i]? = some l1[i] := List.getElem?_eq_getElem hil
   obtain ⟨hdst, hstep⟩ := q4 i l1[i] hli
   -- the writers of what it looks at are as in the text
   have hwr : ∀ u, u ∈ l1[i].looksAt ops → ∀ j, j < l1.length → (r j).1 = u → listed.getD j false = decide (j < i) := by
    intro u hu j hj hru
    have hoj : ops[j]? = some l1[j] := by rw [hops j hj]; simp
    obtain ⟨hdj, _⟩ := q4 j l1[j] (List.getElem?_eq_getElem hj)
    by_cases hji : j < i
    ·simp only [hji, decide_true]
     rcases orderT_spec hB hoj hj i _ hoi hil hji with ⟨e, he, hb, hon⟩ | hap
     ·rw [← hon]; exact hafter e he hb
     ·exact absurd (hru ▸ hu) ((Oper.apart_spec hap).1 _ hdj)
    ·by_cases hje : j = i
     ·subst hje; simpa using hun'
     ·have hij : i < j := by omega
      have hdec : decide (j < i) = false := by simp; omega
      rw [hdec]
      cases hX : listed.getD j false with
      | false => rfl
      | true =>
       rcases orderT_spec hB hoi hil j _ hoj hj hij with ⟨e, he, hb, hon⟩ | hap
       ·have := hcl j _ (List.getElem?_eq_getElem hj) hX e he hb
        rw [hon, hun'] at this;cases this
       ·exact absurd (hru ▸ hu) ((Oper.apart_spec hap).2.2 _ hdj)
   have hst := hstep s' hM fun u hu => by
    rw [hlook, ← DS (r := r) (base := look s.fr) (show i ≤ l1.length by omega)]
    exact Bj fun j hj hru => hwr u hu j hj hru
   have hno : ∀ j, j < l1.length → i < j → listed.getD j false = true → (r j).1 ≠ (r i).1 := by
    intro j hj hij hX he
    have hoj : ops[j]? = some l1[j] := by rw [hops j hj]; simp
    obtain ⟨hdj, _⟩ := q4 j l1[j] (List.getElem?_eq_getElem hj)
    rcases orderT_spec hB hoi hil j _ hoj hj hij with ⟨e, he', hb, hon⟩ | hap
    ·have := hcl j _ (List.getElem?_eq_getElem hj) hX e he' hb
     rw [hon, hun'] at this;cases this
    ·exact (Oper.apart_spec hap).2.1 _ hdst (by rw [hdj, he])
   unfold wpOp;rw [hoi];dsimp only
   have hset : ∀ j, (listed.setIfInBounds i true).getD j false = (listed.getD j false || j == i) := CZ (by omega)
   have hfin := hst.wp (K := wpAny P .any ops (Fk c Q) (n + l2.length) (listed.setIfInBounds i true)) (Q' := Fk c Q) hs' fun a' w' h' => by
    refine ih _ a' w' (by simp [hsz]) ?_ ?_ ?_ ?_ ⟨⟨((r i).1, (r i).2) :: s'.fr, s'.M⟩, hM, fun u => ?_, h'⟩
    ·have hl2 : (listed.toList.take l1.length)[i]? = some false := by
      rw [List.getElem?_take_of_lt hil, Array.getElem?_toList, Array.getElem?_eq_getElem (by omega)];rw [No, Array.getElem?_eq_getElem (by omega)] at hun'
      simpa using hun'
     rw [Array.toList_setIfInBounds, List.take_set, EM hl2];omega
    ·intro j hj hj'
     rw [hset, htl j hj hj']
     simp; omega
    ·intro j hj hj'
     rw [hset, htz j hj hj']; rfl
    ·intro j oj hj hX e he hb
     rw [hset] at hX ⊢
     by_cases hji : j = i
     ·subst hji
      have : oj = l1[j] := by rw [hli] at hj; exact (Option.some.inj hj).symm
      subst this;rw [hafter e he hb]; rfl
     ·have : (j == i) = false := by simp [hji]
      rw [this, OL] at hX;rw [hcl j oj hj hX e he hb]; rfl
    ·simp only [look]
     rw [show (fun j => (listed.setIfInBounds i true).getD j false) = (fun j => listed.getD j false || j == i) from funext hset];rw [JP hil hno, hlook]
   by_cases hw : Region.wanted l1[i] (yielded ops a.tmps) = true
   ·rw [if_pos hw] at hfin ⊢
    exact .inl hfin
   ·rw [if_neg hw] at hfin ⊢
    exact hfin
 refine key l1.length listed0 a w hsz0 ?_ (fun j hj hj' => hl0 j hj') hl1 ?_ ⟨s, rfl, fun u => ?_, hi⟩
 ·rw [List.count_eq_zero.2, Nat.add_zero]
  intro hm
  obtain ⟨j, hj, hjt⟩ := List.mem_take_iff_getElem.1 hm
  have h5 := hl0 j (by omega)
  rw [No, Array.getElem?_eq_getElem (by rw [N1 (xs := listed0)] at hj; omega)] at h5;rw [Array.getElem_toList] at hjt;rw [hjt] at h5; cases h5
 ·intro j oj hj hX
  rw [hl0 j (by have := (List.getElem?_eq_some_iff.1 hj).1; omega)] at hX; cases hX
 ·have : lk r (look s.fr) (fun j => listed0.getD j false) l1.length u = lk r (look s.fr) (fun j => decide (j < 0)) l1.length u := Bj fun j hj _ => by
   rw [hl0 j (by omega)]; simp
  rw [this, DS (OQ _)];rfl
theorem KK {id : Nat} {l1 l2 : List Oper} {z : Oper} {ops : Array Oper} {t : Nat} {v : Value} (hm : P.follows .mixedOrders = true) (he : ops = (l1 ++ (l2 ++ [z])).toArray) (hzo : z.op = .move (.const v)) (hzg : z.guard = none) (hzd : z.dst = some t) (ht : t < c.n)
  (hs : Region.noSelect ops = true) (hr : (Region.ready .any ops (Array.replicate ops.size false)).contains (l1.length + l2.length) = true) (hf : Region.free .any ops (Array.replicate ops.size false) (l1.length + l2.length) = true)
  (hB : BR ops l1.length = true) (hT : G7 ops l1.length (l1.length + l2.length) = true) (h : QL P c ops l1 ⟨(t, opd s.fr (.const v)) :: s.fr, s.M⟩ (fun s' => WO P c ops l2 s' (nQ Q))) : W P c (.region id ops true) s Q := by
 intro a w hi
 have hsize : ops.size = l1.length + l2.length + 1 := by subst he; simp; omega
 have hz : ops[l1.length + l2.length]? = some z := by subst he; rw [List.getElem?_toArray, ← OI, List.getElem?_append_right (by simp)]; simp
 refine Code.wp_mono (Q := Fk c (nQ Q)) (fun e a w => ?_) (wp_region_any hm ?_)
 ·rintro ⟨s', h1, h2⟩
  cases e with
  | normal => exact ⟨s', h1, h2⟩
  | _ => exact h2.elim
 ·obtain ⟨F, β, fb, mb, ow, hi⟩ := hi
  have hi := hi.drew
  obtain ⟨bs, hrv, hbs⟩ := hi.opd (.const v)
  have hbs' : bs = [] := by
   rcases hbs with h | ⟨t, h, _⟩
   ·exact h
   ·cases h
  subst hbs'
  have hi2 := hi.put ht hrv
  have hv : a.eval (.const v) = v := rfl
  rw [hsize, ← hsize]
  conv => arg 5; rw [hsize]
  refine wpAny_take hz hs hf hr (v := v) (fun ch a w ⟨s', _, h⟩ => h.elim) (.inl ⟨by unfold Region.wanted; rw [hzg], fun w => ?_⟩) ?_
  ·rw [execOp, hzo]; rfl
  ·rw [hzd]
   refine MN he hB hT h ⟨F, β, _, mb, ow, hi2⟩ (by simp) (fun j hj => ?_) (fun j hj hj' => ?_)
   ·rw [CZ (by simp; omega)]
    rw [No, Array.getElem?_replicate]
    have : (j == l1.length + l2.length) = false := by simp; omega
    rw [this]
    split <;> rfl
   ·have : j = l1.length + l2.length := by omega
    subst this;rw [CZ (by simp; omega)]; simp
theorem Ip {id : Nat} {ops : Array Oper} {z : Oper} {t : Nat} {v : Value} (m N : Nat) (hm : P.follows .mixedOrders = true) (hl : (ops.toList.take m).length = m) (hl2 : (ops.toList.take N).length = N) (hmN : Nat.ble m N = true) (hlz : ops.toList.drop N = [z])
  (hzo : z.op = .move (.const v)) (hzg : z.guard = none) (hzd : z.dst = some t) (ht : t < c.n)
  (hs : Region.noSelect ops = true) (hr : (Region.ready .any ops (Array.replicate ops.size false)).contains N = true) (hf : Region.free .any ops (Array.replicate ops.size false) N = true)
  (hB : BR ops m = true) (hT : G7 ops m N = true) (h : QL P c ops (ops.toList.take m) ⟨(t, opd s.fr (.const v)) :: s.fr, s.M⟩ (fun s' => WO P c ops ((ops.toList.take N).drop m) s' (nQ Q))) : W P c (.region id ops true) s Q := by
 have hmN' : m ≤ N := by simpa using hmN
 have e1 : ops.toList.take m ++ (ops.toList.take N).drop m = ops.toList.take N := by
  have := Oi m (ops.toList.take N)
  rw [List.take_take, Oh hmN'] at this;exact this
 have e2 : (ops.toList.take m).length + ((ops.toList.take N).drop m).length = N := by
  rw [← Nu, e1, hl2]
 refine KK (l1 := ops.toList.take m) (l2 := (ops.toList.take N).drop m) (z := z) hm ?_ hzo hzg hzd ht hs (by rw [e2]; exact hr) (by rw [e2]; exact hf) (by rw [hl]; exact hB) (by rw [e2, hl]; exact hT) h;rw [← OI, e1, ← hlz, Oi]
end
end Go.Eng
end
section
/- A call whose answer may be a part of what is read, in a statement of open order. -/
namespace Go.Eng
open Go.RowKit
section
variable {P : Program} {c : Ctx} {s : St} {Q : St → Prop} {ops : Array Oper} {rest : List Oper} {o : Oper}
theorem ES {Γ : Tys} (hΓ : Γ.ok P) {t : Nat} {d d' : D} (hg : o.guard = none) (hd : o.dst = some t) (ht : t < c.n) (he : evF Γ s o.op = some d) (hz : frz d = some d') (k : QL P c ops rest ⟨(t, d') :: s.fr, s.M⟩ Q) : QL P c ops (o :: rest) s Q :=
 ⟨t, d', hd, fun s' ha Q h => by
  have h1 : Le c ⟨(t, d) :: s'.fr, s'.M⟩ ⟨(t, d') :: (t, d) :: s'.fr, s'.M⟩ := Le.freeze (u := t) (by
   show frz (if t = t then d else look s'.fr t) = _
   rw [if_pos rfl]; exact hz)
  have h2 : Le c ⟨(t, d') :: (t, d) :: s'.fr, s'.M⟩ ⟨(t, d') :: s'.fr, s'.M⟩ := Le.of (fun u => .inl (by
   show (if t = u then d' else look s'.fr u) = if t = u then d' else if t = u then d else look s'.fr u
   split <;> rfl)) (fun u => .inl rfl)
  exact WO_evF hΓ hg hd ht (by unfold evF at he ⊢; rwa [FN ha]) (WO_le (h1.trans h2) h), k⟩
theorem LW {Q : Exit → St → Prop} {t ty ty' : Nat} {x y : Operand} {a b : Int} (hg : o.guard = none) (hd : o.dst = some t) (ht : t < c.n) (ho : o.op = .binOp .rem ty x y ty') (hx : opd s.fr x = .t (.v (.int .i64 a))) (hy : opd s.fr y = .t (.v (.int .i64 b)))
  (hb : b ≠ 0) (kk : WO P c ops rest ⟨(t, .t (.v (.int .i64 (a.tmod b)))) :: s.fr, s.M⟩ Q) : WO P c ops (o :: rest) s Q := by
 refine CD hg hd ht _ (fun a' w F β fb mb ow hi => ?_) kk;refine ⟨.int .i64 (a.tmod b), ?_, .t (.v rfl .nil) .done⟩
 have e1 := C4 hi hx
 have e2 := C4 hi hy
 simp only [execOp, ho, e1, e2]
 simp [eqGuard, binOp, Op.intDiv, hb]
end
end Go.Eng
end
section
/- Statements of open order, told by the state that each set of operations that are done leaves: those may make memory, and move what is owned. -/
namespace Go.Eng
open Go.RowKit
section
variable {P : Program} {c : Ctx} {s : St} {Q : Exit → St → Prop} {ops : Array Oper} {rest : List Oper} {o : Oper}
def StepTo (P : Program) (c : Ctx) (ops : Array Oper) (o : Oper) (s s2 : St) : Prop := ∀ Q : Exit → St → Prop, WO P c ops [] s2 Q → WO P c ops [o] s Q
theorem StepTo.wp {s2 : St} (h : StepTo P c ops o s s2) {a : Act} {w : World} (hi : Is c s a w) {K : Act → World → Prop} {Q' : Exit → Act → World → Prop}
    (hK : ∀ a' w', Is c s2 a' w' → K a' w') : if Region.wanted o (yielded ops a.tmps) then o.wp P a w K Q' else K (a.put o.dst undef) w := by
  let Q : Exit → St → Prop := fun e s' => match e with | .normal => s' = s2 | _ => False
  have h1 := h Q (fun a w hi => ⟨_, hi, rfl⟩) a w hi
  unfold wpList at h1
  have hQ : ∀ e a w, Fk c Q e a w → (match e with | .normal => K a w | _ => False) := fun e a w ⟨s', h2, h3⟩ => by
    cases e with
    | normal => have h3' : s' = s2 := h3; subst h3'; exact hK _ _ h2
    | _ => exact h3.elim
  split at h1
  · rename_i hw
    rw [if_pos hw]
    rcases h1 with h1 | ⟨_, a', w', h2⟩
    · unfold Oper.wp at h1 ⊢
      generalize (execOp a.eval o).run P w = r at h1
      cases r with
      | ok n w' =>
        cases n <;> simp only [Oper.upon] at h1 ⊢ <;> first
          | exact hQ .normal _ _ h1
          | (refine Calls.mono h1 fun e w'' he => ?_
             cases e with
             | returned v => exact hQ .normal _ _ he
             | panicked ch => exact (hQ _ _ _ he).elim
             | outgrown => obtain ⟨a1, w1, h3⟩ := he; exact (hQ _ _ _ h3).elim)
          | exact Rows.mono h1 fun _ _ he => hQ .normal _ _ he
          | exact h1
      | halt x w' => cases x <;> simp only [Oper.upon] at h1 ⊢ <;> first | exact (hQ _ _ _ h1).elim | exact h1
    · exact (hQ _ _ _ h2).elim
  · rename_i hw
    rw [if_neg hw];exact hQ .normal _ _ h1
def WR (P : Program) (c : Ctx) (ops : Array Oper) (s : St) (Q : Exit → St → Prop) : Prop := ∀ a w, Is c s a w → wpAny P .any ops (Fk c Q) ops.size (Array.replicate ops.size false) a { w with drawn := w.drawn + 1 }
theorem Ea {id : Nat} (hm : P.follows .mixedOrders = true) (h : WR P c ops s Q) : W P c (.region id ops true) s Q := fun a w hi => wp_region_any hm (h a w hi)
theorem WR_S {l1 l2 : List Oper} {ops : Array Oper} (he : ops = (l1 ++ l2).toArray) (hB : BR ops l1.length = true) (hT0 : l2 = [] ∨ DZ ops l1.length = true)
  (S : (Nat → Bool) → St) (h0 : ∀ X : Nat → Bool, (∀ j, X j = false) → Le c s (S X))
  (hst : ∀ (X : Nat → Bool) (i : Nat) (o : Oper), l1[i]? = some o → X i = false → (∀ j oj, l1[j]? = some oj → X j = true → ∀ e, e ∈ oj.after → Region.binds .any e = true → X e.on = true) →
   (∀ e, e ∈ o.after → Region.binds .any e = true → X e.on = true) → StepTo P c ops o (S X) (S fun j => X j || j == i))
  (hend : ∀ X : Nat → Bool, (∀ j, j < l1.length → X j = true) → WO P c ops l2 (S X) Q) : WR P c ops s Q := by
 intro a w hi
 have hops : ∀ j, j < l1.length → ops[j]? = l1[j]? := fun j hj => by subst he; rw [List.getElem?_toArray, List.getElem?_append_left hj]
 have hops2 : ∀ j, l2[j]? = ops[l1.length + j]? := fun j => by subst he; rw [List.getElem?_toArray, List.getElem?_append_right (Nat.le_add_right _ _), Nat.add_sub_cancel_left]
 have hsize : ops.size = l1.length + l2.length := by subst he; simp
 -- the state once X is done
 have key : ∀ (n : Nat) (listed : Array Bool) (a : Act) (w : World), listed.size = ops.size → n + listed.toList.count true = l1.length →
   (∀ j, l1.length ≤ j → listed.getD j false = false) →
   (∀ j oj, l1[j]? = some oj → listed.getD j false = true → ∀ e, e ∈ oj.after → Region.binds .any e = true → listed.getD e.on false = true) →
   Is c (S fun j => listed.getD j false) a w →
   wpAny P .any ops (Fk c Q) (n + l2.length) listed a w := by
  intro n
  induction n with
  | zero =>
   intro listed a w hsz hcnt htl hcl hs'
   have hall : ∀ j, j < l1.length → listed.getD j false = true := by
    intro j hj
    refine Classical.byContradiction fun hf => ?_
    have hf' : listed.getD j false = false := by simpa using hf
    -- one of the first is not done, so fewer are
    have h1 : listed.toList.count true ≤ (listed.toList.take l1.length).count true := by
     conv => lhs; rw [← Oi l1.length listed.toList, List.count_append]
     have : (listed.toList.drop l1.length).count true = 0 := List.count_eq_zero.2 fun hm => by
      obtain ⟨j, hj, hjt⟩ := List.getElem_of_mem hm
      rw [List.getElem_drop] at hjt;rw [OS, N1 (xs := listed)] at hj
      have h5 := htl (l1.length + j) (by omega)
      rw [No, Array.getElem?_eq_getElem (by omega)] at h5;rw [Array.getElem_toList] at hjt;rw [hjt] at h5; cases h5
     omega
    have h2 : (listed.toList.take l1.length).length = l1.length := by have := N1 (xs := listed); rw [N0]; omega
    have h3 := List.count_le_length (a := true) (l := listed.toList.take l1.length)
    have h4 : (listed.toList.take l1.length).count true = (listed.toList.take l1.length).length := by omega
    rw [List.count_eq_length] at h4
    have hjs : j < listed.size := by omega
    have := h4 (listed[j]) (by rw [List.mem_take_iff_getElem]; exact ⟨j, by simp; omega, by simp⟩)
    rw [No, Array.getElem?_eq_getElem hjs] at hf';rw [← this] at hf'; cases hf'
   rw [N5]
   rcases hT0 with hl2 | hT
   ·subst hl2
    refine ⟨List.eq_nil_iff_forall_not_mem.2 fun i hi => ?_, hend _ hall a w hs'⟩
    obtain ⟨oi, h1, h2, _⟩ := CU hsz hi
    have := (Array.getElem?_eq_some_iff.1 h1).1
    rw [hall i (by simp at hsize; omega)] at h2;cases h2
   refine GL hB hT l2 l1.length listed a w (Nm _) hsize.symm hops2 hsz (fun j hj => ?_) ?_
   ·by_cases hjl : j < l1.length
    ·rw [hall j hjl]; simp [hjl]
    ·rw [htl j (by omega)]; simp [hjl]
   ·exact hend _ hall a w hs'
  | succ n ih =>
   intro listed a w hsz hcnt htl hcl hs'
   -- one of the first is not done
   have hsome : ∃ i, i < l1.length ∧ listed.getD i false = false := by
    refine Classical.byContradiction fun hno => ?_
    have hall : ∀ j, j < l1.length → listed.getD j false = true := fun j hj => by
     refine Classical.byContradiction fun hf => hno ⟨j, hj, by simpa using hf⟩
    have h1 : l1.length ≤ (listed.toList.take l1.length).count true := by
     have h2 : (listed.toList.take l1.length).length = l1.length := by have := N1 (xs := listed); rw [N0]; omega
     have : (listed.toList.take l1.length).count true = (listed.toList.take l1.length).length := List.count_eq_length.2 fun b hb => by
      obtain ⟨j, hj, rfl⟩ := List.mem_take_iff_getElem.1 hb
      rw [N1 (xs := listed)] at hj
      have h5 := hall j (by omega)
      rw [No, Array.getElem?_eq_getElem (by omega)] at h5
      simpa using h5.symm
     omega
    have h3 : (listed.toList.take l1.length).count true ≤ listed.toList.count true := (List.take_sublist _ _).count_le _
    omega
   have hleast : ∃ i, i < l1.length ∧ listed.getD i false = false ∧ ∀ j, j < i → listed.getD j false = true := by
    obtain ⟨i0, hi0, hu0⟩ := hsome
    clear hcnt
    induction i0 using Nat.strongRecOn with
    | _ n ihn =>
     by_cases hx : ∃ j, j < n ∧ listed.getD j false = false
     ·obtain ⟨j, hj, hf⟩ := hx
      exact ihn j hj (by omega) hf
     ·refine ⟨n, hi0, hu0, fun j hj => ?_⟩
      cases hf : listed.getD j false with
      | true => rfl
      | false => exact absurd ⟨j, hj, hf⟩ hx
   have hready : Region.ready .any ops listed ≠ [] := by
    obtain ⟨i, hi1, hi2, hi3⟩ := hleast
    have hoi : ops[i]? = some l1[i] := by rw [hops i hi1]; simp
    intro hnil
    have : i ∈ Region.ready .any ops listed := EC hsz hoi hi2 fun e he hb => hi3 _ (CB hB hoi e he hb)
    rw [hnil] at this; cases this
   rw [Nat.succ_add];refine ⟨fun h => absurd h hready, fun i hir => ?_⟩
   -- operation i, now
   obtain ⟨oi, hoi0, hun', hafter⟩ := CU hsz hir
   have hil : i < l1.length := by
    rcases hT0 with hl2 | hT
    ·have := (Array.getElem?_eq_some_iff.1 hoi0).1
     subst hl2
     simp at hsize
     omega
    refine Classical.byContradiction fun hni => ?_
    by_cases hie : i = l1.length
    ·subst hie
     have hall : ∀ d j, j + d = l1.length → d ≠ 0 → listed.getD j false = true := by
      intro d
      induction d using Nat.strongRecOn with
      | _ d ihd =>
       intro j hjd hd
       obtain ⟨j2, oj2, p1, p2, p3, e, p4, p5, p6⟩ := E2 hT (k := j) (by omega)
       by_cases hj2 : j2 = l1.length
       ·subst hj2
        rw [hoi0] at p3; cases p3;rw [← p6]; exact hafter e p4 p5
       ·rw [← p6]
        exact hcl j2 oj2 (by rw [← hops j2 (by omega)]; exact p3) (ihd (l1.length - j2) (by omega) j2 (by omega) (by omega)) e p4 p5
     obtain ⟨j, hj, hf⟩ := hsome
     rw [hall (l1.length - j) j (by omega) (by omega)] at hf; cases hf
    ·obtain ⟨e, p4, p5, p6⟩ := EV hT hoi0 (by omega)
     have := hafter e p4 p5
     rw [p6, htl _ (by omega)] at this; cases this
   have hoi : ops[i]? = some l1[i] := by rw [hops i hil]; simp
   rw [hoi] at hoi0; cases hoi0
   have hli : l1[i]? = some l1[i] := List.getElem?_eq_getElem hil
   have hst2 := hst (fun j => listed.getD j false) i l1[i] hli hun' hcl hafter
   unfold wpOp;rw [hoi];dsimp only
   have hset : ∀ j, (listed.setIfInBounds i true).getD j false = (listed.getD j false || j == i) := CZ (by omega)
   have hfin := hst2.wp (K := wpAny P .any ops (Fk c Q) (n + l2.length) (listed.setIfInBounds i true)) (Q' := Fk c Q) hs' fun a' w' h' => by
    refine ih _ a' w' (by simp [hsz]) ?_ ?_ ?_ (by rw [show (fun j => (listed.setIfInBounds i true).getD j false) = (fun j => listed.getD j false || j == i) from funext hset]; exact h')
    ·have hl2 : listed.toList[i]? = some false := by
      rw [Array.getElem?_toList, Array.getElem?_eq_getElem (by omega)];rw [No, Array.getElem?_eq_getElem (by omega)] at hun'
      simpa using hun'
     rw [Array.toList_setIfInBounds, EM hl2];omega
    ·intro j hj
     rw [hset, htl j hj]
     simp; omega
    ·intro j oj hj hX e he hb
     rw [hset] at hX ⊢
     by_cases hji : j = i
     ·subst hji
      have : oj = l1[j] := by rw [hli] at hj; exact (Option.some.inj hj).symm
      subst this;rw [hafter e he hb]; rfl
     ·have : (j == i) = false := by simp [hji]
      rw [this, OL] at hX;rw [hcl j oj hj hX e he hb]; rfl
   by_cases hw : Region.wanted l1[i] (yielded ops a.tmps) = true
   ·rw [if_pos hw] at hfin ⊢
    exact .inl hfin
   ·rw [if_neg hw] at hfin ⊢
    exact hfin
 have hk0 := key l1.length (Array.replicate ops.size false) a { w with drawn := w.drawn + 1 } (by simp) (by simp [List.count_replicate]) (fun j hj => by
   rw [No, Array.getElem?_replicate]
   split <;> rfl) (by
   intro j oj hj hX;rw [No, Array.getElem?_replicate] at hX
   split at hX <;> simp at hX) (by
   refine h0 _ (fun j => ?_) _ _ ?_
   ·rw [No, Array.getElem?_replicate]
    split <;> rfl
   ·obtain ⟨F, β, fb, mb, ow, hi'⟩ := hi
    exact ⟨F, β, fb, mb, ow, hi'.drew⟩)
 rw [hsize];rw [hsize] at hk0;exact hk0
end
end Go.Eng
end
section
/- Walks of statements of open order in which memory is made, and what is owned is moved. -/
namespace Go.Eng
open Go.RowKit
structure Dl where
 t : Nat
 d : D
 mv : List Nat
 M : List (Nat × Blk)
 b : Bool
def Dl.fr (x : Dl) : List (Nat × D) := (x.t, x.d) :: x.mv.map fun u => (u, D.top)
def Dl.on (x : Dl) (s : St) : St := ⟨x.fr ++ s.fr, x.M ++ s.M⟩
def mrg (xs : List Dl) (X : Nat → Bool) (s : St) : Nat → St
 | 0 => s
 | k + 1 => match xs[k]? with
  | some x => if X k then x.on (mrg xs X s k) else mrg xs X s k
  | none => mrg xs X s k
def onL : List Dl → St → St
 | [], s => s
 | x :: xs, s => onL xs (x.on s)
def inF {α : Type} (l : List (Nat × α)) (u : Nat) : Bool := l.any fun p => p.1 == u
theorem look_app : ∀ (a b : List (Nat × D)) (u : Nat), look (a ++ b) u = if inF a u then look a u else look b u
 | [], b, u => by simp [inF]
 | (k, d) :: a, b, u => by
  rw [Ob, look, look]
  by_cases h : k = u
  ·subst h; simp [inF]
  ·rw [if_neg h, if_neg h, look_app a b u]
   have : inF ((k, d) :: a) u = inF a u := by simp [inF, h]
   rw [this]
theorem lookM_app : ∀ (a b : List (Nat × Blk)) (u : Nat), lookM (a ++ b) u = if inF a u then lookM a u else lookM b u
 | [], b, u => by simp [inF]
 | (k, d) :: a, b, u => by
  rw [Ob, lookM, lookM]
  by_cases h : k = u
  ·subst h; simp [inF]
  ·rw [if_neg h, if_neg h, lookM_app a b u]
   have : inF ((k, d) :: a) u = inF a u := by simp [inF, h]
   rw [this]
theorem JE : ∀ (xs : List Dl) (x : Dl) (s : St), onL (xs ++ [x]) s = x.on (onL xs s)
 | [], x, s => rfl
 | y :: xs, x, s => by rw [Ob, onL, JE xs x]; rfl
section
variable {xs : List Dl} {X Y : Nat → Bool} {s : St}
theorem CF : ∀ {n : Nat}, n ≤ xs.length → (∀ j, j < n → X j = true) → mrg xs X s n = onL (xs.take n) s
 | 0, _, _ => rfl
 | n + 1, hn, h => by
  rw [mrg, List.getElem?_eq_getElem (by omega)];dsimp only;rw [if_pos (h n (by omega)), CF (by omega) fun j hj => h j (by omega), List.take_add_one, List.getElem?_eq_getElem (by omega)];exact (JE _ _ _).symm
theorem BZ {i : Nat} : ∀ {n : Nat}, i ≤ n → (∀ j, i ≤ j → X j = false) → mrg xs X s n = mrg xs X s i
  | 0, hi, _ => by have : i = 0 := by omega
                   subst this; rfl
  | n + 1, hi, h => by
    by_cases e : i = n + 1
    · rw [e]
    · rw [mrg, h n (by omega)]
      have := BZ (n := n) (by omega) h
      cases xs[n]? <;> simpa using this
theorem EE {u : Nat} : ∀ {n : Nat}, (∀ j x, j < n → xs[j]? = some x → inF x.fr u = true → X j = Y j) → look (mrg xs X s n).fr u = look (mrg xs Y s n).fr u
 | 0, _ => rfl
 | n + 1, h => by
  have ih := EE (n := n) fun j x hj => h j x (by omega)
  rw [mrg, mrg]
  cases e : xs[n]? with
  | none => exact ih
  | some x =>
   dsimp only
   cases hx : inF x.fr u with
   | true => rw [h n x (by omega) e hx]; cases Y n <;> simp [Dl.on, look_app, hx, ih]
   | false => cases X n <;> cases Y n <;> simp [Dl.on, look_app, hx, ih]
theorem Gg {u : Nat} : ∀ {n : Nat}, (∀ j x, j < n → xs[j]? = some x → inF x.M u = true → X j = Y j) → lookM (mrg xs X s n).M u = lookM (mrg xs Y s n).M u
 | 0, _ => rfl
 | n + 1, h => by
  have ih := Gg (n := n) fun j x hj => h j x (by omega)
  rw [mrg, mrg]
  cases e : xs[n]? with
  | none => exact ih
  | some x =>
   dsimp only
   cases hx : inF x.M u with
   | true => rw [h n x (by omega) e hx]; cases Y n <;> simp [Dl.on, lookM_app, hx, ih]
   | false => cases X n <;> cases Y n <;> simp [Dl.on, lookM_app, hx, ih]
theorem Ck {i u : Nat} {x : Dl} (hx : xs[i]? = some x) (hX : X i = false) (hu : inF x.fr u = true) : ∀ {n : Nat}, i < n → (∀ j y, j < n → i < j → X j = true → xs[j]? = some y → inF y.fr u = false) →
  look (mrg xs (fun j => X j || j == i) s n).fr u = look x.fr u
 | 0, h, _ => by omega
 | n + 1, h, hno => by
  rw [mrg]
  by_cases e : n = i
  ·subst e
   rw [hx]
   simp [Dl.on, look_app, hu]
  ·have ih := Ck hx hX hu (n := n) (by omega) fun j y hj => hno j y (by omega)
   have hni : (n == i) = false := by simpa using e
   rw [hni, OL]
   cases e2 : xs[n]? with
   | none => exact ih
   | some y =>
    dsimp only
    cases hXn : X n with
    | false => simpa using ih
    | true =>
     have := hno n y (by omega) (by omega) hXn e2
     simp [Dl.on, look_app, this, ih]
theorem DE {i u : Nat} {x : Dl} (hx : xs[i]? = some x) (hX : X i = false) (hu : inF x.M u = true) : ∀ {n : Nat}, i < n → (∀ j y, j < n → i < j → X j = true → xs[j]? = some y → inF y.M u = false) →
  lookM (mrg xs (fun j => X j || j == i) s n).M u = lookM x.M u
 | 0, h, _ => by omega
 | n + 1, h, hno => by
  rw [mrg]
  by_cases e : n = i
  ·subst e
   rw [hx]
   simp [Dl.on, lookM_app, hu]
  ·have ih := DE hx hX hu (n := n) (by omega) fun j y hj => hno j y (by omega)
   have hni : (n == i) = false := by simpa using e
   rw [hni, OL]
   cases e2 : xs[n]? with
   | none => exact ih
   | some y =>
    dsimp only
    cases hXn : X n with
    | false => simpa using ih
    | true =>
     have := hno n y (by omega) (by omega) hXn e2
     simp [Dl.on, lookM_app, this, ih]
end
def Ai (t : Nat) : Blk → Bool
 | .box cells => !D.has.hasL t cells
 | .pin i _ _ _ => !(i == t)
 | _ => true
def Cl (t : Nat) (s : St) : Prop := (∀ u, (look s.fr u).has t = false) ∧ (∀ id k, lookM s.M id = some k → Ai t k = true) ∧ lookM s.M t = none
theorem Gh {t : Nat} {d : D} (h : d.has t = false) : d.kill t = d := by unfold D.kill; rw [h]; rfl
theorem JR {t : Nat} : ∀ {l : List D}, D.has.hasL t l = false → l.map (D.kill t) = l
 | [], _ => rfl
 | d :: l, h => by
  simp only [D.has.hasL, OC] at h;rw [OA, Gh h.1, JR h.2]
theorem Gi {t : Nat} {k : Blk} (h : Ai t k = true) : k.kill t = k := by
 cases k with
 | box cells => simp only [Ai, N9] at h; simp only [Blk.kill]; rw [JR h]
 | pin i b n c => simp only [Ai, N9, beq_eq_false_iff_ne] at h; simp only [Blk.kill]; rw [if_neg h]
 | _ => rfl
def Gu (t : Nat) (fr : List (Nat × D)) : Bool := fr.all fun p => !p.2.has t
def clM (t : Nat) (M : List (Nat × Blk)) : Bool := M.all fun p => Ai t p.2 && p.1 != t
theorem B1 {t : Nat} : ∀ {fr : List (Nat × D)}, Gu t fr = true → ∀ u, (look fr u).has t = false
 | [], _, u => rfl
 | (k, d) :: fr, h, u => by
  simp only [Gu, Oe, Nk, N9] at h;rw [look];split
  ·exact h.1
  ·exact B1 (by simpa [Gu] using h.2) u
theorem Ba {t : Nat} : ∀ {M : List (Nat × Blk)}, clM t M = true → (∀ id k, lookM M id = some k → Ai t k = true) ∧ lookM M t = none
 | [], _ => ⟨fun id k h => (by cases h), rfl⟩
 | (k, d) :: M, h => by
  simp only [clM, Oe, Nk] at h
  have ih := Ba (M := M) (by simpa [clM] using h.2)
  refine ⟨fun id b hb => ?_, ?_⟩
  ·rw [lookM] at hb
   split at hb
   ·cases hb; exact h.1.1
   ·exact ih.1 id b hb
  ·rw [lookM, if_neg (by have := h.1.2; simpa using this)]; exact ih.2
theorem Cl.on {t : Nat} {s : St} {x : Dl} (h : Cl t s) (h1 : Gu t x.fr = true) (h2 : clM t x.M = true) : Cl t (x.on s) := by
 refine ⟨fun u => ?_, fun id k hk => ?_, ?_⟩
 ·simp only [Dl.on, look_app]
  split
  ·exact B1 h1 u
  ·exact h.1 u
 ·simp only [Dl.on, lookM_app] at hk
  split at hk
  ·exact (Ba h2).1 id k hk
  ·exact h.2.1 id k hk
 ·simp only [Dl.on, lookM_app]
  split
  ·exact (Ba h2).2
  ·exact h.2.2
theorem Cl.mrg {t : Nat} {s : St} {xs : List Dl} {X : Nat → Bool} (h : Cl t s) : ∀ {n : Nat}, (∀ j x, j < n → X j = true → xs[j]? = some x → Gu t x.fr = true ∧ clM t x.M = true) → Cl t (mrg xs X s n)
 | 0, _ => h
 | n + 1, hx => by
  have ih := Cl.mrg h (n := n) fun j x hj => hx j x (by omega)
  rw [Eng.mrg]
  cases e : xs[n]? with
  | none => exact ih
  | some x =>
   dsimp only
   cases hX : X n with
   | false => simpa using ih
   | true =>
    have := hx n x (by omega) hX e
    simpa using ih.on this.1 this.2
def Jx (ops : Array Oper) (i j : Nat) (oi oj : Oper) (xi xj : Dl) : Bool :=
 (xj.mv.all fun u => !(oi.looksAt ops).contains u && (!xi.mv.contains u && (u != xi.t || (Nat.blt i j && bindsOn oj i)))) &&
 ((xj.M.all fun p => !inF xi.M p.1) && (!xi.b || (Gu xi.t xj.fr && clM xi.t xj.M)))
def ML (s : St) (x : Dl) : Bool := (x.M.all fun p => !inF s.M p.1) && (!x.b || (Gu x.t s.fr && clM x.t s.M))
def chk (ops : Array Oper) (l : List Oper) (s : St) (xs : List Dl) : Bool :=
 (xs.all (ML s)) && (List.range l.length).all fun i => (List.range l.length).all fun j => i == j || match l[i]?, l[j]?, xs[i]?, xs[j]? with
  | some oi, some oj, some xi, some xj => Jx ops i j oi oj xi xj
  | _, _, _, _ => false
section
variable {P : Program} {c : Ctx} {s : St} {Q : Exit → St → Prop} {ops : Array Oper} {rest : List Oper} {o : Oper}
def AgreeG (ops : Array Oper) (o : Oper) (fr : List (Nat × D)) (M : List (Nat × Blk)) (s' : St) : Prop := (∀ id k, lookM M id = some k → lookM s'.M id = some k) ∧ ∀ u, u ∈ o.looksAt ops → look s'.fr u = look fr u
def QG (P : Program) (c : Ctx) (ops : Array Oper) (M0 : List (Nat × Blk)) : List Oper → St → List Dl → (St → List Dl → Prop) → Prop
 | [], s, acc, Q => Q s acc
 | o :: rest, s, acc, Q => ∃ x : Dl, o.dst = some x.t ∧ (∀ s', AgreeG ops o s.fr M0 s' → (x.b = true → Cl x.t s') → StepTo P c ops o s' (x.on s')) ∧ QG P c ops M0 rest (x.on s) (acc ++ [x]) Q
theorem QG.steps {M0 : List (Nat × Blk)} : ∀ {l : List Oper} {s : St} {acc : List Dl} {Q : St → List Dl → Prop}, QG P c ops M0 l s acc Q → ∃ xs : List Dl, xs.length = l.length ∧ Q (onL xs s) (acc ++ xs) ∧
  ∀ i o, l[i]? = some o → ∃ x, xs[i]? = some x ∧ o.dst = some x.t ∧ ∀ s', AgreeG ops o (onL (xs.take i) s).fr M0 s' → (x.b = true → Cl x.t s') → StepTo P c ops o s' (x.on s')
 | [], s, acc, Q, h => ⟨[], rfl, by rw [OD]; exact h, by simp⟩
 | o :: rest, s, acc, Q, h => by
  obtain ⟨x, h1, h2, h3⟩ := h
  obtain ⟨xs, q1, q2, q3⟩ := QG.steps h3
  refine ⟨x :: xs, by simp [q1], by simpa [onL] using q2, fun i o' hi => ?_⟩
  cases i with
  | zero => simp at hi; subst hi; exact ⟨x, rfl, h1, h2⟩
  | succ i =>
   obtain ⟨y, p1, p2, p3⟩ := q3 i o' (by simpa using hi)
   exact ⟨y, by simpa using p1, p2, by simpa [onL] using p3⟩
theorem EN {l : List Oper} {xs : List Dl} (h : chk ops l s xs = true) {i j : Nat} {oi oj : Oper} {xi xj : Dl} (hij : i ≠ j) (h1 : l[i]? = some oi) (h2 : l[j]? = some oj) (h3 : xs[i]? = some xi) (h4 : xs[j]? = some xj) : Jx ops i j oi oj xi xj = true := by
 unfold chk at h;rw [Nk, Np (l := List.range l.length)] at h
 have hi := (List.getElem?_eq_some_iff.1 h1).1
 have hj := (List.getElem?_eq_some_iff.1 h2).1
 have := h.2 i (OW.2 hi)
 rw [Np] at this
 have := this j (OW.2 hj)
 rw [h1, h2, h3, h4] at this
 simpa [hij] using this
theorem Je {l : List Oper} {xs : List Dl} (h : chk ops l s xs = true) {i : Nat} {x : Dl} (h3 : xs[i]? = some x) : ML s x = true := by
 unfold chk at h;rw [Nk, Np] at h;exact h.1 x (OV h3)
theorem inF_M {M : List (Nat × Blk)} {id : Nat} (h : inF M id = false) : lookM M id = none := by
 induction M with
 | nil => rfl
 | cons p M ih =>
  obtain ⟨k, d⟩ := p
  simp only [inF, List.any_cons, OC, beq_eq_false_iff_ne] at h;rw [lookM, if_neg h.1];exact ih (by simpa [inF] using h.2)
theorem WR_G {l1 l2 : List Oper} {ops : Array Oper} (he : ops = (l1 ++ l2).toArray) (hB : BR ops l1.length = true) (hT : l2 = [] ∨ DZ ops l1.length = true)
  (h : QG P c ops s.M l1 s [] (fun s' xs => chk ops l1 s xs = true ∧ WO P c ops l2 s' Q)) : WR P c ops s Q := by
 obtain ⟨xs, hlen, ⟨hchk, hend⟩, hstep⟩ := h.steps
 simp only [List.nil_append] at hchk
 have hops : ∀ j, j < l1.length → ops[j]? = l1[j]? := fun j hj => by subst he; rw [List.getElem?_toArray, List.getElem?_append_left hj]
 refine WR_S he hB hT (fun X => mrg xs X s l1.length) (fun X hX => ?_) (fun X i o ho hXi hcl hdep => ?_) (fun X hX => ?_)
 ·rw [BZ (i := 0) (OQ _) fun j _ => hX j]
  exact Le.refl
 ·have hil : i < l1.length := (List.getElem?_eq_some_iff.1 ho).1
  obtain ⟨x, hx, hdst, hst⟩ := hstep i o ho
  have hoi : ops[i]? = some o := (hops i hil).trans ho
  have slot : ∀ {j : Nat} {y : Dl} {u : Nat}, xs[j]? = some y → inF y.fr u = true → u = y.t ∨ u ∈ y.mv := fun {j y u} _ hu => by
   simp only [inF, Dl.fr, List.any_cons, Bool.or_eq_true, beq_iff_eq, List.any_map, OJ, Function.comp] at hu
   rcases hu with hu | ⟨v, hv, hu⟩
   ·exact .inl hu.symm
   ·exact .inr (hu ▸ hv)
  have hag : AgreeG ops o (onL (xs.take i) s).fr s.M (mrg xs X s l1.length) := by
   refine ⟨fun id k hk => ?_, fun u hu => ?_⟩
   ·have : lookM (mrg xs X s l1.length).M id = lookM (mrg xs (fun _ => false) s l1.length).M id := Gg fun j y hj hy hin => by
     have hb := Je hchk hy
     unfold ML at hb;rw [Nk, Np] at hb;unfold inF at hin;rw [OJ] at hin
     obtain ⟨p, hp, he⟩ := hin
     have h1 := hb.1 p hp
     rw [N9] at h1
     have h2 := inF_M h1
     rw [show p.1 = id from by simpa using he] at h2;rw [h2] at hk; cases hk
    rw [this, BZ (i := 0) (OQ _) fun j _ => rfl];exact hk
   ·rw [← CF (X := fun j => decide (j < i)) (by omega) (fun j hj => by simpa using hj), ← BZ (X := fun j => decide (j < i)) (i := i) (n := l1.length) (by omega) (fun j hj => by simpa using hj)]
    refine EE fun j y hj hy hin => ?_
    by_cases hje : j = i
    ·subst hje; rw [hXi]; simp
    ·have hlj : l1[j]? = some l1[j] := List.getElem?_eq_getElem hj
     have hoj : ops[j]? = some l1[j] := (hops j hj).trans hlj
     obtain ⟨y', hy', hdj, _⟩ := hstep j _ hlj
     rw [hy] at hy'; cases hy'
     rcases slot hy hin with rfl | hmv
     ·by_cases hji : j < i
      ·simp only [hji, decide_true]
       rcases orderT_spec hB hoj hj i _ hoi hil hji with ⟨e, he, hb, hon⟩ | hap
       ·rw [← hon]; exact hdep e he hb
       ·exact absurd hu ((Oper.apart_spec hap).1 _ hdj)
      ·have hij : i < j := by omega
       rw [show decide (j < i) = false from by simp; omega]
       cases hX : X j with
       | false => rfl
       | true =>
        rcases orderT_spec hB hoi hil j _ hoj hj hij with ⟨e, he, hb, hon⟩ | hap
        ·have := hcl j _ hlj hX e he hb
         rw [hon, hXi] at this; cases this
        ·exact absurd hu ((Oper.apart_spec hap).2.2 _ hdj)
     ·exfalso
      have hp := EN hchk (Ne.symm hje) ho hlj hx hy
      unfold Jx at hp;rw [Nk, Np] at hp
      have := hp.1 u hmv
      rw [Nk, N9] at this
      have h1 := this.1
      rw [List.contains_eq_mem, decide_eq_false_iff_not] at h1;exact h1 hu
  have hcl2 : x.b = true → Cl x.t (mrg xs X s l1.length) := fun hb => by
   refine Cl.mrg ?_ fun j y hj hXj hy => ?_
   ·have := Je hchk hx
    unfold ML at this;rw [hb] at this;simp only [Oj, OX, Nk] at this;exact ⟨B1 this.2.1, (Ba this.2.2).1, (Ba this.2.2).2⟩
   ·have hji : i ≠ j := fun e => by subst e; rw [hXi] at hXj; cases hXj
    have hp := EN hchk hji ho (List.getElem?_eq_getElem hj) hx hy
    unfold Jx at hp;rw [hb] at hp;simp only [Oj, OX, Nk] at hp;exact hp.2.2
  intro Q' hQ;refine hst _ hag hcl2 Q' (WO_le (Le.of (fun u => .inl ?_) (fun u => .inl ?_)) hQ)
  ·simp only [Dl.on, look_app]
   split
   ·rename_i hu
    refine Ck hx hXi hu hil fun j y hj hij hXj hy => ?_
    refine Bool.eq_false_iff.2 fun hin => ?_
    have hlj : l1[j]? = some l1[j] := List.getElem?_eq_getElem hj
    have hoj : ops[j]? = some l1[j] := (hops j hj).trans hlj
    obtain ⟨y', hy', hdj, _⟩ := hstep j _ hlj
    rw [hy] at hy'; cases hy'
    have edge : ∀ e, e ∈ (l1[j]).after → Region.binds .any e = true → e.on = i → False := fun e h1 h2 h3 => by
     have := hcl j _ hlj hXj e h1 h2
     rw [h3, hXi] at this; cases this
    have hp := EN hchk (Nat.ne_of_lt hij) ho hlj hx hy
    have hp2 := EN hchk (Nat.ne_of_gt hij) hlj ho hy hx
    unfold Jx at hp hp2;rw [Nk, Np] at hp hp2
    rcases slot hx hu with rfl | hmi
    ·rcases slot hy hin with e | hmj
     ·rcases orderT_spec hB hoi hil j _ hoj hj hij with ⟨e', h1, h2, h3⟩ | hap
      ·exact edge e' h1 h2 h3
      ·exact (Oper.apart_spec hap).2.1 _ hdst (by rw [hdj, e])
     ·have := hp.1 _ hmj
      simp only [Nk, Bool.or_eq_true, bne_self_eq_false, Bool.false_eq_true, false_or] at this
      obtain ⟨e', h1, h2, h3⟩ := Bv this.2.2.2
      exact edge e' h1 h2 h3
    ·rcases slot hy hin with rfl | hmj
     ·have := hp2.1 _ hmi
      simp only [Nk, Bool.or_eq_true, bne_self_eq_false, Bool.false_eq_true, false_or] at this
      have h3 : j < i := by simpa using this.2.2.1
      omega
     ·have := hp.1 _ hmj
      simp only [Nk, N9, List.contains_eq_mem, decide_eq_false_iff_not] at this;exact this.2.1 hmi
   ·rename_i hu
    refine EE fun j y hj hy hin => ?_
    have : (j == i) = false := by
     rw [beq_eq_false_iff_ne];intro e; subst e; rw [hx] at hy; cases hy; exact hu hin
    rw [this, OL]
  ·simp only [Dl.on, lookM_app]
   split
   ·rename_i hu
    refine DE hx hXi hu hil fun j y hj hij hXj hy => ?_
    refine Bool.eq_false_iff.2 fun hin => ?_
    have hp := EN hchk (Nat.ne_of_lt hij) ho (List.getElem?_eq_getElem hj) hx hy
    unfold Jx at hp;rw [Nk, Nk, Np (l := y.M)] at hp;unfold inF at hin;rw [OJ] at hin
    obtain ⟨p, hp1, hp2⟩ := hin
    have := hp.2.1 p hp1
    rw [show p.1 = u from by simpa using hp2, hu] at this;cases this
   ·rename_i hu
    refine Gg fun j y hj hy hin => ?_
    have : (j == i) = false := by
     rw [beq_eq_false_iff_ne];intro e; subst e; rw [hx] at hy; cases hy; exact hu hin
    rw [this, OL]
 ·rw [CF (by omega) hX, Ni (by omega)]
  exact hend
theorem H1 {id : Nat} {l1 l2 : List Oper} {ops : Array Oper} (hm : P.follows .mixedOrders = true) (he : ops = (l1 ++ l2).toArray) (hB : BR ops l1.length = true) (hT : l2 = [] ∨ DZ ops l1.length = true)
  (h : QG P c ops s.M l1 s [] (fun s' xs => chk ops l1 s xs = true ∧ WO P c ops l2 s' Q)) : W P c (.region id ops true) s Q :=
 Ea hm (WR_G he hB hT h)
end
end Go.Eng
end
section
/- The words in which such statements are walked. -/
namespace Go.Eng
open Go.RowKit
section
variable {P : Program} {c : Ctx} {s : St} {M0 : List (Nat × Blk)} {acc : List Dl} {Q : St → List Dl → Prop} {ops : Array Oper} {rest : List Oper} {o : Oper}
def pl (t : Nat) (d : D) : Dl := ⟨t, d, [], [], false⟩
theorem AgreeG.opd {fr : List (Nat × D)} {s' : St} (h : AgreeG ops o fr M0 s') {x : Operand} (hx : x ∈ o.op.operands) : Eng.opd s'.fr x = Eng.opd fr x := by
 cases x with
 | tmp t =>
  refine h.2 t ?_;unfold Oper.looksAt;exact List.mem_append_left _ (List.mem_filterMap.2 ⟨.tmp t, by simpa using hx, rfl⟩)
 | _ => rfl
theorem AgreeG.opds {fr : List (Nat × D)} {s' : St} (h : AgreeG ops o fr M0 s') : ∀ {l : List Operand}, (∀ x, x ∈ l → x ∈ o.op.operands) → l.map (Eng.opd s'.fr) = l.map (Eng.opd fr) := fun hl =>
 List.map_congr_left fun x hx => h.opd (hl x hx)
theorem Jb {Γ : Tys} {fr : List (Nat × D)} {s' : St} {d : D} (h : AgreeG ops o fr M0 s') (he : evV Γ ⟨fr, M0⟩ o.op = some d) : evV Γ s' o.op = some d := by
  have hM := h.1
  have ho : ∀ x, x ∈ o.op.operands → Eng.opd s'.fr x = Eng.opd fr x := fun x hx => h.opd hx
  generalize o.op = op at ho he
  cases op with
  | move x => simp only [evV] at he ⊢; rw [ho x (by simp [Op.operands])]; exact he
  | assign x => simp only [evV] at he ⊢; rw [ho x (by simp [Op.operands])]; exact he
  | pick x a b => simp only [evV] at he ⊢; rw [ho x (by simp [Op.operands]), ho a (by simp [Op.operands]), ho b (by simp [Op.operands])]; exact he
  | binOp op ty x y ty' => simp only [evV] at he ⊢; rw [ho x (by simp [Op.operands]), ho y (by simp [Op.operands])]; exact he
  | unOp op ty x => cases op <;> simp only [evV] at he ⊢ <;> first | (rw [ho x (by simp [Op.operands])]; exact he) | exact he
  | fieldAddr ty x k => simp only [evV] at he ⊢; rw [ho x (by simp [Op.operands])]; exact he
  | load ty x =>
    simp only [evV] at he ⊢;rw [ho x (by simp [Op.operands])];split at he
    · rename_i ti hti
      split at he
      · rename_i y off hy; exact he
      · rename_i id off hy
        split at he
        · rename_i cells hc
          rw [hM _ _ hc]; exact he
        · cases he
      · cases he
    · cases he
  | extract x k => simp only [evV] at he ⊢; rw [ho x (by simp [Op.operands])]; exact he
  | makeFunc f first captured =>
    cases f <;> simp only [evV] at he ⊢
    all_goals first
      | exact he
      | (split
         · rename_i hf
           rw [hf] at he;dsimp only at he;rw [← he]
           congr 2
           refine List.map_congr_left fun x hx => ?_
           rw [ho x (by simp only [Op.operands, Array.mem_append]; exact .inr (by simpa using hx))]
         · rename_i hf
           split at he
           · rename_i hf2; exact absurd hf2 (by simpa using hf)
           · exact he)
  | call cc =>
    obtain ⟨cal, args, tys⟩ := cc
    have ho' : ∀ x, x ∈ args.toList → Eng.opd s'.fr x = Eng.opd fr x := fun x hx => ho x (by
      simp only [Op.operands, Call.operands, Array.mem_append]
      exact .inr (by simpa using hx))
    cases cal with
    | builtin b =>
      have e : evV Γ s' (.call ⟨.builtin b, args, tys⟩) = evV Γ ⟨fr, M0⟩ (.call ⟨.builtin b, args, tys⟩) := by
        cases b <;> try rfl
        all_goals
          simp only [evV];split
          · rename_i ha
            first
              | (rw [ho' _ (by rw [ha]; simp)]; done)
              | (rename_i ha' ; rw [ho' _ (by rw [ha']; simp)]; done)
              | (rw [ho' _ (by rw [ha]; simp), ho' _ (by rw [ha]; simp)]; done)
          · rfl
      rw [e]; exact he
    | _ => exact he
  | _ => exact he
theorem Gr {Γ : Tys} {fr : List (Nat × D)} {s' : St} {d : D} (h : AgreeG ops o fr M0 s') (he : evF Γ ⟨fr, M0⟩ o.op = some d) : evF Γ s' o.op = some d := by
 unfold evF at he ⊢
 cases e : evV Γ ⟨fr, M0⟩ o.op with
 | none => rw [e] at he; cases he
 | some d' => rw [e] at he; rw [Jb h e]; exact he
theorem AF (h : Q s acc) : QG P c ops M0 [] s acc Q := h
theorem QG_ev {Γ : Tys} (hΓ : Γ.ok P) {t : Nat} {d : D} (hg : o.guard = none) (hd : o.dst = some t) (ht : t < c.n) (he : evF Γ ⟨s.fr, M0⟩ o.op = some d) (k : QG P c ops M0 rest ⟨(t, d) :: s.fr, s.M⟩ (acc ++ [pl t d]) Q) : QG P c ops M0 (o :: rest) s acc Q :=
 ⟨pl t d, hd, fun s' ha _ Q h => WO_evF hΓ hg hd ht (Gr ha he) h, k⟩
theorem De {Γ : Tys} (hΓ : Γ.ok P) {t : Nat} {n m : Int} (hg : o.guard = none) (hd : o.dst = some t) (ht : t < c.n) (he : evF Γ ⟨s.fr, M0⟩ o.op = some (.t (.int n))) (hn : n = m) (k : QG P c ops M0 rest ⟨(t, .t (.int m)) :: s.fr, s.M⟩ (acc ++ [pl t (.t (.int m))]) Q) : QG P c ops M0 (o :: rest) s acc Q := by
 subst hn; exact QG_ev hΓ hg hd ht he k
theorem Mw {Γ : Tys} (hΓ : Γ.ok P) {t : Nat} {n : Int} (hg : o.guard = none) (hd : o.dst = some t) (ht : t < c.n) (he : evV Γ ⟨s.fr, M0⟩ o.op = some (.t (.int (IntKind.i64.wrap n)))) (hw : IntKind.i64.wrap n = n)
  (k : QG P c ops M0 rest ⟨(t, .t (.int n)) :: s.fr, s.M⟩ (acc ++ [pl t (.t (.int n))]) Q) : QG P c ops M0 (o :: rest) s acc Q :=
 ⟨pl t (.t (.int n)), hd, fun s' ha _ Q h => Ji hΓ hg hd ht (Jb ha he) hw h, k⟩
theorem frz_le {t : Nat} {d d' : D} {s : St} (hz : frz d = some d') : Le c ⟨(t, d) :: s.fr, s.M⟩ ⟨(t, d') :: s.fr, s.M⟩ := by
 have h1 : Le c ⟨(t, d) :: s.fr, s.M⟩ ⟨(t, d') :: (t, d) :: s.fr, s.M⟩ := Le.freeze (u := t) (by
  show frz (if t = t then d else look s.fr t) = _
  rw [if_pos rfl]; exact hz)
 refine h1.trans (Le.of (fun u => .inl ?_) (fun u => .inl rfl))
 show (if t = u then d' else look s.fr u) = if t = u then d' else if t = u then d else look s.fr u
 split <;> rfl
theorem GG {Γ : Tys} (hΓ : Γ.ok P) {t : Nat} {d d' : D} (hg : o.guard = none) (hd : o.dst = some t) (ht : t < c.n) (he : evF Γ ⟨s.fr, M0⟩ o.op = some d) (hz : frz d = some d') (k : QG P c ops M0 rest ⟨(t, d') :: s.fr, s.M⟩ (acc ++ [pl t d']) Q) : QG P c ops M0 (o :: rest) s acc Q :=
 ⟨pl t d', hd, fun s' ha _ Q h => WO_evF hΓ hg hd ht (Gr ha he) (WO_le (frz_le hz) h), k⟩
theorem C3 {Γ : Tys} (hΓ : Γ.ok P) {ty e t n : Nat} {x ix : Operand} {ti te : TI} {l : List T} {i : Int} (hg : o.guard = none) (hd : o.dst = some t) (ht : t < c.n) (ho : o.op = .indexAddr ty x ix)
  (h1 : A4 Γ ty = some ti) (h2 : ti.kind = .slice e) (h3 : A4 Γ e = some te) (h4 : te.size = n) (hx : opd s.fr x = .t (.list n l)) (hix : opd s.fr ix = .t (.int i))
  (h5 : 0 ≤ i) (y : T) (h6 : l[i.toNat]? = some y)
  (k : QG P c ops M0 rest ⟨(t, .rp y 0) :: s.fr, s.M⟩ (acc ++ [pl t (.rp y 0)]) Q) : QG P c ops M0 (o :: rest) s acc Q :=
 ⟨pl t (.rp y 0), hd, fun s' ha _ Q h => BU hΓ hg hd ht ho h1 h2 h3 h4 (by rw [ha.opd (by rw [ho]; simp [Op.operands])]; exact hx) (by rw [ha.opd (by rw [ho]; simp [Op.operands])]; exact hix) h5 y h6 h, k⟩
theorem Ce {Γ : Tys} (hΓ : Γ.ok P) {ty e t n id off len : Nat} {x ix : Operand} {ti te : TI} {xs : List T} {i : Int} (hg : o.guard = none) (hd : o.dst = some t) (ht : t < c.n) (ho : o.op = .indexAddr ty x ix)
  (h1 : A4 Γ ty = some ti) (h2 : ti.kind = .slice e) (h3 : A4 Γ e = some te) (h4 : te.size = n) (hx : opd s.fr x = .sl id off len) (hM : lookM M0 id = some (.L n xs)) (hix : opd s.fr ix = .t (.int i))
  (h5 : 0 ≤ i) (h6 : i < len)
  (k : QG P c ops M0 rest ⟨(t, .ref id (off + i.toNat) 0) :: s.fr, s.M⟩ (acc ++ [pl t (.ref id (off + i.toNat) 0)]) Q) : QG P c ops M0 (o :: rest) s acc Q :=
 ⟨pl t (.ref id (off + i.toNat) 0), hd, fun s' ha _ Q h => by
  have := BE (rest := []) (Q := Q) hΓ hg hd ht ho h1 h2 h3 h4 (s := s') (by rw [ha.opd (by rw [ho]; simp [Op.operands])]; exact hx) (ha.1 _ _ hM) (by rw [ha.opd (by rw [ho]; simp [Op.operands])]; exact hix) h5 h6 h
  exact this, k⟩
theorem ResL.up {s' : St} {fr : List (Nat × D)} (hM : ∀ id k, lookM M0 id = some k → lookM s'.M id = some k) {ds es : List D} (h : ResL ⟨fr, M0⟩ ds es) : ResL s' ds es := by
 induction h with
 | done => exact .done
 | t _ ih => exact .t ih
 | nil n _ ih => exact .nil n ih
 | nil' _ ih => exact .nil' ih
 | own _ ih => exact .own ih
 | sl h1 h2 _ ih => exact .sl (hM _ _ h1) h2 ih
 | ref h1 _ _ ih1 ih2 => exact .ref (hM _ _ h1) ih1 ih2
 | rp _ ih => exact .rp ih
 | agg _ _ ih1 ih2 => exact .agg ih1 ih2
 | aggT _ _ ih1 ih2 => exact .aggT ih1 ih2
 | clo _ _ ih1 ih2 => exact .clo ih1 ih2
 | top _ ih => exact .top ih
 | raw h1 h2 h3 _ ih => exact .raw (hM _ _ h1) h2 h3 ih
 | rawA h1 h2 _ ih => exact .rawA (hM _ _ h1) h2 ih
theorem Fg {t : Nat} {fo : Operand} {args : Array Operand} {tys : Array TypeId} {f : FuncId} {caps es : List D} {r : D} (hg : o.guard = none) (hd : o.dst = some t) (ht : t < c.n)
  (ho : o.op = .call { callee := .value fo, args := args, argTypes := tys }) (hf : opd s.fr fo = .clo f caps) (hes : ResL ⟨s.fr, M0⟩ (args.toList.map (opd s.fr) ++ caps) es) (hc : Fun P f es r) (hn : r.noImm = true)
  (k : QG P c ops M0 rest ⟨(t, r) :: s.fr, s.M⟩ (acc ++ [pl t r]) Q) : QG P c ops M0 (o :: rest) s acc Q :=
 ⟨pl t r, hd, fun s' ha _ Q h => by
  have e1 : opd s'.fr fo = opd s.fr fo := ha.opd (by rw [ho]; simp [Op.operands, Call.operands])
  have e2 : args.toList.map (opd s'.fr) = args.toList.map (opd s.fr) := ha.opds fun x hx => by
   rw [ho];simp only [Op.operands, Call.operands, Array.mem_append];exact .inr (by simpa using hx)
  exact CK hg hd ht ho (by rw [e1]; exact hf) (by rw [e2]; exact hes.up ha.1) hc hn h, k⟩
theorem Jm {t : Nat} {fo : Operand} {args : Array Operand} {tys : Array TypeId} {f : FuncId} {caps es : List D} {r : D} (hg : o.guard = none) (hd : o.dst = some t) (ht : t < c.n)
  (ho : o.op = .call { callee := .value fo, args := args, argTypes := tys }) (hf : opd s.fr fo = .clo f caps) (hes : args.toList.map (opd s.fr) ++ caps = es) (hcl : D.closed.closedL es = true) (hfr : D.free.freeL es = true)
  (hc : Fun P f es r) (hn : r.closed = true)
  (k : QG P c ops M0 rest ⟨(t, r) :: s.fr, s.M⟩ (acc ++ [pl t r]) Q) : QG P c ops M0 (o :: rest) s acc Q :=
 ⟨pl t r, hd, fun s' ha _ Q h => by
  have e1 : opd s'.fr fo = opd s.fr fo := ha.opd (by rw [ho]; simp [Op.operands, Call.operands])
  have e2 : args.toList.map (opd s'.fr) = args.toList.map (opd s.fr) := ha.opds fun x hx => by
   rw [ho];simp only [Op.operands, Call.operands, Array.mem_append];exact .inr (by simpa using hx)
  exact BG hg hd ht ho (by rw [e1]; exact hf) (by rw [e2]; exact hes) hcl hfr hc hn h, k⟩
theorem Eg {t : Nat} {fo : Operand} {args : Array Operand} {tys : Array TypeId} {f : FuncId} {caps es : List D} {cs : List (Nat × Nat)} (h : ∃ r : D, Fun P f es r ∧ r.noImm = true ∧ QG P c ops M0 rest ⟨(t, r) :: s.fr, s.M⟩ (acc ++ [pl t r]) Q)
  (hg : o.guard = none := by exact rfl) (hd : o.dst = some t := by exact rfl) (ht : t < c.n := by exact AA rfl) (ho : o.op = .call { callee := .value fo, args := args, argTypes := tys } := by exact rfl) (hf : opd s.fr fo = .clo f caps := by exact rfl)
  (hes : Jv ⟨s.fr, M0⟩ (args.toList.map (opd s.fr) ++ caps) = some (es, cs) := by exact rfl) (hcs : AllEq cs := by repeat (first | exact AllEq.nil' | refine AllEq.cons' (by first | rfl | (simp; done) | (simp; omega) | omega) ?_)) : QG P c ops M0 (o :: rest) s acc Q := by
 obtain ⟨r, hc, hn, k⟩ := h
 exact Fg hg hd ht ho hf (D9 hes hcs) hc hn k
theorem BO {t u : Nat} (h : u ≠ t) : ∀ (M : List (Nat × Blk)), lookM (dropM (some t) M) u = lookM M u
 | [] => rfl
 | (k, d) :: M => by
  have ih := BO h M
  simp only [dropM] at ih ⊢;rw [List.filter_cons]
  by_cases hk : k = t
  ·subst hk
   simp only [bne_self_eq_false, Bool.false_eq_true, if_false];rw [ih, lookM, if_neg (Ne.symm h)]
  ·rw [if_pos (by simpa using hk), lookM, lookM, ih]
theorem As {t : Nat} : ∀ (M : List (Nat × Blk)), lookM (dropM (some t) M) t = none
 | [] => rfl
 | (k, d) :: M => by
  have ih := As (t := t) M
  simp only [dropM] at ih ⊢;rw [List.filter_cons]
  by_cases hk : k = t
  ·subst hk; simpa using ih
  ·rw [if_pos (by simpa using hk), lookM, if_neg hk, ih]
theorem EZ {t : Nat} {s : St} (h : Cl t s) (u : Nat) : look (killF t s.fr) u = look s.fr u := by rw [Bt, Gh (h.1 u)]
theorem Es {t : Nat} {s : St} (h : Cl t s) (u : Nat) : lookM (killM t s.M) u = lookM s.M u := by
 rw [Bs]
 cases e : lookM s.M u with
 | none => rfl
 | some k => rw [Option.map_some, Gi (h.2.1 u k e)]
theorem Kz {t n len : Nat} {xs : List T} {ms : List Nat} {s : St} (hc : Cl t s) (hl : len = xs.length) :
  Le c ⟨(t, .sl t 0 len) :: J9 ms (killF t s.fr), (t, .L n xs) :: killM t s.M⟩ ⟨(t, .own (.list n xs)) :: (ms.map fun u => (u, D.top)) ++ s.fr, s.M⟩ := by
 subst hl;refine (Le.gather (u := t) (id := t) (n := n) (len := xs.length) (xs := xs) (by simp [look]) (by simp [lookM]) (Nm _)).trans (Le.of (fun u => ?_) (fun id => .inl ?_))
 ·rw [N8]
  rw [Ob, look, look]
  by_cases hu : t = u
  ·rw [if_pos hu, if_pos hu]; exact .inl rfl
  ·rw [if_neg hu, if_neg hu, look, if_neg hu]
   unfold J9;rw [look_app, look_app, EZ hc];exact .inl rfl
 ·by_cases hid : id = t
  ·subst hid; rw [As, hc.2.2]
  ·rw [BO hid, lookM, if_neg (Ne.symm hid), Es hc]
theorem Lf {Γ : Tys} (hΓ : Γ.ok P) {ty e t : Nat} {x : Operand} {ti te : TI} (z : T) (k : Nat) (hg : o.guard = none) (hd : o.dst = some t) (ht : t < c.n) (ho : o.op = .makeSlice ty x x)
  (h1 : A4 Γ ty = some ti) (h2 : ti.kind = .slice e) (h3 : A4 Γ e = some te) (hx : opd s.fr x = .t (.int k)) (hz : AbsL (te.zero.map Bu) z.cells) (hn : z.cells.length = te.size)
  (hk : k ≤ 1073741824) (hb : te.bytes ≤ 131072)
  (kk : QG P c ops M0 rest ⟨(t, .own (.list te.size (List.replicate k z))) :: s.fr, s.M⟩ (acc ++ [⟨t, .own (.list te.size (List.replicate k z)), [], [], true⟩]) Q) : QG P c ops M0 (o :: rest) s acc Q :=
 ⟨⟨t, .own (.list te.size (List.replicate k z)), [], [], true⟩, hd, fun s' ha hc Q h => NY hΓ z k hg hd ht ho h1 h2 h3 (by rw [ha.opd (by rw [ho]; simp [Op.operands])]; exact hx) hz hn hk hb
  (WO_le (Kz (ms := []) (hc rfl) (List.length_replicate).symm) h), kk⟩
theorem PartsOk.look {n : Nat} {fr fr' : List (Nat × D)} : ∀ {xs : List Operand} {ys : List T}, (∀ x, x ∈ xs → opd fr' x = opd fr x) → PartsOk fr n xs ys → PartsOk fr' n xs ys
 | [], [], _, h => h
 | [], _ :: _, _, h => h
 | _ :: _, [], _, h => h
 | x :: xs, y :: ys, hx, h => by
  obtain ⟨⟨ds, h1, h2, h3⟩, h4⟩ := h
  exact ⟨⟨ds, by rw [hx x (OP ..)]; exact h1, h2, h3⟩, h4.look fun z hz => hx z (OB _ hz)⟩
theorem FH {fr fr' : List (Nat × D)} {xs : List Operand} (hx : ∀ x, x ∈ xs → opd fr' x = opd fr x) : Aq fr' xs = Aq fr xs := by
 unfold Aq
 induction xs with
 | nil => rfl
 | cons x xs ih => rw [List.filterMap_cons, List.filterMap_cons, hx x (OP ..), ih fun y hy => hx y (OB _ hy)]
theorem G2 {Γ : Tys} (hΓ : Γ.ok P) {ty e t len : Nat} {parts : Array (Nat × Operand)} {ti te : TI} (ys : List T) {ms : List Nat} (hg : o.guard = none) (hd : o.dst = some t) (ht : t < c.n) (ho : o.op = .buildSlice ty len parts)
  (h1 : A4 Γ ty = some ti) (h2 : ti.kind = .slice e) (h3 : A4 Γ e = some te) (hp : parts.toList.map (·.1) = List.range len) (hl : len * te.size ≤ 16777216)
  (hy : PartsOk s.fr te.size (parts.toList.map (·.2)) ys) (hms : Aq s.fr (parts.toList.map (·.2)) = ms) (hm : ms.Nodup) (hzs : te.zero.length = te.size) (hpos : 0 < te.size)
  (kk : QG P c ops M0 rest ⟨(t, .own (.list te.size ys)) :: ((ms.map fun u => (u, D.top)) ++ s.fr), s.M⟩ (acc ++ [⟨t, .own (.list te.size ys), ms, [], true⟩]) Q) : QG P c ops M0 (o :: rest) s acc Q :=
 ⟨⟨t, .own (.list te.size ys), ms, [], true⟩, hd, fun s' ha hc Q h => by
  have hop : ∀ x, x ∈ parts.toList.map (·.2) → opd s'.fr x = opd s.fr x := fun x hx => ha.opd (by
   rw [ho];simp only [Op.operands]
   simpa using hx)
  have e : Aq s'.fr (parts.toList.map (·.2)) = ms := by rw [FH hop]; exact hms
  refine EQ hΓ ys hg hd ht ho h1 h2 h3 hp hl (hy.look hop) (by rw [e]; exact hm) hzs hpos ?_;rw [e]
  exact WO_le (Kz (hc rfl) rfl) h, kk⟩
theorem DY {Γ : Tys} (hΓ : Γ.ok P) {t e : Nat} {ti : TI} {cells : List D} (hg : o.guard = none) (hd : o.dst = some t) (ht : t < c.n) (ho : o.op = .alloc e) (h1 : A4 Γ e = some ti) (h2 : ti.zero.all (·.oneCell') = true) (h3 : ti.zero.map Bu = cells)
  (kk : QG P c ops M0 rest ⟨(t, .ref t 0 0) :: s.fr, (t, .box cells) :: s.M⟩ (acc ++ [⟨t, .ref t 0 0, [], [(t, .box cells)], true⟩]) Q) : QG P c ops M0 (o :: rest) s acc Q :=
 ⟨⟨t, .ref t 0 0, [], [(t, .box cells)], true⟩, hd, fun s' ha hc Q h => AK hΓ hg hd ht ho h1 h2 (by
  rw [h3];refine WO_le (Le.of (fun u => .inl ?_) (fun id => .inl ?_)) h
  ·show (if t = u then D.ref t 0 0 else look s'.fr u) = if t = u then D.ref t 0 0 else look (killF t s'.fr) u
   rw [EZ (hc rfl)]
  ·show (if t = id then some (Blk.box cells) else lookM s'.M id) = if t = id then some (Blk.box cells) else lookM (killM t s'.M) id
   rw [Es (hc rfl)]), kk⟩
theorem BW {l : List Oper} {s' : St} (h : Ca s = some s') (k : QG P c ops M0 l s' acc Q) : QG P c ops M0 l s acc Q := by rw [Cp h]; exact k
theorem Bd {id : Nat} {ops : Array Oper} {Q : Exit → St → Prop} (m : Nat) (hm : P.follows .mixedOrders = true) (hl : (ops.toList.take m).length = m) (hB : BR ops m = true) (hT : DZ ops m = true)
  (h : QG P c ops s.M (ops.toList.take m) s [] (fun s' xs => chk ops (ops.toList.take m) s xs = true ∧ WO P c ops (ops.toList.drop m) s' Q)) : W P c (.region id ops true) s Q :=
 H1 (l1 := ops.toList.take m) (l2 := ops.toList.drop m) hm (by simp) (by rw [hl]; exact hB) (.inr (by rw [hl]; exact hT)) h
theorem KJ {id : Nat} {ops : Array Oper} {Q : Exit → St → Prop} (hm : P.follows .mixedOrders = true) (hB : BR ops ops.size = true)
  (h : QG P c ops s.M ops.toList s [] (fun s' xs => chk ops ops.toList s xs = true ∧ WO P c ops [] s' Q)) : W P c (.region id ops true) s Q :=
 H1 (l1 := ops.toList) (l2 := []) hm (by simp) (by rw [N1]; exact hB) (.inl rfl) h
end
end Go.Eng
end
section
/- Structs that are put together out of their fields, and slices that grow in a statement of open order. -/
namespace Go.Eng
open Go.RowKit
def EW {α : Type} (offs : List Nat) : List (Nat × α) → List α → List α
 | [], l => l
 | (i, v) :: ps, l => EW offs ps (l.set (offs.getD i 0) v)
def setsOk (offs : List Nat) : List (Nat × D) → List D → Bool
 | [], _ => true
 | (i, d) :: ps, l => Nat.blt i offs.length && (d.one && ((match l[offs.getD i 0]? with | some e => e.free | none => false) && setsOk offs ps (l.set (offs.getD i 0) d)))
section
variable {P : Program} {c : Ctx} {s : St} {Q : Exit → St → Prop} {ops : Array Oper} {rest : List Oper} {o : Oper}
theorem MI {v : Value} (h : v.oneCell' = true) : v.cells = #[v] := by cases v <;> first | rfl | cases h
theorem L3 {w : World} {F : Nat → Prop} {β : Ak} {v : Value} {d : D} {bs : List Nat} (h : RelD w F β [v] [d] bs) (hd : d.one = true) : v.cells = #[v] ∧ v.oneCell' = true := by
 have key : v.oneCell' = true := by
  cases h with
  | t hx _ => cases hx with
   | v h _ => exact h
   | none _ => rfl
   | list _ _ _ _ _ _ _ => rfl
  | tagg _ _ => simp [D.one] at hd
  | nil _ => rfl
  | agg _ _ _ => simp [D.one] at hd
  | ref _ _ => rfl
  | sl _ _ _ _ _ => rfl
  | slnil _ _ => rfl
  | rp _ _ _ _ _ => rfl
  | clo _ _ => rfl
  | tup _ _ => simp [D.one] at hd
  | own hx _ => cases hx with
   | v h _ => exact h
   | none _ => rfl
   | list _ _ _ _ _ _ _ _ => rfl
  | top _ => simp [D.one] at hd
 exact ⟨MI key, key⟩
theorem I5 {w : World} {F : Nat → Prop} {β : Ak} {v : Value} {d : D} {b1 : List Nat} (h1 : RelD w F β [v] [d] b1) : ∀ {vs ds bs} (j : Nat), RelD w F β vs ds bs → (match ds[j]? with | some e => e.free | none => false) = true → ∃ bs', RelD w F β (vs.set j v) (ds.set j d) bs' ∧ bs'.Perm (b1 ++ bs)
 | [], [], _, j, _, h => by simp at h
 | [], _ :: _, _, _, h, _ => by cases h
 | _ :: _, [], _, _, h, _ => by cases h
 | x :: vs, e :: ds, bs, 0, hr, h => by
  obtain ⟨b2, b3, q1, q2, rfl⟩ := hr.cons
  have := q1.free1 (by simpa using h)
  subst this;exact ⟨b1 ++ b3, RelD.cons' h1 q2, List.Perm.refl _⟩
 | x :: vs, e :: ds, bs, j + 1, hr, h => by
  obtain ⟨b2, b3, q1, q2, rfl⟩ := hr.cons
  obtain ⟨bs', q3, q4⟩ := I5 h1 j q2 (by simpa using h)
  refine ⟨b2 ++ bs', RelD.cons' q1 q3, ?_⟩;refine (List.Perm.append_left b2 q4).trans ?_;rw [← OI, ← OI];exact List.Perm.append_right b3 List.perm_append_comm
theorem HT {a : Act} {w : World} {F β fb mb ow} (hi : Conc c s a w F β fb mb ow) {offs : List Nat} : ∀ {ps : List (Nat × Operand)} {vs : List Value} {ds : List D} {bs : List Nat}, RelD w F β vs ds bs → bs.Nodup → (∀ b, b ∈ bs → ∀ u, ow b = some (.inl u) → u ∉ Aq s.fr (ps.map (·.2))) →
  setsOk offs (ps.map fun p => (p.1, opd s.fr p.2)) ds = true → (Aq s.fr (ps.map (·.2))).Nodup →
  ∃ bs', RelD w F β (EW offs (ps.map fun p => (p.1, a.eval p.2)) vs) (EW offs (ps.map fun p => (p.1, opd s.fr p.2)) ds) bs' ∧ bs'.Nodup ∧ (∀ b, b ∈ bs' → b ∈ bs ∨ ∃ u, ow b = some (.inl u) ∧ u ∈ Aq s.fr (ps.map (·.2))) ∧
   (∀ p, p ∈ ps → (a.eval p.2).cells = #[a.eval p.2] ∧ (a.eval p.2).oneCell' = true ∧ p.1 < offs.length)
 | [], vs, ds, bs, hr, hn, _, _, _ => ⟨bs, hr, hn, fun b hb => .inl hb, by simp⟩
 | (i, x) :: ps, vs, ds, bs, hr, hn, hbs, hok, hm => by
  simp only [OA, setsOk, Nk] at hok
  obtain ⟨h0, h1, h2, h3⟩ := hok
  obtain ⟨b1, hr1, hn1, hb1⟩ := hi.opdOwn x
  obtain ⟨bs1, q1, q2⟩ := I5 hr1 _ hr h2
  have hmc : Aq s.fr (((i, x) :: ps).map (·.2)) = Aq s.fr [x] ++ Aq s.fr (ps.map (·.2)) := by
   unfold Aq;rw [OA, ← List.filterMap_append];rfl
  rw [hmc] at hm hbs
  have hb1' : ∀ b, b ∈ b1 → ∃ u, ow b = some (.inl u) ∧ u ∈ Aq s.fr [x] := fun b hb => by
   obtain ⟨y, hy, he, u, rfl, rfl⟩ := hb1 b hb
   refine ⟨u, hy, ?_⟩;unfold Aq;rw [List.filterMap_cons, if_neg (by rw [he]; simp)]
   simp
  obtain ⟨hm1, hm2, hm3⟩ := Nq.1 hm
  have hn2 : bs1.Nodup := by
   refine q2.nodup_iff.2 (Nq.2 ⟨hn1, hn, fun b hb b' hb' e => ?_⟩);subst e
   obtain ⟨u, hu, hu2⟩ := hb1' b hb
   exact hbs b hb' u hu (List.mem_append_left _ hu2)
  obtain ⟨bs', r1, r2, r3, r4⟩ := HT hi q1 hn2 (fun b hb u hu => by
   rcases Nn.1 (q2.mem_iff.1 hb) with hb | hb
   ·obtain ⟨u', hu', hu2⟩ := hb1' b hb
    rw [hu] at hu'; cases hu'
    exact fun h => hm3 u hu2 u h rfl
   ·exact fun h => hbs b hb u hu (List.mem_append_right _ h)) h3 hm2
  refine ⟨bs', r1, r2, fun b hb => ?_, fun p hp => ?_⟩
  ·rcases r3 b hb with h | ⟨u, hu, hu2⟩
   ·rcases Nn.1 (q2.mem_iff.1 h) with h | h
    ·obtain ⟨u, hu, hu2⟩ := hb1' b h
     exact .inr ⟨u, hu, by rw [hmc]; exact List.mem_append_left _ hu2⟩
    ·exact .inl h
   ·exact .inr ⟨u, hu, by rw [hmc]; exact List.mem_append_right _ hu2⟩
  ·rcases N2.1 hp with rfl | hp
   ·obtain ⟨p1, p2⟩ := L3 hr1 h1
    exact ⟨p1, p2, by simpa using h0⟩
   ·exact r4 p hp
theorem Hq {places : Array (Nat × Nat)} {offs : List Nat} (hpl : ∀ i, i < offs.length → places[i]? = some (offs.getD i 0, 1)) : ∀ (ps : List (Nat × Value)) (cells : List Value), (∀ p, p ∈ ps → p.2.cells = #[p.2] ∧ p.1 < offs.length) → (∀ i, i < offs.length → offs.getD i 0 < cells.length) →
  Instr.fill (places[·]?) cells.toArray ps = some (EW offs ps cells).toArray
 | [], cells, _, _ => rfl
 | (i, v) :: ps, cells, h, hb => by
  obtain ⟨h1, h2⟩ := h _ (OP ..)
  dsimp only at h1 h2
  have hbi := hb i h2
  rw [OT] at hbi;rw [Instr.fill, hpl i h2];dsimp only;rw [h1];rw [if_neg (by simp; omega)]
  have e : (#[v].zipIdx.foldl (fun cs (x : Value × Nat) => cs.setIfInBounds (offs.getD i 0 + x.2) x.1) cells.toArray) = (cells.set (offs.getD i 0) v).toArray := by simp
  rw [e, EW];exact Hq hpl ps _ (fun p hp => h p (OB _ hp)) (by simpa using hb)
def GM (P : Program) (ty : Nat) : Bool := match P.underlying ty with
 | some (.struct fs) => fs.toList.all fun f => match P.info? f.type with | some i => i.size == 1 | none => false
 | _ => false
theorem Jt {w : World} {fs : List Field} (h : (fs.all fun f => match P.info? f.type with | some i => i.size == 1 | none => false) = true) :
  (fs.mapM fun f => (do pure (f.offset, ← sizeOf f.type) : Sem (Nat × Nat))).run P w = .ok (fs.map fun f => (f.offset, 1)) w := by
 induction fs with
 | nil => simp
 | cons f fs ih =>
  rw [Oe, Nk] at h
  have h1 := h.1
  cases hf : P.info? f.type with
  | none => rw [hf] at h1; cases h1
  | some i =>
   rw [hf] at h1
   have hs : i.size = 1 := by simpa using h1
   have hsz : (sizeOf f.type).run P w = .ok 1 w := by simp [sizeOf, typeInfo, hf, hs]
   rw [List.mapM_cons];simp only [N4, hsz, Ny, Oc, ih h.2, OA]
theorem Conc.putOwn {a : Act} {w : World} {F β fb mb ow} (hi : Conc c s a w F β fb mb ow) {t : Nat} (ht : t < c.n) {v : Value} {d : D} {bs ms : List Nat} (hr : RelD w F β [v] [d] bs) (hn : bs.Nodup) (hb : ∀ b, b ∈ bs → ∃ u, ow b = some (.inl u) ∧ u ∈ ms) :
  Is c ⟨(t, d) :: J9 ms s.fr, s.M⟩ (a.put (some t) v) w := by
 refine ⟨F, β, fun x => if t = x then bs else if x ∈ ms then [] else fb x, mb, fun b => if b ∈ bs then some (.inl t) else ow b, ?_⟩
 exact { hi with
  fr := fun x => by
   rw [B0 _ _ _ _ (by rw [hi.tmps]; exact ht)];simp only [look];split
   ·exact hr
   ·have := look_eatL ms s.fr x
    rcases this with ⟨h1, h2⟩ | h1
    ·rw [h1, if_neg h2]; exact hi.fr x
    ·rw [h1]
     by_cases hx : x ∈ ms
     ·rw [if_pos hx]; exact .top .done
     ·rw [if_neg hx]
      have e : look (J9 ms s.fr) x = look s.fr x := by
       clear h1 hb
       induction ms with
       | nil => rfl
       | cons m ms ih =>
        rw [N2, not_or] at hx;simp only [J9, OA, Ob, look];rw [if_neg (Ne.symm hx.1)];exact ih hx.2
      rw [← h1, e]; exact hi.fr x
  ofr := fun x b h => by
   split at h
   ·rename_i e; subst e; rw [if_pos h]
   ·split at h
    ·cases h
    ·rename_i h1 h2
     have h3 := hi.ofr x b h
     rw [if_neg (fun h4 => ?_)]
     ·exact h3
     ·obtain ⟨u, hu, hu2⟩ := hb b h4
      rw [h3] at hu; cases hu; exact h2 hu2
  omem := fun id b h => by
   have h3 := hi.omem id b h
   rw [if_neg (fun h4 => ?_)]
   ·exact h3
   ·obtain ⟨u, hu, _⟩ := hb b h4
    rw [h3] at hu; cases hu
  nfr := fun x => by
   split
   ·exact hn
   ·split
    ·simp
    ·exact hi.nfr x
  own := fun b h => by
   split at h
   ·rename_i h4
    obtain ⟨u, hu, _⟩ := hb b h4
    exact hi.own b (by rw [hu]; simp)
   ·exact hi.own b h
  defers := (BP a _ _).trans hi.defers
  tmps := (B8 a _ _).trans hi.tmps }
def Fu {α : Type} : List Nat → (List Nat → Option α) → Option α
 | [], k => k []
 | x :: xs, k => Fu xs fun ys => k (x :: ys)
theorem D2 {α : Type} : ∀ (l : List Nat) (k : List Nat → Option α), Fu l k = k l
 | [], _ => rfl
 | x :: l, k => by rw [Fu, D2]
def Fx : List Nat → Bool
 | [] => true
 | x :: xs => !xs.elem x && Fx xs
theorem nodupB_sound : ∀ {l : List Nat}, Fx l = true → l.Nodup
 | [], _ => List.nodup_nil
 | x :: l, h => by
  simp only [Fx, Nk, N9] at h;refine Nw.2 ⟨fun hx => ?_, nodupB_sound h.2⟩
  have := h.1
  simp [hx] at this
theorem GD {Γ : Tys} (hΓ : Γ.ok P) {ty t : Nat} {parts : Array (Nat × Operand)} {ti : TI} {offs : List Nat} {cells : List D} {ms : List Nat} (hg : o.guard = none) (hd : o.dst = some t) (ht : t < c.n) (ho : o.op = .build ty parts)
  (h1 : A4 Γ ty = some ti) (h2 : ti.kind = .agg offs) (h3 : GM P ty = true) (h4 : (offs.all fun k => Nat.blt k ti.zero.length) = true) (h4' : ti.zero.all (·.oneCell') = true) (h5 : setsOk offs (parts.toList.map fun p => (p.1, opd s.fr p.2)) (ti.zero.map Bu) = true)
  (h6 : EW offs (parts.toList.map fun p => (p.1, opd s.fr p.2)) (ti.zero.map Bu) = cells) (hms : Aq s.fr (parts.toList.map (·.2)) = ms) (hm : ms.Nodup)
  (kk : WO P c ops rest ⟨(t, .agg cells) :: J9 ms s.fr, s.M⟩ Q) : WO P c ops (o :: rest) s Q := by
 subst hms h6
 rintro a w ⟨F, β, fb, mb, ow, hi⟩
 obtain ⟨⟨i, z, q1, q2, q3, q4, q5⟩, hk⟩ := hΓ.get h1
 rw [h2] at hk
 obtain ⟨fs, hu, hoffs, _⟩ := hk
 unfold GM at h3;rw [hu] at h3;dsimp only at h3
 obtain ⟨bs', r1, r2, r3, r4⟩ := HT hi (offs := offs) (ps := parts.toList) (CS (w := w) (F := F) (β := β) ti.zero) List.nodup_nil (by simp) h5 hm
 have hzv : (zeroValue ty).run P w = .ok z w := by simp [zeroValue, typeInfo, q1, q4]
 have hpl : (fs.mapM fun f => (do pure (f.offset, ← sizeOf f.type) : Sem (Nat × Nat))).run P w = .ok (fs.map fun f => (f.offset, 1)) w := by
  rw [Array.mapM_eq_mapM_toList];simp only [Sem.run_map, Jt h3];simp only [Ny, Oc]
  have e : (fs.toList.map fun f => (f.offset, 1)).toArray = fs.map fun f => (f.offset, 1) := by apply Array.ext'; simp
  rw [← e]
 have hfill : Instr.fill ((fs.map fun f => (f.offset, 1))[·]?) z.cells (parts.toList.map fun p => (p.1, a.eval p.2)) = some (EW offs (parts.toList.map fun p => (p.1, a.eval p.2)) ti.zero).toArray := by
  have := Hq (places := fs.map fun f => (f.offset, 1)) (offs := offs) (fun i hi => by
   subst hoffs;simp only [Nj, N1] at hi
   simp [hi]) (parts.toList.map fun p => (p.1, a.eval p.2)) ti.zero (fun p hp => by
    obtain ⟨q, hq, rfl⟩ := OM.1 hp
    exact ⟨(r4 q hq).1, (r4 q hq).2.2⟩) (fun i hi => by
    rw [Np] at h4
    have := h4 (offs.getD i 0) (by rw [OT, List.getElem?_eq_getElem hi]; exact Nl hi)
    simpa using this)
  rwa [← q5, Array.toArray_toList, q5] at this
 have hrun : (execOp a.eval o).run P w = .ok (.value (.agg (EW offs (parts.toList.map fun p => (p.1, a.eval p.2)) ti.zero).toArray)) w := by
  simp only [execOp, ho, Instr.build, N4, hzv, Ny, run_underlying hu, hpl];rw [show (parts.map fun (x : Nat × Operand) => (x.1, a.eval x.2)).toList = parts.toList.map fun p => (p.1, a.eval p.2) from by simp];rw [hfill];rfl
 have hone : (EW offs (parts.toList.map fun p => (p.1, a.eval p.2)) ti.zero).all (·.oneCell') = true := by
  have key : ∀ (ps : List (Nat × Value)) (l : List Value), l.all (·.oneCell') = true → (∀ p, p ∈ ps → p.2.oneCell' = true) → (EW offs ps l).all (·.oneCell') = true := by
   intro ps
   induction ps with
   | nil => intro l h _; exact h
   | cons p ps ih =>
    intro l h hp
    refine ih _ ?_ fun q hq => hp q (OB _ hq)
    rw [Np] at h ⊢;intro x hx
    rcases OK hx with hx | rfl
    ·exact h x hx
    ·exact hp p (OP ..)
  refine key _ _ h4' fun p hp => ?_
  obtain ⟨q, hq, rfl⟩ := OM.1 hp
  exact (r4 q hq).2.1
 refine wpList_plain hg fun K hK => ?_
 unfold Oper.wp;rw [hrun, Oper.upon_value, hd];refine hK _ _ (kk _ _ (hi.putOwn ht (bs := bs') ?_ r2 fun b hb => (r3 b hb).resolve_left (by simp)))
 have := RelD.agg (arr := (EW offs (parts.toList.map fun p => (p.1, a.eval p.2)) ti.zero).toArray) (by simpa using hone) (by simpa using r1) (RelD.done (w := w) (F := F) (β := β))
 simpa using this
theorem Ag {Γ : Tys} (hΓ : Γ.ok P) {ty t : Nat} {parts : Array (Nat × Operand)} {ti : TI} {offs : List Nat} {cells : List D} {ms : List Nat} (hg : o.guard = none) (hd : o.dst = some t) (ht : t < c.n) (ho : o.op = .build ty parts)
  (h1 : A4 Γ ty = some ti) (h2 : ti.kind = .agg offs) (h3 : GM P ty = true) (h4 : (offs.all fun k => Nat.blt k ti.zero.length) = true) (h4' : ti.zero.all (·.oneCell') = true) (h5 : setsOk offs (parts.toList.map fun p => (p.1, opd s.fr p.2)) (ti.zero.map Bu) = true)
  (h6 : Ci (EW offs (parts.toList.map fun p => (p.1, opd s.fr p.2)) (ti.zero.map Bu)) some = some cells) (hms : Fu (Aq s.fr (parts.toList.map (·.2))) some = some ms) (hm : Fx ms = true)
  (kk : WO P c ops rest ⟨(t, .agg cells) :: J9 ms s.fr, s.M⟩ Q) : WO P c ops (o :: rest) s Q := by
 rw [spineD_eq] at h6;rw [D2] at hms;cases h6; cases hms;exact GD hΓ hg hd ht ho h1 h2 h3 h4 h4' h5 rfl rfl (nodupB_sound hm) kk
theorem J5 {w : World} {F : Nat → Prop} {β : Ak} {x : Value} {b0 mb : List Nat} {id n len : Nat} {xs : List T} (hr : RelD w F β [x] [.sl id 0 len] b0) (hm : RelB w F β id (.L n xs) mb) (hnd : mb.Nodup) (hl : len ≤ xs.length) :
  ∃ bs, OwnL w [x] [.list n (xs.take len)] bs ∧ bs.Nodup ∧ ∀ b, b ∈ bs → b ∈ mb := by
 have hml : (xs.take len).length = len := by simp; omega
 rcases hm with ⟨r1, r2, r3⟩ | ⟨b, cap, arr, e', bs', r1, r2, r3, r4, r5, r6, r7, r8⟩
 ·subst r2
  cases hr with
  | slnil _ _ => exact ⟨[], by simpa using OwnL.none .nil, by simp, by simp⟩
  | sl p1 _ _ _ _ => rw [r1] at p1; cases p1
 ·cases hr with
  | slnil p1 _ => rw [r1] at p1; cases p1
  | @sl _ _ _ ad _ _ _ k' _ _ _ p1 p2 p3 p4 _ =>
   rw [r1] at p1;cases p1
   have hkc : k' = cap := by omega
   subst hkc
   by_cases h0 : k' = 0
   ·subst h0
    have : len = 0 := by omega
    subst this;exact ⟨[], by simpa using OwnL.none .nil, by simp, by simp⟩
   ·obtain ⟨c1, c2, hc, ho1, _⟩ := r7.split (len * n)
    rw [CC r4, List.take_take, Oh (Od _ hl)] at ho1;rw [r8, hc] at hnd
    have had := p4 h0
    simp only [OY] at had;subst had;refine ⟨b :: c1, ?_, Nw.2 ⟨fun h => (Nw.1 hnd).1 (by simp [h]), (Nq.1 (Nw.1 hnd).2).1⟩, fun b' hb' => by rw [r8, hc]; rcases N2.1 hb' with rfl | h <;> simp [*]⟩
    have := OwnL.list (xs := xs.take len) (n := n) (cap := k') r2 r3 (by rw [hml]) (fun x hx => r4 x (Oa hx)) (by rw [hml]; exact p2) r6 ho1 .nil
    rw [hml] at this
    simpa using this
theorem I4 {w : World} {F : Nat → Prop} {β : Ak} {d e : D} (he : e.free = true) : ∀ {vs ds bs} (j : Nat), RelD w F β vs ds bs → ds[j]? = some e → ∃ v, RelD w F β [v] [e] [] ∧ ∀ b1, RelD w F β [v] [d] b1 → ∃ bs', RelD w F β vs (ds.set j d) bs' ∧ bs'.Perm (b1 ++ bs)
 | [], [], _, j, _, h => by simp at h
 | [], _ :: _, _, _, h, _ => by cases h
 | _ :: _, [], _, _, h, _ => by cases h
 | x :: vs, y :: ds, bs, 0, hr, h => by
  obtain ⟨b2, b3, q1, q2, rfl⟩ := hr.cons
  simp at h
  subst h
  have := q1.free1 he
  subst this;exact ⟨x, q1, fun b1 h1 => ⟨b1 ++ b3, RelD.cons' h1 q2, List.Perm.refl _⟩⟩
 | x :: vs, y :: ds, bs, j + 1, hr, h => by
  obtain ⟨b2, b3, q1, q2, rfl⟩ := hr.cons
  obtain ⟨v, q3, q4⟩ := I4 he j q2 (by simpa using h)
  refine ⟨v, q3, fun b1 h1 => ?_⟩
  obtain ⟨bs', q5, q6⟩ := q4 b1 h1
  refine ⟨b2 ++ bs', RelD.cons' q1 q5, ?_⟩;refine (List.Perm.append_left b2 q6).trans ?_;rw [← OI, ← OI];exact List.Perm.append_right b3 List.perm_append_comm
theorem Le.gatherBox {u id j n len : Nat} {xs : List T} {cells : List D} (hB : lookM s.M u = some (.box cells)) (h1 : cells[j]? = some (.sl id 0 len)) (hM : lookM s.M id = some (.L n xs)) (hl : len ≤ xs.length) (hne : (id == u) = false) :
  Le c s ⟨s.fr, (u, .box (cells.set j (.own (.list n (xs.take len))))) :: dropM (some id) s.M⟩ := by
 classical
 have hne' : ¬ id = u := by simpa using hne
 rintro a w ⟨F, β, fb, mb, ow, hi⟩
 have hb := hi.mem u
 rw [hB] at hb
 obtain ⟨b0, arr, e0, bs0, p1, p2, p3, p4, p5⟩ := hb
 have hm := hi.mem id
 rw [hM] at hm
 obtain ⟨v, hv, hup⟩ := I4 (d := .own (.list n (xs.take len))) rfl j p3 h1
 obtain ⟨bs, k1, k2, k3⟩ := J5 hv hm (hi.nmem id) hl
 obtain ⟨bs', r1, r2⟩ := hup bs (by simpa using RelD.own (F := F) (β := β) k1 .done)
 have hbo : ∀ b, b ∈ bs → ow b = some (.inr id) := fun b h => hi.omem id b (k3 b h)
 have hmu : ∀ b, b ∈ mb u → ow b = some (.inr u) := fun b h => hi.omem u b h
 have hdis : ∀ b, b ∈ bs → b ∉ mb u := fun b h h' => by have := hbo b h; rw [hmu b h'] at this; cases this; exact hne' rfl
 refine ⟨F, β, fb, fun i => if i = u then b0 :: bs' else if i = id then [] else if lookM (dropM (some id) s.M) i = lookM s.M i then mb i else [], fun b => if b ∈ bs then some (.inr u) else ow b, ?_⟩;refine { hi with mem := fun i => ?_, ofr := fun v b hb => ?_, omem := fun i b hb => ?_, nmem := fun i => ?_, own := fun b hb => ?_ }
 ·simp only [lookM]
  by_cases hiu : i = u
  ·rw [if_pos hiu.symm, if_pos hiu]
   subst hiu;exact ⟨b0, arr, e0, bs', by simpa using p1, p2, r1, p4, rfl⟩
  ·rw [if_neg (Ne.symm hiu), if_neg hiu]
   rcases look_dropM (some id) s.M i with h | ⟨h5, h6⟩
   ·rw [h]
    show (if i = id then ([] : List Nat) else if none = lookM s.M i then mb i else []) = [];split
    ·rfl
    ·split
     ·rename_i e
      have := hi.mem i
      rw [← e] at this;exact this
     ·rfl
   ·rw [if_neg (fun e => h5 (by rw [e])), if_pos h6, h6]
    exact hi.mem i
 ·have h5 := hi.ofr v b hb
  rw [if_neg (fun h => ?_)]
  ·exact h5
  ·rw [hbo b h] at h5; cases h5
 ·split at hb
  ·rename_i hiu
   subst hiu
   rcases N2.1 hb with rfl | hb
   ·have h5 := hmu b (by rw [p5]; simp)
    rw [if_neg (fun h => ?_)]
    ·exact h5
    ·rw [hbo b h] at h5; cases h5; exact hne' rfl
   ·rcases Nn.1 (r2.mem_iff.1 hb) with h | h
    ·rw [if_pos h]
    ·have h5 := hmu b (by rw [p5]; simp [h])
     rw [if_neg (fun h => ?_)]
     ·exact h5
     ·rw [hbo b h] at h5; cases h5; exact hne' rfl
  ·split at hb
   ·cases hb
   ·split at hb
    ·have h5 := hi.omem i b hb
     rw [if_neg (fun h => ?_)]
     ·exact h5
     ·rename_i hne _
      rw [hbo b h] at h5; cases h5; exact hne rfl
    ·cases hb
 ·split
  ·have hn := hi.nmem u
   rw [p5] at hn
   obtain ⟨n1, n2⟩ := Nw.1 hn
   refine Nw.2 ⟨fun h => ?_, r2.nodup_iff.2 (Nq.2 ⟨k2, n2, fun x hx y hy e => ?_⟩)⟩
   ·rcases Nn.1 (r2.mem_iff.1 h) with h | h
    ·exact hdis b0 h (by rw [p5]; simp)
    ·exact n1 h
   ·subst e; exact hdis x hx (by rw [p5]; simp [hy])
  ·split
   ·simp
   ·split
    ·exact hi.nmem i
    ·simp
 ·split at hb
  ·rename_i h
   exact hi.own b (by rw [hbo b h]; simp)
  ·exact hi.own b hb
end
section
variable {P : Program} {c : Ctx} {s : St} {M0 : List (Nat × Blk)} {acc : List Dl} {Q : St → List Dl → Prop} {ops : Array Oper} {rest : List Oper} {o : Oper}
theorem Fe {Γ : Tys} (hΓ : Γ.ok P) {ty t : Nat} {parts : Array (Nat × Operand)} {ti : TI} {offs : List Nat} {cells : List D} {ms : List Nat} (hg : o.guard = none) (hd : o.dst = some t) (ht : t < c.n) (ho : o.op = .build ty parts)
  (h1 : A4 Γ ty = some ti) (h2 : ti.kind = .agg offs) (h3 : GM P ty = true) (h4 : (offs.all fun k => Nat.blt k ti.zero.length) = true) (h4' : ti.zero.all (·.oneCell') = true) (h5 : setsOk offs (parts.toList.map fun p => (p.1, opd s.fr p.2)) (ti.zero.map Bu) = true)
  (h6 : Ci (EW offs (parts.toList.map fun p => (p.1, opd s.fr p.2)) (ti.zero.map Bu)) some = some cells) (hms : Fu (Aq s.fr (parts.toList.map (·.2))) some = some ms) (hm : Fx ms = true)
  (kk : QG P c ops M0 rest ⟨(t, .agg cells) :: ((ms.map fun u => (u, D.top)) ++ s.fr), s.M⟩ (acc ++ [⟨t, .agg cells, ms, [], false⟩]) Q) : QG P c ops M0 (o :: rest) s acc Q :=
 ⟨⟨t, .agg cells, ms, [], false⟩, hd, fun s' ha _ Q h => by
  have hop : ∀ p, p ∈ parts.toList → opd s'.fr p.2 = opd s.fr p.2 := fun p hp => ha.opd (by
   rw [ho];simp only [Op.operands]
   exact List.mem_toArray.2 (OM.2 ⟨p, hp, rfl⟩))
  have e1 : (parts.toList.map fun p => (p.1, opd s'.fr p.2)) = parts.toList.map fun p => (p.1, opd s.fr p.2) := List.map_congr_left fun p hp => by rw [hop p hp]
  have e2 : Aq s'.fr (parts.toList.map (·.2)) = ms := by
   rw [FH (fr := s.fr) fun x hx => by
    obtain ⟨p, hp, rfl⟩ := OM.1 hx
    exact hop p hp]
   rw [D2] at hms;exact Option.some.inj hms
  rw [spineD_eq] at h6
  exact GD hΓ hg hd ht ho h1 h2 h3 h4 h4' (by rw [e1]; exact h5) (by rw [e1]; exact Option.some.inj h6) e2 (nodupB_sound hm) h, kk⟩
theorem BC {Γ : Tys} (hΓ : Γ.ok P) {ty e t len : Nat} {parts : Array (Nat × Operand)} {ti te : TI} (ys : List T) {ms : List Nat} (hg : o.guard = none) (hd : o.dst = some t) (ht : t < c.n) (ho : o.op = .buildSlice ty len parts)
  (h1 : A4 Γ ty = some ti) (h2 : ti.kind = .slice e) (h3 : A4 Γ e = some te) (hp : parts.toList.map (·.1) = List.range len) (hl : len * te.size ≤ 16777216)
  (hy : PartsOk s.fr te.size (parts.toList.map (·.2)) ys) (hms : Fu (Aq s.fr (parts.toList.map (·.2))) some = some ms) (hm : Fx ms = true) (hzs : te.zero.length = te.size) (hpos : 0 < te.size)
  (kk : QG P c ops M0 rest ⟨(t, .own (.list te.size ys)) :: ((ms.map fun u => (u, D.top)) ++ s.fr), s.M⟩ (acc ++ [⟨t, .own (.list te.size ys), ms, [], true⟩]) Q) : QG P c ops M0 (o :: rest) s acc Q :=
 G2 hΓ ys hg hd ht ho h1 h2 h3 hp hl hy (by rw [D2] at hms; exact Option.some.inj hms) (nodupB_sound hm) hzs hpos kk
theorem IA {Γ : Tys} (hΓ : Γ.ok P) {ty e t u n : Nat} {y : Operand} {ti te : TI} {dy : D} {xs ys : List T} (hg : o.guard = none) (hd : o.dst = some t) (ht : t < c.n) (hut : (u == t) = false)
  (ho : o.op = .call { callee := .builtin .append, args := #[.tmp u, y], argTypes := #[ty, ty] })
  (h1 : A4 Γ ty = some ti) (h2 : ti.kind = .slice e) (h3 : A4 Γ e = some te) (h4 : te.size = n) (hx : look s.fr u = .own (.list n xs)) (hy : opd s.fr y = dy) (hsrc : ∀ s : St, Src s dy te.size ys none)
  (hlen : xs.length + ys.length ≤ 1073741824) (hb : te.bytes ≤ 131072) (hzs : te.zero.length = te.size)
  (kk : QG P c ops M0 rest ⟨(t, .own (.list te.size (xs ++ ys))) :: (u, .top) :: s.fr, s.M⟩ (acc ++ [⟨t, .own (.list te.size (xs ++ ys)), [u], [], true⟩]) Q) : QG P c ops M0 (o :: rest) s acc Q :=
 ⟨⟨t, .own (.list te.size (xs ++ ys)), [u], [], true⟩, hd, fun s' ha hc Q h => by
  subst h4
  have hcl := hc rfl
  dsimp only at hcl
  have hut' : ¬ u = t := by simpa using hut
  have hu' : look s'.fr u = .own (.list te.size xs) := by
   have := ha.opd (x := .tmp u) (by rw [ho]; simp [Op.operands, Call.operands])
   exact this.trans hx
  have hy' : opd s'.fr y = dy := (ha.opd (by rw [ho]; simp [Op.operands, Call.operands])).trans hy
  refine WO_le (Le.adoptE (u := u) t hu' rfl) ?_
  have hopy : y = .tmp u ∨ opd ((u, .sl t 0 xs.length) :: killF t s'.fr) y = dy := by
   by_cases hyu : y = .tmp u
   ·exact .inl hyu
   ·right
    cases y with
    | tmp v =>
     have : ¬ u = v := fun e => hyu (by rw [e])
     show (if u = v then _ else look (killF t s'.fr) v) = dy;rw [if_neg this, EZ hcl];exact hy'
    | _ => exact hy'
  have hopy' : opd ((u, .sl t 0 xs.length) :: killF t s'.fr) y = dy := hopy.resolve_left fun e => by
   subst e
   have h9 : look s'.fr u = dy := hy'
   rw [hu'] at h9;subst h9
   have := hsrc s'
   cases this
  refine Ab hΓ (id := t) (sid := none) (xs := xs.take xs.length) hg hd ht ho h1 h2 h3 (dx := .sl t 0 xs.length) (by show (if u = u then _ else _) = _; rw [if_pos rfl]) (.own (by simp [lookM]) (Nm _)) hopy' (hsrc _) (by simp) (by rw [N8]; exact hlen) hb hzs ?_;simp only [N8];refine WO_le ?_ h;refine (Le.gather (u := t) (id := t) (n := te.size) (len := xs.length + ys.length) (xs := xs ++ ys) (by simp [look]) (by simp [lookM]) (by simp)).trans (Le.of (fun v => ?_) (fun id => .inl ?_))
  ·rw [Ni (by simp)]
   show (if t = v then _ else if u = v then D.top else look s'.fr v) = (if t = v then _ else if t = v then _ else look (killF t ((u, D.sl t 0 xs.length) :: killF t s'.fr)) v) ∨ _
   by_cases hv : t = v
   ·rw [if_pos hv, if_pos hv]; exact .inl rfl
   ·rw [if_neg hv, if_neg hv, if_neg hv]
    by_cases hv2 : u = v
    ·rw [if_pos hv2]
     right
     show (if t = v then _ else if u = v then D.top else look s'.fr v) = D.top;rw [if_neg hv, if_pos hv2]
    ·rw [if_neg hv2]
     left
     rw [Bt];show _ = D.kill t (if u = v then _ else look (killF t s'.fr) v);rw [if_neg hv2, EZ hcl, Gh (hcl.1 v)]
  ·show lookM s'.M id = _
   by_cases hid : id = t
   ·subst hid; rw [As, hcl.2.2]
   ·rw [BO hid]
    show _ = (if t = id then _ else lookM (killM t ((t, Blk.L te.size xs) :: killM t s'.M)) id);rw [if_neg (Ne.symm hid), Bs];show _ = Option.map (Blk.kill t) (if t = id then _ else lookM (killM t s'.M) id);rw [if_neg (Ne.symm hid), Es hcl]
    cases hk : lookM s'.M id with
    | none => rfl
    | some k => rw [Option.map_some, Gi (hcl.2.1 id k hk)], kk⟩
end
end Go.Eng
end
section
/- Lists that the cells of variables own: named, so that they can be read and grow. -/
namespace Go.Eng
open Go.RowKit
section
variable {P : Program} {c : Ctx} {s : St} {Q : Exit → St → Prop} {ops : Array Oper} {rest : List Oper} {o : Oper}
theorem B9 {w : World} {F : Nat → Prop} {β : Ak} {e : D} : ∀ {vs ds bs} (j : Nat), RelD w F β vs ds bs → ds[j]? = some e → ∃ v b1 b2 b3, bs = b1 ++ b2 ++ b3 ∧ RelD w F β [v] [e] b2 ∧ vs[j]? = some v ∧
  ∀ d b, RelD w F β [v] [d] b → RelD w F β vs (ds.set j d) (b1 ++ b ++ b3)
 | [], [], _, j, _, h => by simp at h
 | [], _ :: _, _, _, h, _ => by cases h
 | _ :: _, [], _, _, h, _ => by cases h
 | x :: vs, y :: ds, bs, 0, hr, h => by
  obtain ⟨b2, b3, q1, q2, rfl⟩ := hr.cons
  simp at h
  subst h;exact ⟨x, [], b2, b3, by simp, q1, rfl, fun d b hd => by simpa using RelD.cons' hd q2⟩
 | x :: vs, y :: ds, bs, j + 1, hr, h => by
  obtain ⟨b2, b3, q1, q2, rfl⟩ := hr.cons
  obtain ⟨v, c1, c2, c3, rfl, q3, q5, q4⟩ := B9 j q2 (by simpa using h)
  exact ⟨v, b2 ++ c1, c2, c3, by simp, q3, by simpa using q5, fun d b hd => by simpa using RelD.cons' q1 (q4 d b hd)⟩
theorem Gk {i : Nat} {d : D} : ∀ {ds : List D} (j : Nat), D.has.hasL i ds = false → d.has i = false → D.has.hasL i (ds.set j d) = false
 | [], _, h, _ => h
 | x :: ds, 0, h, hd => by
  simp only [D.has.hasL, OC] at h;simp only [List.set_cons_zero, D.has.hasL, OC];exact ⟨hd, h.2⟩
 | x :: ds, j + 1, h, hd => by
  simp only [D.has.hasL, OC] at h;simp only [List.set_cons_succ, D.has.hasL, OC];exact ⟨h.1, Gk j h.2 hd⟩
theorem Le.nilBox {u j : Nat} {cells : List D} (n : Nat) (hB : lookM s.M u = some (.box cells)) (h1 : cells[j]? = some .nil) : Le c s ⟨s.fr, (u, .box (cells.set j (.own (.list n [])))) :: s.M⟩ := by
 rintro a w ⟨F, β, fb, mb, ow, hi⟩
 refine ⟨F, β, fb, mb, ow, { hi with mem := fun i => ?_ }⟩;simp only [lookM]
 by_cases hiu : u = i
 ·subst hiu
  rw [if_pos rfl]
  have hb := hi.mem u
  rw [hB] at hb
  obtain ⟨b0, arr, e0, bs0, p1, p2, p3, p4, p5⟩ := hb
  obtain ⟨v, b1, b2, b3, rfl, q1, _, q2⟩ := B9 j p3 h1
  have hb2 : b2 = [] := q1.free1 rfl
  subst hb2;refine ⟨b0, arr, e0, _, by simpa using p1, p2, q2 _ [] ?_, p4, p5⟩
  cases q1 with
  | nil h => exact .own (bs := []) (bs' := []) (.none .nil) .done
 ·rw [if_neg hiu]; exact hi.mem i
theorem Cl.of {t : Nat} {s : St} (h : (Gu t s.fr && clM t s.M) = true) : Cl t s := by
 rw [Nk] at h;exact ⟨B1 h.1, (Ba h.2).1, (Ba h.2).2⟩
theorem Le.adoptBox {u id j n : Nat} {xs : List T} {cells : List D} (hc : (Gu id s.fr && clM id s.M) = true) (hB : lookM s.M u = some (.box cells)) (h1 : cells[j]? = some (.own (.list n xs))) :
  Le c s ⟨s.fr, (u, .box (cells.set j (.sl id 0 xs.length))) :: (id, .L n xs) :: s.M⟩ := by
 have hcl := Cl.of hc
 have hne : ¬ u = id := fun e => by rw [e, hcl.2.2] at hB; cases hB
 rintro a w ⟨F, β, fb, mb, ow, hi⟩
 have hb := hi.mem u
 rw [hB] at hb
 obtain ⟨b0, arr, e0, bs0, p1, p2, p3, p4, p5⟩ := hb
 obtain ⟨v, b1, b2, b3, hbs, q1, qv, q2⟩ := B9 j p3 h1
 have hou : ∀ b, b ∈ b2 → ow b = some (.inr u) := fun b h => hi.omem u b (by rw [p5, hbs]; simp [h])
 have hnu := hi.nmem u
 rw [p5, hbs] at hnu
 obtain ⟨n1, n2⟩ := Nw.1 hnu
 obtain ⟨n3, n4, n5⟩ := Nq.1 n2
 obtain ⟨n6, n7, n8⟩ := Nq.1 n3
 have fin : ∀ (pl : Option (Nat × Nat × Nat)), RelB w F (fun i => if i = id then pl else β i) id (.L n xs) b2 → RelD w F (fun i => if i = id then pl else β i) [v] [.sl id 0 xs.length] [] →
   Is c ⟨s.fr, (u, .box (cells.set j (.sl id 0 xs.length))) :: (id, .L n xs) :: s.M⟩ a w := by
  intro pl hB' hD
  have hβ : ∀ i, i ≠ id → (fun i => if i = id then pl else β i) i = β i := fun i h => by simp [h]
  refine ⟨F, fun i => if i = id then pl else β i, fb, fun i => if i = u then b0 :: (b1 ++ b3) else if i = id then b2 else mb i, fun b => if b ∈ b2 then some (.inr id) else ow b, ?_⟩;refine { hi with fr := fun t => ?_, mem := fun i => ?_, ofr := fun t b hb => ?_, omem := fun i b hb => ?_, nmem := fun i => ?_, own := fun b hb => ?_ }
  ·exact (hi.fr t).other hβ (by simp only [D.has.hasL, OL]; exact hcl.1 t)
  ·simp only [lookM]
   by_cases hiu : u = i
   ·subst hiu
    rw [if_pos rfl, if_pos rfl];refine ⟨b0, arr, e0, b1 ++ b3, ?_, p2, ?_, p4, rfl⟩
    ·dsimp only; rw [if_neg hne, p1]; simp
    ·-- the other cells, under the new place
     have h8 := hcl.2.1 u _ hB
     simp only [Ai, N9] at h8
     have h9 : RelD w F β arr.toList (cells.set j .top) (b1 ++ b3) := by simpa using q2 .top [] (.top .done)
     have h10 := h9.other hβ (Gk j h8 rfl)
     obtain ⟨v', c1, c2, c3, e1, r1, rv, r2⟩ := B9 (e := .top) j h10 (by rw [List.getElem?_set_self (List.getElem?_eq_some_iff.1 h1).1])
     have hc2 : c2 = [] := r1.free1 rfl
     subst hc2
     have hvv : v' = v := by rw [qv] at rv; exact (Option.some.inj rv).symm
     subst hvv
     have := r2 (.sl id 0 xs.length) [] hD
     rw [Nr] at this
     have e2 : b1 ++ b3 = c1 ++ [] ++ c3 := e1
     rw [e2]; exact this
   ·have hiu' : ¬ i = u := fun e => hiu e.symm
    rw [if_neg hiu, if_neg hiu']
    by_cases hid : id = i
    ·subst hid; rw [if_pos rfl, if_pos rfl]; exact hB'
    ·rw [if_neg hid, if_neg (fun e => hid e.symm)]
     have hm := hi.mem i
     cases hk : lookM s.M i with
     | none => rw [hk] at hm; exact hm
     | some k =>
      rw [hk] at hm
      have hck := hcl.2.1 i k hk
      cases k with
      | L n' xs' =>
       rcases hm with ⟨g1, g2, g3⟩ | ⟨b, cap, arr', e', bs', g1, g⟩
       ·exact .inl ⟨by dsimp only; rw [if_neg (fun e => hid e.symm)]; exact g1, g2, g3⟩
       ·exact .inr ⟨b, cap, arr', e', bs', by dsimp only; rw [if_neg (fun e => hid e.symm)]; exact g1, g⟩
      | box cs =>
       obtain ⟨b, arr', e', bs', g1, g2, g3, g4, g5⟩ := hm
       simp only [Ai, N9] at hck;exact ⟨b, arr', e', bs', by dsimp only; rw [if_neg (fun e => hid e.symm)]; exact g1, g2, g3.other hβ hck, g4, g5⟩
      | raw _ _ _ _ => exact hm
      | rawV _ _ => exact hm
      | ro _ _ => exact hm
      | pin j b n c =>
       simp only [Ai, N9, beq_eq_false_iff_ne] at hck;exact ⟨(hβ _ hck).trans hm.1, hm.2⟩
      | obox _ _ => exact hm
      | bld _ _ _ _ => exact hm
      | row _ _ _ _ => exact hm
  ·have h5 := hi.ofr t b hb
   rw [if_neg (fun h => ?_)]
   ·exact h5
   ·rw [hou b h] at h5; cases h5
  ·split at hb
   ·rename_i hiu
    subst hiu
    have hnb : b ∉ b2 := fun h => by
     rcases N2.1 hb with rfl | hb
     ·exact n1 (by simp [h])
     ·rcases Nn.1 hb with hb | hb
      ·exact n8 b hb b h rfl
      ·exact n5 b (by simp [h]) b hb rfl
    rw [if_neg hnb]
    exact hi.omem i b (by
     rw [p5, hbs]
     rcases N2.1 hb with rfl | hb
     ·simp
     ·rcases Nn.1 hb with hb | hb <;> simp [hb])
   ·split at hb
    ·rename_i hid; subst hid; rw [if_pos hb]
    ·have h5 := hi.omem i b hb
     rw [if_neg (fun h => ?_)]
     ·exact h5
     ·rename_i h6 _
      rw [hou b h] at h5; cases h5; exact h6 rfl
  ·split
   ·refine Nw.2 ⟨fun h => n1 ?_, Nq.2 ⟨n6, n4, fun x hx y hy => n5 x (by simp [hx]) y hy⟩⟩
    rcases Nn.1 h with h | h <;> simp [h]
   ·split
    ·exact n7
    ·exact hi.nmem i
  ·split at hb
   ·rename_i h
    exact hi.own b (by rw [hou b h]; simp)
   ·exact hi.own b hb
 cases q1 with
 | own h2 h3 =>
  cases h3;simp only [OD] at fin
  cases h2 with
  | @none ad _ _ _ _ h4 =>
   cases h4;exact fin none (.inl ⟨by simp, rfl, by simp⟩) (.slnil (by simp) .done)
  | list g1 g2 g3 g4 g5 g6 g7 g8 =>
   cases g8
   rename_i b cap cs arr' e' bs1
   refine fin (some (b, n, cap)) (.inr ⟨b, cap, arr', e', bs1, by simp, g1, g2, g4, g5, g6, by rw [g3]; exact g7, by simp⟩) ?_;exact .sl (b := b) (n := n) (c := cap) (by simp) g5 (by simp) (by simp) .done
end
end Go.Eng
end
section
/- What is owned is laid open, list by list, to be written, and put together again; functions that write so, and are given more to read. -/
namespace Go.Eng
open Go.RowKit
def rb (e : Bool) (b sz : Nat) (ws : List Value) (ts : List T) : Blk := match e with
 | true => .rawV ws ts
 | false => .raw b sz ws ts
def Kr (e : Bool) (n : Nat) (u : Value) : T := match e with
 | true => .list n []
 | false => .v u
section
variable {P : Program} {c : Ctx} {s : St} {Q : Exit → St → Prop} {ops : Array Oper} {rest : List Oper} {o : Oper}
theorem JD {w : World} {F : Nat → Prop} {β : Ak} {id : Nat} {blk : Blk} {mb : List Nat} {vs : List Value} {ts : List T} (hm : RelB w F β id blk mb) (hb : KP blk = some (vs, ts)) :
  ∃ pre bs, mb = pre ++ bs ∧ OwnL w vs ts bs ∧ ∀ (j : Nat) (y : T) (bs' : List Nat), OwnL w vs (ts.set j y) bs' → RelB w F β id (setV j y blk) (pre ++ bs') := by
 cases blk with
 | L _ _ => simp [KP] at hb
 | box _ => simp [KP] at hb
 | ro _ _ => simp [KP] at hb
 | pin _ _ _ _ => simp [KP] at hb
 | obox _ _ => simp [KP] at hb
 | bld _ _ _ _ => simp [KP] at hb
 | row _ _ _ _ => simp [KP] at hb
 | raw b sz vs0 ts0 =>
  simp [KP] at hb
  obtain ⟨rfl, rfl⟩ := hb
  obtain ⟨arr, e, bs, q1, q2, q3, q4, q5⟩ := hm
  exact ⟨[b], bs, by simp [q5], q4, fun j y bs' hO => ⟨arr, e, bs', q1, q2, q3, hO, rfl⟩⟩
 | rawV vs0 ts0 =>
  simp [KP] at hb
  obtain ⟨rfl, rfl⟩ := hb
  exact ⟨[], mb, by simp, hm, fun j y bs' hO => by
   show OwnL w vs0 (ts0.set j y) ([] ++ bs')
   simpa using hO⟩
theorem Ec {l : List Oper} {id id2 j n : Nat} {blk : Blk} {vs : List Value} {ts : List T} {u : Value} {xs : List T} (hM : lookM s.M id = some blk) (hb : KP blk = some (vs, ts)) (hu : vs[j]? = some u) (hx : ts[j]? = some (.list n xs)) (h2 : lookM s.M id2 = none)
  (k : ∀ (e : Bool) (ad : Option Addr) (b cap : Nat) (ws : List Value), u = .slice ad xs.length cap → (e = false → ad = some ⟨b, 0, none⟩) → (e = true → xs = []) → xs.length ≤ cap → cap ≤ maxLen → (∀ x, x ∈ xs → (T.cells x).length = n) →
   WO P c ops l ⟨s.fr, (id, setV j (Kr e n u) blk) :: (id2, rb e b (cap * n) ws (xs.flatMap T.cells)) :: s.M⟩ Q) : WO P c ops l s Q := by
 have hne : ¬ id = id2 := fun e => by rw [e, h2] at hM; cases hM
 intro a w hi0
 have hi00 := hi0
 obtain ⟨F, β, fb, mb, ow, hi⟩ := hi00
 have hm := hi.mem id
 rw [hM] at hm
 obtain ⟨pre, bs, e1, hO, hback⟩ := JD hm hb
 obtain ⟨b1, b2, b3, e2, hO2, hset⟩ := OwnL.at j hO hu hx
 have hou : ∀ b, b ∈ b2 → ow b = some (.inr id) := fun b h => hi.omem id b (by rw [e1, e2]; simp [h])
 have hnd := hi.nmem id
 rw [e1, e2] at hnd
 obtain ⟨n1, n2, n3⟩ := Nq.1 hnd
 obtain ⟨n4, n5, n6⟩ := Nq.1 n2
 obtain ⟨n7, n8, n9⟩ := Nq.1 n4
 have fin : ∀ (y : T) (blk2 : Blk) (g1 g2 : List Nat), b2 = g1 ++ g2 → OwnL w [u] [y] g1 → RelB w F β id2 blk2 g2 → Is c ⟨s.fr, (id, setV j y blk) :: (id2, blk2) :: s.M⟩ a w := by
  intro y blk2 g1 g2 hg hy hB2;subst hg;refine ⟨F, β, fb, fun i => if i = id then pre ++ (b1 ++ g1 ++ b3) else if i = id2 then g2 else mb i, fun b => if b ∈ g2 then some (.inr id2) else ow b, ?_⟩
  have hg2 : ∀ b, b ∈ g2 → b ∈ g1 ++ g2 := fun b h => by simp [h]
  refine { hi with mem := fun i => ?_, ofr := fun t b hb => ?_, omem := fun i b hb => ?_, nmem := fun i => ?_, own := fun b hb => ?_ }
  ·simp only [lookM]
   by_cases hi1 : id = i
   ·subst hi1
    rw [if_pos rfl, if_pos rfl];exact hback j y _ (hset w y g1 (fun b _ => rfl) hy)
   ·have hi1' : ¬ i = id := fun e => hi1 e.symm
    rw [if_neg hi1, if_neg hi1']
    by_cases hi2 : id2 = i
    ·subst hi2; rw [if_pos rfl, if_pos rfl]; exact hB2
    ·have hi2' : ¬ i = id2 := fun e => hi2 e.symm
     rw [if_neg hi2, if_neg hi2'];exact hi.mem i
  ·have h5 := hi.ofr t b hb
   rw [if_neg (fun h => ?_)]
   ·exact h5
   ·rw [hou b (hg2 b h)] at h5; cases h5
  ·split at hb
   ·rename_i hid
    subst hid
    have hnb : b ∉ g2 := fun h => by
     rcases Nn.1 hb with hb | hb
     ·exact n3 b hb b (by simp [h]) rfl
     ·rcases Nn.1 hb with hb | hb
      ·rcases Nn.1 hb with hb | hb
       ·exact n9 b hb b (by simp [h]) rfl
       ·exact (Nq.1 n8).2.2 b hb b h rfl
      ·exact n6 b (by simp [h]) b hb rfl
    rw [if_neg hnb];refine hi.omem i b ?_;rw [e1, e2]
    rcases Nn.1 hb with hb | hb
    ·simp [hb]
    ·rcases Nn.1 hb with hb | hb
     ·rcases Nn.1 hb with hb | hb <;> simp [hb]
     ·simp [hb]
   ·split at hb
    ·rename_i hid; subst hid; rw [if_pos hb]
    ·have h5 := hi.omem i b hb
     rw [if_neg (fun h => ?_)]
     ·exact h5
     ·rename_i h6 _
      rw [hou b (hg2 b h)] at h5; cases h5; exact h6 rfl
  ·split
   ·refine hnd.sublist ?_
    refine List.Sublist.append (List.Sublist.refl _) (List.Sublist.append (List.Sublist.append (List.Sublist.refl _) (List.sublist_append_left _ _)) (List.Sublist.refl _))
   ·split
    ·exact (Nq.1 n8).2.1
    ·exact hi.nmem i
  ·split at hb
   ·rename_i h
    exact hi.own b (by rw [hou b (hg2 b h)]; simp)
   ·exact hi.own b hb
 generalize hxe : T.list n xs = y at hO2
 cases hO2 with
 | v h3 h4 => cases hxe
 | none h3 =>
  injection hxe with g1 g2
  subst g1; subst g2;cases h3;exact k true _ 0 0 [] rfl (by simp) (fun _ => rfl) (Nm _) (by simp [maxLen]) (by simp) a w (fin _ _ [] [] rfl (.none .nil) OwnL.nil)
 | list h3 h4 h5 h6 h7 h8 h9 h10 =>
  rename_i b cap n' cs xs' arr e c1 c2
  injection hxe with g1 g2
  subst g1; subst g2;cases h10;rw [OD] at fin
  by_cases hx0 : xs = []
  ·subst hx0
   exact k true _ 0 cap [] rfl (by simp) (fun _ => rfl) (by simp) h8 (by simp) a w (fin _ _ (b :: c1) [] (by simp) (by
    have := OwnL.list (vs := []) (ts := []) (bs' := []) h3 h4 h5 h6 h7 h8 h9 .nil
    rw [OD] at this
    exact this) OwnL.nil)
  ·have hcl : cs.length = xs.length * n := by rw [h9.length, Ah h6]
   exact k false _ b cap cs rfl (fun _ => rfl) (by simp) h7 h8 h6 a w (fin _ _ [] (b :: c1) (by simp) (.v rfl .nil) ⟨arr, e, c1, h3, h4, by rw [hcl]; exact h5, h9, rfl⟩)
theorem Le.implode {id id2 j n b cap len : Nat} {blk : Blk} {vs ws : List Value} {ts : List T} {u : Value} {ys : List T} {e : Bool} {ad : Option Addr} (hM : lookM s.M id = some blk) (hb : KP blk = some (vs, ts)) (hu : vs[j]? = some u) (hx : ts[j]? = some (Kr e n u)) (h2 : lookM s.M id2 = some (rb e b (cap * n) ws (ys.flatMap T.cells)))
  (hue : u = .slice ad len cap) (had : e = false → ad = some ⟨b, 0, none⟩) (hy : e = true → ys = []) (hl : ys.length = len) (hlc : len ≤ cap) (hcm : cap ≤ maxLen) (hyn : ∀ y, y ∈ ys → (T.cells y).length = n) (hne : (id == id2) = false) :
  Le c s ⟨s.fr, (id, setV j (.list n ys) blk) :: dropM (some id2) s.M⟩ := by
 have hne' : ¬ id = id2 := by simpa using hne
 classical
 subst hl
 rintro a w ⟨F, β, fb, mb, ow, hi⟩
 have hm := hi.mem id
 rw [hM] at hm
 obtain ⟨pre, bs, e1, hO, hback⟩ := JD hm hb
 obtain ⟨b1, b2, b3, e2, hO2, hset⟩ := OwnL.at j hO hu hx
 have hm2 := hi.mem id2
 rw [h2] at hm2
 have hou : ∀ b, b ∈ mb id2 → ow b = some (.inr id2) := fun b h => hi.omem id2 b h
 have hnd := hi.nmem id
 rw [e1, e2] at hnd
 have hdis : ∀ b, b ∈ mb id2 → b ∉ mb id := fun b h h' => by have := hou b h; rw [hi.omem id b h'] at this; cases this; exact hne' rfl
 have key : ∃ g, OwnL w [u] [.list n ys] g ∧ g.Nodup ∧ ∀ b, b ∈ g → b ∈ b2 ∨ b ∈ mb id2 := by
  cases e with
  | true =>
   have hys := hy rfl
   subst hys;exact ⟨b2, hO2, (hnd.sublist (List.sublist_append_right _ _)).sublist ((List.sublist_append_right b1 b2).trans (List.sublist_append_left _ _)), fun b h => .inl h⟩
  | false =>
   have had := had rfl
   subst had
   obtain ⟨arr, e0, bs0, q1, q2, q3, q4, q5⟩ := hm2
   have hwl : ws.length = ys.length * n := by rw [q4.length, Ah hyn]
   refine ⟨b :: bs0, ?_, by rw [← q5]; exact hi.nmem id2, fun b' h => .inr (by rw [q5]; exact h)⟩;rw [hue]
   have := OwnL.list (vs := []) (ts := []) (bs' := []) (xs := ys) (n := n) (cap := cap) q1 q2 (by rw [← hwl]; exact q3) hyn hlc hcm q4 .nil
   simpa using this
 obtain ⟨g, k1, k2, k3⟩ := key
 have hgo : ∀ b, b ∈ g → ow b = some (.inr id) ∨ ow b = some (.inr id2) := fun b h => (k3 b h).imp (fun h => hi.omem id b (by rw [e1, e2]; simp [h])) (hou b)
 refine ⟨F, β, fb, fun i => if i = id then pre ++ (b1 ++ g ++ b3) else if i = id2 then [] else if lookM (dropM (some id2) s.M) i = lookM s.M i then mb i else [], fun b => if b ∈ g then some (.inr id) else ow b, ?_⟩
 have hdd : ∀ b, b ∈ g → b ∉ pre ++ (b1 ++ b3) := fun b h h' => by
  rcases k3 b h with h1 | h1
  ·obtain ⟨n1, n2, n3⟩ := Nq.1 hnd
   obtain ⟨n4, n5, n6⟩ := Nq.1 n2
   obtain ⟨n7, n8, n9⟩ := Nq.1 n4
   rcases Nn.1 h' with h' | h'
   ·exact n3 b h' b (by simp [h1]) rfl
   ·rcases Nn.1 h' with h' | h'
    ·exact n9 b h' b h1 rfl
    ·exact n6 b (by simp [h1]) b h' rfl
  ·refine hdis b h1 ?_
   rw [e1, e2]
   rcases Nn.1 h' with h' | h'
   ·simp [h']
   ·rcases Nn.1 h' with h' | h' <;> simp [h']
 refine { hi with mem := fun i => ?_, ofr := fun t b hb => ?_, omem := fun i b hb => ?_, nmem := fun i => ?_, own := fun b hb => ?_ }
 ·simp only [lookM]
  by_cases hi1 : id = i
  ·subst hi1
   rw [if_pos rfl, if_pos rfl];exact hback j _ _ (hset w _ g (fun b _ => rfl) k1)
  ·have hi1' : ¬ i = id := fun e => hi1 e.symm
   rw [if_neg hi1, if_neg hi1']
   rcases look_dropM (some id2) s.M i with h | ⟨h5, h6⟩
   ·rw [h]
    show (if i = id2 then ([] : List Nat) else if none = lookM s.M i then mb i else []) = [];split
    ·rfl
    ·split
     ·rename_i e
      have := hi.mem i
      rw [← e] at this;exact this
     ·rfl
   ·rw [if_neg (fun e => h5 (by rw [e])), if_pos h6, h6]
    exact hi.mem i
 ·have h5 := hi.ofr t b hb
  rw [if_neg (fun h => ?_)]
  ·exact h5
  ·rcases hgo b h with h6 | h6 <;> (rw [h6] at h5; cases h5)
 ·split at hb
  ·rename_i hid
   subst hid
   by_cases hg : b ∈ g
   ·rw [if_pos hg]
   ·rw [if_neg hg]
    refine hi.omem i b ?_;rw [e1, e2]
    rcases Nn.1 hb with hb | hb
    ·simp [hb]
    ·rcases Nn.1 hb with hb | hb
     ·rcases Nn.1 hb with hb | hb
      ·simp [hb]
      ·exact absurd hb hg
     ·simp [hb]
  ·split at hb
   ·cases hb
   ·split at hb
    ·have h5 := hi.omem i b hb
     rw [if_neg (fun h => ?_)]
     ·exact h5
     ·rename_i h7 h8 _
      rcases hgo b h with h6 | h6
      ·rw [h6] at h5; cases h5; exact h7 rfl
      ·rw [h6] at h5; cases h5; exact h8 rfl
    ·cases hb
 ·split
  ·have := CV (b1 := pre ++ b1) (b3 := b3) (bs := pre ++ (b1 ++ b3)) (bs' := g) (by simp) (hnd.sublist (List.Sublist.append (List.Sublist.refl _) (by rw [OI]; exact List.Sublist.append (List.Sublist.refl _) (List.sublist_append_right _ _)))) k2 (fun b hb h => hdd b h hb)
   simpa using this
  ·split
   ·simp
   ·split
    ·exact hi.nmem i
    ·simp
 ·split at hb
  ·rename_i h
   rcases hgo b h with h6 | h6 <;> exact hi.own b (by rw [h6]; simp)
  ·exact hi.own b hb
end
end Go.Eng
end
section
/- Functions that write into what a struct leads to, and read more beside. -/
namespace Go.Eng
open Go.RowKit
section
variable {P : Program} {c : Ctx} {s : St} {Q : Exit → St → Prop} {ops : Array Oper} {rest : List Oper} {o : Oper}
end
end Go.Eng
end
section
/- Lists whose elements are known by their values, apart from what those lead to. -/
namespace Go.Eng
open Go.RowKit
section
variable {P : Program} {c : Ctx} {s : St} {Q : Exit → St → Prop} {ops : Array Oper} {rest : List Oper} {o : Oper}
theorem Conc.re2 {a : Act} {w : World} {F β fb mb ow} (hi : Conc c s a w F β fb mb ow) {p q : Nat} (hpq : ¬ p = q) {M' : List (Nat × Blk)} {mp mq : List Nat} (hM : ∀ i, ¬ i = p → ¬ i = q → lookM M' i = lookM s.M i ∨ lookM M' i = none)
  (hp : match lookM M' p with | some k => RelB w F β p k mp | none => mp = []) (hq : match lookM M' q with | some k => RelB w F β q k mq | none => mq = [])
  (hbp : ∀ b, b ∈ mp → b ∈ mb p ∨ b ∈ mb q) (hbq : ∀ b, b ∈ mq → b ∈ mb p ∨ b ∈ mb q) (np : mp.Nodup) (nq : mq.Nodup) (dis : ∀ b, b ∈ mp → b ∉ mq) : Is c ⟨s.fr, M'⟩ a w := by
 classical
 have ho : ∀ b, b ∈ mb p ∨ b ∈ mb q → ow b = some (.inr p) ∨ ow b = some (.inr q) := fun b h => h.imp (hi.omem p b) (hi.omem q b)
 have key : ∀ b, b ∈ mp ∨ b ∈ mq → ow b = some (.inr p) ∨ ow b = some (.inr q) := fun b h => ho b (h.elim (hbp b) (hbq b))
 refine ⟨F, β, fb, fun i => if i = p then mp else if i = q then mq else if lookM M' i = lookM s.M i then mb i else [], fun b => if b ∈ mp then some (.inr p) else if b ∈ mq then some (.inr q) else ow b, ?_⟩;refine { hi with mem := fun i => ?_, ofr := fun t b hb => ?_, omem := fun i b hb => ?_, nmem := fun i => ?_, own := fun b hb => ?_ }
 ·by_cases h1 : i = p
  ·subst h1; rw [if_pos rfl]; exact hp
  ·rw [if_neg h1]
   by_cases h2 : i = q
   ·subst h2; rw [if_pos rfl]; exact hq
   ·rw [if_neg h2]
    rcases hM i h1 h2 with h | h
    ·rw [if_pos h, h]; exact hi.mem i
    ·rw [h]
     show (if none = lookM s.M i then mb i else []) = [];split
     ·rename_i e
      have := hi.mem i
      rw [← e] at this;exact this
     ·rfl
 ·have h5 := hi.ofr t b hb
  rw [if_neg (fun h => ?_), if_neg (fun h => ?_)]
  ·exact h5
  ·rcases key b (.inr h) with h6 | h6 <;> (rw [h6] at h5; cases h5)
  ·rcases key b (.inl h) with h6 | h6 <;> (rw [h6] at h5; cases h5)
 ·split at hb
  ·rename_i h; subst h; rw [if_pos hb]
  ·split at hb
   ·rename_i h; subst h
    rw [if_neg (fun h => dis b h hb), if_pos hb]
   ·split at hb
    ·rename_i h1 h2 _
     have h5 := hi.omem i b hb
     rw [if_neg (fun h => ?_), if_neg (fun h => ?_)]
     ·exact h5
     ·rcases key b (.inr h) with h6 | h6
      ·rw [h6] at h5; cases h5; exact h1 rfl
      ·rw [h6] at h5; cases h5; exact h2 rfl
     ·rcases key b (.inl h) with h6 | h6
      ·rw [h6] at h5; cases h5; exact h1 rfl
      ·rw [h6] at h5; cases h5; exact h2 rfl
    ·cases hb
 ·split
  ·exact np
  ·split
   ·exact nq
   ·split
    ·exact hi.nmem i
    ·simp
 ·have : ∀ b, ow b = some (.inr p) ∨ ow b = some (.inr q) → ¬ F b ∧ b < w.heap.size ∧ (c.w0.heap.size ≤ b ∨ c.G b) := fun b h => hi.own b (by rcases h with h | h <;> rw [h] <;> simp)
  split at hb
  ·rename_i h; exact this b (key b (.inl h))
  ·split at hb
   ·rename_i h; exact this b (key b (.inr h))
   ·exact hi.own b hb
theorem Conc.dis {a : Act} {w : World} {F β fb mb ow} (hi : Conc c s a w F β fb mb ow) {p q : Nat} (hpq : ¬ p = q) {b : Nat} (h1 : b ∈ mb p) (h2 : b ∈ mb q) : False := by
 have := hi.omem p b h1
 rw [hi.omem q b h2] at this;cases this;exact hpq rfl
theorem JC {w : World} : ∀ {vs : List Value}, vs.all (·.oneCell') = true → OwnL w vs (vs.map T.v) []
 | [], _ => .nil
 | v :: vs, h => by
  rw [Oe, Nk] at h;exact .v h.1 (JC h.2)
theorem KN {l : List Oper} {id idp n : Nat} {xs : List T} (hM : lookM s.M id = some (.L n xs)) (h2 : lookM s.M idp = none)
  (k : ∀ vs : List Value, vs.length = xs.length * n → ∃ ys : List T, ys.flatMap T.cells = vs.map T.v ∧ ys.length = xs.length ∧ (∀ y, y ∈ ys → (T.cells y).length = n) ∧
   WO P c ops l ⟨s.fr, (id, .L n ys) :: (idp, .rawV vs (xs.flatMap T.cells)) :: s.M⟩ Q) : WO P c ops l s Q := by
 have hne : ¬ id = idp := fun e => by rw [e, h2] at hM; cases hM
 intro a w hi0
 have hi00 := hi0
 obtain ⟨F, β, fb, mb, ow, hi⟩ := hi00
 have hm := hi.mem id
 rw [hM] at hm
 have hmp : mb idp = [] := by have := hi.mem idp; rw [h2] at this; exact this
 have e1 : ∀ {k : Blk}, lookM ((id, k) :: (idp, .rawV ([] : List Value) []) :: s.M) id = some k := fun {k} => by simp [lookM]
 rcases hm with ⟨r1, r2, r3⟩ | ⟨b, cap, arr, e', bs', r1, r3, r4, r5, r6, r7, r8, r9⟩
 ·subst r2
  obtain ⟨ys, g1, g2, g3, g4⟩ := k [] (by simp)
  have hys : ys = [] := OG (by simpa using g2)
  subst hys;refine g4 a w (hi.re2 hne (mp := []) (mq := []) (fun i h1 h2' => .inl (by simp only [lookM]; rw [if_neg (fun e => h1 e.symm), if_neg (fun e => h2' e.symm)])) ?_ ?_ (by simp) (by simp) (by simp) (by simp) (by simp))
  ·simp only [lookM, if_true]; exact .inl ⟨r1, rfl, rfl⟩
  ·simp only [lookM, if_neg hne, if_true]; exact OwnL.nil
 ·have hone := r8.one
  have hvl : (arr.toList.take (xs.length * n)).length = xs.length * n := by rw [r8.length, Ah r5]
  obtain ⟨ys, g1, g2, g3, g4⟩ := k _ hvl
  have hnd := hi.nmem id
  rw [r9] at hnd
  obtain ⟨n1, n2⟩ := Nw.1 hnd
  refine g4 a w (hi.re2 hne (mp := [b]) (mq := bs') (fun i h1 h2' => .inl (by simp only [lookM]; rw [if_neg (fun e => h1 e.symm), if_neg (fun e => h2' e.symm)])) ?_ ?_ (fun b' h => .inl (by rw [r9]; simp at h; simp [h])) (fun b' h => .inl (by rw [r9]; simp [h])) (by simp) n2 (fun b' h h' => by simp at h; subst h; exact n1 h'))
  ·simp only [lookM, if_true]
   exact .inr ⟨b, cap, arr, e', [], r1, r3, r4, g3, by rw [g2]; exact r6, r7, by rw [g2, g1]; exact JC hone, rfl⟩
  ·simp only [lookM, if_neg hne, if_true]; exact r8
theorem BV {l : List Oper} {u idp j : Nat} {x : T} {cells : List D} (hB : lookM s.M u = some (.box cells)) (h1 : cells[j]? = some (.own x)) (h2 : lookM s.M idp = none)
  (k : ∀ v : Value, WO P c ops l ⟨s.fr, (u, .box (cells.set j (.t (.v v)))) :: (idp, .rawV [v] [x]) :: s.M⟩ Q) : WO P c ops l s Q := by
 have hne : ¬ u = idp := fun e => by rw [e, h2] at hB; cases hB
 intro a w hi0
 have hi00 := hi0
 obtain ⟨F, β, fb, mb, ow, hi⟩ := hi00
 have hb := hi.mem u
 rw [hB] at hb
 obtain ⟨b0, arr, e0, bs0, p1, p2, p3, p4, p5⟩ := hb
 obtain ⟨v, b1, b2, b3, hbs, q1, qv, q2⟩ := B9 j p3 h1
 have hnd := hi.nmem u
 rw [p5, hbs] at hnd
 obtain ⟨n1, n2⟩ := Nw.1 hnd
 obtain ⟨n3, n4, n5⟩ := Nq.1 n2
 obtain ⟨n6, n7, n8⟩ := Nq.1 n3
 have hone : v.oneCell' = true := by
  rw [Np] at p4;exact p4 v (OV qv)
 have hO : OwnL w [v] [x] b2 := by
  cases q1 with
  | own h3 h4 => cases h4; simpa using h3
 refine k v a w (hi.re2 hne (mp := b0 :: (b1 ++ [] ++ b3)) (mq := b2) (fun i h1 h2' => .inl (by simp only [lookM]; rw [if_neg (fun e => h1 e.symm), if_neg (fun e => h2' e.symm)])) ?_ ?_ (fun b h => .inl ?_) (fun b h => .inl (by rw [p5, hbs]; simp [h])) ?_ n7 (fun b h h' => ?_))
 ·simp only [lookM, if_true]
  exact ⟨b0, arr, e0, b1 ++ [] ++ b3, by simpa using p1, p2, q2 _ [] (.t (.v hone .nil) .done), p4, rfl⟩
 ·simp only [lookM, if_neg hne, if_true]; exact hO
 ·rw [p5, hbs]
  rcases N2.1 h with rfl | h
  ·simp
  ·simp only [OD] at h
   rcases Nn.1 h with h | h <;> simp [h]
 ·simp only [OD]
  refine Nw.2 ⟨fun h => n1 ?_, Nq.2 ⟨n6, n4, fun x hx y hy => n5 x (by simp [hx]) y hy⟩⟩
  rcases Nn.1 h with h | h <;> simp [h]
 ·simp only [OD] at h
  rcases N2.1 h with rfl | h
  ·exact n1 (by simp [h'])
  ·rcases Nn.1 h with h | h
   ·exact n8 b h b h' rfl
   ·exact n5 b (by simp [h']) b h rfl
theorem Le.claimBox {u idp j : Nat} {v : Value} {x : T} {cells : List D} (hB : lookM s.M u = some (.box cells)) (h1 : cells[j]? = some (.t (.v v))) (h2 : lookM s.M idp = some (.rawV [v] [x])) (hne' : (u == idp) = false) :
  Le c s ⟨s.fr, (u, .box (cells.set j (.own x))) :: dropM (some idp) s.M⟩ := by
 have hne : ¬ u = idp := by simpa using hne'
 rintro a w ⟨F, β, fb, mb, ow, hi⟩
 have hb := hi.mem u
 rw [hB] at hb
 obtain ⟨b0, arr, e0, bs0, p1, p2, p3, p4, p5⟩ := hb
 obtain ⟨v', b1, b2, b3, hbs, q1, qv, q2⟩ := B9 j p3 h1
 have hvv := A1 q1
 subst hvv
 have hb2 : b2 = [] := q1.free1 rfl
 subst hb2
 have hmp := hi.mem idp
 rw [h2] at hmp
 have hO : OwnL w [v'] [x] (mb idp) := hmp
 have hnd := hi.nmem u
 rw [p5, hbs] at hnd;simp only [OD] at hnd hbs
 obtain ⟨n1, n2⟩ := Nw.1 hnd
 have hown := q2 (.own x) (mb idp) (by simpa using RelD.own (F := F) (β := β) hO .done)
 have hmu : ∀ b, b ∈ b0 :: (b1 ++ b3) → b ∈ mb u := fun b h => by rw [p5, hbs]; exact h
 refine hi.re2 hne (mp := b0 :: (b1 ++ mb idp ++ b3)) (mq := []) (fun i h1 h3 => .inl (by simp only [lookM]; rw [if_neg (fun e => h1 e.symm), BO h3])) ?_ ?_ (fun b h => ?_) (by simp) ?_ (by simp) (by simp)
 ·simp only [lookM, if_true]
  exact ⟨b0, arr, e0, _, by simpa using p1, p2, hown, p4, rfl⟩
 ·simp only [lookM, if_neg hne]; rw [As]; trivial
 ·rcases N2.1 h with rfl | h
  ·exact .inl (hmu b (by simp))
  ·rcases Nn.1 h with h | h
   ·rcases Nn.1 h with h | h
    ·exact .inl (hmu b (by simp [h]))
    ·exact .inr h
   ·exact .inl (hmu b (by simp [h]))
 ·have := CV (b1 := b0 :: b1) (b3 := b3) (bs := b0 :: (b1 ++ b3)) (bs' := mb idp) (by simp) (by simpa using hnd) (hi.nmem idp) (fun b hb h => hi.dis hne (hmu b hb) h)
  simpa using this
end
end Go.Eng
end
section
/- Cells whose values are known by what they are told to be; places in known slices, in open order; lists of which a part is done. -/
namespace Go.Eng
open Go.RowKit
section
variable {P : Program} {c : Ctx} {s : St} {Q : Exit → St → Prop} {ops : Array Oper} {rest : List Oper} {o : Oper}
theorem FZ {Q : St → Prop} {Γ : Tys} (hΓ : Γ.ok P) {ty e t b n cap : Nat} {x ix : Operand} {ti te : TI} {i : Int} (hg : o.guard = none) (hd : o.dst = some t) (ht : t < c.n) (ho : o.op = .indexAddr ty x ix)
  (h1 : A4 Γ ty = some ti) (h2 : ti.kind = .slice e) (h3 : A4 Γ e = some te) (hx : opd s.fr x = .t (.v (.slice (some ⟨b, 0, none⟩) n cap))) (hix : opd s.fr ix = .t (.int i)) (h5 : 0 ≤ i) (h6 : i < n)
  (k : QL P c ops rest ⟨(t, .t (.v (.pointer (some ⟨b, i.toNat * te.size, none⟩)))) :: s.fr, s.M⟩ Q) : QL P c ops (o :: rest) s Q :=
 ⟨t, _, hd, fun s' ha Q h => LY hΓ hg hd ht ho h1 h2 h3 (by rw [ha.opd (by rw [ho]; simp [Op.operands])]; exact hx) (by rw [ha.opd (by rw [ho]; simp [Op.operands])]; exact hix) h5 h6 h, k⟩
theorem Ct {Q : St → Prop} {Γ : Tys} (hΓ : Γ.ok P) {ty t b off f j : Nat} {x : Operand} {ti : TI} {offs : List Nat} (hg : o.guard = none) (hd : o.dst = some t) (ht : t < c.n) (ho : o.op = .fieldAddr ty x j)
  (h1 : A4 Γ ty = some ti) (h2 : ti.kind = .agg offs) (h3 : offs[j]? = some f) (hx : opd s.fr x = .t (.v (.pointer (some ⟨b, off, none⟩))))
  (k : QL P c ops rest ⟨(t, .t (.v (.pointer (some ⟨b, off + f, none⟩)))) :: s.fr, s.M⟩ Q) : QL P c ops (o :: rest) s Q :=
 ⟨t, _, hd, fun s' ha Q h => Au hΓ hg hd ht ho h1 h2 h3 (by rw [ha.opd (by rw [ho]; simp [Op.operands])]; exact hx) h, k⟩
end
theorem EK {n : Nat} {xs : List T} (hw : ∀ x, x ∈ xs → (T.cells x).length = n) {i j : Nat} {y : T} (hi : xs[i]? = some y) (hj : j < n) : (xs.flatMap T.cells)[i * n + j]? = (T.cells y)[j]? := by
 have := Ep hw hi
 rw [← this, List.getElem?_take, if_pos hj, List.getElem?_drop]
theorem DN {n : Nat} : ∀ {xs : List T} (hw : ∀ x, x ∈ xs → (T.cells x).length = n) {i j : Nat} {x y : T} {t : T}, xs[i]? = some x → j < n → T.cells y = (T.cells x).set j t → (xs.flatMap T.cells).set (i * n + j) t = (xs.set i y).flatMap T.cells
 | [], _, _, _, _, _, _, h, _, _ => by simp at h
 | z :: xs, hw, 0, j, x, y, t, h, hj, hy => by
  simp at h; subst h
  have hz := hw z (by simp)
  simp only [Nt, OY, N5, List.set_cons_zero];rw [List.set_append_left _ _ (by omega), hy]
 | z :: xs, hw, i + 1, j, x, y, t, h, hj, hy => by
  have hz := hw z (by simp)
  have ih := DN (xs := xs) (fun v hv => hw v (by simp [hv])) (i := i) (j := j) (x := x) (y := y) (t := t) (by simpa using h) hj hy
  rw [Nt, List.set_cons_succ, Nt, ← ih, List.set_append_right _ _ (by rw [hz, Og]; omega)]
  congr 2
  rw [hz, Og]; omega
end Go.Eng
namespace Go.Eng
section
variable {P : Program} {c : Ctx} {s : St} {Q : Exit → St → Prop}
end
end Go.Eng
namespace Go.Eng
section
variable {P : Program} {c : Ctx} {s : St} {ops : Array Oper}
end
end Go.Eng
namespace Go.Eng
section
variable {P : Program} {c : Ctx} {s : St} {ops : Array Oper} {rest : List Oper} {Q : Exit → St → Prop}
end
end Go.Eng
end
section
/- Lists put together out of order. -/
namespace Go.Eng
open Go.RowKit
theorem cutV {β : Type} {n : Nat} : ∀ {l : List β} {vs : List Value}, vs.length = l.length * n → ∃ C : List (β × List Value), C.map (·.1) = l ∧ (∀ c, c ∈ C → c.2.length = n) ∧ vs = C.flatMap (·.2)
 | [], vs, h => ⟨[], rfl, by simp, by simpa using h⟩
 | x :: l, vs, h => by
  rw [Nx, Og] at h
  obtain ⟨C, h1, h2, h3⟩ := cutV (l := l) (vs := vs.drop n) (n := n) (by rw [OS]; omega)
  refine ⟨(x, vs.take n) :: C, by simp [h1], ?_, ?_⟩
  ·intro c hc
   rcases N2.1 hc with rfl | hc
   ·simp; omega
   ·exact h2 c hc
  ·rw [Nt, ← h3, Oi]
section
variable {P : Program} {c : Ctx} {s : St} {Q : Exit → St → Prop} {ops : Array Oper} {rest : List Oper} {o : Oper}
end
end Go.Eng
end
