import Derived.Test.YthinnpkpafmbcaaGreatDoorMb
set_option linter.unusedVariables false
set_option linter.unusedSimpArgs false
section
/- Rules for conversions of whole numbers, and for arrays of two. -/
namespace Go.Eng
open Go.RowKit
section
variable {P : Program} {c : Ctx} {s : St} {Q : Exit → St → Prop} {ops : Array Oper} {rest : List Oper} {o : Oper}
theorem WO_conv {src dst t : Nat} {x : Operand} {td : TypeDesc} {k k0 : IntKind} {n : Int} (hg : o.guard = none) (hd : o.dst = some t) (ht : t < c.n) (ho : o.op = .convert src dst x)
  (h1 : P.underlying src = some td) (h2 : P.underlying dst = some (.int k)) (hx : opd s.fr x = .t (.v (.int k0 n)))
  (kk : WO P c ops rest ⟨(t, .t (.v (.int k (k.wrap n)))) :: s.fr, s.M⟩ Q) : WO P c ops (o :: rest) s Q := by
 refine BC hg hd ht _ (fun a w F β fb mb ow hi => ?_) kk;refine ⟨.int k (k.wrap n), ?_, .t (.v rfl .nil) .done⟩
 have e := A3 hi hx
 simp only [execOp, ho, e, convert, N8, run_underlying h1, run_underlying h2, N2, Conv.intToInt, OS]
end
end Go.Eng
end
section
/- What is only read may be known by its value: so that lists of the call's own can hold it. -/
namespace Go.Eng
open Go.RowKit
section
variable {P : Program} {c : Ctx} {s : St} {Q : Exit → St → Prop} {ops : Array Oper} {rest : List Oper} {o : Oper}
theorem Le.roNil (i : Nat) : Le c s ⟨s.fr, (i, .ro [] []) :: s.M⟩ := by
 rintro a w ⟨F, β, fb, mb, ow, hi⟩
 refine ⟨F, β, fb, fun j => if i = j then [] else mb j, ow, ?_⟩
 exact { hi with
  mem := fun j => by
   simp only [lookM]
   by_cases h : i = j
   ·rw [if_pos h]; simp only [if_pos h]; exact ⟨.nil, rfl⟩
   ·rw [if_neg h]; simp only [if_neg h]; exact hi.mem j
  omem := fun j b hb => by
   split at hb
   ·cases hb
   ·exact hi.omem j b hb
  nmem := fun j => by
   split
   ·simp
   ·exact hi.nmem j }
end
end Go.Eng
end
section
/- Statements of open order in which an operation that hangs on nothing may come anywhere, beside others whose place is fixed. -/
namespace Go.Eng
open Go.RowKit
section
variable {P : Program} {c : Ctx} {s : St} {Q : Exit → St → Prop} {ops : Array Oper} {rest : List Oper} {o : Oper}
end
end Go.Eng
end
section
/- A call whose answer may be a part of what is read, in a statement of open order. -/
namespace Go.Eng
open Go.RowKit
section
variable {P : Program} {c : Ctx} {s : St} {Q : St → Prop} {ops : Array Oper} {rest : List Oper} {o : Oper}
theorem Jc {t : Nat} {fo : Operand} {args : Array Operand} {tys : Array TypeId} {f : FuncId} {caps es : List D} {r : D} (hg : o.guard = none) (hd : o.dst = some t) (ht : t < c.n)
  (ho : o.op = .call { callee := .value fo, args := args, argTypes := tys }) (hf : opd s.fr fo = .clo f caps) (hes : args.toList.map (opd s.fr) ++ caps = es) (hcl : D.closed.closedL es = true) (hfr : D.free.freeL es = true)
  (hc : Fun P f es r) (hn : r.closed = true)
  (k : QL P c ops rest ⟨(t, r) :: s.fr, s.M⟩ Q) : QL P c ops (o :: rest) s Q :=
 ⟨t, _, hd, fun s' ha Q h => by
  have e1 : opd s'.fr fo = opd s.fr fo := ha.opd (by rw [ho]; simp [Op.operands, Call.operands])
  have e2 : args.toList.map (opd s'.fr) = args.toList.map (opd s.fr) := ha.opds fun x hx => by
   rw [ho];simp only [Op.operands, Call.operands, Array.mem_append];exact .inr (by simpa using hx)
  exact MY hg hd ht ho (by rw [e1]; exact hf) (by rw [e2]; exact hes) hcl hfr hc hn h, k⟩
def absT : D → T
 | .own x => x
 | .t (.v x) => .v x
 | _ => .v undef
def absB : D → Bool
 | .own _ => true
 | .t (.v _) => true
 | _ => false
theorem LM : ∀ {cells : List D}, cells.all absB = true → AbsL cells (cells.map absT)
 | [], _ => trivial
 | d :: ds, h => by
  rw [OP, Nv] at h
  have h2 := LM h.2
  have h1 := h.1
  cases d with
  | own x => exact AbsL.own' h2
  | t x =>
   cases x with
   | v x => exact AbsL.v' h2
   | _ => cases h1
  | _ => cases h1
theorem F4 {Q : Exit → St → Prop} {l : List Oper} {u : Nat} (id : Nat) {cells : List D} (h1 : look s.fr u = .agg cells) (h2 : cells.all absB = true)
  (k : ∀ us : List Value, us.length = cells.length → WO P c ops l ⟨(u, .agg (us.map fun v => .t (.v v))) :: s.fr, (id, .rawV us (cells.map absT)) :: s.M⟩ Q) : WO P c ops l s Q :=
 KO id _ h1 (LM h2) fun us hu => k us (by rw [hu, N0])
theorem WO_rem {Q : Exit → St → Prop} {t ty ty' : Nat} {x y : Operand} {a b : Int} (hg : o.guard = none) (hd : o.dst = some t) (ht : t < c.n) (ho : o.op = .binOp .rem ty x y ty') (hx : opd s.fr x = .t (.v (.int .i64 a))) (hy : opd s.fr y = .t (.v (.int .i64 b)))
  (hb : b ≠ 0) (kk : WO P c ops rest ⟨(t, .t (.v (.int .i64 (a.tmod b)))) :: s.fr, s.M⟩ Q) : WO P c ops (o :: rest) s Q := by
 refine BC hg hd ht _ (fun a' w F β fb mb ow hi => ?_) kk;refine ⟨.int .i64 (a.tmod b), ?_, .t (.v rfl .nil) .done⟩
 have e1 := A3 hi hx
 have e2 := A3 hi hy
 simp only [execOp, ho, e1, e2]
 simp [eqGuard, binOp, Op.intDiv, hb]
theorem WO_quo {Q : Exit → St → Prop} {t ty ty' : Nat} {x y : Operand} {a b : Int} (hg : o.guard = none) (hd : o.dst = some t) (ht : t < c.n) (ho : o.op = .binOp .quo ty x y ty') (hx : opd s.fr x = .t (.v (.int .i64 a))) (hy : opd s.fr y = .t (.v (.int .i64 b)))
  (hb : b ≠ 0) (kk : WO P c ops rest ⟨(t, .t (.v (.int .i64 (IntKind.i64.wrap (a.tdiv b))))) :: s.fr, s.M⟩ Q) : WO P c ops (o :: rest) s Q := by
 refine BC hg hd ht _ (fun a' w F β fb mb ow hi => ?_) kk;refine ⟨.int .i64 (IntKind.i64.wrap (a.tdiv b)), ?_, .t (.v rfl .nil) .done⟩
 have e1 := A3 hi hx
 have e2 := A3 hi hy
 simp only [execOp, ho, e1, e2]
 simp [eqGuard, binOp, Op.intDiv, hb]
end
end Go.Eng
end
section
/- Statements of open order, told by the state that each set of operations that are done leaves: those may make memory, and move what is owned. -/
namespace Go.Eng
open Go.RowKit
section
variable {P : Program} {c : Ctx} {s : St} {Q : Exit → St → Prop} {ops : Array Oper} {rest : List Oper} {o : Oper}
def StepTo (P : Program) (c : Ctx) (ops : Array Oper) (o : Oper) (s s2 : St) : Prop := ∀ Q : Exit → St → Prop, WO P c ops [] s2 Q → WO P c ops [o] s Q
theorem StepTo.wp {s2 : St} (h : StepTo P c ops o s s2) {a : Act} {w : World} (hi : Is c s a w) {K : Act → World → Prop} {Q' : Exit → Act → World → Prop}
    (hK : ∀ a' w', Is c s2 a' w' → K a' w') : if Region.wanted o (yielded ops a.tmps) then o.wp P a w K Q' else K (a.put o.dst undef) w := by
  let Q : Exit → St → Prop := fun e s' => match e with | .normal => s' = s2 | _ => False
  have h1 := h Q (fun a w hi => ⟨_, hi, rfl⟩) a w hi
  unfold wpList at h1
  have hQ : ∀ e a w, Hu c Q e a w → (match e with | .normal => K a w | _ => False) := fun e a w ⟨s', h2, h3⟩ => by
    cases e with
    | normal => have h3' : s' = s2 := h3; subst h3'; exact hK _ _ h2
    | _ => exact h3.elim
  split at h1
  · rename_i hw
    rw [if_pos hw]
    rcases h1 with h1 | ⟨_, a', w', h2⟩
    · unfold Oper.wp at h1 ⊢
      generalize (execOp a.eval o).run P w = r at h1
      cases r with
      | ok n w' =>
        cases n <;> simp only [Oper.upon] at h1 ⊢ <;> first
          | exact hQ .normal _ _ h1
          | (refine Calls.mono h1 fun e w'' he => ?_
             cases e with
             | returned v => exact hQ .normal _ _ he
             | panicked ch => exact (hQ _ _ _ he).elim
             | outgrown => obtain ⟨a1, w1, h3⟩ := he; exact (hQ _ _ _ h3).elim)
          | exact Rows.mono h1 fun _ _ he => hQ .normal _ _ he
          | exact h1
      | halt x w' => cases x <;> simp only [Oper.upon] at h1 ⊢ <;> first | exact (hQ _ _ _ h1).elim | exact h1
    · exact (hQ _ _ _ h2).elim
  · rename_i hw
    rw [if_neg hw];exact hQ .normal _ _ h1
def WR (P : Program) (c : Ctx) (ops : Array Oper) (s : St) (Q : Exit → St → Prop) : Prop := ∀ a w, Is c s a w → wpAny P .any ops (Hu c Q) ops.size (Array.replicate ops.size false) a { w with drawn := w.drawn + 1 }
theorem Ic {id : Nat} (hm : P.follows .mixedOrders = true) (h : WR P c ops s Q) : W P c (.region id ops true) s Q := fun a w hi => wp_region_any hm (h a w hi)
theorem WR_S {l1 l2 : List Oper} {ops : Array Oper} (he : ops = (l1 ++ l2).toArray) (hB : Bw ops l1.length = true) (hT0 : l2 = [] ∨ EG ops l1.length = true)
  (S : (Nat → Bool) → St) (h0 : ∀ X : Nat → Bool, (∀ j, X j = false) → Le c s (S X))
  (hst : ∀ (X : Nat → Bool) (i : Nat) (o : Oper), l1[i]? = some o → X i = false → (∀ j oj, l1[j]? = some oj → X j = true → ∀ e, e ∈ oj.after → Region.binds .any e = true → X e.on = true) →
   (∀ e, e ∈ o.after → Region.binds .any e = true → X e.on = true) → StepTo P c ops o (S X) (S fun j => X j || j == i))
  (hend : ∀ X : Nat → Bool, (∀ j, j < l1.length → X j = true) → WO P c ops l2 (S X) Q) : WR P c ops s Q := by
 intro a w hi
 have hops : ∀ j, j < l1.length → ops[j]? = l1[j]? := fun j hj => by subst he; rw [List.getElem?_toArray, List.getElem?_append_left hj]
 have hops2 : ∀ j, l2[j]? = ops[l1.length + j]? := fun j => by subst he; rw [List.getElem?_toArray, List.getElem?_append_right (Nat.le_add_right _ _), Nat.add_sub_cancel_left]
 have hsize : ops.size = l1.length + l2.length := by subst he; simp
 -- the state once X is done
 have key : ∀ (n : Nat) (listed : Array Bool) (a : Act) (w : World), listed.size = ops.size → n + listed.toList.count true = l1.length →
   (∀ j, l1.length ≤ j → listed.getD j false = false) →
   (∀ j oj, l1[j]? = some oj → listed.getD j false = true → ∀ e, e ∈ oj.after → Region.binds .any e = true → listed.getD e.on false = true) →
   Is c (S fun j => listed.getD j false) a w →
   wpAny P .any ops (Hu c Q) (n + l2.length) listed a w := by
  intro n
  induction n with
  | zero =>
   intro listed a w hsz hcnt htl hcl hs'
   have hall : ∀ j, j < l1.length → listed.getD j false = true := by
    intro j hj
    refine Classical.byContradiction fun hf => ?_
    have hf' : listed.getD j false = false := by simpa using hf
    -- one of the first is not done, so fewer are
    have h1 : listed.toList.count true ≤ (listed.toList.take l1.length).count true := by
     conv => lhs; rw [← List.take_append_drop l1.length listed.toList, List.count_append]
     have : (listed.toList.drop l1.length).count true = 0 := List.count_eq_zero.2 fun hm => by
      obtain ⟨j, hj, hjt⟩ := List.getElem_of_mem hm
      rw [List.getElem_drop] at hjt;rw [OT, OD (xs := listed)] at hj
      have h5 := htl (l1.length + j) (by omega)
      rw [Ny, Array.getElem?_eq_getElem (by omega)] at h5;rw [Array.getElem_toList] at hjt;rw [hjt] at h5; cases h5
     omega
    have h2 : (listed.toList.take l1.length).length = l1.length := by have := OD (xs := listed); rw [OO]; omega
    have h3 := List.count_le_length (a := true) (l := listed.toList.take l1.length)
    have h4 : (listed.toList.take l1.length).count true = (listed.toList.take l1.length).length := by omega
    rw [List.count_eq_length] at h4
    have hjs : j < listed.size := by omega
    have := h4 (listed[j]) (by rw [List.mem_take_iff_getElem]; exact ⟨j, by simp; omega, by simp⟩)
    rw [Ny, Array.getElem?_eq_getElem hjs] at hf';rw [← this] at hf'; cases hf'
   rw [Nat.zero_add]
   rcases hT0 with hl2 | hT
   ·subst hl2
    refine ⟨List.eq_nil_iff_forall_not_mem.2 fun i hi => ?_, hend _ hall a w hs'⟩
    obtain ⟨oi, h1, h2, _⟩ := DY hsz hi
    have := (Array.getElem?_eq_some_iff.1 h1).1
    rw [hall i (by simp at hsize; omega)] at h2;cases h2
   refine F7 hB hT l2 l1.length listed a w (OJ _) hsize.symm hops2 hsz (fun j hj => ?_) ?_
   ·by_cases hjl : j < l1.length
    ·rw [hall j hjl]; simp [hjl]
    ·rw [htl j (by omega)]; simp [hjl]
   ·exact hend _ hall a w hs'
  | succ n ih =>
   intro listed a w hsz hcnt htl hcl hs'
   -- one of the first is not done
   have hsome : ∃ i, i < l1.length ∧ listed.getD i false = false := by
    refine Classical.byContradiction fun hno => ?_
    have hall : ∀ j, j < l1.length → listed.getD j false = true := fun j hj => by
     refine Classical.byContradiction fun hf => hno ⟨j, hj, by simpa using hf⟩
    have h1 : l1.length ≤ (listed.toList.take l1.length).count true := by
     have h2 : (listed.toList.take l1.length).length = l1.length := by have := OD (xs := listed); rw [OO]; omega
     have : (listed.toList.take l1.length).count true = (listed.toList.take l1.length).length := List.count_eq_length.2 fun b hb => by
      obtain ⟨j, hj, rfl⟩ := List.mem_take_iff_getElem.1 hb
      rw [OD (xs := listed)] at hj
      have h5 := hall j (by omega)
      rw [Ny, Array.getElem?_eq_getElem (by omega)] at h5
      simpa using h5.symm
     omega
    have h3 : (listed.toList.take l1.length).count true ≤ listed.toList.count true := (List.take_sublist _ _).count_le _
    omega
   have hleast : ∃ i, i < l1.length ∧ listed.getD i false = false ∧ ∀ j, j < i → listed.getD j false = true := by
    obtain ⟨i0, hi0, hu0⟩ := hsome
    clear hcnt
    induction i0 using Nat.strongRecOn with
    | _ n ihn =>
     by_cases hx : ∃ j, j < n ∧ listed.getD j false = false
     ·obtain ⟨j, hj, hf⟩ := hx
      exact ihn j hj (by omega) hf
     ·refine ⟨n, hi0, hu0, fun j hj => ?_⟩
      cases hf : listed.getD j false with
      | true => rfl
      | false => exact absurd ⟨j, hj, hf⟩ hx
   have hready : Region.ready .any ops listed ≠ [] := by
    obtain ⟨i, hi1, hi2, hi3⟩ := hleast
    have hoi : ops[i]? = some l1[i] := by rw [hops i hi1]; simp
    intro hnil
    have : i ∈ Region.ready .any ops listed := GF hsz hoi hi2 fun e he hb => hi3 _ (Cf hB hoi e he hb)
    rw [hnil] at this; cases this
   rw [Nat.succ_add];refine ⟨fun h => absurd h hready, fun i hir => ?_⟩
   -- operation i, now
   obtain ⟨oi, hoi0, hun', hafter⟩ := DY hsz hir
   have hil : i < l1.length := by
    rcases hT0 with hl2 | hT
    ·have := (Array.getElem?_eq_some_iff.1 hoi0).1
     subst hl2
     simp at hsize
     omega
    refine Classical.byContradiction fun hni => ?_
    by_cases hie : i = l1.length
    ·subst hie
     have hall : ∀ d j, j + d = l1.length → d ≠ 0 → listed.getD j false = true := by
      intro d
      induction d using Nat.strongRecOn with
      | _ d ihd =>
       intro j hjd hd
       obtain ⟨j2, oj2, p1, p2, p3, e, p4, p5, p6⟩ := Ei hT (k := j) (by omega)
       by_cases hj2 : j2 = l1.length
       ·subst hj2
        rw [hoi0] at p3; cases p3;rw [← p6]; exact hafter e p4 p5
       ·rw [← p6]
        exact hcl j2 oj2 (by rw [← hops j2 (by omega)]; exact p3) (ihd (l1.length - j2) (by omega) j2 (by omega) (by omega)) e p4 p5
     obtain ⟨j, hj, hf⟩ := hsome
     rw [hall (l1.length - j) j (by omega) (by omega)] at hf; cases hf
    ·obtain ⟨e, p4, p5, p6⟩ := Dq hT hoi0 (by omega)
     have := hafter e p4 p5
     rw [p6, htl _ (by omega)] at this; cases this
   have hoi : ops[i]? = some l1[i] := by rw [hops i hil]; simp
   rw [hoi] at hoi0; cases hoi0
   have hli : l1[i]? = some l1[i] := List.getElem?_eq_getElem hil
   have hst2 := hst (fun j => listed.getD j false) i l1[i] hli hun' hcl hafter
   unfold wpOp;rw [hoi];dsimp only
   have hset : ∀ j, (listed.setIfInBounds i true).getD j false = (listed.getD j false || j == i) := GU (by omega)
   have hfin := hst2.wp (K := wpAny P .any ops (Hu c Q) (n + l2.length) (listed.setIfInBounds i true)) (Q' := Hu c Q) hs' fun a' w' h' => by
    refine ih _ a' w' (by simp [hsz]) ?_ ?_ ?_ (by rw [show (fun j => (listed.setIfInBounds i true).getD j false) = (fun j => listed.getD j false || j == i) from funext hset]; exact h')
    ·have hl2 : listed.toList[i]? = some false := by
      rw [Array.getElem?_toList, Array.getElem?_eq_getElem (by omega)];rw [Ny, Array.getElem?_eq_getElem (by omega)] at hun'
      simpa using hun'
     rw [Array.toList_setIfInBounds, FK hl2];omega
    ·intro j hj
     rw [hset, htl j hj]
     simp; omega
    ·intro j oj hj hX e he hb
     rw [hset] at hX ⊢
     by_cases hji : j = i
     ·subst hji
      have : oj = l1[j] := by rw [hli] at hj; exact (Option.some.inj hj).symm
      subst this;rw [hafter e he hb]; rfl
     ·have : (j == i) = false := by simp [hji]
      rw [this, Ob] at hX;rw [hcl j oj hj hX e he hb]; rfl
   by_cases hw : Region.wanted l1[i] (yielded ops a.tmps) = true
   ·rw [if_pos hw] at hfin ⊢
    exact .inl hfin
   ·rw [if_neg hw] at hfin ⊢
    exact hfin
 have hk0 := key l1.length (Array.replicate ops.size false) a { w with drawn := w.drawn + 1 } (by simp) (by simp [List.count_replicate]) (fun j hj => by
   rw [Ny, Array.getElem?_replicate]
   split <;> rfl) (by
   intro j oj hj hX;rw [Ny, Array.getElem?_replicate] at hX
   split at hX <;> simp at hX) (by
   refine h0 _ (fun j => ?_) _ _ ?_
   ·rw [Ny, Array.getElem?_replicate]
    split <;> rfl
   ·obtain ⟨F, β, fb, mb, ow, hi'⟩ := hi
    exact ⟨F, β, fb, mb, ow, hi'.drew⟩)
 rw [hsize];rw [hsize] at hk0;exact hk0
end
end Go.Eng
end
section
/- Walks of statements of open order in which memory is made, and what is owned is moved. -/
namespace Go.Eng
open Go.RowKit
structure Dl where
 t : Nat
 d : D
 mv : List Nat
 M : List (Nat × Blk)
 b : Bool
def Dl.fr (x : Dl) : List (Nat × D) := (x.t, x.d) :: x.mv.map fun u => (u, D.top)
def Dl.on (x : Dl) (s : St) : St := ⟨x.fr ++ s.fr, x.M ++ s.M⟩
def mrg (xs : List Dl) (X : Nat → Bool) (s : St) : Nat → St
 | 0 => s
 | k + 1 => match xs[k]? with
  | some x => if X k then x.on (mrg xs X s k) else mrg xs X s k
  | none => mrg xs X s k
def onL : List Dl → St → St
 | [], s => s
 | x :: xs, s => onL xs (x.on s)
def inF {α : Type} (l : List (Nat × α)) (u : Nat) : Bool := l.any fun p => p.1 == u
theorem look_app : ∀ (a b : List (Nat × D)) (u : Nat), look (a ++ b) u = if inF a u then look a u else look b u
 | [], b, u => by simp [inF]
 | (k, d) :: a, b, u => by
  rw [Oh, look, look]
  by_cases h : k = u
  ·subst h; simp [inF]
  ·rw [if_neg h, if_neg h, look_app a b u]
   have : inF ((k, d) :: a) u = inF a u := by simp [inF, h]
   rw [this]
theorem lookM_app : ∀ (a b : List (Nat × Blk)) (u : Nat), lookM (a ++ b) u = if inF a u then lookM a u else lookM b u
 | [], b, u => by simp [inF]
 | (k, d) :: a, b, u => by
  rw [Oh, lookM, lookM]
  by_cases h : k = u
  ·subst h; simp [inF]
  ·rw [if_neg h, if_neg h, lookM_app a b u]
   have : inF ((k, d) :: a) u = inF a u := by simp [inF, h]
   rw [this]
theorem It : ∀ (xs : List Dl) (x : Dl) (s : St), onL (xs ++ [x]) s = x.on (onL xs s)
 | [], x, s => rfl
 | y :: xs, x, s => by rw [Oh, onL, It xs x]; rfl
section
variable {xs : List Dl} {X Y : Nat → Bool} {s : St}
theorem CS : ∀ {n : Nat}, n ≤ xs.length → (∀ j, j < n → X j = true) → mrg xs X s n = onL (xs.take n) s
 | 0, _, _ => rfl
 | n + 1, hn, h => by
  rw [mrg, List.getElem?_eq_getElem (by omega)];dsimp only;rw [if_pos (h n (by omega)), CS (by omega) fun j hj => h j (by omega), List.take_add_one, List.getElem?_eq_getElem (by omega)];exact (It _ _ _).symm
theorem Bb {i : Nat} : ∀ {n : Nat}, i ≤ n → (∀ j, i ≤ j → X j = false) → mrg xs X s n = mrg xs X s i
  | 0, hi, _ => by have : i = 0 := by omega
                   subst this; rfl
  | n + 1, hi, h => by
    by_cases e : i = n + 1
    · rw [e]
    · rw [mrg, h n (by omega)]
      have := Bb (n := n) (by omega) h
      cases xs[n]? <;> simpa using this
theorem Es {u : Nat} : ∀ {n : Nat}, (∀ j x, j < n → xs[j]? = some x → inF x.fr u = true → X j = Y j) → look (mrg xs X s n).fr u = look (mrg xs Y s n).fr u
 | 0, _ => rfl
 | n + 1, h => by
  have ih := Es (n := n) fun j x hj => h j x (by omega)
  rw [mrg, mrg]
  cases e : xs[n]? with
  | none => exact ih
  | some x =>
   dsimp only
   cases hx : inF x.fr u with
   | true => rw [h n x (by omega) e hx]; cases Y n <;> simp [Dl.on, look_app, hx, ih]
   | false => cases X n <;> cases Y n <;> simp [Dl.on, look_app, hx, ih]
theorem H5 {u : Nat} : ∀ {n : Nat}, (∀ j x, j < n → xs[j]? = some x → inF x.M u = true → X j = Y j) → lookM (mrg xs X s n).M u = lookM (mrg xs Y s n).M u
 | 0, _ => rfl
 | n + 1, h => by
  have ih := H5 (n := n) fun j x hj => h j x (by omega)
  rw [mrg, mrg]
  cases e : xs[n]? with
  | none => exact ih
  | some x =>
   dsimp only
   cases hx : inF x.M u with
   | true => rw [h n x (by omega) e hx]; cases Y n <;> simp [Dl.on, lookM_app, hx, ih]
   | false => cases X n <;> cases Y n <;> simp [Dl.on, lookM_app, hx, ih]
theorem Ct {i u : Nat} {x : Dl} (hx : xs[i]? = some x) (hX : X i = false) (hu : inF x.fr u = true) : ∀ {n : Nat}, i < n → (∀ j y, j < n → i < j → X j = true → xs[j]? = some y → inF y.fr u = false) →
  look (mrg xs (fun j => X j || j == i) s n).fr u = look x.fr u
 | 0, h, _ => by omega
 | n + 1, h, hno => by
  rw [mrg]
  by_cases e : n = i
  ·subst e
   rw [hx]
   simp [Dl.on, look_app, hu]
  ·have ih := Ct hx hX hu (n := n) (by omega) fun j y hj => hno j y (by omega)
   have hni : (n == i) = false := by simpa using e
   rw [hni, Ob]
   cases e2 : xs[n]? with
   | none => exact ih
   | some y =>
    dsimp only
    cases hXn : X n with
    | false => simpa using ih
    | true =>
     have := hno n y (by omega) (by omega) hXn e2
     simp [Dl.on, look_app, this, ih]
theorem DZ {i u : Nat} {x : Dl} (hx : xs[i]? = some x) (hX : X i = false) (hu : inF x.M u = true) : ∀ {n : Nat}, i < n → (∀ j y, j < n → i < j → X j = true → xs[j]? = some y → inF y.M u = false) →
  lookM (mrg xs (fun j => X j || j == i) s n).M u = lookM x.M u
 | 0, h, _ => by omega
 | n + 1, h, hno => by
  rw [mrg]
  by_cases e : n = i
  ·subst e
   rw [hx]
   simp [Dl.on, lookM_app, hu]
  ·have ih := DZ hx hX hu (n := n) (by omega) fun j y hj => hno j y (by omega)
   have hni : (n == i) = false := by simpa using e
   rw [hni, Ob]
   cases e2 : xs[n]? with
   | none => exact ih
   | some y =>
    dsimp only
    cases hXn : X n with
    | false => simpa using ih
    | true =>
     have := hno n y (by omega) (by omega) hXn e2
     simp [Dl.on, lookM_app, this, ih]
end
def Bn (t : Nat) : Blk → Bool
 | .box cells => !D.has.hasL t cells
 | .pin i _ _ _ => !(i == t)
 | _ => true
def Cl (t : Nat) (s : St) : Prop := (∀ u, (look s.fr u).has t = false) ∧ (∀ id k, lookM s.M id = some k → Bn t k = true) ∧ lookM s.M t = none
theorem IG {t : Nat} {d : D} (h : d.has t = false) : d.kill t = d := by unfold D.kill; rw [h]; rfl
theorem I1 {t : Nat} : ∀ {l : List D}, D.has.hasL t l = false → l.map (D.kill t) = l
 | [], _ => rfl
 | d :: l, h => by
  simp only [D.has.hasL, OK] at h;rw [OV, IG h.1, I1 h.2]
theorem I2 {t : Nat} {k : Blk} (h : Bn t k = true) : k.kill t = k := by
 cases k with
 | box cells => simp only [Bn, ON] at h; simp only [Blk.kill]; rw [I1 h]
 | pin i b n c => simp only [Bn, ON, beq_eq_false_iff_ne] at h; simp only [Blk.kill]; rw [if_neg h]
 | _ => rfl
def JR (t : Nat) (fr : List (Nat × D)) : Bool := fr.all fun p => !p.2.has t
def clM (t : Nat) (M : List (Nat × Blk)) : Bool := M.all fun p => Bn t p.2 && p.1 != t
theorem B1 {t : Nat} : ∀ {fr : List (Nat × D)}, JR t fr = true → ∀ u, (look fr u).has t = false
 | [], _, u => rfl
 | (k, d) :: fr, h, u => by
  simp only [JR, OP, Nv, ON] at h;rw [look];split
  ·exact h.1
  ·exact B1 (by simpa [JR] using h.2) u
theorem BX {t : Nat} : ∀ {M : List (Nat × Blk)}, clM t M = true → (∀ id k, lookM M id = some k → Bn t k = true) ∧ lookM M t = none
 | [], _ => ⟨fun id k h => (by cases h), rfl⟩
 | (k, d) :: M, h => by
  simp only [clM, OP, Nv] at h
  have ih := BX (M := M) (by simpa [clM] using h.2)
  refine ⟨fun id b hb => ?_, ?_⟩
  ·rw [lookM] at hb
   split at hb
   ·cases hb; exact h.1.1
   ·exact ih.1 id b hb
  ·rw [lookM, if_neg (by have := h.1.2; simpa using this)]; exact ih.2
theorem Cl.on {t : Nat} {s : St} {x : Dl} (h : Cl t s) (h1 : JR t x.fr = true) (h2 : clM t x.M = true) : Cl t (x.on s) := by
 refine ⟨fun u => ?_, fun id k hk => ?_, ?_⟩
 ·simp only [Dl.on, look_app]
  split
  ·exact B1 h1 u
  ·exact h.1 u
 ·simp only [Dl.on, lookM_app] at hk
  split at hk
  ·exact (BX h2).1 id k hk
  ·exact h.2.1 id k hk
 ·simp only [Dl.on, lookM_app]
  split
  ·exact (BX h2).2
  ·exact h.2.2
theorem Cl.mrg {t : Nat} {s : St} {xs : List Dl} {X : Nat → Bool} (h : Cl t s) : ∀ {n : Nat}, (∀ j x, j < n → X j = true → xs[j]? = some x → JR t x.fr = true ∧ clM t x.M = true) → Cl t (mrg xs X s n)
 | 0, _ => h
 | n + 1, hx => by
  have ih := Cl.mrg h (n := n) fun j x hj => hx j x (by omega)
  rw [Eng.mrg]
  cases e : xs[n]? with
  | none => exact ih
  | some x =>
   dsimp only
   cases hX : X n with
   | false => simpa using ih
   | true =>
    have := hx n x (by omega) hX e
    simpa using ih.on this.1 this.2
def Jo (ops : Array Oper) (i j : Nat) (oi oj : Oper) (xi xj : Dl) : Bool :=
 (xj.mv.all fun u => !(oi.looksAt ops).contains u && (!xi.mv.contains u && (u != xi.t || (Nat.blt i j && bindsOn oj i)))) &&
 ((xj.M.all fun p => !inF xi.M p.1) && (!xi.b || (JR xi.t xj.fr && clM xi.t xj.M)))
def MR (s : St) (x : Dl) : Bool := (x.M.all fun p => !inF s.M p.1) && (!x.b || (JR x.t s.fr && clM x.t s.M))
def chk (ops : Array Oper) (l : List Oper) (s : St) (xs : List Dl) : Bool :=
 (xs.all (MR s)) && (List.range l.length).all fun i => (List.range l.length).all fun j => i == j || match l[i]?, l[j]?, xs[i]?, xs[j]? with
  | some oi, some oj, some xi, some xj => Jo ops i j oi oj xi xj
  | _, _, _, _ => false
section
variable {P : Program} {c : Ctx} {s : St} {Q : Exit → St → Prop} {ops : Array Oper} {rest : List Oper} {o : Oper}
def AgreeG (ops : Array Oper) (o : Oper) (fr : List (Nat × D)) (M : List (Nat × Blk)) (s' : St) : Prop := (∀ id k, lookM M id = some k → lookM s'.M id = some k) ∧ ∀ u, u ∈ o.looksAt ops → look s'.fr u = look fr u
def QG (P : Program) (c : Ctx) (ops : Array Oper) (M0 : List (Nat × Blk)) : List Oper → St → List Dl → (St → List Dl → Prop) → Prop
 | [], s, acc, Q => Q s acc
 | o :: rest, s, acc, Q => ∃ x : Dl, o.dst = some x.t ∧ (∀ s', AgreeG ops o s.fr M0 s' → (x.b = true → Cl x.t s') → StepTo P c ops o s' (x.on s')) ∧ QG P c ops M0 rest (x.on s) (acc ++ [x]) Q
theorem QG.steps {M0 : List (Nat × Blk)} : ∀ {l : List Oper} {s : St} {acc : List Dl} {Q : St → List Dl → Prop}, QG P c ops M0 l s acc Q → ∃ xs : List Dl, xs.length = l.length ∧ Q (onL xs s) (acc ++ xs) ∧
  ∀ i o, l[i]? = some o → ∃ x, xs[i]? = some x ∧ o.dst = some x.t ∧ ∀ s', AgreeG ops o (onL (xs.take i) s).fr M0 s' → (x.b = true → Cl x.t s') → StepTo P c ops o s' (x.on s')
 | [], s, acc, Q, h => ⟨[], rfl, by rw [OI]; exact h, by simp⟩
 | o :: rest, s, acc, Q, h => by
  obtain ⟨x, h1, h2, h3⟩ := h
  obtain ⟨xs, q1, q2, q3⟩ := QG.steps h3
  refine ⟨x :: xs, by simp [q1], by simpa [onL] using q2, fun i o' hi => ?_⟩
  cases i with
  | zero => simp at hi; subst hi; exact ⟨x, rfl, h1, h2⟩
  | succ i =>
   obtain ⟨y, p1, p2, p3⟩ := q3 i o' (by simpa using hi)
   exact ⟨y, by simpa using p1, p2, by simpa [onL] using p3⟩
theorem Df {l : List Oper} {xs : List Dl} (h : chk ops l s xs = true) {i j : Nat} {oi oj : Oper} {xi xj : Dl} (hij : i ≠ j) (h1 : l[i]? = some oi) (h2 : l[j]? = some oj) (h3 : xs[i]? = some xi) (h4 : xs[j]? = some xj) : Jo ops i j oi oj xi xj = true := by
 unfold chk at h;rw [Nv, N1 (l := List.range l.length)] at h
 have hi := (List.getElem?_eq_some_iff.1 h1).1
 have hj := (List.getElem?_eq_some_iff.1 h2).1
 have := h.2 i (OZ.2 hi)
 rw [N1] at this
 have := this j (OZ.2 hj)
 rw [h1, h2, h3, h4] at this
 simpa [hij] using this
theorem JS {l : List Oper} {xs : List Dl} (h : chk ops l s xs = true) {i : Nat} {x : Dl} (h3 : xs[i]? = some x) : MR s x = true := by
 unfold chk at h;rw [Nv, N1] at h;exact h.1 x (List.mem_of_getElem? h3)
theorem inF_M {M : List (Nat × Blk)} {id : Nat} (h : inF M id = false) : lookM M id = none := by
 induction M with
 | nil => rfl
 | cons p M ih =>
  obtain ⟨k, d⟩ := p
  simp only [inF, List.any_cons, OK, beq_eq_false_iff_ne] at h;rw [lookM, if_neg h.1];exact ih (by simpa [inF] using h.2)
theorem WR_G {l1 l2 : List Oper} {ops : Array Oper} (he : ops = (l1 ++ l2).toArray) (hB : Bw ops l1.length = true) (hT : l2 = [] ∨ EG ops l1.length = true)
  (h : QG P c ops s.M l1 s [] (fun s' xs => chk ops l1 s xs = true ∧ WO P c ops l2 s' Q)) : WR P c ops s Q := by
 obtain ⟨xs, hlen, ⟨hchk, hend⟩, hstep⟩ := h.steps
 simp only [OY] at hchk
 have hops : ∀ j, j < l1.length → ops[j]? = l1[j]? := fun j hj => by subst he; rw [List.getElem?_toArray, List.getElem?_append_left hj]
 refine WR_S he hB hT (fun X => mrg xs X s l1.length) (fun X hX => ?_) (fun X i o ho hXi hcl hdep => ?_) (fun X hX => ?_)
 ·rw [Bb (i := 0) (OU _) fun j _ => hX j]
  exact Le.refl
 ·have hil : i < l1.length := (List.getElem?_eq_some_iff.1 ho).1
  obtain ⟨x, hx, hdst, hst⟩ := hstep i o ho
  have hoi : ops[i]? = some o := (hops i hil).trans ho
  have slot : ∀ {j : Nat} {y : Dl} {u : Nat}, xs[j]? = some y → inF y.fr u = true → u = y.t ∨ u ∈ y.mv := fun {j y u} _ hu => by
   simp only [inF, Dl.fr, List.any_cons, Bool.or_eq_true, beq_iff_eq, List.any_map, Oj, Function.comp] at hu
   rcases hu with hu | ⟨v, hv, hu⟩
   ·exact .inl hu.symm
   ·exact .inr (hu ▸ hv)
  have hag : AgreeG ops o (onL (xs.take i) s).fr s.M (mrg xs X s l1.length) := by
   refine ⟨fun id k hk => ?_, fun u hu => ?_⟩
   ·have : lookM (mrg xs X s l1.length).M id = lookM (mrg xs (fun _ => false) s l1.length).M id := H5 fun j y hj hy hin => by
     have hb := JS hchk hy
     unfold MR at hb;rw [Nv, N1] at hb;unfold inF at hin;rw [Oj] at hin
     obtain ⟨p, hp, he⟩ := hin
     have h1 := hb.1 p hp
     rw [ON] at h1
     have h2 := inF_M h1
     rw [show p.1 = id from by simpa using he] at h2;rw [h2] at hk; cases hk
    rw [this, Bb (i := 0) (OU _) fun j _ => rfl];exact hk
   ·rw [← CS (X := fun j => decide (j < i)) (by omega) (fun j hj => by simpa using hj), ← Bb (X := fun j => decide (j < i)) (i := i) (n := l1.length) (by omega) (fun j hj => by simpa using hj)]
    refine Es fun j y hj hy hin => ?_
    by_cases hje : j = i
    ·subst hje; rw [hXi]; simp
    ·have hlj : l1[j]? = some l1[j] := List.getElem?_eq_getElem hj
     have hoj : ops[j]? = some l1[j] := (hops j hj).trans hlj
     obtain ⟨y', hy', hdj, _⟩ := hstep j _ hlj
     rw [hy] at hy'; cases hy'
     rcases slot hy hin with rfl | hmv
     ·by_cases hji : j < i
      ·simp only [hji, decide_true]
       rcases orderT_spec hB hoj hj i _ hoi hil hji with ⟨e, he, hb, hon⟩ | hap
       ·rw [← hon]; exact hdep e he hb
       ·exact absurd hu ((Oper.apart_spec hap).1 _ hdj)
      ·have hij : i < j := by omega
       rw [show decide (j < i) = false from by simp; omega]
       cases hX : X j with
       | false => rfl
       | true =>
        rcases orderT_spec hB hoi hil j _ hoj hj hij with ⟨e, he, hb, hon⟩ | hap
        ·have := hcl j _ hlj hX e he hb
         rw [hon, hXi] at this; cases this
        ·exact absurd hu ((Oper.apart_spec hap).2.2 _ hdj)
     ·exfalso
      have hp := Df hchk (Ne.symm hje) ho hlj hx hy
      unfold Jo at hp;rw [Nv, N1] at hp
      have := hp.1 u hmv
      rw [Nv, ON] at this
      have h1 := this.1
      rw [List.contains_eq_mem, decide_eq_false_iff_not] at h1;exact h1 hu
  have hcl2 : x.b = true → Cl x.t (mrg xs X s l1.length) := fun hb => by
   refine Cl.mrg ?_ fun j y hj hXj hy => ?_
   ·have := JS hchk hx
    unfold MR at this;rw [hb] at this;simp only [Bool.not_true, Oi, Nv] at this;exact ⟨B1 this.2.1, (BX this.2.2).1, (BX this.2.2).2⟩
   ·have hji : i ≠ j := fun e => by subst e; rw [hXi] at hXj; cases hXj
    have hp := Df hchk hji ho (List.getElem?_eq_getElem hj) hx hy
    unfold Jo at hp;rw [hb] at hp;simp only [Bool.not_true, Oi, Nv] at hp;exact hp.2.2
  intro Q' hQ;refine hst _ hag hcl2 Q' (AI (Le.of (fun u => .inl ?_) (fun u => .inl ?_)) hQ)
  ·simp only [Dl.on, look_app]
   split
   ·rename_i hu
    refine Ct hx hXi hu hil fun j y hj hij hXj hy => ?_
    refine Bool.eq_false_iff.2 fun hin => ?_
    have hlj : l1[j]? = some l1[j] := List.getElem?_eq_getElem hj
    have hoj : ops[j]? = some l1[j] := (hops j hj).trans hlj
    obtain ⟨y', hy', hdj, _⟩ := hstep j _ hlj
    rw [hy] at hy'; cases hy'
    have edge : ∀ e, e ∈ (l1[j]).after → Region.binds .any e = true → e.on = i → False := fun e h1 h2 h3 => by
     have := hcl j _ hlj hXj e h1 h2
     rw [h3, hXi] at this; cases this
    have hp := Df hchk (Nat.ne_of_lt hij) ho hlj hx hy
    have hp2 := Df hchk (Nat.ne_of_gt hij) hlj ho hy hx
    unfold Jo at hp hp2;rw [Nv, N1] at hp hp2
    rcases slot hx hu with rfl | hmi
    ·rcases slot hy hin with e | hmj
     ·rcases orderT_spec hB hoi hil j _ hoj hj hij with ⟨e', h1, h2, h3⟩ | hap
      ·exact edge e' h1 h2 h3
      ·exact (Oper.apart_spec hap).2.1 _ hdst (by rw [hdj, e])
     ·have := hp.1 _ hmj
      simp only [Nv, Bool.or_eq_true, bne_self_eq_false, Bool.false_eq_true, false_or] at this
      obtain ⟨e', h1, h2, h3⟩ := B8 this.2.2.2
      exact edge e' h1 h2 h3
    ·rcases slot hy hin with rfl | hmj
     ·have := hp2.1 _ hmi
      simp only [Nv, Bool.or_eq_true, bne_self_eq_false, Bool.false_eq_true, false_or] at this
      have h3 : j < i := by simpa using this.2.2.1
      omega
     ·have := hp.1 _ hmj
      simp only [Nv, ON, List.contains_eq_mem, decide_eq_false_iff_not] at this;exact this.2.1 hmi
   ·rename_i hu
    refine Es fun j y hj hy hin => ?_
    have : (j == i) = false := by
     rw [beq_eq_false_iff_ne];intro e; subst e; rw [hx] at hy; cases hy; exact hu hin
    rw [this, Ob]
  ·simp only [Dl.on, lookM_app]
   split
   ·rename_i hu
    refine DZ hx hXi hu hil fun j y hj hij hXj hy => ?_
    refine Bool.eq_false_iff.2 fun hin => ?_
    have hp := Df hchk (Nat.ne_of_lt hij) ho (List.getElem?_eq_getElem hj) hx hy
    unfold Jo at hp;rw [Nv, Nv, N1 (l := y.M)] at hp;unfold inF at hin;rw [Oj] at hin
    obtain ⟨p, hp1, hp2⟩ := hin
    have := hp.2.1 p hp1
    rw [show p.1 = u from by simpa using hp2, hu] at this;cases this
   ·rename_i hu
    refine H5 fun j y hj hy hin => ?_
    have : (j == i) = false := by
     rw [beq_eq_false_iff_ne];intro e; subst e; rw [hx] at hy; cases hy; exact hu hin
    rw [this, Ob]
 ·rw [CS (by omega) hX, Nw (by omega)]
  exact hend
theorem LN {id : Nat} {l1 l2 : List Oper} {ops : Array Oper} (hm : P.follows .mixedOrders = true) (he : ops = (l1 ++ l2).toArray) (hB : Bw ops l1.length = true) (hT : l2 = [] ∨ EG ops l1.length = true)
  (h : QG P c ops s.M l1 s [] (fun s' xs => chk ops l1 s xs = true ∧ WO P c ops l2 s' Q)) : W P c (.region id ops true) s Q :=
 Ic hm (WR_G he hB hT h)
end
end Go.Eng
end
section
/- The words in which such statements are walked. -/
namespace Go.Eng
open Go.RowKit
section
variable {P : Program} {c : Ctx} {s : St} {M0 : List (Nat × Blk)} {acc : List Dl} {Q : St → List Dl → Prop} {ops : Array Oper} {rest : List Oper} {o : Oper}
def pl (t : Nat) (d : D) : Dl := ⟨t, d, [], [], false⟩
theorem AgreeG.opd {fr : List (Nat × D)} {s' : St} (h : AgreeG ops o fr M0 s') {x : Operand} (hx : x ∈ o.op.operands) : Eng.opd s'.fr x = Eng.opd fr x := by
 cases x with
 | tmp t =>
  refine h.2 t ?_;unfold Oper.looksAt;exact Oc _ (List.mem_filterMap.2 ⟨.tmp t, by simpa using hx, rfl⟩)
 | _ => rfl
theorem AgreeG.opds {fr : List (Nat × D)} {s' : St} (h : AgreeG ops o fr M0 s') : ∀ {l : List Operand}, (∀ x, x ∈ l → x ∈ o.op.operands) → l.map (Eng.opd s'.fr) = l.map (Eng.opd fr) := fun hl =>
 List.map_congr_left fun x hx => h.opd (hl x hx)
theorem JJ {Γ : Tys} {fr : List (Nat × D)} {s' : St} {d : D} (h : AgreeG ops o fr M0 s') (he : evV Γ ⟨fr, M0⟩ o.op = some d) : evV Γ s' o.op = some d := by
  have hM := h.1
  have ho : ∀ x, x ∈ o.op.operands → Eng.opd s'.fr x = Eng.opd fr x := fun x hx => h.opd hx
  generalize o.op = op at ho he
  cases op with
  | move x => simp only [evV] at he ⊢; rw [ho x (by simp [Op.operands])]; exact he
  | assign x => simp only [evV] at he ⊢; rw [ho x (by simp [Op.operands])]; exact he
  | pick x a b => simp only [evV] at he ⊢; rw [ho x (by simp [Op.operands]), ho a (by simp [Op.operands]), ho b (by simp [Op.operands])]; exact he
  | binOp op ty x y ty' => simp only [evV] at he ⊢; rw [ho x (by simp [Op.operands]), ho y (by simp [Op.operands])]; exact he
  | unOp op ty x => cases op <;> simp only [evV] at he ⊢ <;> first | (rw [ho x (by simp [Op.operands])]; exact he) | exact he
  | fieldAddr ty x k => simp only [evV] at he ⊢; rw [ho x (by simp [Op.operands])]; exact he
  | load ty x =>
    simp only [evV] at he ⊢;rw [ho x (by simp [Op.operands])];split at he
    · rename_i ti hti
      split at he
      · rename_i y off hy; exact he
      · rename_i id off hy
        split at he
        · rename_i cells hc
          rw [hM _ _ hc]; exact he
        · cases he
      · cases he
    · cases he
  | extract x k => simp only [evV] at he ⊢; rw [ho x (by simp [Op.operands])]; exact he
  | makeFunc f first captured =>
    cases f <;> simp only [evV] at he ⊢
    all_goals first
      | exact he
      | (split
         · rename_i hf
           rw [hf] at he;dsimp only at he;rw [← he]
           congr 2
           refine List.map_congr_left fun x hx => ?_
           rw [ho x (by simp only [Op.operands, Array.mem_append]; exact .inr (by simpa using hx))]
         · rename_i hf
           split at he
           · rename_i hf2; exact absurd hf2 (by simpa using hf)
           · exact he)
  | call cc =>
    obtain ⟨cal, args, tys⟩ := cc
    have ho' : ∀ x, x ∈ args.toList → Eng.opd s'.fr x = Eng.opd fr x := fun x hx => ho x (by
      simp only [Op.operands, Call.operands, Array.mem_append]
      exact .inr (by simpa using hx))
    cases cal with
    | builtin b =>
      have e : evV Γ s' (.call ⟨.builtin b, args, tys⟩) = evV Γ ⟨fr, M0⟩ (.call ⟨.builtin b, args, tys⟩) := by
        cases b <;> try rfl
        all_goals
          simp only [evV];split
          · rename_i ha
            first
              | (rw [ho' _ (by rw [ha]; simp)]; done)
              | (rename_i ha' ; rw [ho' _ (by rw [ha']; simp)]; done)
              | (rw [ho' _ (by rw [ha]; simp), ho' _ (by rw [ha]; simp)]; done)
          · rfl
      rw [e]; exact he
    | _ => exact he
  | _ => exact he
theorem GZ {Γ : Tys} {fr : List (Nat × D)} {s' : St} {d : D} (h : AgreeG ops o fr M0 s') (he : evF Γ ⟨fr, M0⟩ o.op = some d) : evF Γ s' o.op = some d := by
 unfold evF at he ⊢
 cases e : evV Γ ⟨fr, M0⟩ o.op with
 | none => rw [e] at he; cases he
 | some d' => rw [e] at he; rw [JJ h e]; exact he
theorem AE (h : Q s acc) : QG P c ops M0 [] s acc Q := h
theorem Ad {Γ : Tys} (hΓ : Γ.ok P) {t : Nat} {d : D} (hg : o.guard = none) (hd : o.dst = some t) (ht : t < c.n) (he : evF Γ ⟨s.fr, M0⟩ o.op = some d) (k : QG P c ops M0 rest ⟨(t, d) :: s.fr, s.M⟩ (acc ++ [pl t d]) Q) : QG P c ops M0 (o :: rest) s acc Q :=
 ⟨pl t d, hd, fun s' ha _ Q h => WO_evF hΓ hg hd ht (GZ ha he) h, k⟩
theorem QG_int {Γ : Tys} (hΓ : Γ.ok P) {t : Nat} {n : Int} (hg : o.guard = none) (hd : o.dst = some t) (ht : t < c.n) (he : evV Γ ⟨s.fr, M0⟩ o.op = some (.t (.int (IntKind.i64.wrap n)))) (hw : IntKind.i64.wrap n = n)
  (k : QG P c ops M0 rest ⟨(t, .t (.int n)) :: s.fr, s.M⟩ (acc ++ [pl t (.t (.int n))]) Q) : QG P c ops M0 (o :: rest) s acc Q :=
 ⟨pl t (.t (.int n)), hd, fun s' ha _ Q h => LR hΓ hg hd ht (JJ ha he) hw h, k⟩
theorem frz_le {t : Nat} {d d' : D} {s : St} (hz : frz d = some d') : Le c ⟨(t, d) :: s.fr, s.M⟩ ⟨(t, d') :: s.fr, s.M⟩ := by
 have h1 : Le c ⟨(t, d) :: s.fr, s.M⟩ ⟨(t, d') :: (t, d) :: s.fr, s.M⟩ := Le.freeze (u := t) (by
  show frz (if t = t then d else look s.fr t) = _
  rw [if_pos rfl]; exact hz)
 refine h1.trans (Le.of (fun u => .inl ?_) (fun u => .inl rfl))
 show (if t = u then d' else look s.fr u) = if t = u then d' else if t = u then d else look s.fr u
 split <;> rfl
theorem Dp {Γ : Tys} (hΓ : Γ.ok P) {t : Nat} {d d' : D} (hg : o.guard = none) (hd : o.dst = some t) (ht : t < c.n) (he : evF Γ ⟨s.fr, M0⟩ o.op = some d) (hz : frz d = some d') (k : QG P c ops M0 rest ⟨(t, d') :: s.fr, s.M⟩ (acc ++ [pl t d']) Q) : QG P c ops M0 (o :: rest) s acc Q :=
 ⟨pl t d', hd, fun s' ha _ Q h => WO_evF hΓ hg hd ht (GZ ha he) (AI (frz_le hz) h), k⟩
theorem D9 {Γ : Tys} (hΓ : Γ.ok P) {ty e t n : Nat} {x ix : Operand} {ti te : TI} {l : List T} {i : Int} (hg : o.guard = none) (hd : o.dst = some t) (ht : t < c.n) (ho : o.op = .indexAddr ty x ix)
  (h1 : A7 Γ ty = some ti) (h2 : ti.kind = .slice e) (h3 : A7 Γ e = some te) (h4 : te.size = n) (hx : opd s.fr x = .t (.list n l)) (hix : opd s.fr ix = .t (.int i))
  (h5 : 0 ≤ i) (y : T) (h6 : l[i.toNat]? = some y)
  (k : QG P c ops M0 rest ⟨(t, .rp y 0) :: s.fr, s.M⟩ (acc ++ [pl t (.rp y 0)]) Q) : QG P c ops M0 (o :: rest) s acc Q :=
 ⟨pl t (.rp y 0), hd, fun s' ha _ Q h => Bi hΓ hg hd ht ho h1 h2 h3 h4 (by rw [ha.opd (by rw [ho]; simp [Op.operands])]; exact hx) (by rw [ha.opd (by rw [ho]; simp [Op.operands])]; exact hix) h5 y h6 h, k⟩
theorem Lc {Γ : Tys} (hΓ : Γ.ok P) {ty e t n id off len : Nat} {x ix : Operand} {ti te : TI} {xs : List T} {i : Int} (hg : o.guard = none) (hd : o.dst = some t) (ht : t < c.n) (ho : o.op = .indexAddr ty x ix)
  (h1 : A7 Γ ty = some ti) (h2 : ti.kind = .slice e) (h3 : A7 Γ e = some te) (h4 : te.size = n) (hx : opd s.fr x = .sl id off len) (hM : lookM M0 id = some (.L n xs)) (hix : opd s.fr ix = .t (.int i))
  (h5 : 0 ≤ i) (h6 : i < len)
  (k : QG P c ops M0 rest ⟨(t, .ref id (off + i.toNat) 0) :: s.fr, s.M⟩ (acc ++ [pl t (.ref id (off + i.toNat) 0)]) Q) : QG P c ops M0 (o :: rest) s acc Q :=
 ⟨pl t (.ref id (off + i.toNat) 0), hd, fun s' ha _ Q h => by
  have := Gn (rest := []) (Q := Q) hΓ hg hd ht ho h1 h2 h3 h4 (s := s') (by rw [ha.opd (by rw [ho]; simp [Op.operands])]; exact hx) (ha.1 _ _ hM) (by rw [ha.opd (by rw [ho]; simp [Op.operands])]; exact hix) h5 h6 h
  exact this, k⟩
theorem Jd {Γ : Tys} (hΓ : Γ.ok P) {ty t id i off n : Nat} {x : Operand} {ti : TI} {xs : List T} {y : T} {d : D} (hg : o.guard = none) (hd : o.dst = some t) (ht : t < c.n) (ho : o.op = .load ty x)
  (h1 : A7 Γ ty = some ti) (hx : opd s.fr x = .ref id i off) (hM : lookM M0 id = some (.L n xs)) (hy : xs[i]? = some y) (hp : Kg ti.kind ti.size (y.cells.map scal) off = some d)
  (k : QG P c ops M0 rest ⟨(t, d) :: s.fr, s.M⟩ (acc ++ [pl t d]) Q) : QG P c ops M0 (o :: rest) s acc Q :=
 ⟨pl t d, hd, fun s' ha _ Q h => CY hΓ hg hd ht ho h1 (by rw [ha.opd (by rw [ho]; simp [Op.operands])]; exact hx) (ha.1 _ _ hM) hy hp h, k⟩
theorem ResL.up {s' : St} {fr : List (Nat × D)} (hM : ∀ id k, lookM M0 id = some k → lookM s'.M id = some k) {ds es : List D} (h : ResL ⟨fr, M0⟩ ds es) : ResL s' ds es := by
 induction h with
 | done => exact .done
 | t _ ih => exact .t ih
 | nil n _ ih => exact .nil n ih
 | nil' _ ih => exact .nil' ih
 | own _ ih => exact .own ih
 | sl h1 h2 _ ih => exact .sl (hM _ _ h1) h2 ih
 | ref h1 _ _ ih1 ih2 => exact .ref (hM _ _ h1) ih1 ih2
 | rp _ ih => exact .rp ih
 | agg _ _ ih1 ih2 => exact .agg ih1 ih2
 | aggT _ _ ih1 ih2 => exact .aggT ih1 ih2
 | clo _ _ ih1 ih2 => exact .clo ih1 ih2
 | top _ ih => exact .top ih
 | raw h1 h2 h3 _ ih => exact .raw (hM _ _ h1) h2 h3 ih
 | rawA h1 h2 _ ih => exact .rawA (hM _ _ h1) h2 ih
 | rawU h1 h2 h3 _ ih => exact .rawU (hM _ _ h1) h2 h3 ih
 | rawS h1 h2 h3 _ ih => exact .rawS (hM _ _ h1) h2 h3 ih
 | ownU _ ih => exact .ownU ih
theorem Ns {t : Nat} {fo : Operand} {args : Array Operand} {tys : Array TypeId} {f : FuncId} {caps es : List D} {r : D} (hg : o.guard = none) (hd : o.dst = some t) (ht : t < c.n)
  (ho : o.op = .call { callee := .value fo, args := args, argTypes := tys }) (hf : opd s.fr fo = .clo f caps) (hes : ResL ⟨s.fr, M0⟩ (args.toList.map (opd s.fr) ++ caps) es) (hc : Fun P f es r) (hn : r.noImm = true)
  (k : QG P c ops M0 rest ⟨(t, r) :: s.fr, s.M⟩ (acc ++ [pl t r]) Q) : QG P c ops M0 (o :: rest) s acc Q :=
 ⟨pl t r, hd, fun s' ha _ Q h => by
  have e1 : opd s'.fr fo = opd s.fr fo := ha.opd (by rw [ho]; simp [Op.operands, Call.operands])
  have e2 : args.toList.map (opd s'.fr) = args.toList.map (opd s.fr) := ha.opds fun x hx => by
   rw [ho];simp only [Op.operands, Call.operands, Array.mem_append];exact .inr (by simpa using hx)
  exact Ba hg hd ht ho (by rw [e1]; exact hf) (by rw [e2]; exact hes.up ha.1) hc hn h, k⟩
theorem LH {t : Nat} {fo : Operand} {args : Array Operand} {tys : Array TypeId} {f : FuncId} {caps es : List D} {cs : List (Nat × Nat)} (h : ∃ r : D, Fun P f es r ∧ r.noImm = true ∧ QG P c ops M0 rest ⟨(t, r) :: s.fr, s.M⟩ (acc ++ [pl t r]) Q)
  (hg : o.guard = none := by exact rfl) (hd : o.dst = some t := by exact rfl) (ht : t < c.n := by exact AA rfl) (ho : o.op = .call { callee := .value fo, args := args, argTypes := tys } := by exact rfl) (hf : opd s.fr fo = .clo f caps := by exact rfl)
  (hes : G8 ⟨s.fr, M0⟩ (args.toList.map (opd s.fr) ++ caps) = some (es, cs) := by exact rfl) (hcs : AllEq cs := by repeat (first | exact AllEq.nil' | refine AllEq.cons' (by first | rfl | (simp; done) | (simp; omega) | omega) ?_)) : QG P c ops M0 (o :: rest) s acc Q := by
 obtain ⟨r, hc, hn, k⟩ := h
 exact Ns hg hd ht ho hf (CF hes hcs) hc hn k
theorem Cu {t u : Nat} (h : u ≠ t) : ∀ (M : List (Nat × Blk)), lookM (dropM (some t) M) u = lookM M u
 | [] => rfl
 | (k, d) :: M => by
  have ih := Cu h M
  simp only [dropM] at ih ⊢;rw [List.filter_cons]
  by_cases hk : k = t
  ·subst hk
   simp only [bne_self_eq_false, Bool.false_eq_true, if_false];rw [ih, lookM, if_neg (Ne.symm h)]
  ·rw [if_pos (by simpa using hk), lookM, lookM, ih]
theorem Bq {t : Nat} : ∀ (M : List (Nat × Blk)), lookM (dropM (some t) M) t = none
 | [] => rfl
 | (k, d) :: M => by
  have ih := Bq (t := t) M
  simp only [dropM] at ih ⊢;rw [List.filter_cons]
  by_cases hk : k = t
  ·subst hk; simpa using ih
  ·rw [if_pos (by simpa using hk), lookM, if_neg hk, ih]
theorem IT {t : Nat} {s : St} (h : Cl t s) (u : Nat) : look (killF t s.fr) u = look s.fr u := by rw [BS, IG (h.1 u)]
theorem JQ {t : Nat} {s : St} (h : Cl t s) (u : Nat) : lookM (killM t s.M) u = lookM s.M u := by
 rw [BR]
 cases e : lookM s.M u with
 | none => rfl
 | some k => rw [Option.map_some, I2 (h.2.1 u k e)]
theorem NF {t n len : Nat} {xs : List T} {ms : List Nat} {s : St} (hc : Cl t s) (hl : len = xs.length) :
  Le c ⟨(t, .sl t 0 len) :: KC ms (killF t s.fr), (t, .L n xs) :: killM t s.M⟩ ⟨(t, .own (.list n xs)) :: (ms.map fun u => (u, D.top)) ++ s.fr, s.M⟩ := by
 subst hl;refine (Le.gather (u := t) (id := t) (n := n) (len := xs.length) (xs := xs) (by simp [look]) (by simp [lookM]) (OJ _)).trans (Le.of (fun u => ?_) (fun id => .inl ?_))
 ·rw [OH]
  rw [Oh, look, look]
  by_cases hu : t = u
  ·rw [if_pos hu, if_pos hu]; exact .inl rfl
  ·rw [if_neg hu, if_neg hu, look, if_neg hu]
   unfold KC;rw [look_app, look_app, IT hc];exact .inl rfl
 ·by_cases hid : id = t
  ·subst hid; rw [Bq, hc.2.2]
  ·rw [Cu hid, lookM, if_neg (Ne.symm hid), JQ hc]
theorem PartsOk.look {n : Nat} {fr fr' : List (Nat × D)} : ∀ {xs : List Operand} {ys : List T}, (∀ x, x ∈ xs → opd fr' x = opd fr x) → PartsOk fr n xs ys → PartsOk fr' n xs ys
 | [], [], _, h => h
 | [], _ :: _, _, h => h
 | _ :: _, [], _, h => h
 | x :: xs, y :: ys, hx, h => by
  obtain ⟨⟨ds, h1, h2, h3⟩, h4⟩ := h
  exact ⟨⟨ds, by rw [hx x (OG ..)]; exact h1, h2, h3⟩, h4.look fun z hz => hx z (OE _ hz)⟩
theorem Et {fr fr' : List (Nat × D)} {xs : List Operand} (hx : ∀ x, x ∈ xs → opd fr' x = opd fr x) : Ai fr' xs = Ai fr xs := by
 unfold Ai
 induction xs with
 | nil => rfl
 | cons x xs ih => rw [List.filterMap_cons, List.filterMap_cons, hx x (OG ..), ih fun y hy => hx y (OE _ hy)]
theorem Gr {Γ : Tys} (hΓ : Γ.ok P) {ty e t len : Nat} {parts : Array (Nat × Operand)} {ti te : TI} (ys : List T) {ms : List Nat} (hg : o.guard = none) (hd : o.dst = some t) (ht : t < c.n) (ho : o.op = .buildSlice ty len parts)
  (h1 : A7 Γ ty = some ti) (h2 : ti.kind = .slice e) (h3 : A7 Γ e = some te) (hp : parts.toList.map (·.1) = List.range len) (hl : len * te.size ≤ 16777216)
  (hy : PartsOk s.fr te.size (parts.toList.map (·.2)) ys) (hms : Ai s.fr (parts.toList.map (·.2)) = ms) (hm : ms.Nodup) (hzs : te.zero.length = te.size) (hpos : 0 < te.size)
  (kk : QG P c ops M0 rest ⟨(t, .own (.list te.size ys)) :: ((ms.map fun u => (u, D.top)) ++ s.fr), s.M⟩ (acc ++ [⟨t, .own (.list te.size ys), ms, [], true⟩]) Q) : QG P c ops M0 (o :: rest) s acc Q :=
 ⟨⟨t, .own (.list te.size ys), ms, [], true⟩, hd, fun s' ha hc Q h => by
  have hop : ∀ x, x ∈ parts.toList.map (·.2) → opd s'.fr x = opd s.fr x := fun x hx => ha.opd (by
   rw [ho];simp only [Op.operands]
   simpa using hx)
  have e : Ai s'.fr (parts.toList.map (·.2)) = ms := by rw [Et hop]; exact hms
  refine Dj hΓ ys hg hd ht ho h1 h2 h3 hp hl (hy.look hop) (by rw [e]; exact hm) hzs hpos ?_;rw [e]
  exact AI (NF (hc rfl) rfl) h, kk⟩
theorem Lb {l : List Oper} {s' : St} (h : B6 s = some s') (k : QG P c ops M0 l s' acc Q) : QG P c ops M0 l s acc Q := by rw [CH h]; exact k
theorem KM {id : Nat} {ops : Array Oper} {Q : Exit → St → Prop} (hm : P.follows .mixedOrders = true) (hB : Bw ops ops.size = true)
  (h : QG P c ops s.M ops.toList s [] (fun s' xs => chk ops ops.toList s xs = true ∧ WO P c ops [] s' Q)) : W P c (.region id ops true) s Q :=
 LN (l1 := ops.toList) (l2 := []) hm (by simp) (by rw [OD]; exact hB) (.inl rfl) h
end
end Go.Eng
end
section
/- Structs that are put together out of their fields, and slices that grow in a statement of open order. -/
namespace Go.Eng
open Go.RowKit
def Dv {α : Type} (offs : List Nat) : List (Nat × α) → List α → List α
 | [], l => l
 | (i, v) :: ps, l => Dv offs ps (l.set (offs.getD i 0) v)
def setsOk (offs : List Nat) : List (Nat × D) → List D → Bool
 | [], _ => true
 | (i, d) :: ps, l => Nat.blt i offs.length && (d.one && ((match l[offs.getD i 0]? with | some e => e.free | none => false) && setsOk offs ps (l.set (offs.getD i 0) d)))
section
variable {P : Program} {c : Ctx} {s : St} {Q : Exit → St → Prop} {ops : Array Oper} {rest : List Oper} {o : Oper}
theorem MO {v : Value} (h : v.oneCell' = true) : v.cells = #[v] := by cases v <;> first | rfl | cases h
theorem Lz {w : World} {F : Nat → Prop} {β : Ag} {v : Value} {d : D} {bs : List Nat} (h : RelD w F β [v] [d] bs) (hd : d.one = true) : v.cells = #[v] ∧ v.oneCell' = true := by
 have key : v.oneCell' = true := by
  cases h with
  | t hx _ => cases hx with
   | v h _ => exact h
   | none _ => rfl
   | list _ _ _ _ _ _ _ => rfl
   | sub h _ => have e := relL_one' h; simpa using e
  | tagg _ _ => simp [D.one] at hd
  | nil _ => rfl
  | agg _ _ _ => simp [D.one] at hd
  | ref _ _ => rfl
  | sl _ _ _ _ _ => rfl
  | slnil _ _ => rfl
  | rp _ _ _ _ _ => rfl
  | clo _ _ => rfl
  | tup _ _ => simp [D.one] at hd
  | own hx _ => cases hx with
   | v h _ => exact h
   | none _ => rfl
   | list _ _ _ _ _ _ _ _ => rfl
   | sub _ _ _ _ _ _ _ _ _ => rfl
  | top _ => simp [D.one] at hd
 exact ⟨MO key, key⟩
theorem Ip {w : World} {F : Nat → Prop} {β : Ag} {v : Value} {d : D} {b1 : List Nat} (h1 : RelD w F β [v] [d] b1) : ∀ {vs ds bs} (j : Nat), RelD w F β vs ds bs → (match ds[j]? with | some e => e.free | none => false) = true → ∃ bs', RelD w F β (vs.set j v) (ds.set j d) bs' ∧ bs'.Perm (b1 ++ bs)
 | [], [], _, j, _, h => by simp at h
 | [], _ :: _, _, _, h, _ => by cases h
 | _ :: _, [], _, _, h, _ => by cases h
 | x :: vs, e :: ds, bs, 0, hr, h => by
  obtain ⟨b2, b3, q1, q2, rfl⟩ := hr.cons
  have := q1.free1 (by simpa using h)
  subst this;exact ⟨b1 ++ b3, RelD.cons' h1 q2, List.Perm.refl _⟩
 | x :: vs, e :: ds, bs, j + 1, hr, h => by
  obtain ⟨b2, b3, q1, q2, rfl⟩ := hr.cons
  obtain ⟨bs', q3, q4⟩ := Ip h1 j q2 (by simpa using h)
  refine ⟨b2 ++ bs', RelD.cons' q1 q3, ?_⟩;refine (List.Perm.append_left b2 q4).trans ?_;rw [← OA, ← OA];exact List.Perm.append_right b3 List.perm_append_comm
theorem HE {a : Act} {w : World} {F β fb mb ow} (hi : Conc c s a w F β fb mb ow) {offs : List Nat} : ∀ {ps : List (Nat × Operand)} {vs : List Value} {ds : List D} {bs : List Nat}, RelD w F β vs ds bs → bs.Nodup → (∀ b, b ∈ bs → ∀ u, ow b = some (.inl u) → u ∉ Ai s.fr (ps.map (·.2))) →
  setsOk offs (ps.map fun p => (p.1, opd s.fr p.2)) ds = true → (Ai s.fr (ps.map (·.2))).Nodup →
  ∃ bs', RelD w F β (Dv offs (ps.map fun p => (p.1, a.eval p.2)) vs) (Dv offs (ps.map fun p => (p.1, opd s.fr p.2)) ds) bs' ∧ bs'.Nodup ∧ (∀ b, b ∈ bs' → b ∈ bs ∨ ∃ u, ow b = some (.inl u) ∧ u ∈ Ai s.fr (ps.map (·.2))) ∧
   (∀ p, p ∈ ps → (a.eval p.2).cells = #[a.eval p.2] ∧ (a.eval p.2).oneCell' = true ∧ p.1 < offs.length)
 | [], vs, ds, bs, hr, hn, _, _, _ => ⟨bs, hr, hn, fun b hb => .inl hb, by simp⟩
 | (i, x) :: ps, vs, ds, bs, hr, hn, hbs, hok, hm => by
  simp only [OV, setsOk, Nv] at hok
  obtain ⟨h0, h1, h2, h3⟩ := hok
  obtain ⟨b1, hr1, hn1, hb1⟩ := hi.opdOwn x
  obtain ⟨bs1, q1, q2⟩ := Ip hr1 _ hr h2
  have hmc : Ai s.fr (((i, x) :: ps).map (·.2)) = Ai s.fr [x] ++ Ai s.fr (ps.map (·.2)) := by
   unfold Ai;rw [OV, ← List.filterMap_append];rfl
  rw [hmc] at hm hbs
  have hb1' : ∀ b, b ∈ b1 → ∃ u, ow b = some (.inl u) ∧ u ∈ Ai s.fr [x] := fun b hb => by
   obtain ⟨y, hy, he, u, rfl, rfl⟩ := hb1 b hb
   refine ⟨u, hy, ?_⟩;unfold Ai;rw [List.filterMap_cons, if_neg (by rw [he]; simp)]
   simp
  obtain ⟨hm1, hm2, hm3⟩ := N5.1 hm
  have hn2 : bs1.Nodup := by
   refine q2.nodup_iff.2 (N5.2 ⟨hn1, hn, fun b hb b' hb' e => ?_⟩);subst e
   obtain ⟨u, hu, hu2⟩ := hb1' b hb
   exact hbs b hb' u hu (Oc _ hu2)
  obtain ⟨bs', r1, r2, r3, r4⟩ := HE hi q1 hn2 (fun b hb u hu => by
   rcases N3.1 (q2.mem_iff.1 hb) with hb | hb
   ·obtain ⟨u', hu', hu2⟩ := hb1' b hb
    rw [hu] at hu'; cases hu'
    exact fun h => hm3 u hu2 u h rfl
   ·exact fun h => hbs b hb u hu (List.mem_append_right _ h)) h3 hm2
  refine ⟨bs', r1, r2, fun b hb => ?_, fun p hp => ?_⟩
  ·rcases r3 b hb with h | ⟨u, hu, hu2⟩
   ·rcases N3.1 (q2.mem_iff.1 h) with h | h
    ·obtain ⟨u, hu, hu2⟩ := hb1' b h
     exact .inr ⟨u, hu, by rw [hmc]; exact Oc _ hu2⟩
    ·exact .inl h
   ·exact .inr ⟨u, hu, by rw [hmc]; exact List.mem_append_right _ hu2⟩
  ·rcases N6.1 hp with rfl | hp
   ·obtain ⟨p1, p2⟩ := Lz hr1 h1
    exact ⟨p1, p2, by simpa using h0⟩
   ·exact r4 p hp
theorem Ha {places : Array (Nat × Nat)} {offs : List Nat} (hpl : ∀ i, i < offs.length → places[i]? = some (offs.getD i 0, 1)) : ∀ (ps : List (Nat × Value)) (cells : List Value), (∀ p, p ∈ ps → p.2.cells = #[p.2] ∧ p.1 < offs.length) → (∀ i, i < offs.length → offs.getD i 0 < cells.length) →
  Instr.fill (places[·]?) cells.toArray ps = some (Dv offs ps cells).toArray
 | [], cells, _, _ => rfl
 | (i, v) :: ps, cells, h, hb => by
  obtain ⟨h1, h2⟩ := h _ (OG ..)
  dsimp only at h1 h2
  have hbi := hb i h2
  rw [OB] at hbi;rw [Instr.fill, hpl i h2];dsimp only;rw [h1];rw [if_neg (by simp; omega)]
  have e : (#[v].zipIdx.foldl (fun cs (x : Value × Nat) => cs.setIfInBounds (offs.getD i 0 + x.2) x.1) cells.toArray) = (cells.set (offs.getD i 0) v).toArray := by simp
  rw [e, Dv];exact Ha hpl ps _ (fun p hp => h p (OE _ hp)) (by simpa using hb)
def F9 (P : Program) (ty : Nat) : Bool := match P.underlying ty with
 | some (.struct fs) => fs.toList.all fun f => match P.info? f.type with | some i => i.size == 1 | none => false
 | _ => false
theorem Jl {w : World} {fs : List Field} (h : (fs.all fun f => match P.info? f.type with | some i => i.size == 1 | none => false) = true) :
  (fs.mapM fun f => (do pure (f.offset, ← sizeOf f.type) : Sem (Nat × Nat))).run P w = .ok (fs.map fun f => (f.offset, 1)) w := by
 induction fs with
 | nil => simp
 | cons f fs ih =>
  rw [OP, Nv] at h
  have h1 := h.1
  cases hf : P.info? f.type with
  | none => rw [hf] at h1; cases h1
  | some i =>
   rw [hf] at h1
   have hs : i.size = 1 := by simpa using h1
   have hsz : (sizeOf f.type).run P w = .ok 1 w := by simp [sizeOf, typeInfo, hf, hs]
   rw [List.mapM_cons];simp only [N8, hsz, N2, OS, ih h.2, OV]
theorem Conc.putOwn {a : Act} {w : World} {F β fb mb ow} (hi : Conc c s a w F β fb mb ow) {t : Nat} (ht : t < c.n) {v : Value} {d : D} {bs ms : List Nat} (hr : RelD w F β [v] [d] bs) (hn : bs.Nodup) (hb : ∀ b, b ∈ bs → ∃ u, ow b = some (.inl u) ∧ u ∈ ms) :
  Is c ⟨(t, d) :: KC ms s.fr, s.M⟩ (a.put (some t) v) w := by
 refine ⟨F, β, fun x => if t = x then bs else if x ∈ ms then [] else fb x, mb, fun b => if b ∈ bs then some (.inl t) else ow b, ?_⟩
 exact { hi with
  fr := fun x => by
   rw [Bs _ _ _ _ (by rw [hi.tmps]; exact ht)];simp only [look];split
   ·exact hr
   ·have := look_eatL ms s.fr x
    rcases this with ⟨h1, h2⟩ | h1
    ·rw [h1, if_neg h2]; exact hi.fr x
    ·rw [h1]
     by_cases hx : x ∈ ms
     ·rw [if_pos hx]; exact .top .done
     ·rw [if_neg hx]
      have e : look (KC ms s.fr) x = look s.fr x := by
       clear h1 hb
       induction ms with
       | nil => rfl
       | cons m ms ih =>
        rw [N6, not_or] at hx;simp only [KC, OV, Oh, look];rw [if_neg (Ne.symm hx.1)];exact ih hx.2
      rw [← h1, e]; exact hi.fr x
  ofr := fun x b h => by
   split at h
   ·rename_i e; subst e; rw [if_pos h]
   ·split at h
    ·cases h
    ·rename_i h1 h2
     have h3 := hi.ofr x b h
     rw [if_neg (fun h4 => ?_)]
     ·exact h3
     ·obtain ⟨u, hu, hu2⟩ := hb b h4
      rw [h3] at hu; cases hu; exact h2 hu2
  omem := fun id b h => by
   have h3 := hi.omem id b h
   rw [if_neg (fun h4 => ?_)]
   ·exact h3
   ·obtain ⟨u, hu, _⟩ := hb b h4
    rw [h3] at hu; cases hu
  nfr := fun x => by
   split
   ·exact hn
   ·split
    ·simp
    ·exact hi.nfr x
  own := fun b h => by
   split at h
   ·rename_i h4
    obtain ⟨u, hu, _⟩ := hb b h4
    exact hi.own b (by rw [hu]; simp)
   ·exact hi.own b h
  defers := (BT a _ _).trans hi.defers
  tmps := (B4 a _ _).trans hi.tmps }
def Fj {α : Type} : List Nat → (List Nat → Option α) → Option α
 | [], k => k []
 | x :: xs, k => Fj xs fun ys => k (x :: ys)
theorem DR {α : Type} : ∀ (l : List Nat) (k : List Nat → Option α), Fj l k = k l
 | [], _ => rfl
 | x :: l, k => by rw [Fj, DR]
def Fp : List Nat → Bool
 | [] => true
 | x :: xs => !xs.elem x && Fp xs
theorem nodupB_sound : ∀ {l : List Nat}, Fp l = true → l.Nodup
 | [], _ => List.nodup_nil
 | x :: l, h => by
  simp only [Fp, Nv, ON] at h;refine N7.2 ⟨fun hx => ?_, nodupB_sound h.2⟩
  have := h.1
  simp [hx] at this
theorem F3 {Γ : Tys} (hΓ : Γ.ok P) {ty t : Nat} {parts : Array (Nat × Operand)} {ti : TI} {offs : List Nat} {cells : List D} {ms : List Nat} (hg : o.guard = none) (hd : o.dst = some t) (ht : t < c.n) (ho : o.op = .build ty parts)
  (h1 : A7 Γ ty = some ti) (h2 : ti.kind = .agg offs) (h3 : F9 P ty = true) (h4 : (offs.all fun k => Nat.blt k ti.zero.length) = true) (h4' : ti.zero.all (·.oneCell') = true) (h5 : setsOk offs (parts.toList.map fun p => (p.1, opd s.fr p.2)) (ti.zero.map Bl) = true)
  (h6 : Dv offs (parts.toList.map fun p => (p.1, opd s.fr p.2)) (ti.zero.map Bl) = cells) (hms : Ai s.fr (parts.toList.map (·.2)) = ms) (hm : ms.Nodup)
  (kk : WO P c ops rest ⟨(t, .agg cells) :: KC ms s.fr, s.M⟩ Q) : WO P c ops (o :: rest) s Q := by
 subst hms h6
 rintro a w ⟨F, β, fb, mb, ow, hi⟩
 obtain ⟨⟨i, z, q1, q2, q3, q4, q5⟩, hk⟩ := hΓ.get h1
 rw [h2] at hk
 obtain ⟨fs, hu, hoffs, _⟩ := hk
 unfold F9 at h3;rw [hu] at h3;dsimp only at h3
 obtain ⟨bs', r1, r2, r3, r4⟩ := HE hi (offs := offs) (ps := parts.toList) (DI (w := w) (F := F) (β := β) ti.zero) List.nodup_nil (by simp) h5 hm
 have hzv : (zeroValue ty).run P w = .ok z w := by simp [zeroValue, typeInfo, q1, q4]
 have hpl : (fs.mapM fun f => (do pure (f.offset, ← sizeOf f.type) : Sem (Nat × Nat))).run P w = .ok (fs.map fun f => (f.offset, 1)) w := by
  rw [Array.mapM_eq_mapM_toList];simp only [Sem.run_map, Jl h3];simp only [N2, OS]
  have e : (fs.toList.map fun f => (f.offset, 1)).toArray = fs.map fun f => (f.offset, 1) := by apply Array.ext'; simp
  rw [← e]
 have hfill : Instr.fill ((fs.map fun f => (f.offset, 1))[·]?) z.cells (parts.toList.map fun p => (p.1, a.eval p.2)) = some (Dv offs (parts.toList.map fun p => (p.1, a.eval p.2)) ti.zero).toArray := by
  have := Ha (places := fs.map fun f => (f.offset, 1)) (offs := offs) (fun i hi => by
   subst hoffs;simp only [N0, OD] at hi
   simp [hi]) (parts.toList.map fun p => (p.1, a.eval p.2)) ti.zero (fun p hp => by
    obtain ⟨q, hq, rfl⟩ := List.mem_map.1 hp
    exact ⟨(r4 q hq).1, (r4 q hq).2.2⟩) (fun i hi => by
    rw [N1] at h4
    have := h4 (offs.getD i 0) (by rw [OB, List.getElem?_eq_getElem hi]; exact N9 hi)
    simpa using this)
  rwa [← q5, Array.toArray_toList, q5] at this
 have hrun : (execOp a.eval o).run P w = .ok (.value (.agg (Dv offs (parts.toList.map fun p => (p.1, a.eval p.2)) ti.zero).toArray)) w := by
  simp only [execOp, ho, Instr.build, N8, hzv, N2, run_underlying hu, hpl];rw [show (parts.map fun (x : Nat × Operand) => (x.1, a.eval x.2)).toList = parts.toList.map fun p => (p.1, a.eval p.2) from by simp];rw [hfill];rfl
 have hone : (Dv offs (parts.toList.map fun p => (p.1, a.eval p.2)) ti.zero).all (·.oneCell') = true := by
  have key : ∀ (ps : List (Nat × Value)) (l : List Value), l.all (·.oneCell') = true → (∀ p, p ∈ ps → p.2.oneCell' = true) → (Dv offs ps l).all (·.oneCell') = true := by
   intro ps
   induction ps with
   | nil => intro l h _; exact h
   | cons p ps ih =>
    intro l h hp
    refine ih _ ?_ fun q hq => hp q (OE _ hq)
    rw [N1] at h ⊢;intro x hx
    rcases List.mem_or_eq_of_mem_set hx with hx | rfl
    ·exact h x hx
    ·exact hp p (OG ..)
  refine key _ _ h4' fun p hp => ?_
  obtain ⟨q, hq, rfl⟩ := List.mem_map.1 hp
  exact (r4 q hq).2.1
 refine wpList_plain hg fun K hK => ?_
 unfold Oper.wp;rw [hrun, Oper.upon_value, hd];refine hK _ _ (kk _ _ (hi.putOwn ht (bs := bs') ?_ r2 fun b hb => (r3 b hb).resolve_left (by simp)))
 have := RelD.agg (arr := (Dv offs (parts.toList.map fun p => (p.1, a.eval p.2)) ti.zero).toArray) (by simpa using hone) (by simpa using r1) (RelD.done (w := w) (F := F) (β := β))
 simpa using this
theorem AN {Γ : Tys} (hΓ : Γ.ok P) {ty t : Nat} {parts : Array (Nat × Operand)} {ti : TI} {offs : List Nat} {cells : List D} {ms : List Nat} (hg : o.guard = none) (hd : o.dst = some t) (ht : t < c.n) (ho : o.op = .build ty parts)
  (h1 : A7 Γ ty = some ti) (h2 : ti.kind = .agg offs) (h3 : F9 P ty = true) (h4 : (offs.all fun k => Nat.blt k ti.zero.length) = true) (h4' : ti.zero.all (·.oneCell') = true) (h5 : setsOk offs (parts.toList.map fun p => (p.1, opd s.fr p.2)) (ti.zero.map Bl) = true)
  (h6 : CC (Dv offs (parts.toList.map fun p => (p.1, opd s.fr p.2)) (ti.zero.map Bl)) some = some cells) (hms : Fj (Ai s.fr (parts.toList.map (·.2))) some = some ms) (hm : Fp ms = true)
  (kk : WO P c ops rest ⟨(t, .agg cells) :: KC ms s.fr, s.M⟩ Q) : WO P c ops (o :: rest) s Q := by
 rw [spineD_eq] at h6;rw [DR] at hms;cases h6; cases hms;exact F3 hΓ hg hd ht ho h1 h2 h3 h4 h4' h5 rfl rfl (nodupB_sound hm) kk
theorem J4 {w : World} {F : Nat → Prop} {β : Ag} {x : Value} {b0 mb : List Nat} {id n len : Nat} {xs : List T} (hr : RelD w F β [x] [.sl id 0 len] b0) (hm : RelB w F β id (.L n xs) mb) (hnd : mb.Nodup) (hl : len ≤ xs.length) :
  ∃ bs, OwnL w [x] [.list n (xs.take len)] bs ∧ bs.Nodup ∧ ∀ b, b ∈ bs → b ∈ mb := by
 have hml : (xs.take len).length = len := by simp; omega
 rcases hm with ⟨r1, r2, r3⟩ | ⟨b, cap, arr, e', bs', r1, r2, r3, r4, r5, r6, r7, r8⟩
 ·subst r2
  cases hr with
  | slnil _ _ => exact ⟨[], by simpa using OwnL.none .nil, by simp, by simp⟩
  | sl p1 _ _ _ _ => rw [r1] at p1; cases p1
 ·cases hr with
  | slnil p1 _ => rw [r1] at p1; cases p1
  | @sl _ _ _ ad _ _ _ k' _ _ _ p1 p2 p3 p4 _ =>
   rw [r1] at p1;cases p1
   have hkc : k' = cap := by omega
   subst hkc
   by_cases h0 : k' = 0
   ·subst h0
    have : len = 0 := by omega
    subst this;exact ⟨[], by simpa using OwnL.none .nil, by simp, by simp⟩
   ·obtain ⟨c1, c2, hc, ho1, _⟩ := r7.split (len * n)
    rw [Bf r4, List.take_take, Nat.min_eq_left (Nat.mul_le_mul_right _ hl)] at ho1;rw [r8, hc] at hnd
    have had := p4 h0
    simp only [Nat.zero_mul] at had;subst had;refine ⟨b :: c1, ?_, N7.2 ⟨fun h => (N7.1 hnd).1 (by simp [h]), (N5.1 (N7.1 hnd).2).1⟩, fun b' hb' => by rw [r8, hc]; rcases N6.1 hb' with rfl | h <;> simp [*]⟩
    have := OwnL.list (xs := xs.take len) (n := n) (cap := k') r2 r3 (by rw [hml]) (fun x hx => r4 x (OX hx)) (by rw [hml]; exact p2) r6 ho1 .nil
    rw [hml] at this
    simpa using this
theorem Io {w : World} {F : Nat → Prop} {β : Ag} {d e : D} (he : e.free = true) : ∀ {vs ds bs} (j : Nat), RelD w F β vs ds bs → ds[j]? = some e → ∃ v, RelD w F β [v] [e] [] ∧ ∀ b1, RelD w F β [v] [d] b1 → ∃ bs', RelD w F β vs (ds.set j d) bs' ∧ bs'.Perm (b1 ++ bs)
 | [], [], _, j, _, h => by simp at h
 | [], _ :: _, _, _, h, _ => by cases h
 | _ :: _, [], _, _, h, _ => by cases h
 | x :: vs, y :: ds, bs, 0, hr, h => by
  obtain ⟨b2, b3, q1, q2, rfl⟩ := hr.cons
  simp at h
  subst h
  have := q1.free1 he
  subst this;exact ⟨x, q1, fun b1 h1 => ⟨b1 ++ b3, RelD.cons' h1 q2, List.Perm.refl _⟩⟩
 | x :: vs, y :: ds, bs, j + 1, hr, h => by
  obtain ⟨b2, b3, q1, q2, rfl⟩ := hr.cons
  obtain ⟨v, q3, q4⟩ := Io he j q2 (by simpa using h)
  refine ⟨v, q3, fun b1 h1 => ?_⟩
  obtain ⟨bs', q5, q6⟩ := q4 b1 h1
  refine ⟨b2 ++ bs', RelD.cons' q1 q5, ?_⟩;refine (List.Perm.append_left b2 q6).trans ?_;rw [← OA, ← OA];exact List.Perm.append_right b3 List.perm_append_comm
theorem Le.gatherBoxG {u id j : Nat} {d : D} {y : T} {kb : Blk} {cells : List D} (hd : d.free = true) (hB : lookM s.M u = some (.box cells)) (h1 : cells[j]? = some d) (hM : lookM s.M id = some kb) (hne : (id == u) = false)
  (key : ∀ {w : World} {F : Nat → Prop} {β : Ag} {v : Value} {bs : List Nat}, RelD w F β [v] [d] [] → RelB w F β id kb bs → bs.Nodup → ∃ bs', OwnL w [v] [y] bs' ∧ bs'.Nodup ∧ ∀ b, b ∈ bs' → b ∈ bs) :
  Le c s ⟨s.fr, (u, .box (cells.set j (.own y))) :: dropM (some id) s.M⟩ := by
 classical
 have hne' : ¬ id = u := by simpa using hne
 rintro a w ⟨F, β, fb, mb, ow, hi⟩
 have hb := hi.mem u
 rw [hB] at hb
 obtain ⟨b0, arr, e0, bs0, p1, p2, p3, p4, p5⟩ := hb
 have hm := hi.mem id
 rw [hM] at hm
 obtain ⟨v, hv, hup⟩ := Io (d := .own y) hd j p3 h1
 obtain ⟨bs, k1, k2, k3⟩ := key hv hm (hi.nmem id)
 obtain ⟨bs', r1, r2⟩ := hup bs (by simpa using RelD.own (F := F) (β := β) k1 .done)
 have hbo : ∀ b, b ∈ bs → ow b = some (.inr id) := fun b h => hi.omem id b (k3 b h)
 have hmu : ∀ b, b ∈ mb u → ow b = some (.inr u) := fun b h => hi.omem u b h
 have hdis : ∀ b, b ∈ bs → b ∉ mb u := fun b h h' => by have := hbo b h; rw [hmu b h'] at this; cases this; exact hne' rfl
 refine ⟨F, β, fb, fun i => if i = u then b0 :: bs' else if i = id then [] else if lookM (dropM (some id) s.M) i = lookM s.M i then mb i else [], fun b => if b ∈ bs then some (.inr u) else ow b, ?_⟩;refine { hi with mem := fun i => ?_, ofr := fun v b hb => ?_, omem := fun i b hb => ?_, nmem := fun i => ?_, own := fun b hb => ?_ }
 ·simp only [lookM]
  by_cases hiu : i = u
  ·rw [if_pos hiu.symm, if_pos hiu]
   subst hiu;exact ⟨b0, arr, e0, bs', by simpa using p1, p2, r1, p4, rfl⟩
  ·rw [if_neg (Ne.symm hiu), if_neg hiu]
   rcases look_dropM (some id) s.M i with h | ⟨h5, h6⟩
   ·rw [h]
    show (if i = id then ([] : List Nat) else if none = lookM s.M i then mb i else []) = [];split
    ·rfl
    ·split
     ·rename_i e
      have := hi.mem i
      rw [← e] at this;exact this
     ·rfl
   ·rw [if_neg (fun e => h5 (by rw [e])), if_pos h6, h6]
    exact hi.mem i
 ·have h5 := hi.ofr v b hb
  rw [if_neg (fun h => ?_)]
  ·exact h5
  ·rw [hbo b h] at h5; cases h5
 ·split at hb
  ·rename_i hiu
   subst hiu
   rcases N6.1 hb with rfl | hb
   ·have h5 := hmu b (by rw [p5]; simp)
    rw [if_neg (fun h => ?_)]
    ·exact h5
    ·rw [hbo b h] at h5; cases h5; exact hne' rfl
   ·rcases N3.1 (r2.mem_iff.1 hb) with h | h
    ·rw [if_pos h]
    ·have h5 := hmu b (by rw [p5]; simp [h])
     rw [if_neg (fun h => ?_)]
     ·exact h5
     ·rw [hbo b h] at h5; cases h5; exact hne' rfl
  ·split at hb
   ·cases hb
   ·split at hb
    ·have h5 := hi.omem i b hb
     rw [if_neg (fun h => ?_)]
     ·exact h5
     ·rename_i hne _
      rw [hbo b h] at h5; cases h5; exact hne rfl
    ·cases hb
 ·split
  ·have hn := hi.nmem u
   rw [p5] at hn
   obtain ⟨n1, n2⟩ := N7.1 hn
   refine N7.2 ⟨fun h => ?_, r2.nodup_iff.2 (N5.2 ⟨k2, n2, fun x hx y hy e => ?_⟩)⟩
   ·rcases N3.1 (r2.mem_iff.1 h) with h | h
    ·exact hdis b0 h (by rw [p5]; simp)
    ·exact n1 h
   ·subst e; exact hdis x hx (by rw [p5]; simp [hy])
  ·split
   ·simp
   ·split
    ·exact hi.nmem i
    ·simp
 ·split at hb
  ·rename_i h
   exact hi.own b (by rw [hbo b h]; simp)
  ·exact hi.own b hb
theorem Le.gatherBox {u id j n len : Nat} {xs : List T} {cells : List D} (hB : lookM s.M u = some (.box cells)) (h1 : cells[j]? = some (.sl id 0 len)) (hM : lookM s.M id = some (.L n xs)) (hl : len ≤ xs.length) (hne : (id == u) = false) :
  Le c s ⟨s.fr, (u, .box (cells.set j (.own (.list n (xs.take len))))) :: dropM (some id) s.M⟩ :=
 Le.gatherBoxG rfl hB h1 hM hne fun hv hm hnd => J4 hv hm hnd hl
end
section
variable {P : Program} {c : Ctx} {s : St} {M0 : List (Nat × Blk)} {acc : List Dl} {Q : St → List Dl → Prop} {ops : Array Oper} {rest : List Oper} {o : Oper}
theorem Hp {Γ : Tys} (hΓ : Γ.ok P) {ty t : Nat} {parts : Array (Nat × Operand)} {ti : TI} {offs : List Nat} {cells : List D} {ms : List Nat} (hg : o.guard = none) (hd : o.dst = some t) (ht : t < c.n) (ho : o.op = .build ty parts)
  (h1 : A7 Γ ty = some ti) (h2 : ti.kind = .agg offs) (h3 : F9 P ty = true) (h4 : (offs.all fun k => Nat.blt k ti.zero.length) = true) (h4' : ti.zero.all (·.oneCell') = true) (h5 : setsOk offs (parts.toList.map fun p => (p.1, opd s.fr p.2)) (ti.zero.map Bl) = true)
  (h6 : CC (Dv offs (parts.toList.map fun p => (p.1, opd s.fr p.2)) (ti.zero.map Bl)) some = some cells) (hms : Fj (Ai s.fr (parts.toList.map (·.2))) some = some ms) (hm : Fp ms = true)
  (kk : QG P c ops M0 rest ⟨(t, .agg cells) :: ((ms.map fun u => (u, D.top)) ++ s.fr), s.M⟩ (acc ++ [⟨t, .agg cells, ms, [], false⟩]) Q) : QG P c ops M0 (o :: rest) s acc Q :=
 ⟨⟨t, .agg cells, ms, [], false⟩, hd, fun s' ha _ Q h => by
  have hop : ∀ p, p ∈ parts.toList → opd s'.fr p.2 = opd s.fr p.2 := fun p hp => ha.opd (by
   rw [ho];simp only [Op.operands]
   exact List.mem_toArray.2 (List.mem_map.2 ⟨p, hp, rfl⟩))
  have e1 : (parts.toList.map fun p => (p.1, opd s'.fr p.2)) = parts.toList.map fun p => (p.1, opd s.fr p.2) := List.map_congr_left fun p hp => by rw [hop p hp]
  have e2 : Ai s'.fr (parts.toList.map (·.2)) = ms := by
   rw [Et (fr := s.fr) fun x hx => by
    obtain ⟨p, hp, rfl⟩ := List.mem_map.1 hx
    exact hop p hp]
   rw [DR] at hms;exact Option.some.inj hms
  rw [spineD_eq] at h6
  exact F3 hΓ hg hd ht ho h1 h2 h3 h4 h4' (by rw [e1]; exact h5) (by rw [e1]; exact Option.some.inj h6) e2 (nodupB_sound hm) h, kk⟩
theorem CM {Γ : Tys} (hΓ : Γ.ok P) {ty e t len : Nat} {parts : Array (Nat × Operand)} {ti te : TI} (ys : List T) {ms : List Nat} (hg : o.guard = none) (hd : o.dst = some t) (ht : t < c.n) (ho : o.op = .buildSlice ty len parts)
  (h1 : A7 Γ ty = some ti) (h2 : ti.kind = .slice e) (h3 : A7 Γ e = some te) (hp : parts.toList.map (·.1) = List.range len) (hl : len * te.size ≤ 16777216)
  (hy : PartsOk s.fr te.size (parts.toList.map (·.2)) ys) (hms : Fj (Ai s.fr (parts.toList.map (·.2))) some = some ms) (hm : Fp ms = true) (hzs : te.zero.length = te.size) (hpos : 0 < te.size)
  (kk : QG P c ops M0 rest ⟨(t, .own (.list te.size ys)) :: ((ms.map fun u => (u, D.top)) ++ s.fr), s.M⟩ (acc ++ [⟨t, .own (.list te.size ys), ms, [], true⟩]) Q) : QG P c ops M0 (o :: rest) s acc Q :=
 Gr hΓ ys hg hd ht ho h1 h2 h3 hp hl hy (by rw [DR] at hms; exact Option.some.inj hms) (nodupB_sound hm) hzs hpos kk
end
end Go.Eng
end
section
/- Lists that the cells of variables own: named, so that they can be read and grow. -/
namespace Go.Eng
open Go.RowKit
section
variable {P : Program} {c : Ctx} {s : St} {Q : Exit → St → Prop} {ops : Array Oper} {rest : List Oper} {o : Oper}
theorem Cs {w : World} {F : Nat → Prop} {β : Ag} {e : D} : ∀ {vs ds bs} (j : Nat), RelD w F β vs ds bs → ds[j]? = some e → ∃ v b1 b2 b3, bs = b1 ++ b2 ++ b3 ∧ RelD w F β [v] [e] b2 ∧ vs[j]? = some v ∧
  ∀ d b, RelD w F β [v] [d] b → RelD w F β vs (ds.set j d) (b1 ++ b ++ b3)
 | [], [], _, j, _, h => by simp at h
 | [], _ :: _, _, _, h, _ => by cases h
 | _ :: _, [], _, _, h, _ => by cases h
 | x :: vs, y :: ds, bs, 0, hr, h => by
  obtain ⟨b2, b3, q1, q2, rfl⟩ := hr.cons
  simp at h
  subst h;exact ⟨x, [], b2, b3, by simp, q1, rfl, fun d b hd => by simpa using RelD.cons' hd q2⟩
 | x :: vs, y :: ds, bs, j + 1, hr, h => by
  obtain ⟨b2, b3, q1, q2, rfl⟩ := hr.cons
  obtain ⟨v, c1, c2, c3, rfl, q3, q5, q4⟩ := Cs j q2 (by simpa using h)
  exact ⟨v, b2 ++ c1, c2, c3, by simp, q3, by simpa using q5, fun d b hd => by simpa using RelD.cons' q1 (q4 d b hd)⟩
theorem JE {i : Nat} {d : D} : ∀ {ds : List D} (j : Nat), D.has.hasL i ds = false → d.has i = false → D.has.hasL i (ds.set j d) = false
 | [], _, h, _ => h
 | x :: ds, 0, h, hd => by
  simp only [D.has.hasL, OK] at h;simp only [List.set_cons_zero, D.has.hasL, OK];exact ⟨hd, h.2⟩
 | x :: ds, j + 1, h, hd => by
  simp only [D.has.hasL, OK] at h;simp only [List.set_cons_succ, D.has.hasL, OK];exact ⟨h.1, JE j h.2 hd⟩
theorem Le.nilBox {u j : Nat} {cells : List D} (n : Nat) (hB : lookM s.M u = some (.box cells)) (h1 : cells[j]? = some .nil) : Le c s ⟨s.fr, (u, .box (cells.set j (.own (.list n [])))) :: s.M⟩ := by
 rintro a w ⟨F, β, fb, mb, ow, hi⟩
 refine ⟨F, β, fb, mb, ow, { hi with mem := fun i => ?_ }⟩;simp only [lookM]
 by_cases hiu : u = i
 ·subst hiu
  rw [if_pos rfl]
  have hb := hi.mem u
  rw [hB] at hb
  obtain ⟨b0, arr, e0, bs0, p1, p2, p3, p4, p5⟩ := hb
  obtain ⟨v, b1, b2, b3, rfl, q1, _, q2⟩ := Cs j p3 h1
  have hb2 : b2 = [] := q1.free1 rfl
  subst hb2;refine ⟨b0, arr, e0, _, by simpa using p1, p2, q2 _ [] ?_, p4, p5⟩
  cases q1 with
  | nil h => exact .own (bs := []) (bs' := []) (.none .nil) .done
 ·rw [if_neg hiu]; exact hi.mem i
theorem Cl.of {t : Nat} {s : St} (h : (JR t s.fr && clM t s.M) = true) : Cl t s := by
 rw [Nv] at h;exact ⟨B1 h.1, (BX h.2).1, (BX h.2).2⟩
theorem Conc.adoptBoxG {a : Act} {w : World} {F β fb mb ow} (hi : Conc c s a w F β fb mb ow) {u id j : Nat} {y : T} {cells : List D} (hc : (JR id s.fr && clM id s.M) = true) (hB : lookM s.M u = some (.box cells)) (h1 : cells[j]? = some (.own y)) :
  ∃ v b2, OwnL w [v] [y] b2 ∧ ∀ (pl : Option (Nat × Nat × Nat)) (d' : D) (kb : Blk), RelB w F (fun i => if i = id then pl else β i) id kb b2 → RelD w F (fun i => if i = id then pl else β i) [v] [d'] [] →
   Is c ⟨s.fr, (u, .box (cells.set j d')) :: (id, kb) :: s.M⟩ a w := by
 have hcl := Cl.of hc
 have hne : ¬ u = id := fun e => by rw [e, hcl.2.2] at hB; cases hB
 have hb := hi.mem u
 rw [hB] at hb
 obtain ⟨b0, arr, e0, bs0, p1, p2, p3, p4, p5⟩ := hb
 obtain ⟨v, b1, b2, b3, hbs, q1, qv, q2⟩ := Cs j p3 h1
 have hou : ∀ b, b ∈ b2 → ow b = some (.inr u) := fun b h => hi.omem u b (by rw [p5, hbs]; simp [h])
 have hnu := hi.nmem u
 rw [p5, hbs] at hnu
 obtain ⟨n1, n2⟩ := N7.1 hnu
 obtain ⟨n3, n4, n5⟩ := N5.1 n2
 obtain ⟨n6, n7, n8⟩ := N5.1 n3
 have hO : OwnL w [v] [y] b2 := by
  cases q1 with
  | own h2 h3 => cases h3; simpa using h2
 refine ⟨v, b2, hO, ?_⟩
 ·intro pl d' kb hB' hD
  have hβ : ∀ i, i ≠ id → (fun i => if i = id then pl else β i) i = β i := fun i h => by simp [h]
  refine ⟨F, fun i => if i = id then pl else β i, fb, fun i => if i = u then b0 :: (b1 ++ b3) else if i = id then b2 else mb i, fun b => if b ∈ b2 then some (.inr id) else ow b, ?_⟩;refine { hi with fr := fun t => ?_, mem := fun i => ?_, ofr := fun t b hb => ?_, omem := fun i b hb => ?_, nmem := fun i => ?_, own := fun b hb => ?_ }
  ·exact (hi.fr t).other hβ (by simp only [D.has.hasL, Ob]; exact hcl.1 t)
  ·simp only [lookM]
   by_cases hiu : u = i
   ·subst hiu
    rw [if_pos rfl, if_pos rfl];refine ⟨b0, arr, e0, b1 ++ b3, ?_, p2, ?_, p4, rfl⟩
    ·dsimp only; rw [if_neg hne, p1]; simp
    ·-- the other cells, under the new place
     have h8 := hcl.2.1 u _ hB
     simp only [Bn, ON] at h8
     have h9 : RelD w F β arr.toList (cells.set j .top) (b1 ++ b3) := by simpa using q2 .top [] (.top .done)
     have h10 := h9.other hβ (JE j h8 rfl)
     obtain ⟨v', c1, c2, c3, e1, r1, rv, r2⟩ := Cs (e := .top) j h10 (by rw [List.getElem?_set_self (List.getElem?_eq_some_iff.1 h1).1])
     have hc2 : c2 = [] := r1.free1 rfl
     subst hc2
     have hvv : v' = v := by rw [qv] at rv; exact (Option.some.inj rv).symm
     subst hvv
     have := r2 (d') [] hD
     rw [List.set_set] at this
     have e2 : b1 ++ b3 = c1 ++ [] ++ c3 := e1
     rw [e2]; exact this
   ·have hiu' : ¬ i = u := fun e => hiu e.symm
    rw [if_neg hiu, if_neg hiu']
    by_cases hid : id = i
    ·subst hid; rw [if_pos rfl, if_pos rfl]; exact hB'
    ·rw [if_neg hid, if_neg (fun e => hid e.symm)]
     have hm := hi.mem i
     cases hk : lookM s.M i with
     | none => rw [hk] at hm; exact hm
     | some k =>
      rw [hk] at hm
      have hck := hcl.2.1 i k hk
      cases k with
      | L n' xs' =>
       rcases hm with ⟨g1, g2, g3⟩ | ⟨b, cap, arr', e', bs', g1, g⟩
       ·exact .inl ⟨by dsimp only; rw [if_neg (fun e => hid e.symm)]; exact g1, g2, g3⟩
       ·exact .inr ⟨b, cap, arr', e', bs', by dsimp only; rw [if_neg (fun e => hid e.symm)]; exact g1, g⟩
      | box cs =>
       obtain ⟨b, arr', e', bs', g1, g2, g3, g4, g5⟩ := hm
       simp only [Bn, ON] at hck;exact ⟨b, arr', e', bs', by dsimp only; rw [if_neg (fun e => hid e.symm)]; exact g1, g2, g3.other hβ hck, g4, g5⟩
      | raw _ _ _ _ => exact hm
      | rawV _ _ => exact hm
      | ro _ _ => exact hm
      | pin j b n c =>
       simp only [Bn, ON, beq_eq_false_iff_ne] at hck;exact ⟨(hβ _ hck).trans hm.1, hm.2⟩
      | obox _ _ => exact hm
      | bld _ _ _ _ => exact hm
      | row _ _ _ _ => exact hm
  ·have h5 := hi.ofr t b hb
   rw [if_neg (fun h => ?_)]
   ·exact h5
   ·rw [hou b h] at h5; cases h5
  ·split at hb
   ·rename_i hiu
    subst hiu
    have hnb : b ∉ b2 := fun h => by
     rcases N6.1 hb with rfl | hb
     ·exact n1 (by simp [h])
     ·rcases N3.1 hb with hb | hb
      ·exact n8 b hb b h rfl
      ·exact n5 b (by simp [h]) b hb rfl
    rw [if_neg hnb]
    exact hi.omem i b (by
     rw [p5, hbs]
     rcases N6.1 hb with rfl | hb
     ·simp
     ·rcases N3.1 hb with hb | hb <;> simp [hb])
   ·split at hb
    ·rename_i hid; subst hid; rw [if_pos hb]
    ·have h5 := hi.omem i b hb
     rw [if_neg (fun h => ?_)]
     ·exact h5
     ·rename_i h6 _
      rw [hou b h] at h5; cases h5; exact h6 rfl
  ·split
   ·refine N7.2 ⟨fun h => n1 ?_, N5.2 ⟨n6, n4, fun x hx y hy => n5 x (by simp [hx]) y hy⟩⟩
    rcases N3.1 h with h | h <;> simp [h]
   ·split
    ·exact n7
    ·exact hi.nmem i
  ·split at hb
   ·rename_i h
    exact hi.own b (by rw [hou b h]; simp)
   ·exact hi.own b hb
theorem Le.adoptBox {u id j n : Nat} {xs : List T} {cells : List D} (hc : (JR id s.fr && clM id s.M) = true) (hB : lookM s.M u = some (.box cells)) (h1 : cells[j]? = some (.own (.list n xs))) :
  Le c s ⟨s.fr, (u, .box (cells.set j (.sl id 0 xs.length))) :: (id, .L n xs) :: s.M⟩ := by
 rintro a w ⟨F, β, fb, mb, ow, hi⟩
 obtain ⟨v, b2, h2, fin⟩ := hi.adoptBoxG hc hB h1
 cases h2 with
 | @none ad _ _ _ _ h4 =>
  cases h4;exact fin none _ _ (.inl ⟨by simp, rfl, by simp⟩) (.slnil (by simp) .done)
 | list g1 g2 g3 g4 g5 g6 g7 g8 =>
  cases g8
  rename_i b cap cs arr' e' bs1
  refine fin (some (b, n, cap)) _ _ (.inr ⟨b, cap, arr', e', bs1, by simp, g1, g2, g4, g5, g6, by rw [g3]; exact g7, by simp⟩) ?_;exact .sl (b := b) (n := n) (c := cap) (by simp) g5 (by simp) (by simp) .done
end
end Go.Eng
end
section
/- What is owned is laid open, list by list, to be written, and put together again; functions that write so, and are given more to read. -/
namespace Go.Eng
open Go.RowKit
section
variable {P : Program} {c : Ctx} {s : St} {Q : Exit → St → Prop} {ops : Array Oper} {rest : List Oper} {o : Oper}
end
end Go.Eng
end
section
/- Functions that write into what a struct leads to, and read more beside. -/
namespace Go.Eng
open Go.RowKit
section
variable {P : Program} {c : Ctx} {s : St} {Q : Exit → St → Prop} {ops : Array Oper} {rest : List Oper} {o : Oper}
end
end Go.Eng
end
section
/- Lists whose elements are known by their values, apart from what those lead to. -/
namespace Go.Eng
open Go.RowKit
section
variable {P : Program} {c : Ctx} {s : St} {Q : Exit → St → Prop} {ops : Array Oper} {rest : List Oper} {o : Oper}
theorem Conc.re2 {a : Act} {w : World} {F β fb mb ow} (hi : Conc c s a w F β fb mb ow) {p q : Nat} (hpq : ¬ p = q) {M' : List (Nat × Blk)} {mp mq : List Nat} (hM : ∀ i, ¬ i = p → ¬ i = q → lookM M' i = lookM s.M i ∨ lookM M' i = none)
  (hp : match lookM M' p with | some k => RelB w F β p k mp | none => mp = []) (hq : match lookM M' q with | some k => RelB w F β q k mq | none => mq = [])
  (hbp : ∀ b, b ∈ mp → b ∈ mb p ∨ b ∈ mb q) (hbq : ∀ b, b ∈ mq → b ∈ mb p ∨ b ∈ mb q) (np : mp.Nodup) (nq : mq.Nodup) (dis : ∀ b, b ∈ mp → b ∉ mq) : Is c ⟨s.fr, M'⟩ a w := by
 classical
 have ho : ∀ b, b ∈ mb p ∨ b ∈ mb q → ow b = some (.inr p) ∨ ow b = some (.inr q) := fun b h => h.imp (hi.omem p b) (hi.omem q b)
 have key : ∀ b, b ∈ mp ∨ b ∈ mq → ow b = some (.inr p) ∨ ow b = some (.inr q) := fun b h => ho b (h.elim (hbp b) (hbq b))
 refine ⟨F, β, fb, fun i => if i = p then mp else if i = q then mq else if lookM M' i = lookM s.M i then mb i else [], fun b => if b ∈ mp then some (.inr p) else if b ∈ mq then some (.inr q) else ow b, ?_⟩;refine { hi with mem := fun i => ?_, ofr := fun t b hb => ?_, omem := fun i b hb => ?_, nmem := fun i => ?_, own := fun b hb => ?_ }
 ·by_cases h1 : i = p
  ·subst h1; rw [if_pos rfl]; exact hp
  ·rw [if_neg h1]
   by_cases h2 : i = q
   ·subst h2; rw [if_pos rfl]; exact hq
   ·rw [if_neg h2]
    rcases hM i h1 h2 with h | h
    ·rw [if_pos h, h]; exact hi.mem i
    ·rw [h]
     show (if none = lookM s.M i then mb i else []) = [];split
     ·rename_i e
      have := hi.mem i
      rw [← e] at this;exact this
     ·rfl
 ·have h5 := hi.ofr t b hb
  rw [if_neg (fun h => ?_), if_neg (fun h => ?_)]
  ·exact h5
  ·rcases key b (.inr h) with h6 | h6 <;> (rw [h6] at h5; cases h5)
  ·rcases key b (.inl h) with h6 | h6 <;> (rw [h6] at h5; cases h5)
 ·split at hb
  ·rename_i h; subst h; rw [if_pos hb]
  ·split at hb
   ·rename_i h; subst h
    rw [if_neg (fun h => dis b h hb), if_pos hb]
   ·split at hb
    ·rename_i h1 h2 _
     have h5 := hi.omem i b hb
     rw [if_neg (fun h => ?_), if_neg (fun h => ?_)]
     ·exact h5
     ·rcases key b (.inr h) with h6 | h6
      ·rw [h6] at h5; cases h5; exact h1 rfl
      ·rw [h6] at h5; cases h5; exact h2 rfl
     ·rcases key b (.inl h) with h6 | h6
      ·rw [h6] at h5; cases h5; exact h1 rfl
      ·rw [h6] at h5; cases h5; exact h2 rfl
    ·cases hb
 ·split
  ·exact np
  ·split
   ·exact nq
   ·split
    ·exact hi.nmem i
    ·simp
 ·have : ∀ b, ow b = some (.inr p) ∨ ow b = some (.inr q) → ¬ F b ∧ b < w.heap.size ∧ (c.w0.heap.size ≤ b ∨ c.G b) := fun b h => hi.own b (by rcases h with h | h <;> rw [h] <;> simp)
  split at hb
  ·rename_i h; exact this b (key b (.inl h))
  ·split at hb
   ·rename_i h; exact this b (key b (.inr h))
   ·exact hi.own b hb
theorem Conc.dis {a : Act} {w : World} {F β fb mb ow} (hi : Conc c s a w F β fb mb ow) {p q : Nat} (hpq : ¬ p = q) {b : Nat} (h1 : b ∈ mb p) (h2 : b ∈ mb q) : False := by
 have := hi.omem p b h1
 rw [hi.omem q b h2] at this;cases this;exact hpq rfl
theorem Le.claimBox {u idp j : Nat} {v : Value} {x : T} {cells : List D} (hB : lookM s.M u = some (.box cells)) (h1 : cells[j]? = some (.t (.v v))) (h2 : lookM s.M idp = some (.rawV [v] [x])) (hne' : (u == idp) = false) :
  Le c s ⟨s.fr, (u, .box (cells.set j (.own x))) :: dropM (some idp) s.M⟩ := by
 have hne : ¬ u = idp := by simpa using hne'
 rintro a w ⟨F, β, fb, mb, ow, hi⟩
 have hb := hi.mem u
 rw [hB] at hb
 obtain ⟨b0, arr, e0, bs0, p1, p2, p3, p4, p5⟩ := hb
 obtain ⟨v', b1, b2, b3, hbs, q1, qv, q2⟩ := Cs j p3 h1
 have hvv := Am q1
 subst hvv
 have hb2 : b2 = [] := q1.free1 rfl
 subst hb2
 have hmp := hi.mem idp
 rw [h2] at hmp
 have hO : OwnL w [v'] [x] (mb idp) := hmp
 have hnd := hi.nmem u
 rw [p5, hbs] at hnd;simp only [OI] at hnd hbs
 obtain ⟨n1, n2⟩ := N7.1 hnd
 have hown := q2 (.own x) (mb idp) (by simpa using RelD.own (F := F) (β := β) hO .done)
 have hmu : ∀ b, b ∈ b0 :: (b1 ++ b3) → b ∈ mb u := fun b h => by rw [p5, hbs]; exact h
 refine hi.re2 hne (mp := b0 :: (b1 ++ mb idp ++ b3)) (mq := []) (fun i h1 h3 => .inl (by simp only [lookM]; rw [if_neg (fun e => h1 e.symm), Cu h3])) ?_ ?_ (fun b h => ?_) (by simp) ?_ (by simp) (by simp)
 ·simp only [lookM, if_true]
  exact ⟨b0, arr, e0, _, by simpa using p1, p2, hown, p4, rfl⟩
 ·simp only [lookM, if_neg hne]; rw [Bq]; trivial
 ·rcases N6.1 h with rfl | h
  ·exact .inl (hmu b (by simp))
  ·rcases N3.1 h with h | h
   ·rcases N3.1 h with h | h
    ·exact .inl (hmu b (by simp [h]))
    ·exact .inr h
   ·exact .inl (hmu b (by simp [h]))
 ·have := Cg (b1 := b0 :: b1) (b3 := b3) (bs := b0 :: (b1 ++ b3)) (bs' := mb idp) (by simp) (by simpa using hnd) (hi.nmem idp) (fun b hb h => hi.dis hne (hmu b hb) h)
  simpa using this
end
end Go.Eng
end
section
/- Cells whose values are known by what they are told to be; places in known slices, in open order; lists of which a part is done. -/
namespace Go.Eng
open Go.RowKit
section
variable {P : Program} {c : Ctx} {s : St} {Q : Exit → St → Prop} {ops : Array Oper} {rest : List Oper} {o : Oper}
end
end Go.Eng
namespace Go.Eng
section
variable {P : Program} {c : Ctx} {s : St} {Q : Exit → St → Prop}
theorem LO {code : Code} (h : W P c code s (fun e s' => ∃ s'', Le c s' s'' ∧ Q e s'')) : W P c code s Q := by
 intro a w hi;refine Code.wp_mono ?_ (h a w hi)
 rintro e a' w' ⟨s', h1, s'', h2, h3⟩
 exact ⟨s'', h2 a' w' h1, h3⟩
end
end Go.Eng
namespace Go.Eng
section
variable {P : Program} {c : Ctx} {s : St} {ops : Array Oper}
end
end Go.Eng
namespace Go.Eng
section
variable {P : Program} {c : Ctx} {s : St} {ops : Array Oper} {rest : List Oper} {Q : Exit → St → Prop}
end
end Go.Eng
end
section
/- Lists put together out of order. -/
namespace Go.Eng
open Go.RowKit
section
variable {P : Program} {c : Ctx} {s : St} {Q : Exit → St → Prop} {ops : Array Oper} {rest : List Oper} {o : Oper}
end
end Go.Eng
end
