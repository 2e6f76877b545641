import Derived.Test.YtimpganophnehaaGreatMb
set_option linter.unusedVariables false
set_option linter.unusedSimpArgs false
section
/- Rules for conversions of whole numbers, and for arrays of two. -/
namespace Go.Eng
open Go.RowKit
section
variable {P : Program} {c : Ctx} {s : St} {Q : Exit → St → Prop} {ops : Array Oper} {rest : List Oper} {o : Oper}
theorem WO_conv {src dst t : Nat} {x : Operand} {td : TypeDesc} {k k0 : IntKind} {n : Int} (hg : o.guard = none) (hd : o.dst = some t) (ht : t < c.n) (ho : o.op = .convert src dst x)
  (h1 : P.underlying src = some td) (h2 : P.underlying dst = some (.int k)) (hx : opd s.fr x = .t (.v (.int k0 n)))
  (kk : WO P c ops rest ⟨(t, .t (.v (.int k (k.wrap n)))) :: s.fr, s.M⟩ Q) : WO P c ops (o :: rest) s Q := by
 refine WO_val hg hd ht _ (fun a w F β fb mb ow hi => ?_) kk
 refine ⟨.int k (k.wrap n), ?_, .t (.v rfl .nil) .done⟩
 have e := eval_v hi hx
 simp only [execOp, ho, e, convert, Sem.run_bind, run_underlying h1, run_underlying h2, Result.andThen_ok, Conv.intToInt, Sem.run_pure]
end
end Go.Eng
end
section
/- What is only read may be known by its value: so that lists of the call's own can hold it. -/
namespace Go.Eng
open Go.RowKit
section
variable {P : Program} {c : Ctx} {s : St} {Q : Exit → St → Prop} {ops : Array Oper} {rest : List Oper} {o : Oper}
theorem Le.roNil (i : Nat) : Le c s ⟨s.fr, (i, .ro [] []) :: s.M⟩ := by
 rintro a w ⟨F, β, fb, mb, ow, hi⟩
 refine ⟨F, β, fb, fun j => if i = j then [] else mb j, ow, ?_⟩
 exact { hi with
  mem := fun j => by
   simp only [lookM]
   by_cases h : i = j
   ·rw [if_pos h]; simp only [if_pos h]; exact ⟨.nil, rfl⟩
   ·rw [if_neg h]; simp only [if_neg h]; exact hi.mem j
  omem := fun j b hb => by
   split at hb
   ·cases hb
   ·exact hi.omem j b hb
  nmem := fun j => by
   split
   ·simp
   ·exact hi.nmem j }
end
end Go.Eng
end
section
/- Statements of open order in which an operation that hangs on nothing may come anywhere, beside others whose place is fixed. -/
namespace Go.Eng
open Go.RowKit
section
variable {P : Program} {c : Ctx} {s : St} {Q : Exit → St → Prop} {ops : Array Oper} {rest : List Oper} {o : Oper}
end
end Go.Eng
end
section
/- A call whose answer may be a part of what is read, in a statement of open order. -/
namespace Go.Eng
open Go.RowKit
section
variable {P : Program} {c : Ctx} {s : St} {Q : St → Prop} {ops : Array Oper} {rest : List Oper} {o : Oper}
theorem QL_callF {t : Nat} {fo : Operand} {args : Array Operand} {tys : Array TypeId} {f : FuncId} {caps es : List D} {r : D} (hg : o.guard = none) (hd : o.dst = some t) (ht : t < c.n)
  (ho : o.op = .call { callee := .value fo, args := args, argTypes := tys }) (hf : opd s.fr fo = .clo f caps) (hes : args.toList.map (opd s.fr) ++ caps = es) (hcl : D.closed.closedL es = true) (hfr : D.free.freeL es = true)
  (hc : Fun P f es r) (hn : r.closed = true)
  (k : QL P c ops rest ⟨(t, r) :: s.fr, s.M⟩ Q) : QL P c ops (o :: rest) s Q :=
 ⟨t, _, hd, fun s' ha Q h => by
  have e1 : opd s'.fr fo = opd s.fr fo := ha.opd (by rw [ho]; simp [Op.operands, Call.operands])
  have e2 : args.toList.map (opd s'.fr) = args.toList.map (opd s.fr) := ha.opds fun x hx => by
   rw [ho]
   simp only [Op.operands, Call.operands, Array.mem_append]
   exact .inr (by simpa using hx)
  exact WO_callF hg hd ht ho (by rw [e1]; exact hf) (by rw [e2]; exact hes) hcl hfr hc hn h, k⟩
theorem QL_evZ {Γ : Tys} (hΓ : Γ.ok P) {t : Nat} {d d' : D} (hg : o.guard = none) (hd : o.dst = some t) (ht : t < c.n) (he : evF Γ s o.op = some d) (hz : frz d = some d') (k : QL P c ops rest ⟨(t, d') :: s.fr, s.M⟩ Q) : QL P c ops (o :: rest) s Q :=
 ⟨t, d', hd, fun s' ha Q h => by
  have h1 : Le c ⟨(t, d) :: s'.fr, s'.M⟩ ⟨(t, d') :: (t, d) :: s'.fr, s'.M⟩ := Le.freeze (u := t) (by
   show frz (if t = t then d else look s'.fr t) = _
   rw [if_pos rfl]; exact hz)
  have h2 : Le c ⟨(t, d') :: (t, d) :: s'.fr, s'.M⟩ ⟨(t, d') :: s'.fr, s'.M⟩ := Le.of (fun u => .inl (by
   show (if t = u then d' else look s'.fr u) = if t = u then d' else if t = u then d else look s'.fr u
   split <;> rfl)) (fun u => .inl rfl)
  exact WO_evF hΓ hg hd ht (by unfold evF at he ⊢; rwa [evV_agree ha]) (WO_le (h1.trans h2) h), k⟩
def absT : D → T
 | .own x => x
 | .t (.v x) => .v x
 | _ => .v undef
def absB : D → Bool
 | .own _ => true
 | .t (.v _) => true
 | _ => false
theorem absL_of : ∀ {cells : List D}, cells.all absB = true → AbsL cells (cells.map absT)
 | [], _ => trivial
 | d :: ds, h => by
  rw [List.all_cons, Bool.and_eq_true] at h
  have h2 := absL_of h.2
  have h1 := h.1
  cases d with
  | own x => exact AbsL.own' h2
  | t x =>
   cases x with
   | v x => exact AbsL.v' h2
   | _ => cases h1
  | _ => cases h1
theorem WO_exposeB {Q : Exit → St → Prop} {l : List Oper} {u : Nat} (id : Nat) {cells : List D} (h1 : look s.fr u = .agg cells) (h2 : cells.all absB = true)
  (k : ∀ us : List Value, us.length = cells.length → WO P c ops l ⟨(u, .agg (us.map fun v => .t (.v v))) :: s.fr, (id, .rawV us (cells.map absT)) :: s.M⟩ Q) : WO P c ops l s Q :=
 WO_exposeA id _ h1 (absL_of h2) fun us hu => k us (by rw [hu, List.length_map])
end
end Go.Eng
end
section
/- Statements of open order, told by the state that each set of operations that are done leaves: those may make memory, and move what is owned. -/
namespace Go.Eng
open Go.RowKit
section
variable {P : Program} {c : Ctx} {s : St} {Q : Exit → St → Prop} {ops : Array Oper} {rest : List Oper} {o : Oper}
def StepTo (P : Program) (c : Ctx) (ops : Array Oper) (o : Oper) (s s2 : St) : Prop := ∀ Q : Exit → St → Prop, WO P c ops [] s2 Q → WO P c ops [o] s Q
theorem StepTo.wp {s2 : St} (h : StepTo P c ops o s s2) {a : Act} {w : World} (hi : Is c s a w) {K : Act → World → Prop} {Q' : Exit → Act → World → Prop}
    (hK : ∀ a' w', Is c s2 a' w' → K a' w') : if Region.wanted o (yielded ops a.tmps) then o.wp P a w K Q' else K (a.put o.dst undef) w := by
  let Q : Exit → St → Prop := fun e s' => match e with | .normal => s' = s2 | _ => False
  have h1 := h Q (fun a w hi => ⟨_, hi, rfl⟩) a w hi
  unfold wpList at h1
  have hQ : ∀ e a w, lift c Q e a w → (match e with | .normal => K a w | _ => False) := fun e a w ⟨s', h2, h3⟩ => by
    cases e with
    | normal => have h3' : s' = s2 := h3; subst h3'; exact hK _ _ h2
    | _ => exact h3.elim
  split at h1
  · rename_i hw
    rw [if_pos hw]
    rcases h1 with h1 | ⟨_, a', w', h2⟩
    · unfold Oper.wp at h1 ⊢
      generalize (execOp a.eval o).run P w = r at h1
      cases r with
      | ok n w' =>
        cases n <;> simp only [Oper.upon] at h1 ⊢ <;> first
          | exact hQ .normal _ _ h1
          | (refine Calls.mono h1 fun e w'' he => ?_
             cases e with
             | returned v => exact hQ .normal _ _ he
             | panicked ch => exact (hQ _ _ _ he).elim
             | outgrown => obtain ⟨a1, w1, h3⟩ := he; exact (hQ _ _ _ h3).elim)
          | exact Rows.mono h1 fun _ _ he => hQ .normal _ _ he
          | exact h1
      | halt x w' => cases x <;> simp only [Oper.upon] at h1 ⊢ <;> first | exact (hQ _ _ _ h1).elim | exact h1
    · exact (hQ _ _ _ h2).elim
  · rename_i hw
    rw [if_neg hw]
    exact hQ .normal _ _ h1
theorem W_regionS {id : Nat} {l1 l2 : List Oper} {ops : Array Oper} (hm : P.follows .mixedOrders = true) (he : ops = (l1 ++ l2).toArray) (hB : orderT ops l1.length = true) (hT0 : l2 = [] ∨ tailT ops l1.length = true)
  (S : (Nat → Bool) → St) (h0 : ∀ X : Nat → Bool, (∀ j, X j = false) → Le c s (S X))
  (hst : ∀ (X : Nat → Bool) (i : Nat) (o : Oper), l1[i]? = some o → X i = false → (∀ j oj, l1[j]? = some oj → X j = true → ∀ e, e ∈ oj.after → Region.binds .any e = true → X e.on = true) →
   (∀ e, e ∈ o.after → Region.binds .any e = true → X e.on = true) → StepTo P c ops o (S X) (S fun j => X j || j == i))
  (hend : ∀ X : Nat → Bool, (∀ j, j < l1.length → X j = true) → WO P c ops l2 (S X) Q) : W P c (.region id ops true) s Q := by
 intro a w hi
 refine wp_region_any hm ?_
 have hops : ∀ j, j < l1.length → ops[j]? = l1[j]? := fun j hj => by subst he; rw [List.getElem?_toArray, List.getElem?_append_left hj]
 have hops2 : ∀ j, l2[j]? = ops[l1.length + j]? := fun j => by subst he; rw [List.getElem?_toArray, List.getElem?_append_right (Nat.le_add_right _ _), Nat.add_sub_cancel_left]
 have hsize : ops.size = l1.length + l2.length := by subst he; simp
 -- the state once X is done
 have key : ∀ (n : Nat) (listed : Array Bool) (a : Act) (w : World), listed.size = ops.size → n + listed.toList.count true = l1.length →
   (∀ j, l1.length ≤ j → listed.getD j false = false) →
   (∀ j oj, l1[j]? = some oj → listed.getD j false = true → ∀ e, e ∈ oj.after → Region.binds .any e = true → listed.getD e.on false = true) →
   Is c (S fun j => listed.getD j false) a w →
   wpAny P .any ops (lift c Q) (n + l2.length) listed a w := by
  intro n
  induction n with
  | zero =>
   intro listed a w hsz hcnt htl hcl hs'
   have hall : ∀ j, j < l1.length → listed.getD j false = true := by
    intro j hj
    refine Classical.byContradiction fun hf => ?_
    have hf' : listed.getD j false = false := by simpa using hf
    -- one of the first is not done, so fewer are
    have h1 : listed.toList.count true ≤ (listed.toList.take l1.length).count true := by
     conv => lhs; rw [← List.take_append_drop l1.length listed.toList, List.count_append]
     have : (listed.toList.drop l1.length).count true = 0 := List.count_eq_zero.2 fun hm => by
      obtain ⟨j, hj, hjt⟩ := List.getElem_of_mem hm
      rw [List.getElem_drop] at hjt
      rw [List.length_drop, Array.length_toList (xs := listed)] at hj
      have h5 := htl (l1.length + j) (by omega)
      rw [Array.getD_eq_getD_getElem?, Array.getElem?_eq_getElem (by omega)] at h5
      rw [Array.getElem_toList] at hjt
      rw [hjt] at h5; cases h5
     omega
    have h2 : (listed.toList.take l1.length).length = l1.length := by have := Array.length_toList (xs := listed); rw [List.length_take]; omega
    have h3 := List.count_le_length (a := true) (l := listed.toList.take l1.length)
    have h4 : (listed.toList.take l1.length).count true = (listed.toList.take l1.length).length := by omega
    rw [List.count_eq_length] at h4
    have hjs : j < listed.size := by omega
    have := h4 (listed[j]) (by rw [List.mem_take_iff_getElem]; exact ⟨j, by simp; omega, by simp⟩)
    rw [Array.getD_eq_getD_getElem?, Array.getElem?_eq_getElem hjs] at hf'
    rw [← this] at hf'; cases hf'
   rw [Nat.zero_add]
   rcases hT0 with hl2 | hT
   ·subst hl2
    refine ⟨List.eq_nil_iff_forall_not_mem.2 fun i hi => ?_, hend _ hall a w hs'⟩
    obtain ⟨oi, h1, h2, _⟩ := of_ready hsz hi
    have := (Array.getElem?_eq_some_iff.1 h1).1
    rw [hall i (by simp at hsize; omega)] at h2
    cases h2
   refine tail_run hB hT l2 l1.length listed a w (Nat.le_refl _) hsize.symm hops2 hsz (fun j hj => ?_) ?_
   ·by_cases hjl : j < l1.length
    ·rw [hall j hjl]; simp [hjl]
    ·rw [htl j (by omega)]; simp [hjl]
   ·exact hend _ hall a w hs'
  | succ n ih =>
   intro listed a w hsz hcnt htl hcl hs'
   -- one of the first is not done
   have hsome : ∃ i, i < l1.length ∧ listed.getD i false = false := by
    refine Classical.byContradiction fun hno => ?_
    have hall : ∀ j, j < l1.length → listed.getD j false = true := fun j hj => by
     refine Classical.byContradiction fun hf => hno ⟨j, hj, by simpa using hf⟩
    have h1 : l1.length ≤ (listed.toList.take l1.length).count true := by
     have h2 : (listed.toList.take l1.length).length = l1.length := by have := Array.length_toList (xs := listed); rw [List.length_take]; omega
     have : (listed.toList.take l1.length).count true = (listed.toList.take l1.length).length := List.count_eq_length.2 fun b hb => by
      obtain ⟨j, hj, rfl⟩ := List.mem_take_iff_getElem.1 hb
      rw [Array.length_toList (xs := listed)] at hj
      have h5 := hall j (by omega)
      rw [Array.getD_eq_getD_getElem?, Array.getElem?_eq_getElem (by omega)] at h5
      simpa using h5.symm
     omega
    have h3 : (listed.toList.take l1.length).count true ≤ listed.toList.count true := (List.take_sublist _ _).count_le _
    omega
   have hleast : ∃ i, i < l1.length ∧ listed.getD i false = false ∧ ∀ j, j < i → listed.getD j false = true := by
    obtain ⟨i0, hi0, hu0⟩ := hsome
    clear hcnt
    induction i0 using Nat.strongRecOn with
    | _ n ihn =>
     by_cases hx : ∃ j, j < n ∧ listed.getD j false = false
     ·obtain ⟨j, hj, hf⟩ := hx
      exact ihn j hj (by omega) hf
     ·refine ⟨n, hi0, hu0, fun j hj => ?_⟩
      cases hf : listed.getD j false with
      | true => rfl
      | false => exact absurd ⟨j, hj, hf⟩ hx
   have hready : Region.ready .any ops listed ≠ [] := by
    obtain ⟨i, hi1, hi2, hi3⟩ := hleast
    have hoi : ops[i]? = some l1[i] := by rw [hops i hi1]; simp
    intro hnil
    have : i ∈ Region.ready .any ops listed := ready_of hsz hoi hi2 fun e he hb => hi3 _ (orderT_lt hB hoi e he hb)
    rw [hnil] at this; cases this
   rw [Nat.succ_add]
   refine ⟨fun h => absurd h hready, fun i hir => ?_⟩
   -- operation i, now
   obtain ⟨oi, hoi0, hun', hafter⟩ := of_ready hsz hir
   have hil : i < l1.length := by
    rcases hT0 with hl2 | hT
    ·have := (Array.getElem?_eq_some_iff.1 hoi0).1
     subst hl2
     simp at hsize
     omega
    refine Classical.byContradiction fun hni => ?_
    by_cases hie : i = l1.length
    ·subst hie
     have hall : ∀ d j, j + d = l1.length → d ≠ 0 → listed.getD j false = true := by
      intro d
      induction d using Nat.strongRecOn with
      | _ d ihd =>
       intro j hjd hd
       obtain ⟨j2, oj2, p1, p2, p3, e, p4, p5, p6⟩ := tailT_first hT (k := j) (by omega)
       by_cases hj2 : j2 = l1.length
       ·subst hj2
        rw [hoi0] at p3; cases p3
        rw [← p6]; exact hafter e p4 p5
       ·rw [← p6]
        exact hcl j2 oj2 (by rw [← hops j2 (by omega)]; exact p3) (ihd (l1.length - j2) (by omega) j2 (by omega) (by omega)) e p4 p5
     obtain ⟨j, hj, hf⟩ := hsome
     rw [hall (l1.length - j) j (by omega) (by omega)] at hf; cases hf
    ·obtain ⟨e, p4, p5, p6⟩ := tailT_next hT hoi0 (by omega)
     have := hafter e p4 p5
     rw [p6, htl _ (by omega)] at this; cases this
   have hoi : ops[i]? = some l1[i] := by rw [hops i hil]; simp
   rw [hoi] at hoi0; cases hoi0
   have hli : l1[i]? = some l1[i] := List.getElem?_eq_getElem hil
   have hst2 := hst (fun j => listed.getD j false) i l1[i] hli hun' hcl hafter
   unfold wpOp
   rw [hoi]
   dsimp only
   have hset : ∀ j, (listed.setIfInBounds i true).getD j false = (listed.getD j false || j == i) := getD_set (by omega)
   have hfin := hst2.wp (K := wpAny P .any ops (lift c Q) (n + l2.length) (listed.setIfInBounds i true)) (Q' := lift c Q) hs' fun a' w' h' => by
    refine ih _ a' w' (by simp [hsz]) ?_ ?_ ?_ (by rw [show (fun j => (listed.setIfInBounds i true).getD j false) = (fun j => listed.getD j false || j == i) from funext hset]; exact h')
    ·have hl2 : listed.toList[i]? = some false := by
      rw [Array.getElem?_toList, Array.getElem?_eq_getElem (by omega)]
      rw [Array.getD_eq_getD_getElem?, Array.getElem?_eq_getElem (by omega)] at hun'
      simpa using hun'
     rw [Array.toList_setIfInBounds, count_set hl2]
     omega
    ·intro j hj
     rw [hset, htl j hj]
     simp; omega
    ·intro j oj hj hX e he hb
     rw [hset] at hX ⊢
     by_cases hji : j = i
     ·subst hji
      have : oj = l1[j] := by rw [hli] at hj; exact (Option.some.inj hj).symm
      subst this
      rw [hafter e he hb]; rfl
     ·have : (j == i) = false := by simp [hji]
      rw [this, Bool.or_false] at hX
      rw [hcl j oj hj hX e he hb]; rfl
   by_cases hw : Region.wanted l1[i] (yielded ops a.tmps) = true
   ·rw [if_pos hw] at hfin ⊢
    exact .inl hfin
   ·rw [if_neg hw] at hfin ⊢
    exact hfin
 have hk0 := key l1.length (Array.replicate ops.size false) a { w with drawn := w.drawn + 1 } (by simp) (by simp [List.count_replicate]) (fun j hj => by
   rw [Array.getD_eq_getD_getElem?, Array.getElem?_replicate]
   split <;> rfl) (by
   intro j oj hj hX
   rw [Array.getD_eq_getD_getElem?, Array.getElem?_replicate] at hX
   split at hX <;> simp at hX) (by
   refine h0 _ (fun j => ?_) _ _ ?_
   ·rw [Array.getD_eq_getD_getElem?, Array.getElem?_replicate]
    split <;> rfl
   ·obtain ⟨F, β, fb, mb, ow, hi'⟩ := hi
    exact ⟨F, β, fb, mb, ow, hi'.drew⟩)
 rw [hsize]
 rw [hsize] at hk0
 exact hk0
end
end Go.Eng
end
section
/- Walks of statements of open order in which memory is made, and what is owned is moved. -/
namespace Go.Eng
open Go.RowKit
structure Dl where
 t : Nat
 d : D
 mv : List Nat
 M : List (Nat × Blk)
 b : Bool
def Dl.fr (x : Dl) : List (Nat × D) := (x.t, x.d) :: x.mv.map fun u => (u, D.top)
def Dl.on (x : Dl) (s : St) : St := ⟨x.fr ++ s.fr, x.M ++ s.M⟩
def mrg (xs : List Dl) (X : Nat → Bool) (s : St) : Nat → St
 | 0 => s
 | k + 1 => match xs[k]? with
  | some x => if X k then x.on (mrg xs X s k) else mrg xs X s k
  | none => mrg xs X s k
def onL : List Dl → St → St
 | [], s => s
 | x :: xs, s => onL xs (x.on s)
def inF {α : Type} (l : List (Nat × α)) (u : Nat) : Bool := l.any fun p => p.1 == u
theorem look_app : ∀ (a b : List (Nat × D)) (u : Nat), look (a ++ b) u = if inF a u then look a u else look b u
 | [], b, u => by simp [inF]
 | (k, d) :: a, b, u => by
  rw [List.cons_append, look, look]
  by_cases h : k = u
  ·subst h; simp [inF]
  ·rw [if_neg h, if_neg h, look_app a b u]
   have : inF ((k, d) :: a) u = inF a u := by simp [inF, h]
   rw [this]
theorem lookM_app : ∀ (a b : List (Nat × Blk)) (u : Nat), lookM (a ++ b) u = if inF a u then lookM a u else lookM b u
 | [], b, u => by simp [inF]
 | (k, d) :: a, b, u => by
  rw [List.cons_append, lookM, lookM]
  by_cases h : k = u
  ·subst h; simp [inF]
  ·rw [if_neg h, if_neg h, lookM_app a b u]
   have : inF ((k, d) :: a) u = inF a u := by simp [inF, h]
   rw [this]
theorem onL_snoc : ∀ (xs : List Dl) (x : Dl) (s : St), onL (xs ++ [x]) s = x.on (onL xs s)
 | [], x, s => rfl
 | y :: xs, x, s => by rw [List.cons_append, onL, onL_snoc xs x]; rfl
section
variable {xs : List Dl} {X Y : Nat → Bool} {s : St}
theorem mrg_all : ∀ {n : Nat}, n ≤ xs.length → (∀ j, j < n → X j = true) → mrg xs X s n = onL (xs.take n) s
 | 0, _, _ => rfl
 | n + 1, hn, h => by
  rw [mrg, List.getElem?_eq_getElem (by omega)]
  dsimp only
  rw [if_pos (h n (by omega)), mrg_all (by omega) fun j hj => h j (by omega), List.take_add_one, List.getElem?_eq_getElem (by omega)]
  exact (onL_snoc _ _ _).symm
theorem mrg_stop {i : Nat} : ∀ {n : Nat}, i ≤ n → (∀ j, i ≤ j → X j = false) → mrg xs X s n = mrg xs X s i
  | 0, hi, _ => by have : i = 0 := by omega
                   subst this; rfl
  | n + 1, hi, h => by
    by_cases e : i = n + 1
    · rw [e]
    · rw [mrg, h n (by omega)]
      have := mrg_stop (n := n) (by omega) h
      cases xs[n]? <;> simpa using this
theorem mrg_fr {u : Nat} : ∀ {n : Nat}, (∀ j x, j < n → xs[j]? = some x → inF x.fr u = true → X j = Y j) → look (mrg xs X s n).fr u = look (mrg xs Y s n).fr u
 | 0, _ => rfl
 | n + 1, h => by
  have ih := mrg_fr (n := n) fun j x hj => h j x (by omega)
  rw [mrg, mrg]
  cases e : xs[n]? with
  | none => exact ih
  | some x =>
   dsimp only
   cases hx : inF x.fr u with
   | true => rw [h n x (by omega) e hx]; cases Y n <;> simp [Dl.on, look_app, hx, ih]
   | false => cases X n <;> cases Y n <;> simp [Dl.on, look_app, hx, ih]
theorem mrg_M {u : Nat} : ∀ {n : Nat}, (∀ j x, j < n → xs[j]? = some x → inF x.M u = true → X j = Y j) → lookM (mrg xs X s n).M u = lookM (mrg xs Y s n).M u
 | 0, _ => rfl
 | n + 1, h => by
  have ih := mrg_M (n := n) fun j x hj => h j x (by omega)
  rw [mrg, mrg]
  cases e : xs[n]? with
  | none => exact ih
  | some x =>
   dsimp only
   cases hx : inF x.M u with
   | true => rw [h n x (by omega) e hx]; cases Y n <;> simp [Dl.on, lookM_app, hx, ih]
   | false => cases X n <;> cases Y n <;> simp [Dl.on, lookM_app, hx, ih]
theorem mrg_add_fr {i u : Nat} {x : Dl} (hx : xs[i]? = some x) (hX : X i = false) (hu : inF x.fr u = true) : ∀ {n : Nat}, i < n → (∀ j y, j < n → i < j → X j = true → xs[j]? = some y → inF y.fr u = false) →
  look (mrg xs (fun j => X j || j == i) s n).fr u = look x.fr u
 | 0, h, _ => by omega
 | n + 1, h, hno => by
  rw [mrg]
  by_cases e : n = i
  ·subst e
   rw [hx]
   simp [Dl.on, look_app, hu]
  ·have ih := mrg_add_fr hx hX hu (n := n) (by omega) fun j y hj => hno j y (by omega)
   have hni : (n == i) = false := by simpa using e
   rw [hni, Bool.or_false]
   cases e2 : xs[n]? with
   | none => exact ih
   | some y =>
    dsimp only
    cases hXn : X n with
    | false => simpa using ih
    | true =>
     have := hno n y (by omega) (by omega) hXn e2
     simp [Dl.on, look_app, this, ih]
theorem mrg_add_M {i u : Nat} {x : Dl} (hx : xs[i]? = some x) (hX : X i = false) (hu : inF x.M u = true) : ∀ {n : Nat}, i < n → (∀ j y, j < n → i < j → X j = true → xs[j]? = some y → inF y.M u = false) →
  lookM (mrg xs (fun j => X j || j == i) s n).M u = lookM x.M u
 | 0, h, _ => by omega
 | n + 1, h, hno => by
  rw [mrg]
  by_cases e : n = i
  ·subst e
   rw [hx]
   simp [Dl.on, lookM_app, hu]
  ·have ih := mrg_add_M hx hX hu (n := n) (by omega) fun j y hj => hno j y (by omega)
   have hni : (n == i) = false := by simpa using e
   rw [hni, Bool.or_false]
   cases e2 : xs[n]? with
   | none => exact ih
   | some y =>
    dsimp only
    cases hXn : X n with
    | false => simpa using ih
    | true =>
     have := hno n y (by omega) (by omega) hXn e2
     simp [Dl.on, lookM_app, this, ih]
end
def cleanB (t : Nat) : Blk → Bool
 | .box cells => !D.has.hasL t cells
 | .pin i _ _ _ => !(i == t)
 | _ => true
def Cl (t : Nat) (s : St) : Prop := (∀ u, (look s.fr u).has t = false) ∧ (∀ id k, lookM s.M id = some k → cleanB t k = true) ∧ lookM s.M t = none
def clFr (t : Nat) (fr : List (Nat × D)) : Bool := fr.all fun p => !p.2.has t
def clM (t : Nat) (M : List (Nat × Blk)) : Bool := M.all fun p => cleanB t p.2 && p.1 != t
theorem clFr_look {t : Nat} : ∀ {fr : List (Nat × D)}, clFr t fr = true → ∀ u, (look fr u).has t = false
 | [], _, u => rfl
 | (k, d) :: fr, h, u => by
  simp only [clFr, List.all_cons, Bool.and_eq_true, Bool.not_eq_true'] at h
  rw [look]
  split
  ·exact h.1
  ·exact clFr_look (by simpa [clFr] using h.2) u
theorem clM_look {t : Nat} : ∀ {M : List (Nat × Blk)}, clM t M = true → (∀ id k, lookM M id = some k → cleanB t k = true) ∧ lookM M t = none
 | [], _ => ⟨fun id k h => (by cases h), rfl⟩
 | (k, d) :: M, h => by
  simp only [clM, List.all_cons, Bool.and_eq_true] at h
  have ih := clM_look (M := M) (by simpa [clM] using h.2)
  refine ⟨fun id b hb => ?_, ?_⟩
  ·rw [lookM] at hb
   split at hb
   ·cases hb; exact h.1.1
   ·exact ih.1 id b hb
  ·rw [lookM, if_neg (by have := h.1.2; simpa using this)]; exact ih.2
theorem Cl.on {t : Nat} {s : St} {x : Dl} (h : Cl t s) (h1 : clFr t x.fr = true) (h2 : clM t x.M = true) : Cl t (x.on s) := by
 refine ⟨fun u => ?_, fun id k hk => ?_, ?_⟩
 ·simp only [Dl.on, look_app]
  split
  ·exact clFr_look h1 u
  ·exact h.1 u
 ·simp only [Dl.on, lookM_app] at hk
  split at hk
  ·exact (clM_look h2).1 id k hk
  ·exact h.2.1 id k hk
 ·simp only [Dl.on, lookM_app]
  split
  ·exact (clM_look h2).2
  ·exact h.2.2
theorem Cl.mrg {t : Nat} {s : St} {xs : List Dl} {X : Nat → Bool} (h : Cl t s) : ∀ {n : Nat}, (∀ j x, j < n → X j = true → xs[j]? = some x → clFr t x.fr = true ∧ clM t x.M = true) → Cl t (mrg xs X s n)
 | 0, _ => h
 | n + 1, hx => by
  have ih := Cl.mrg h (n := n) fun j x hj => hx j x (by omega)
  rw [Eng.mrg]
  cases e : xs[n]? with
  | none => exact ih
  | some x =>
   dsimp only
   cases hX : X n with
   | false => simpa using ih
   | true =>
    have := hx n x (by omega) hX e
    simpa using ih.on this.1 this.2
section
variable {P : Program} {c : Ctx} {s : St} {Q : Exit → St → Prop} {ops : Array Oper} {rest : List Oper} {o : Oper}
def AgreeG (ops : Array Oper) (o : Oper) (fr : List (Nat × D)) (M : List (Nat × Blk)) (s' : St) : Prop := (∀ id k, lookM M id = some k → lookM s'.M id = some k) ∧ ∀ u, u ∈ o.looksAt ops → look s'.fr u = look fr u
def QG (P : Program) (c : Ctx) (ops : Array Oper) (M0 : List (Nat × Blk)) : List Oper → St → List Dl → (St → List Dl → Prop) → Prop
 | [], s, acc, Q => Q s acc
 | o :: rest, s, acc, Q => ∃ x : Dl, o.dst = some x.t ∧ (∀ s', AgreeG ops o s.fr M0 s' → (x.b = true → Cl x.t s') → StepTo P c ops o s' (x.on s')) ∧ QG P c ops M0 rest (x.on s) (acc ++ [x]) Q
end
end Go.Eng
end
section
/- The words in which such statements are walked. -/
namespace Go.Eng
open Go.RowKit
section
variable {P : Program} {c : Ctx} {s : St} {M0 : List (Nat × Blk)} {acc : List Dl} {Q : St → List Dl → Prop} {ops : Array Oper} {rest : List Oper} {o : Oper}
def pl (t : Nat) (d : D) : Dl := ⟨t, d, [], [], false⟩
theorem AgreeG.opd {fr : List (Nat × D)} {s' : St} (h : AgreeG ops o fr M0 s') {x : Operand} (hx : x ∈ o.op.operands) : Eng.opd s'.fr x = Eng.opd fr x := by
 cases x with
 | tmp t =>
  refine h.2 t ?_
  unfold Oper.looksAt
  exact List.mem_append_left _ (List.mem_filterMap.2 ⟨.tmp t, by simpa using hx, rfl⟩)
 | _ => rfl
theorem evV_mono {Γ : Tys} {fr : List (Nat × D)} {s' : St} {d : D} (h : AgreeG ops o fr M0 s') (he : evV Γ ⟨fr, M0⟩ o.op = some d) : evV Γ s' o.op = some d := by
  have hM := h.1
  have ho : ∀ x, x ∈ o.op.operands → Eng.opd s'.fr x = Eng.opd fr x := fun x hx => h.opd hx
  generalize o.op = op at ho he
  cases op with
  | move x => simp only [evV] at he ⊢; rw [ho x (by simp [Op.operands])]; exact he
  | assign x => simp only [evV] at he ⊢; rw [ho x (by simp [Op.operands])]; exact he
  | pick x a b => simp only [evV] at he ⊢; rw [ho x (by simp [Op.operands]), ho a (by simp [Op.operands]), ho b (by simp [Op.operands])]; exact he
  | binOp op ty x y ty' => simp only [evV] at he ⊢; rw [ho x (by simp [Op.operands]), ho y (by simp [Op.operands])]; exact he
  | unOp op ty x => cases op <;> simp only [evV] at he ⊢ <;> first | (rw [ho x (by simp [Op.operands])]; exact he) | exact he
  | fieldAddr ty x k => simp only [evV] at he ⊢; rw [ho x (by simp [Op.operands])]; exact he
  | load ty x =>
    simp only [evV] at he ⊢
    rw [ho x (by simp [Op.operands])]
    split at he
    · rename_i ti hti
      split at he
      · rename_i y off hy; exact he
      · rename_i id off hy
        split at he
        · rename_i cells hc
          rw [hM _ _ hc]; exact he
        · cases he
      · cases he
    · cases he
  | extract x k => simp only [evV] at he ⊢; rw [ho x (by simp [Op.operands])]; exact he
  | makeFunc f first captured =>
    cases f <;> simp only [evV] at he ⊢
    all_goals first
      | exact he
      | (split
         · rename_i hf
           rw [hf] at he
           dsimp only at he
           rw [← he]
           congr 2
           refine List.map_congr_left fun x hx => ?_
           rw [ho x (by simp only [Op.operands, Array.mem_append]; exact .inr (by simpa using hx))]
         · rename_i hf
           split at he
           · rename_i hf2; exact absurd hf2 (by simpa using hf)
           · exact he)
  | call cc =>
    obtain ⟨cal, args, tys⟩ := cc
    have ho' : ∀ x, x ∈ args.toList → Eng.opd s'.fr x = Eng.opd fr x := fun x hx => ho x (by
      simp only [Op.operands, Call.operands, Array.mem_append]
      exact .inr (by simpa using hx))
    cases cal with
    | builtin b =>
      have e : evV Γ s' (.call ⟨.builtin b, args, tys⟩) = evV Γ ⟨fr, M0⟩ (.call ⟨.builtin b, args, tys⟩) := by
        cases b <;> try rfl
        all_goals
          simp only [evV]
          split
          · rename_i ha
            first
              | (rw [ho' _ (by rw [ha]; simp)]; done)
              | (rename_i ha' ; rw [ho' _ (by rw [ha']; simp)]; done)
              | (rw [ho' _ (by rw [ha]; simp), ho' _ (by rw [ha]; simp)]; done)
          · rfl
      rw [e]; exact he
    | _ => exact he
  | _ => exact he
theorem evF_mono {Γ : Tys} {fr : List (Nat × D)} {s' : St} {d : D} (h : AgreeG ops o fr M0 s') (he : evF Γ ⟨fr, M0⟩ o.op = some d) : evF Γ s' o.op = some d := by
 unfold evF at he ⊢
 cases e : evV Γ ⟨fr, M0⟩ o.op with
 | none => rw [e] at he; cases he
 | some d' => rw [e] at he; rw [evV_mono h e]; exact he
theorem QG_nil (h : Q s acc) : QG P c ops M0 [] s acc Q := h
theorem QG_ev {Γ : Tys} (hΓ : Γ.ok P) {t : Nat} {d : D} (hg : o.guard = none) (hd : o.dst = some t) (ht : t < c.n) (he : evF Γ ⟨s.fr, M0⟩ o.op = some d) (k : QG P c ops M0 rest ⟨(t, d) :: s.fr, s.M⟩ (acc ++ [pl t d]) Q) : QG P c ops M0 (o :: rest) s acc Q :=
 ⟨pl t d, hd, fun s' ha _ Q h => WO_evF hΓ hg hd ht (evF_mono ha he) h, k⟩
theorem QG_int {Γ : Tys} (hΓ : Γ.ok P) {t : Nat} {n : Int} (hg : o.guard = none) (hd : o.dst = some t) (ht : t < c.n) (he : evV Γ ⟨s.fr, M0⟩ o.op = some (.t (.int (IntKind.i64.wrap n)))) (hw : IntKind.i64.wrap n = n)
  (k : QG P c ops M0 rest ⟨(t, .t (.int n)) :: s.fr, s.M⟩ (acc ++ [pl t (.t (.int n))]) Q) : QG P c ops M0 (o :: rest) s acc Q :=
 ⟨pl t (.t (.int n)), hd, fun s' ha _ Q h => WO_int hΓ hg hd ht (evV_mono ha he) hw h, k⟩
end
end Go.Eng
end
section
/- Structs that are put together out of their fields, and slices that grow in a statement of open order. -/
namespace Go.Eng
open Go.RowKit
section
variable {P : Program} {c : Ctx} {s : St} {Q : Exit → St → Prop} {ops : Array Oper} {rest : List Oper} {o : Oper}
def nodupB : List Nat → Bool
 | [] => true
 | x :: xs => !xs.elem x && nodupB xs
theorem nodupB_sound : ∀ {l : List Nat}, nodupB l = true → l.Nodup
 | [], _ => List.nodup_nil
 | x :: l, h => by
  simp only [nodupB, Bool.and_eq_true, Bool.not_eq_true'] at h
  refine List.nodup_cons.2 ⟨fun hx => ?_, nodupB_sound h.2⟩
  have := h.1
  simp [hx] at this
end
section
variable {P : Program} {c : Ctx} {s : St} {M0 : List (Nat × Blk)} {acc : List Dl} {Q : St → List Dl → Prop} {ops : Array Oper} {rest : List Oper} {o : Oper}
end
end Go.Eng
end
section
/- Lists that the cells of variables own: named, so that they can be read and grow. -/
namespace Go.Eng
open Go.RowKit
section
variable {P : Program} {c : Ctx} {s : St} {Q : Exit → St → Prop} {ops : Array Oper} {rest : List Oper} {o : Oper}
end
end Go.Eng
end
section
/- What is owned is laid open, list by list, to be written, and put together again; functions that write so, and are given more to read. -/
namespace Go.Eng
open Go.RowKit
def rb (e : Bool) (b sz : Nat) (ws : List Value) (ts : List T) : Blk := match e with
 | true => .rawV ws ts
 | false => .raw b sz ws ts
def opened (e : Bool) (n : Nat) (u : Value) : T := match e with
 | true => .list n []
 | false => .v u
section
variable {P : Program} {c : Ctx} {s : St} {Q : Exit → St → Prop} {ops : Array Oper} {rest : List Oper} {o : Oper}
theorem ownV_key {w : World} {F : Nat → Prop} {β : Place} {id : Nat} {blk : Blk} {mb : List Nat} {vs : List Value} {ts : List T} (hm : RelB w F β id blk mb) (hb : ownV blk = some (vs, ts)) :
  ∃ pre bs, mb = pre ++ bs ∧ OwnL w vs ts bs ∧ ∀ (j : Nat) (y : T) (bs' : List Nat), OwnL w vs (ts.set j y) bs' → RelB w F β id (setV j y blk) (pre ++ bs') := by
 cases blk with
 | L _ _ => simp [ownV] at hb
 | box _ => simp [ownV] at hb
 | ro _ _ => simp [ownV] at hb
 | pin _ _ _ _ => simp [ownV] at hb
 | obox _ _ => simp [ownV] at hb
 | raw b sz vs0 ts0 =>
  simp [ownV] at hb
  obtain ⟨rfl, rfl⟩ := hb
  obtain ⟨arr, e, bs, q1, q2, q3, q4, q5⟩ := hm
  exact ⟨[b], bs, by simp [q5], q4, fun j y bs' hO => ⟨arr, e, bs', q1, q2, q3, hO, rfl⟩⟩
 | rawV vs0 ts0 =>
  simp [ownV] at hb
  obtain ⟨rfl, rfl⟩ := hb
  exact ⟨[], mb, by simp, hm, fun j y bs' hO => by
   show OwnL w vs0 (ts0.set j y) ([] ++ bs')
   simpa using hO⟩
theorem WO_explode {l : List Oper} {id id2 j n : Nat} {blk : Blk} {vs : List Value} {ts : List T} {u : Value} {xs : List T} (hM : lookM s.M id = some blk) (hb : ownV blk = some (vs, ts)) (hu : vs[j]? = some u) (hx : ts[j]? = some (.list n xs)) (h2 : lookM s.M id2 = none)
  (k : ∀ (e : Bool) (ad : Option Addr) (b cap : Nat) (ws : List Value), u = .slice ad xs.length cap → (e = false → ad = some ⟨b, 0, none⟩) → (e = true → xs = []) → xs.length ≤ cap → cap ≤ maxLen → (∀ x, x ∈ xs → (T.cells x).length = n) →
   WO P c ops l ⟨s.fr, (id, setV j (opened e n u) blk) :: (id2, rb e b (cap * n) ws (xs.flatMap T.cells)) :: s.M⟩ Q) : WO P c ops l s Q := by
 have hne : ¬ id = id2 := fun e => by rw [e, h2] at hM; cases hM
 intro a w hi0
 have hi00 := hi0
 obtain ⟨F, β, fb, mb, ow, hi⟩ := hi00
 have hm := hi.mem id
 rw [hM] at hm
 obtain ⟨pre, bs, e1, hO, hback⟩ := ownV_key hm hb
 obtain ⟨b1, b2, b3, e2, hO2, hset⟩ := OwnL.at j hO hu hx
 have hou : ∀ b, b ∈ b2 → ow b = some (.inr id) := fun b h => hi.omem id b (by rw [e1, e2]; simp [h])
 have hnd := hi.nmem id
 rw [e1, e2] at hnd
 obtain ⟨n1, n2, n3⟩ := List.nodup_append.1 hnd
 obtain ⟨n4, n5, n6⟩ := List.nodup_append.1 n2
 obtain ⟨n7, n8, n9⟩ := List.nodup_append.1 n4
 have fin : ∀ (y : T) (blk2 : Blk) (g1 g2 : List Nat), b2 = g1 ++ g2 → OwnL w [u] [y] g1 → RelB w F β id2 blk2 g2 → Is c ⟨s.fr, (id, setV j y blk) :: (id2, blk2) :: s.M⟩ a w := by
  intro y blk2 g1 g2 hg hy hB2
  subst hg
  refine ⟨F, β, fb, fun i => if i = id then pre ++ (b1 ++ g1 ++ b3) else if i = id2 then g2 else mb i, fun b => if b ∈ g2 then some (.inr id2) else ow b, ?_⟩
  have hg2 : ∀ b, b ∈ g2 → b ∈ g1 ++ g2 := fun b h => by simp [h]
  refine { hi with mem := fun i => ?_, ofr := fun t b hb => ?_, omem := fun i b hb => ?_, nmem := fun i => ?_, own := fun b hb => ?_ }
  ·simp only [lookM]
   by_cases hi1 : id = i
   ·subst hi1
    rw [if_pos rfl, if_pos rfl]
    exact hback j y _ (hset w y g1 (fun b _ => rfl) hy)
   ·have hi1' : ¬ i = id := fun e => hi1 e.symm
    rw [if_neg hi1, if_neg hi1']
    by_cases hi2 : id2 = i
    ·subst hi2; rw [if_pos rfl, if_pos rfl]; exact hB2
    ·have hi2' : ¬ i = id2 := fun e => hi2 e.symm
     rw [if_neg hi2, if_neg hi2']
     exact hi.mem i
  ·have h5 := hi.ofr t b hb
   rw [if_neg (fun h => ?_)]
   ·exact h5
   ·rw [hou b (hg2 b h)] at h5; cases h5
  ·split at hb
   ·rename_i hid
    subst hid
    have hnb : b ∉ g2 := fun h => by
     rcases List.mem_append.1 hb with hb | hb
     ·exact n3 b hb b (by simp [h]) rfl
     ·rcases List.mem_append.1 hb with hb | hb
      ·rcases List.mem_append.1 hb with hb | hb
       ·exact n9 b hb b (by simp [h]) rfl
       ·exact (List.nodup_append.1 n8).2.2 b hb b h rfl
      ·exact n6 b (by simp [h]) b hb rfl
    rw [if_neg hnb]
    refine hi.omem i b ?_
    rw [e1, e2]
    rcases List.mem_append.1 hb with hb | hb
    ·simp [hb]
    ·rcases List.mem_append.1 hb with hb | hb
     ·rcases List.mem_append.1 hb with hb | hb <;> simp [hb]
     ·simp [hb]
   ·split at hb
    ·rename_i hid; subst hid; rw [if_pos hb]
    ·have h5 := hi.omem i b hb
     rw [if_neg (fun h => ?_)]
     ·exact h5
     ·rename_i h6 _
      rw [hou b (hg2 b h)] at h5; cases h5; exact h6 rfl
  ·split
   ·refine hnd.sublist ?_
    refine List.Sublist.append (List.Sublist.refl _) (List.Sublist.append (List.Sublist.append (List.Sublist.refl _) (List.sublist_append_left _ _)) (List.Sublist.refl _))
   ·split
    ·exact (List.nodup_append.1 n8).2.1
    ·exact hi.nmem i
  ·split at hb
   ·rename_i h
    exact hi.own b (by rw [hou b (hg2 b h)]; simp)
   ·exact hi.own b hb
 generalize hxe : T.list n xs = y at hO2
 cases hO2 with
 | v h3 h4 => cases hxe
 | none h3 =>
  injection hxe with g1 g2
  subst g1; subst g2
  cases h3
  exact k true _ 0 0 [] rfl (by simp) (fun _ => rfl) (Nat.le_refl _) (by simp [maxLen]) (by simp) a w (fin _ _ [] [] rfl (.none .nil) OwnL.nil)
 | list h3 h4 h5 h6 h7 h8 h9 h10 =>
  rename_i b cap n' cs xs' arr e c1 c2
  injection hxe with g1 g2
  subst g1; subst g2
  cases h10
  rw [List.append_nil] at fin
  by_cases hx0 : xs = []
  ·subst hx0
   exact k true _ 0 cap [] rfl (by simp) (fun _ => rfl) (by simp) h8 (by simp) a w (fin _ _ (b :: c1) [] (by simp) (by
    have := OwnL.list (vs := []) (ts := []) (bs' := []) h3 h4 h5 h6 h7 h8 h9 .nil
    rw [List.append_nil] at this
    exact this) OwnL.nil)
  ·have hcl : cs.length = xs.length * n := by rw [h9.length, flat_length h6]
   exact k false _ b cap cs rfl (fun _ => rfl) (by simp) h7 h8 h6 a w (fin _ _ [] (b :: c1) (by simp) (.v rfl .nil) ⟨arr, e, c1, h3, h4, by rw [hcl]; exact h5, h9, rfl⟩)
end
end Go.Eng
end
section
/- Functions that write into what a struct leads to, and read more beside. -/
namespace Go.Eng
open Go.RowKit
section
variable {P : Program} {c : Ctx} {s : St} {Q : Exit → St → Prop} {ops : Array Oper} {rest : List Oper} {o : Oper}
end
end Go.Eng
end
section
/- Lists whose elements are known by their values, apart from what those lead to. -/
namespace Go.Eng
open Go.RowKit
section
variable {P : Program} {c : Ctx} {s : St} {Q : Exit → St → Prop} {ops : Array Oper} {rest : List Oper} {o : Oper}
end
end Go.Eng
end
section
/- Cells whose values are known by what they are told to be; places in known slices, in open order; lists of which a part is done. -/
namespace Go.Eng
open Go.RowKit
section
variable {P : Program} {c : Ctx} {s : St} {Q : Exit → St → Prop} {ops : Array Oper} {rest : List Oper} {o : Oper}
theorem Is.told {a : Act} {w : World} (h : Is c s a w) {id j : Nat} {blk : Blk} {vs : List Value} {ts : List T} {u x : Value} (hM : lookM s.M id = some blk) (hb : ownV blk = some (vs, ts)) (hx : ts[j]? = some (.v x)) (hu : vs[j]? = some u) : u = x := by
 obtain ⟨F, β, fb, mb, ow, hi⟩ := h
 have hm := hi.mem id
 rw [hM] at hm
 obtain ⟨pre, bs, e1, hO, hback⟩ := ownV_key hm hb
 obtain ⟨b1, b2, b3, e2, hO2, hset⟩ := OwnL.at j hO hu hx
 cases hO2 with
 | v h3 h4 => rfl
theorem Is.ownLen {a : Act} {w : World} (h : Is c s a w) {id : Nat} {blk : Blk} {vs : List Value} {ts : List T} (hM : lookM s.M id = some blk) (hb : ownV blk = some (vs, ts)) : vs.length = ts.length := by
 obtain ⟨F, β, fb, mb, ow, hi⟩ := h
 have hm := hi.mem id
 rw [hM] at hm
 obtain ⟨pre, bs, e1, hO, hback⟩ := ownV_key hm hb
 exact hO.length
theorem WO_told {l : List Oper} {Q : Exit → St → Prop} (id j : Nat) {blk : Blk} {vs : List Value} {ts : List T} {u x : Value} (hM : lookM s.M id = some blk) (hb : ownV blk = some (vs, ts)) (hx : ts[j]? = some (.v x)) (hu : vs[j]? = some u) (k : u = x → WO P c ops l s Q) : WO P c ops l s Q :=
 fun a w h => k (h.told hM hb hx hu) a w h
theorem WO_ownLen {l : List Oper} {Q : Exit → St → Prop} (id : Nat) {blk : Blk} {vs : List Value} {ts : List T} (hM : lookM s.M id = some blk) (hb : ownV blk = some (vs, ts)) (k : vs.length = ts.length → WO P c ops l s Q) : WO P c ops l s Q :=
 fun a w h => k (h.ownLen hM hb) a w h
theorem QL_idxV {Q : St → Prop} {Γ : Tys} (hΓ : Γ.ok P) {ty e t b n cap : Nat} {x ix : Operand} {ti te : TI} {i : Int} (hg : o.guard = none) (hd : o.dst = some t) (ht : t < c.n) (ho : o.op = .indexAddr ty x ix)
  (h1 : tyOf Γ ty = some ti) (h2 : ti.kind = .slice e) (h3 : tyOf Γ e = some te) (hx : opd s.fr x = .t (.v (.slice (some ⟨b, 0, none⟩) n cap))) (hix : opd s.fr ix = .t (.int i)) (h5 : 0 ≤ i) (h6 : i < n)
  (k : QL P c ops rest ⟨(t, .t (.v (.pointer (some ⟨b, i.toNat * te.size, none⟩)))) :: s.fr, s.M⟩ Q) : QL P c ops (o :: rest) s Q :=
 ⟨t, _, hd, fun s' ha Q h => WO_idxV hΓ hg hd ht ho h1 h2 h3 (by rw [ha.opd (by rw [ho]; simp [Op.operands])]; exact hx) (by rw [ha.opd (by rw [ho]; simp [Op.operands])]; exact hix) h5 h6 h, k⟩
end
end Go.Eng
namespace Go.Eng
section
variable {P : Program} {c : Ctx} {s : St} {Q : Exit → St → Prop}
end
end Go.Eng
namespace Go.Eng
section
variable {P : Program} {c : Ctx} {s : St} {ops : Array Oper}
end
end Go.Eng
namespace Go.Eng
section
variable {P : Program} {c : Ctx} {s : St} {ops : Array Oper} {rest : List Oper} {Q : Exit → St → Prop}
end
end Go.Eng
end
section
/- Lists put together out of order. -/
namespace Go.Eng
open Go.RowKit
section
variable {P : Program} {c : Ctx} {s : St} {Q : Exit → St → Prop} {ops : Array Oper} {rest : List Oper} {o : Oper}
end
end Go.Eng
end
