import Derived.Test.YtafjkelehnpfcaaDoorMb

section
/- Rules for conversions of whole numbers, and for arrays of two. -/
set_option linter.unusedVariables false
set_option linter.unusedSimpArgs false
namespace Go.Eng
open Go.RowKit

section
variable {P : Program} {c : Ctx} {s : St} {Q : Exit → St → Prop} {ops : Array Oper} {rest : List Oper} {o : Oper}

theorem WO_conv {src dst t : Nat} {x : Operand} {td : TypeDesc} {k k0 : IntKind} {n : Int} (hg : o.guard = none) (hd : o.dst = some t) (ht : t < c.n) (ho : o.op = .convert src dst x)
    (h1 : P.underlying src = some td) (h2 : P.underlying dst = some (.int k)) (hx : opd s.fr x = .t (.v (.int k0 n)))
    (kk : WO P c ops rest ⟨(t, .t (.v (.int k (k.wrap n)))) :: s.fr, s.M⟩ Q) : WO P c ops (o :: rest) s Q := by
  refine WO_val hg hd ht _ (fun a w F β fb mb ow hi => ?_) kk
  refine ⟨.int k (k.wrap n), ?_, .t (.v rfl .nil) .done⟩
  have e := eval_v hi hx
  simp only [execOp, ho, e, convert, Sem.run_bind, run_underlying h1, run_underlying h2, Result.andThen_ok, Conv.intToInt, Sem.run_pure]

end
end Go.Eng
end

section
/- What is only read may be known by its value: so that lists of the call's own can hold it. -/
set_option linter.unusedVariables false
set_option linter.unusedSimpArgs false
namespace Go.Eng
open Go.RowKit

section
variable {P : Program} {c : Ctx} {s : St} {Q : Exit → St → Prop} {ops : Array Oper} {rest : List Oper} {o : Oper}

/-- Nothing is known of no values. -/
theorem Le.roNil (i : Nat) : Le c s ⟨s.fr, (i, .ro [] []) :: s.M⟩ := by
  rintro a w ⟨F, β, fb, mb, ow, hi⟩
  refine ⟨F, β, fb, fun j => if i = j then [] else mb j, ow, ?_⟩
  exact { hi with
    mem := fun j => by
      simp only [lookM]
      by_cases h : i = j
      · rw [if_pos h]; simp only [if_pos h]; exact ⟨.nil, rfl⟩
      · rw [if_neg h]; simp only [if_neg h]; exact hi.mem j
    omem := fun j b hb => by
      split at hb
      · cases hb
      · exact hi.omem j b hb
    nmem := fun j => by
      split
      · simp
      · exact hi.nmem j }

theorem exact_rel {w : World} {F : Nat → Prop} : ∀ {vs us : List Value}, RelL w F vs (us.map T.v) → vs = us
  | [], [], _ => rfl
  | [], _ :: _, h => by cases h
  | _ :: _, [], h => by cases h
  | v :: vs, u :: us, h => by
    rw [List.map_cons] at h
    have h1 := h.cons.1
    have h2 := exact_rel h.cons.2
    cases h1 with
    | v _ _ => rw [h2]
theorem cells_v (us : List Value) : (us.map T.v).flatMap T.cells = us.map T.v := by
  induction us with
  | nil => rfl
  | cons u us ih => rw [List.map_cons, List.flatMap_cons, ih]; rfl
theorem cells_one {ts : List T} (h : ∀ t, t ∈ ts → t.cells = [t]) : ts.flatMap T.cells = ts := by
  induction ts with
  | nil => rfl
  | cons t ts ih => rw [List.flatMap_cons, h t (List.mem_cons_self ..), ih fun x hx => h x (List.mem_cons_of_mem _ hx)]; rfl

/-- A list of values that are known to read so, is read so. -/
theorem RelL.told {w : World} {F : Nat → Prop} {x : Value} {us : List Value} {ts : List T} (h : RelL w F [x] [.list 1 (us.map T.v)]) (hr : RelL w F us ts) (ht : ∀ t, t ∈ ts → t.cells = [t]) : RelL w F [x] [.list 1 ts] := by
  generalize hy : T.list 1 (us.map T.v) = y at h
  cases h with
  | v _ _ => cases hy
  | none q =>
    injection hy with e1 e2
    have : us = [] := List.map_eq_nil_iff.1 e2
    subst this
    cases hr
    exact .none .nil
  | @list b o cap n cs xs arr e fz vs ts' q1 q2 q3 q4 q5 q6 q7 =>
    injection hy with e1 e2
    subst e1; subst e2
    rw [cells_v] at q6
    have hcs := exact_rel q6
    subst hcs
    have hl := hr.length
    have h1 : (cs.map T.v).length = ts.length := by rw [List.length_map]; exact hl
    rw [h1]
    exact RelL.list q1 q2 q3 (fun t h => by rw [ht t h]; rfl) (by omega) (by rw [cells_one ht]; exact hr) .nil

end
end Go.Eng
end

section
/- Statements of open order in which an operation that hangs on nothing may come anywhere, beside others whose place is fixed. -/
set_option linter.unusedVariables false
set_option linter.unusedSimpArgs false
namespace Go.Eng
open Go.RowKit

section
variable {P : Program} {c : Ctx} {s : St} {Q : Exit → St → Prop} {ops : Array Oper} {rest : List Oper} {o : Oper}
end
end Go.Eng
end

section
/- A call whose answer may be a part of what is read, in a statement of open order. -/
set_option linter.unusedVariables false
set_option linter.unusedSimpArgs false
namespace Go.Eng
open Go.RowKit

section
variable {P : Program} {c : Ctx} {s : St} {Q : St → Prop} {ops : Array Oper} {rest : List Oper} {o : Oper}

theorem QL_callF {t : Nat} {fo : Operand} {args : Array Operand} {tys : Array TypeId} {f : FuncId} {caps es : List D} {r : D} (hg : o.guard = none) (hd : o.dst = some t) (ht : t < c.n)
    (ho : o.op = .call { callee := .value fo, args := args, argTypes := tys }) (hf : opd s.fr fo = .clo f caps) (hes : args.toList.map (opd s.fr) ++ caps = es) (hcl : D.closed.closedL es = true) (hfr : D.free.freeL es = true)
    (hc : Fun P f es r) (hn : r.closed = true)
    (k : QL P c ops rest ⟨(t, r) :: s.fr, s.M⟩ Q) : QL P c ops (o :: rest) s Q :=
  ⟨t, _, hd, fun s' ha Q h => by
    have e1 : opd s'.fr fo = opd s.fr fo := ha.opd (by rw [ho]; simp [Op.operands, Call.operands])
    have e2 : args.toList.map (opd s'.fr) = args.toList.map (opd s.fr) := ha.opds fun x hx => by
      rw [ho]
      simp only [Op.operands, Call.operands, Array.mem_append]
      exact .inr (by simpa using hx)
    exact WO_callF hg hd ht ho (by rw [e1]; exact hf) (by rw [e2]; exact hes) hcl hfr hc hn h, k⟩

/-- A whole struct is read, to be handed on. -/
theorem QL_evZ {Γ : Tys} (hΓ : Γ.ok P) {t : Nat} {d d' : D} (hg : o.guard = none) (hd : o.dst = some t) (ht : t < c.n) (he : evF Γ s o.op = some d) (hz : frz d = some d') (k : QL P c ops rest ⟨(t, d') :: s.fr, s.M⟩ Q) : QL P c ops (o :: rest) s Q :=
  ⟨t, d', hd, fun s' ha Q h => by
    have h1 : Le c ⟨(t, d) :: s'.fr, s'.M⟩ ⟨(t, d') :: (t, d) :: s'.fr, s'.M⟩ := Le.freeze (u := t) (by
      show frz (if t = t then d else look s'.fr t) = _
      rw [if_pos rfl]; exact hz)
    have h2 : Le c ⟨(t, d') :: (t, d) :: s'.fr, s'.M⟩ ⟨(t, d') :: s'.fr, s'.M⟩ := Le.of (fun u => .inl (by
      show (if t = u then d' else look s'.fr u) = if t = u then d' else if t = u then d else look s'.fr u
      split <;> rfl)) (fun u => .inl rfl)
    exact WO_evF hΓ hg hd ht (by unfold evF at he ⊢; rwa [evV_agree ha]) (WO_le (h1.trans h2) h), k⟩

/-- What is left over, and how often it goes. -/
theorem WO_rem {Q : Exit → St → Prop} {t ty ty' : Nat} {x y : Operand} {a b : Int} (hg : o.guard = none) (hd : o.dst = some t) (ht : t < c.n) (ho : o.op = .binOp .rem ty x y ty') (hx : opd s.fr x = .t (.v (.int .i64 a))) (hy : opd s.fr y = .t (.v (.int .i64 b)))
    (hb : b ≠ 0) (kk : WO P c ops rest ⟨(t, .t (.v (.int .i64 (a.tmod b)))) :: s.fr, s.M⟩ Q) : WO P c ops (o :: rest) s Q := by
  refine WO_val hg hd ht _ (fun a' w F β fb mb ow hi => ?_) kk
  refine ⟨.int .i64 (a.tmod b), ?_, .t (.v rfl .nil) .done⟩
  have e1 := eval_v hi hx
  have e2 := eval_v hi hy
  simp only [execOp, ho, e1, e2]
  simp [eqGuard, binOp, Op.intDiv, hb]
theorem WO_quo {Q : Exit → St → Prop} {t ty ty' : Nat} {x y : Operand} {a b : Int} (hg : o.guard = none) (hd : o.dst = some t) (ht : t < c.n) (ho : o.op = .binOp .quo ty x y ty') (hx : opd s.fr x = .t (.v (.int .i64 a))) (hy : opd s.fr y = .t (.v (.int .i64 b)))
    (hb : b ≠ 0) (kk : WO P c ops rest ⟨(t, .t (.v (.int .i64 (IntKind.i64.wrap (a.tdiv b))))) :: s.fr, s.M⟩ Q) : WO P c ops (o :: rest) s Q := by
  refine WO_val hg hd ht _ (fun a' w F β fb mb ow hi => ?_) kk
  refine ⟨.int .i64 (IntKind.i64.wrap (a.tdiv b)), ?_, .t (.v rfl .nil) .done⟩
  have e1 := eval_v hi hx
  have e2 := eval_v hi hy
  simp only [execOp, ho, e1, e2]
  simp [eqGuard, binOp, Op.intDiv, hb]

end
end Go.Eng
end

section
/- Statements of open order, told by the state that each set of operations that are done leaves: those may make memory, and move what is owned. -/
set_option linter.unusedVariables false
set_option linter.unusedSimpArgs false
namespace Go.Eng
open Go.RowKit

section
variable {P : Program} {c : Ctx} {s : St} {Q : Exit → St → Prop} {ops : Array Oper} {rest : List Oper} {o : Oper}

/-- What an operation does, from one state to another. -/
def StepTo (P : Program) (c : Ctx) (ops : Array Oper) (o : Oper) (s s2 : St) : Prop := ∀ Q : Exit → St → Prop, WO P c ops [] s2 Q → WO P c ops [o] s Q
theorem StepTo.wp {s2 : St} (h : StepTo P c ops o s s2) {a : Act} {w : World} (hi : Is c s a w) {K : Act → World → Prop} {Q' : Exit → Act → World → Prop}
    (hK : ∀ a' w', Is c s2 a' w' → K a' w') : if Region.wanted o (yielded ops a.tmps) then o.wp P a w K Q' else K (a.put o.dst undef) w := by
  let Q : Exit → St → Prop := fun e s' => match e with | .normal => s' = s2 | _ => False
  have h1 := h Q (fun a w hi => ⟨_, hi, rfl⟩) a w hi
  unfold wpList at h1
  have hQ : ∀ e a w, lift c Q e a w → (match e with | .normal => K a w | _ => False) := fun e a w ⟨s', h2, h3⟩ => by
    cases e with
    | normal => have h3' : s' = s2 := h3; subst h3'; exact hK _ _ h2
    | _ => exact h3.elim
  split at h1
  · rename_i hw
    rw [if_pos hw]
    rcases h1 with h1 | ⟨_, a', w', h2⟩
    · unfold Oper.wp at h1 ⊢
      generalize (execOp a.eval o).run P w = r at h1
      cases r with
      | ok n w' =>
        cases n <;> simp only [Oper.upon] at h1 ⊢ <;> first
          | exact hQ .normal _ _ h1
          | (refine Calls.mono h1 fun e w'' he => ?_
             cases e with
             | returned v => exact hQ .normal _ _ he
             | panicked ch => exact (hQ _ _ _ he).elim
             | outgrown => obtain ⟨a1, w1, h3⟩ := he; exact (hQ _ _ _ h3).elim)
          | exact Rows.mono h1 fun _ _ he => hQ .normal _ _ he
          | exact h1
      | halt x w' => cases x <;> simp only [Oper.upon] at h1 ⊢ <;> first | exact (hQ _ _ _ h1).elim | exact h1
    · exact (hQ _ _ _ h2).elim
  · rename_i hw
    rw [if_neg hw]
    exact hQ .normal _ _ h1

/-- A region of open order, its run told ahead of the step that draws the order. -/
def WR (P : Program) (c : Ctx) (ops : Array Oper) (s : St) (Q : Exit → St → Prop) : Prop := ∀ a w, Is c s a w → wpAny P .any ops (lift c Q) ops.size (Array.replicate ops.size false) a { w with drawn := w.drawn + 1 }
theorem W_of_WR {id : Nat} (hm : P.follows .mixedOrders = true) (h : WR P c ops s Q) : W P c (.region id ops true) s Q := fun a w hi => wp_region_any hm (h a w hi)
theorem WR_S {l1 l2 : List Oper} {ops : Array Oper} (he : ops = (l1 ++ l2).toArray) (hB : orderT ops l1.length = true) (hT0 : l2 = [] ∨ tailT ops l1.length = true)
    (S : (Nat → Bool) → St) (h0 : ∀ X : Nat → Bool, (∀ j, X j = false) → Le c s (S X))
    (hst : ∀ (X : Nat → Bool) (i : Nat) (o : Oper), l1[i]? = some o → X i = false → (∀ j oj, l1[j]? = some oj → X j = true → ∀ e, e ∈ oj.after → Region.binds .any e = true → X e.on = true) →
      (∀ e, e ∈ o.after → Region.binds .any e = true → X e.on = true) → StepTo P c ops o (S X) (S fun j => X j || j == i))
    (hend : ∀ X : Nat → Bool, (∀ j, j < l1.length → X j = true) → WO P c ops l2 (S X) Q) : WR P c ops s Q := by
  intro a w hi
  have hops : ∀ j, j < l1.length → ops[j]? = l1[j]? := fun j hj => by subst he; rw [List.getElem?_toArray, List.getElem?_append_left hj]
  have hops2 : ∀ j, l2[j]? = ops[l1.length + j]? := fun j => by subst he; rw [List.getElem?_toArray, List.getElem?_append_right (Nat.le_add_right _ _), Nat.add_sub_cancel_left]
  have hsize : ops.size = l1.length + l2.length := by subst he; simp
  -- the state once X is done
  have key : ∀ (n : Nat) (listed : Array Bool) (a : Act) (w : World), listed.size = ops.size → n + listed.toList.count true = l1.length →
      (∀ j, l1.length ≤ j → listed.getD j false = false) →
      (∀ j oj, l1[j]? = some oj → listed.getD j false = true → ∀ e, e ∈ oj.after → Region.binds .any e = true → listed.getD e.on false = true) →
      Is c (S fun j => listed.getD j false) a w →
      wpAny P .any ops (lift c Q) (n + l2.length) listed a w := by
    intro n
    induction n with
    | zero =>
      intro listed a w hsz hcnt htl hcl hs'
      have hall : ∀ j, j < l1.length → listed.getD j false = true := by
        intro j hj
        refine Classical.byContradiction fun hf => ?_
        have hf' : listed.getD j false = false := by simpa using hf
        -- one of the first is not done, so fewer are
        have h1 : listed.toList.count true ≤ (listed.toList.take l1.length).count true := by
          conv => lhs; rw [← List.take_append_drop l1.length listed.toList, List.count_append]
          have : (listed.toList.drop l1.length).count true = 0 := List.count_eq_zero.2 fun hm => by
            obtain ⟨j, hj, hjt⟩ := List.getElem_of_mem hm
            rw [List.getElem_drop] at hjt
            rw [List.length_drop, Array.length_toList (xs := listed)] at hj
            have h5 := htl (l1.length + j) (by omega)
            rw [Array.getD_eq_getD_getElem?, Array.getElem?_eq_getElem (by omega)] at h5
            rw [Array.getElem_toList] at hjt
            rw [hjt] at h5; cases h5
          omega
        have h2 : (listed.toList.take l1.length).length = l1.length := by have := Array.length_toList (xs := listed); rw [List.length_take]; omega
        have h3 := List.count_le_length (a := true) (l := listed.toList.take l1.length)
        have h4 : (listed.toList.take l1.length).count true = (listed.toList.take l1.length).length := by omega
        rw [List.count_eq_length] at h4
        have hjs : j < listed.size := by omega
        have := h4 (listed[j]) (by rw [List.mem_take_iff_getElem]; exact ⟨j, by simp; omega, by simp⟩)
        rw [Array.getD_eq_getD_getElem?, Array.getElem?_eq_getElem hjs] at hf'
        rw [← this] at hf'; cases hf'
      rw [Nat.zero_add]
      rcases hT0 with hl2 | hT
      · subst hl2
        refine ⟨List.eq_nil_iff_forall_not_mem.2 fun i hi => ?_, hend _ hall a w hs'⟩
        obtain ⟨oi, h1, h2, _⟩ := of_ready hsz hi
        have := (Array.getElem?_eq_some_iff.1 h1).1
        rw [hall i (by simp at hsize; omega)] at h2
        cases h2
      refine tail_run hB hT l2 l1.length listed a w (Nat.le_refl _) hsize.symm hops2 hsz (fun j hj => ?_) ?_
      · by_cases hjl : j < l1.length
        · rw [hall j hjl]; simp [hjl]
        · rw [htl j (by omega)]; simp [hjl]
      · exact hend _ hall a w hs'
    | succ n ih =>
      intro listed a w hsz hcnt htl hcl hs'
      -- one of the first is not done
      have hsome : ∃ i, i < l1.length ∧ listed.getD i false = false := by
        refine Classical.byContradiction fun hno => ?_
        have hall : ∀ j, j < l1.length → listed.getD j false = true := fun j hj => by
          refine Classical.byContradiction fun hf => hno ⟨j, hj, by simpa using hf⟩
        have h1 : l1.length ≤ (listed.toList.take l1.length).count true := by
          have h2 : (listed.toList.take l1.length).length = l1.length := by have := Array.length_toList (xs := listed); rw [List.length_take]; omega
          have : (listed.toList.take l1.length).count true = (listed.toList.take l1.length).length := List.count_eq_length.2 fun b hb => by
            obtain ⟨j, hj, rfl⟩ := List.mem_take_iff_getElem.1 hb
            rw [Array.length_toList (xs := listed)] at hj
            have h5 := hall j (by omega)
            rw [Array.getD_eq_getD_getElem?, Array.getElem?_eq_getElem (by omega)] at h5
            simpa using h5.symm
          omega
        have h3 : (listed.toList.take l1.length).count true ≤ listed.toList.count true := (List.take_sublist _ _).count_le _
        omega
      have hleast : ∃ i, i < l1.length ∧ listed.getD i false = false ∧ ∀ j, j < i → listed.getD j false = true := by
        obtain ⟨i0, hi0, hu0⟩ := hsome
        clear hcnt
        induction i0 using Nat.strongRecOn with
        | _ n ihn =>
          by_cases hx : ∃ j, j < n ∧ listed.getD j false = false
          · obtain ⟨j, hj, hf⟩ := hx
            exact ihn j hj (by omega) hf
          · refine ⟨n, hi0, hu0, fun j hj => ?_⟩
            cases hf : listed.getD j false with
            | true => rfl
            | false => exact absurd ⟨j, hj, hf⟩ hx
      have hready : Region.ready .any ops listed ≠ [] := by
        obtain ⟨i, hi1, hi2, hi3⟩ := hleast
        have hoi : ops[i]? = some l1[i] := by rw [hops i hi1]; simp
        intro hnil
        have : i ∈ Region.ready .any ops listed := ready_of hsz hoi hi2 fun e he hb => hi3 _ (orderT_lt hB hoi e he hb)
        rw [hnil] at this; cases this
      rw [Nat.succ_add]
      refine ⟨fun h => absurd h hready, fun i hir => ?_⟩
      -- operation i, now
      obtain ⟨oi, hoi0, hun', hafter⟩ := of_ready hsz hir
      have hil : i < l1.length := by
        rcases hT0 with hl2 | hT
        · have := (Array.getElem?_eq_some_iff.1 hoi0).1
          subst hl2
          simp at hsize
          omega
        refine Classical.byContradiction fun hni => ?_
        by_cases hie : i = l1.length
        · subst hie
          have hall : ∀ d j, j + d = l1.length → d ≠ 0 → listed.getD j false = true := by
            intro d
            induction d using Nat.strongRecOn with
            | _ d ihd =>
              intro j hjd hd
              obtain ⟨j2, oj2, p1, p2, p3, e, p4, p5, p6⟩ := tailT_first hT (k := j) (by omega)
              by_cases hj2 : j2 = l1.length
              · subst hj2
                rw [hoi0] at p3; cases p3
                rw [← p6]; exact hafter e p4 p5
              · rw [← p6]
                exact hcl j2 oj2 (by rw [← hops j2 (by omega)]; exact p3) (ihd (l1.length - j2) (by omega) j2 (by omega) (by omega)) e p4 p5
          obtain ⟨j, hj, hf⟩ := hsome
          rw [hall (l1.length - j) j (by omega) (by omega)] at hf; cases hf
        · obtain ⟨e, p4, p5, p6⟩ := tailT_next hT hoi0 (by omega)
          have := hafter e p4 p5
          rw [p6, htl _ (by omega)] at this; cases this
      have hoi : ops[i]? = some l1[i] := by rw [hops i hil]; simp
      rw [hoi] at hoi0; cases hoi0
      have hli : l1[i]? = some l1[i] := List.getElem?_eq_getElem hil
      have hst2 := hst (fun j => listed.getD j false) i l1[i] hli hun' hcl hafter
      unfold wpOp
      rw [hoi]
      dsimp only
      have hset : ∀ j, (listed.setIfInBounds i true).getD j false = (listed.getD j false || j == i) := getD_set (by omega)
      have hfin := hst2.wp (K := wpAny P .any ops (lift c Q) (n + l2.length) (listed.setIfInBounds i true)) (Q' := lift c Q) hs' fun a' w' h' => by
        refine ih _ a' w' (by simp [hsz]) ?_ ?_ ?_ (by rw [show (fun j => (listed.setIfInBounds i true).getD j false) = (fun j => listed.getD j false || j == i) from funext hset]; exact h')
        · have hl2 : listed.toList[i]? = some false := by
            rw [Array.getElem?_toList, Array.getElem?_eq_getElem (by omega)]
            rw [Array.getD_eq_getD_getElem?, Array.getElem?_eq_getElem (by omega)] at hun'
            simpa using hun'
          rw [Array.toList_setIfInBounds, count_set hl2]
          omega
        · intro j hj
          rw [hset, htl j hj]
          simp; omega
        · intro j oj hj hX e he hb
          rw [hset] at hX ⊢
          by_cases hji : j = i
          · subst hji
            have : oj = l1[j] := by rw [hli] at hj; exact (Option.some.inj hj).symm
            subst this
            rw [hafter e he hb]; rfl
          · have : (j == i) = false := by simp [hji]
            rw [this, Bool.or_false] at hX
            rw [hcl j oj hj hX e he hb]; rfl
      by_cases hw : Region.wanted l1[i] (yielded ops a.tmps) = true
      · rw [if_pos hw] at hfin ⊢
        exact .inl hfin
      · rw [if_neg hw] at hfin ⊢
        exact hfin
  have hk0 := key l1.length (Array.replicate ops.size false) a { w with drawn := w.drawn + 1 } (by simp) (by simp [List.count_replicate]) (fun j hj => by
      rw [Array.getD_eq_getD_getElem?, Array.getElem?_replicate]
      split <;> rfl) (by
      intro j oj hj hX
      rw [Array.getD_eq_getD_getElem?, Array.getElem?_replicate] at hX
      split at hX <;> simp at hX) (by
      refine h0 _ (fun j => ?_) _ _ ?_
      · rw [Array.getD_eq_getD_getElem?, Array.getElem?_replicate]
        split <;> rfl
      · obtain ⟨F, β, fb, mb, ow, hi'⟩ := hi
        exact ⟨F, β, fb, mb, ow, hi'.drew⟩)
  rw [hsize]
  rw [hsize] at hk0
  exact hk0

end
end Go.Eng
end

section
/- Walks of statements of open order in which memory is made, and what is owned is moved. -/
set_option linter.unusedVariables false
set_option linter.unusedSimpArgs false
namespace Go.Eng
open Go.RowKit

/-- What an operation leaves: its answer, what it has moved away, memory that it has made. -/
structure Dl where
  t : Nat
  d : D
  mv : List Nat
  M : List (Nat × Blk)
  b : Bool
def Dl.fr (x : Dl) : List (Nat × D) := (x.t, x.d) :: x.mv.map fun u => (u, D.top)
def Dl.on (x : Dl) (s : St) : St := ⟨x.fr ++ s.fr, x.M ++ s.M⟩
def mrg (xs : List Dl) (X : Nat → Bool) (s : St) : Nat → St
  | 0 => s
  | k + 1 => match xs[k]? with
    | some x => if X k then x.on (mrg xs X s k) else mrg xs X s k
    | none => mrg xs X s k
def onL : List Dl → St → St
  | [], s => s
  | x :: xs, s => onL xs (x.on s)
def inF {α : Type} (l : List (Nat × α)) (u : Nat) : Bool := l.any fun p => p.1 == u

theorem look_app : ∀ (a b : List (Nat × D)) (u : Nat), look (a ++ b) u = if inF a u then look a u else look b u
  | [], b, u => by simp [inF]
  | (k, d) :: a, b, u => by
    rw [List.cons_append, look, look]
    by_cases h : k = u
    · subst h; simp [inF]
    · rw [if_neg h, if_neg h, look_app a b u]
      have : inF ((k, d) :: a) u = inF a u := by simp [inF, h]
      rw [this]
theorem lookM_app : ∀ (a b : List (Nat × Blk)) (u : Nat), lookM (a ++ b) u = if inF a u then lookM a u else lookM b u
  | [], b, u => by simp [inF]
  | (k, d) :: a, b, u => by
    rw [List.cons_append, lookM, lookM]
    by_cases h : k = u
    · subst h; simp [inF]
    · rw [if_neg h, if_neg h, lookM_app a b u]
      have : inF ((k, d) :: a) u = inF a u := by simp [inF, h]
      rw [this]
theorem onL_snoc : ∀ (xs : List Dl) (x : Dl) (s : St), onL (xs ++ [x]) s = x.on (onL xs s)
  | [], x, s => rfl
  | y :: xs, x, s => by rw [List.cons_append, onL, onL_snoc xs x]; rfl

section
variable {xs : List Dl} {X Y : Nat → Bool} {s : St}
theorem mrg_all : ∀ {n : Nat}, n ≤ xs.length → (∀ j, j < n → X j = true) → mrg xs X s n = onL (xs.take n) s
  | 0, _, _ => rfl
  | n + 1, hn, h => by
    rw [mrg, List.getElem?_eq_getElem (by omega)]
    dsimp only
    rw [if_pos (h n (by omega)), mrg_all (by omega) fun j hj => h j (by omega), List.take_add_one, List.getElem?_eq_getElem (by omega)]
    exact (onL_snoc _ _ _).symm
theorem mrg_stop {i : Nat} : ∀ {n : Nat}, i ≤ n → (∀ j, i ≤ j → X j = false) → mrg xs X s n = mrg xs X s i
  | 0, hi, _ => by have : i = 0 := by omega
                   subst this; rfl
  | n + 1, hi, h => by
    by_cases e : i = n + 1
    · rw [e]
    · rw [mrg, h n (by omega)]
      have := mrg_stop (n := n) (by omega) h
      cases xs[n]? <;> simpa using this
theorem mrg_fr {u : Nat} : ∀ {n : Nat}, (∀ j x, j < n → xs[j]? = some x → inF x.fr u = true → X j = Y j) → look (mrg xs X s n).fr u = look (mrg xs Y s n).fr u
  | 0, _ => rfl
  | n + 1, h => by
    have ih := mrg_fr (n := n) fun j x hj => h j x (by omega)
    rw [mrg, mrg]
    cases e : xs[n]? with
    | none => exact ih
    | some x =>
      dsimp only
      cases hx : inF x.fr u with
      | true => rw [h n x (by omega) e hx]; cases Y n <;> simp [Dl.on, look_app, hx, ih]
      | false => cases X n <;> cases Y n <;> simp [Dl.on, look_app, hx, ih]
theorem mrg_M {u : Nat} : ∀ {n : Nat}, (∀ j x, j < n → xs[j]? = some x → inF x.M u = true → X j = Y j) → lookM (mrg xs X s n).M u = lookM (mrg xs Y s n).M u
  | 0, _ => rfl
  | n + 1, h => by
    have ih := mrg_M (n := n) fun j x hj => h j x (by omega)
    rw [mrg, mrg]
    cases e : xs[n]? with
    | none => exact ih
    | some x =>
      dsimp only
      cases hx : inF x.M u with
      | true => rw [h n x (by omega) e hx]; cases Y n <;> simp [Dl.on, lookM_app, hx, ih]
      | false => cases X n <;> cases Y n <;> simp [Dl.on, lookM_app, hx, ih]
theorem mrg_add_fr {i u : Nat} {x : Dl} (hx : xs[i]? = some x) (hX : X i = false) (hu : inF x.fr u = true) : ∀ {n : Nat}, i < n → (∀ j y, j < n → i < j → X j = true → xs[j]? = some y → inF y.fr u = false) →
    look (mrg xs (fun j => X j || j == i) s n).fr u = look x.fr u
  | 0, h, _ => by omega
  | n + 1, h, hno => by
    rw [mrg]
    by_cases e : n = i
    · subst e
      rw [hx]
      simp [Dl.on, look_app, hu]
    · have ih := mrg_add_fr hx hX hu (n := n) (by omega) fun j y hj => hno j y (by omega)
      have hni : (n == i) = false := by simpa using e
      rw [hni, Bool.or_false]
      cases e2 : xs[n]? with
      | none => exact ih
      | some y =>
        dsimp only
        cases hXn : X n with
        | false => simpa using ih
        | true =>
          have := hno n y (by omega) (by omega) hXn e2
          simp [Dl.on, look_app, this, ih]
theorem mrg_add_M {i u : Nat} {x : Dl} (hx : xs[i]? = some x) (hX : X i = false) (hu : inF x.M u = true) : ∀ {n : Nat}, i < n → (∀ j y, j < n → i < j → X j = true → xs[j]? = some y → inF y.M u = false) →
    lookM (mrg xs (fun j => X j || j == i) s n).M u = lookM x.M u
  | 0, h, _ => by omega
  | n + 1, h, hno => by
    rw [mrg]
    by_cases e : n = i
    · subst e
      rw [hx]
      simp [Dl.on, lookM_app, hu]
    · have ih := mrg_add_M hx hX hu (n := n) (by omega) fun j y hj => hno j y (by omega)
      have hni : (n == i) = false := by simpa using e
      rw [hni, Bool.or_false]
      cases e2 : xs[n]? with
      | none => exact ih
      | some y =>
        dsimp only
        cases hXn : X n with
        | false => simpa using ih
        | true =>
          have := hno n y (by omega) (by omega) hXn e2
          simp [Dl.on, lookM_app, this, ih]
end

/-- Nothing speaks of memory by this id. -/
def cleanB (t : Nat) : Blk → Bool
  | .box cells => !D.has.hasL t cells
  | .pin i _ _ _ => !(i == t)
  | _ => true
def Cl (t : Nat) (s : St) : Prop := (∀ u, (look s.fr u).has t = false) ∧ (∀ id k, lookM s.M id = some k → cleanB t k = true) ∧ lookM s.M t = none
theorem kill_of {t : Nat} {d : D} (h : d.has t = false) : d.kill t = d := by unfold D.kill; rw [h]; rfl
theorem kills_of {t : Nat} : ∀ {l : List D}, D.has.hasL t l = false → l.map (D.kill t) = l
  | [], _ => rfl
  | d :: l, h => by
    simp only [D.has.hasL, Bool.or_eq_false_iff] at h
    rw [List.map_cons, kill_of h.1, kills_of h.2]
theorem killB_of {t : Nat} {k : Blk} (h : cleanB t k = true) : k.kill t = k := by
  cases k with
  | box cells => simp only [cleanB, Bool.not_eq_true'] at h; simp only [Blk.kill]; rw [kills_of h]
  | pin i b n c => simp only [cleanB, Bool.not_eq_true', beq_eq_false_iff_ne] at h; simp only [Blk.kill]; rw [if_neg h]
  | _ => rfl
def clFr (t : Nat) (fr : List (Nat × D)) : Bool := fr.all fun p => !p.2.has t
def clM (t : Nat) (M : List (Nat × Blk)) : Bool := M.all fun p => cleanB t p.2 && p.1 != t
theorem clFr_look {t : Nat} : ∀ {fr : List (Nat × D)}, clFr t fr = true → ∀ u, (look fr u).has t = false
  | [], _, u => rfl
  | (k, d) :: fr, h, u => by
    simp only [clFr, List.all_cons, Bool.and_eq_true, Bool.not_eq_true'] at h
    rw [look]
    split
    · exact h.1
    · exact clFr_look (by simpa [clFr] using h.2) u
theorem clM_look {t : Nat} : ∀ {M : List (Nat × Blk)}, clM t M = true → (∀ id k, lookM M id = some k → cleanB t k = true) ∧ lookM M t = none
  | [], _ => ⟨fun id k h => (by cases h), rfl⟩
  | (k, d) :: M, h => by
    simp only [clM, List.all_cons, Bool.and_eq_true] at h
    have ih := clM_look (M := M) (by simpa [clM] using h.2)
    refine ⟨fun id b hb => ?_, ?_⟩
    · rw [lookM] at hb
      split at hb
      · cases hb; exact h.1.1
      · exact ih.1 id b hb
    · rw [lookM, if_neg (by have := h.1.2; simpa using this)]; exact ih.2
theorem Cl.on {t : Nat} {s : St} {x : Dl} (h : Cl t s) (h1 : clFr t x.fr = true) (h2 : clM t x.M = true) : Cl t (x.on s) := by
  refine ⟨fun u => ?_, fun id k hk => ?_, ?_⟩
  · simp only [Dl.on, look_app]
    split
    · exact clFr_look h1 u
    · exact h.1 u
  · simp only [Dl.on, lookM_app] at hk
    split at hk
    · exact (clM_look h2).1 id k hk
    · exact h.2.1 id k hk
  · simp only [Dl.on, lookM_app]
    split
    · exact (clM_look h2).2
    · exact h.2.2
theorem Cl.mrg {t : Nat} {s : St} {xs : List Dl} {X : Nat → Bool} (h : Cl t s) : ∀ {n : Nat}, (∀ j x, j < n → X j = true → xs[j]? = some x → clFr t x.fr = true ∧ clM t x.M = true) → Cl t (mrg xs X s n)
  | 0, _ => h
  | n + 1, hx => by
    have ih := Cl.mrg h (n := n) fun j x hj => hx j x (by omega)
    rw [Eng.mrg]
    cases e : xs[n]? with
    | none => exact ih
    | some x =>
      dsimp only
      cases hX : X n with
      | false => simpa using ih
      | true =>
        have := hx n x (by omega) hX e
        simpa using ih.on this.1 this.2

/-- What must not meet. -/
def pairB (ops : Array Oper) (i j : Nat) (oi oj : Oper) (xi xj : Dl) : Bool :=
  (xj.mv.all fun u => !(oi.looksAt ops).contains u && (!xi.mv.contains u && (u != xi.t || (Nat.blt i j && bindsOn oj i)))) &&
  ((xj.M.all fun p => !inF xi.M p.1) && (!xi.b || (clFr xi.t xj.fr && clM xi.t xj.M)))
def baseB (s : St) (x : Dl) : Bool := (x.M.all fun p => !inF s.M p.1) && (!x.b || (clFr x.t s.fr && clM x.t s.M))
def chk (ops : Array Oper) (l : List Oper) (s : St) (xs : List Dl) : Bool :=
  (xs.all (baseB s)) && (List.range l.length).all fun i => (List.range l.length).all fun j => i == j || match l[i]?, l[j]?, xs[i]?, xs[j]? with
    | some oi, some oj, some xi, some xj => pairB ops i j oi oj xi xj
    | _, _, _, _ => false

section
variable {P : Program} {c : Ctx} {s : St} {Q : Exit → St → Prop} {ops : Array Oper} {rest : List Oper} {o : Oper}

/-- The same temporaries, for an operation; at least the memory that there was. -/
def AgreeG (ops : Array Oper) (o : Oper) (fr : List (Nat × D)) (M : List (Nat × Blk)) (s' : St) : Prop := (∀ id k, lookM M id = some k → lookM s'.M id = some k) ∧ ∀ u, u ∈ o.looksAt ops → look s'.fr u = look fr u

def QG (P : Program) (c : Ctx) (ops : Array Oper) (M0 : List (Nat × Blk)) : List Oper → St → List Dl → (St → List Dl → Prop) → Prop
  | [], s, acc, Q => Q s acc
  | o :: rest, s, acc, Q => ∃ x : Dl, o.dst = some x.t ∧ (∀ s', AgreeG ops o s.fr M0 s' → (x.b = true → Cl x.t s') → StepTo P c ops o s' (x.on s')) ∧ QG P c ops M0 rest (x.on s) (acc ++ [x]) Q

theorem QG.steps {M0 : List (Nat × Blk)} : ∀ {l : List Oper} {s : St} {acc : List Dl} {Q : St → List Dl → Prop}, QG P c ops M0 l s acc Q → ∃ xs : List Dl, xs.length = l.length ∧ Q (onL xs s) (acc ++ xs) ∧
    ∀ i o, l[i]? = some o → ∃ x, xs[i]? = some x ∧ o.dst = some x.t ∧ ∀ s', AgreeG ops o (onL (xs.take i) s).fr M0 s' → (x.b = true → Cl x.t s') → StepTo P c ops o s' (x.on s')
  | [], s, acc, Q, h => ⟨[], rfl, by rw [List.append_nil]; exact h, by simp⟩
  | o :: rest, s, acc, Q, h => by
    obtain ⟨x, h1, h2, h3⟩ := h
    obtain ⟨xs, q1, q2, q3⟩ := QG.steps h3
    refine ⟨x :: xs, by simp [q1], by simpa [onL] using q2, fun i o' hi => ?_⟩
    cases i with
    | zero => simp at hi; subst hi; exact ⟨x, rfl, h1, h2⟩
    | succ i =>
      obtain ⟨y, p1, p2, p3⟩ := q3 i o' (by simpa using hi)
      exact ⟨y, by simpa using p1, p2, by simpa [onL] using p3⟩

theorem chk_pair {l : List Oper} {xs : List Dl} (h : chk ops l s xs = true) {i j : Nat} {oi oj : Oper} {xi xj : Dl} (hij : i ≠ j) (h1 : l[i]? = some oi) (h2 : l[j]? = some oj) (h3 : xs[i]? = some xi) (h4 : xs[j]? = some xj) : pairB ops i j oi oj xi xj = true := by
  unfold chk at h
  rw [Bool.and_eq_true, List.all_eq_true (l := List.range l.length)] at h
  have hi := (List.getElem?_eq_some_iff.1 h1).1
  have hj := (List.getElem?_eq_some_iff.1 h2).1
  have := h.2 i (List.mem_range.2 hi)
  rw [List.all_eq_true] at this
  have := this j (List.mem_range.2 hj)
  rw [h1, h2, h3, h4] at this
  simpa [hij] using this
theorem chk_base {l : List Oper} {xs : List Dl} (h : chk ops l s xs = true) {i : Nat} {x : Dl} (h3 : xs[i]? = some x) : baseB s x = true := by
  unfold chk at h
  rw [Bool.and_eq_true, List.all_eq_true] at h
  exact h.1 x (List.mem_of_getElem? h3)
theorem inF_M {M : List (Nat × Blk)} {id : Nat} (h : inF M id = false) : lookM M id = none := by
  induction M with
  | nil => rfl
  | cons p M ih =>
    obtain ⟨k, d⟩ := p
    simp only [inF, List.any_cons, Bool.or_eq_false_iff, beq_eq_false_iff_ne] at h
    rw [lookM, if_neg h.1]
    exact ih (by simpa [inF] using h.2)

theorem WR_G {l1 l2 : List Oper} {ops : Array Oper} (he : ops = (l1 ++ l2).toArray) (hB : orderT ops l1.length = true) (hT : l2 = [] ∨ tailT ops l1.length = true)
    (h : QG P c ops s.M l1 s [] (fun s' xs => chk ops l1 s xs = true ∧ WO P c ops l2 s' Q)) : WR P c ops s Q := by
  obtain ⟨xs, hlen, ⟨hchk, hend⟩, hstep⟩ := h.steps
  simp only [List.nil_append] at hchk
  have hops : ∀ j, j < l1.length → ops[j]? = l1[j]? := fun j hj => by subst he; rw [List.getElem?_toArray, List.getElem?_append_left hj]
  refine WR_S he hB hT (fun X => mrg xs X s l1.length) (fun X hX => ?_) (fun X i o ho hXi hcl hdep => ?_) (fun X hX => ?_)
  · rw [mrg_stop (i := 0) (Nat.zero_le _) fun j _ => hX j]
    exact Le.refl
  · have hil : i < l1.length := (List.getElem?_eq_some_iff.1 ho).1
    obtain ⟨x, hx, hdst, hst⟩ := hstep i o ho
    have hoi : ops[i]? = some o := (hops i hil).trans ho
    have slot : ∀ {j : Nat} {y : Dl} {u : Nat}, xs[j]? = some y → inF y.fr u = true → u = y.t ∨ u ∈ y.mv := fun {j y u} _ hu => by
      simp only [inF, Dl.fr, List.any_cons, Bool.or_eq_true, beq_iff_eq, List.any_map, List.any_eq_true, Function.comp] at hu
      rcases hu with hu | ⟨v, hv, hu⟩
      · exact .inl hu.symm
      · exact .inr (hu ▸ hv)
    have hag : AgreeG ops o (onL (xs.take i) s).fr s.M (mrg xs X s l1.length) := by
      refine ⟨fun id k hk => ?_, fun u hu => ?_⟩
      · have : lookM (mrg xs X s l1.length).M id = lookM (mrg xs (fun _ => false) s l1.length).M id := mrg_M fun j y hj hy hin => by
          have hb := chk_base hchk hy
          unfold baseB at hb
          rw [Bool.and_eq_true, List.all_eq_true] at hb
          unfold inF at hin
          rw [List.any_eq_true] at hin
          obtain ⟨p, hp, he⟩ := hin
          have h1 := hb.1 p hp
          rw [Bool.not_eq_true'] at h1
          have h2 := inF_M h1
          rw [show p.1 = id from by simpa using he] at h2
          rw [h2] at hk; cases hk
        rw [this, mrg_stop (i := 0) (Nat.zero_le _) fun j _ => rfl]
        exact hk
      · rw [← mrg_all (X := fun j => decide (j < i)) (by omega) (fun j hj => by simpa using hj), ← mrg_stop (X := fun j => decide (j < i)) (i := i) (n := l1.length) (by omega) (fun j hj => by simpa using hj)]
        refine mrg_fr fun j y hj hy hin => ?_
        by_cases hje : j = i
        · subst hje; rw [hXi]; simp
        · have hlj : l1[j]? = some l1[j] := List.getElem?_eq_getElem hj
          have hoj : ops[j]? = some l1[j] := (hops j hj).trans hlj
          obtain ⟨y', hy', hdj, _⟩ := hstep j _ hlj
          rw [hy] at hy'; cases hy'
          rcases slot hy hin with rfl | hmv
          · by_cases hji : j < i
            · simp only [hji, decide_true]
              rcases orderT_spec hB hoj hj i _ hoi hil hji with ⟨e, he, hb, hon⟩ | hap
              · rw [← hon]; exact hdep e he hb
              · exact absurd hu ((Oper.apart_spec hap).1 _ hdj)
            · have hij : i < j := by omega
              rw [show decide (j < i) = false from by simp; omega]
              cases hX : X j with
              | false => rfl
              | true =>
                rcases orderT_spec hB hoi hil j _ hoj hj hij with ⟨e, he, hb, hon⟩ | hap
                · have := hcl j _ hlj hX e he hb
                  rw [hon, hXi] at this; cases this
                · exact absurd hu ((Oper.apart_spec hap).2.2 _ hdj)
          · exfalso
            have hp := chk_pair hchk (Ne.symm hje) ho hlj hx hy
            unfold pairB at hp
            rw [Bool.and_eq_true, List.all_eq_true] at hp
            have := hp.1 u hmv
            rw [Bool.and_eq_true, Bool.not_eq_true'] at this
            have h1 := this.1
            rw [List.contains_eq_mem, decide_eq_false_iff_not] at h1
            exact h1 hu
    have hcl2 : x.b = true → Cl x.t (mrg xs X s l1.length) := fun hb => by
      refine Cl.mrg ?_ fun j y hj hXj hy => ?_
      · have := chk_base hchk hx
        unfold baseB at this
        rw [hb] at this
        simp only [Bool.not_true, Bool.false_or, Bool.and_eq_true] at this
        exact ⟨clFr_look this.2.1, (clM_look this.2.2).1, (clM_look this.2.2).2⟩
      · have hji : i ≠ j := fun e => by subst e; rw [hXi] at hXj; cases hXj
        have hp := chk_pair hchk hji ho (List.getElem?_eq_getElem hj) hx hy
        unfold pairB at hp
        rw [hb] at hp
        simp only [Bool.not_true, Bool.false_or, Bool.and_eq_true] at hp
        exact hp.2.2
    intro Q' hQ
    refine hst _ hag hcl2 Q' (WO_le (Le.of (fun u => .inl ?_) (fun u => .inl ?_)) hQ)
    · simp only [Dl.on, look_app]
      split
      · rename_i hu
        refine mrg_add_fr hx hXi hu hil fun j y hj hij hXj hy => ?_
        refine Bool.eq_false_iff.2 fun hin => ?_
        have hlj : l1[j]? = some l1[j] := List.getElem?_eq_getElem hj
        have hoj : ops[j]? = some l1[j] := (hops j hj).trans hlj
        obtain ⟨y', hy', hdj, _⟩ := hstep j _ hlj
        rw [hy] at hy'; cases hy'
        have edge : ∀ e, e ∈ (l1[j]).after → Region.binds .any e = true → e.on = i → False := fun e h1 h2 h3 => by
          have := hcl j _ hlj hXj e h1 h2
          rw [h3, hXi] at this; cases this
        have hp := chk_pair hchk (Nat.ne_of_lt hij) ho hlj hx hy
        have hp2 := chk_pair hchk (Nat.ne_of_gt hij) hlj ho hy hx
        unfold pairB at hp hp2
        rw [Bool.and_eq_true, List.all_eq_true] at hp hp2
        rcases slot hx hu with rfl | hmi
        · rcases slot hy hin with e | hmj
          · rcases orderT_spec hB hoi hil j _ hoj hj hij with ⟨e', h1, h2, h3⟩ | hap
            · exact edge e' h1 h2 h3
            · exact (Oper.apart_spec hap).2.1 _ hdst (by rw [hdj, e])
          · have := hp.1 _ hmj
            simp only [Bool.and_eq_true, Bool.or_eq_true, bne_self_eq_false, Bool.false_eq_true, false_or] at this
            obtain ⟨e', h1, h2, h3⟩ := bindsOn_spec this.2.2.2
            exact edge e' h1 h2 h3
        · rcases slot hy hin with rfl | hmj
          · have := hp2.1 _ hmi
            simp only [Bool.and_eq_true, Bool.or_eq_true, bne_self_eq_false, Bool.false_eq_true, false_or] at this
            have h3 : j < i := by simpa using this.2.2.1
            omega
          · have := hp.1 _ hmj
            simp only [Bool.and_eq_true, Bool.not_eq_true', List.contains_eq_mem, decide_eq_false_iff_not] at this
            exact this.2.1 hmi
      · rename_i hu
        refine mrg_fr fun j y hj hy hin => ?_
        have : (j == i) = false := by
          rw [beq_eq_false_iff_ne]
          intro e; subst e; rw [hx] at hy; cases hy; exact hu hin
        rw [this, Bool.or_false]
    · simp only [Dl.on, lookM_app]
      split
      · rename_i hu
        refine mrg_add_M hx hXi hu hil fun j y hj hij hXj hy => ?_
        refine Bool.eq_false_iff.2 fun hin => ?_
        have hp := chk_pair hchk (Nat.ne_of_lt hij) ho (List.getElem?_eq_getElem hj) hx hy
        unfold pairB at hp
        rw [Bool.and_eq_true, Bool.and_eq_true, List.all_eq_true (l := y.M)] at hp
        unfold inF at hin
        rw [List.any_eq_true] at hin
        obtain ⟨p, hp1, hp2⟩ := hin
        have := hp.2.1 p hp1
        rw [show p.1 = u from by simpa using hp2, hu] at this
        cases this
      · rename_i hu
        refine mrg_M fun j y hj hy hin => ?_
        have : (j == i) = false := by
          rw [beq_eq_false_iff_ne]
          intro e; subst e; rw [hx] at hy; cases hy; exact hu hin
        rw [this, Bool.or_false]
  · rw [mrg_all (by omega) hX, List.take_of_length_le (by omega)]
    exact hend

theorem W_regionG {id : Nat} {l1 l2 : List Oper} {ops : Array Oper} (hm : P.follows .mixedOrders = true) (he : ops = (l1 ++ l2).toArray) (hB : orderT ops l1.length = true) (hT : l2 = [] ∨ tailT ops l1.length = true)
    (h : QG P c ops s.M l1 s [] (fun s' xs => chk ops l1 s xs = true ∧ WO P c ops l2 s' Q)) : W P c (.region id ops true) s Q :=
  W_of_WR hm (WR_G he hB hT h)
end
end Go.Eng
end

section
/- The words in which such statements are walked. -/
set_option linter.unusedVariables false
set_option linter.unusedSimpArgs false
namespace Go.Eng
open Go.RowKit

section
variable {P : Program} {c : Ctx} {s : St} {M0 : List (Nat × Blk)} {acc : List Dl} {Q : St → List Dl → Prop} {ops : Array Oper} {rest : List Oper} {o : Oper}

def pl (t : Nat) (d : D) : Dl := ⟨t, d, [], [], false⟩

theorem AgreeG.opd {fr : List (Nat × D)} {s' : St} (h : AgreeG ops o fr M0 s') {x : Operand} (hx : x ∈ o.op.operands) : Eng.opd s'.fr x = Eng.opd fr x := by
  cases x with
  | tmp t =>
    refine h.2 t ?_
    unfold Oper.looksAt
    exact List.mem_append_left _ (List.mem_filterMap.2 ⟨.tmp t, by simpa using hx, rfl⟩)
  | _ => rfl
theorem AgreeG.opds {fr : List (Nat × D)} {s' : St} (h : AgreeG ops o fr M0 s') : ∀ {l : List Operand}, (∀ x, x ∈ l → x ∈ o.op.operands) → l.map (Eng.opd s'.fr) = l.map (Eng.opd fr) := fun hl =>
  List.map_congr_left fun x hx => h.opd (hl x hx)

theorem evV_mono {Γ : Tys} {fr : List (Nat × D)} {s' : St} {d : D} (h : AgreeG ops o fr M0 s') (he : evV Γ ⟨fr, M0⟩ o.op = some d) : evV Γ s' o.op = some d := by
  have hM := h.1
  have ho : ∀ x, x ∈ o.op.operands → Eng.opd s'.fr x = Eng.opd fr x := fun x hx => h.opd hx
  generalize o.op = op at ho he
  cases op with
  | move x => simp only [evV] at he ⊢; rw [ho x (by simp [Op.operands])]; exact he
  | assign x => simp only [evV] at he ⊢; rw [ho x (by simp [Op.operands])]; exact he
  | pick x a b => simp only [evV] at he ⊢; rw [ho x (by simp [Op.operands]), ho a (by simp [Op.operands]), ho b (by simp [Op.operands])]; exact he
  | binOp op ty x y ty' => simp only [evV] at he ⊢; rw [ho x (by simp [Op.operands]), ho y (by simp [Op.operands])]; exact he
  | unOp op ty x => cases op <;> simp only [evV] at he ⊢ <;> first | (rw [ho x (by simp [Op.operands])]; exact he) | exact he
  | fieldAddr ty x k => simp only [evV] at he ⊢; rw [ho x (by simp [Op.operands])]; exact he
  | load ty x =>
    simp only [evV] at he ⊢
    rw [ho x (by simp [Op.operands])]
    split at he
    · rename_i ti hti
      split at he
      · rename_i y off hy; exact he
      · rename_i id off hy
        split at he
        · rename_i cells hc
          rw [hM _ _ hc]; exact he
        · cases he
      · cases he
    · cases he
  | extract x k => simp only [evV] at he ⊢; rw [ho x (by simp [Op.operands])]; exact he
  | makeFunc f first captured =>
    cases f <;> simp only [evV] at he ⊢
    all_goals first
      | exact he
      | (split
         · rename_i hf
           rw [hf] at he
           dsimp only at he
           rw [← he]
           congr 2
           refine List.map_congr_left fun x hx => ?_
           rw [ho x (by simp only [Op.operands, Array.mem_append]; exact .inr (by simpa using hx))]
         · rename_i hf
           split at he
           · rename_i hf2; exact absurd hf2 (by simpa using hf)
           · exact he)
  | call cc =>
    obtain ⟨cal, args, tys⟩ := cc
    have ho' : ∀ x, x ∈ args.toList → Eng.opd s'.fr x = Eng.opd fr x := fun x hx => ho x (by
      simp only [Op.operands, Call.operands, Array.mem_append]
      exact .inr (by simpa using hx))
    cases cal with
    | builtin b =>
      have e : evV Γ s' (.call ⟨.builtin b, args, tys⟩) = evV Γ ⟨fr, M0⟩ (.call ⟨.builtin b, args, tys⟩) := by
        cases b <;> try rfl
        all_goals
          simp only [evV]
          split
          · rename_i ha
            first
              | (rw [ho' _ (by rw [ha]; simp)]; done)
              | (rename_i ha' ; rw [ho' _ (by rw [ha']; simp)]; done)
              | (rw [ho' _ (by rw [ha]; simp), ho' _ (by rw [ha]; simp)]; done)
          · rfl
      rw [e]; exact he
    | _ => exact he
  | _ => exact he
theorem evF_mono {Γ : Tys} {fr : List (Nat × D)} {s' : St} {d : D} (h : AgreeG ops o fr M0 s') (he : evF Γ ⟨fr, M0⟩ o.op = some d) : evF Γ s' o.op = some d := by
  unfold evF at he ⊢
  cases e : evV Γ ⟨fr, M0⟩ o.op with
  | none => rw [e] at he; cases he
  | some d' => rw [e] at he; rw [evV_mono h e]; exact he

theorem QG_nil (h : Q s acc) : QG P c ops M0 [] s acc Q := h
theorem QG_ev {Γ : Tys} (hΓ : Γ.ok P) {t : Nat} {d : D} (hg : o.guard = none) (hd : o.dst = some t) (ht : t < c.n) (he : evF Γ ⟨s.fr, M0⟩ o.op = some d) (k : QG P c ops M0 rest ⟨(t, d) :: s.fr, s.M⟩ (acc ++ [pl t d]) Q) : QG P c ops M0 (o :: rest) s acc Q :=
  ⟨pl t d, hd, fun s' ha _ Q h => WO_evF hΓ hg hd ht (evF_mono ha he) h, k⟩
theorem QG_int {Γ : Tys} (hΓ : Γ.ok P) {t : Nat} {n : Int} (hg : o.guard = none) (hd : o.dst = some t) (ht : t < c.n) (he : evV Γ ⟨s.fr, M0⟩ o.op = some (.t (.int (IntKind.i64.wrap n)))) (hw : IntKind.i64.wrap n = n)
    (k : QG P c ops M0 rest ⟨(t, .t (.int n)) :: s.fr, s.M⟩ (acc ++ [pl t (.t (.int n))]) Q) : QG P c ops M0 (o :: rest) s acc Q :=
  ⟨pl t (.t (.int n)), hd, fun s' ha _ Q h => WO_int hΓ hg hd ht (evV_mono ha he) hw h, k⟩
theorem ResL.up {s' : St} {fr : List (Nat × D)} (hM : ∀ id k, lookM M0 id = some k → lookM s'.M id = some k) {ds es : List D} (h : ResL ⟨fr, M0⟩ ds es) : ResL s' ds es := by
  induction h with
  | done => exact .done
  | t _ ih => exact .t ih
  | nil n _ ih => exact .nil n ih
  | nil' _ ih => exact .nil' ih
  | own _ ih => exact .own ih
  | sl h1 h2 _ ih => exact .sl (hM _ _ h1) h2 ih
  | ref h1 _ _ ih1 ih2 => exact .ref (hM _ _ h1) ih1 ih2
  | rp _ ih => exact .rp ih
  | agg _ _ ih1 ih2 => exact .agg ih1 ih2
  | aggT _ _ ih1 ih2 => exact .aggT ih1 ih2
  | clo _ _ ih1 ih2 => exact .clo ih1 ih2
  | top _ ih => exact .top ih
  | raw h1 h2 h3 _ ih => exact .raw (hM _ _ h1) h2 h3 ih
  | rawA h1 h2 _ ih => exact .rawA (hM _ _ h1) h2 ih

theorem QG_call {t : Nat} {fo : Operand} {args : Array Operand} {tys : Array TypeId} {f : FuncId} {caps es : List D} {r : D} (hg : o.guard = none) (hd : o.dst = some t) (ht : t < c.n)
    (ho : o.op = .call { callee := .value fo, args := args, argTypes := tys }) (hf : opd s.fr fo = .clo f caps) (hes : ResL ⟨s.fr, M0⟩ (args.toList.map (opd s.fr) ++ caps) es) (hc : Fun P f es r) (hn : r.noImm = true)
    (k : QG P c ops M0 rest ⟨(t, r) :: s.fr, s.M⟩ (acc ++ [pl t r]) Q) : QG P c ops M0 (o :: rest) s acc Q :=
  ⟨pl t r, hd, fun s' ha _ Q h => by
    have e1 : opd s'.fr fo = opd s.fr fo := ha.opd (by rw [ho]; simp [Op.operands, Call.operands])
    have e2 : args.toList.map (opd s'.fr) = args.toList.map (opd s.fr) := ha.opds fun x hx => by
      rw [ho]
      simp only [Op.operands, Call.operands, Array.mem_append]
      exact .inr (by simpa using hx)
    exact WO_call hg hd ht ho (by rw [e1]; exact hf) (by rw [e2]; exact hes.up ha.1) hc hn h, k⟩
theorem callBG {t : Nat} {fo : Operand} {args : Array Operand} {tys : Array TypeId} {f : FuncId} {caps es : List D} {cs : List (Nat × Nat)} (h : ∃ r : D, Fun P f es r ∧ r.noImm = true ∧ QG P c ops M0 rest ⟨(t, r) :: s.fr, s.M⟩ (acc ++ [pl t r]) Q)
    (hg : o.guard = none := by exact rfl) (hd : o.dst = some t := by exact rfl) (ht : t < c.n := by exact lt_of rfl) (ho : o.op = .call { callee := .value fo, args := args, argTypes := tys } := by exact rfl) (hf : opd s.fr fo = .clo f caps := by exact rfl)
    (hes : resFL ⟨s.fr, M0⟩ (args.toList.map (opd s.fr) ++ caps) = some (es, cs) := by exact rfl) (hcs : AllEq cs := by repeat (first | exact AllEq.nil' | refine AllEq.cons' (by first | rfl | (simp; done) | (simp; omega) | omega) ?_)) : QG P c ops M0 (o :: rest) s acc Q := by
  obtain ⟨r, hc, hn, k⟩ := h
  exact QG_call hg hd ht ho hf (resFL_res hes hcs) hc hn k

theorem lookM_drop {t u : Nat} (h : u ≠ t) : ∀ (M : List (Nat × Blk)), lookM (dropM (some t) M) u = lookM M u
  | [] => rfl
  | (k, d) :: M => by
    have ih := lookM_drop h M
    simp only [dropM] at ih ⊢
    rw [List.filter_cons]
    by_cases hk : k = t
    · subst hk
      simp only [bne_self_eq_false, Bool.false_eq_true, if_false]
      rw [ih, lookM, if_neg (Ne.symm h)]
    · rw [if_pos (by simpa using hk), lookM, lookM, ih]
theorem lookM_dropped {t : Nat} : ∀ (M : List (Nat × Blk)), lookM (dropM (some t) M) t = none
  | [] => rfl
  | (k, d) :: M => by
    have ih := lookM_dropped (t := t) M
    simp only [dropM] at ih ⊢
    rw [List.filter_cons]
    by_cases hk : k = t
    · subst hk; simpa using ih
    · rw [if_pos (by simpa using hk), lookM, if_neg hk, ih]
/-- Where nothing speaks of an id, nothing is forgotten with it. -/
theorem cl_look {t : Nat} {s : St} (h : Cl t s) (u : Nat) : look (killF t s.fr) u = look s.fr u := by rw [look_killF, kill_of (h.1 u)]
theorem cl_lookM {t : Nat} {s : St} (h : Cl t s) (u : Nat) : lookM (killM t s.M) u = lookM s.M u := by
  rw [look_killM]
  cases e : lookM s.M u with
  | none => rfl
  | some k => rw [Option.map_some, killB_of (h.2.1 u k e)]

/-- A slice that was made is told as what the temporary owns. -/
theorem made_le {t n len : Nat} {xs : List T} {ms : List Nat} {s : St} (hc : Cl t s) (hl : len = xs.length) :
    Le c ⟨(t, .sl t 0 len) :: eatL ms (killF t s.fr), (t, .L n xs) :: killM t s.M⟩ ⟨(t, .own (.list n xs)) :: (ms.map fun u => (u, D.top)) ++ s.fr, s.M⟩ := by
  subst hl
  refine (Le.gather (u := t) (id := t) (n := n) (len := xs.length) (xs := xs) (by simp [look]) (by simp [lookM]) (Nat.le_refl _)).trans (Le.of (fun u => ?_) (fun id => .inl ?_))
  · rw [List.take_length]
    rw [List.cons_append, look, look]
    by_cases hu : t = u
    · rw [if_pos hu, if_pos hu]; exact .inl rfl
    · rw [if_neg hu, if_neg hu, look, if_neg hu]
      unfold eatL
      rw [look_app, look_app, cl_look hc]
      exact .inl rfl
  · by_cases hid : id = t
    · subst hid; rw [lookM_dropped, hc.2.2]
    · rw [lookM_drop hid, lookM, if_neg (Ne.symm hid), cl_lookM hc]

theorem PartsOk.look {n : Nat} {fr fr' : List (Nat × D)} : ∀ {xs : List Operand} {ys : List T}, (∀ x, x ∈ xs → opd fr' x = opd fr x) → PartsOk fr n xs ys → PartsOk fr' n xs ys
  | [], [], _, h => h
  | [], _ :: _, _, h => h
  | _ :: _, [], _, h => h
  | x :: xs, y :: ys, hx, h => by
    obtain ⟨⟨ds, h1, h2, h3⟩, h4⟩ := h
    exact ⟨⟨ds, by rw [hx x (List.mem_cons_self ..)]; exact h1, h2, h3⟩, h4.look fun z hz => hx z (List.mem_cons_of_mem _ hz)⟩
theorem movedL_look {fr fr' : List (Nat × D)} {xs : List Operand} (hx : ∀ x, x ∈ xs → opd fr' x = opd fr x) : movedL fr' xs = movedL fr xs := by
  unfold movedL
  induction xs with
  | nil => rfl
  | cons x xs ih => rw [List.filterMap_cons, List.filterMap_cons, hx x (List.mem_cons_self ..), ih fun y hy => hx y (List.mem_cons_of_mem _ hy)]

theorem QG_buildSlice {Γ : Tys} (hΓ : Γ.ok P) {ty e t len : Nat} {parts : Array (Nat × Operand)} {ti te : TI} (ys : List T) {ms : List Nat} (hg : o.guard = none) (hd : o.dst = some t) (ht : t < c.n) (ho : o.op = .buildSlice ty len parts)
    (h1 : tyOf Γ ty = some ti) (h2 : ti.kind = .slice e) (h3 : tyOf Γ e = some te) (hp : parts.toList.map (·.1) = List.range len) (hl : len * te.size ≤ 16777216)
    (hy : PartsOk s.fr te.size (parts.toList.map (·.2)) ys) (hms : movedL s.fr (parts.toList.map (·.2)) = ms) (hm : ms.Nodup) (hzs : te.zero.length = te.size) (hpos : 0 < te.size)
    (kk : QG P c ops M0 rest ⟨(t, .own (.list te.size ys)) :: ((ms.map fun u => (u, D.top)) ++ s.fr), s.M⟩ (acc ++ [⟨t, .own (.list te.size ys), ms, [], true⟩]) Q) : QG P c ops M0 (o :: rest) s acc Q :=
  ⟨⟨t, .own (.list te.size ys), ms, [], true⟩, hd, fun s' ha hc Q h => by
    have hop : ∀ x, x ∈ parts.toList.map (·.2) → opd s'.fr x = opd s.fr x := fun x hx => ha.opd (by
      rw [ho]
      simp only [Op.operands]
      simpa using hx)
    have e : movedL s'.fr (parts.toList.map (·.2)) = ms := by rw [movedL_look hop]; exact hms
    refine WO_buildSlice hΓ ys hg hd ht ho h1 h2 h3 hp hl (hy.look hop) (by rw [e]; exact hm) hzs hpos ?_
    rw [e]
    exact WO_le (made_le (hc rfl) rfl) h, kk⟩

theorem QG_norm {l : List Oper} {s' : St} (h : forceS s = some s') (k : QG P c ops M0 l s' acc Q) : QG P c ops M0 l s acc Q := by rw [forceS_eq h]; exact k

/-- The same, nothing coming last. -/
theorem W_regionG0 {id : Nat} {ops : Array Oper} {Q : Exit → St → Prop} (hm : P.follows .mixedOrders = true) (hB : orderT ops ops.size = true)
    (h : QG P c ops s.M ops.toList s [] (fun s' xs => chk ops ops.toList s xs = true ∧ WO P c ops [] s' Q)) : W P c (.region id ops true) s Q :=
  W_regionG (l1 := ops.toList) (l2 := []) hm (by simp) (by rw [Array.length_toList]; exact hB) (.inl rfl) h
end
end Go.Eng
end

section
/- Structs that are put together out of their fields, and slices that grow in a statement of open order. -/
set_option linter.unusedVariables false
set_option linter.unusedSimpArgs false
namespace Go.Eng
open Go.RowKit

def setsL {α : Type} (offs : List Nat) : List (Nat × α) → List α → List α
  | [], l => l
  | (i, v) :: ps, l => setsL offs ps (l.set (offs.getD i 0) v)
def setsOk (offs : List Nat) : List (Nat × D) → List D → Bool
  | [], _ => true
  | (i, d) :: ps, l => Nat.blt i offs.length && (d.one && ((match l[offs.getD i 0]? with | some e => e.free | none => false) && setsOk offs ps (l.set (offs.getD i 0) d)))

section
variable {P : Program} {c : Ctx} {s : St} {Q : Exit → St → Prop} {ops : Array Oper} {rest : List Oper} {o : Oper}

theorem cells_of {v : Value} (h : v.oneCell' = true) : v.cells = #[v] := by cases v <;> first | rfl | cases h
theorem one_cell {w : World} {F : Nat → Prop} {β : Place} {v : Value} {d : D} {bs : List Nat} (h : RelD w F β [v] [d] bs) (hd : d.one = true) : v.cells = #[v] ∧ v.oneCell' = true := by
  have key : v.oneCell' = true := by
    cases h with
    | t hx _ => cases hx with
      | v h _ => exact h
      | none _ => rfl
      | list _ _ _ _ _ _ _ => rfl
    | tagg _ _ => simp [D.one] at hd
    | nil _ => rfl
    | agg _ _ _ => simp [D.one] at hd
    | ref _ _ => rfl
    | sl _ _ _ _ _ => rfl
    | slnil _ _ => rfl
    | rp _ _ _ _ _ => rfl
    | clo _ _ => rfl
    | tup _ _ => simp [D.one] at hd
    | own hx _ => cases hx with
      | v h _ => exact h
      | none _ => rfl
      | list _ _ _ _ _ _ _ _ => rfl
    | top _ => simp [D.one] at hd
  exact ⟨cells_of key, key⟩

theorem relD_set {w : World} {F : Nat → Prop} {β : Place} {v : Value} {d : D} {b1 : List Nat} (h1 : RelD w F β [v] [d] b1) : ∀ {vs ds bs} (j : Nat), RelD w F β vs ds bs → (match ds[j]? with | some e => e.free | none => false) = true → ∃ bs', RelD w F β (vs.set j v) (ds.set j d) bs' ∧ bs'.Perm (b1 ++ bs)
  | [], [], _, j, _, h => by simp at h
  | [], _ :: _, _, _, h, _ => by cases h
  | _ :: _, [], _, _, h, _ => by cases h
  | x :: vs, e :: ds, bs, 0, hr, h => by
    obtain ⟨b2, b3, q1, q2, rfl⟩ := hr.cons
    have := q1.free1 (by simpa using h)
    subst this
    exact ⟨b1 ++ b3, RelD.cons' h1 q2, List.Perm.refl _⟩
  | x :: vs, e :: ds, bs, j + 1, hr, h => by
    obtain ⟨b2, b3, q1, q2, rfl⟩ := hr.cons
    obtain ⟨bs', q3, q4⟩ := relD_set h1 j q2 (by simpa using h)
    refine ⟨b2 ++ bs', RelD.cons' q1 q3, ?_⟩
    refine (List.Perm.append_left b2 q4).trans ?_
    rw [← List.append_assoc, ← List.append_assoc]
    exact List.Perm.append_right b3 List.perm_append_comm

/-- A struct's parts, laid into its zero. -/
theorem parts_set {a : Act} {w : World} {F β fb mb ow} (hi : Conc c s a w F β fb mb ow) {offs : List Nat} : ∀ {ps : List (Nat × Operand)} {vs : List Value} {ds : List D} {bs : List Nat}, RelD w F β vs ds bs → bs.Nodup → (∀ b, b ∈ bs → ∀ u, ow b = some (.inl u) → u ∉ movedL s.fr (ps.map (·.2))) →
    setsOk offs (ps.map fun p => (p.1, opd s.fr p.2)) ds = true → (movedL s.fr (ps.map (·.2))).Nodup →
    ∃ bs', RelD w F β (setsL offs (ps.map fun p => (p.1, a.eval p.2)) vs) (setsL offs (ps.map fun p => (p.1, opd s.fr p.2)) ds) bs' ∧ bs'.Nodup ∧ (∀ b, b ∈ bs' → b ∈ bs ∨ ∃ u, ow b = some (.inl u) ∧ u ∈ movedL s.fr (ps.map (·.2))) ∧
      (∀ p, p ∈ ps → (a.eval p.2).cells = #[a.eval p.2] ∧ (a.eval p.2).oneCell' = true ∧ p.1 < offs.length)
  | [], vs, ds, bs, hr, hn, _, _, _ => ⟨bs, hr, hn, fun b hb => .inl hb, by simp⟩
  | (i, x) :: ps, vs, ds, bs, hr, hn, hbs, hok, hm => by
    simp only [List.map_cons, setsOk, Bool.and_eq_true] at hok
    obtain ⟨h0, h1, h2, h3⟩ := hok
    obtain ⟨b1, hr1, hn1, hb1⟩ := hi.opdOwn x
    obtain ⟨bs1, q1, q2⟩ := relD_set hr1 _ hr h2
    have hmc : movedL s.fr (((i, x) :: ps).map (·.2)) = movedL s.fr [x] ++ movedL s.fr (ps.map (·.2)) := by
      unfold movedL
      rw [List.map_cons, ← List.filterMap_append]
      rfl
    rw [hmc] at hm hbs
    have hb1' : ∀ b, b ∈ b1 → ∃ u, ow b = some (.inl u) ∧ u ∈ movedL s.fr [x] := fun b hb => by
      obtain ⟨y, hy, he, u, rfl, rfl⟩ := hb1 b hb
      refine ⟨u, hy, ?_⟩
      unfold movedL
      rw [List.filterMap_cons, if_neg (by rw [he]; simp)]
      simp
    obtain ⟨hm1, hm2, hm3⟩ := List.nodup_append.1 hm
    have hn2 : bs1.Nodup := by
      refine q2.nodup_iff.2 (List.nodup_append.2 ⟨hn1, hn, fun b hb b' hb' e => ?_⟩)
      subst e
      obtain ⟨u, hu, hu2⟩ := hb1' b hb
      exact hbs b hb' u hu (List.mem_append_left _ hu2)
    obtain ⟨bs', r1, r2, r3, r4⟩ := parts_set hi q1 hn2 (fun b hb u hu => by
      rcases List.mem_append.1 (q2.mem_iff.1 hb) with hb | hb
      · obtain ⟨u', hu', hu2⟩ := hb1' b hb
        rw [hu] at hu'; cases hu'
        exact fun h => hm3 u hu2 u h rfl
      · exact fun h => hbs b hb u hu (List.mem_append_right _ h)) h3 hm2
    refine ⟨bs', r1, r2, fun b hb => ?_, fun p hp => ?_⟩
    · rcases r3 b hb with h | ⟨u, hu, hu2⟩
      · rcases List.mem_append.1 (q2.mem_iff.1 h) with h | h
        · obtain ⟨u, hu, hu2⟩ := hb1' b h
          exact .inr ⟨u, hu, by rw [hmc]; exact List.mem_append_left _ hu2⟩
        · exact .inl h
      · exact .inr ⟨u, hu, by rw [hmc]; exact List.mem_append_right _ hu2⟩
    · rcases List.mem_cons.1 hp with rfl | hp
      · obtain ⟨p1, p2⟩ := one_cell hr1 h1
        exact ⟨p1, p2, by simpa using h0⟩
      · exact r4 p hp

theorem fill_sets {places : Array (Nat × Nat)} {offs : List Nat} (hpl : ∀ i, i < offs.length → places[i]? = some (offs.getD i 0, 1)) : ∀ (ps : List (Nat × Value)) (cells : List Value), (∀ p, p ∈ ps → p.2.cells = #[p.2] ∧ p.1 < offs.length) → (∀ i, i < offs.length → offs.getD i 0 < cells.length) →
    Instr.fill (places[·]?) cells.toArray ps = some (setsL offs ps cells).toArray
  | [], cells, _, _ => rfl
  | (i, v) :: ps, cells, h, hb => by
    obtain ⟨h1, h2⟩ := h _ (List.mem_cons_self ..)
    dsimp only at h1 h2
    have hbi := hb i h2
    rw [List.getD_eq_getElem?_getD] at hbi
    rw [Instr.fill, hpl i h2]
    dsimp only
    rw [h1]
    rw [if_neg (by simp; omega)]
    have e : (#[v].zipIdx.foldl (fun cs (x : Value × Nat) => cs.setIfInBounds (offs.getD i 0 + x.2) x.1) cells.toArray) = (cells.set (offs.getD i 0) v).toArray := by simp
    rw [e, setsL]
    exact fill_sets hpl ps _ (fun p hp => h p (List.mem_cons_of_mem _ hp)) (by simpa using hb)

def structP (P : Program) (ty : Nat) : Bool := match P.underlying ty with
  | some (.struct fs) => fs.toList.all fun f => match P.info? f.type with | some i => i.size == 1 | none => false
  | _ => false
theorem run_places {w : World} {fs : List Field} (h : (fs.all fun f => match P.info? f.type with | some i => i.size == 1 | none => false) = true) :
    (fs.mapM fun f => (do pure (f.offset, ← sizeOf f.type) : Sem (Nat × Nat))).run P w = .ok (fs.map fun f => (f.offset, 1)) w := by
  induction fs with
  | nil => simp
  | cons f fs ih =>
    rw [List.all_cons, Bool.and_eq_true] at h
    have h1 := h.1
    cases hf : P.info? f.type with
    | none => rw [hf] at h1; cases h1
    | some i =>
      rw [hf] at h1
      have hs : i.size = 1 := by simpa using h1
      have hsz : (sizeOf f.type).run P w = .ok 1 w := by simp [sizeOf, typeInfo, hf, hs]
      rw [List.mapM_cons]
      simp only [Sem.run_bind, hsz, Result.andThen_ok, Sem.run_pure, ih h.2, List.map_cons]

/-- A temporary is given what is owned by others. -/
theorem Conc.putOwn {a : Act} {w : World} {F β fb mb ow} (hi : Conc c s a w F β fb mb ow) {t : Nat} (ht : t < c.n) {v : Value} {d : D} {bs ms : List Nat} (hr : RelD w F β [v] [d] bs) (hn : bs.Nodup) (hb : ∀ b, b ∈ bs → ∃ u, ow b = some (.inl u) ∧ u ∈ ms) :
    Is c ⟨(t, d) :: eatL ms s.fr, s.M⟩ (a.put (some t) v) w := by
  refine ⟨F, β, fun x => if t = x then bs else if x ∈ ms then [] else fb x, mb, fun b => if b ∈ bs then some (.inl t) else ow b, ?_⟩
  exact { hi with
    fr := fun x => by
      rw [getD_put _ _ _ _ (by rw [hi.tmps]; exact ht)]
      simp only [look]
      split
      · exact hr
      · have := look_eatL ms s.fr x
        rcases this with ⟨h1, h2⟩ | h1
        · rw [h1, if_neg h2]; exact hi.fr x
        · rw [h1]
          by_cases hx : x ∈ ms
          · rw [if_pos hx]; exact .top .done
          · rw [if_neg hx]
            have e : look (eatL ms s.fr) x = look s.fr x := by
              clear h1 hb
              induction ms with
              | nil => rfl
              | cons m ms ih =>
                rw [List.mem_cons, not_or] at hx
                simp only [eatL, List.map_cons, List.cons_append, look]
                rw [if_neg (Ne.symm hx.1)]
                exact ih hx.2
            rw [← h1, e]; exact hi.fr x
    ofr := fun x b h => by
      split at h
      · rename_i e; subst e; rw [if_pos h]
      · split at h
        · cases h
        · rename_i h1 h2
          have h3 := hi.ofr x b h
          rw [if_neg (fun h4 => ?_)]
          · exact h3
          · obtain ⟨u, hu, hu2⟩ := hb b h4
            rw [h3] at hu; cases hu; exact h2 hu2
    omem := fun id b h => by
      have h3 := hi.omem id b h
      rw [if_neg (fun h4 => ?_)]
      · exact h3
      · obtain ⟨u, hu, _⟩ := hb b h4
        rw [h3] at hu; cases hu
    nfr := fun x => by
      split
      · exact hn
      · split
        · simp
        · exact hi.nfr x
    own := fun b h => by
      split at h
      · rename_i h4
        obtain ⟨u, hu, _⟩ := hb b h4
        exact hi.own b (by rw [hu]; simp)
      · exact hi.own b h
    defers := (defers_put a _ _).trans hi.defers
    tmps := (size_put a _ _).trans hi.tmps }

def spineN {α : Type} : List Nat → (List Nat → Option α) → Option α
  | [], k => k []
  | x :: xs, k => spineN xs fun ys => k (x :: ys)
theorem spineN_eq {α : Type} : ∀ (l : List Nat) (k : List Nat → Option α), spineN l k = k l
  | [], _ => rfl
  | x :: l, k => by rw [spineN, spineN_eq]
def nodupB : List Nat → Bool
  | [] => true
  | x :: xs => !xs.elem x && nodupB xs
theorem nodupB_sound : ∀ {l : List Nat}, nodupB l = true → l.Nodup
  | [], _ => List.nodup_nil
  | x :: l, h => by
    simp only [nodupB, Bool.and_eq_true, Bool.not_eq_true'] at h
    refine List.nodup_cons.2 ⟨fun hx => ?_, nodupB_sound h.2⟩
    have := h.1
    simp [hx] at this
theorem WO_structN {Γ : Tys} (hΓ : Γ.ok P) {ty t : Nat} {parts : Array (Nat × Operand)} {ti : TI} {offs : List Nat} {cells : List D} {ms : List Nat} (hg : o.guard = none) (hd : o.dst = some t) (ht : t < c.n) (ho : o.op = .build ty parts)
    (h1 : tyOf Γ ty = some ti) (h2 : ti.kind = .agg offs) (h3 : structP P ty = true) (h4 : (offs.all fun k => Nat.blt k ti.zero.length) = true) (h4' : ti.zero.all (·.oneCell') = true) (h5 : setsOk offs (parts.toList.map fun p => (p.1, opd s.fr p.2)) (ti.zero.map constD) = true)
    (h6 : setsL offs (parts.toList.map fun p => (p.1, opd s.fr p.2)) (ti.zero.map constD) = cells) (hms : movedL s.fr (parts.toList.map (·.2)) = ms) (hm : ms.Nodup)
    (kk : WO P c ops rest ⟨(t, .agg cells) :: eatL ms s.fr, s.M⟩ Q) : WO P c ops (o :: rest) s Q := by
  subst hms h6
  rintro a w ⟨F, β, fb, mb, ow, hi⟩
  obtain ⟨⟨i, z, q1, q2, q3, q4, q5⟩, hk⟩ := hΓ.get h1
  rw [h2] at hk
  obtain ⟨fs, hu, hoffs, _⟩ := hk
  unfold structP at h3
  rw [hu] at h3
  dsimp only at h3
  obtain ⟨bs', r1, r2, r3, r4⟩ := parts_set hi (offs := offs) (ps := parts.toList) (constD_rels (w := w) (F := F) (β := β) ti.zero) List.nodup_nil (by simp) h5 hm
  have hzv : (zeroValue ty).run P w = .ok z w := by simp [zeroValue, typeInfo, q1, q4]
  have hpl : (fs.mapM fun f => (do pure (f.offset, ← sizeOf f.type) : Sem (Nat × Nat))).run P w = .ok (fs.map fun f => (f.offset, 1)) w := by
    rw [Array.mapM_eq_mapM_toList]
    simp only [Sem.run_map, run_places h3]
    simp only [Result.andThen_ok, Sem.run_pure]
    have e : (fs.toList.map fun f => (f.offset, 1)).toArray = fs.map fun f => (f.offset, 1) := by apply Array.ext'; simp
    rw [← e]
  have hfill : Instr.fill ((fs.map fun f => (f.offset, 1))[·]?) z.cells (parts.toList.map fun p => (p.1, a.eval p.2)) = some (setsL offs (parts.toList.map fun p => (p.1, a.eval p.2)) ti.zero).toArray := by
    have := fill_sets (places := fs.map fun f => (f.offset, 1)) (offs := offs) (fun i hi => by
      subst hoffs
      simp only [List.length_map, Array.length_toList] at hi
      simp [hi]) (parts.toList.map fun p => (p.1, a.eval p.2)) ti.zero (fun p hp => by
        obtain ⟨q, hq, rfl⟩ := List.mem_map.1 hp
        exact ⟨(r4 q hq).1, (r4 q hq).2.2⟩) (fun i hi => by
        rw [List.all_eq_true] at h4
        have := h4 (offs.getD i 0) (by rw [List.getD_eq_getElem?_getD, List.getElem?_eq_getElem hi]; exact List.getElem_mem hi)
        simpa using this)
    rwa [← q5, Array.toArray_toList, q5] at this
  have hrun : (execOp a.eval o).run P w = .ok (.value (.agg (setsL offs (parts.toList.map fun p => (p.1, a.eval p.2)) ti.zero).toArray)) w := by
    simp only [execOp, ho, Instr.build, Sem.run_bind, hzv, Result.andThen_ok, run_underlying hu, hpl]
    rw [show (parts.map fun (x : Nat × Operand) => (x.1, a.eval x.2)).toList = parts.toList.map fun p => (p.1, a.eval p.2) from by simp]
    rw [hfill]
    rfl
  have hone : (setsL offs (parts.toList.map fun p => (p.1, a.eval p.2)) ti.zero).all (·.oneCell') = true := by
    have key : ∀ (ps : List (Nat × Value)) (l : List Value), l.all (·.oneCell') = true → (∀ p, p ∈ ps → p.2.oneCell' = true) → (setsL offs ps l).all (·.oneCell') = true := by
      intro ps
      induction ps with
      | nil => intro l h _; exact h
      | cons p ps ih =>
        intro l h hp
        refine ih _ ?_ fun q hq => hp q (List.mem_cons_of_mem _ hq)
        rw [List.all_eq_true] at h ⊢
        intro x hx
        rcases List.mem_or_eq_of_mem_set hx with hx | rfl
        · exact h x hx
        · exact hp p (List.mem_cons_self ..)
    refine key _ _ h4' fun p hp => ?_
    obtain ⟨q, hq, rfl⟩ := List.mem_map.1 hp
    exact (r4 q hq).2.1
  refine wpList_plain hg fun K hK => ?_
  unfold Oper.wp
  rw [hrun, Oper.upon_value, hd]
  refine hK _ _ (kk _ _ (hi.putOwn ht (bs := bs') ?_ r2 fun b hb => (r3 b hb).resolve_left (by simp)))
  have := RelD.agg (arr := (setsL offs (parts.toList.map fun p => (p.1, a.eval p.2)) ti.zero).toArray) (by simpa using hone) (by simpa using r1) (RelD.done (w := w) (F := F) (β := β))
  simpa using this

theorem WO_struct {Γ : Tys} (hΓ : Γ.ok P) {ty t : Nat} {parts : Array (Nat × Operand)} {ti : TI} {offs : List Nat} {cells : List D} {ms : List Nat} (hg : o.guard = none) (hd : o.dst = some t) (ht : t < c.n) (ho : o.op = .build ty parts)
    (h1 : tyOf Γ ty = some ti) (h2 : ti.kind = .agg offs) (h3 : structP P ty = true) (h4 : (offs.all fun k => Nat.blt k ti.zero.length) = true) (h4' : ti.zero.all (·.oneCell') = true) (h5 : setsOk offs (parts.toList.map fun p => (p.1, opd s.fr p.2)) (ti.zero.map constD) = true)
    (h6 : spineD (setsL offs (parts.toList.map fun p => (p.1, opd s.fr p.2)) (ti.zero.map constD)) some = some cells) (hms : spineN (movedL s.fr (parts.toList.map (·.2))) some = some ms) (hm : nodupB ms = true)
    (kk : WO P c ops rest ⟨(t, .agg cells) :: eatL ms s.fr, s.M⟩ Q) : WO P c ops (o :: rest) s Q := by
  rw [spineD_eq] at h6
  rw [spineN_eq] at hms
  cases h6; cases hms
  exact WO_structN hΓ hg hd ht ho h1 h2 h3 h4 h4' h5 rfl rfl (nodupB_sound hm) kk

end

section
variable {P : Program} {c : Ctx} {s : St} {M0 : List (Nat × Blk)} {acc : List Dl} {Q : St → List Dl → Prop} {ops : Array Oper} {rest : List Oper} {o : Oper}

theorem QG_buildS {Γ : Tys} (hΓ : Γ.ok P) {ty e t len : Nat} {parts : Array (Nat × Operand)} {ti te : TI} (ys : List T) {ms : List Nat} (hg : o.guard = none) (hd : o.dst = some t) (ht : t < c.n) (ho : o.op = .buildSlice ty len parts)
    (h1 : tyOf Γ ty = some ti) (h2 : ti.kind = .slice e) (h3 : tyOf Γ e = some te) (hp : parts.toList.map (·.1) = List.range len) (hl : len * te.size ≤ 16777216)
    (hy : PartsOk s.fr te.size (parts.toList.map (·.2)) ys) (hms : spineN (movedL s.fr (parts.toList.map (·.2))) some = some ms) (hm : nodupB ms = true) (hzs : te.zero.length = te.size) (hpos : 0 < te.size)
    (kk : QG P c ops M0 rest ⟨(t, .own (.list te.size ys)) :: ((ms.map fun u => (u, D.top)) ++ s.fr), s.M⟩ (acc ++ [⟨t, .own (.list te.size ys), ms, [], true⟩]) Q) : QG P c ops M0 (o :: rest) s acc Q :=
  QG_buildSlice hΓ ys hg hd ht ho h1 h2 h3 hp hl hy (by rw [spineN_eq] at hms; exact Option.some.inj hms) (nodupB_sound hm) hzs hpos kk

end
end Go.Eng
end

section
/- Lists that the cells of variables own: named, so that they can be read and grow. -/
set_option linter.unusedVariables false
set_option linter.unusedSimpArgs false
namespace Go.Eng
open Go.RowKit

section
variable {P : Program} {c : Ctx} {s : St} {Q : Exit → St → Prop} {ops : Array Oper} {rest : List Oper} {o : Oper}

theorem Cl.of {t : Nat} {s : St} (h : (clFr t s.fr && clM t s.M) = true) : Cl t s := by
  rw [Bool.and_eq_true] at h
  exact ⟨clFr_look h.1, (clM_look h.2).1, (clM_look h.2).2⟩

end
end Go.Eng
end

section
/- What is owned is laid open, list by list, to be written, and put together again; functions that write so, and are given more to read. -/
set_option linter.unusedVariables false
set_option linter.unusedSimpArgs false
namespace Go.Eng
open Go.RowKit

section
variable {P : Program} {c : Ctx} {s : St} {Q : Exit → St → Prop} {ops : Array Oper} {rest : List Oper} {o : Oper}

theorem ownV_key {w : World} {F : Nat → Prop} {β : Place} {id : Nat} {blk : Blk} {mb : List Nat} {vs : List Value} {ts : List T} (hm : RelB w F β id blk mb) (hb : ownV blk = some (vs, ts)) :
    ∃ pre bs, mb = pre ++ bs ∧ OwnL w vs ts bs ∧ ∀ (j : Nat) (y : T) (bs' : List Nat), OwnL w vs (ts.set j y) bs' → RelB w F β id (setV j y blk) (pre ++ bs') := by
  cases blk with
  | L _ _ => simp [ownV] at hb
  | box _ => simp [ownV] at hb
  | ro _ _ => simp [ownV] at hb
  | pin _ _ _ _ => simp [ownV] at hb
  | obox _ _ => simp [ownV] at hb
  | bld _ _ _ _ => simp [ownV] at hb
  | raw b sz vs0 ts0 =>
    simp [ownV] at hb
    obtain ⟨rfl, rfl⟩ := hb
    obtain ⟨arr, e, bs, q1, q2, q3, q4, q5⟩ := hm
    exact ⟨[b], bs, by simp [q5], q4, fun j y bs' hO => ⟨arr, e, bs', q1, q2, q3, hO, rfl⟩⟩
  | rawV vs0 ts0 =>
    simp [ownV] at hb
    obtain ⟨rfl, rfl⟩ := hb
    exact ⟨[], mb, by simp, hm, fun j y bs' hO => by
      show OwnL w vs0 (ts0.set j y) ([] ++ bs')
      simpa using hO⟩

end
end Go.Eng
end

section
/- Functions that write into what a struct leads to, and read more beside. -/
set_option linter.unusedVariables false
set_option linter.unusedSimpArgs false
namespace Go.Eng
open Go.RowKit

/-- A function that writes into what a struct of its own leads to, and reads another argument; its answer, where it has one, is a known value. -/
def WriteF (P : Program) (f : FuncId) (l : List T) (d1 : D) (r : Option Value) (l' : List T) : Prop :=
  Callable P f ∧ ∀ (w : World) (F : Nat → Prop) (arr : Array Value) (v1 : Value) (bs : List Nat), (∀ b, F b → b < w.heap.size) → RelD w F (fun _ => none) [v1] [d1] [] → OwnL w arr.toList l bs → bs.Nodup → (∀ b, b ∈ bs → b < w.heap.size ∧ ¬ F b) →
    Calls P f #[.agg arr, v1] w fun e w' => ∃ u, e = .returned u ∧ (∀ x, r = some x → u = x) ∧ ∃ bs', OwnL w' arr.toList l' bs' ∧ bs'.Nodup ∧ (∀ b, b ∈ bs' → b ∈ bs ∨ (w.heap.size ≤ b ∧ b < w'.heap.size)) ∧
      w'.os = w.os ∧ w'.tape = w.tape ∧ w'.output = w.output ∧ w.heap.size ≤ w'.heap.size ∧ ∀ b, b < w.heap.size → b ∉ bs → w'.heap[b]? = w.heap[b]?

section
variable {P : Program} {c : Ctx} {s : St} {Q : Exit → St → Prop} {ops : Array Oper} {rest : List Oper} {o : Oper}

def resOk (fn : Func) (s : St) : Option Value → Prop
  | none => fn.results.toList = []
  | some x => ∃ u, fn.results.toList = [.tmp u] ∧ look s.fr u = .t (.v x)
def EndsW (fn : Func) (r : Option Value) (id : Nat) (p : Blk → Prop) : Exit → St → Prop
  | .normal, s | .ret, s => resOk fn s r ∧ ∃ blk, lookM s.M id = some blk ∧ p blk
  | _, _ => False

theorem write_run {f : FuncId} {fn : Func} {code : Code} (hf : P.funcs[f]? = some fn) (hb : fn.body = some code) (hname : (fn.name == "runtime.NumGoroutine") = false) {N : Nat} (hN : 2 + (fn.ntmps - 2) = N) {d d1 : D} {r : Option Value} {blk : Blk} {p : Blk → Prop}
    (hwalk : ∀ w0 G F0, W P ⟨w0, G, F0, N⟩ code ⟨[(0, d), (1, d1)], [(N, blk)]⟩ (EndsW fn r N p)) (w : World) (v v1 : Value) (F : Nat → Prop) (bs : List Nat) (hF : ∀ b, F b → b < w.heap.size) (hv : RelD w F (fun _ => none) [v] [d] []) (hv1 : RelD w F (fun _ => none) [v1] [d1] []) (hB : RelB w F (fun _ => none) N blk bs)
    (hnd : bs.Nodup) (hlt : ∀ b, b ∈ bs → b < w.heap.size ∧ ¬ F b) :
    Calls P f #[v, v1] w fun e w' => ∃ u, e = .returned u ∧ (∀ x, r = some x → u = x) ∧ ∃ blk' F' β' bs', p blk' ∧ RelB w' F' β' N blk' bs' ∧ bs'.Nodup ∧ (∀ b, b ∈ bs' → b ∈ bs ∨ (w.heap.size ≤ b ∧ b < w'.heap.size)) ∧
      w'.os = w.os ∧ w'.tape = w.tape ∧ w'.output = w.output ∧ w.heap.size ≤ w'.heap.size ∧ ∀ b, b < w.heap.size → b ∉ bs → w'.heap[b]? = w.heap[b]? := by
  classical
  refine calls_of_wp hf hb ?_
  have h0 : Is ⟨w, fun b => b ∈ bs, F, N⟩ ⟨[(0, d), (1, d1)], [(N, blk)]⟩ { tmps := #[v, v1] ++ Array.replicate (fn.ntmps - 2) undef, defers := [] } w := by
    refine ⟨F, fun _ => none, fun _ => [], fun id => if id = N then bs else [], fun b => if b ∈ bs then some (.inr N) else none, ?_⟩
    exact {
      fr := fun t => by
        match t with
        | 0 => simpa [look, Array.getD, show 0 < 2 + (fn.ntmps - 2) from by omega] using hv
        | 1 => simpa [look, Array.getD, show 1 < 2 + (fn.ntmps - 2) from by omega] using hv1
        | t + 2 => simp only [look]; exact .top .done
      mem := fun id => by
        simp only [lookM]
        by_cases h : N = id
        · subst h; simp only [if_true]; exact hB
        · rw [if_neg h]; simp only [if_neg (Ne.symm h)]
      ofr := by simp
      omem := fun id b hb => by
        split at hb
        · rename_i e; rw [if_pos hb, e]
        · cases hb
      nfr := by simp
      nmem := fun id => by split <;> simp [hnd]
      own := fun b hb => by
        split at hb
        · rename_i h; exact ⟨(hlt b h).2, (hlt b h).1, .inr h⟩
        · exact absurd rfl hb
      fin := hF
      f0 := fun _ h => h
      fnew := fun _ h => .inl h
      f0in := fun b h => ⟨hF b h, fun h2 => (hlt b h2).2 h⟩
      gin := fun b h => (hlt b h).1
      os := rfl
      tape := rfl
      output := rfl
      size := Nat.le_refl _
      keep := fun _ _ _ => rfl
      defers := rfl
      tmps := by simp [← hN] }
  refine Code.wp_mono ?_ (hwalk w _ _ _ _ h0)
  rintro e a' w' ⟨s', ⟨F', β, fb, mb, ow, hi⟩, hq⟩
  have key : (resOk fn s' r ∧ ∃ blk, lookM s'.M N = some blk ∧ p blk) → a'.defers = [] ∧ ∃ v, (results fn a'.tmps).run P w' = .ok v w' ∧
      (∃ u, Ending.returned v = .returned u ∧ (∀ x, r = some x → u = x) ∧ ∃ blk' F' β' bs', p blk' ∧ RelB w' F' β' N blk' bs' ∧ bs'.Nodup ∧ (∀ b, b ∈ bs' → b ∈ bs ∨ (w.heap.size ≤ b ∧ b < w'.heap.size)) ∧
      w'.os = w.os ∧ w'.tape = w.tape ∧ w'.output = w.output ∧ w.heap.size ≤ w'.heap.size ∧ ∀ b, b < w.heap.size → b ∉ bs → w'.heap[b]? = w.heap[b]?) := by
    rintro ⟨h2, blk', h4, h5⟩
    have hm := hi.mem N
    rw [h4] at hm
    have hrest : ∃ blk' F' β' bs', p blk' ∧ RelB w' F' β' N blk' bs' ∧ bs'.Nodup ∧ (∀ b, b ∈ bs' → b ∈ bs ∨ (w.heap.size ≤ b ∧ b < w'.heap.size)) ∧
      w'.os = w.os ∧ w'.tape = w.tape ∧ w'.output = w.output ∧ w.heap.size ≤ w'.heap.size ∧ ∀ b, b < w.heap.size → b ∉ bs → w'.heap[b]? = w.heap[b]? := by
      refine ⟨blk', F', β, mb N, h5, hm, hi.nmem N, fun b hb => ?_, hi.os, hi.tape, hi.output, hi.size, fun b hb hn => hi.keep b hb hn⟩
      obtain ⟨_, h7, h8⟩ := hi.own b (by rw [hi.omem N b hb]; simp)
      exact h8.symm.imp (fun h => h) fun h => ⟨h, h7⟩
    cases r with
    | none =>
      have h2 : fn.results.toList = [] := h2
      have := results_run (P := P) fn a'.tmps (vs := []) (w := w') (by rw [h2]; simp)
      exact ⟨hi.defers, _, this, _, rfl, by simp, hrest⟩
    | some x =>
      obtain ⟨u, h2, h3⟩ := h2
      have hr := hi.fr u
      rw [h3] at hr
      have e1 := relD_t hr
      have := results_run (P := P) fn a'.tmps (vs := [x]) (w := w') (by rw [h2]; simp [resRun, e1])
      exact ⟨hi.defers, x, by simpa using this, x, rfl, fun y hy => Option.some.inj hy, hrest⟩
  cases e with
  | normal => exact key hq
  | ret => exact key hq
  | _ => exact hq.elim

theorem WriteF.intro {f : FuncId} {fn : Func} {code : Code} (hf : P.funcs[f]? = some fn) (hb : fn.body = some code) (hname : (fn.name == "runtime.NumGoroutine") = false) {N : Nat} (hN : 2 + (fn.ntmps - 2) = N) {l l' : List T} {d1 : D} {r : Option Value}
    (hwalk : ∀ vs : List Value, vs.length = l.length → ∀ w0 G F0, W P ⟨w0, G, F0, N⟩ code ⟨[(0, .agg (vs.map fun u => .t (.v u))), (1, d1)], [(N, .rawV vs l)]⟩
      (EndsW fn r N fun blk => blk = .rawV vs l')) : WriteF P f l d1 r l' := by
  refine ⟨⟨fn, hf, by rw [hb]; rfl, hname⟩, fun w F arr v1 bs hF hv1 hO hnd hlt => ?_⟩
  have hone := hO.one
  have hrel : ∀ vs : List Value, vs.all (·.oneCell') = true → RelD w F (fun _ => none) vs (vs.map fun u => D.t (.v u)) [] := by
    intro vs
    induction vs with
    | nil => intro _; exact .done
    | cons u vs ih => intro h; rw [List.all_cons, Bool.and_eq_true] at h; exact .t (.v h.1 .nil) (ih h.2)
  refine (write_run hf hb hname hN (hwalk arr.toList hO.length) w (.agg arr) v1 F bs hF (by simpa using RelD.agg hone (hrel _ hone) .done) hv1 hO hnd hlt).mono ?_
  rintro e' w' ⟨u, rfl, hr, blk', F', β', bs', rfl, hB, q⟩
  exact ⟨u, rfl, hr, bs', hB, q⟩
end
end Go.Eng
end

section
/- Lists whose elements are known by their values, apart from what those lead to. -/
set_option linter.unusedVariables false
set_option linter.unusedSimpArgs false
namespace Go.Eng
open Go.RowKit

section
variable {P : Program} {c : Ctx} {s : St} {Q : Exit → St → Prop} {ops : Array Oper} {rest : List Oper} {o : Oper}

end
end Go.Eng
end

section
/- Cells whose values are known by what they are told to be; places in known slices, in open order; lists of which a part is done. -/
set_option linter.unusedVariables false
set_option linter.unusedSimpArgs false
namespace Go.Eng
open Go.RowKit

section
variable {P : Program} {c : Ctx} {s : St} {Q : Exit → St → Prop} {ops : Array Oper} {rest : List Oper} {o : Oper}

theorem Is.told {a : Act} {w : World} (h : Is c s a w) {id j : Nat} {blk : Blk} {vs : List Value} {ts : List T} {u x : Value} (hM : lookM s.M id = some blk) (hb : ownV blk = some (vs, ts)) (hx : ts[j]? = some (.v x)) (hu : vs[j]? = some u) : u = x := by
  obtain ⟨F, β, fb, mb, ow, hi⟩ := h
  have hm := hi.mem id
  rw [hM] at hm
  obtain ⟨pre, bs, e1, hO, hback⟩ := ownV_key hm hb
  obtain ⟨b1, b2, b3, e2, hO2, hset⟩ := OwnL.at j hO hu hx
  cases hO2 with
  | v h3 h4 => rfl
end

end Go.Eng
namespace Go.Eng
section
variable {P : Program} {c : Ctx} {s : St} {Q : Exit → St → Prop}
end
end Go.Eng
namespace Go.Eng
section
variable {P : Program} {c : Ctx} {s : St} {ops : Array Oper}
end
end Go.Eng
namespace Go.Eng
section
variable {P : Program} {c : Ctx} {s : St} {ops : Array Oper} {rest : List Oper} {Q : Exit → St → Prop}
end
end Go.Eng
end

section
/- Lists put together out of order. -/
set_option linter.unusedVariables false
set_option linter.unusedSimpArgs false
namespace Go.Eng
open Go.RowKit

section
variable {P : Program} {c : Ctx} {s : St} {Q : Exit → St → Prop} {ops : Array Oper} {rest : List Oper} {o : Oper}
end
end Go.Eng
end
