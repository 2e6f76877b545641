/- A call whose answer may be a part of what is read, in a statement of open order. -/
import Derived.Test.YtbkamkmmljbedaaEng23
set_option linter.unusedVariables false
set_option linter.unusedSimpArgs false
namespace Go.Eng
open Go.RowKit

section
variable {P : Program} {c : Ctx} {s : St} {Q : St → Prop} {ops : Array Oper} {rest : List Oper} {o : Oper}

theorem QL_callF {t : Nat} {fo : Operand} {args : Array Operand} {tys : Array TypeId} {f : FuncId} {caps es : List D} {r : D} (hg : o.guard = none) (hd : o.dst = some t) (ht : t < c.n)
    (ho : o.op = .call { callee := .value fo, args := args, argTypes := tys }) (hf : opd s.fr fo = .clo f caps) (hes : args.toList.map (opd s.fr) ++ caps = es) (hcl : D.closed.closedL es = true) (hfr : D.free.freeL es = true)
    (hc : Fun P f es r) (hn : r.closed = true)
    (k : QL P c ops rest ⟨(t, r) :: s.fr, s.M⟩ Q) : QL P c ops (o :: rest) s Q :=
  ⟨t, _, hd, fun s' ha Q h => by
    have e1 : opd s'.fr fo = opd s.fr fo := ha.opd (by rw [ho]; simp [Op.operands, Call.operands])
    have e2 : args.toList.map (opd s'.fr) = args.toList.map (opd s.fr) := ha.opds fun x hx => by
      rw [ho]
      simp only [Op.operands, Call.operands, Array.mem_append]
      exact .inr (by simpa using hx)
    exact WO_callF hg hd ht ho (by rw [e1]; exact hf) (by rw [e2]; exact hes) hcl hfr hc hn h, k⟩

/-- A whole struct is read, to be handed on. -/
theorem QL_evZ {Γ : Tys} (hΓ : Γ.ok P) {t : Nat} {d d' : D} (hg : o.guard = none) (hd : o.dst = some t) (ht : t < c.n) (he : evF Γ s o.op = some d) (hz : frz d = some d') (k : QL P c ops rest ⟨(t, d') :: s.fr, s.M⟩ Q) : QL P c ops (o :: rest) s Q :=
  ⟨t, d', hd, fun s' ha Q h => by
    have h1 : Le c ⟨(t, d) :: s'.fr, s'.M⟩ ⟨(t, d') :: (t, d) :: s'.fr, s'.M⟩ := Le.freeze (u := t) (by
      show frz (if t = t then d else look s'.fr t) = _
      rw [if_pos rfl]; exact hz)
    have h2 : Le c ⟨(t, d') :: (t, d) :: s'.fr, s'.M⟩ ⟨(t, d') :: s'.fr, s'.M⟩ := Le.of (fun u => .inl (by
      show (if t = u then d' else look s'.fr u) = if t = u then d' else if t = u then d else look s'.fr u
      split <;> rfl)) (fun u => .inl rfl)
    exact WO_evF hΓ hg hd ht (by unfold evF at he ⊢; rwa [evV_agree ha]) (WO_le (h1.trans h2) h), k⟩

/-- A function that has caught nothing, as a value that is known, and back. -/
theorem Le.cloV {u : Nat} {f : FuncId} (h1 : look s.fr u = .clo f []) : Le c s ⟨(u, .t (.v (.func (.func f) #[] #[]))) :: s.fr, s.M⟩ := by
  rintro a w ⟨F, β, fb, mb, ow, hi⟩
  refine ⟨F, β, fb, mb, ow, { hi with fr := fun v => ?_ }⟩
  show RelD w F β _ [if u = v then _ else _] _
  split
  · rename_i e
    subst e
    have h := hi.fr u
    rw [h1] at h
    generalize a.tmps.getD u undef = x at h
    generalize fb u = bs at h
    cases h with
    | clo q1 q2 =>
      rename_i arr _ _
      cases q2
      have : arr = #[] := by
        cases arr with
        | mk l => cases q1; rfl
      subst this
      cases q1
      exact .t (.v rfl .nil) .done
  · exact hi.fr v
theorem Le.vClo {u : Nat} {f : FuncId} (h1 : look s.fr u = .t (.v (.func (.func f) #[] #[]))) : Le c s ⟨(u, .clo f []) :: s.fr, s.M⟩ := by
  rintro a w ⟨F, β, fb, mb, ow, hi⟩
  refine ⟨F, β, fb, mb, ow, { hi with fr := fun v => ?_ }⟩
  show RelD w F β _ [if u = v then _ else _] _
  split
  · rename_i e
    subst e
    have h := hi.fr u
    rw [h1] at h
    have e := relD_t h
    have hb : fb u = [] := by
      generalize fb u = bs at h
      generalize a.tmps.getD u undef = x at h
      cases h with
      | t _ q => cases q; rfl
    rw [e, hb]
    exact .clo (bs := []) (bs' := []) .done .done
  · exact hi.fr v
/-- Such a value is read. -/
theorem QL_evC {Γ : Tys} (hΓ : Γ.ok P) {t : Nat} {f : FuncId} (hg : o.guard = none) (hd : o.dst = some t) (ht : t < c.n) (he : evF Γ s o.op = some (.t (.v (.func (.func f) #[] #[])))) (k : QL P c ops rest ⟨(t, .clo f []) :: s.fr, s.M⟩ Q) : QL P c ops (o :: rest) s Q :=
  ⟨t, _, hd, fun s' ha Q h => by
    have h1 : Le c ⟨(t, .t (.v (.func (.func f) #[] #[]))) :: s'.fr, s'.M⟩ ⟨(t, .clo f []) :: (t, .t (.v (.func (.func f) #[] #[]))) :: s'.fr, s'.M⟩ := Le.vClo (u := t) (by
      show (if t = t then _ else _) = _
      rw [if_pos rfl])
    have h2 : Le c ⟨(t, .clo f []) :: (t, .t (.v (.func (.func f) #[] #[]))) :: s'.fr, s'.M⟩ ⟨(t, .clo f []) :: s'.fr, s'.M⟩ := Le.of (fun u => .inl (by
      show (if t = u then D.clo f [] else look s'.fr u) = if t = u then D.clo f [] else if t = u then _ else look s'.fr u
      split <;> rfl)) (fun u => .inl rfl)
    exact WO_evF hΓ hg hd ht (by unfold evF at he ⊢; rwa [evV_agree ha]) (WO_le (h1.trans h2) h), k⟩

def absT : D → T
  | .own x => x
  | .t (.v x) => .v x
  | _ => .v undef
def absB : D → Bool
  | .own _ => true
  | .t (.v _) => true
  | _ => false
theorem absL_of : ∀ {cells : List D}, cells.all absB = true → AbsL cells (cells.map absT)
  | [], _ => trivial
  | d :: ds, h => by
    rw [List.all_cons, Bool.and_eq_true] at h
    have h2 := absL_of h.2
    have h1 := h.1
    cases d with
    | own x => exact AbsL.own' h2
    | t x =>
      cases x with
      | v x => exact AbsL.v' h2
      | _ => cases h1
    | _ => cases h1
/-- A struct that owns its parts, its parts being told by their kind. -/
theorem WO_exposeB {Q : Exit → St → Prop} {l : List Oper} {u : Nat} (id : Nat) {cells : List D} (h1 : look s.fr u = .agg cells) (h2 : cells.all absB = true)
    (k : ∀ us : List Value, us.length = cells.length → WO P c ops l ⟨(u, .agg (us.map fun v => .t (.v v))) :: s.fr, (id, .rawV us (cells.map absT)) :: s.M⟩ Q) : WO P c ops l s Q :=
  WO_exposeA id _ h1 (absL_of h2) fun us hu => k us (by rw [hu, List.length_map])

/-- What is left over, and how often it goes. -/
theorem WO_rem {Q : Exit → St → Prop} {t ty ty' : Nat} {x y : Operand} {a b : Int} (hg : o.guard = none) (hd : o.dst = some t) (ht : t < c.n) (ho : o.op = .binOp .rem ty x y ty') (hx : opd s.fr x = .t (.v (.int .i64 a))) (hy : opd s.fr y = .t (.v (.int .i64 b)))
    (hb : b ≠ 0) (kk : WO P c ops rest ⟨(t, .t (.v (.int .i64 (a.tmod b)))) :: s.fr, s.M⟩ Q) : WO P c ops (o :: rest) s Q := by
  refine WO_val hg hd ht _ (fun a' w F β fb mb ow hi => ?_) kk
  refine ⟨.int .i64 (a.tmod b), ?_, .t (.v rfl .nil) .done⟩
  have e1 := eval_v hi hx
  have e2 := eval_v hi hy
  simp only [execOp, ho, e1, e2]
  simp [eqGuard, binOp, Op.intDiv, hb]
theorem WO_quo {Q : Exit → St → Prop} {t ty ty' : Nat} {x y : Operand} {a b : Int} (hg : o.guard = none) (hd : o.dst = some t) (ht : t < c.n) (ho : o.op = .binOp .quo ty x y ty') (hx : opd s.fr x = .t (.v (.int .i64 a))) (hy : opd s.fr y = .t (.v (.int .i64 b)))
    (hb : b ≠ 0) (kk : WO P c ops rest ⟨(t, .t (.v (.int .i64 (IntKind.i64.wrap (a.tdiv b))))) :: s.fr, s.M⟩ Q) : WO P c ops (o :: rest) s Q := by
  refine WO_val hg hd ht _ (fun a' w F β fb mb ow hi => ?_) kk
  refine ⟨.int .i64 (IntKind.i64.wrap (a.tdiv b)), ?_, .t (.v rfl .nil) .done⟩
  have e1 := eval_v hi hx
  have e2 := eval_v hi hy
  simp only [execOp, ho, e1, e2]
  simp [eqGuard, binOp, Op.intDiv, hb]

end
end Go.Eng
