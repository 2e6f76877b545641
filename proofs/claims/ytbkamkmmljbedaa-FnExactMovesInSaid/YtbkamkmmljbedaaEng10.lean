/- The words in which a statement of open order is walked. -/
import Derived.Test.YtbkamkmmljbedaaEng9
set_option linter.unusedVariables false
set_option linter.unusedSimpArgs false
namespace Go.Eng
open Go.RowKit

section
variable {P : Program} {c : Ctx} {s : St} {Q : St → Prop} {ops : Array Oper} {rest : List Oper} {o : Oper}

theorem Agree.opd {s' : St} (h : Agree ops o s s') {x : Operand} (hx : x ∈ o.op.operands) : Eng.opd s'.fr x = Eng.opd s.fr x := by
  cases x with
  | tmp t =>
    refine h.2 t ?_
    unfold Oper.looksAt
    exact List.mem_append_left _ (List.mem_filterMap.2 ⟨.tmp t, by simpa using hx, rfl⟩)
  | _ => rfl

theorem Agree.opds {s' : St} (h : Agree ops o s s') : ∀ {l : List Operand}, (∀ x, x ∈ l → x ∈ o.op.operands) → l.map (Eng.opd s'.fr) = l.map (Eng.opd s.fr) := fun hl =>
  List.map_congr_left fun x hx => h.opd (hl x hx)

theorem Agree.optI {s' : St} (h : Agree ops o s s') {x : Option Operand} {d : Int} (hx : ∀ y, x = some y → y ∈ o.op.operands) : Eng.optI s'.fr x d = Eng.optI s.fr x d := by
  cases x with
  | none => rfl
  | some y => simp only [Eng.optI, h.opd (hx y rfl)]

theorem evV_agree {Γ : Tys} {s' : St} (h : Agree ops o s s') : evV Γ s' o.op = evV Γ s o.op := by
  have hM := h.1
  have ho : ∀ x, x ∈ o.op.operands → Eng.opd s'.fr x = Eng.opd s.fr x := fun x hx => h.opd hx
  generalize o.op = op at ho
  cases op with
  | move x => simp only [evV]; rw [ho x (by simp [Op.operands])]
  | assign x => simp only [evV]; rw [ho x (by simp [Op.operands])]
  | pick x a b => simp only [evV]; rw [ho x (by simp [Op.operands]), ho a (by simp [Op.operands]), ho b (by simp [Op.operands])]
  | binOp op ty x y ty' => simp only [evV]; rw [ho x (by simp [Op.operands]), ho y (by simp [Op.operands])]
  | unOp op ty x => cases op <;> simp only [evV] <;> rw [ho x (by simp [Op.operands])]
  | fieldAddr ty x k => simp only [evV]; rw [ho x (by simp [Op.operands])]
  | load ty x => simp only [evV]; rw [ho x (by simp [Op.operands]), hM]
  | extract x k => simp only [evV]; rw [ho x (by simp [Op.operands])]
  | makeFunc f first captured =>
    cases f <;> simp only [evV]
    split
    · congr 2
      refine List.map_congr_left fun x hx => ?_
      rw [ho x (by simp only [Op.operands, Array.mem_append]; exact .inr (by simpa using hx))]
    · rfl
  | call cc =>
    obtain ⟨cal, args, tys⟩ := cc
    have ho' : ∀ x, x ∈ args.toList → Eng.opd s'.fr x = Eng.opd s.fr x := fun x hx => ho x (by
      simp only [Op.operands, Call.operands, Array.mem_append]
      exact .inr (by simpa using hx))
    cases cal with
    | builtin b =>
      cases b <;> try rfl
      all_goals
        simp only [evV]
        split
        · rename_i ha
          first
            | (rw [ho' _ (by rw [ha]; simp)]; done)
            | (rename_i ha' ; rw [ho' _ (by rw [ha']; simp)]; done)
            | (rw [ho' _ (by rw [ha]; simp), ho' _ (by rw [ha]; simp)]; done)
        · rfl
    | _ => rfl
  | _ => rfl

theorem QL_nil (h : Q s) : QL P c ops [] s Q := h

theorem QL_ev {Γ : Tys} (hΓ : Γ.ok P) {t : Nat} {d : D} (hg : o.guard = none) (hd : o.dst = some t) (ht : t < c.n) (he : evF Γ s o.op = some d) (k : QL P c ops rest ⟨(t, d) :: s.fr, s.M⟩ Q) : QL P c ops (o :: rest) s Q :=
  ⟨t, d, hd, fun s' ha Q h => WO_evF hΓ hg hd ht (by unfold evF at he ⊢; rwa [evV_agree ha]) h, k⟩

theorem QL_int {Γ : Tys} (hΓ : Γ.ok P) {t : Nat} {n : Int} (hg : o.guard = none) (hd : o.dst = some t) (ht : t < c.n) (he : evV Γ s o.op = some (.t (.int (IntKind.i64.wrap n)))) (hw : IntKind.i64.wrap n = n)
    (k : QL P c ops rest ⟨(t, .t (.int n)) :: s.fr, s.M⟩ Q) : QL P c ops (o :: rest) s Q :=
  ⟨t, _, hd, fun s' ha Q h => WO_int hΓ hg hd ht (by rwa [evV_agree ha]) hw h, k⟩

/-- A test that others hang on: both ways. -/
theorem QL_bool {Γ : Tys} (hΓ : Γ.ok P) {t : Nat} {b : Bool} (hg : o.guard = none) (hd : o.dst = some t) (ht : t < c.n) (he : evF Γ s o.op = some (.t (.bool b)))
    (h1 : b = true → QL P c ops rest ⟨(t, .t (.bool true)) :: s.fr, s.M⟩ Q) (h2 : b = false → QL P c ops rest ⟨(t, .t (.bool false)) :: s.fr, s.M⟩ Q) : QL P c ops (o :: rest) s Q := by
  cases b
  · exact QL_ev hΓ hg hd ht he (h2 rfl)
  · exact QL_ev hΓ hg hd ht he (h1 rfl)

theorem QL_evE {Γ : Tys} (hΓ : Γ.ok P) {t : Nat} {n m : Int} (hg : o.guard = none) (hd : o.dst = some t) (ht : t < c.n) (he : evF Γ s o.op = some (.t (.int n))) (hn : n = m) (k : QL P c ops rest ⟨(t, .t (.int m)) :: s.fr, s.M⟩ Q) : QL P c ops (o :: rest) s Q := by
  subst hn; exact QL_ev hΓ hg hd ht he k
theorem WO_evE {Γ : Tys} (hΓ : Γ.ok P) {t : Nat} {n m : Int} {Q : Exit → St → Prop} (hg : o.guard = none) (hd : o.dst = some t) (ht : t < c.n) (he : evF Γ s o.op = some (.t (.int n))) (hn : n = m) (k : WO P c ops rest ⟨(t, .t (.int m)) :: s.fr, s.M⟩ Q) : WO P c ops (o :: rest) s Q := by
  subst hn; exact WO_evF hΓ hg hd ht he k
theorem lenM {α β : Type} {f : α → β} {l : List α} : (((l.map f).length : Nat) : Int) = (l.length : Int) := by rw [List.length_map]

/-- A test's answer, both ways. -/
theorem QL_split {l : List Oper} {t : Nat} {b : Bool} {fr : List (Nat × D)} {M : List (Nat × Blk)} (h1 : b = true → QL P c ops l ⟨(t, .t (.bool true)) :: fr, M⟩ Q) (h2 : b = false → QL P c ops l ⟨(t, .t (.bool false)) :: fr, M⟩ Q) :
    QL P c ops l ⟨(t, .t (.bool b)) :: fr, M⟩ Q := by
  cases b
  · exact h2 rfl
  · exact h1 rfl

theorem Agree.guard {s' : St} (h : Agree ops o s s') : Agree ops { o with guard := none } s s' :=
  ⟨h.1, fun u hu => h.2 u (by unfold Oper.looksAt at hu ⊢; simp only [List.append_nil] at hu; exact List.mem_append_left _ hu)⟩

theorem Agree.at_guard {s' : St} (h : Agree ops o s s') {j d : Nat} {want : Bool} (hg : o.guard = some (j, want)) (hj : (ops[j]?).bind (·.dst) = some d) : look s'.fr d = look s.fr d :=
  h.2 d (by unfold Oper.looksAt; refine List.mem_append_right _ ?_; rw [hg]; simp [hj])

theorem QL_guardY {j d t : Nat} {want : Bool} (hg : o.guard = some (j, want)) (hj : (ops[j]?).bind (·.dst) = some d) (hl : look s.fr d = .t (.bool want)) (hd : o.dst = some t) (ht : t < c.n)
    (k : QL P c ops ({ o with guard := none } :: rest) s Q) : QL P c ops (o :: rest) s Q := by
  obtain ⟨t', d', h1, h2, h3⟩ := k
  exact ⟨t', d', h1, fun s' ha Q h => WO_guardY hg hj (by rw [ha.at_guard hg hj]; exact hl) hd ht (h2 s' ha.guard Q h), h3⟩

theorem QL_guardN {j d t : Nat} {want b : Bool} (hg : o.guard = some (j, want)) (hj : (ops[j]?).bind (·.dst) = some d) (hl : look s.fr d = .t (.bool b)) (hb : b = !want) (hd : o.dst = some t) (ht : t < c.n)
    (k : QL P c ops rest ⟨(t, .tup []) :: s.fr, s.M⟩ Q) : QL P c ops (o :: rest) s Q :=
  ⟨t, _, hd, fun s' ha Q h => WO_guardN hg hj (by rw [ha.at_guard hg hj]; exact hl) hb hd ht h, k⟩

theorem QL_guardS {j d t : Nat} {want : Bool} (hg : o.guard = some (j, want)) (hj : (ops[j]?).bind (·.dst) = some d) (hl : look s.fr d = .tup []) (hd : o.dst = some t) (ht : t < c.n)
    (k : QL P c ops rest ⟨(t, .tup []) :: s.fr, s.M⟩ Q) : QL P c ops (o :: rest) s Q :=
  ⟨t, _, hd, fun s' ha Q h => WO_guardS hg hj (by rw [ha.at_guard hg hj]; exact hl) hd ht h, k⟩

theorem QL_idxT {Γ : Tys} (hΓ : Γ.ok P) {ty e t n : Nat} {x ix : Operand} {ti te : TI} {l : List T} {i : Int} (hg : o.guard = none) (hd : o.dst = some t) (ht : t < c.n) (ho : o.op = .indexAddr ty x ix)
    (h1 : tyOf Γ ty = some ti) (h2 : ti.kind = .slice e) (h3 : tyOf Γ e = some te) (h4 : te.size = n) (hx : opd s.fr x = .t (.list n l)) (hix : opd s.fr ix = .t (.int i))
    (h5 : 0 ≤ i) (y : T) (h6 : l[i.toNat]? = some y)
    (k : QL P c ops rest ⟨(t, .rp y 0) :: s.fr, s.M⟩ Q) : QL P c ops (o :: rest) s Q :=
  ⟨t, _, hd, fun s' ha Q h => WO_idxT hΓ hg hd ht ho h1 h2 h3 h4 (by rw [ha.opd (by rw [ho]; simp [Op.operands])]; exact hx) (by rw [ha.opd (by rw [ho]; simp [Op.operands])]; exact hix) h5 y h6 h, k⟩

theorem QL_idxS {Γ : Tys} (hΓ : Γ.ok P) {ty e t n id off len : Nat} {x ix : Operand} {ti te : TI} {xs : List T} {i : Int} (hg : o.guard = none) (hd : o.dst = some t) (ht : t < c.n) (ho : o.op = .indexAddr ty x ix)
    (h1 : tyOf Γ ty = some ti) (h2 : ti.kind = .slice e) (h3 : tyOf Γ e = some te) (h4 : te.size = n) (hx : opd s.fr x = .sl id off len) (hM : lookM s.M id = some (.L n xs)) (hix : opd s.fr ix = .t (.int i))
    (h5 : 0 ≤ i) (h6 : i < len)
    (k : QL P c ops rest ⟨(t, .ref id (off + i.toNat) 0) :: s.fr, s.M⟩ Q) : QL P c ops (o :: rest) s Q :=
  ⟨t, _, hd, fun s' ha Q h => by
    have := WO_idxS (rest := []) (Q := Q) hΓ hg hd ht ho h1 h2 h3 h4 (s := s') (by rw [ha.opd (by rw [ho]; simp [Op.operands])]; exact hx) (by rw [ha.1]; exact hM) (by rw [ha.opd (by rw [ho]; simp [Op.operands])]; exact hix) h5 h6 h
    exact this, k⟩

theorem QL_loadL {Γ : Tys} (hΓ : Γ.ok P) {ty t id i off n : Nat} {x : Operand} {ti : TI} {xs : List T} {y : T} {d : D} (hg : o.guard = none) (hd : o.dst = some t) (ht : t < c.n) (ho : o.op = .load ty x)
    (h1 : tyOf Γ ty = some ti) (hx : opd s.fr x = .ref id i off) (hM : lookM s.M id = some (.L n xs)) (hy : xs[i]? = some y) (hp : partD ti.kind ti.size (y.cells.map scal) off = some d)
    (k : QL P c ops rest ⟨(t, d) :: s.fr, s.M⟩ Q) : QL P c ops (o :: rest) s Q :=
  ⟨t, _, hd, fun s' ha Q h => WO_loadL hΓ hg hd ht ho h1 (by rw [ha.opd (by rw [ho]; simp [Op.operands])]; exact hx) (by rw [ha.1]; exact hM) hy hp h, k⟩

theorem ResL.mem {s' : St} (hM : s'.M = s.M) {ds es : List D} (h : ResL s ds es) : ResL s' ds es := by
  induction h with
  | done => exact .done
  | t _ ih => exact .t ih
  | nil n _ ih => exact .nil n ih
  | nil' _ ih => exact .nil' ih
  | own _ ih => exact .own ih
  | sl h1 h2 _ ih => exact .sl (by rw [hM]; exact h1) h2 ih
  | ref h1 _ _ ih1 ih2 => exact .ref (by rw [hM]; exact h1) ih1 ih2
  | rp _ ih => exact .rp ih
  | agg _ _ ih1 ih2 => exact .agg ih1 ih2
  | aggT _ _ ih1 ih2 => exact .aggT ih1 ih2
  | clo _ _ ih1 ih2 => exact .clo ih1 ih2
  | top _ ih => exact .top ih
  | raw h1 h2 h3 _ ih => exact .raw (by rw [hM]; exact h1) h2 h3 ih
  | rawA h1 h2 _ ih => exact .rawA (by rw [hM]; exact h1) h2 ih

theorem QL_call {t : Nat} {fo : Operand} {args : Array Operand} {tys : Array TypeId} {f : FuncId} {caps es : List D} {r : D} (hg : o.guard = none) (hd : o.dst = some t) (ht : t < c.n)
    (ho : o.op = .call { callee := .value fo, args := args, argTypes := tys }) (hf : opd s.fr fo = .clo f caps) (hes : ResL s (args.toList.map (opd s.fr) ++ caps) es) (hc : Fun P f es r) (hn : r.noImm = true)
    (k : QL P c ops rest ⟨(t, r) :: s.fr, s.M⟩ Q) : QL P c ops (o :: rest) s Q :=
  ⟨t, _, hd, fun s' ha Q h => by
    have e1 : opd s'.fr fo = opd s.fr fo := ha.opd (by rw [ho]; simp [Op.operands, Call.operands])
    have e2 : args.toList.map (opd s'.fr) = args.toList.map (opd s.fr) := ha.opds fun x hx => by
      rw [ho]
      simp only [Op.operands, Call.operands, Array.mem_append]
      exact .inr (by simpa using hx)
    exact WO_call hg hd ht ho (by rw [e1]; exact hf) (by rw [e2]; exact hes.mem ha.1) hc hn h, k⟩

theorem QL_known {l : List Oper} {t : Nat} {b v : Bool} {fr : List (Nat × D)} {M : List (Nat × Blk)} (h : b = v) (k : QL P c ops l ⟨(t, .t (.bool v)) :: fr, M⟩ Q) : QL P c ops l ⟨(t, .t (.bool b)) :: fr, M⟩ Q := by
  subst h; exact k

theorem QL_norm {l : List Oper} {s' : St} (h : forceS s = some s') (k : QL P c ops l s' Q) : QL P c ops l s Q := by rw [forceS_eq h]; exact k

end
end Go.Eng
