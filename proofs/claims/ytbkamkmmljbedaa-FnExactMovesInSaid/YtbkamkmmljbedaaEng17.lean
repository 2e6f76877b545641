/- Functions that write into what they are given, which is owned: rules for memory whose place is known, and what such a function does. -/
import Derived.Test.YtbkamkmmljbedaaEng16
set_option linter.unusedVariables false
set_option linter.unusedSimpArgs false
namespace Go.Eng
open Go.RowKit

/-- A function that writes anew what it is given, and tells a number. -/
def MarkF (P : Program) (f : FuncId) (x : T) (k r : Int) (y : T) : Prop :=
  Callable P f ∧ ∀ (w : World) (v : Value) (bs : List Nat), (match x with | .agg _ => ∃ arr, v = .agg arr | _ => v.cells = #[v]) → OwnL w v.cells.toList x.cells bs → bs.Nodup → (∀ b, b ∈ bs → b < w.heap.size) →
    Calls P f #[v, .int .i64 k] w fun e w' => e = .returned (.int .i64 r) ∧ ∃ bs', OwnL w' v.cells.toList y.cells bs' ∧ bs'.Nodup ∧ (∀ b, b ∈ bs' → b ∈ bs ∨ (w.heap.size ≤ b ∧ b < w'.heap.size)) ∧
      w'.os = w.os ∧ w'.tape = w.tape ∧ w'.output = w.output ∧ w.heap.size ≤ w'.heap.size ∧ ∀ b, b < w.heap.size → b ∉ bs → w'.heap[b]? = w.heap[b]?

section
variable {P : Program} {c : Ctx} {s : St} {Q : Exit → St → Prop} {ops : Array Oper} {rest : List Oper} {o : Oper}

theorem eval_v {a : Act} {w : World} {F β fb mb ow} (hi : Conc c s a w F β fb mb ow) {x : Operand} {u : Value} (hx : opd s.fr x = .t (.v u)) : a.eval x = u := by
  obtain ⟨bs, hr, _⟩ := hi.opd x
  rw [hx] at hr
  exact relD_t hr

/-- The length of a slice that is known. -/
theorem WO_lenV {t ty n cap : Nat} {ad : Option Addr} {x : Operand} (hg : o.guard = none) (hd : o.dst = some t) (ht : t < c.n) (ho : o.op = .call { callee := .builtin .len, args := #[x], argTypes := #[ty] })
    (hu : ∃ e, P.underlying ty = some (.slice e)) (hx : opd s.fr x = .t (.v (.slice ad n cap))) (k : WO P c ops rest ⟨(t, .t (.int n)) :: s.fr, s.M⟩ Q) : WO P c ops (o :: rest) s Q := by
  refine WO_val hg hd ht _ (fun a w F β fb mb ow hi => ?_) k
  obtain ⟨e, hu⟩ := hu
  refine ⟨.int .i64 n, ?_, .t (.v rfl .nil) .done⟩
  simp [execOp, ho, resolve, invoke, builtin, eval_v hi hx, Builtin.len_, run_underlying hu]
  rfl

theorem WO_idxV {Γ : Tys} (hΓ : Γ.ok P) {ty e t b n cap : Nat} {x ix : Operand} {ti te : TI} {i : Int} (hg : o.guard = none) (hd : o.dst = some t) (ht : t < c.n) (ho : o.op = .indexAddr ty x ix)
    (h1 : tyOf Γ ty = some ti) (h2 : ti.kind = .slice e) (h3 : tyOf Γ e = some te) (hx : opd s.fr x = .t (.v (.slice (some ⟨b, 0, none⟩) n cap))) (hix : opd s.fr ix = .t (.int i)) (h5 : 0 ≤ i) (h6 : i < n)
    (k : WO P c ops rest ⟨(t, .t (.v (.pointer (some ⟨b, i.toNat * te.size, none⟩)))) :: s.fr, s.M⟩ Q) : WO P c ops (o :: rest) s Q := by
  refine WO_val hg hd ht _ (fun a w F β fb mb ow hi => ?_) k
  refine ⟨.pointer (some ⟨b, 0 + i.toNat * te.size, none⟩), ?_, by rw [Nat.zero_add]; exact .t (.v rfl .nil) .done⟩
  simp only [execOp, ho, eval_v hi hx, eval_v hi hix, Sem.run_bind, run_indexAt (hΓ.get h1) h2 (hΓ.get h3) h5 h6, Result.andThen_ok]
  rfl

theorem WO_fieldV {Γ : Tys} (hΓ : Γ.ok P) {ty t b off f j : Nat} {x : Operand} {ti : TI} {offs : List Nat} (hg : o.guard = none) (hd : o.dst = some t) (ht : t < c.n) (ho : o.op = .fieldAddr ty x j)
    (h1 : tyOf Γ ty = some ti) (h2 : ti.kind = .agg offs) (h3 : offs[j]? = some f) (hx : opd s.fr x = .t (.v (.pointer (some ⟨b, off, none⟩))))
    (k : WO P c ops rest ⟨(t, .t (.v (.pointer (some ⟨b, off + f, none⟩)))) :: s.fr, s.M⟩ Q) : WO P c ops (o :: rest) s Q := by
  refine WO_val hg hd ht _ (fun a w F β fb mb ow hi => ?_) k
  refine ⟨.pointer (some ⟨b, off + f, none⟩), ?_, .t (.v rfl .nil) .done⟩
  simp only [execOp, ho, eval_v hi hx, Sem.run_bind, run_fieldAt (hΓ.get h1) h2 h3, Result.andThen_ok]
  rfl

theorem OwnL.get? {w : World} {vs ts bs} (h : OwnL w vs ts bs) {j : Nat} {t : T} (ht : ts[j]? = some t) : ∃ v, vs[j]? = some v ∧ v.oneCell' = true := by
  have hl := h.length
  have hj := (List.getElem?_eq_some_iff.1 ht).1
  have hv : vs[j]? = some (vs[j]'(by omega)) := List.getElem?_eq_getElem (by omega)
  exact ⟨_, hv, List.all_eq_true.1 h.one _ (List.getElem_mem _)⟩

/-- A cell is read. -/
theorem WO_loadV {Γ : Tys} (hΓ : Γ.ok P) {ty t b sz id off : Nat} {x : Operand} {ti : TI} {vs : List Value} {ts : List T} {y : T} (hg : o.guard = none) (hd : o.dst = some t) (ht : t < c.n) (ho : o.op = .load ty x)
    (h1 : tyOf Γ ty = some ti) (h2 : ti.kind.isAgg = false) (hx : opd s.fr x = .t (.v (.pointer (some ⟨b, off, none⟩)))) (hM : lookM s.M id = some (.raw b sz vs ts)) (hy : ts[off]? = some y)
    (k : ∀ u, vs[off]? = some u → WO P c ops rest ⟨(t, .t (.v u)) :: s.fr, s.M⟩ Q) : WO P c ops (o :: rest) s Q := by
  intro a w hi0
  have hi00 := hi0
  obtain ⟨F, β, fb, mb, ow, hi⟩ := hi00
  have hm := hi.mem id
  rw [hM] at hm
  obtain ⟨arr, e, bs, q1, q2, q3, q4, q5⟩ := hm
  obtain ⟨u, hu, hone⟩ := q4.get? hy
  refine WO_val hg hd ht (.t (.v u)) (fun a w F β fb mb ow hi => ?_) (k u hu) a w hi0
  have hm := hi.mem id
  rw [hM] at hm
  obtain ⟨arr, e, bs, q1, q2, q3, q4, q5⟩ := hm
  refine ⟨u, ?_, .t (.v hone .nil) .done⟩
  have hc : w.cell? ⟨b, off, none⟩ = some u := by
    rw [cell_of q1]
    have hlt := (List.getElem?_eq_some_iff.1 hu).1
    have h9 : (arr.toList.take vs.length)[off]? = some u := by rw [q3]; exact hu
    rw [List.getElem?_take, if_pos hlt] at h9
    simpa using h9
  simp [execOp, ho, eval_v hi hx, Instr.loadAt, Instr.sureAddr, Sem.run_bind, run_loadVar_one (hΓ.get h1) h2 hc, Result.andThen_ok]

theorem take_splice {α : Type} {l ds : List α} {off n : Nat} (h : off + ds.length ≤ n) (hn : n ≤ l.length) : (splice l off ds).take n = splice (l.take n) off ds := by
  unfold splice
  have e1 : (l.take n).take off = l.take off := by rw [List.take_take, Nat.min_eq_left (by omega)]
  rw [e1, List.take_append, List.take_of_length_le (by simp; omega)]
  congr 1
  simp only [List.length_append, List.length_take]
  rw [List.drop_take, Nat.min_eq_left (by omega)]
  first | done | (congr 1; done) | (congr 1; omega)

theorem splice_one {α : Type} {l : List α} {off : Nat} {d : α} (h : off < l.length) : splice l off [d] = l.set off d := by
  unfold splice
  rw [List.set_eq_take_append_cons_drop, if_pos h]
  simp

theorem OwnL.setS {w : World} {vs ts bs} (h : OwnL w vs ts bs) {j : Nat} {u0 u : Value} (ht : ts[j]? = some (.v u0)) (hu : u.oneCell' = true) : OwnL w (vs.set j u) (ts.set j (.v u)) bs := by
  induction h generalizing j with
  | nil => simp at ht
  | v h1 h2 ih =>
    cases j with
    | zero => exact .v hu h2
    | succ j => exact .v h1 (ih (by simpa using ht))
  | none h ih =>
    cases j with
    | zero => simp at ht
    | succ j => exact .none (ih (by simpa using ht))
  | list h1 h2 h3 h4 h5 h6 h7 h8 ih1 ih2 =>
    cases j with
    | zero => simp at ht
    | succ j => exact .list h1 h2 h3 h4 h5 h6 h7 (ih2 (by simpa using ht))

/-- A number or a truth is written. -/
theorem WO_storeV {Γ : Tys} (hΓ : Γ.ok P) {ty b sz id off : Nat} {x y : Operand} {ti : TI} {vs : List Value} {ts : List T} {u0 u : Value} (hg : o.guard = none) (hd : o.dst = none) (ho : o.op = .store ty x y)
    (h1 : tyOf Γ ty = some ti) (h2 : ti.size = 1) (hx : opd s.fr x = .t (.v (.pointer (some ⟨b, off, none⟩)))) (hM : lookM s.M id = some (.raw b sz vs ts)) (ht : ts[off]? = some (.v u0)) (hy : opd s.fr y = .t (.v u)) (hu : u.cells = #[u]) (hone : u.oneCell' = true)
    (k : WO P c ops rest ⟨s.fr, (id, .raw b sz (vs.set off u) (ts.set off (.v u))) :: s.M⟩ Q) : WO P c ops (o :: rest) s Q := by
  rintro a w ⟨F, β, fb, mb, ow, hi⟩
  have hm := hi.mem id
  rw [hM] at hm
  obtain ⟨arr, e, bs, q1, q2, q3, q4, q5⟩ := hm
  have hlen := q4.length
  have hoff := (List.getElem?_eq_some_iff.1 ht).1
  have hva : vs.length ≤ arr.size := by
    have := congrArg List.length q3
    simp only [List.length_take, Array.length_toList] at this
    omega
  have hob : ow b = some (.inr id) := hi.omem id b (by rw [q5]; simp)
  have hnd := hi.nmem id
  rw [q5] at hnd
  obtain ⟨hn1, hn2⟩ := List.nodup_cons.1 hnd
  have hev := eval_v hi hx
  have hevy := eval_v hi hy
  refine wpList_plain hg fun K hK => ?_
  unfold Oper.wp
  have hrun : (execOp a.eval o).run P w = .ok .skip (w.setRow b (splice arr.toList off (a.eval y).cells.toList).toArray) := by
    have := run_storeAt (hΓ.get h1) (off := off) (v := a.eval y) q1 (by rw [hevy, hu, h2]; rfl) (by rw [hevy, hu]; simpa using hone) (by rw [hevy, hu]; simp; omega)
    simp only [execOp, ho, hev, Sem.run_bind, this, Result.andThen_ok]
    rfl
  rw [hrun, Oper.upon_skip, hd]
  have hkeep : ∀ b', b' ≠ b → (w.setRow b (splice arr.toList off (a.eval y).cells.toList).toArray).heap[b']? = w.heap[b']? := fun b' h => setRow_other w b b' _ h
  refine hK _ _ (k _ _ ?_)
  refine hi.renew id (Anew.same id β) (fun _ => False) (b :: bs) (.raw b sz (vs.set off u) (ts.set off (.v u))) none rfl (by simp) rfl rfl rfl (by simp)
    (fun b' hb' h => hkeep b' fun e => (h _ (e ▸ hob)).2 rfl) (fun v _ => .inl ⟨rfl, by simp⟩) (by simp [lookM]) ?_ hnd ?_ ?_
  · refine ⟨_, e, bs, setRow_heap w b arr _ e _ q1, ?_, ?_, ?_, rfl⟩
    · rw [hevy, hu, ← q2]
      have := length_splice (l := arr.toList) (off := off) (ds := [u]) (by simp; omega)
      simpa using this
    · rw [hevy, hu, List.length_set]
      show (splice arr.toList off [u]).take vs.length = _
      rw [take_splice (by simp; omega) (by simpa using hva), q3, splice_one (by omega)]
    · exact (q4.setS ht hone).mono fun b' hb' => hkeep b' fun e => hn1 (e ▸ hb')
  · intro b' hb'
    exact .inr ⟨_, hi.omem id b' (by rw [q5]; exact hb'), .inr rfl⟩
  · intro j hj
    simp only [lookM, if_neg (Ne.symm hj)]
    exact .inr ⟨by simp, by cases lookM s.M j <;> rfl⟩

end
end Go.Eng
