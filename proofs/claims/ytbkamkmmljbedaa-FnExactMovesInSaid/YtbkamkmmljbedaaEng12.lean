/- Further rules: a whole element stored anew. -/
import Derived.Test.YtbkamkmmljbedaaEng11
set_option linter.unusedVariables false
set_option linter.unusedSimpArgs false
namespace Go.Eng
open Go.RowKit

section
variable {P : Program} {c : Ctx} {s : St} {Q : Exit → St → Prop} {ops : Array Oper} {rest : List Oper} {o : Oper}

theorem flat_of_cells : ∀ {xs ys : List T}, xs.map T.cells = ys.map T.cells → xs.flatMap T.cells = ys.flatMap T.cells := by
  intro xs ys h
  rw [List.flatMap_def, List.flatMap_def, h]

theorem ResL.slA {id len n : Nat} {xs : List T} {ds es : List D} (h : lookM s.M id = some (.L n xs)) (hl : xs.length = len) (k : ResL s ds es) : ResL s (.sl id 0 len :: ds) (.t (.list n xs) :: es) := by
  have := ResL.sl (off := 0) (len := len) h (by omega) k
  rw [List.drop_zero, List.take_of_length_le (by omega)] at this
  exact this

/-- Data, and what points into data. -/
def D.imm : D → Bool
  | .t _ | .rp _ _ => true
  | _ => false
theorem ResL.imms : ∀ {ds : List D}, ds.all D.imm = true → ResL s ds ds
  | [], _ => .done
  | .t _ :: ds, h => .t (ResL.imms (by simpa [D.imm] using h))
  | .rp _ _ :: ds, h => .rp (ResL.imms (by simpa [D.imm] using h))

theorem free_imms : ∀ {ds : List D}, ds.all D.imm = true → D.free.freeL ds = true
  | [], _ => rfl
  | .t _ :: ds, h => by simp only [D.free.freeL, D.free, free_imms (ds := ds) (by simpa [D.imm] using h), Bool.and_self]
  | .rp _ _ :: ds, h => by simp only [D.free.freeL, D.free, free_imms (ds := ds) (by simpa [D.imm] using h), Bool.and_self]

/-- A function value is moved, what it has caught unknown. -/
theorem WO_moveClo {Γ : Tys} (hΓ : Γ.ok P) {t : Nat} {x : Operand} {f : FuncId} {caps : List D} (hg : o.guard = none) (hd : o.dst = some t) (ht : t < c.n) (ho : o.op = .move x) (hx : opd s.fr x = .clo f caps) (hc : caps.all D.imm = true)
    (k : WO P c ops rest ⟨(t, .clo f caps) :: s.fr, s.M⟩ Q) : WO P c ops (o :: rest) s Q :=
  WO_ev hΓ hg hd ht (d := .clo f caps) (by rw [ho]; simp only [evV, hx, D.dup, D.free, free_imms hc, if_true]) k

/-- What a truth is known to be. -/
theorem Le.known {t : Nat} {b : Bool} (v : Bool) (h1 : look s.fr t = .t (.bool b)) (h2 : b = v) : Le c s ⟨(t, .t (.bool v)) :: s.fr, s.M⟩ := by
  refine Le.of (fun u => .inl ?_) (fun u => .inl rfl)
  show (if t = u then _ else _) = _
  split
  · rename_i h; rw [← h, h1, h2]
  · rfl

/-- Elements of the same cells are as good. -/
theorem Le.reL {id n : Nat} {xs ys : List T} {fr : List (Nat × D)} {M : List (Nat × Blk)} (h : xs.map T.cells = ys.map T.cells) : Le c ⟨fr, (id, .L n xs) :: M⟩ ⟨fr, (id, .L n ys) :: M⟩ := by
  rintro a w ⟨F, β, fb, mb, ow, hi⟩
  refine ⟨F, β, fb, mb, ow, { hi with mem := fun u => ?_ }⟩
  have hm := hi.mem u
  simp only [lookM] at hm ⊢
  by_cases hu : id = u
  · rw [if_pos hu] at hm ⊢
    dsimp only at hm ⊢
    have hlen : xs.length = ys.length := by have := congrArg List.length h; simpa using this
    rcases hm with ⟨h1, h2, h3⟩ | ⟨b, cap, arr, e, bs1, q1, q2, q3, q4, q5, q6, q7, q8⟩
    · subst h2
      exact .inl ⟨h1, List.eq_nil_of_length_eq_zero (by rw [← hlen]; rfl), h3⟩
    · refine .inr ⟨b, cap, arr, e, bs1, q1, q2, q3, fun y hy => ?_, by omega, q6, ?_, q8⟩
      · obtain ⟨i, hi, rfl⟩ := List.getElem_of_mem hy
        have e1 : (xs.map T.cells)[i]? = (ys.map T.cells)[i]? := by rw [h]
        rw [List.getElem?_map, List.getElem?_map, List.getElem?_eq_getElem hi, List.getElem?_eq_getElem (by omega)] at e1
        simp only [Option.map_some, Option.some.injEq] at e1
        rw [← e1]
        exact q4 _ (List.getElem_mem _)
      · rw [← hlen, ← flat_of_cells h]; exact q7
  · rw [if_neg hu] at hm ⊢
    exact hm

theorem Is.cellsL {a : Act} {w : World} {id n : Nat} {xs : List T} (h : Is c s a w) (hM : lookM s.M id = some (.L n xs)) : ∀ x, x ∈ xs → (T.cells x).length = n := by
  obtain ⟨F, β, fb, mb, ow, hi⟩ := h
  have hm := hi.mem id
  rw [hM] at hm
  rcases hm with ⟨h1, h2, h3⟩ | ⟨b, cap, arr, e, bs1, q1, q2, q3, q4, _⟩
  · subst h2; intro x hx; cases hx
  · exact q4

theorem lookM_head {M : List (Nat × Blk)} {id : Nat} {k : Blk} : lookM ((id, k) :: M) id = some k := by simp [lookM]

/-- A store of a whole element of an own slice. -/
theorem WO_storeE {Γ : Tys} (hΓ : Γ.ok P) {ty id i j n : Nat} {x y : Operand} {ti : TI} {xs : List T} {ds : List D} (z : T) (hg : o.guard = none) (hd : o.dst = none) (ho : o.op = .store ty x y)
    (h1 : tyOf Γ ty = some ti) (hx : opd s.fr x = .ref id i 0) (hM : lookM s.M id = some (.L n xs)) (hij : i = j) (hj : j < xs.length) (hy : boxD (opd s.fr y) = some ds) (habs : AbsL ds z.cells)
    (hl : ds.length = ti.size) (hpos : Nat.blt 0 ti.size = true) (hn : ds.length = n)
    (k : WO P c ops rest ⟨eat y (opd s.fr y) s.fr, (id, .L n (xs.set j z)) :: s.M⟩ Q) : WO P c ops (o :: rest) s Q := by
  subst hij
  intro a w hi
  have hc := hi.cellsL hM
  have hzl : z.cells.length = ds.length := by
    clear hy hl hn
    have : ∀ {ds : List D} {ts : List T}, AbsL ds ts → ts.length = ds.length := by
      intro ds
      induction ds with
      | nil => intro ts h; cases ts with
        | nil => rfl
        | cons _ _ => exact h.elim
      | cons d ds ih => intro ts h; cases ts with
        | nil => exact h.elim
        | cons t ts => simp [ih h.2]
    exact this habs
  refine WO_storeL hΓ (z := xs[i]) z.cells hg hd ho h1 hx hM (List.getElem?_eq_getElem hj) hy habs hl (by simpa using hpos) (by omega) (WO_le (Le.reL ?_) k) a w hi
  rw [List.map_set, List.map_set]
  congr 1
  have hxn := hc _ (List.getElem_mem hj)
  have hna : ∀ t, t ∈ z.cells → ∀ l, t ≠ .agg l := by
    obtain ⟨F, β, fb, mb, ow, hi'⟩ := hi
    obtain ⟨bs, hr, hnd, hbs⟩ := hi'.opdOwn y
    exact (absL (hr.boxD hy).1 habs).noAgg
  have hp : 0 < ti.size := by simpa using hpos
  rw [put_cells hxn (by rw [hzl, hl]; exact hp) (by rw [hzl, hn]; omega) hna]
  have e1 : (xs[i]'hj).cells.length ≤ z.cells.length := by rw [hxn, hzl, hn]; exact Nat.le_refl _
  simp [splice, e1]

end
end Go.Eng
