/- What is only read may be known by its value: so that lists of the call's own can hold it. -/
import Derived.Test.YtbkamkmmljbedaaEng21
set_option linter.unusedVariables false
set_option linter.unusedSimpArgs false
namespace Go.Eng
open Go.RowKit

section
variable {P : Program} {c : Ctx} {s : St} {Q : Exit → St → Prop} {ops : Array Oper} {rest : List Oper} {o : Oper}

/-- What a temporary reads, known by its value. -/
theorem Conc.tell {a : Act} {w : World} {F β fb mb ow} (hi : Conc c s a w F β fb mb ow) {u n : Nat} {l : List T} (id : Nat) (h1 : look s.fr u = .t (.list n l)) :
    ∃ v, Is c ⟨(u, .t (.v v)) :: s.fr, (id, .ro [v] [.list n l]) :: s.M⟩ a w := by
  have hr := hi.fr u
  rw [h1] at hr
  generalize hx : a.tmps.getD u undef = x at hr
  generalize hfb : fb u = bu at hr
  cases hr with
  | t q1 q2 =>
    cases q2
    have hone : x.oneCell' = true := by cases q1 <;> rfl
    refine ⟨x, F, β, fb, fun i => if id = i then [] else mb i, ow, ?_⟩
    exact { hi with
      fr := fun v => by
        simp only [look]
        split
        · rename_i e; subst e; rw [hx, hfb]; exact .t (.v hone .nil) .done
        · exact hi.fr v
      mem := fun i => by
        simp only [lookM]
        by_cases h : id = i
        · rw [if_pos h]; simp only [if_pos h]; exact ⟨q1, rfl⟩
        · rw [if_neg h]; simp only [if_neg h]; exact hi.mem i
      omem := fun i b hb => by
        split at hb
        · cases hb
        · exact hi.omem i b hb
      nmem := fun i => by
        split
        · simp
        · exact hi.nmem i }

theorem WO_tell {l : List Oper} {u n : Nat} {xs : List T} (id : Nat) (h1 : look s.fr u = .t (.list n xs)) (k : ∀ v : Value, WO P c ops l ⟨(u, .t (.v v)) :: s.fr, (id, .ro [v] [.list n xs]) :: s.M⟩ Q) : WO P c ops l s Q := by
  rintro a w ⟨F, β, fb, mb, ow, hi⟩
  obtain ⟨v, h⟩ := hi.tell id h1
  exact k v a w h

/-- What is known of values, put together. -/
theorem Le.roJoin {us vs : List Value} {ts ss : List T} (i1 i2 : Nat) (h1 : lookM s.M i1 = some (.ro us ts)) (h2 : lookM s.M i2 = some (.ro vs ss)) : Le c s ⟨s.fr, (i1, .ro (us ++ vs) (ts ++ ss)) :: s.M⟩ := by
  rintro a w ⟨F, β, fb, mb, ow, hi⟩
  have m1 := hi.mem i1
  have m2 := hi.mem i2
  rw [h1] at m1
  rw [h2] at m2
  refine ⟨F, β, fb, mb, ow, ?_⟩
  exact { hi with
    mem := fun i => by
      simp only [lookM]
      by_cases h : i1 = i
      · subst h; rw [if_pos rfl]; exact ⟨m1.1.append m2.1, m1.2⟩
      · rw [if_neg h]; exact hi.mem i }
/-- Nothing is known of no values. -/
theorem Le.roNil (i : Nat) : Le c s ⟨s.fr, (i, .ro [] []) :: s.M⟩ := by
  rintro a w ⟨F, β, fb, mb, ow, hi⟩
  refine ⟨F, β, fb, fun j => if i = j then [] else mb j, ow, ?_⟩
  exact { hi with
    mem := fun j => by
      simp only [lookM]
      by_cases h : i = j
      · rw [if_pos h]; simp only [if_pos h]; exact ⟨.nil, rfl⟩
      · rw [if_neg h]; simp only [if_neg h]; exact hi.mem j
    omem := fun j b hb => by
      split at hb
      · cases hb
      · exact hi.omem j b hb
    nmem := fun j => by
      split
      · simp
      · exact hi.nmem j }

theorem exact_rel {w : World} {F : Nat → Prop} : ∀ {vs us : List Value}, RelL w F vs (us.map T.v) → vs = us
  | [], [], _ => rfl
  | [], _ :: _, h => by cases h
  | _ :: _, [], h => by cases h
  | v :: vs, u :: us, h => by
    rw [List.map_cons] at h
    have h1 := h.cons.1
    have h2 := exact_rel h.cons.2
    cases h1 with
    | v _ _ => rw [h2]
theorem cells_v (us : List Value) : (us.map T.v).flatMap T.cells = us.map T.v := by
  induction us with
  | nil => rfl
  | cons u us ih => rw [List.map_cons, List.flatMap_cons, ih]; rfl
theorem cells_one {ts : List T} (h : ∀ t, t ∈ ts → t.cells = [t]) : ts.flatMap T.cells = ts := by
  induction ts with
  | nil => rfl
  | cons t ts ih => rw [List.flatMap_cons, h t (List.mem_cons_self ..), ih fun x hx => h x (List.mem_cons_of_mem _ hx)]; rfl

/-- A list of values that are known to read so, is read so. -/
theorem RelL.told {w : World} {F : Nat → Prop} {x : Value} {us : List Value} {ts : List T} (h : RelL w F [x] [.list 1 (us.map T.v)]) (hr : RelL w F us ts) (ht : ∀ t, t ∈ ts → t.cells = [t]) : RelL w F [x] [.list 1 ts] := by
  generalize hy : T.list 1 (us.map T.v) = y at h
  cases h with
  | v _ _ => cases hy
  | none q =>
    injection hy with e1 e2
    have : us = [] := List.map_eq_nil_iff.1 e2
    subst this
    cases hr
    exact .none .nil
  | @list b o cap n cs xs arr e fz vs ts' q1 q2 q3 q4 q5 q6 q7 =>
    injection hy with e1 e2
    subst e1; subst e2
    rw [cells_v] at q6
    have hcs := exact_rel q6
    subst hcs
    have hl := hr.length
    have h1 : (cs.map T.v).length = ts.length := by rw [List.length_map]; exact hl
    rw [h1]
    exact RelL.list q1 q2 q3 (fun t h => by rw [ht t h]; rfl) (by omega) (by rw [cells_one ht]; exact hr) .nil

theorem Le.roRead {u id : Nat} {us : List Value} {ts : List T} (h1 : look s.fr u = .t (.list 1 (us.map T.v))) (h2 : lookM s.M id = some (.ro us ts)) (ht : ∀ t, t ∈ ts → t.cells = [t]) : Le c s ⟨(u, .t (.list 1 ts)) :: s.fr, s.M⟩ := by
  rintro a w ⟨F, β, fb, mb, ow, hi⟩
  have m := hi.mem id
  rw [h2] at m
  have hr := hi.fr u
  rw [h1] at hr
  have hb := hr.free1 rfl
  refine ⟨F, β, fb, mb, ow, ?_⟩
  exact { hi with
    fr := fun v => by
      simp only [look]
      split
      · rename_i e
        subst e
        rw [hb] at hr ⊢
        generalize a.tmps.getD u undef = x at hr ⊢
        cases hr with
        | t q1 q2 => exact .t (q1.told m.1 ht) .done
      · exact hi.fr v }

theorem Le.roReadE {u id : Nat} {us : List Value} {xs ts ts' : List T} (h1 : look s.fr u = .t (.list 1 xs)) (h2 : lookM s.M id = some (.ro us ts)) (he : xs = us.map T.v) (hts : ts = ts') (ht : ∀ t, t ∈ ts → t.cells = [t]) : Le c s ⟨(u, .t (.list 1 ts')) :: s.fr, s.M⟩ := by
  subst he hts; exact Le.roRead h1 h2 ht

end
end Go.Eng
