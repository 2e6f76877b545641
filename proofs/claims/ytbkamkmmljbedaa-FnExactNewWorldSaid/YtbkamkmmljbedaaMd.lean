import Derived.Test.YtbkamkmmljbedaaMc
import Derived.Laws.CopyOwn
set_option linter.unusedVariables false
set_option linter.unusedSimpArgs false
section
/- A part of a struct that is a value; what is known of a value is owned again. -/
namespace Go.Eng
open Go.RowKit
section
variable {P : Program} {c : Ctx} {s : St} {Q : Exit → St → Prop} {ops : Array Oper} {rest : List Oper} {o : Oper}
end
end Go.Eng
end
section
/- What a cell of a variable reads, known by its value, or its elements by theirs. -/
namespace Go.Eng
open Go.RowKit
theorem RelL.ones {w : World} {F : Nat → Prop} {vs : List Value} {ts : List T} (h : RelL w F vs ts) : ∀ v, v ∈ vs → v.oneCell' = true := by
 induction h with
 | nil => intro v hv; cases hv
 | v h1 _ ih => intro v hv; rcases List.mem_cons.1 hv with rfl | hv; exact h1; exact ih v hv
 | none _ ih => intro v hv; rcases List.mem_cons.1 hv with rfl | hv; rfl; exact ih v hv
 | list _ _ _ _ _ _ _ _ ih2 => intro v hv; rcases List.mem_cons.1 hv with rfl | hv; rfl; exact ih2 v hv
theorem rel_self {w : World} {F : Nat → Prop} : ∀ {us : List Value}, (∀ v, v ∈ us → v.oneCell' = true) → RelL w F us (us.map T.v)
 | [], _ => .nil
 | u :: us, h => .v (h u (by simp)) (rel_self fun v hv => h v (by simp [hv]))
section
variable {P : Program} {c : Ctx} {s : St} {Q : Exit → St → Prop} {ops : Array Oper} {rest : List Oper} {o : Oper}
end
end Go.Eng
end
section
/- append, in open order, of what a temporary owns, to what another does; its elements are values. -/
namespace Go.Eng
open Go.RowKit
section
variable {P : Program} {c : Ctx} {s : St} {ops : Array Oper} {rest : List Oper} {o : Oper} {M0 : List (Nat × Blk)} {acc : List Dl}
end
end Go.Eng
namespace Go.Eng
section
variable {P : Program} {c : Ctx} {s : St} {ops : Array Oper} {rest : List Oper} {o : Oper} {M0 : List (Nat × Blk)} {acc : List Dl}
end
end Go.Eng
end
section
/- The elements of a list that is read, known by their values, cell by cell; and read again. -/
namespace Go.Eng
open Go.RowKit
theorem RelL.tellN {w : World} {F : Nat → Prop} {x : Value} {n : Nat} {xs : List T} (h : RelL w F [x] [.list n xs]) : ∃ vs : List Value, vs.length = xs.length * n ∧ RelL w F vs (xs.flatMap T.cells) ∧
  ∀ ys : List T, ys.flatMap T.cells = vs.map T.v → ys.length = xs.length → (∀ y, y ∈ ys → (T.cells y).length = n) → RelL w F [x] [.list n ys] := by
 generalize hy : T.list n xs = y at h
 cases h with
 | v _ _ => cases hy
 | none q =>
  injection hy with e1 e2
  subst e1; subst e2
  refine ⟨[], by simp, .nil, fun ys _ hl _ => ?_⟩
  have : ys = [] := List.eq_nil_of_length_eq_zero (by simpa using hl)
  subst this
  exact .none .nil
 | @list b o cap n' cs xs' arr e fz vs ts' q1 q2 q3 q4 q5 q6 q7 =>
  injection hy with e1 e2
  subst e1; subst e2
  have hl := q6.length
  rw [flat_length q4] at hl
  refine ⟨cs, hl, q6, fun ys h1 h2 h3 => ?_⟩
  rw [← h2]
  exact RelL.list q1 q2 q3 h3 (by omega) (by rw [h1]; exact rel_self q6.ones) .nil
theorem RelL.nth {w : World} {F : Nat → Prop} : ∀ {vs : List Value} {ts : List T} {j : Nat} {v : Value} {t : T}, RelL w F vs ts → vs[j]? = some v → ts[j]? = some t → RelL w F [v] [t]
 | [], _, _, _, _, _, h, _ => by simp at h
 | _ :: _, [], _, _, _, _, _, h => by simp at h
 | _ :: _, _ :: _, 0, _, _, h, h1, h2 => by
  simp at h1 h2; subst h1; subst h2; exact h.cons.1
 | _ :: _, _ :: _, j + 1, _, _, h, h1, h2 => RelL.nth h.cons.2 (by simpa using h1) (by simpa using h2)
section
variable {P : Program} {c : Ctx} {s : St} {Q : Exit → St → Prop} {ops : Array Oper} {rest : List Oper} {o : Oper}
theorem Conc.tellL {a : Act} {w : World} {F β fb mb ow} (hi : Conc c s a w F β fb mb ow) {u n : Nat} {xs : List T} (id : Nat) (h1 : look s.fr u = .t (.list n xs)) :
  ∃ vs : List Value, vs.length = xs.length * n ∧ ∀ ys : List T, ys.flatMap T.cells = vs.map T.v → ys.length = xs.length → (∀ y, y ∈ ys → (T.cells y).length = n) → Is c ⟨(u, .t (.list n ys)) :: s.fr, (id, .ro vs (xs.flatMap T.cells)) :: s.M⟩ a w := by
 have hr := hi.fr u
 rw [h1] at hr
 generalize hx : a.tmps.getD u undef = x at hr
 generalize hfb : fb u = bu at hr
 cases hr with
 | t q1 q2 =>
  cases q2
  obtain ⟨vs, g1, g2, g3⟩ := q1.tellN
  refine ⟨vs, g1, fun ys h2 h3 h4 => ?_⟩
  refine ⟨F, β, fb, fun i => if id = i then [] else mb i, ow, ?_⟩
  exact { hi with
   fr := fun v => by
    simp only [look]
    split
    ·rename_i e; subst e; rw [hx, hfb]; exact .t (g3 ys h2 h3 h4) .done
    ·exact hi.fr v
   mem := fun i => by
    simp only [lookM]
    by_cases h : id = i
    ·rw [if_pos h]; simp only [if_pos h]; exact ⟨g2, rfl⟩
    ·rw [if_neg h]; simp only [if_neg h]; exact hi.mem i
   omem := fun i b hb => by
    split at hb
    ·cases hb
    ·exact hi.omem i b hb
   nmem := fun i => by
    split
    ·simp
    ·exact hi.nmem i }
theorem W_tellL {x : Code} {u n : Nat} {xs : List T} (id : Nat) (h1 : look s.fr u = .t (.list n xs))
  (k : ∀ vs : List Value, vs.length = xs.length * n → ∃ ys : List T, ys.flatMap T.cells = vs.map T.v ∧ ys.length = xs.length ∧ (∀ y, y ∈ ys → (T.cells y).length = n) ∧ W P c x ⟨(u, .t (.list n ys)) :: s.fr, (id, .ro vs (xs.flatMap T.cells)) :: s.M⟩ Q) : W P c x s Q := by
 rintro a w ⟨F, β, fb, mb, ow, hi⟩
 obtain ⟨vs, h2, h3⟩ := hi.tellL id h1
 obtain ⟨ys, g1, g2, g3, g4⟩ := k vs h2
 exact g4 a w (h3 ys g1 g2 g3)
theorem Is.roTold {a : Act} {w : World} (h : Is c s a w) {id j : Nat} {vs : List Value} {ts : List T} {u x : Value} (hM : lookM s.M id = some (.ro vs ts)) (hx : ts[j]? = some (.v x)) (hu : vs[j]? = some u) : u = x := by
 obtain ⟨F, β, fb, mb, ow, hi⟩ := h
 have hm := hi.mem id
 rw [hM] at hm
 have := hm.1.nth hu hx
 cases this with
 | v _ _ => rfl
theorem WO_roTold {l : List Oper} (id j : Nat) {vs : List Value} {ts : List T} {u x : Value} (hM : lookM s.M id = some (.ro vs ts)) (hx : ts[j]? = some (.v x)) (hu : vs[j]? = some u) (k : u = x → WO P c ops l s Q) : WO P c ops l s Q :=
 fun a w h => k (h.roTold hM hx hu) a w h
theorem Le.roUntell {u : Nat} (id j : Nat) {vs : List Value} {ts : List T} {v : Value} {n : Nat} {xs : List T} (h1 : look s.fr u = .t (.v v)) (hM : lookM s.M id = some (.ro vs ts)) (hv : vs[j]? = some v) (ht : ts[j]? = some (.list n xs)) : Le c s ⟨(u, .t (.list n xs)) :: s.fr, s.M⟩ := by
 rintro a w ⟨F, β, fb, mb, ow, hi⟩
 have hm := hi.mem id
 rw [hM] at hm
 have hr := hi.fr u
 rw [h1] at hr
 have hb := hr.free1 rfl
 have e1 := relD_t hr
 refine ⟨F, β, fb, mb, ow, ?_⟩
 exact { hi with
  fr := fun y => by
   simp only [look]
   split
   ·rename_i e
    subst e
    rw [hb, e1]
    exact .t (hm.1.nth hv ht) .done
   ·exact hi.fr y }
end
end Go.Eng
end
section
/- Functions that are given a variable of the caller's by its place, and write into it and into what it leads to. -/
namespace Go.Eng
open Go.RowKit
section
variable {P : Program} {c : Ctx} {s : St} {Q : Exit → St → Prop} {ops : Array Oper} {rest : List Oper} {o : Oper}
end
end Go.Eng
end
section
/- Functions that are given the places of variables, that write into them, and that answer: a contract, the rule of its call, and how it is shown. -/
namespace Go.Eng
open Go.RowKit
def nothing : Nat → Prop := fun _ => False
section
variable {P : Program} {c : Ctx} {s : St} {Q : Exit → St → Prop} {ops : Array Oper} {rest : List Oper} {o : Oper}
inductive ResP (s : St) (ids : List Nat) : List D → List D → Prop
 | done : ResP s ids [] []
 | t {x ds es} : ResP s ids ds es → ResP s ids (.t x :: ds) (.t x :: es)
 | nil {ds es} (n : Nat) : ResP s ids ds es → ResP s ids (.nil :: ds) (.t (.list n []) :: es)
 | nil' {ds es} : ResP s ids ds es → ResP s ids (.nil :: ds) (.nil :: es)
 | own {n l ds es} : ResP s ids ds es → ResP s ids (.own (.list n l) :: ds) (.t (.list n l) :: es)
 | sl {id off len n xs ds es} : lookM s.M id = some (.L n xs) → ids.contains id = false → off + len ≤ xs.length → ResP s ids ds es → ResP s ids (.sl id off len :: ds) (.t (.list n ((xs.drop off).take len)) :: es)
 | pin {id i off b n cc ds es} (pid : Nat) : lookM s.M pid = some (.pin id b n cc) → ResP s ids ds es → ResP s ids (.ref id i off :: ds) (.t (.v (.pointer (some ⟨b, i * n + off, none⟩))) :: es)
 | agg {l l' ds es} : ResP s ids l l' → ResP s ids ds es → ResP s ids (.agg l :: ds) (.agg l' :: es)
 | aggT {l ts ds es} : ResP s ids l (ts.map D.t) → ResP s ids ds es → ResP s ids (.agg l :: ds) (.t (.agg ts) :: es)
 | top {d ds es} : ResP s ids ds es → ResP s ids (d :: ds) (.top :: es)
/-! ### Places that are told -/
end
end Go.Eng
end
section
/- Some of the values of a list kept, the others let go. -/
namespace Go.Eng
open Go.RowKit
section
variable {P : Program} {c : Ctx} {s : St}
end
end Go.Eng
end
section
/- Statements of open order in which operations write into memory: what each leaves is told, and where two are not ordered they do not meet. -/
namespace Go.Eng
open Go.RowKit
section
variable {ops : Array Oper} {X : Nat → Bool}
end
section
variable {P : Program} {c : Ctx} {s : St} {Q : Exit → St → Prop} {ops : Array Oper} {rest : List Oper} {o : Oper}
/-! ### The words for it -/
end
end Go.Eng
end
section
/- Rules for what is reached by places: checks for none, cells that are moved out, copies into slices, writes and calls in statements of open order. -/
namespace Go.Eng
open Go.RowKit
section
variable {P : Program} {c : Ctx} {s : St} {Q : Exit → St → Prop} {ops : Array Oper} {rest : List Oper} {o : Oper}
end
end Go.Eng
end
section
/- Copies of plain values into a slice of the function's own. -/
namespace Go.Eng
open Go.RowKit
section
variable {P : Program} {c : Ctx} {s : St} {Q : Exit → St → Prop} {ops : Array Oper} {rest : List Oper} {o : Oper}
end
end Go.Eng
end
section
/- Slices whose place is told: they are cut, appended to where there is room, and cleared. -/
namespace Go.Eng
open Go.RowKit
section
variable {P : Program} {c : Ctx} {s : St} {Q : Exit → St → Prop} {ops : Array Oper} {rest : List Oper} {o : Oper}
end
end Go.Eng
end
section
/- Lists of which some cells are told and others owned: they are put together; slices that are told are named. -/
namespace Go.Eng
open Go.RowKit
inductive Mix : List Value → List T → List T → List T → Prop
 | nil : Mix [] [] [] []
 | keep {v t y vs ts ys xs} : Mix vs ts ys xs → Mix (v :: vs) (t :: ts) (y :: ys) (y :: xs)
 | claim {v t vs ts ys xs} : Mix vs ts ys xs → Mix (v :: vs) (t :: ts) (.v v :: ys) (t :: xs)
section
variable {P : Program} {c : Ctx} {s : St} {Q : Exit → St → Prop} {ops : Array Oper} {rest : List Oper} {o : Oper}
end
end Go.Eng
end
section
/- Variables made, and lent as they are, in statements of open order. -/
namespace Go.Eng
open Go.RowKit
section
variable {P : Program} {c : Ctx} {s : St} {ops : Array Oper} {rest : List Oper} {o : Oper}
end
end Go.Eng
end
