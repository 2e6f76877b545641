/- What the rows' arguments are read into. -/
import Derived.Test.YtnkhkmhhfpokhaaRows
import Derived.Test.YtnkhkmhhfpokhaaFb
import Derived.Test.YtnkhkmhhfpokhaaEng13
set_option linter.unusedVariables false
set_option linter.unusedSimpArgs false
set_option maxRecDepth 10000
namespace Go.Proofs.Ytnkhkmhhfpokhaa
open Go.ChangeShapes Go.WideShapes Go.ChangeAt Go.RowKit Go.Eng

theorem Try.own : ownKnob Try.prog.godebug = none := by kernel_rfl
theorem Try.laidOut : laidOutB Try.prog = true := by kernel_rfl

theorem rd_slice {P : Program} {t e : TypeId} {x : T} (hu : P.underlying t = some (.slice e)) {n : Nat} (hn : P.cellsOf e = n) (h : Rd P t x) : ∃ l : List T, x = .list n l ∧ l.length ≤ 9223372036854775807 ∧ ∀ y, y ∈ l → Rd P e y := by
  cases h with
  | slice hu' h1 h2 h3 =>
    rw [hu] at hu'; cases hu'; subst h1; subst hn
    exact ⟨_, rfl, h2, h3⟩
  | int h _ => rw [hu] at h; cases h
  | bool h => rw [hu] at h; cases h
  | str h _ => rw [hu] at h; cases h
  | struct h _ _ => rw [hu] at h; cases h
theorem rd_int {P : Program} {t : TypeId} {k : IntKind} {x : T} (hu : P.underlying t = some (.int k)) (h : Rd P t x) : ∃ n : Int, x = .v (.int k n) ∧ (Lit.int k n).wf = true := by
  cases h with
  | int hu' h1 => rw [hu] at hu'; cases hu'; exact ⟨_, rfl, h1⟩
  | slice h _ _ _ => rw [hu] at h; cases h
  | bool h => rw [hu] at h; cases h
  | str h _ => rw [hu] at h; cases h
  | struct h _ _ => rw [hu] at h; cases h
theorem map_of {α : Type} {p : T → Prop} {q : α → Prop} {g : α → T} : ∀ {l : List T}, (∀ y, y ∈ l → p y) → (∀ y, p y → ∃ a, y = g a ∧ q a) → ∃ m : List α, l = m.map g ∧ ∀ a, a ∈ m → q a
  | [], _, _ => ⟨[], rfl, fun _ h => by cases h⟩
  | y :: l, h, hg => by
    obtain ⟨a, rfl, ha⟩ := hg y (h y (List.mem_cons_self ..))
    obtain ⟨m, rfl, hm⟩ := map_of (fun z hz => h z (List.mem_cons_of_mem _ hz)) hg
    refine ⟨a :: m, rfl, fun b hb => ?_⟩
    rcases List.mem_cons.1 hb with rfl | hb
    · exact ha
    · exact hm b hb

theorem rd_ints {x : T} (h : Rd Try.prog 33 x) : ∃ l : List Int, x = T.ints l ∧ l.length ≤ 9223372036854775807 := by
  obtain ⟨l, rfl, h1, h2⟩ := rd_slice (e := 3) (n := 1) (by kernel_rfl) (by kernel_rfl) h
  obtain ⟨m, rfl, _⟩ := map_of (q := fun _ : Int => True) (g := T.int) h2 fun y hy => by
    obtain ⟨n, rfl, _⟩ := rd_int (k := .i64) (by kernel_rfl) hy
    exact ⟨n, rfl, trivial⟩
  exact ⟨m, rfl, by simpa using h1⟩
theorem rd_intss {x : T} (h : Rd Try.prog 22 x) : ∃ l : List (List Int), x = intss l ∧ l.length ≤ 9223372036854775807 ∧ ∀ y, y ∈ l → y.length ≤ 9223372036854775807 := by
  obtain ⟨l, rfl, h1, h2⟩ := rd_slice (e := 33) (n := 1) (by kernel_rfl) (by kernel_rfl) h
  obtain ⟨m, rfl, hm⟩ := map_of (q := fun y : List Int => y.length ≤ 9223372036854775807) (g := T.ints) h2 fun y hy => by
    obtain ⟨n, rfl, hn⟩ := rd_ints hy
    exact ⟨n, rfl, hn⟩
  exact ⟨m, rfl, by simpa using h1, hm⟩

end Go.Proofs.Ytnkhkmhhfpokhaa
