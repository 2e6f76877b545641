/- What worlds are read into. -/
import Derived.Test.YtbkamkmmljbedaaRd
import Derived.Test.YtbkamkmmljbedaaFw
set_option linter.unusedVariables false
set_option linter.unusedSimpArgs false
set_option maxRecDepth 10000
namespace Go.Proofs.Ytbkamkmmljbedaa
open Go.Eng

theorem rd_bools {x : T} (h : Rd Try.prog 24 x) : ∃ l : List Bool, x = T.bools l ∧ okN 9223372036854775807 l := by
  obtain ⟨l, rfl, h1, h2⟩ := rd_list (e := 4) (n := 1) (by kernel_rfl) (by kernel_rfl) (fun y hy => rd_b hy) h
  exact ⟨l, rfl, h1⟩
theorem rd_act_n : ∀ (n : Nat) {x : T}, SizeOf.sizeOf x < n → Rd Try.prog 109 x → ∃ a : Act, x = a.tt ∧ a.ok 9223372036854775807
  | 0, _, h, _ => by omega
  | n + 1, x, hn, h => by
    obtain ⟨xs, rfl, h1⟩ := rd_struct (ts := [3, 3, 3, 77]) (by kernel_rfl) h
    match xs, h1 with
    | [x1, x2, x3, x4], ⟨h1, h2, h3, h4, _⟩ =>
      obtain ⟨k, rfl, _⟩ := rd_i h1
      obtain ⟨c, rfl, _⟩ := rd_i h2
      obtain ⟨m, rfl, _⟩ := rd_i h3
      obtain ⟨l, rfl, h5, h6⟩ := rd_slice (e := 109) (n := 4) (by kernel_rfl) (by kernel_rfl) h4
      obtain ⟨l', rfl, h7⟩ := map_of (q := Act.ok 9223372036854775807) (g := Act.toT) h6 fun y hl hy => by
        have := List.sizeOf_lt_of_mem hl
        simp [T.cells, List.flatMap] at hn
        obtain ⟨a, h8, h9⟩ := rd_act_n n (x := y) (by omega) hy
        exact ⟨a, by rw [h8, Act.toT_eq], h9⟩
      exact ⟨.mk k c m l', rfl, .mk (by simpa using h5) h7⟩
theorem rd_act {x : T} (h : Rd Try.prog 109 x) : ∃ a : Act, x = a.tt ∧ a.ok 9223372036854775807 := rd_act_n _ (Nat.lt_succ_self _) h
theorem rd_acts {x : T} (h : Rd Try.prog 77 x) : ∃ l : List Act, x = T.Acts l ∧ okL 9223372036854775807 (Act.ok 9223372036854775807) l :=
  rd_list (e := 109) (n := 4) (by kernel_rfl) (by kernel_rfl) (fun y hy => by obtain ⟨a, h1, h2⟩ := rd_act hy; exact ⟨a, by rw [h1, Act.toT_eq], h2⟩) h
theorem rd_task {x : T} (h : Rd Try.prog 93 x) : ∃ a : Task, x = a.tt ∧ a.ok 9223372036854775807 := by
  obtain ⟨xs, rfl, h1⟩ := rd_struct (ts := [77, 3, 3, 3]) (by kernel_rfl) h
  match xs, h1 with
  | [x1, x2, x3, x4], ⟨h1, h2, h3, h4, _⟩ =>
    obtain ⟨a, rfl, q⟩ := rd_acts h1
    obtain ⟨k, rfl, _⟩ := rd_i h2
    obtain ⟨c, rfl, _⟩ := rd_i h3
    obtain ⟨m, rfl, _⟩ := rd_i h4
    exact ⟨⟨a, k, c, m⟩, rfl, q, trivial⟩
theorem rd_tasks {x : T} (h : Rd Try.prog 25 x) : ∃ l : List Task, x = T.Tasks l ∧ okL 9223372036854775807 (Task.ok 9223372036854775807) l :=
  rd_list (e := 93) (n := 4) (by kernel_rfl) (by kernel_rfl) (fun y hy => rd_task hy) h
theorem rd_world {x : T} (h : Rd Try.prog 27 x) : ∃ w : World, x = w.tt ∧ w.ok 9223372036854775807 := by
  obtain ⟨xs, rfl, h1⟩ := rd_struct (ts := [22, 23, 24, 25, 22]) (by kernel_rfl) h
  match xs, h1 with
  | [x1, x2, x3, x4, x5], ⟨h1, h2, h3, h4, h5, _⟩ =>
    obtain ⟨a, rfl, q1⟩ := rd_ints h1
    obtain ⟨b, rfl, q2⟩ := rd_intss h2
    obtain ⟨c, rfl, q3⟩ := rd_bools h3
    obtain ⟨d, rfl, q4⟩ := rd_tasks h4
    obtain ⟨e, rfl, q5⟩ := rd_ints h5
    exact ⟨⟨a, b, c, d, e⟩, rfl, q1, q2, q3, q4, q5, trivial⟩

end Go.Proofs.Ytbkamkmmljbedaa
