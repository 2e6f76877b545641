/- What the rows' arguments are read into. -/
import Derived.Test.YtimpganophnehaaRows
import Derived.Test.YtimpganophnehaaFb
import Derived.Test.YtimpganophnehaaMb
set_option linter.unusedVariables false
set_option linter.unusedSimpArgs false
set_option maxRecDepth 10000
namespace Go.Proofs.Ytimpganophnehaa
open Go.ChangeShapes Go.WideShapes Go.ChangeAt Go.RowKit Go.Eng

theorem Try.own : ownKnob Try.prog.godebug = none := by kernel_rfl
theorem Try.laidOut : laidOutB Try.prog = true := by kernel_rfl

theorem rd_i {x : T} (h : Rd Try.prog 3 x) : ∃ n : Int, x = T.int n ∧ True := by
  obtain ⟨n, rfl, _⟩ := rd_int (k := .i64) (by kernel_rfl) h
  exact ⟨n, rfl, trivial⟩
theorem rd_ints {x : T} (h : Rd Try.prog 37 x) : ∃ l : List Int, x = T.ints l ∧ l.length ≤ 9223372036854775807 := by
  obtain ⟨l, rfl, h1, h2⟩ := rd_list (e := 3) (n := 1) (by kernel_rfl) (by kernel_rfl) (fun y hy => rd_i hy) h
  exact ⟨l, rfl, h1⟩
end Go.Proofs.Ytimpganophnehaa
