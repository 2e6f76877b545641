/- What the rows' arguments are read into. -/
import Derived.Test.YtimpganophnehaaGreatRows
import Derived.Test.YtimpganophnehaaGreatFb
import Derived.Test.YtimpganophnehaaGreatMb
set_option linter.unusedVariables false
set_option linter.unusedSimpArgs false
set_option maxRecDepth 10000
namespace Go.Proofs.YtimpganophnehaaGreat
open Go.ChangeShapes Go.WideShapes Go.ChangeAt Go.RowKit Go.Eng

theorem Tryz.own : ownKnob Tryz.prog.godebug = none := by kernel_rfl
theorem Tryz.laidOut : laidOutB Tryz.prog = true := by kernel_rfl

theorem rd_i {x : T} (h : Rd Tryz.prog 3 x) : ∃ n : Int, x = T.int n ∧ True := by
 obtain ⟨n, rfl, _⟩ := rd_int (k := .i64) (by kernel_rfl) h
 exact ⟨n, rfl, trivial⟩
theorem rd_ints {x : T} (h : Rd Tryz.prog 25 x) : ∃ l : List Int, x = T.ints l ∧ l.length ≤ 9223372036854775807 := by
 obtain ⟨l, rfl, h1, h2⟩ := rd_list (e := 3) (n := 1) (by kernel_rfl) (by kernel_rfl) (fun y hy => rd_i hy) h
 exact ⟨l, rfl, h1⟩
end Go.Proofs.YtimpganophnehaaGreat
