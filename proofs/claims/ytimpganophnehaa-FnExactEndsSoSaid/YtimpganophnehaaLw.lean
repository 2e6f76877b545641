/- Every call of FnExactEndsSo returns true, and what it was given reads as it did: the given statement, for every input. -/
import Derived.Test.YtimpganophnehaaRp
import Derived.Test.YtimpganophnehaaIm
set_option linter.unusedVariables false
set_option linter.unusedSimpArgs false
set_option maxRecDepth 10000
namespace Go.Proofs.Ytimpganophnehaa
open Go.ChangeShapes Go.WideShapes Go.ChangeAt Go.RowKit Go.Eng

theorem fnExactEndsSo_rd (xs : List T) (h : RdL Try.prog [24, 37, 3, 3] xs) : Fun Try.prog 5 (xs.map .t) (.t (.bool true)) := by
  match xs, h with
    | [x, y, z, u], ⟨h1, h2, h3, h4, _⟩ =>
      obtain ⟨w, rfl, h5⟩ := rd_prog h1
      obtain ⟨l, rfl, h6⟩ := rd_ints h2
      obtain ⟨c, rfl, _⟩ := rd_i h3
      obtain ⟨v, rfl, _⟩ := rd_i h4
      exact lawEnds_fun w l c v h5 h6
theorem fnExactEndsSo_lifted (os : Os) (started : os.Started) (H : Type) (enc : TypeId × Value → H) :
    ReturnsInHanded {} Try.checked os 5 .any (Rows.fnExactEndsSoSpec.pre6 enc Try.prog Try.f5 Rows.fnExactEndsSoRow.domain false) (Rows.fnExactEndsSoSpec.post enc Try.prog Try.f5 false true false false) := by
  refine returnsInHanded_of_change (C := Try.checked) Try.own started (by kernel_rfl) Try.func5
    (ChangeSpec.witness6 (enc := enc) (C := Try.checked) false ⟨#[], #[.agg #[.slice none 0 0], .slice none 0 0, .int .i64 0, .int .i64 0], []⟩ 8 (by kernel_rfl) (by kernel_rfl) (by kernel_rfl) (by kernel_rfl)) ?_
  intro W base args ds gs before hval hW _ _
  refine law_calls (P := Try.prog) (S := [24, 65, 123, 149, 22, 63, 121, 37, 3]) Try.laidOut (by kernel_rfl) (by kernel_rfl) rfl (tb := 4) (by kernel_rfl) (by kernel_rfl) ?_ ?_ hval hW
  · intro ds hd
    match ds, hd with
    | [_, _, _, _], _ => rfl
  · intro xs h
    change RdL Try.prog [24, 37, 3, 3] xs at h
    exact fnExactEndsSo_rd xs h

theorem fnExactEndsSo_holds : Rows.FnExactEndsSoSaid :=
  OpenClaim.holds_of_wide 5 Try.f5 rfl rfl rfl rfl rfl rfl rfl ⟨rfl, rfl, rfl, rfl, rfl⟩ rfl rfl rfl rfl rfl (by kernel_rfl) Try.func5 (by kernel_rfl)
    (of_decide_eq_true (by kernel_rfl)) (by unfold Func.isWrapper; first | (rw [if_pos (by decide +kernel)]; kernel_rfl) | (rw [if_neg (by decide +kernel)]; exact ⟨rfl, rfl⟩))
    (fun os started H enc _ => fnExactEndsSo_lifted os started H enc)

end Go.Proofs.Ytimpganophnehaa
