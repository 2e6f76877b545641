/- Every call of FnExactDoMove returns true, and what it was given reads as it did: the given statement, for every input. -/
import Derived.Test.YtbkamkmmljbedaaFa
import Derived.Test.YtbkamkmmljbedaaNj
set_option linter.unusedVariables false
set_option linter.unusedSimpArgs false
set_option maxRecDepth 10000
namespace Go.Proofs.Ytbkamkmmljbedaa
open Go.ChangeShapes Go.WideShapes Go.ChangeAt Go.RowKit Go.Eng
theorem fnExactDoMove_rd (xs : List T) (h : RdL Try.prog [27, 22] xs) : Fun Try.prog 8 (xs.map .t) (.t (.bool true)) := by
 match xs, h with
  | [x, y], ⟨h1, h2, _⟩ =>
   obtain ⟨w, rfl, h3⟩ := rd_world h1
   obtain ⟨mv, rfl, h4⟩ := rd_ints h2
   exact lawDo_fun w mv h3 h4
theorem fnExactDoMove_lifted (os : Os) (started : os.Started) (H : Type) (enc : TypeId × Value → H) :
  ReturnsInHanded {} Try.checked os 8 .any (Rows.fnExactDoMoveSpec.pre6 enc Try.prog Try.f8 Rows.fnExactDoMoveRow.domain false) (Rows.fnExactDoMoveSpec.post enc Try.prog Try.f8 false true false false) := by
 refine returnsInHanded_of_change (C := Try.checked) Try.own started (by kernel_rfl) Try.func8
  (ChangeSpec.witness6 (enc := enc) (C := Try.checked) false ⟨#[], #[.agg #[.slice none 0 0, .slice none 0 0, .slice none 0 0, .slice none 0 0, .slice none 0 0], .slice none 0 0], []⟩ 8 (by kernel_rfl) (by kernel_rfl) (by kernel_rfl) (by kernel_rfl)) ?_
 intro W base args ds gs before hval hW _ _
 refine law_calls (P := Try.prog) (S := [27, 93, 109, 25, 77, 23, 22, 24, 3, 4]) Try.laidOut (by kernel_rfl) (by kernel_rfl) Z (tb := 4) (by kernel_rfl) (by kernel_rfl) ?_ ?_ hval hW
 ·intro ds hd
  match ds, hd with
  | [_, _], _ => rfl
 ·intro xs h
  change RdL Try.prog [27, 22] xs at h
  exact fnExactDoMove_rd xs h
theorem fnExactDoMove_holds : Rows.FnExactDoMoveSaid :=
 OpenClaim.holds_of_wide 8 Try.f8 rfl rfl rfl rfl rfl rfl rfl ⟨rfl, rfl, rfl, rfl, rfl⟩ rfl rfl rfl rfl rfl (by kernel_rfl) Try.func8 (by kernel_rfl)
  (of_decide_eq_true (by kernel_rfl)) (by unfold Func.isWrapper; first | (rw [if_pos (by decide +kernel)]; kernel_rfl) | (rw [if_neg (by decide +kernel)]; exact ⟨rfl, rfl⟩))
  (fun os started H enc _ => fnExactDoMove_lifted os started H enc)
end Go.Proofs.Ytbkamkmmljbedaa
