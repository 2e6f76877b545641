/- Every call of FnExactGuardProg returns true, and what it was given reads as it did: the given statement, for every input. -/
import Derived.Test.YtjnkcoaiccbmpaaRp
import Derived.Test.YtjnkcoaiccbmpaaGu
set_option linter.unusedVariables false
set_option linter.unusedSimpArgs false
set_option maxRecDepth 10000
namespace Go.Proofs.Ytjnkcoaiccbmpaa
open Go.ChangeShapes Go.WideShapes Go.ChangeAt Go.RowKit Go.Eng

theorem fnExactGuardProg_rd (xs : List T) (h : RdL Try.prog [24] xs) : Fun Try.prog 14 (xs.map .t) (.t (.bool true)) := by
  match xs, h with
    | [x], ⟨h1, _⟩ =>
      obtain ⟨w, rfl, h3⟩ := rd_prog h1
      exact lawGuard_fun w h3
theorem fnExactGuardProg_lifted (os : Os) (started : os.Started) (H : Type) (enc : TypeId × Value → H) :
    ReturnsInHanded {} Try.checked os 14 .any (Rows.fnExactGuardProgSpec.pre6 enc Try.prog Try.f14 Rows.fnExactGuardProgRow.domain false) (Rows.fnExactGuardProgSpec.post enc Try.prog Try.f14 false true false false) := by
  refine returnsInHanded_of_change (C := Try.checked) Try.own started (by kernel_rfl) Try.func14
    (ChangeSpec.witness6 (enc := enc) (C := Try.checked) false ⟨#[], #[.agg #[.slice none 0 0]], []⟩ 8 (by kernel_rfl) (by kernel_rfl) (by kernel_rfl) (by kernel_rfl)) ?_
  intro W base args ds gs before hval hW _ _
  refine law_calls (P := Try.prog) (S := [24, 78, 112, 124, 22, 76, 110, 36, 3]) Try.laidOut (by kernel_rfl) (by kernel_rfl) rfl (tb := 4) (by kernel_rfl) (by kernel_rfl) ?_ ?_ hval hW
  · intro ds hd
    match ds, hd with
    | [_], _ => rfl
  · intro xs h
    change RdL Try.prog [24] xs at h
    exact fnExactGuardProg_rd xs h

theorem fnExactGuardProg_holds : Rows.FnExactGuardProgSaid :=
  OpenClaim.holds_of_wide 14 Try.f14 rfl rfl rfl rfl rfl rfl rfl ⟨rfl, rfl, rfl, rfl, rfl⟩ rfl rfl rfl rfl rfl (by kernel_rfl) Try.func14 (by kernel_rfl)
    (of_decide_eq_true (by kernel_rfl)) (by unfold Func.isWrapper; first | (rw [if_pos (by decide +kernel)]; kernel_rfl) | (rw [if_neg (by decide +kernel)]; exact ⟨rfl, rfl⟩))
    (fun os started H enc _ => fnExactGuardProg_lifted os started H enc)


end Go.Proofs.Ytjnkcoaiccbmpaa
