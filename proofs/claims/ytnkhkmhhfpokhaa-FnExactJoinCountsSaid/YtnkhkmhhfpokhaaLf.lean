/- Every call of FnExactJoinCounts returns true, and what it was given reads as it did: the given statement, for every input. -/
import Derived.Test.YtnkhkmhhfpokhaaRd
import Derived.Test.YtnkhkmhhfpokhaaFj
set_option linter.unusedVariables false
set_option linter.unusedSimpArgs false
set_option maxRecDepth 10000
namespace Go.Proofs.Ytnkhkmhhfpokhaa
open Go.ChangeShapes Go.WideShapes Go.ChangeAt Go.RowKit Go.Eng

theorem fnExactJoinCounts_rd (xs : List T) (h : RdL Try.prog [22, 22] xs) : Fun Try.prog 5 (xs.map .t) (.t (.bool true)) := by
  match xs, h with
    | [x, y], ⟨h1, h2, _⟩ =>
      obtain ⟨a, rfl, ha⟩ := rd_intss h1
      obtain ⟨b, rfl, hb⟩ := rd_intss h2
      exact lawJoin_fun a b ha hb
theorem fnExactJoinCounts_lifted (os : Os) (started : os.Started) (H : Type) (enc : TypeId × Value → H) :
    ReturnsInHanded {} Try.checked os 5 .any (Rows.fnExactJoinCountsSpec.pre6 enc Try.prog Try.f5 Rows.fnExactJoinCountsRow.domain false) (Rows.fnExactJoinCountsSpec.post enc Try.prog Try.f5 false true false false) := by
  refine returnsInHanded_of_change (C := Try.checked) Try.own started (by kernel_rfl) Try.func5
    (ChangeSpec.witness6 (enc := enc) (C := Try.checked) false ⟨#[], #[.slice none 0 0, .slice none 0 0], []⟩ 8 (by kernel_rfl) (by kernel_rfl) (by kernel_rfl) (by kernel_rfl)) ?_
  intro W base args ds gs before hval hW _ _
  refine law_calls (P := Try.prog) (S := [22, 33, 3]) Try.laidOut (by kernel_rfl) (by kernel_rfl) rfl (tb := 4) (by kernel_rfl) (by kernel_rfl) ?_ ?_ hval hW
  · intro ds hd
    match ds, hd with
    | [_, _], _ => rfl
  · intro xs h
    change RdL Try.prog [22, 22] xs at h
    exact fnExactJoinCounts_rd xs h

theorem fnExactJoinCounts_holds : Rows.FnExactJoinCountsSaid :=
  OpenClaim.holds_of_wide 5 Try.f5 rfl rfl rfl rfl rfl rfl rfl ⟨rfl, rfl, rfl, rfl, rfl⟩ rfl rfl rfl rfl rfl (by kernel_rfl) Try.func5 (by kernel_rfl)
    (of_decide_eq_true (by kernel_rfl)) (by unfold Func.isWrapper; first | (rw [if_pos (by decide +kernel)]; kernel_rfl) | (rw [if_neg (by decide +kernel)]; exact ⟨rfl, rfl⟩))
    (fun os started H enc _ => fnExactJoinCounts_lifted os started H enc)


end Go.Proofs.Ytnkhkmhhfpokhaa
