/- Every call of FnExactMissedIn returns true, and what it was given reads as it did: the given statement, for every input. -/
import Derived.Test.YtimpganophnehaaGreatFa
import Derived.Test.YtimpganophnehaaGreatFq
set_option linter.unusedVariables false
set_option linter.unusedSimpArgs false
set_option maxRecDepth 10000
namespace Go.Proofs.YtimpganophnehaaGreat
open Go.ChangeShapes Go.WideShapes Go.ChangeAt Go.RowKit Go.Eng
theorem fnExactMissedIn_rd (xs : List T) (h : RdL Tryz.prog [39, 40, 3] xs) : Fun Tryz.prog 4 (xs.map .t) (.t (.bool true)) := by
 match xs, h with
  | [x, y, z], ⟨h1, h2, h3, _⟩ =>
   obtain ⟨w, rfl, h5⟩ := rd_image h1
   obtain ⟨l, rfl, h6, h7⟩ := rd_intss h2
   obtain ⟨c, rfl, _⟩ := rd_i h3
   exact lawMissed_fun w l c h5 ⟨h6, h7⟩
theorem fnExactMissedIn_lifted (os : Os) (started : os.Started) (H : Type) (enc : TypeId × Value → H) :
  ReturnsInHanded {} Tryz.checked os 4 .any (Rows.fnExactMissedInSpec.pre6 enc Tryz.prog Tryz.f4 Rows.fnExactMissedInRow.domain false) (Rows.fnExactMissedInSpec.post enc Tryz.prog Tryz.f4 false true false false) := by
 refine returnsInHanded_of_change (C := Tryz.checked) Tryz.own started (by kernel_rfl) Tryz.func4
  (ChangeSpec.witness6 (enc := enc) (C := Tryz.checked) false ⟨#[], #[.agg #[.slice none 0 0], .slice none 0 0, .int .i64 0], []⟩ 8 (by kernel_rfl) (by kernel_rfl) (by kernel_rfl) (by kernel_rfl)) ?_
 intro W base args ds gs before hval hW _ _
 refine law_calls (P := Tryz.prog) (S := [39, 121, 219, 221, 37, 118, 119, 40, 25, 3]) Tryz.laidOut (by kernel_rfl) (by kernel_rfl) Z (tb := 4) (by kernel_rfl) (by kernel_rfl) ?_ ?_ hval hW
 ·intro ds hd
  match ds, hd with
  | [_, _, _], _ => rfl
 ·intro xs h
  change RdL Tryz.prog [39, 40, 3] xs at h
  exact fnExactMissedIn_rd xs h
theorem fnExactMissedIn_holds : Rows.FnExactMissedInSaid :=
 OpenClaim.holds_of_wide 4 Tryz.f4 rfl rfl rfl rfl rfl rfl rfl ⟨rfl, rfl, rfl, rfl, rfl⟩ rfl rfl rfl rfl rfl (by kernel_rfl) Tryz.func4 (by kernel_rfl)
  (of_decide_eq_true (by kernel_rfl)) (by unfold Func.isWrapper; first | (rw [if_pos (by decide +kernel)]; kernel_rfl) | (rw [if_neg (by decide +kernel)]; exact ⟨rfl, rfl⟩))
  (fun os started H enc _ => fnExactMissedIn_lifted os started H enc)
end Go.Proofs.YtimpganophnehaaGreat
