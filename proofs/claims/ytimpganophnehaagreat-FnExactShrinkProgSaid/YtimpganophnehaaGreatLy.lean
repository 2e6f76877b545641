/- Every call of FnExactShrinkProg returns true, and what it was given reads as it did: the given statement, for every input. -/
import Derived.Test.YtimpganophnehaaGreatFa
import Derived.Test.YtimpganophnehaaGreatJb
set_option linter.unusedVariables false
set_option linter.unusedSimpArgs false
set_option maxRecDepth 10000
namespace Go.Proofs.YtimpganophnehaaGreat
open Go.ChangeShapes Go.WideShapes Go.ChangeAt Go.RowKit Go.Eng
theorem fnExactShrinkProg_rd (xs : List T) (h : RdL Tryz.prog [24, 25, 3, 3] xs) : Fun Tryz.prog 5 (xs.map .t) (.t (.bool true)) := by
 match xs, h with
  | [x, y, z, u], ⟨h1, h2, h3, h4, _⟩ =>
   obtain ⟨w, rfl, h5⟩ := rd_prog h1
   obtain ⟨l, rfl, h6⟩ := rd_ints h2
   obtain ⟨c, rfl, _⟩ := rd_i h3
   obtain ⟨v, rfl, _⟩ := rd_i h4
   exact lawShr_fun w l c v h5 h6
theorem fnExactShrinkProg_lifted (os : Os) (started : os.Started) (H : Type) (enc : TypeId × Value → H) :
  ReturnsInHanded {} Tryz.checked os 5 .any (Rows.fnExactShrinkProgSpec.pre6 enc Tryz.prog Tryz.f5 Rows.fnExactShrinkProgRow.domain false) (Rows.fnExactShrinkProgSpec.post enc Tryz.prog Tryz.f5 false true false false) := by
 refine returnsInHanded_of_change (C := Tryz.checked) Tryz.own started (by kernel_rfl) Tryz.func5
  (ChangeSpec.witness6 (enc := enc) (C := Tryz.checked) false ⟨#[], #[.agg #[.slice none 0 0], .slice none 0 0, .int .i64 0, .int .i64 0], []⟩ 8 (by kernel_rfl) (by kernel_rfl) (by kernel_rfl) (by kernel_rfl)) ?_
 intro W base args ds gs before hval hW _ _
 refine law_calls (P := Tryz.prog) (S := [24, 108, 195, 249, 22, 106, 193, 25, 3]) Tryz.laidOut (by kernel_rfl) (by kernel_rfl) Z (tb := 4) (by kernel_rfl) (by kernel_rfl) ?_ ?_ hval hW
 ·intro ds hd
  match ds, hd with
  | [_, _, _, _], _ => rfl
 ·intro xs h
  change RdL Tryz.prog [24, 25, 3, 3] xs at h
  exact fnExactShrinkProg_rd xs h
theorem fnExactShrinkProg_holds : Rows.FnExactShrinkProgSaid :=
 OpenClaim.holds_of_wide 5 Tryz.f5 rfl rfl rfl rfl rfl rfl rfl ⟨rfl, rfl, rfl, rfl, rfl⟩ rfl rfl rfl rfl rfl (by kernel_rfl) Tryz.func5 (by kernel_rfl)
  (of_decide_eq_true (by kernel_rfl)) (by unfold Func.isWrapper; first | (rw [if_pos (by decide +kernel)]; kernel_rfl) | (rw [if_neg (by decide +kernel)]; exact ⟨rfl, rfl⟩))
  (fun os started H enc _ => fnExactShrinkProg_lifted os started H enc)
end Go.Proofs.YtimpganophnehaaGreat
