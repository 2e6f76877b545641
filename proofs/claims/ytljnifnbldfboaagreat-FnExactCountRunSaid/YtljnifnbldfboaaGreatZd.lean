/- Every call of FnExactCountRun returns true, and what it was given reads as it did: the given statement, for every input. -/
import Derived.Test.YtljnifnbldfboaaGreatFa
import Derived.Test.YtljnifnbldfboaaGreatYw
set_option linter.unusedVariables false
set_option linter.unusedSimpArgs false
set_option maxRecDepth 10000
namespace Go.Proofs.YtljnifnbldfboaaGreat
open Go.ChangeShapes Go.WideShapes Go.ChangeAt Go.RowKit Go.Eng
theorem EO (xs : List T) (h : RdL Tryz.prog [24, 25, 3, 3] xs) : Fun Tryz.prog 3 (xs.map .t) (.t (.bool true)) := by
 match xs, h with
  | [x, y, z, u], ⟨h1, h2, h3, h4, _⟩ =>
   obtain ⟨w, rfl, h5⟩ := Ob h1
   obtain ⟨l, rfl, h6⟩ := MU h2
   obtain ⟨c, rfl, _⟩ := N9 h3
   obtain ⟨v, rfl, _⟩ := N9 h4
   exact IU w l c v h5 h6
theorem DI (os : Os) (started : os.Started) (H : Type) (enc : TypeId × Value → H) :
  ReturnsInHanded {} Tryz.checked os 3 .any (Rows.fnExactCountRunSpec.pre6 enc Tryz.prog Tryz.f3 Rows.fnExactCountRunRow.domain false) (Rows.fnExactCountRunSpec.post enc Tryz.prog Tryz.f3 false true false false) := by
 refine returnsInHanded_of_change (C := Tryz.checked) Tryz.own started (by kernel_rfl) Tryz.func3
  (ChangeSpec.witness6 (enc := enc) (C := Tryz.checked) false ⟨#[], #[.agg #[.slice none 0 0], .slice none 0 0, .int .i64 0, .int .i64 0], []⟩ 8 (by kernel_rfl) (by kernel_rfl) (by kernel_rfl) (by kernel_rfl)) ?_
 intro W base args ds gs before hval hW _ _;refine Mr (P := Tryz.prog) (S := [24, 72, 117, 119, 22, 69, 70, 25, 3]) Tryz.laidOut (by kernel_rfl) (by kernel_rfl) Z (tb := 4) (by kernel_rfl) (by kernel_rfl) ?_ ?_ hval hW
 ·intro ds hd
  match ds, hd with
  | [_, _, _, _], _ => rfl
 ·intro xs h
  change RdL Tryz.prog [24, 25, 3, 3] xs at h;exact EO xs h
theorem fnExactCountRun_holds : Rows.FnExactCountRunSaid :=
 OpenClaim.holds_of_wide 3 Tryz.f3 rfl rfl rfl rfl rfl rfl rfl ⟨rfl, rfl, rfl, rfl, rfl⟩ rfl rfl rfl rfl rfl (by kernel_rfl) Tryz.func3 (by kernel_rfl)
  (of_decide_eq_true (by kernel_rfl)) (by unfold Func.isWrapper; first | (rw [if_pos (by decide +kernel)]; kernel_rfl) | (rw [if_neg (by decide +kernel)]; exact ⟨rfl, rfl⟩))
  (fun os started H enc _ => DI os started H enc)
end Go.Proofs.YtljnifnbldfboaaGreat
