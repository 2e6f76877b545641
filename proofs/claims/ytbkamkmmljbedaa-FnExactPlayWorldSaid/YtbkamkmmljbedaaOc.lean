/- Every call of FnExactPlayWorld returns true, and what it was given reads as it did: the given statement, for every input. -/
import Derived.Test.YtbkamkmmljbedaaFa
import Derived.Test.YtbkamkmmljbedaaNo
set_option linter.unusedVariables false
set_option linter.unusedSimpArgs false
set_option maxRecDepth 10000
namespace Go.Proofs.Ytbkamkmmljbedaa
open Go.ChangeShapes Go.WideShapes Go.ChangeAt Go.RowKit Go.Eng
theorem rd_actssP {x : T} (h : Rd Try.prog 39 x) : ∃ l : List (List Act), x = T.ActLs l ∧ okL 9223372036854775807 (okL 9223372036854775807 (Act.ok 9223372036854775807)) l :=
 rd_list (e := 77) (n := 1) (by kernel_rfl) (by kernel_rfl) (fun y hy => rd_acts hy) h
theorem fnExactPlayWorld_rd (xs : List T) (h : RdL Try.prog [22, 39, 22] xs) : Fun Try.prog 7 (xs.map .t) (.t (.bool true)) := by
 match xs, h with
  | [x, y, z], ⟨h1, h2, h5, _⟩ =>
   obtain ⟨room, rfl, h3⟩ := rd_ints h1
   obtain ⟨acts, rfl, h4⟩ := rd_actssP h2
   obtain ⟨picks, rfl, h6⟩ := rd_ints h5
   exact lawPlay_fun room acts picks h3 h4 h6
theorem fnExactPlayWorld_lifted (os : Os) (started : os.Started) (H : Type) (enc : TypeId × Value → H) :
  ReturnsInHanded {} Try.checked os 7 .any (Rows.fnExactPlayWorldSpec.pre6 enc Try.prog Try.f7 Rows.fnExactPlayWorldRow.domain false) (Rows.fnExactPlayWorldSpec.post enc Try.prog Try.f7 false true false false) := by
 refine returnsInHanded_of_change (C := Try.checked) Try.own started (by kernel_rfl) Try.func7
  (ChangeSpec.witness6 (enc := enc) (C := Try.checked) false ⟨#[], #[.slice none 0 0, .slice none 0 0, .slice none 0 0], []⟩ 8 (by kernel_rfl) (by kernel_rfl) (by kernel_rfl) (by kernel_rfl)) ?_
 intro W base args ds gs before hval hW _ _
 refine law_calls (P := Try.prog) (S := [109, 39, 77, 22, 3]) Try.laidOut (by kernel_rfl) (by kernel_rfl) Z (tb := 4) (by kernel_rfl) (by kernel_rfl) ?_ ?_ hval hW
 ·intro ds hd
  match ds, hd with
  | [_, _, _], _ => rfl
 ·intro xs h
  change RdL Try.prog [22, 39, 22] xs at h
  exact fnExactPlayWorld_rd xs h
theorem fnExactPlayWorld_holds : Rows.FnExactPlayWorldSaid :=
 OpenClaim.holds_of_wide 7 Try.f7 rfl rfl rfl rfl rfl rfl rfl ⟨rfl, rfl, rfl, rfl, rfl⟩ rfl rfl rfl rfl rfl (by kernel_rfl) Try.func7 (by kernel_rfl)
  (of_decide_eq_true (by kernel_rfl)) (by unfold Func.isWrapper; first | (rw [if_pos (by decide +kernel)]; kernel_rfl) | (rw [if_neg (by decide +kernel)]; exact ⟨rfl, rfl⟩))
  (fun os started H enc _ => fnExactPlayWorld_lifted os started H enc)
end Go.Proofs.Ytbkamkmmljbedaa
