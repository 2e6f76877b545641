/- Every call of FnMoves returns true, and what it was given reads as it did: the given statement, for every input. -/
import Derived.Test.YtkllmdolplcklaaFa
import Derived.Test.YtkllmdolplcklaaSr
set_option linter.unusedVariables false
set_option linter.unusedSimpArgs false
set_option maxRecDepth 10000
namespace Go.Proofs.Ytkllmdolplcklaa
open Go.ChangeShapes Go.WideShapes Go.ChangeAt Go.RowKit Go.Eng
theorem rd_u8 {x : T} (h : Rd Try.prog 5 x) : ∃ n : Int, x = .v (.int .u8 n) ∧ (0 ≤ n ∧ n ≤ 255) := by
 obtain ⟨n, rfl, h1⟩ := rd_int (k := .u8) (by kernel_rfl) h
 refine ⟨n, rfl, ?_⟩
 have e1 : IntKind.u8.min = 0 := by decide
 have e2 : IntKind.u8.max = 255 := by decide
 simp [Lit.wf] at h1
 omega
theorem I7 {x : T} (h : Rd Try.prog 22 x) : ∃ l : List Int, x = T.bytes l ∧ l.length ≤ 9223372036854775807 ∧ ∀ b, b ∈ l → 0 ≤ b ∧ b ≤ 255 :=
 M5 (e := 5) (n := 1) (by kernel_rfl) (by kernel_rfl) (fun y hy => rd_u8 hy) h
theorem J7 (xs : List T) (h : RdL Try.prog [22, 22] xs) : Fun Try.prog 3 (xs.map .t) (.t (.bool true)) := by
 match xs, h with
  | [x, y], ⟨h1, h2, _⟩ =>
   obtain ⟨a, rfl, h3, h4⟩ := I7 h1
   obtain ⟨b, rfl, h5, h6⟩ := I7 h2
   exact Hf a b h3 h5 h4 h6
theorem Fl (os : Os) (started : os.Started) (H : Type) (enc : TypeId × Value → H) :
  ReturnsInHanded {} Try.checked os 3 .any (Rows.fnMovesSpec.pre6 enc Try.prog Try.f3 Rows.fnMovesRow.domain false) (Rows.fnMovesSpec.post enc Try.prog Try.f3 false true false false) := by
 refine returnsInHanded_of_change (C := Try.checked) Try.own started (by kernel_rfl) Try.func3
  (ChangeSpec.witness6 (enc := enc) (C := Try.checked) false ⟨#[], #[.slice none 0 0, .slice none 0 0], []⟩ 8 (by kernel_rfl) (by kernel_rfl) (by kernel_rfl) (by kernel_rfl)) ?_
 intro W base args ds gs before hval hW _ _;refine K2 (P := Try.prog) (S := [22, 5]) Try.laidOut (by kernel_rfl) (by kernel_rfl) Z (tb := 4) (by kernel_rfl) (by kernel_rfl) ?_ ?_ hval hW
 ·intro ds hd
  match ds, hd with
  | [_, _], _ => rfl
 ·intro xs h
  change RdL Try.prog [22, 22] xs at h;exact J7 xs h
theorem fnMoves_holds : Rows.FnMovesSaid :=
 OpenClaim.holds_of_wide 3 Try.f3 rfl rfl rfl rfl rfl rfl rfl ⟨rfl, rfl, rfl, rfl, rfl⟩ rfl rfl rfl rfl rfl (by kernel_rfl) Try.func3 (by kernel_rfl)
  (of_decide_eq_true (by kernel_rfl)) (by unfold Func.isWrapper; first | (rw [if_pos (by decide +kernel)]; kernel_rfl) | (rw [if_neg (by decide +kernel)]; exact ⟨rfl, rfl⟩))
  (fun os started H enc _ => Fl os started H enc)
end Go.Proofs.Ytkllmdolplcklaa
