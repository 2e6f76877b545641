/- The law of MoveFuncs. -/
import Derived.Test.YtimpganophnehaaGq
set_option linter.unusedVariables false
set_option linter.unusedSimpArgs false
set_option maxRecDepth 10000
set_option maxHeartbeats 1000000
namespace Go.Proofs.Ytimpganophnehaa
open Go.Eng

theorem ctL_perm {α : Type} (ct : α → Int) {l l' : List α} (h : l.Perm l') : ctL ct l = ctL ct l' := by
  induction h with
  | nil => rfl
  | cons x _ ih => rw [ctL_cons, ctL_cons, ih]
  | swap x y l => rw [ctL_cons, ctL_cons, ctL_cons, ctL_cons]; omega
  | trans _ _ h1 h2 => rw [h1, h2]
end Go.Proofs.Ytimpganophnehaa
