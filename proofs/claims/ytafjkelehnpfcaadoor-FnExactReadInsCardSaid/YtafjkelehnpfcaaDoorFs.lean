/- Sizes, sameness and bounds of data, put together from their parts'. -/
import Derived.Test.YtafjkelehnpfcaaDoorFb
set_option linter.unusedVariables false
set_option linter.unusedSimpArgs false
set_option maxRecDepth 10000
namespace Go.Proofs.YtafjkelehnpfcaaDoor
open Go.Eng

/-- Lists that are so long at most; whose elements are good. -/
def okN {α : Type} (B : Nat) (l : List α) : Prop := l.length ≤ B
def okL {α : Type} (B : Nat) (ok : α → Prop) (l : List α) : Prop := l.length ≤ B ∧ ∀ x, x ∈ l → ok x

def eqB (a b : Bool) : Bool := a == b
theorem eqI_refl : ∀ x, eqI x x = true := fun x => by simp [eqI]
end Go.Proofs.YtafjkelehnpfcaaDoor
