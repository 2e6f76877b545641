/- Walks of the functions that lay a list of lists anew and hold two such against each other. -/
import Derived.Test.YtafjkelehnpfcaaDoorFa
set_option linter.unusedVariables false
set_option linter.unusedSimpArgs false
set_option maxRecDepth 10000
namespace Go.Proofs.YtafjkelehnpfcaaDoor
open Go.Eng

theorem drop_at {α : Type} {l : List α} {k : Int} (h0 : 0 ≤ k) (h1 : k < l.length) : l.drop k.toNat = l[k.toNat]'(by omega) :: l.drop (k + 1).toNat := by
  rw [show (k + 1).toNat = k.toNat + 1 from by omega]
  exact List.drop_eq_getElem_cons (by omega)
theorem drop_end {α : Type} {l : List α} {k : Int} (h1 : (l.length : Int) ≤ k) : l.drop k.toNat = [] := List.drop_of_length_le (by omega)

def eqI (a b : Int) : Bool := decide (a = b)

end Go.Proofs.YtafjkelehnpfcaaDoor
