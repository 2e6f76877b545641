/- Marks of structs: numbers from k on, in the order of the fields. -/
import Derived.Test.YtimpganophnehaaGreatFs
import Derived.Test.YtimpganophnehaaGreatMb
set_option linter.unusedVariables false
set_option linter.unusedSimpArgs false
set_option maxRecDepth 10000
namespace Go.Proofs.YtimpganophnehaaGreat
open Go.Eng

section
variable {α : Type}
end

def SzC (f : Int → Int) (c : Int) : Prop := ∀ left : Int, 0 ≤ left → 0 ≤ f left → c + 8 * f left ≤ 8 * left
theorem SzC.mono {f : Int → Int} {c d : Int} (h : SzC f c) (hd : d ≤ c) : SzC f d := fun left h0 hf => by have := h left h0 hf; omega
end Go.Proofs.YtimpganophnehaaGreat
