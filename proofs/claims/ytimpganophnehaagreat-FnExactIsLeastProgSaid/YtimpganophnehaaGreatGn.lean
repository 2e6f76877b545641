/- The walk of how programs' functions are given other numbers, in place. -/
import Derived.Test.YtimpganophnehaaGreatGm
import Derived.Test.YtimpganophnehaaGreatMc
set_option linter.unusedVariables false
set_option linter.unusedSimpArgs false
set_option maxRecDepth 10000
set_option maxHeartbeats 1000000
namespace Go.Proofs.YtimpganophnehaaGreat
open Go.Eng

theorem cellsF (l : List Func) : ∀ x, x ∈ l.map Func.tt → (T.cells x).length = 4 := by
 intro x hx; obtain ⟨t, _, rfl⟩ := List.mem_map.1 hx; rfl
theorem cellsS (l : List Stmt) : ∀ x, x ∈ l.map Stmt.tt → (T.cells x).length = 5 := by
 intro x hx; obtain ⟨t, _, rfl⟩ := List.mem_map.1 hx; rfl
theorem mapAt {α β : Type} {f : α → β} {l : List α} {k : Nat} {x : α} (h : l[k]? = some x) : (l.map f)[k]? = some (f x) := by rw [List.getElem?_map, h]; rfl
end Go.Proofs.YtimpganophnehaaGreat
