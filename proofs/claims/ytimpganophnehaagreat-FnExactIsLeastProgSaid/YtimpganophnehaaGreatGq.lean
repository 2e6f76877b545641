/- Walks of MoveFuncs. -/
import Derived.Test.YtimpganophnehaaGreatGn
import Derived.Test.YtimpganophnehaaGreatMd
set_option linter.unusedVariables false
set_option linter.unusedSimpArgs false
set_option maxRecDepth 10000
set_option maxHeartbeats 1000000
namespace Go.Proofs.YtimpganophnehaaGreat
open Go.Eng

def toldF (C : List (Func × List Value)) : List T := C.map fun c => .agg (c.2.map T.v)
theorem toldF_flat (C : List (Func × List Value)) : (toldF C).flatMap T.cells = (C.flatMap (·.2)).map T.v := by
 unfold toldF; rw [List.flatMap_map, List.map_flatMap]; rfl
theorem toldF_cells {C : List (Func × List Value)} (h : ∀ c, c ∈ C → c.2.length = 4) : ∀ y, y ∈ toldF C → (T.cells y).length = 4 := by
 intro y hy
 obtain ⟨c, hc, rfl⟩ := List.mem_map.1 hy
 show (c.2.map T.v).length = 4
 rw [List.length_map, h c hc]
end Go.Proofs.YtimpganophnehaaGreat
