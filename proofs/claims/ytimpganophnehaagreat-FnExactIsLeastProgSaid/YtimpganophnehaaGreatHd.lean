/- The law of DropStmt. -/
import Derived.Test.YtimpganophnehaaGreatHb
import Derived.Test.YtimpganophnehaaGreatGq
import Derived.Test.YtimpganophnehaaGreatGf
import Derived.Test.YtimpganophnehaaGreatGea
import Derived.Test.YtimpganophnehaaGreatFr
import Derived.Test.YtimpganophnehaaGreatFp
import Derived.Test.YtimpganophnehaaGreatMd
set_option linter.unusedVariables false
set_option linter.unusedSimpArgs false
set_option maxRecDepth 10000
set_option maxHeartbeats 1000000
namespace Go.Proofs.YtimpganophnehaaGreat
open Go.Eng

theorem okF_left (gone : List Int) {B : Nat} {f : Func} (h : f.ok B) : (leftF gone f).ok B := by
 have hl := pickC_len (wantG gone) 0 f.stmts
 refine ⟨Nat.le_trans (leftG_len gone f.body) h.1, ⟨by show ((pickC (wantG gone) 0 f.stmts).map (leftS gone)).length ≤ B; rw [List.length_map]; exact Nat.le_trans hl h.2.1.1, fun s hs => ?_⟩, trivial⟩
 obtain ⟨s', hs', rfl⟩ := List.mem_map.1 hs
 obtain ⟨R, hR⟩ := pickC_perm (wantG gone) 0 f.stmts
 have := h.2.1.2 s' (hR.mem_iff.2 (List.mem_append_left _ hs'))
 exact ⟨this.1, Nat.le_trans (leftG_len gone s'.thn) this.2.1, Nat.le_trans (leftG_len gone s'.els) this.2.2.1, trivial⟩
theorem ok_dropP {p : Prog} {B : Nat} (hp : p.ok B) (fn s : Int) : (dropP p fn s).ok B := by
 refine ⟨⟨by rw [dropP_len]; exact hp.1.1, fun f hf => ?_⟩, trivial⟩
 obtain ⟨k, hk, rfl⟩ := List.mem_map.1 hf
 have hk := List.mem_range.1 hk
 rw [← funcAt_at (n := (k : Int)) (by omega)]
 exact okF_left _ (hp.1.2 _ (List.getElem_mem _))
end Go.Proofs.YtimpganophnehaaGreat
