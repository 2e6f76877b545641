/- Walks of how programs are copied, and their functions given other numbers. -/
import Derived.Test.YtimpganophnehaaGreatGea
import Derived.Test.YtimpganophnehaaGreatFr
import Derived.Test.YtimpganophnehaaGreatFp
import Derived.Test.YtimpganophnehaaGreatMc
set_option linter.unusedVariables false
set_option linter.unusedSimpArgs false
set_option maxRecDepth 10000
set_option maxHeartbeats 1000000
namespace Go.Proofs.YtimpganophnehaaGreat
open Go.Eng

theorem l1Own_fun (l : List Int) (hl : l.length ≤ 1073741824) : Fun Tryz.prog 91 [.t (T.ints l)] (tupD [.own (T.ints l)]) := by
 refine Fun.begin tys Tryz.func91 rfl rfl (N := 6) [(0, .t (T.ints l))] rfl rfl (fun w0 G F0 => ?_)
 refine sQ (rG (eZ rfl (oN (tN (sQ (rG ?_))))))
 refine WO_buildSlice tys [] rfl rfl (lt_of rfl) rfl rfl rfl rfl rfl (by decide) (by repeat (first | exact PartsOk.nil' | refine PartsOk.cons' rfl (by repeat (first | exact AbsL.nil' | refine AbsL.v' ?_ | refine AbsL.own' ?_ | refine AbsL.none' ?_)) rfl ?_)) (by first | exact List.nodup_nil | exact nodup1 _ | decide | exact nodupB_sound rfl) rfl (by decide) ?_
 refine nZ rfl (eZ rfl (WO_append tys rfl rfl (lt_of rfl) rfl rfl rfl rfl rfl (.own rfl (by first | omega | (simp only [List.length_append]; omega))) rfl (.read (readI l)) (by decide) (by simp; omega) (by decide) rfl ?_))
 refine nZ rfl (eZ rfl (oN (tN (W_le (Le.gather (u := 2) (id := 3) rfl rfl (by simp)) ?_))))
 refine rT (eR ?_)
 ·(simp only [take_app, List.take_length, List.nil_append, List.length_nil, Nat.zero_add, List.take_nil]; rfl)

end Go.Proofs.YtimpganophnehaaGreat
