/-
  NARROWER THAN 'FOR EVERY INPUT', by the rows' own cells (each row's printed sentence says how): FnExactSameWorld: loops · FnExactGoodWorld: loops · FnExactSumIn: loops.
  DERIVED. THE GIVEN ROWS OF THIS SEAT. 6 by the template 'for every input the law returns true; each argument reads behind the call as it read before'; 0 by the template 'total and deterministic' (their statements: YtnkhkmhhfpokhaaTotals.lean).
  GIVEN WITH THE SEED: the statements are not yours to turn. If you find one false, say at which input.
  Laid BY PROGRAM, IN A SANDBOX (cutbox-rows.mjs): the forced cells as the released guide's own fill.sh prints them over the translation 8bc9d45c0811f3ea… (all of the seat's roots in one cut). By AI agents, Wed Nov 11 2026. No macro, syntax, notation, axiom, sorry.
-/
import Derived.Test.YtnkhkmhhfpokhaaChecked
import GoSem.Claim
import GoSem.ClaimJoined
import GoSem.ClaimMapViews
import Derived.JoinedTies
import Derived.KernelRfl
namespace Go.Proofs.Ytnkhkmhhfpokhaa
/- THE CELL 'sum', in the pinned program and in every row, IS THE sha256 OF THE DUMP (.gsa) THAT YtnkhkmhhfpokhaaProg.lean LOADS. Nothing in Lean hashes anything: it is a label: what it is worth is what the hold of that sum in a sandbox is worth. -/
noncomputable def Try.pinned : Pinned := { name := "ytnkhkmhhfpokhaa", sum := "8bc9d45c0811f3ea6fc5175b07382ef7a083207e3237318facf50ed6108b215e", checked := Try.checked }
namespace Rows
def none {H : Type} : Left H := { results := [], args := [] }

/-- 'laws.FnExactHotIn': WHATEVER THE INPUT: true; the input reads as it did. -/
def fnExactHotInSpec : ChangeSpec := { name := "fnExactHotIn", fn := fun _ => fun
  | [d] => { results := [.lit (.bool true)], args := [d] }
  | _ => none }
def fnExactHotInRow : OpenClaim := { program := "ytnkhkmhhfpokhaa", sum := "8bc9d45c0811f3ea6fc5175b07382ef7a083207e3237318facf50ed6108b215e", func := "loop.example/g00745/laws.FnExactHotIn", spec := "fnExactHotIn", unfollowed := true, recurses := true, apart := false }
def FnExactHotInSaid : Prop := fnExactHotInRow.holds Try.pinned (OpenSpec.ofChange fnExactHotInSpec)

/-- ITS FALSE NEIGHBOUR: 'it returns false'. Refute it at one input. -/
def fnExactHotInWrong : ChangeSpec := { name := "fnExactHotIn", fn := fun _ => fun
  | [d] => { results := [.lit (.bool false)], args := [d] }
  | _ => none }
def FnExactHotInWrongFalsely : Prop := fnExactHotInRow.holds Try.pinned (OpenSpec.ofChange fnExactHotInWrong)

/-- 'laws.FnExactDoneIn': WHATEVER THE INPUT: true; the input reads as it did. -/
def fnExactDoneInSpec : ChangeSpec := { name := "fnExactDoneIn", fn := fun _ => fun
  | [d] => { results := [.lit (.bool true)], args := [d] }
  | _ => none }
def fnExactDoneInRow : OpenClaim := { program := "ytnkhkmhhfpokhaa", sum := "8bc9d45c0811f3ea6fc5175b07382ef7a083207e3237318facf50ed6108b215e", func := "loop.example/g00745/laws.FnExactDoneIn", spec := "fnExactDoneIn", unfollowed := true, recurses := true, apart := false }
def FnExactDoneInSaid : Prop := fnExactDoneInRow.holds Try.pinned (OpenSpec.ofChange fnExactDoneInSpec)

/-- ITS FALSE NEIGHBOUR: 'it returns false'. Refute it at one input. -/
def fnExactDoneInWrong : ChangeSpec := { name := "fnExactDoneIn", fn := fun _ => fun
  | [d] => { results := [.lit (.bool false)], args := [d] }
  | _ => none }
def FnExactDoneInWrongFalsely : Prop := fnExactDoneInRow.holds Try.pinned (OpenSpec.ofChange fnExactDoneInWrong)

/-- 'laws.FnExactJoinCounts': WHATEVER THE INPUT: true; the input reads as it did. -/
def fnExactJoinCountsSpec : ChangeSpec := { name := "fnExactJoinCounts", fn := fun _ => fun
  | [d1, d2] => { results := [.lit (.bool true)], args := [d1, d2] }
  | _ => none }
def fnExactJoinCountsRow : OpenClaim := { program := "ytnkhkmhhfpokhaa", sum := "8bc9d45c0811f3ea6fc5175b07382ef7a083207e3237318facf50ed6108b215e", func := "loop.example/g00745/laws.FnExactJoinCounts", spec := "fnExactJoinCounts", unfollowed := true, recurses := true, apart := false }
def FnExactJoinCountsSaid : Prop := fnExactJoinCountsRow.holds Try.pinned (OpenSpec.ofChange fnExactJoinCountsSpec)

/-- ITS FALSE NEIGHBOUR: 'it returns false'. Refute it at one input. -/
def fnExactJoinCountsWrong : ChangeSpec := { name := "fnExactJoinCounts", fn := fun _ => fun
  | [d1, d2] => { results := [.lit (.bool false)], args := [d1, d2] }
  | _ => none }
def FnExactJoinCountsWrongFalsely : Prop := fnExactJoinCountsRow.holds Try.pinned (OpenSpec.ofChange fnExactJoinCountsWrong)

/-- 'laws.FnExactSameWorld': WHATEVER THE INPUT: true; the input reads as it did. -/
def fnExactSameWorldSpec : ChangeSpec := { name := "fnExactSameWorld", fn := fun _ => fun
  | [d1, d2] => { results := [.lit (.bool true)], args := [d1, d2] }
  | _ => none }
def fnExactSameWorldRow : OpenClaim := { program := "ytnkhkmhhfpokhaa", sum := "8bc9d45c0811f3ea6fc5175b07382ef7a083207e3237318facf50ed6108b215e", func := "loop.example/g00745/laws.FnExactSameWorld", spec := "fnExactSameWorld", unfollowed := true, recurses := true, loops := true, apart := false }
def FnExactSameWorldSaid : Prop := fnExactSameWorldRow.holds Try.pinned (OpenSpec.ofChange fnExactSameWorldSpec)

/-- ITS FALSE NEIGHBOUR: 'it returns false'. Refute it at one input. -/
def fnExactSameWorldWrong : ChangeSpec := { name := "fnExactSameWorld", fn := fun _ => fun
  | [d1, d2] => { results := [.lit (.bool false)], args := [d1, d2] }
  | _ => none }
def FnExactSameWorldWrongFalsely : Prop := fnExactSameWorldRow.holds Try.pinned (OpenSpec.ofChange fnExactSameWorldWrong)

/-- 'laws.FnExactGoodWorld': WHATEVER THE INPUT: true; the input reads as it did. -/
def fnExactGoodWorldSpec : ChangeSpec := { name := "fnExactGoodWorld", fn := fun _ => fun
  | [d] => { results := [.lit (.bool true)], args := [d] }
  | _ => none }
def fnExactGoodWorldRow : OpenClaim := { program := "ytnkhkmhhfpokhaa", sum := "8bc9d45c0811f3ea6fc5175b07382ef7a083207e3237318facf50ed6108b215e", func := "loop.example/g00745/laws.FnExactGoodWorld", spec := "fnExactGoodWorld", unfollowed := true, recurses := true, loops := true, apart := false }
def FnExactGoodWorldSaid : Prop := fnExactGoodWorldRow.holds Try.pinned (OpenSpec.ofChange fnExactGoodWorldSpec)

/-- ITS FALSE NEIGHBOUR: 'it returns false'. Refute it at one input. -/
def fnExactGoodWorldWrong : ChangeSpec := { name := "fnExactGoodWorld", fn := fun _ => fun
  | [d] => { results := [.lit (.bool false)], args := [d] }
  | _ => none }
def FnExactGoodWorldWrongFalsely : Prop := fnExactGoodWorldRow.holds Try.pinned (OpenSpec.ofChange fnExactGoodWorldWrong)

/-- 'laws.FnExactSumIn': WHATEVER THE INPUT: true; the input reads as it did. -/
def fnExactSumInSpec : ChangeSpec := { name := "fnExactSumIn", fn := fun _ => fun
  | [d] => { results := [.lit (.bool true)], args := [d] }
  | _ => none }
def fnExactSumInRow : OpenClaim := { program := "ytnkhkmhhfpokhaa", sum := "8bc9d45c0811f3ea6fc5175b07382ef7a083207e3237318facf50ed6108b215e", func := "loop.example/g00745/laws.FnExactSumIn", spec := "fnExactSumIn", unfollowed := true, recurses := true, loops := true, apart := false }
def FnExactSumInSaid : Prop := fnExactSumInRow.holds Try.pinned (OpenSpec.ofChange fnExactSumInSpec)

/-- ITS FALSE NEIGHBOUR: 'it returns false'. Refute it at one input. -/
def fnExactSumInWrong : ChangeSpec := { name := "fnExactSumIn", fn := fun _ => fun
  | [d] => { results := [.lit (.bool false)], args := [d] }
  | _ => none }
def FnExactSumInWrongFalsely : Prop := fnExactSumInRow.holds Try.pinned (OpenSpec.ofChange fnExactSumInWrong)

/- THE SECOND FORM. 'bulk': how many values and letters a reading holds, each counted each time it is reached (what is shared counts as often as it is met; a slice's spare places count too). A statement '..UptoSaid' is the law's where the arguments, and the package variables that the reading takes, are together of bulk at most 1048576: NARROWER than '..Said'. Prove '..Said' where nothing that the law and all that it calls make is longer than what came in: it says more and counts as full. Else prove '..UptoSaid'. A law counts once. -/
mutual
def uptoBulk {H : Type} : DataW H → Nat
  | .lit (.string bytes) => bytes.length + 1
  | .lit _ => 1
  | .nil => 1
  | .ptr d => uptoBulk d + 1
  | .slice elems spare => uptoBulkAll elems + uptoBulkAll spare + 1
  | .agg parts => uptoBulkAll parts + 1
  | .iface _ d => uptoBulk d + 1
  | .map entries => uptoBulkEntries entries + 1
  | .held _ => 1
def uptoBulkAll {H : Type} : List (DataW H) → Nat
  | [] => 0
  | d :: r => uptoBulk d + uptoBulkAll r
def uptoBulkEntries {H : Type} : List (Lit × DataW H) → Nat
  | [] => 0
  | x :: r => uptoBulkEntry x + uptoBulkEntries r
def uptoBulkEntry {H : Type} : Lit × DataW H → Nat
  | (.string bytes, d) => bytes.length + uptoBulk d + 1
  | (_, d) => uptoBulk d + 1
 end
def uptoSmall : (H : Type) → List (DataW H) → Bool := fun _ ds => decide (uptoBulkAll ds ≤ 1048576)
def OpenSpec.upto (s : _root_.Go.ChangeSpec) : _root_.Go.OpenSpec := { _root_.Go.OpenSpec.ofChange s with cond := some uptoSmall }

/-- 'laws.FnExactHotIn', WHERE WHAT IT READS IS OF BULK AT MOST 1048576: true; the input reads as it did. -/
def fnExactHotInUptoRow : OpenClaim := { program := "ytnkhkmhhfpokhaa", sum := "8bc9d45c0811f3ea6fc5175b07382ef7a083207e3237318facf50ed6108b215e", func := "loop.example/g00745/laws.FnExactHotIn", spec := "fnExactHotIn", unfollowed := true, recurses := true, apart := false, narrowed := true }
def FnExactHotInUptoSaid : Prop := fnExactHotInUptoRow.holds Try.pinned (OpenSpec.upto fnExactHotInSpec)

/-- 'laws.FnExactDoneIn', WHERE WHAT IT READS IS OF BULK AT MOST 1048576: true; the input reads as it did. -/
def fnExactDoneInUptoRow : OpenClaim := { program := "ytnkhkmhhfpokhaa", sum := "8bc9d45c0811f3ea6fc5175b07382ef7a083207e3237318facf50ed6108b215e", func := "loop.example/g00745/laws.FnExactDoneIn", spec := "fnExactDoneIn", unfollowed := true, recurses := true, apart := false, narrowed := true }
def FnExactDoneInUptoSaid : Prop := fnExactDoneInUptoRow.holds Try.pinned (OpenSpec.upto fnExactDoneInSpec)

/-- 'laws.FnExactJoinCounts', WHERE WHAT IT READS IS OF BULK AT MOST 1048576: true; the input reads as it did. -/
def fnExactJoinCountsUptoRow : OpenClaim := { program := "ytnkhkmhhfpokhaa", sum := "8bc9d45c0811f3ea6fc5175b07382ef7a083207e3237318facf50ed6108b215e", func := "loop.example/g00745/laws.FnExactJoinCounts", spec := "fnExactJoinCounts", unfollowed := true, recurses := true, apart := false, narrowed := true }
def FnExactJoinCountsUptoSaid : Prop := fnExactJoinCountsUptoRow.holds Try.pinned (OpenSpec.upto fnExactJoinCountsSpec)

/-- 'laws.FnExactSameWorld', WHERE WHAT IT READS IS OF BULK AT MOST 1048576: true; the input reads as it did. -/
def fnExactSameWorldUptoRow : OpenClaim := { program := "ytnkhkmhhfpokhaa", sum := "8bc9d45c0811f3ea6fc5175b07382ef7a083207e3237318facf50ed6108b215e", func := "loop.example/g00745/laws.FnExactSameWorld", spec := "fnExactSameWorld", unfollowed := true, recurses := true, loops := true, apart := false, narrowed := true }
def FnExactSameWorldUptoSaid : Prop := fnExactSameWorldUptoRow.holds Try.pinned (OpenSpec.upto fnExactSameWorldSpec)

/-- 'laws.FnExactGoodWorld', WHERE WHAT IT READS IS OF BULK AT MOST 1048576: true; the input reads as it did. -/
def fnExactGoodWorldUptoRow : OpenClaim := { program := "ytnkhkmhhfpokhaa", sum := "8bc9d45c0811f3ea6fc5175b07382ef7a083207e3237318facf50ed6108b215e", func := "loop.example/g00745/laws.FnExactGoodWorld", spec := "fnExactGoodWorld", unfollowed := true, recurses := true, loops := true, apart := false, narrowed := true }
def FnExactGoodWorldUptoSaid : Prop := fnExactGoodWorldUptoRow.holds Try.pinned (OpenSpec.upto fnExactGoodWorldSpec)

/-- 'laws.FnExactSumIn', WHERE WHAT IT READS IS OF BULK AT MOST 1048576: true; the input reads as it did. -/
def fnExactSumInUptoRow : OpenClaim := { program := "ytnkhkmhhfpokhaa", sum := "8bc9d45c0811f3ea6fc5175b07382ef7a083207e3237318facf50ed6108b215e", func := "loop.example/g00745/laws.FnExactSumIn", spec := "fnExactSumIn", unfollowed := true, recurses := true, loops := true, apart := false, narrowed := true }
def FnExactSumInUptoSaid : Prop := fnExactSumInUptoRow.holds Try.pinned (OpenSpec.upto fnExactSumInSpec)

end Rows
end Go.Proofs.Ytnkhkmhhfpokhaa
