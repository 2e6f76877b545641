/-
  NARROWER THAN 'FOR EVERY INPUT', by the rows' own cells (each row's printed sentence says how): FnExactSumIn: loops · FnExactIsStuck: loops · FnExactNewWorld: loops · FnExactMovesIn: loops · FnExactPlayWorld: loops · FnExactDoMove: loops.
  DERIVED. THE GIVEN ROWS OF THIS SEAT. 6 by the template 'for every input the law returns true; each argument reads behind the call as it read before'; 0 by the template 'total and deterministic' (their statements: YtbkamkmmljbedaaTotals.lean).
  GIVEN WITH THE SEED: the statements are not yours to turn. If you find one false, say at which input.
  Laid BY PROGRAM, IN A SANDBOX (cutbox-rows.mjs): the forced cells as the released guide's own fill.sh prints them over the translation 3f0094a330f223d1… (all of the seat's roots in one cut). By AI agents, Wed Nov 11 2026. No macro, syntax, notation, axiom, sorry.
-/
import Derived.Test.YtbkamkmmljbedaaChecked
import GoSem.Claim
import GoSem.ClaimJoined
import GoSem.ClaimMapViews
import Derived.JoinedTies
import Derived.KernelRfl
namespace Go.Proofs.Ytbkamkmmljbedaa
/- THE CELL 'sum', in the pinned program and in every row, IS THE sha256 OF THE DUMP (.gsa) THAT YtbkamkmmljbedaaProg.lean LOADS. Nothing in Lean hashes anything: it is a label: what it is worth is what the hold of that sum in a sandbox is worth. -/
noncomputable def Try.pinned : Pinned := { name := "ytbkamkmmljbedaa", sum := "3f0094a330f223d131ebd75e68578195c6ebebb6d91456f32dc16ddf390a56be", checked := Try.checked }
namespace Rows
def none {H : Type} : Left H := { results := [], args := [] }

/-- 'laws.FnExactSumIn': WHATEVER THE INPUT: true; the input reads as it did. -/
def fnExactSumInSpec : ChangeSpec := { name := "fnExactSumIn", fn := fun _ => fun
  | [d] => { results := [.lit (.bool true)], args := [d] }
  | _ => none }
def fnExactSumInRow : OpenClaim := { program := "ytbkamkmmljbedaa", sum := "3f0094a330f223d131ebd75e68578195c6ebebb6d91456f32dc16ddf390a56be", func := "loop.example/g00745/laws.FnExactSumIn", spec := "fnExactSumIn", unfollowed := true, recurses := true, loops := true, apart := false }
def FnExactSumInSaid : Prop := fnExactSumInRow.holds Try.pinned (OpenSpec.ofChange fnExactSumInSpec)

/-- ITS FALSE NEIGHBOUR: 'it returns false'. Refute it at one input. -/
def fnExactSumInWrong : ChangeSpec := { name := "fnExactSumIn", fn := fun _ => fun
  | [d] => { results := [.lit (.bool false)], args := [d] }
  | _ => none }
def FnExactSumInWrongFalsely : Prop := fnExactSumInRow.holds Try.pinned (OpenSpec.ofChange fnExactSumInWrong)

/-- 'laws.FnExactIsStuck': WHATEVER THE INPUT: true; the input reads as it did. -/
def fnExactIsStuckSpec : ChangeSpec := { name := "fnExactIsStuck", fn := fun _ => fun
  | [d] => { results := [.lit (.bool true)], args := [d] }
  | _ => none }
def fnExactIsStuckRow : OpenClaim := { program := "ytbkamkmmljbedaa", sum := "3f0094a330f223d131ebd75e68578195c6ebebb6d91456f32dc16ddf390a56be", func := "loop.example/g00745/laws.FnExactIsStuck", spec := "fnExactIsStuck", unfollowed := true, recurses := true, loops := true, apart := false }
def FnExactIsStuckSaid : Prop := fnExactIsStuckRow.holds Try.pinned (OpenSpec.ofChange fnExactIsStuckSpec)

/-- ITS FALSE NEIGHBOUR: 'it returns false'. Refute it at one input. -/
def fnExactIsStuckWrong : ChangeSpec := { name := "fnExactIsStuck", fn := fun _ => fun
  | [d] => { results := [.lit (.bool false)], args := [d] }
  | _ => none }
def FnExactIsStuckWrongFalsely : Prop := fnExactIsStuckRow.holds Try.pinned (OpenSpec.ofChange fnExactIsStuckWrong)

/-- 'laws.FnExactNewWorld': WHATEVER THE INPUT: true; the input reads as it did. -/
def fnExactNewWorldSpec : ChangeSpec := { name := "fnExactNewWorld", fn := fun _ => fun
  | [d1, d2] => { results := [.lit (.bool true)], args := [d1, d2] }
  | _ => none }
def fnExactNewWorldRow : OpenClaim := { program := "ytbkamkmmljbedaa", sum := "3f0094a330f223d131ebd75e68578195c6ebebb6d91456f32dc16ddf390a56be", func := "loop.example/g00745/laws.FnExactNewWorld", spec := "fnExactNewWorld", unfollowed := true, recurses := true, loops := true, apart := false }
def FnExactNewWorldSaid : Prop := fnExactNewWorldRow.holds Try.pinned (OpenSpec.ofChange fnExactNewWorldSpec)

/-- ITS FALSE NEIGHBOUR: 'it returns false'. Refute it at one input. -/
def fnExactNewWorldWrong : ChangeSpec := { name := "fnExactNewWorld", fn := fun _ => fun
  | [d1, d2] => { results := [.lit (.bool false)], args := [d1, d2] }
  | _ => none }
def FnExactNewWorldWrongFalsely : Prop := fnExactNewWorldRow.holds Try.pinned (OpenSpec.ofChange fnExactNewWorldWrong)

/-- 'laws.FnExactMovesIn': WHATEVER THE INPUT: true; the input reads as it did. -/
def fnExactMovesInSpec : ChangeSpec := { name := "fnExactMovesIn", fn := fun _ => fun
  | [d] => { results := [.lit (.bool true)], args := [d] }
  | _ => none }
def fnExactMovesInRow : OpenClaim := { program := "ytbkamkmmljbedaa", sum := "3f0094a330f223d131ebd75e68578195c6ebebb6d91456f32dc16ddf390a56be", func := "loop.example/g00745/laws.FnExactMovesIn", spec := "fnExactMovesIn", unfollowed := true, recurses := true, loops := true, apart := false }
def FnExactMovesInSaid : Prop := fnExactMovesInRow.holds Try.pinned (OpenSpec.ofChange fnExactMovesInSpec)

/-- ITS FALSE NEIGHBOUR: 'it returns false'. Refute it at one input. -/
def fnExactMovesInWrong : ChangeSpec := { name := "fnExactMovesIn", fn := fun _ => fun
  | [d] => { results := [.lit (.bool false)], args := [d] }
  | _ => none }
def FnExactMovesInWrongFalsely : Prop := fnExactMovesInRow.holds Try.pinned (OpenSpec.ofChange fnExactMovesInWrong)

/-- 'laws.FnExactPlayWorld': WHATEVER THE INPUT: true; the input reads as it did. -/
def fnExactPlayWorldSpec : ChangeSpec := { name := "fnExactPlayWorld", fn := fun _ => fun
  | [d1, d2, d3] => { results := [.lit (.bool true)], args := [d1, d2, d3] }
  | _ => none }
def fnExactPlayWorldRow : OpenClaim := { program := "ytbkamkmmljbedaa", sum := "3f0094a330f223d131ebd75e68578195c6ebebb6d91456f32dc16ddf390a56be", func := "loop.example/g00745/laws.FnExactPlayWorld", spec := "fnExactPlayWorld", unfollowed := true, recurses := true, loops := true, apart := false }
def FnExactPlayWorldSaid : Prop := fnExactPlayWorldRow.holds Try.pinned (OpenSpec.ofChange fnExactPlayWorldSpec)

/-- ITS FALSE NEIGHBOUR: 'it returns false'. Refute it at one input. -/
def fnExactPlayWorldWrong : ChangeSpec := { name := "fnExactPlayWorld", fn := fun _ => fun
  | [d1, d2, d3] => { results := [.lit (.bool false)], args := [d1, d2, d3] }
  | _ => none }
def FnExactPlayWorldWrongFalsely : Prop := fnExactPlayWorldRow.holds Try.pinned (OpenSpec.ofChange fnExactPlayWorldWrong)

/-- 'laws.FnExactDoMove': WHATEVER THE INPUT: true; the input reads as it did. -/
def fnExactDoMoveSpec : ChangeSpec := { name := "fnExactDoMove", fn := fun _ => fun
  | [d1, d2] => { results := [.lit (.bool true)], args := [d1, d2] }
  | _ => none }
def fnExactDoMoveRow : OpenClaim := { program := "ytbkamkmmljbedaa", sum := "3f0094a330f223d131ebd75e68578195c6ebebb6d91456f32dc16ddf390a56be", func := "loop.example/g00745/laws.FnExactDoMove", spec := "fnExactDoMove", unfollowed := true, recurses := true, loops := true, apart := false }
def FnExactDoMoveSaid : Prop := fnExactDoMoveRow.holds Try.pinned (OpenSpec.ofChange fnExactDoMoveSpec)

/-- ITS FALSE NEIGHBOUR: 'it returns false'. Refute it at one input. -/
def fnExactDoMoveWrong : ChangeSpec := { name := "fnExactDoMove", fn := fun _ => fun
  | [d1, d2] => { results := [.lit (.bool false)], args := [d1, d2] }
  | _ => none }
def FnExactDoMoveWrongFalsely : Prop := fnExactDoMoveRow.holds Try.pinned (OpenSpec.ofChange fnExactDoMoveWrong)

/- THE SECOND FORM. 'bulk': how many values and letters a reading holds, each counted each time it is reached (what is shared counts as often as it is met; a slice's spare places count too). A statement '..UptoSaid' is the law's where the arguments, and the package variables that the reading takes, are together of bulk at most 1048576: NARROWER than '..Said'. Prove '..Said' where nothing that the law and all that it calls make is longer than what came in: it says more and counts as full. Else prove '..UptoSaid'. A law counts once. -/
mutual
def uptoBulk {H : Type} : DataW H → Nat
  | .lit (.string bytes) => bytes.length + 1
  | .lit _ => 1
  | .nil => 1
  | .ptr d => uptoBulk d + 1
  | .slice elems spare => uptoBulkAll elems + uptoBulkAll spare + 1
  | .agg parts => uptoBulkAll parts + 1
  | .iface _ d => uptoBulk d + 1
  | .map entries => uptoBulkEntries entries + 1
  | .held _ => 1
def uptoBulkAll {H : Type} : List (DataW H) → Nat
  | [] => 0
  | d :: r => uptoBulk d + uptoBulkAll r
def uptoBulkEntries {H : Type} : List (Lit × DataW H) → Nat
  | [] => 0
  | x :: r => uptoBulkEntry x + uptoBulkEntries r
def uptoBulkEntry {H : Type} : Lit × DataW H → Nat
  | (.string bytes, d) => bytes.length + uptoBulk d + 1
  | (_, d) => uptoBulk d + 1
 end
def uptoSmall : (H : Type) → List (DataW H) → Bool := fun _ ds => decide (uptoBulkAll ds ≤ 1048576)
def OpenSpec.upto (s : _root_.Go.ChangeSpec) : _root_.Go.OpenSpec := { _root_.Go.OpenSpec.ofChange s with cond := some uptoSmall }

/-- 'laws.FnExactSumIn', WHERE WHAT IT READS IS OF BULK AT MOST 1048576: true; the input reads as it did. -/
def fnExactSumInUptoRow : OpenClaim := { program := "ytbkamkmmljbedaa", sum := "3f0094a330f223d131ebd75e68578195c6ebebb6d91456f32dc16ddf390a56be", func := "loop.example/g00745/laws.FnExactSumIn", spec := "fnExactSumIn", unfollowed := true, recurses := true, loops := true, apart := false, narrowed := true }
def FnExactSumInUptoSaid : Prop := fnExactSumInUptoRow.holds Try.pinned (OpenSpec.upto fnExactSumInSpec)

/-- 'laws.FnExactIsStuck', WHERE WHAT IT READS IS OF BULK AT MOST 1048576: true; the input reads as it did. -/
def fnExactIsStuckUptoRow : OpenClaim := { program := "ytbkamkmmljbedaa", sum := "3f0094a330f223d131ebd75e68578195c6ebebb6d91456f32dc16ddf390a56be", func := "loop.example/g00745/laws.FnExactIsStuck", spec := "fnExactIsStuck", unfollowed := true, recurses := true, loops := true, apart := false, narrowed := true }
def FnExactIsStuckUptoSaid : Prop := fnExactIsStuckUptoRow.holds Try.pinned (OpenSpec.upto fnExactIsStuckSpec)

/-- 'laws.FnExactNewWorld', WHERE WHAT IT READS IS OF BULK AT MOST 1048576: true; the input reads as it did. -/
def fnExactNewWorldUptoRow : OpenClaim := { program := "ytbkamkmmljbedaa", sum := "3f0094a330f223d131ebd75e68578195c6ebebb6d91456f32dc16ddf390a56be", func := "loop.example/g00745/laws.FnExactNewWorld", spec := "fnExactNewWorld", unfollowed := true, recurses := true, loops := true, apart := false, narrowed := true }
def FnExactNewWorldUptoSaid : Prop := fnExactNewWorldUptoRow.holds Try.pinned (OpenSpec.upto fnExactNewWorldSpec)

/-- 'laws.FnExactMovesIn', WHERE WHAT IT READS IS OF BULK AT MOST 1048576: true; the input reads as it did. -/
def fnExactMovesInUptoRow : OpenClaim := { program := "ytbkamkmmljbedaa", sum := "3f0094a330f223d131ebd75e68578195c6ebebb6d91456f32dc16ddf390a56be", func := "loop.example/g00745/laws.FnExactMovesIn", spec := "fnExactMovesIn", unfollowed := true, recurses := true, loops := true, apart := false, narrowed := true }
def FnExactMovesInUptoSaid : Prop := fnExactMovesInUptoRow.holds Try.pinned (OpenSpec.upto fnExactMovesInSpec)

/-- 'laws.FnExactPlayWorld', WHERE WHAT IT READS IS OF BULK AT MOST 1048576: true; the input reads as it did. -/
def fnExactPlayWorldUptoRow : OpenClaim := { program := "ytbkamkmmljbedaa", sum := "3f0094a330f223d131ebd75e68578195c6ebebb6d91456f32dc16ddf390a56be", func := "loop.example/g00745/laws.FnExactPlayWorld", spec := "fnExactPlayWorld", unfollowed := true, recurses := true, loops := true, apart := false, narrowed := true }
def FnExactPlayWorldUptoSaid : Prop := fnExactPlayWorldUptoRow.holds Try.pinned (OpenSpec.upto fnExactPlayWorldSpec)

/-- 'laws.FnExactDoMove', WHERE WHAT IT READS IS OF BULK AT MOST 1048576: true; the input reads as it did. -/
def fnExactDoMoveUptoRow : OpenClaim := { program := "ytbkamkmmljbedaa", sum := "3f0094a330f223d131ebd75e68578195c6ebebb6d91456f32dc16ddf390a56be", func := "loop.example/g00745/laws.FnExactDoMove", spec := "fnExactDoMove", unfollowed := true, recurses := true, loops := true, apart := false, narrowed := true }
def FnExactDoMoveUptoSaid : Prop := fnExactDoMoveUptoRow.holds Try.pinned (OpenSpec.upto fnExactDoMoveSpec)

end Rows
end Go.Proofs.Ytbkamkmmljbedaa
