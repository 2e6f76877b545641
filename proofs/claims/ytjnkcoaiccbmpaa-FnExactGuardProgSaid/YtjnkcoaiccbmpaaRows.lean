/-
  No cell of these rows narrows 'for every input' (looked for: loops, veiled, ifaces, maps, wideKeys, modest, calm, conditions, laid).
  DERIVED. THE GIVEN ROWS OF THIS SEAT. 12 by the template 'for every input the law returns true; each argument reads behind the call as it read before'; 0 by the template 'total and deterministic' (their statements: YtjnkcoaiccbmpaaTotals.lean).
  GIVEN WITH THE SEED: the statements are not yours to turn. If you find one false, say at which input.
  Laid BY PROGRAM, IN A SANDBOX (cutbox-rows.mjs): the forced cells as the released guide's own fill.sh prints them over the translation a978aafd557ac2bb… (all of the seat's roots in one cut). By AI agents, Wed Nov 11 2026. No macro, syntax, notation, axiom, sorry.
-/
import Derived.Test.YtjnkcoaiccbmpaaChecked
import GoSem.Claim
import GoSem.ClaimJoined
import GoSem.ClaimMapViews
import Derived.JoinedTies
import Derived.KernelRfl
namespace Go.Proofs.Ytjnkcoaiccbmpaa
/- THE CELL 'sum', in the pinned program and in every row, IS THE sha256 OF THE DUMP (.gsa) THAT YtjnkcoaiccbmpaaProg.lean LOADS. Nothing in Lean hashes anything: it is a label: what it is worth is what the hold of that sum in a sandbox is worth. -/
noncomputable def Try.pinned : Pinned := { name := "ytjnkcoaiccbmpaa", sum := "a978aafd557ac2bb0cc7219db5ede1c8460b11df132b6554590dbbdbde5aa0c8", checked := Try.checked }
namespace Rows
def none {H : Type} : Left H := { results := [], args := [] }

/-- 'laws.FnExactManyStmts': WHATEVER THE INPUT: true; the input reads as it did. -/
def fnExactManyStmtsSpec : ChangeSpec := { name := "fnExactManyStmts", fn := fun _ => fun
  | [d] => { results := [.lit (.bool true)], args := [d] }
  | _ => none }
def fnExactManyStmtsRow : OpenClaim := { program := "ytjnkcoaiccbmpaa", sum := "a978aafd557ac2bb0cc7219db5ede1c8460b11df132b6554590dbbdbde5aa0c8", func := "loop.example/g00745/laws.FnExactManyStmts", spec := "fnExactManyStmts", unfollowed := true, recurses := true, apart := false }
def FnExactManyStmtsSaid : Prop := fnExactManyStmtsRow.holds Try.pinned (OpenSpec.ofChange fnExactManyStmtsSpec)

/-- ITS FALSE NEIGHBOUR: 'it returns false'. Refute it at one input. -/
def fnExactManyStmtsWrong : ChangeSpec := { name := "fnExactManyStmts", fn := fun _ => fun
  | [d] => { results := [.lit (.bool false)], args := [d] }
  | _ => none }
def FnExactManyStmtsWrongFalsely : Prop := fnExactManyStmtsRow.holds Try.pinned (OpenSpec.ofChange fnExactManyStmtsWrong)

/-- 'laws.FnExactIsGuarded': WHATEVER THE INPUT: true; the input reads as it did. -/
def fnExactIsGuardedSpec : ChangeSpec := { name := "fnExactIsGuarded", fn := fun _ => fun
  | [d] => { results := [.lit (.bool true)], args := [d] }
  | _ => none }
def fnExactIsGuardedRow : OpenClaim := { program := "ytjnkcoaiccbmpaa", sum := "a978aafd557ac2bb0cc7219db5ede1c8460b11df132b6554590dbbdbde5aa0c8", func := "loop.example/g00745/laws.FnExactIsGuarded", spec := "fnExactIsGuarded", unfollowed := true, recurses := true, apart := false }
def FnExactIsGuardedSaid : Prop := fnExactIsGuardedRow.holds Try.pinned (OpenSpec.ofChange fnExactIsGuardedSpec)

/-- ITS FALSE NEIGHBOUR: 'it returns false'. Refute it at one input. -/
def fnExactIsGuardedWrong : ChangeSpec := { name := "fnExactIsGuarded", fn := fun _ => fun
  | [d] => { results := [.lit (.bool false)], args := [d] }
  | _ => none }
def FnExactIsGuardedWrongFalsely : Prop := fnExactIsGuardedRow.holds Try.pinned (OpenSpec.ofChange fnExactIsGuardedWrong)

/-- 'laws.FnExactHasLoop': WHATEVER THE INPUT: true; the input reads as it did. -/
def fnExactHasLoopSpec : ChangeSpec := { name := "fnExactHasLoop", fn := fun _ => fun
  | [d] => { results := [.lit (.bool true)], args := [d] }
  | _ => none }
def fnExactHasLoopRow : OpenClaim := { program := "ytjnkcoaiccbmpaa", sum := "a978aafd557ac2bb0cc7219db5ede1c8460b11df132b6554590dbbdbde5aa0c8", func := "loop.example/g00745/laws.FnExactHasLoop", spec := "fnExactHasLoop", unfollowed := true, recurses := true, apart := false }
def FnExactHasLoopSaid : Prop := fnExactHasLoopRow.holds Try.pinned (OpenSpec.ofChange fnExactHasLoopSpec)

/-- ITS FALSE NEIGHBOUR: 'it returns false'. Refute it at one input. -/
def fnExactHasLoopWrong : ChangeSpec := { name := "fnExactHasLoop", fn := fun _ => fun
  | [d] => { results := [.lit (.bool false)], args := [d] }
  | _ => none }
def FnExactHasLoopWrongFalsely : Prop := fnExactHasLoopRow.holds Try.pinned (OpenSpec.ofChange fnExactHasLoopWrong)

/-- 'laws.FnExactNeverExits': WHATEVER THE INPUT: true; the input reads as it did. -/
def fnExactNeverExitsSpec : ChangeSpec := { name := "fnExactNeverExits", fn := fun _ => fun
  | [d] => { results := [.lit (.bool true)], args := [d] }
  | _ => none }
def fnExactNeverExitsRow : OpenClaim := { program := "ytjnkcoaiccbmpaa", sum := "a978aafd557ac2bb0cc7219db5ede1c8460b11df132b6554590dbbdbde5aa0c8", func := "loop.example/g00745/laws.FnExactNeverExits", spec := "fnExactNeverExits", unfollowed := true, recurses := true, apart := false }
def FnExactNeverExitsSaid : Prop := fnExactNeverExitsRow.holds Try.pinned (OpenSpec.ofChange fnExactNeverExitsSpec)

/-- ITS FALSE NEIGHBOUR: 'it returns false'. Refute it at one input. -/
def fnExactNeverExitsWrong : ChangeSpec := { name := "fnExactNeverExits", fn := fun _ => fun
  | [d] => { results := [.lit (.bool false)], args := [d] }
  | _ => none }
def FnExactNeverExitsWrongFalsely : Prop := fnExactNeverExitsRow.holds Try.pinned (OpenSpec.ofChange fnExactNeverExitsWrong)

/-- 'laws.FnExactNeverPanics': WHATEVER THE INPUT: true; the input reads as it did. -/
def fnExactNeverPanicsSpec : ChangeSpec := { name := "fnExactNeverPanics", fn := fun _ => fun
  | [d] => { results := [.lit (.bool true)], args := [d] }
  | _ => none }
def fnExactNeverPanicsRow : OpenClaim := { program := "ytjnkcoaiccbmpaa", sum := "a978aafd557ac2bb0cc7219db5ede1c8460b11df132b6554590dbbdbde5aa0c8", func := "loop.example/g00745/laws.FnExactNeverPanics", spec := "fnExactNeverPanics", unfollowed := true, recurses := true, apart := false }
def FnExactNeverPanicsSaid : Prop := fnExactNeverPanicsRow.holds Try.pinned (OpenSpec.ofChange fnExactNeverPanicsSpec)

/-- ITS FALSE NEIGHBOUR: 'it returns false'. Refute it at one input. -/
def fnExactNeverPanicsWrong : ChangeSpec := { name := "fnExactNeverPanics", fn := fun _ => fun
  | [d] => { results := [.lit (.bool false)], args := [d] }
  | _ => none }
def FnExactNeverPanicsWrongFalsely : Prop := fnExactNeverPanicsRow.holds Try.pinned (OpenSpec.ofChange fnExactNeverPanicsWrong)

/-- 'laws.FnExactHasRound': WHATEVER THE INPUT: true; the input reads as it did. -/
def fnExactHasRoundSpec : ChangeSpec := { name := "fnExactHasRound", fn := fun _ => fun
  | [d] => { results := [.lit (.bool true)], args := [d] }
  | _ => none }
def fnExactHasRoundRow : OpenClaim := { program := "ytjnkcoaiccbmpaa", sum := "a978aafd557ac2bb0cc7219db5ede1c8460b11df132b6554590dbbdbde5aa0c8", func := "loop.example/g00745/laws.FnExactHasRound", spec := "fnExactHasRound", unfollowed := true, recurses := true, apart := false }
def FnExactHasRoundSaid : Prop := fnExactHasRoundRow.holds Try.pinned (OpenSpec.ofChange fnExactHasRoundSpec)

/-- ITS FALSE NEIGHBOUR: 'it returns false'. Refute it at one input. -/
def fnExactHasRoundWrong : ChangeSpec := { name := "fnExactHasRound", fn := fun _ => fun
  | [d] => { results := [.lit (.bool false)], args := [d] }
  | _ => none }
def FnExactHasRoundWrongFalsely : Prop := fnExactHasRoundRow.holds Try.pinned (OpenSpec.ofChange fnExactHasRoundWrong)

/-- 'laws.FnExactDeepestOf': WHATEVER THE INPUT: true; the input reads as it did. -/
def fnExactDeepestOfSpec : ChangeSpec := { name := "fnExactDeepestOf", fn := fun _ => fun
  | [d] => { results := [.lit (.bool true)], args := [d] }
  | _ => none }
def fnExactDeepestOfRow : OpenClaim := { program := "ytjnkcoaiccbmpaa", sum := "a978aafd557ac2bb0cc7219db5ede1c8460b11df132b6554590dbbdbde5aa0c8", func := "loop.example/g00745/laws.FnExactDeepestOf", spec := "fnExactDeepestOf", unfollowed := true, recurses := true, apart := false }
def FnExactDeepestOfSaid : Prop := fnExactDeepestOfRow.holds Try.pinned (OpenSpec.ofChange fnExactDeepestOfSpec)

/-- ITS FALSE NEIGHBOUR: 'it returns false'. Refute it at one input. -/
def fnExactDeepestOfWrong : ChangeSpec := { name := "fnExactDeepestOf", fn := fun _ => fun
  | [d] => { results := [.lit (.bool false)], args := [d] }
  | _ => none }
def FnExactDeepestOfWrongFalsely : Prop := fnExactDeepestOfRow.holds Try.pinned (OpenSpec.ofChange fnExactDeepestOfWrong)

/-- 'laws.FnExactReachFrom': WHATEVER THE INPUT: true; the input reads as it did. -/
def fnExactReachFromSpec : ChangeSpec := { name := "fnExactReachFrom", fn := fun _ => fun
  | [d1, d2] => { results := [.lit (.bool true)], args := [d1, d2] }
  | _ => none }
def fnExactReachFromRow : OpenClaim := { program := "ytjnkcoaiccbmpaa", sum := "a978aafd557ac2bb0cc7219db5ede1c8460b11df132b6554590dbbdbde5aa0c8", func := "loop.example/g00745/laws.FnExactReachFrom", spec := "fnExactReachFrom", unfollowed := true, recurses := true, apart := false }
def FnExactReachFromSaid : Prop := fnExactReachFromRow.holds Try.pinned (OpenSpec.ofChange fnExactReachFromSpec)

/-- ITS FALSE NEIGHBOUR: 'it returns false'. Refute it at one input. -/
def fnExactReachFromWrong : ChangeSpec := { name := "fnExactReachFrom", fn := fun _ => fun
  | [d1, d2] => { results := [.lit (.bool false)], args := [d1, d2] }
  | _ => none }
def FnExactReachFromWrongFalsely : Prop := fnExactReachFromRow.holds Try.pinned (OpenSpec.ofChange fnExactReachFromWrong)

/-- 'laws.FnExactUnusedIn': WHATEVER THE INPUT: true; the input reads as it did. -/
def fnExactUnusedInSpec : ChangeSpec := { name := "fnExactUnusedIn", fn := fun _ => fun
  | [d] => { results := [.lit (.bool true)], args := [d] }
  | _ => none }
def fnExactUnusedInRow : OpenClaim := { program := "ytjnkcoaiccbmpaa", sum := "a978aafd557ac2bb0cc7219db5ede1c8460b11df132b6554590dbbdbde5aa0c8", func := "loop.example/g00745/laws.FnExactUnusedIn", spec := "fnExactUnusedIn", unfollowed := true, recurses := true, apart := false }
def FnExactUnusedInSaid : Prop := fnExactUnusedInRow.holds Try.pinned (OpenSpec.ofChange fnExactUnusedInSpec)

/-- ITS FALSE NEIGHBOUR: 'it returns false'. Refute it at one input. -/
def fnExactUnusedInWrong : ChangeSpec := { name := "fnExactUnusedIn", fn := fun _ => fun
  | [d] => { results := [.lit (.bool false)], args := [d] }
  | _ => none }
def FnExactUnusedInWrongFalsely : Prop := fnExactUnusedInRow.holds Try.pinned (OpenSpec.ofChange fnExactUnusedInWrong)

/-- 'laws.FnExactFuelBound': WHATEVER THE INPUT: true; the input reads as it did. -/
def fnExactFuelBoundSpec : ChangeSpec := { name := "fnExactFuelBound", fn := fun _ => fun
  | [d] => { results := [.lit (.bool true)], args := [d] }
  | _ => none }
def fnExactFuelBoundRow : OpenClaim := { program := "ytjnkcoaiccbmpaa", sum := "a978aafd557ac2bb0cc7219db5ede1c8460b11df132b6554590dbbdbde5aa0c8", func := "loop.example/g00745/laws.FnExactFuelBound", spec := "fnExactFuelBound", unfollowed := true, recurses := true, apart := false }
def FnExactFuelBoundSaid : Prop := fnExactFuelBoundRow.holds Try.pinned (OpenSpec.ofChange fnExactFuelBoundSpec)

/-- ITS FALSE NEIGHBOUR: 'it returns false'. Refute it at one input. -/
def fnExactFuelBoundWrong : ChangeSpec := { name := "fnExactFuelBound", fn := fun _ => fun
  | [d] => { results := [.lit (.bool false)], args := [d] }
  | _ => none }
def FnExactFuelBoundWrongFalsely : Prop := fnExactFuelBoundRow.holds Try.pinned (OpenSpec.ofChange fnExactFuelBoundWrong)

/-- 'laws.FnExactMoveFuncs': WHATEVER THE INPUT: true; the input reads as it did. -/
def fnExactMoveFuncsSpec : ChangeSpec := { name := "fnExactMoveFuncs", fn := fun _ => fun
  | [d1, d2] => { results := [.lit (.bool true)], args := [d1, d2] }
  | _ => none }
def fnExactMoveFuncsRow : OpenClaim := { program := "ytjnkcoaiccbmpaa", sum := "a978aafd557ac2bb0cc7219db5ede1c8460b11df132b6554590dbbdbde5aa0c8", func := "loop.example/g00745/laws.FnExactMoveFuncs", spec := "fnExactMoveFuncs", unfollowed := true, recurses := true, apart := false }
def FnExactMoveFuncsSaid : Prop := fnExactMoveFuncsRow.holds Try.pinned (OpenSpec.ofChange fnExactMoveFuncsSpec)

/-- ITS FALSE NEIGHBOUR: 'it returns false'. Refute it at one input. -/
def fnExactMoveFuncsWrong : ChangeSpec := { name := "fnExactMoveFuncs", fn := fun _ => fun
  | [d1, d2] => { results := [.lit (.bool false)], args := [d1, d2] }
  | _ => none }
def FnExactMoveFuncsWrongFalsely : Prop := fnExactMoveFuncsRow.holds Try.pinned (OpenSpec.ofChange fnExactMoveFuncsWrong)

/-- 'laws.FnExactGuardProg': WHATEVER THE INPUT: true; the input reads as it did. -/
def fnExactGuardProgSpec : ChangeSpec := { name := "fnExactGuardProg", fn := fun _ => fun
  | [d] => { results := [.lit (.bool true)], args := [d] }
  | _ => none }
def fnExactGuardProgRow : OpenClaim := { program := "ytjnkcoaiccbmpaa", sum := "a978aafd557ac2bb0cc7219db5ede1c8460b11df132b6554590dbbdbde5aa0c8", func := "loop.example/g00745/laws.FnExactGuardProg", spec := "fnExactGuardProg", unfollowed := true, recurses := true, apart := false }
def FnExactGuardProgSaid : Prop := fnExactGuardProgRow.holds Try.pinned (OpenSpec.ofChange fnExactGuardProgSpec)

/-- ITS FALSE NEIGHBOUR: 'it returns false'. Refute it at one input. -/
def fnExactGuardProgWrong : ChangeSpec := { name := "fnExactGuardProg", fn := fun _ => fun
  | [d] => { results := [.lit (.bool false)], args := [d] }
  | _ => none }
def FnExactGuardProgWrongFalsely : Prop := fnExactGuardProgRow.holds Try.pinned (OpenSpec.ofChange fnExactGuardProgWrong)

/- THE SECOND FORM. 'bulk': how many values and letters a reading holds, each counted each time it is reached (what is shared counts as often as it is met; a slice's spare places count too). A statement '..UptoSaid' is the law's where the arguments, and the package variables that the reading takes, are together of bulk at most 1048576: NARROWER than '..Said'. Prove '..Said' where nothing that the law and all that it calls make is longer than what came in: it says more and counts as full. Else prove '..UptoSaid'. A law counts once. -/
mutual
def uptoBulk {H : Type} : DataW H → Nat
  | .lit (.string bytes) => bytes.length + 1
  | .lit _ => 1
  | .nil => 1
  | .ptr d => uptoBulk d + 1
  | .slice elems spare => uptoBulkAll elems + uptoBulkAll spare + 1
  | .agg parts => uptoBulkAll parts + 1
  | .iface _ d => uptoBulk d + 1
  | .map entries => uptoBulkEntries entries + 1
  | .held _ => 1
def uptoBulkAll {H : Type} : List (DataW H) → Nat
  | [] => 0
  | d :: r => uptoBulk d + uptoBulkAll r
def uptoBulkEntries {H : Type} : List (Lit × DataW H) → Nat
  | [] => 0
  | x :: r => uptoBulkEntry x + uptoBulkEntries r
def uptoBulkEntry {H : Type} : Lit × DataW H → Nat
  | (.string bytes, d) => bytes.length + uptoBulk d + 1
  | (_, d) => uptoBulk d + 1
 end
def uptoSmall : (H : Type) → List (DataW H) → Bool := fun _ ds => decide (uptoBulkAll ds ≤ 1048576)
def OpenSpec.upto (s : _root_.Go.ChangeSpec) : _root_.Go.OpenSpec := { _root_.Go.OpenSpec.ofChange s with cond := some uptoSmall }

/-- 'laws.FnExactManyStmts', WHERE WHAT IT READS IS OF BULK AT MOST 1048576: true; the input reads as it did. -/
def fnExactManyStmtsUptoRow : OpenClaim := { program := "ytjnkcoaiccbmpaa", sum := "a978aafd557ac2bb0cc7219db5ede1c8460b11df132b6554590dbbdbde5aa0c8", func := "loop.example/g00745/laws.FnExactManyStmts", spec := "fnExactManyStmts", unfollowed := true, recurses := true, apart := false, narrowed := true }
def FnExactManyStmtsUptoSaid : Prop := fnExactManyStmtsUptoRow.holds Try.pinned (OpenSpec.upto fnExactManyStmtsSpec)

/-- 'laws.FnExactIsGuarded', WHERE WHAT IT READS IS OF BULK AT MOST 1048576: true; the input reads as it did. -/
def fnExactIsGuardedUptoRow : OpenClaim := { program := "ytjnkcoaiccbmpaa", sum := "a978aafd557ac2bb0cc7219db5ede1c8460b11df132b6554590dbbdbde5aa0c8", func := "loop.example/g00745/laws.FnExactIsGuarded", spec := "fnExactIsGuarded", unfollowed := true, recurses := true, apart := false, narrowed := true }
def FnExactIsGuardedUptoSaid : Prop := fnExactIsGuardedUptoRow.holds Try.pinned (OpenSpec.upto fnExactIsGuardedSpec)

/-- 'laws.FnExactHasLoop', WHERE WHAT IT READS IS OF BULK AT MOST 1048576: true; the input reads as it did. -/
def fnExactHasLoopUptoRow : OpenClaim := { program := "ytjnkcoaiccbmpaa", sum := "a978aafd557ac2bb0cc7219db5ede1c8460b11df132b6554590dbbdbde5aa0c8", func := "loop.example/g00745/laws.FnExactHasLoop", spec := "fnExactHasLoop", unfollowed := true, recurses := true, apart := false, narrowed := true }
def FnExactHasLoopUptoSaid : Prop := fnExactHasLoopUptoRow.holds Try.pinned (OpenSpec.upto fnExactHasLoopSpec)

/-- 'laws.FnExactNeverExits', WHERE WHAT IT READS IS OF BULK AT MOST 1048576: true; the input reads as it did. -/
def fnExactNeverExitsUptoRow : OpenClaim := { program := "ytjnkcoaiccbmpaa", sum := "a978aafd557ac2bb0cc7219db5ede1c8460b11df132b6554590dbbdbde5aa0c8", func := "loop.example/g00745/laws.FnExactNeverExits", spec := "fnExactNeverExits", unfollowed := true, recurses := true, apart := false, narrowed := true }
def FnExactNeverExitsUptoSaid : Prop := fnExactNeverExitsUptoRow.holds Try.pinned (OpenSpec.upto fnExactNeverExitsSpec)

/-- 'laws.FnExactNeverPanics', WHERE WHAT IT READS IS OF BULK AT MOST 1048576: true; the input reads as it did. -/
def fnExactNeverPanicsUptoRow : OpenClaim := { program := "ytjnkcoaiccbmpaa", sum := "a978aafd557ac2bb0cc7219db5ede1c8460b11df132b6554590dbbdbde5aa0c8", func := "loop.example/g00745/laws.FnExactNeverPanics", spec := "fnExactNeverPanics", unfollowed := true, recurses := true, apart := false, narrowed := true }
def FnExactNeverPanicsUptoSaid : Prop := fnExactNeverPanicsUptoRow.holds Try.pinned (OpenSpec.upto fnExactNeverPanicsSpec)

/-- 'laws.FnExactHasRound', WHERE WHAT IT READS IS OF BULK AT MOST 1048576: true; the input reads as it did. -/
def fnExactHasRoundUptoRow : OpenClaim := { program := "ytjnkcoaiccbmpaa", sum := "a978aafd557ac2bb0cc7219db5ede1c8460b11df132b6554590dbbdbde5aa0c8", func := "loop.example/g00745/laws.FnExactHasRound", spec := "fnExactHasRound", unfollowed := true, recurses := true, apart := false, narrowed := true }
def FnExactHasRoundUptoSaid : Prop := fnExactHasRoundUptoRow.holds Try.pinned (OpenSpec.upto fnExactHasRoundSpec)

/-- 'laws.FnExactDeepestOf', WHERE WHAT IT READS IS OF BULK AT MOST 1048576: true; the input reads as it did. -/
def fnExactDeepestOfUptoRow : OpenClaim := { program := "ytjnkcoaiccbmpaa", sum := "a978aafd557ac2bb0cc7219db5ede1c8460b11df132b6554590dbbdbde5aa0c8", func := "loop.example/g00745/laws.FnExactDeepestOf", spec := "fnExactDeepestOf", unfollowed := true, recurses := true, apart := false, narrowed := true }
def FnExactDeepestOfUptoSaid : Prop := fnExactDeepestOfUptoRow.holds Try.pinned (OpenSpec.upto fnExactDeepestOfSpec)

/-- 'laws.FnExactReachFrom', WHERE WHAT IT READS IS OF BULK AT MOST 1048576: true; the input reads as it did. -/
def fnExactReachFromUptoRow : OpenClaim := { program := "ytjnkcoaiccbmpaa", sum := "a978aafd557ac2bb0cc7219db5ede1c8460b11df132b6554590dbbdbde5aa0c8", func := "loop.example/g00745/laws.FnExactReachFrom", spec := "fnExactReachFrom", unfollowed := true, recurses := true, apart := false, narrowed := true }
def FnExactReachFromUptoSaid : Prop := fnExactReachFromUptoRow.holds Try.pinned (OpenSpec.upto fnExactReachFromSpec)

/-- 'laws.FnExactUnusedIn', WHERE WHAT IT READS IS OF BULK AT MOST 1048576: true; the input reads as it did. -/
def fnExactUnusedInUptoRow : OpenClaim := { program := "ytjnkcoaiccbmpaa", sum := "a978aafd557ac2bb0cc7219db5ede1c8460b11df132b6554590dbbdbde5aa0c8", func := "loop.example/g00745/laws.FnExactUnusedIn", spec := "fnExactUnusedIn", unfollowed := true, recurses := true, apart := false, narrowed := true }
def FnExactUnusedInUptoSaid : Prop := fnExactUnusedInUptoRow.holds Try.pinned (OpenSpec.upto fnExactUnusedInSpec)

/-- 'laws.FnExactFuelBound', WHERE WHAT IT READS IS OF BULK AT MOST 1048576: true; the input reads as it did. -/
def fnExactFuelBoundUptoRow : OpenClaim := { program := "ytjnkcoaiccbmpaa", sum := "a978aafd557ac2bb0cc7219db5ede1c8460b11df132b6554590dbbdbde5aa0c8", func := "loop.example/g00745/laws.FnExactFuelBound", spec := "fnExactFuelBound", unfollowed := true, recurses := true, apart := false, narrowed := true }
def FnExactFuelBoundUptoSaid : Prop := fnExactFuelBoundUptoRow.holds Try.pinned (OpenSpec.upto fnExactFuelBoundSpec)

/-- 'laws.FnExactMoveFuncs', WHERE WHAT IT READS IS OF BULK AT MOST 1048576: true; the input reads as it did. -/
def fnExactMoveFuncsUptoRow : OpenClaim := { program := "ytjnkcoaiccbmpaa", sum := "a978aafd557ac2bb0cc7219db5ede1c8460b11df132b6554590dbbdbde5aa0c8", func := "loop.example/g00745/laws.FnExactMoveFuncs", spec := "fnExactMoveFuncs", unfollowed := true, recurses := true, apart := false, narrowed := true }
def FnExactMoveFuncsUptoSaid : Prop := fnExactMoveFuncsUptoRow.holds Try.pinned (OpenSpec.upto fnExactMoveFuncsSpec)

/-- 'laws.FnExactGuardProg', WHERE WHAT IT READS IS OF BULK AT MOST 1048576: true; the input reads as it did. -/
def fnExactGuardProgUptoRow : OpenClaim := { program := "ytjnkcoaiccbmpaa", sum := "a978aafd557ac2bb0cc7219db5ede1c8460b11df132b6554590dbbdbde5aa0c8", func := "loop.example/g00745/laws.FnExactGuardProg", spec := "fnExactGuardProg", unfollowed := true, recurses := true, apart := false, narrowed := true }
def FnExactGuardProgUptoSaid : Prop := fnExactGuardProgUptoRow.holds Try.pinned (OpenSpec.upto fnExactGuardProgSpec)

end Rows
end Go.Proofs.Ytjnkcoaiccbmpaa
