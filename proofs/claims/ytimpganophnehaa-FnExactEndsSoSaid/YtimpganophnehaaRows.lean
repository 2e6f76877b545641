/-
  No cell of these rows narrows 'for every input' (looked for: loops, veiled, ifaces, maps, wideKeys, modest, calm, conditions, laid).
  DERIVED. THE GIVEN ROWS OF THIS SEAT. 3 by the template 'for every input the law returns true; each argument reads behind the call as it read before'; 0 by the template 'total and deterministic' (their statements: YtimpganophnehaaTotals.lean).
  GIVEN WITH THE SEED: the statements are not yours to turn. If you find one false, say at which input.
  Laid BY PROGRAM, IN A SANDBOX (cutbox-rows.mjs): the forced cells as the released guide's own fill.sh prints them over the translation 950da975ac9dd555… (all of the seat's roots in one cut). By AI agents, Wed Nov 11 2026. No macro, syntax, notation, axiom, sorry.
-/
import Derived.Test.YtimpganophnehaaChecked
import GoSem.Claim
import GoSem.ClaimJoined
import GoSem.ClaimMapViews
import Derived.JoinedTies
import Derived.KernelRfl
namespace Go.Proofs.Ytimpganophnehaa
/- THE CELL 'sum', in the pinned program and in every row, IS THE sha256 OF THE DUMP (.gsa) THAT YtimpganophnehaaProg.lean LOADS. Nothing in Lean hashes anything: it is a label: what it is worth is what the hold of that sum in a sandbox is worth. -/
noncomputable def Try.pinned : Pinned := { name := "ytimpganophnehaa", sum := "950da975ac9dd555ad2decf6298a00aef42173fdc10df527f632d1b71af8ed3f", checked := Try.checked }
namespace Rows
def none {H : Type} : Left H := { results := [], args := [] }

/-- 'laws.FnExactDropStmt': WHATEVER THE INPUT: true; the input reads as it did. -/
def fnExactDropStmtSpec : ChangeSpec := { name := "fnExactDropStmt", fn := fun _ => fun
  | [d1, d2, d3] => { results := [.lit (.bool true)], args := [d1, d2, d3] }
  | _ => none }
def fnExactDropStmtRow : OpenClaim := { program := "ytimpganophnehaa", sum := "950da975ac9dd555ad2decf6298a00aef42173fdc10df527f632d1b71af8ed3f", func := "loop.example/g00745/laws.FnExactDropStmt", spec := "fnExactDropStmt", unfollowed := true, recurses := true, apart := false }
def FnExactDropStmtSaid : Prop := fnExactDropStmtRow.holds Try.pinned (OpenSpec.ofChange fnExactDropStmtSpec)

/-- ITS FALSE NEIGHBOUR: 'it returns false'. Refute it at one input. -/
def fnExactDropStmtWrong : ChangeSpec := { name := "fnExactDropStmt", fn := fun _ => fun
  | [d1, d2, d3] => { results := [.lit (.bool false)], args := [d1, d2, d3] }
  | _ => none }
def FnExactDropStmtWrongFalsely : Prop := fnExactDropStmtRow.holds Try.pinned (OpenSpec.ofChange fnExactDropStmtWrong)

/-- 'laws.FnExactDropUnused': WHATEVER THE INPUT: true; the input reads as it did. -/
def fnExactDropUnusedSpec : ChangeSpec := { name := "fnExactDropUnused", fn := fun _ => fun
  | [d] => { results := [.lit (.bool true)], args := [d] }
  | _ => none }
def fnExactDropUnusedRow : OpenClaim := { program := "ytimpganophnehaa", sum := "950da975ac9dd555ad2decf6298a00aef42173fdc10df527f632d1b71af8ed3f", func := "loop.example/g00745/laws.FnExactDropUnused", spec := "fnExactDropUnused", unfollowed := true, recurses := true, apart := false }
def FnExactDropUnusedSaid : Prop := fnExactDropUnusedRow.holds Try.pinned (OpenSpec.ofChange fnExactDropUnusedSpec)

/-- ITS FALSE NEIGHBOUR: 'it returns false'. Refute it at one input. -/
def fnExactDropUnusedWrong : ChangeSpec := { name := "fnExactDropUnused", fn := fun _ => fun
  | [d] => { results := [.lit (.bool false)], args := [d] }
  | _ => none }
def FnExactDropUnusedWrongFalsely : Prop := fnExactDropUnusedRow.holds Try.pinned (OpenSpec.ofChange fnExactDropUnusedWrong)

/-- 'laws.FnExactEndsSo': WHATEVER THE INPUT: true; the input reads as it did. -/
def fnExactEndsSoSpec : ChangeSpec := { name := "fnExactEndsSo", fn := fun _ => fun
  | [d1, d2, d3, d4] => { results := [.lit (.bool true)], args := [d1, d2, d3, d4] }
  | _ => none }
def fnExactEndsSoRow : OpenClaim := { program := "ytimpganophnehaa", sum := "950da975ac9dd555ad2decf6298a00aef42173fdc10df527f632d1b71af8ed3f", func := "loop.example/g00745/laws.FnExactEndsSo", spec := "fnExactEndsSo", unfollowed := true, recurses := true, apart := false }
def FnExactEndsSoSaid : Prop := fnExactEndsSoRow.holds Try.pinned (OpenSpec.ofChange fnExactEndsSoSpec)

/-- ITS FALSE NEIGHBOUR: 'it returns false'. Refute it at one input. -/
def fnExactEndsSoWrong : ChangeSpec := { name := "fnExactEndsSo", fn := fun _ => fun
  | [d1, d2, d3, d4] => { results := [.lit (.bool false)], args := [d1, d2, d3, d4] }
  | _ => none }
def FnExactEndsSoWrongFalsely : Prop := fnExactEndsSoRow.holds Try.pinned (OpenSpec.ofChange fnExactEndsSoWrong)

/- THE SECOND FORM. 'bulk': how many values and letters a reading holds, each counted each time it is reached (what is shared counts as often as it is met; a slice's spare places count too). A statement '..UptoSaid' is the law's where the arguments, and the package variables that the reading takes, are together of bulk at most 1048576: NARROWER than '..Said'. Prove '..Said' where nothing that the law and all that it calls make is longer than what came in: it says more and counts as full. Else prove '..UptoSaid'. A law counts once. -/
mutual
def uptoBulk {H : Type} : DataW H → Nat
  | .lit (.string bytes) => bytes.length + 1
  | .lit _ => 1
  | .nil => 1
  | .ptr d => uptoBulk d + 1
  | .slice elems spare => uptoBulkAll elems + uptoBulkAll spare + 1
  | .agg parts => uptoBulkAll parts + 1
  | .iface _ d => uptoBulk d + 1
  | .map entries => uptoBulkEntries entries + 1
  | .held _ => 1
def uptoBulkAll {H : Type} : List (DataW H) → Nat
  | [] => 0
  | d :: r => uptoBulk d + uptoBulkAll r
def uptoBulkEntries {H : Type} : List (Lit × DataW H) → Nat
  | [] => 0
  | x :: r => uptoBulkEntry x + uptoBulkEntries r
def uptoBulkEntry {H : Type} : Lit × DataW H → Nat
  | (.string bytes, d) => bytes.length + uptoBulk d + 1
  | (_, d) => uptoBulk d + 1
 end
def uptoSmall : (H : Type) → List (DataW H) → Bool := fun _ ds => decide (uptoBulkAll ds ≤ 1048576)
def OpenSpec.upto (s : _root_.Go.ChangeSpec) : _root_.Go.OpenSpec := { _root_.Go.OpenSpec.ofChange s with cond := some uptoSmall }

/-- 'laws.FnExactDropStmt', WHERE WHAT IT READS IS OF BULK AT MOST 1048576: true; the input reads as it did. -/
def fnExactDropStmtUptoRow : OpenClaim := { program := "ytimpganophnehaa", sum := "950da975ac9dd555ad2decf6298a00aef42173fdc10df527f632d1b71af8ed3f", func := "loop.example/g00745/laws.FnExactDropStmt", spec := "fnExactDropStmt", unfollowed := true, recurses := true, apart := false, narrowed := true }
def FnExactDropStmtUptoSaid : Prop := fnExactDropStmtUptoRow.holds Try.pinned (OpenSpec.upto fnExactDropStmtSpec)

/-- 'laws.FnExactDropUnused', WHERE WHAT IT READS IS OF BULK AT MOST 1048576: true; the input reads as it did. -/
def fnExactDropUnusedUptoRow : OpenClaim := { program := "ytimpganophnehaa", sum := "950da975ac9dd555ad2decf6298a00aef42173fdc10df527f632d1b71af8ed3f", func := "loop.example/g00745/laws.FnExactDropUnused", spec := "fnExactDropUnused", unfollowed := true, recurses := true, apart := false, narrowed := true }
def FnExactDropUnusedUptoSaid : Prop := fnExactDropUnusedUptoRow.holds Try.pinned (OpenSpec.upto fnExactDropUnusedSpec)

/-- 'laws.FnExactEndsSo', WHERE WHAT IT READS IS OF BULK AT MOST 1048576: true; the input reads as it did. -/
def fnExactEndsSoUptoRow : OpenClaim := { program := "ytimpganophnehaa", sum := "950da975ac9dd555ad2decf6298a00aef42173fdc10df527f632d1b71af8ed3f", func := "loop.example/g00745/laws.FnExactEndsSo", spec := "fnExactEndsSo", unfollowed := true, recurses := true, apart := false, narrowed := true }
def FnExactEndsSoUptoSaid : Prop := fnExactEndsSoUptoRow.holds Try.pinned (OpenSpec.upto fnExactEndsSoSpec)

end Rows
end Go.Proofs.Ytimpganophnehaa
