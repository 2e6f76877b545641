/-
  No cell of these rows narrows 'for every input' (looked for: loops, veiled, ifaces, maps, wideKeys, modest, calm, conditions, laid).
  DERIVED. THE GIVEN ROWS OF THIS SEAT. 4 by the template 'for every input the law returns true; each argument reads behind the call as it read before'; 0 by the template 'total and deterministic' (their statements: YtimpganophnehaaGreatTotals.lean).
  GIVEN WITH THE SEED: the statements are not yours to turn. If you find one false, say at which input.
  Laid BY PROGRAM, IN A SANDBOX (cutbox-rows.mjs): the forced cells as the released guide's own fill.sh prints them over the translation 15a8f8c0e7821fc7… (all of the seat's roots in one cut). By AI agents, Wed Nov 11 2026. No macro, syntax, notation, axiom, sorry.
-/
import Derived.Test.YtimpganophnehaaGreatChecked
import GoSem.Claim
import GoSem.ClaimJoined
import GoSem.ClaimMapViews
import Derived.JoinedTies
import Derived.KernelRfl
namespace Go.Proofs.YtimpganophnehaaGreat
/- THE CELL 'sum', in the pinned program and in every row, IS THE sha256 OF THE DUMP (.gsa) THAT YtimpganophnehaaGreatProg.lean LOADS. Nothing in Lean hashes anything: it is a label: what it is worth is what the hold of that sum in a sandbox is worth. -/
noncomputable def Tryz.pinned : Pinned := { name := "ytimpganophnehaagreat", sum := "15a8f8c0e7821fc7180a9a3229797c16c7ee8203126f97c9bcd3614d2c1a7f34", checked := Tryz.checked }
namespace Rows
def none {H : Type} : Left H := { results := [], args := [] }

/-- 'laws.FnExactIsLeastProg': WHATEVER THE INPUT: true; the input reads as it did. -/
def fnExactIsLeastProgSpec : ChangeSpec := { name := "fnExactIsLeastProg", fn := fun _ => fun
  | [d1, d2, d3, d4] => { results := [.lit (.bool true)], args := [d1, d2, d3, d4] }
  | _ => none }
def fnExactIsLeastProgRow : OpenClaim := { program := "ytimpganophnehaagreat", sum := "15a8f8c0e7821fc7180a9a3229797c16c7ee8203126f97c9bcd3614d2c1a7f34", func := "loop.example/g00745/laws.FnExactIsLeastProg", spec := "fnExactIsLeastProg", unfollowed := true, recurses := true, apart := false }
def FnExactIsLeastProgSaid : Prop := fnExactIsLeastProgRow.holds Tryz.pinned (OpenSpec.ofChange fnExactIsLeastProgSpec)

/-- ITS FALSE NEIGHBOUR: 'it returns false'. Refute it at one input. -/
def fnExactIsLeastProgWrong : ChangeSpec := { name := "fnExactIsLeastProg", fn := fun _ => fun
  | [d1, d2, d3, d4] => { results := [.lit (.bool false)], args := [d1, d2, d3, d4] }
  | _ => none }
def FnExactIsLeastProgWrongFalsely : Prop := fnExactIsLeastProgRow.holds Tryz.pinned (OpenSpec.ofChange fnExactIsLeastProgWrong)

/-- 'laws.FnExactMissedIn': WHATEVER THE INPUT: true; the input reads as it did. -/
def fnExactMissedInSpec : ChangeSpec := { name := "fnExactMissedIn", fn := fun _ => fun
  | [d1, d2, d3] => { results := [.lit (.bool true)], args := [d1, d2, d3] }
  | _ => none }
def fnExactMissedInRow : OpenClaim := { program := "ytimpganophnehaagreat", sum := "15a8f8c0e7821fc7180a9a3229797c16c7ee8203126f97c9bcd3614d2c1a7f34", func := "loop.example/g00745/laws.FnExactMissedIn", spec := "fnExactMissedIn", unfollowed := true, recurses := true, apart := false }
def FnExactMissedInSaid : Prop := fnExactMissedInRow.holds Tryz.pinned (OpenSpec.ofChange fnExactMissedInSpec)

/-- ITS FALSE NEIGHBOUR: 'it returns false'. Refute it at one input. -/
def fnExactMissedInWrong : ChangeSpec := { name := "fnExactMissedIn", fn := fun _ => fun
  | [d1, d2, d3] => { results := [.lit (.bool false)], args := [d1, d2, d3] }
  | _ => none }
def FnExactMissedInWrongFalsely : Prop := fnExactMissedInRow.holds Tryz.pinned (OpenSpec.ofChange fnExactMissedInWrong)

/-- 'laws.FnExactShrinkProg': WHATEVER THE INPUT: true; the input reads as it did. -/
def fnExactShrinkProgSpec : ChangeSpec := { name := "fnExactShrinkProg", fn := fun _ => fun
  | [d1, d2, d3, d4] => { results := [.lit (.bool true)], args := [d1, d2, d3, d4] }
  | _ => none }
def fnExactShrinkProgRow : OpenClaim := { program := "ytimpganophnehaagreat", sum := "15a8f8c0e7821fc7180a9a3229797c16c7ee8203126f97c9bcd3614d2c1a7f34", func := "loop.example/g00745/laws.FnExactShrinkProg", spec := "fnExactShrinkProg", unfollowed := true, recurses := true, apart := false }
def FnExactShrinkProgSaid : Prop := fnExactShrinkProgRow.holds Tryz.pinned (OpenSpec.ofChange fnExactShrinkProgSpec)

/-- ITS FALSE NEIGHBOUR: 'it returns false'. Refute it at one input. -/
def fnExactShrinkProgWrong : ChangeSpec := { name := "fnExactShrinkProg", fn := fun _ => fun
  | [d1, d2, d3, d4] => { results := [.lit (.bool false)], args := [d1, d2, d3, d4] }
  | _ => none }
def FnExactShrinkProgWrongFalsely : Prop := fnExactShrinkProgRow.holds Tryz.pinned (OpenSpec.ofChange fnExactShrinkProgWrong)

/-- 'laws.FnExactCountRun': WHATEVER THE INPUT: true; the input reads as it did. -/
def fnExactCountRunSpec : ChangeSpec := { name := "fnExactCountRun", fn := fun _ => fun
  | [d1, d2, d3, d4] => { results := [.lit (.bool true)], args := [d1, d2, d3, d4] }
  | _ => none }
def fnExactCountRunRow : OpenClaim := { program := "ytimpganophnehaagreat", sum := "15a8f8c0e7821fc7180a9a3229797c16c7ee8203126f97c9bcd3614d2c1a7f34", func := "loop.example/g00745/laws.FnExactCountRun", spec := "fnExactCountRun", unfollowed := true, recurses := true, apart := false }
def FnExactCountRunSaid : Prop := fnExactCountRunRow.holds Tryz.pinned (OpenSpec.ofChange fnExactCountRunSpec)

/-- ITS FALSE NEIGHBOUR: 'it returns false'. Refute it at one input. -/
def fnExactCountRunWrong : ChangeSpec := { name := "fnExactCountRun", fn := fun _ => fun
  | [d1, d2, d3, d4] => { results := [.lit (.bool false)], args := [d1, d2, d3, d4] }
  | _ => none }
def FnExactCountRunWrongFalsely : Prop := fnExactCountRunRow.holds Tryz.pinned (OpenSpec.ofChange fnExactCountRunWrong)

/- THE SECOND FORM. 'bulk': how many values and letters a reading holds, each counted each time it is reached (what is shared counts as often as it is met; a slice's spare places count too). A statement '..UptoSaid' is the law's where the arguments, and the package variables that the reading takes, are together of bulk at most 1048576: NARROWER than '..Said'. Prove '..Said' where nothing that the law and all that it calls make is longer than what came in: it says more and counts as full. Else prove '..UptoSaid'. A law counts once. -/
mutual
def uptoBulk {H : Type} : DataW H → Nat
  | .lit (.string bytes) => bytes.length + 1
  | .lit _ => 1
  | .nil => 1
  | .ptr d => uptoBulk d + 1
  | .slice elems spare => uptoBulkAll elems + uptoBulkAll spare + 1
  | .agg parts => uptoBulkAll parts + 1
  | .iface _ d => uptoBulk d + 1
  | .map entries => uptoBulkEntries entries + 1
  | .held _ => 1
def uptoBulkAll {H : Type} : List (DataW H) → Nat
  | [] => 0
  | d :: r => uptoBulk d + uptoBulkAll r
def uptoBulkEntries {H : Type} : List (Lit × DataW H) → Nat
  | [] => 0
  | x :: r => uptoBulkEntry x + uptoBulkEntries r
def uptoBulkEntry {H : Type} : Lit × DataW H → Nat
  | (.string bytes, d) => bytes.length + uptoBulk d + 1
  | (_, d) => uptoBulk d + 1
 end
def uptoSmall : (H : Type) → List (DataW H) → Bool := fun _ ds => decide (uptoBulkAll ds ≤ 1048576)
def OpenSpec.upto (s : _root_.Go.ChangeSpec) : _root_.Go.OpenSpec := { _root_.Go.OpenSpec.ofChange s with cond := some uptoSmall }

/-- 'laws.FnExactIsLeastProg', WHERE WHAT IT READS IS OF BULK AT MOST 1048576: true; the input reads as it did. -/
def fnExactIsLeastProgUptoRow : OpenClaim := { program := "ytimpganophnehaagreat", sum := "15a8f8c0e7821fc7180a9a3229797c16c7ee8203126f97c9bcd3614d2c1a7f34", func := "loop.example/g00745/laws.FnExactIsLeastProg", spec := "fnExactIsLeastProg", unfollowed := true, recurses := true, apart := false, narrowed := true }
def FnExactIsLeastProgUptoSaid : Prop := fnExactIsLeastProgUptoRow.holds Tryz.pinned (OpenSpec.upto fnExactIsLeastProgSpec)

/-- 'laws.FnExactMissedIn', WHERE WHAT IT READS IS OF BULK AT MOST 1048576: true; the input reads as it did. -/
def fnExactMissedInUptoRow : OpenClaim := { program := "ytimpganophnehaagreat", sum := "15a8f8c0e7821fc7180a9a3229797c16c7ee8203126f97c9bcd3614d2c1a7f34", func := "loop.example/g00745/laws.FnExactMissedIn", spec := "fnExactMissedIn", unfollowed := true, recurses := true, apart := false, narrowed := true }
def FnExactMissedInUptoSaid : Prop := fnExactMissedInUptoRow.holds Tryz.pinned (OpenSpec.upto fnExactMissedInSpec)

/-- 'laws.FnExactShrinkProg', WHERE WHAT IT READS IS OF BULK AT MOST 1048576: true; the input reads as it did. -/
def fnExactShrinkProgUptoRow : OpenClaim := { program := "ytimpganophnehaagreat", sum := "15a8f8c0e7821fc7180a9a3229797c16c7ee8203126f97c9bcd3614d2c1a7f34", func := "loop.example/g00745/laws.FnExactShrinkProg", spec := "fnExactShrinkProg", unfollowed := true, recurses := true, apart := false, narrowed := true }
def FnExactShrinkProgUptoSaid : Prop := fnExactShrinkProgUptoRow.holds Tryz.pinned (OpenSpec.upto fnExactShrinkProgSpec)

/-- 'laws.FnExactCountRun', WHERE WHAT IT READS IS OF BULK AT MOST 1048576: true; the input reads as it did. -/
def fnExactCountRunUptoRow : OpenClaim := { program := "ytimpganophnehaagreat", sum := "15a8f8c0e7821fc7180a9a3229797c16c7ee8203126f97c9bcd3614d2c1a7f34", func := "loop.example/g00745/laws.FnExactCountRun", spec := "fnExactCountRun", unfollowed := true, recurses := true, apart := false, narrowed := true }
def FnExactCountRunUptoSaid : Prop := fnExactCountRunUptoRow.holds Tryz.pinned (OpenSpec.upto fnExactCountRunSpec)

end Rows
end Go.Proofs.YtimpganophnehaaGreat
