/-
  DERIVED. GIVEN WITH THE SEED: THE CARDS: each row of YthinnpkpafmbcaaGreatDoorRows.lean that lists a variable, with what it lists TIED to the program's text (the seventh form; the later family's looks); each row that meets fmt, with fmt's text TOLD by the authors' own Lean function (tested against real Go, not proved from fmt's source: count such statements apart). THE CARD IS WHAT COUNTS. Prove the row's statement (the work); the ties are given (YthinnpkpafmbcaaGreatDoorTie.lean); close each card by the builder's one call (the guide's Derived/Test/ToyasCard.lean, 'card_holds'). Laid BY PROGRAM, IN A SANDBOX (cutbox-door.mjs). By AI agents, Wed Nov 11 2026. No macro, syntax, notation, axiom, sorry.
-/
import Derived.Test.YthinnpkpafmbcaaGreatDoorRows
import GoSem.ClaimSeven
namespace Go.Proofs.YthinnpkpafmbcaaGreatDoor
namespace Rows

/-- THE TIED CARD OF 'laws.FnExactReadList'. -/
def fnExactReadListCard : Claim7 := { stood := { row := fnExactReadListRow, standIns := [], harness := (true, "6cd126451fa01d9b3399d5c02d3c3e96e9cca27fce1bff19e2fb7610cbbb9265"), looks := true }, kinds := [], alts := [], laidByText := true, laidKinds := [.data, .data, .data, .data, .sentinel, .sentinel, .widerDeep, .pinned], laidTests := true, laidLooks := .later }
def FnExactReadListCardSaid : Prop := Claim7.holds Tryz.pinned (.plain (OpenSpec.ofChange fnExactReadListSpec)) fnExactReadListCard

/-- THE TIED CARD OF 'laws.FnExactReadProg'. -/
def fnExactReadProgCard : Claim7 := { stood := { row := fnExactReadProgRow, standIns := [], harness := (true, "6cd126451fa01d9b3399d5c02d3c3e96e9cca27fce1bff19e2fb7610cbbb9265"), looks := true }, kinds := [], alts := [], laidByText := true, laidKinds := [.data, .data, .data, .data, .sentinel, .sentinel, .widerDeep, .pinned], laidTests := true, laidLooks := .later }
def FnExactReadProgCardSaid : Prop := Claim7.holds Tryz.pinned (.plain (OpenSpec.ofChange fnExactReadProgSpec)) fnExactReadProgCard

/-- THE SECOND FORM's CARD OF 'laws.FnExactReadList'. -/
def fnExactReadListUptoCard : Claim7 := { stood := { row := fnExactReadListUptoRow, standIns := [], harness := (true, "6cd126451fa01d9b3399d5c02d3c3e96e9cca27fce1bff19e2fb7610cbbb9265"), looks := true }, kinds := [], alts := [], laidByText := true, laidKinds := [.data, .data, .data, .data, .sentinel, .sentinel, .widerDeep, .pinned], laidTests := true, laidLooks := .later }
def FnExactReadListUptoCardSaid : Prop := Claim7.holds Tryz.pinned (.plain (OpenSpec.upto fnExactReadListSpec)) fnExactReadListUptoCard

/-- THE SECOND FORM's CARD OF 'laws.FnExactReadProg'. -/
def fnExactReadProgUptoCard : Claim7 := { stood := { row := fnExactReadProgUptoRow, standIns := [], harness := (true, "6cd126451fa01d9b3399d5c02d3c3e96e9cca27fce1bff19e2fb7610cbbb9265"), looks := true }, kinds := [], alts := [], laidByText := true, laidKinds := [.data, .data, .data, .data, .sentinel, .sentinel, .widerDeep, .pinned], laidTests := true, laidLooks := .later }
def FnExactReadProgUptoCardSaid : Prop := Claim7.holds Tryz.pinned (.plain (OpenSpec.upto fnExactReadProgSpec)) fnExactReadProgUptoCard
end Rows
end Go.Proofs.YthinnpkpafmbcaaGreatDoor
