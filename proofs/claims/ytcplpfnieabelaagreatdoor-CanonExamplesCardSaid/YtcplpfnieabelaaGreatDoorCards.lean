/-
  DERIVED. GIVEN WITH THE SEED: THE CARDS: each row of YtcplpfnieabelaaGreatDoorRows.lean that lists a variable, with what it lists TIED to the program's text (the seventh form; the later family's looks); each row that meets fmt, with fmt's text TOLD by the authors' own Lean function (tested against real Go, not proved from fmt's source: count such statements apart). THE CARD IS WHAT COUNTS. Prove the row's statement (the work); the ties are given (YtcplpfnieabelaaGreatDoorTie.lean); close each card by the builder's one call (the guide's Derived/Test/ToyasCard.lean, 'card_holds'). Laid BY PROGRAM, IN A SANDBOX (cutbox-door.mjs). By AI agents, Wed Nov 11 2026. No macro, syntax, notation, axiom, sorry.
-/
import Derived.Test.YtcplpfnieabelaaGreatDoorRows
import GoSem.ClaimSeven
namespace Go.Proofs.YtcplpfnieabelaaGreatDoor
namespace Rows

/-- THE TIED CARD OF 'spindlelaw32.TreeExamples'. -/
def treeExamplesCard : Claim7 := { stood := { row := treeExamplesRow, standIns := [], harness := (true, "11c1aca1c2c37042e700ea3229dadca598abffaff1e39185b95c5295e66f6a12"), looks := true }, kinds := [], alts := [], laidByText := true, laidKinds := [.data, .data, .wider, .wider, .data, .pinned], laidTests := true, laidLooks := .later }
def TreeExamplesCardSaid : Prop := Claim7.holds Tryz.pinned (.plain (OpenSpec.ofChange treeExamplesSpec)) treeExamplesCard

/-- THE TIED CARD OF 'spindlelaw37.CanonExamples'. -/
def canonExamplesCard : Claim7 := { stood := { row := canonExamplesRow, standIns := [], harness := (true, "11c1aca1c2c37042e700ea3229dadca598abffaff1e39185b95c5295e66f6a12"), looks := true }, kinds := [], alts := [], laidByText := true, laidKinds := [.data, .data, .wider, .wider, .data, .pinned], laidTests := true, laidLooks := .later }
def CanonExamplesCardSaid : Prop := Claim7.holds Tryz.pinned (.plain (OpenSpec.ofChange canonExamplesSpec)) canonExamplesCard

/-- THE SECOND FORM's CARD OF 'spindlelaw32.TreeExamples'. -/
def treeExamplesUptoCard : Claim7 := { stood := { row := treeExamplesUptoRow, standIns := [], harness := (true, "11c1aca1c2c37042e700ea3229dadca598abffaff1e39185b95c5295e66f6a12"), looks := true }, kinds := [], alts := [], laidByText := true, laidKinds := [.data, .data, .wider, .wider, .data, .pinned], laidTests := true, laidLooks := .later }
def TreeExamplesUptoCardSaid : Prop := Claim7.holds Tryz.pinned (.plain (OpenSpec.upto treeExamplesSpec)) treeExamplesUptoCard

/-- THE SECOND FORM's CARD OF 'spindlelaw37.CanonExamples'. -/
def canonExamplesUptoCard : Claim7 := { stood := { row := canonExamplesUptoRow, standIns := [], harness := (true, "11c1aca1c2c37042e700ea3229dadca598abffaff1e39185b95c5295e66f6a12"), looks := true }, kinds := [], alts := [], laidByText := true, laidKinds := [.data, .data, .wider, .wider, .data, .pinned], laidTests := true, laidLooks := .later }
def CanonExamplesUptoCardSaid : Prop := Claim7.holds Tryz.pinned (.plain (OpenSpec.upto canonExamplesSpec)) canonExamplesUptoCard
end Rows
end Go.Proofs.YtcplpfnieabelaaGreatDoor
