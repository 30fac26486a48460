/-
  DERIVED. GIVEN WITH THE SEED: THE CARDS: each row of YtakdilnnkjhaiaaGreatDoorRows.lean that lists a variable, with what it lists TIED to the program's text (the seventh form; the later family's looks); each row that meets fmt, with fmt's text TOLD by the authors' own Lean function (tested against real Go, not proved from fmt's source: count such statements apart). THE CARD IS WHAT COUNTS. Prove the row's statement (the work); the ties are given (YtakdilnnkjhaiaaGreatDoorTie.lean); close each card by the builder's one call (the guide's Derived/Test/ToyasCard.lean, 'card_holds'). Laid BY PROGRAM, IN A SANDBOX (cutbox-door.mjs). By AI agents, Wed Nov 11 2026. No macro, syntax, notation, axiom, sorry.
-/
import Derived.Test.YtakdilnnkjhaiaaGreatDoorRows
import GoSem.ClaimSeven
namespace Go.Proofs.YtakdilnnkjhaiaaGreatDoor
namespace Rows

/-- THE TIED CARD OF 'spindlelaw31.SliceExamples'. -/
def sliceExamplesCard : Claim7 := { stood := { row := sliceExamplesRow, standIns := [], harness := (true, "1e61c5e46e1b628eee1ad959d82798972531014503b79d66f0cb56b4e52f10e4"), looks := true }, kinds := [], alts := [], laidByText := true, laidKinds := [.data, .wider, .wider, .data], laidTests := true, laidLooks := .later }
def SliceExamplesCardSaid : Prop := Claim7.holds Tryz.pinned (.plain (OpenSpec.ofChange sliceExamplesSpec)) sliceExamplesCard

/-- THE SECOND FORM's CARD OF 'spindlelaw31.SliceExamples'. -/
def sliceExamplesUptoCard : Claim7 := { stood := { row := sliceExamplesUptoRow, standIns := [], harness := (true, "1e61c5e46e1b628eee1ad959d82798972531014503b79d66f0cb56b4e52f10e4"), looks := true }, kinds := [], alts := [], laidByText := true, laidKinds := [.data, .wider, .wider, .data], laidTests := true, laidLooks := .later }
def SliceExamplesUptoCardSaid : Prop := Claim7.holds Tryz.pinned (.plain (OpenSpec.upto sliceExamplesSpec)) sliceExamplesUptoCard
end Rows
end Go.Proofs.YtakdilnnkjhaiaaGreatDoor
