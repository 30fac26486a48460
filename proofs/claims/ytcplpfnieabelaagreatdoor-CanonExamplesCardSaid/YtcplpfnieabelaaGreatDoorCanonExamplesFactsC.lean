/- Closed facts of the row of 'CanonExamples': names, kinds of functions, the card's cells. -/
import Derived.Test.YtcplpfnieabelaaGreatDoorRows
import Derived.ProofKit
import Derived.OpenShut
import Derived.LaidMore
import Derived.Lay
import Derived.SevenTiedAt
import Derived.Stop.Joined
namespace Go.Proofs.YtcplpfnieabelaaGreatDoor.canonExamples
open Go Go.ChangeShapes Go.WideShapes Go.ChangeAt Go.RowKit
set_option maxRecDepth 100000
theorem funcIs : Tryz.prog.funcNamed "spindle/spindlelaw37.CanonExamples" = some 4 := by kernel_rfl
theorem instanceOf : Tryz.f4.isInstance Tryz.prog Rows.canonExamplesRow.origin Rows.canonExamplesRow.targs := of_decide_eq_true (by kernel_rfl)
theorem byText : Rows.canonExamplesRow.wfByText (OpenSpec.ofChange Rows.canonExamplesSpec) = true := by kernel_rfl
theorem mainIs : Tryz.prog.mainIs = some (true, "11c1aca1c2c37042e700ea3229dadca598abffaff1e39185b95c5295e66f6a12".toList) := by kernel_rfl
theorem looksAt : true = Tryz.prog.looks [] := by kernel_rfl
theorem goesNowhere : Tryz.prog.funcs.any Func.goes = false := by kernel_rfl
theorem wrapperOf : Tryz.f4.isWrapper Tryz.prog Rows.canonExamplesRow.wrapper Rows.canonExamplesRow.mainSum := by
  unfold Func.isWrapper
  rw [if_neg (of_decide_eq_false (by kernel_rfl))]
  exact ⟨rfl, rfl⟩
end Go.Proofs.YtcplpfnieabelaaGreatDoor.canonExamples
