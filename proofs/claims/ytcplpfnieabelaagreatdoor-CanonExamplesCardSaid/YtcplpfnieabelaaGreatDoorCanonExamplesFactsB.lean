/- Closed facts of the row of 'CanonExamples': the second, fourth and so on. -/
import Derived.Test.YtcplpfnieabelaaGreatDoorRows
import Derived.ProofKit
import Derived.OpenShut
import Derived.LaidMore
import Derived.Lay
import Derived.SevenTiedAt
import Derived.Stop.Joined
namespace Go.Proofs.YtcplpfnieabelaaGreatDoor.canonExamples
open Go Go.ChangeShapes Go.WideShapes Go.ChangeAt Go.RowKit
set_option maxRecDepth 100000
theorem fact2 : (laidOutB Tryz.prog) = true := by kernel_rfl
theorem fact4 : (Tryz.f4.params.all (Tryz.prog.readableRec ·)) = true := by kernel_rfl
theorem fact6 : ((Rows.canonExamplesRow.stops == [])) = true := by kernel_rfl
theorem fact8 : ((Rows.canonExamplesRow.knobs == [])) = true := by kernel_rfl
theorem fact10 : ((Rows.canonExamplesRow.inPlace == Tryz.prog.inPlace 4)) = true := by kernel_rfl
theorem fact12 : ((Rows.canonExamplesRow.recurses == Tryz.prog.recurses 4)) = true := by kernel_rfl
theorem fact14 : ((Rows.canonExamplesRow.maps == (Tryz.f4.params.toList ++ Rows.canonExamplesSpec.plain.varTypes Tryz.prog).any (Tryz.prog.mapsRec ·))) = true := by kernel_rfl
theorem fact16 : ((Rows.canonExamplesRow.mapsOut == Tryz.prog.mapsAmong Tryz.f4.resultTypes.toList)) = true := by kernel_rfl
theorem fact18 : ((Rows.canonExamplesRow.wideKeys == (Tryz.f4.params.toList ++ Rows.canonExamplesSpec.plain.varTypes Tryz.prog ++ Tryz.f4.resultTypes.toList).any (Tryz.prog.wideKeysFrom ·))) = true := by kernel_rfl
theorem fact20 : (Tryz.f4.resultTypes.all (fun t => Tryz.prog.readableRec t && decide (t < Tryz.prog.types.size))) = true := by kernel_rfl
theorem fact22 : ((Rows.canonExamplesRow.loopsOut == Tryz.f4.resultTypes.toList.any (Tryz.prog.loopsFrom ·))) = true := by kernel_rfl
theorem fact24 : (Rows.canonExamplesRow.shortTexts.isNone) = true := by kernel_rfl
theorem fact26 : (Tryz.prog.mayEnter) = true := by kernel_rfl
theorem fact28 : ((Tryz.prog.make == some Rows.canonExamplesRow.make)) = true := by kernel_rfl
theorem fact30 : ((Rows.canonExamplesRow.pinned == Rows.canonExamplesRow.pinnedBy)) = true := by kernel_rfl
theorem fact32 : (Rows.canonExamplesRow.veiledFits Tryz.prog Tryz.f4.params.toList (Tryz.f4.params.toList ++ Rows.canonExamplesSpec.plain.varTypes Tryz.prog ++ Tryz.f4.resultTypes.toList)) = true := by kernel_rfl
end Go.Proofs.YtcplpfnieabelaaGreatDoor.canonExamples
