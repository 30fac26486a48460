/- Closed facts of the row of 'TreeExamples': the second, fourth and so on. -/
import Derived.Test.YtcplpfnieabelaaGreatDoorRows
import Derived.ProofKit
import Derived.OpenShut
import Derived.LaidMore
import Derived.Lay
import Derived.SevenTiedAt
import Derived.Stop.Joined
namespace Go.Proofs.YtcplpfnieabelaaGreatDoor.treeExamples
open Go Go.ChangeShapes Go.WideShapes Go.ChangeAt Go.RowKit
set_option maxRecDepth 100000
theorem fact2 : (laidOutB Tryz.prog) = true := by kernel_rfl
theorem fact4 : (Tryz.f3.params.all (Tryz.prog.readableRec ·)) = true := by kernel_rfl
theorem fact6 : ((Rows.treeExamplesRow.stops == [])) = true := by kernel_rfl
theorem fact8 : ((Rows.treeExamplesRow.knobs == [])) = true := by kernel_rfl
theorem fact10 : ((Rows.treeExamplesRow.inPlace == Tryz.prog.inPlace 3)) = true := by kernel_rfl
theorem fact12 : ((Rows.treeExamplesRow.recurses == Tryz.prog.recurses 3)) = true := by kernel_rfl
theorem fact14 : ((Rows.treeExamplesRow.maps == (Tryz.f3.params.toList ++ Rows.treeExamplesSpec.plain.varTypes Tryz.prog).any (Tryz.prog.mapsRec ·))) = true := by kernel_rfl
theorem fact16 : ((Rows.treeExamplesRow.mapsOut == Tryz.prog.mapsAmong Tryz.f3.resultTypes.toList)) = true := by kernel_rfl
theorem fact18 : ((Rows.treeExamplesRow.wideKeys == (Tryz.f3.params.toList ++ Rows.treeExamplesSpec.plain.varTypes Tryz.prog ++ Tryz.f3.resultTypes.toList).any (Tryz.prog.wideKeysFrom ·))) = true := by kernel_rfl
theorem fact20 : (Tryz.f3.resultTypes.all (fun t => Tryz.prog.readableRec t && decide (t < Tryz.prog.types.size))) = true := by kernel_rfl
theorem fact22 : ((Rows.treeExamplesRow.loopsOut == Tryz.f3.resultTypes.toList.any (Tryz.prog.loopsFrom ·))) = true := by kernel_rfl
theorem fact24 : (Rows.treeExamplesRow.shortTexts.isNone) = true := by kernel_rfl
theorem fact26 : (Tryz.prog.mayEnter) = true := by kernel_rfl
theorem fact28 : ((Tryz.prog.make == some Rows.treeExamplesRow.make)) = true := by kernel_rfl
theorem fact30 : ((Rows.treeExamplesRow.pinned == Rows.treeExamplesRow.pinnedBy)) = true := by kernel_rfl
theorem fact32 : (Rows.treeExamplesRow.veiledFits Tryz.prog Tryz.f3.params.toList (Tryz.f3.params.toList ++ Rows.treeExamplesSpec.plain.varTypes Tryz.prog ++ Tryz.f3.resultTypes.toList)) = true := by kernel_rfl
end Go.Proofs.YtcplpfnieabelaaGreatDoor.treeExamples
