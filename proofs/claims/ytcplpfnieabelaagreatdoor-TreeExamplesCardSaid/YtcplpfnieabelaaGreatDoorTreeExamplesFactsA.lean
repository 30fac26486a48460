/- Closed facts of the row of 'TreeExamples': the first, third and so on. -/
import Derived.Test.YtcplpfnieabelaaGreatDoorRows
import Derived.ProofKit
import Derived.OpenShut
import Derived.LaidMore
import Derived.Lay
import Derived.SevenTiedAt
import Derived.Stop.Joined
namespace Go.Proofs.YtcplpfnieabelaaGreatDoor.treeExamples
open Go Go.ChangeShapes Go.WideShapes Go.ChangeAt Go.RowKit
set_option maxRecDepth 100000
theorem fact1 : (Rows.treeExamplesRow.wf (OpenSpec.ofChange Rows.treeExamplesSpec)) = true := by kernel_rfl
theorem fact3 : (mapsRowed Tryz.prog) = true := by kernel_rfl
theorem fact5 : (namedTie Tryz.prog Rows.treeExamplesRow.named Rows.treeExamplesSpec.vars) = true := by kernel_rfl
theorem fact7 : ((Tryz.prog.stops == [])) = true := by kernel_rfl
theorem fact9 : ((Tryz.prog.stopKnobs == [])) = true := by kernel_rfl
theorem fact11 : ((Rows.treeExamplesRow.unfollowed == Tryz.prog.unfollowed 3)) = true := by kernel_rfl
theorem fact13 : ((Rows.treeExamplesRow.named == Tryz.prog.varsNamed 3)) = true := by kernel_rfl
theorem fact15 : ((Rows.treeExamplesRow.ifaces == (Tryz.f3.params.toList ++ Rows.treeExamplesSpec.plain.varTypes Tryz.prog).any (Tryz.prog.ifacesRec ·))) = true := by kernel_rfl
theorem fact17 : ((Rows.treeExamplesRow.loops == (Tryz.f3.params.toList ++ Rows.treeExamplesSpec.plain.varTypes Tryz.prog).any (Tryz.prog.loopsFrom ·))) = true := by kernel_rfl
theorem fact19 : (Rows.treeExamplesSpec.vars.all (Tryz.prog.varReadable ·)) = true := by kernel_rfl
theorem fact21 : ((Rows.treeExamplesRow.ifacesOut == Tryz.f3.resultTypes.toList.any (Tryz.prog.ifacesRec ·))) = true := by kernel_rfl
theorem fact23 : ((Rows.treeExamplesRow.plainKeys == Tryz.prog.plainKeys)) = true := by kernel_rfl
theorem fact25 : (Tryz.prog.stopsHeard) = true := by kernel_rfl
theorem fact27 : ((Rows.treeExamplesRow.lifted == Tryz.prog.liftsFinal)) = true := by kernel_rfl
theorem fact29 : ((Rows.treeExamplesRow.kinds == (if Rows.treeExamplesRow.domain.isEmpty then [] else Tryz.f3.params.toList.map fun t => match Tryz.prog.underlying t with | some (.int k) => some k | _ => none))) = true := by kernel_rfl
theorem fact31 : ((Rows.treeExamplesRow.veiled == (Tryz.f3.params.toList ++ Rows.treeExamplesSpec.plain.varTypes Tryz.prog ++ Tryz.f3.resultTypes.toList).any (Tryz.prog.veiledRec ·))) = true := by kernel_rfl
end Go.Proofs.YtcplpfnieabelaaGreatDoor.treeExamples
