/- Closed facts of the row of 'CanonExamples': the first, third and so on. -/
import Derived.Test.YtcplpfnieabelaaGreatDoorRows
import Derived.ProofKit
import Derived.OpenShut
import Derived.LaidMore
import Derived.Lay
import Derived.SevenTiedAt
import Derived.Stop.Joined
namespace Go.Proofs.YtcplpfnieabelaaGreatDoor.canonExamples
open Go Go.ChangeShapes Go.WideShapes Go.ChangeAt Go.RowKit
set_option maxRecDepth 100000
theorem fact1 : (Rows.canonExamplesRow.wf (OpenSpec.ofChange Rows.canonExamplesSpec)) = true := by kernel_rfl
theorem fact3 : (mapsRowed Tryz.prog) = true := by kernel_rfl
theorem fact5 : (namedTie Tryz.prog Rows.canonExamplesRow.named Rows.canonExamplesSpec.vars) = true := by kernel_rfl
theorem fact7 : ((Tryz.prog.stops == [])) = true := by kernel_rfl
theorem fact9 : ((Tryz.prog.stopKnobs == [])) = true := by kernel_rfl
theorem fact11 : ((Rows.canonExamplesRow.unfollowed == Tryz.prog.unfollowed 4)) = true := by kernel_rfl
theorem fact13 : ((Rows.canonExamplesRow.named == Tryz.prog.varsNamed 4)) = true := by kernel_rfl
theorem fact15 : ((Rows.canonExamplesRow.ifaces == (Tryz.f4.params.toList ++ Rows.canonExamplesSpec.plain.varTypes Tryz.prog).any (Tryz.prog.ifacesRec ·))) = true := by kernel_rfl
theorem fact17 : ((Rows.canonExamplesRow.loops == (Tryz.f4.params.toList ++ Rows.canonExamplesSpec.plain.varTypes Tryz.prog).any (Tryz.prog.loopsFrom ·))) = true := by kernel_rfl
theorem fact19 : (Rows.canonExamplesSpec.vars.all (Tryz.prog.varReadable ·)) = true := by kernel_rfl
theorem fact21 : ((Rows.canonExamplesRow.ifacesOut == Tryz.f4.resultTypes.toList.any (Tryz.prog.ifacesRec ·))) = true := by kernel_rfl
theorem fact23 : ((Rows.canonExamplesRow.plainKeys == Tryz.prog.plainKeys)) = true := by kernel_rfl
theorem fact25 : (Tryz.prog.stopsHeard) = true := by kernel_rfl
theorem fact27 : ((Rows.canonExamplesRow.lifted == Tryz.prog.liftsFinal)) = true := by kernel_rfl
theorem fact29 : ((Rows.canonExamplesRow.kinds == (if Rows.canonExamplesRow.domain.isEmpty then [] else Tryz.f4.params.toList.map fun t => match Tryz.prog.underlying t with | some (.int k) => some k | _ => none))) = true := by kernel_rfl
theorem fact31 : ((Rows.canonExamplesRow.veiled == (Tryz.f4.params.toList ++ Rows.canonExamplesSpec.plain.varTypes Tryz.prog ++ Tryz.f4.resultTypes.toList).any (Tryz.prog.veiledRec ·))) = true := by kernel_rfl
end Go.Proofs.YtcplpfnieabelaaGreatDoor.canonExamples
