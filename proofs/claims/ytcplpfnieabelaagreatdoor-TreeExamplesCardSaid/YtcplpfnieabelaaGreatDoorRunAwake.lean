/- 'spindlelaw32.awake' returns true, says the evaluator. -/
import Derived.Test.YtcplpfnieabelaaGreatDoorStart
namespace Go.Proofs.YtcplpfnieabelaaGreatDoor
open Go Go.AM
set_option maxRecDepth 100000
theorem awakes : saysVal (.bool true) (evK Tryz.prog blocks [] con 20000 (.call 8 []) (begins blocks)) = true := by kernel_rfl
end Go.Proofs.YtcplpfnieabelaaGreatDoor
