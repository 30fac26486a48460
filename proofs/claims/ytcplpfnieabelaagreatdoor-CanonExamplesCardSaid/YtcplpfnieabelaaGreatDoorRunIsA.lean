/- 'canon.Is' of E1 returns true, says the evaluator. -/
import Derived.Test.YtcplpfnieabelaaGreatDoorStart
namespace Go.Proofs.YtcplpfnieabelaaGreatDoor
open Go Go.AM
set_option maxRecDepth 100000
theorem isWhole : saysVal (.tup [.bool true, num 0]) (evK Tryz.prog blocks [] con 20000 (.call 9 [text stream]) (begins blocks)) = true := by kernel_rfl
end Go.Proofs.YtcplpfnieabelaaGreatDoor
