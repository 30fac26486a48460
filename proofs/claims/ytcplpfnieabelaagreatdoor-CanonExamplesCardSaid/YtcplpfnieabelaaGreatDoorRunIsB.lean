/- 'canon.Is' of E1 and a byte 0 returns false, says the evaluator. -/
import Derived.Test.YtcplpfnieabelaaGreatDoorStart
namespace Go.Proofs.YtcplpfnieabelaaGreatDoor
open Go Go.AM
set_option maxRecDepth 100000
theorem isLonger : saysVal (.tup [.bool false, num 0]) (evK Tryz.prog blocks [] con 20000 (.call 9 [text (stream ++ [0])]) (begins blocks)) = true := by kernel_rfl
end Go.Proofs.YtcplpfnieabelaaGreatDoor
