/- 'canon.Of' of E1 and a byte 0 returns E1, says the evaluator. -/
import Derived.Test.YtcplpfnieabelaaGreatDoorStart
namespace Go.Proofs.YtcplpfnieabelaaGreatDoor
open Go Go.AM
set_option maxRecDepth 100000
theorem ofLonger : saysVal (.tup [text stream, num 0]) (evK Tryz.prog blocks [] con 20000 (.call 10 [text (stream ++ [0])]) (begins blocks)) = true := by kernel_rfl
end Go.Proofs.YtcplpfnieabelaaGreatDoor
