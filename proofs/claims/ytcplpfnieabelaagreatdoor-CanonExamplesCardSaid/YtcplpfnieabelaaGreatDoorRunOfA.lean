/- 'canon.Of' of E1 returns E1, says the evaluator. -/
import Derived.Test.YtcplpfnieabelaaGreatDoorStart
namespace Go.Proofs.YtcplpfnieabelaaGreatDoor
open Go Go.AM
set_option maxRecDepth 100000
theorem ofWhole : saysVal (.tup [text stream, num 0]) (evK Tryz.prog blocks [] con 20000 (.call 10 [text stream]) (begins blocks)) = true := by kernel_rfl
end Go.Proofs.YtcplpfnieabelaaGreatDoor
