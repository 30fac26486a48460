/- 'CanonExamples' returns true, says the evaluator that knows some calls. -/
import Derived.Test.YtcplpfnieabelaaGreatDoorRunOfA
import Derived.Test.YtcplpfnieabelaaGreatDoorRunOfB
import Derived.Test.YtcplpfnieabelaaGreatDoorRunOfC
import Derived.Test.YtcplpfnieabelaaGreatDoorRunIsA
import Derived.Test.YtcplpfnieabelaaGreatDoorRunIsB
namespace Go.Proofs.YtcplpfnieabelaaGreatDoor.canonExamples
open Go Go.AM
set_option maxRecDepth 100000
def known : List Known := [⟨10, [text stream], .tup [text stream, num 0]⟩, ⟨10, [text (stream ++ [0])], .tup [text stream, num 0]⟩, ⟨10, [text (0 :: stream)], .tup [text stream, num 0]⟩, ⟨9, [text stream], .tup [.bool true, num 0]⟩, ⟨9, [text (stream ++ [0])], .tup [.bool false, num 0]⟩]
theorem valid : ∀ e ∈ known, Valid Tryz.prog blocks e.f e.args e.val := by
  intro e he
  simp only [known, List.mem_cons, List.not_mem_nil, or_false] at he
  rcases he with rfl | rfl | rfl | rfl | rfl
  · exact valid_of (evK_sound mixed (fun _ h => by cases h) conOk 20000) shutIn enough (by kernel_rfl) (by kernel_rfl) ofWhole
  · exact valid_of (evK_sound mixed (fun _ h => by cases h) conOk 20000) shutIn enough (by kernel_rfl) (by kernel_rfl) ofLonger
  · exact valid_of (evK_sound mixed (fun _ h => by cases h) conOk 20000) shutIn enough (by kernel_rfl) (by kernel_rfl) ofLater
  · exact valid_of (evK_sound mixed (fun _ h => by cases h) conOk 20000) shutIn enough (by kernel_rfl) (by kernel_rfl) isWhole
  · exact valid_of (evK_sound mixed (fun _ h => by cases h) conOk 20000) shutIn enough (by kernel_rfl) (by kernel_rfl) isLonger
theorem sound : RecOk Tryz.prog (evK Tryz.prog blocks known con 20000) := evK_sound mixed valid conOk 20000
theorem evaluated : saysTrue (evK Tryz.prog blocks known con 20000 (.call 4 []) (begins blocks)) = true := by kernel_rfl
end Go.Proofs.YtcplpfnieabelaaGreatDoor.canonExamples
