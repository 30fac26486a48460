/- 'TreeExamples' returns true, says the evaluator that knows some calls. -/
import Derived.Test.YtcplpfnieabelaaGreatDoorRunAwake
namespace Go.Proofs.YtcplpfnieabelaaGreatDoor.treeExamples
open Go Go.AM
set_option maxRecDepth 100000
def known : List Known := [⟨8, [], .bool true⟩]
theorem valid : ∀ e ∈ known, Valid Tryz.prog blocks e.f e.args e.val := by
  intro e he
  simp only [known, List.mem_cons, List.not_mem_nil, or_false] at he
  subst he
  exact valid_of (evK_sound mixed (fun _ h => by cases h) conOk 20000) shutIn enough (by kernel_rfl) (by kernel_rfl) awakes
theorem sound : RecOk Tryz.prog (evK Tryz.prog blocks known con 20000) := evK_sound mixed valid conOk 20000
theorem evaluated : saysTrue (evK Tryz.prog blocks known con 20000 (.call 3 []) (begins blocks)) = true := by kernel_rfl
end Go.Proofs.YtcplpfnieabelaaGreatDoor.treeExamples
