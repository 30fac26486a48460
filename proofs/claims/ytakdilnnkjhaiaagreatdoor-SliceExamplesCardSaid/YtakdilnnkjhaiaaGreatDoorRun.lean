/- The evaluator says of the call of 'SliceExamples' that it returns true, in the memory in which the package's variables are as the row lists them. -/
import Derived.Test.YtakdilnnkjhaiaaGreatDoorAmF
import Derived.Test.YtakdilnnkjhaiaaGreatDoorProg
import Derived.KernelRfl
namespace Go.Proofs.YtakdilnnkjhaiaaGreatDoor
open Go Go.AM

def num (n : Int) : AV := .int .i64 n
def held (l : List AV) : ABlk := .cells l true true
def quarter (a b c d : Int) : List AV := [num a, num b, num c, num d, num 0]
/-- The four package variables in their order, and the rows of 'quarters'. -/
def blocks : List ABlk := [held ([1, 1, 1, -1, -1, -1, -1].map num ++ [.int .u8 3]), held ([-1, 1, 1, 2, 1, 0, 1].map num ++ [.int .u8 0]), held ([16, 15, 16, 4, 15].map num),
  held [.slice 4 0 1 1 5, .slice 5 0 2 2 5, .slice 6 0 2 2 5, .slice 7 0 4 4 5],
  held (quarter 0 0 2 2), held (quarter 0 0 2 1 ++ quarter 0 1 2 1), held (quarter 0 0 1 2 ++ quarter 1 0 1 2), held (quarter 0 0 1 1 ++ quarter 1 0 1 1 ++ quarter 0 1 1 1 ++ quarter 1 1 1 1)]
set_option maxRecDepth 100000
theorem evaluated : saysTrue (ev Tryz.prog 20000 (.call 3 []) ⟨.nil, 0, [], .none, ⟨Tr.ofList blocks, blocks.length⟩⟩) = true := by kernel_rfl
end Go.Proofs.YtakdilnnkjhaiaaGreatDoor
