/- What is known of the memory in which 'TreeExamples' begins, and the calls in it that are evaluated apart. -/
import Derived.Test.YtcplpfnieabelaaGreatDoorAmG
import Derived.Test.YtcplpfnieabelaaGreatDoorSearch
import Derived.KernelRfl
import GoSem.PinnedTables
namespace Go.Proofs.YtcplpfnieabelaaGreatDoor
open Go Go.AM

def num (n : Int) : AV := .int .i64 n
def text (l : List UInt8) : AV := .str ⟨⟨l⟩⟩
/-- The stream E1. -/
def stream : List UInt8 := [0, 0, 0, 1, 39, 77, 0, 10, 244, 242, 0, 0, 0, 1, 40, 206, 56, 128, 0, 0, 1, 37, 184, 64, 255, 255, 224, 194]
def held (l : List AV) : ABlk := .cells l true true
/-- The package variables in their order, and the rows of slices. -/
def blocks : List ABlk := [held [num (1), num (1), num (1), num (-1), num (-1), num (-1), num (-1), .int .u8 (3)],
  held [num (-1), num (1), num (1), num (2), num (1), num (0), num (1), .int .u8 (0)],
  held [.any .i64],
  held [num (16), num (15), num (16), num (4), num (15)],
  held (Go.Pinned.utf8FirstZ.map fun n => AV.int .u8 (Int.ofNat n)),
  held [.int .u8 (128), .int .u8 (191), .int .u8 (160), .int .u8 (191), .int .u8 (128), .int .u8 (159), .int .u8 (144), .int .u8 (191), .int .u8 (128), .int .u8 (143), .int .u8 (0), .int .u8 (0), .int .u8 (0), .int .u8 (0), .int .u8 (0), .int .u8 (0), .int .u8 (0), .int .u8 (0), .int .u8 (0), .int .u8 (0), .int .u8 (0), .int .u8 (0), .int .u8 (0), .int .u8 (0), .int .u8 (0), .int .u8 (0), .int .u8 (0), .int .u8 (0), .int .u8 (0), .int .u8 (0), .int .u8 (0), .int .u8 (0)],
  held [.slice 7 0 1 1 5, .slice 8 0 2 2 5, .slice 9 0 2 2 5, .slice 10 0 4 4 5],
  held [num (0), num (0), num (2), num (2), num (0)],
  held [num (0), num (0), num (2), num (1), num (0), num (0), num (1), num (2), num (1), num (0)],
  held [num (0), num (0), num (1), num (2), num (0), num (1), num (0), num (1), num (2), num (0)],
  held [num (0), num (0), num (1), num (1), num (0), num (1), num (0), num (1), num (1), num (0), num (0), num (1), num (1), num (1), num (0), num (1), num (1), num (1), num (1), num (0)]]
set_option maxRecDepth 100000
theorem mixed : Tryz.prog.follows .mixedOrders = true := by kernel_rfl
theorem shutIn : shut blocks.length blocks = true := by kernel_rfl
theorem unknown {w : World} (h : w.ShapedOpen Tryz.prog) : ∀ x ∈ [(2, IntKind.i64)], ∃ z, w.cell? ⟨x.1, 0, none⟩ = some (.int x.2 z) := by
  intro x hx
  obtain rfl := List.mem_singleton.1 hx
  exact Tryz.laysM144.s1_3 w h
noncomputable def con : Cons := conContains 53 2
theorem conOk : ConsOk Tryz.prog con := consOk_contains ⟨Tryz.f53, Tryz.func53, by kernel_rfl, by kernel_rfl⟩ (Nat.le_of_ble_eq_true (by kernel_rfl)) fun s sub m w hs hm => Any.strings_Contains Tryz.lays144 s sub m w hs hm
theorem enough : Tryz.prog.globals.size ≤ blocks.length := Nat.le_of_ble_eq_true (by kernel_rfl)
end Go.Proofs.YtcplpfnieabelaaGreatDoor
