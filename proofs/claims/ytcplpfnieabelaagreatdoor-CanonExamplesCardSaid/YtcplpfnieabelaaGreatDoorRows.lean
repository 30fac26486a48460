/-
  NARROWER THAN 'FOR EVERY INPUT', by the rows' own cells (each row's printed sentence says how): TreeExamples: laid · CanonExamples: laid.
  DERIVED. THE GIVEN ROWS OF THIS SEAT. 2 by the template 'for every input the law returns true; each argument reads behind the call as it read before'; 0 by the template 'total and deterministic' (their statements: YtcplpfnieabelaaGreatDoorTotals.lean).
  GIVEN WITH THE SEED: the statements are not yours to turn. If you find one false, say at which input.
  Laid BY PROGRAM, IN A SANDBOX (cutbox-rows.mjs): the forced cells as the released guide's own fill.sh prints them over the translation 9c83d00745828b0b… (all of the seat's roots in one cut). By AI agents, Wed Nov 11 2026. No macro, syntax, notation, axiom, sorry.
-/
import Derived.Test.YtcplpfnieabelaaGreatDoorChecked
import GoSem.PinnedTables
import GoSem.Claim
import GoSem.ClaimJoined
import GoSem.ClaimMapViews
import Derived.JoinedTies
import Derived.KernelRfl
namespace Go.Proofs.YtcplpfnieabelaaGreatDoor
/- THE CELL 'sum', in the pinned program and in every row, IS THE sha256 OF THE DUMP (.gsa) THAT YtcplpfnieabelaaGreatDoorProg.lean LOADS. Nothing in Lean hashes anything: it is a label: what it is worth is what the hold of that sum in a sandbox is worth. -/
noncomputable def Tryz.pinned : Pinned := { name := "ytcplpfnieabelaagreatdoor", sum := "9c83d00745828b0bb1f9a5ddc472d92432ac5a2e20906d96e84b6c4623e5c3a9", checked := Tryz.checked }
namespace Rows
def none {H : Type} : Left H := { results := [], args := [] }

/- WHAT THE LISTED PACKAGE-LEVEL VARIABLES READ AS WHEN THE CALL BEGINS. Each datum BY PROGRAM (the guide's laid-datum.mjs) off the statement by which the dump's own 'gosem.cut.vars' lays the variable. In a bare row this is a premise. The card (YtcplpfnieabelaaGreatDoorCards.lean) ties it to the program's text. -/
def laid_unicode_utf8_acceptRanges {H : Type} : DataW H := .agg [.agg [.lit (.int .u8 128), .lit (.int .u8 191)], .agg [.lit (.int .u8 160), .lit (.int .u8 191)], .agg [.lit (.int .u8 128), .lit (.int .u8 159)], .agg [.lit (.int .u8 144), .lit (.int .u8 191)], .agg [.lit (.int .u8 128), .lit (.int .u8 143)], .agg [.lit (.int .u8 0), .lit (.int .u8 0)], .agg [.lit (.int .u8 0), .lit (.int .u8 0)], .agg [.lit (.int .u8 0), .lit (.int .u8 0)], .agg [.lit (.int .u8 0), .lit (.int .u8 0)], .agg [.lit (.int .u8 0), .lit (.int .u8 0)], .agg [.lit (.int .u8 0), .lit (.int .u8 0)], .agg [.lit (.int .u8 0), .lit (.int .u8 0)], .agg [.lit (.int .u8 0), .lit (.int .u8 0)], .agg [.lit (.int .u8 0), .lit (.int .u8 0)], .agg [.lit (.int .u8 0), .lit (.int .u8 0)], .agg [.lit (.int .u8 0), .lit (.int .u8 0)]]
def laid_spindle_kinds_quarters {H : Type} : DataW H := .agg [.slice [.agg [.lit (.int .i64 0), .lit (.int .i64 0), .lit (.int .i64 2), .lit (.int .i64 2), .lit (.int .i64 0)]] [], .slice [.agg [.lit (.int .i64 0), .lit (.int .i64 0), .lit (.int .i64 2), .lit (.int .i64 1), .lit (.int .i64 0)], .agg [.lit (.int .i64 0), .lit (.int .i64 1), .lit (.int .i64 2), .lit (.int .i64 1), .lit (.int .i64 0)]] [], .slice [.agg [.lit (.int .i64 0), .lit (.int .i64 0), .lit (.int .i64 1), .lit (.int .i64 2), .lit (.int .i64 0)], .agg [.lit (.int .i64 1), .lit (.int .i64 0), .lit (.int .i64 1), .lit (.int .i64 2), .lit (.int .i64 0)]] [], .slice [.agg [.lit (.int .i64 0), .lit (.int .i64 0), .lit (.int .i64 1), .lit (.int .i64 1), .lit (.int .i64 0)], .agg [.lit (.int .i64 1), .lit (.int .i64 0), .lit (.int .i64 1), .lit (.int .i64 1), .lit (.int .i64 0)], .agg [.lit (.int .i64 0), .lit (.int .i64 1), .lit (.int .i64 1), .lit (.int .i64 1), .lit (.int .i64 0)], .agg [.lit (.int .i64 1), .lit (.int .i64 1), .lit (.int .i64 1), .lit (.int .i64 1), .lit (.int .i64 0)]] []]
def laid_spindle_marks_mods {H : Type} : DataW H := .agg [.agg [.lit (.int .i64 1), .lit (.int .i64 1), .lit (.int .i64 1), .lit (.int .i64 (-1)), .lit (.int .i64 (-1)), .lit (.int .i64 (-1)), .lit (.int .i64 (-1))], .lit (.int .u8 3)]
def laid_spindle_marks_marks {H : Type} : DataW H := .agg [.agg [.lit (.int .i64 (-1)), .lit (.int .i64 1), .lit (.int .i64 1), .lit (.int .i64 2), .lit (.int .i64 1), .lit (.int .i64 0), .lit (.int .i64 1)], .lit (.int .u8 0)]
def laid_spindle_mb_sizes {H : Type} : DataW H := .agg [.lit (.int .i64 16), .lit (.int .i64 15), .lit (.int .i64 16), .lit (.int .i64 4), .lit (.int .i64 15)]
/-- One of Go's own tables, pinned by name: the form's constant. -/
def laid_unicode_utf8_first : DataW Unit := Go.Pinned.utf8First

/-- 'spindlelaw32.TreeExamples': WHATEVER THE INPUT: true; the input reads as it did. -/
def treeExamplesSpec : ChangeSpec := { name := "treeExamples", fn := fun _ => fun
  | [] => { results := [.lit (.bool true)], args := [] }
  | _ => none }
def treeExamplesRow : OpenClaim := { program := "ytcplpfnieabelaagreatdoor", sum := "9c83d00745828b0bb1f9a5ddc472d92432ac5a2e20906d96e84b6c4623e5c3a9", func := "spindle/spindlelaw32.TreeExamples", spec := "treeExamples", inPlace := ["internal/bytealg.IndexByteString", "internal/bytealg.IndexString"], unfollowed := true, recurses := true, named := ["unicode/utf8.first", "unicode/utf8.acceptRanges", "internal/bytealg.MaxLen", "spindle/marks.mods", "spindle/marks.marks", "spindle/kinds.quarters", "spindle/mb.sizes"], apart := false, laid := [("unicode/utf8.acceptRanges", laid_unicode_utf8_acceptRanges), ("spindle/kinds.quarters", laid_spindle_kinds_quarters), ("spindle/marks.mods", laid_spindle_marks_mods), ("spindle/marks.marks", laid_spindle_marks_marks), ("spindle/mb.sizes", laid_spindle_mb_sizes), ("unicode/utf8.first", laid_unicode_utf8_first)] }
def TreeExamplesSaid : Prop := treeExamplesRow.holds Tryz.pinned (OpenSpec.ofChange treeExamplesSpec)

/-- ITS FALSE NEIGHBOUR: 'it returns false'. Refute it at one input. -/
def treeExamplesWrong : ChangeSpec := { name := "treeExamples", fn := fun _ => fun
  | [] => { results := [.lit (.bool false)], args := [] }
  | _ => none }
def TreeExamplesWrongFalsely : Prop := treeExamplesRow.holds Tryz.pinned (OpenSpec.ofChange treeExamplesWrong)

/-- 'spindlelaw37.CanonExamples': WHATEVER THE INPUT: true; the input reads as it did. -/
def canonExamplesSpec : ChangeSpec := { name := "canonExamples", fn := fun _ => fun
  | [] => { results := [.lit (.bool true)], args := [] }
  | _ => none }
def canonExamplesRow : OpenClaim := { program := "ytcplpfnieabelaagreatdoor", sum := "9c83d00745828b0bb1f9a5ddc472d92432ac5a2e20906d96e84b6c4623e5c3a9", func := "spindle/spindlelaw37.CanonExamples", spec := "canonExamples", inPlace := ["internal/bytealg.IndexByteString", "internal/bytealg.IndexString"], unfollowed := true, recurses := true, named := ["unicode/utf8.first", "unicode/utf8.acceptRanges", "internal/bytealg.MaxLen", "spindle/marks.mods", "spindle/marks.marks", "spindle/kinds.quarters", "spindle/mb.sizes"], apart := false, laid := [("unicode/utf8.acceptRanges", laid_unicode_utf8_acceptRanges), ("spindle/kinds.quarters", laid_spindle_kinds_quarters), ("spindle/marks.mods", laid_spindle_marks_mods), ("spindle/marks.marks", laid_spindle_marks_marks), ("spindle/mb.sizes", laid_spindle_mb_sizes), ("unicode/utf8.first", laid_unicode_utf8_first)] }
def CanonExamplesSaid : Prop := canonExamplesRow.holds Tryz.pinned (OpenSpec.ofChange canonExamplesSpec)

/-- ITS FALSE NEIGHBOUR: 'it returns false'. Refute it at one input. -/
def canonExamplesWrong : ChangeSpec := { name := "canonExamples", fn := fun _ => fun
  | [] => { results := [.lit (.bool false)], args := [] }
  | _ => none }
def CanonExamplesWrongFalsely : Prop := canonExamplesRow.holds Tryz.pinned (OpenSpec.ofChange canonExamplesWrong)

/- THE SECOND FORM. 'bulk': how many values and letters a reading holds, each counted each time it is reached (what is shared counts as often as it is met; a slice's spare places count too). A statement '..UptoSaid' is the law's where the arguments, and the package variables that the reading takes, are together of bulk at most 1048576: NARROWER than '..Said'. Prove '..Said' where nothing that the law and all that it calls make is longer than what came in: it says more and counts as full. Else prove '..UptoSaid'. A law counts once. -/
mutual
def uptoBulk {H : Type} : DataW H → Nat
  | .lit (.string bytes) => bytes.length + 1
  | .lit _ => 1
  | .nil => 1
  | .ptr d => uptoBulk d + 1
  | .slice elems spare => uptoBulkAll elems + uptoBulkAll spare + 1
  | .agg parts => uptoBulkAll parts + 1
  | .iface _ d => uptoBulk d + 1
  | .map entries => uptoBulkEntries entries + 1
  | .held _ => 1
def uptoBulkAll {H : Type} : List (DataW H) → Nat
  | [] => 0
  | d :: r => uptoBulk d + uptoBulkAll r
def uptoBulkEntries {H : Type} : List (Lit × DataW H) → Nat
  | [] => 0
  | x :: r => uptoBulkEntry x + uptoBulkEntries r
def uptoBulkEntry {H : Type} : Lit × DataW H → Nat
  | (.string bytes, d) => bytes.length + uptoBulk d + 1
  | (_, d) => uptoBulk d + 1
 end
def uptoSmall : (H : Type) → List (DataW H) → Bool := fun _ ds => decide (uptoBulkAll ds ≤ 1048576)
def OpenSpec.upto (s : _root_.Go.ChangeSpec) : _root_.Go.OpenSpec := { _root_.Go.OpenSpec.ofChange s with cond := some uptoSmall }

/-- 'spindlelaw32.TreeExamples', WHERE WHAT IT READS IS OF BULK AT MOST 1048576: true; the input reads as it did. -/
def treeExamplesUptoRow : OpenClaim := { program := "ytcplpfnieabelaagreatdoor", sum := "9c83d00745828b0bb1f9a5ddc472d92432ac5a2e20906d96e84b6c4623e5c3a9", func := "spindle/spindlelaw32.TreeExamples", spec := "treeExamples", inPlace := ["internal/bytealg.IndexByteString", "internal/bytealg.IndexString"], unfollowed := true, recurses := true, named := ["unicode/utf8.first", "unicode/utf8.acceptRanges", "internal/bytealg.MaxLen", "spindle/marks.mods", "spindle/marks.marks", "spindle/kinds.quarters", "spindle/mb.sizes"], apart := false, laid := [("unicode/utf8.acceptRanges", laid_unicode_utf8_acceptRanges), ("spindle/kinds.quarters", laid_spindle_kinds_quarters), ("spindle/marks.mods", laid_spindle_marks_mods), ("spindle/marks.marks", laid_spindle_marks_marks), ("spindle/mb.sizes", laid_spindle_mb_sizes), ("unicode/utf8.first", laid_unicode_utf8_first)], narrowed := true }
def TreeExamplesUptoSaid : Prop := treeExamplesUptoRow.holds Tryz.pinned (OpenSpec.upto treeExamplesSpec)

/-- 'spindlelaw37.CanonExamples', WHERE WHAT IT READS IS OF BULK AT MOST 1048576: true; the input reads as it did. -/
def canonExamplesUptoRow : OpenClaim := { program := "ytcplpfnieabelaagreatdoor", sum := "9c83d00745828b0bb1f9a5ddc472d92432ac5a2e20906d96e84b6c4623e5c3a9", func := "spindle/spindlelaw37.CanonExamples", spec := "canonExamples", inPlace := ["internal/bytealg.IndexByteString", "internal/bytealg.IndexString"], unfollowed := true, recurses := true, named := ["unicode/utf8.first", "unicode/utf8.acceptRanges", "internal/bytealg.MaxLen", "spindle/marks.mods", "spindle/marks.marks", "spindle/kinds.quarters", "spindle/mb.sizes"], apart := false, laid := [("unicode/utf8.acceptRanges", laid_unicode_utf8_acceptRanges), ("spindle/kinds.quarters", laid_spindle_kinds_quarters), ("spindle/marks.mods", laid_spindle_marks_mods), ("spindle/marks.marks", laid_spindle_marks_marks), ("spindle/mb.sizes", laid_spindle_mb_sizes), ("unicode/utf8.first", laid_unicode_utf8_first)], narrowed := true }
def CanonExamplesUptoSaid : Prop := canonExamplesUptoRow.holds Tryz.pinned (OpenSpec.upto canonExamplesSpec)

end Rows
end Go.Proofs.YtcplpfnieabelaaGreatDoor
