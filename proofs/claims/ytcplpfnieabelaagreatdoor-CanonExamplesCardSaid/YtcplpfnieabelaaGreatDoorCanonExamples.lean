/- 'CanonExamples' returns true, and memory that was there is as it was: the row and the tied card; condition: the listed package variables are as the program's text lays them. -/
import Derived.Test.YtcplpfnieabelaaGreatDoorTrueCanonExamples
import Derived.Test.YtcplpfnieabelaaGreatDoorCanonExamplesFactsA
import Derived.Test.YtcplpfnieabelaaGreatDoorCanonExamplesFactsB
import Derived.Test.YtcplpfnieabelaaGreatDoorCanonExamplesFactsC
import Derived.Test.YtcplpfnieabelaaGreatDoorRows
import Derived.Test.YtcplpfnieabelaaGreatDoorCards
import Derived.Test.YtcplpfnieabelaaGreatDoorTie
import Derived.ProofKit
import Derived.OpenShut
import Derived.LaidMore
import Derived.Lay
import Derived.SevenTiedAt
import Derived.Stop.Joined
namespace Go.Proofs.YtcplpfnieabelaaGreatDoor.canonExamples
open Go Go.AM Go.ChangeShapes Go.WideShapes Go.ChangeAt Go.RowKit

set_option maxRecDepth 100000
theorem own : ownKnob Tryz.prog.godebug = none := by kernel_rfl
theorem starts : startOf Tryz.prog [(2, .i64)] 10 Rows.canonExamplesRow.laid = some blocks := by kernel_rfl
theorem unwritten : (blocks.all fun k : ABlk => !k.writable) = true := by kernel_rfl
theorem plainly (w : World) : laidMetH Tryz.prog Rows.canonExamplesRow.laid w = laidMet Tryz.prog Rows.canonExamplesRow.laid w := MakeChecks.laidMetH_plain _ _ _ (by kernel_rfl)

theorem lifted (os : Os) (started : os.Started) (H : Type) (enc : TypeId × Value → H) :
    ReturnsInHanded {} Tryz.checked os 4 .any (fun w args => (Rows.canonExamplesSpec.pre enc Tryz.prog Tryz.f4 Rows.canonExamplesRow.domain false w args ∧ laidMetH Tryz.prog Rows.canonExamplesRow.laid w) ∧ sizedMet enc Tryz.prog Tryz.f4 (OpenSpec.ofChange Rows.canonExamplesSpec) false w args)
      (Rows.canonExamplesSpec.post enc Tryz.prog Tryz.f4 false true false false) := by
  refine returnsInHanded_of_calls (C := Tryz.checked) own started (by kernel_rfl)
    (ChangeSpec.witness_shaped (enc := enc) (C := Tryz.checked) (os := os) (X := fun w _ => laidMetH Tryz.prog Rows.canonExamplesRow.laid w) false (World.laidAll Tryz.prog os Rows.canonExamplesRow.laid) #[] 8 (World.laidAll_os _ _ _)
      (World.shaped_of_ZipB (by kernel_rfl) (by kernel_rfl)) (by kernel_rfl) (by kernel_rfl) (by kernel_rfl)
      (by rw [plainly]; exact laidMet_laidAll _ (by kernel_rfl) (by kernel_rfl))) ?_
  intro w tape i _ hsh _ _ hpre _
  obtain ⟨⟨⟨ds, gs, before, hw, _⟩, hx⟩, _⟩ := hpre
  have hW := DataW.Whole.of_heap (w' := w.forCall tape i) (by rfl) hw
  have hL : laidMetH Tryz.prog Rows.canonExamplesRow.laid (w.forCall tape i) := hx.of_heap (by rfl)
  refine Calls.mono (R := fun e W' => ∃ v, e = .returned v ∧ Rows.canonExamplesSpec.post enc Tryz.prog Tryz.f4 false true false false (w.forCall tape i) i.args v W') ?_ fun e W' ⟨v, he, hp⟩ => ?_
  · have hW' := hW
    obtain ⟨p, q, hA0, hV, rfl, _, _⟩ := hW
    have hA : DataW.TrodAll enc Tryz.prog (w.forCall tape i) 0 (fun _ => true) true Tryz.f4.params.toList i.args.toList ds p := hA0
    rw [Tryz.params4] at hA
    obtain ⟨ha, rfl, rfl⟩ := trodAll_none hA
    obtain ⟨rfl, rfl⟩ := trodVars_none hV
    rw [plainly] at hL
    rw [ha] at hW' ⊢
    refine (closed_known sound starts (unknown hsh) unwritten evaluated hL).mono fun e W' ⟨he, hk⟩ => ?_
    subst he
    refine ⟨_, rfl, [], [], _, [], [], [], hW', ?_, ?_, ?_, hk _, fun h => by cases h⟩
    · exact trodAll_mk1 (shut_bool Tryz.underlying4 true)
    · show DataW.TrodAll enc Tryz.prog W' 0 _ true Tryz.f4.params.toList _ _ _
      rw [Tryz.params4]; rfl
    · rfl
  · subst he
    exact ChangeSpec.post_blind hp

theorem both {a b : Bool} (h : a = true) (k : b = true) : (a && b) = true := by rw [h, k]; rfl
theorem closed : joinedFacts Tryz.prog 4 Tryz.f4 Rows.canonExamplesSpec Rows.canonExamplesRow = true := (both (both (both (both (both (both (both (both (both (both (both (both (both (both (both (both (both (both (both (both (both (both (both (both (both (both (both (both (both (both (both fact1 fact2) fact3) fact4) fact5) fact6) fact7) fact8) fact9) fact10) fact11) fact12) fact13) fact14) fact15) fact16) fact17) fact18) fact19) fact20) fact21) fact22) fact23) fact24) fact25) fact26) fact27) fact28) fact29) fact30) fact31) fact32)

theorem row_holds : Rows.CanonExamplesSaid :=
  OpenClaim.holds_of_wide 4 Tryz.f4 rfl rfl rfl rfl rfl rfl rfl ⟨rfl, rfl, rfl, rfl, rfl⟩ rfl rfl rfl rfl rfl funcIs Tryz.func4 closed
    instanceOf wrapperOf (fun os started H enc _ => lifted os started H enc)


theorem card_holds : Rows.CanonExamplesCardSaid :=
  Claim7.holds_tied_plain_at .later [] [.data, .data, .wider, .wider, .data, .pinned] true (true, "11c1aca1c2c37042e700ea3229dadca598abffaff1e39185b95c5295e66f6a12") true
    row_holds (fun _ h => by cases h) byText (fun _ h => by cases h) canonExamples_row_tie rfl ⟨rfl, rfl⟩ mainIs rfl
    (fun f fn hf hfn => by
      obtain rfl : f = 4 := Option.some.inj (funcIs.symm.trans hf) |>.symm
      obtain rfl : fn = Tryz.f4 := (Option.some.inj (Tryz.func4.symm.trans hfn)).symm
      exact ⟨looksAt, fun j t ht => by
        rw [Tryz.params4] at ht
        simp at ht⟩)
    (goesBy_none goesNowhere rfl)
#print axioms card_holds
end Go.Proofs.YtcplpfnieabelaaGreatDoor.canonExamples
