/- 'spindlelaw31.SliceExamples' returns true, and memory that was there is as it was: the row and the tied card; condition: the four listed package variables are as the program's text lays them. -/
import Derived.Test.YtakdilnnkjhaiaaGreatDoorRun
import Derived.Test.YtakdilnnkjhaiaaGreatDoorRows
import Derived.Test.YtakdilnnkjhaiaaGreatDoorCards
import Derived.Test.YtakdilnnkjhaiaaGreatDoorTie
import Derived.ProofKit
import Derived.OpenShut
import Derived.LaidMore
import Derived.Lay
import Derived.SevenTiedAt
import Derived.Stop.Joined
namespace Go.Proofs.YtakdilnnkjhaiaaGreatDoor
open Go Go.AM Go.ChangeShapes Go.WideShapes Go.ChangeAt Go.RowKit

set_option maxRecDepth 100000
theorem own : ownKnob Tryz.prog.godebug = none := by kernel_rfl
theorem mixed : Tryz.prog.follows .mixedOrders = true := by kernel_rfl
theorem starts : startOf Tryz.prog 10 Rows.sliceExamplesRow.laid = some blocks := by kernel_rfl
theorem unwritten : (blocks.all fun k : ABlk => !k.writable) = true := by kernel_rfl
theorem plainly (w : World) : laidMetH Tryz.prog Rows.sliceExamplesRow.laid w = laidMet Tryz.prog Rows.sliceExamplesRow.laid w := MakeChecks.laidMetH_plain _ _ _ (by kernel_rfl)

theorem lifted (os : Os) (started : os.Started) (H : Type) (enc : TypeId × Value → H) :
    ReturnsInHanded {} Tryz.checked os 3 .any (fun w args => (Rows.sliceExamplesSpec.pre enc Tryz.prog Tryz.f3 Rows.sliceExamplesRow.domain false w args ∧ laidMetH Tryz.prog Rows.sliceExamplesRow.laid w) ∧ sizedMet enc Tryz.prog Tryz.f3 (OpenSpec.ofChange Rows.sliceExamplesSpec) false w args)
      (Rows.sliceExamplesSpec.post enc Tryz.prog Tryz.f3 false true false false) := by
  refine returnsInHanded_of_change_and (C := Tryz.checked) (X := fun w _ => laidMetH Tryz.prog Rows.sliceExamplesRow.laid w) (fun _ _ _ hh h => h.of_heap hh) own started (by kernel_rfl) Tryz.func3
    (ChangeSpec.witness_shaped (enc := enc) (C := Tryz.checked) (os := os) (X := fun w _ => laidMetH Tryz.prog Rows.sliceExamplesRow.laid w) false (World.laidAll Tryz.prog os Rows.sliceExamplesRow.laid) #[] 8 (World.laidAll_os _ _ _)
      (World.shaped_of_ZipB (by kernel_rfl) (by kernel_rfl)) (by kernel_rfl) (by kernel_rfl) (by kernel_rfl)
      (by rw [plainly]; exact laidMet_laidAll _ (by kernel_rfl) (by kernel_rfl))) ?_
  intro W base args ds gs before _ hW _ _ hL _
  have hW' := hW
  obtain ⟨p, q, hA0, hV, rfl, _, _⟩ := hW
  have hA : DataW.TrodAll enc Tryz.prog W 0 (fun _ => true) true Tryz.f3.params.toList args.toList ds p := hA0
  rw [Tryz.params3] at hA
  obtain ⟨rfl, rfl, rfl⟩ := trodAll_none hA
  obtain ⟨rfl, rfl⟩ := trodVars_none hV
  rw [plainly] at hL
  refine (closed_calls mixed starts unwritten evaluated hL).mono fun e W' ⟨he, hk⟩ => ?_
  subst he
  refine ⟨_, rfl, [], [], _, [], [], [], hW', ?_, ?_, ?_, hk _, fun h => by cases h⟩
  · exact trodAll_mk1 (shut_bool Tryz.underlying4 true)
  · show DataW.TrodAll enc Tryz.prog W' 0 _ true Tryz.f3.params.toList _ _ _
    rw [Tryz.params3]; rfl
  · rfl

theorem both {a b : Bool} (h : a = true) (k : b = true) : (a && b) = true := by rw [h, k]; rfl
theorem fact1 : (Rows.sliceExamplesRow.wf (OpenSpec.ofChange Rows.sliceExamplesSpec)) = true := by kernel_rfl
theorem fact2 : (laidOutB Tryz.prog) = true := by kernel_rfl
theorem fact3 : (mapsRowed Tryz.prog) = true := by kernel_rfl
theorem fact4 : (Tryz.f3.params.all (Tryz.prog.readableRec ·)) = true := by kernel_rfl
theorem fact5 : (namedTie Tryz.prog Rows.sliceExamplesRow.named Rows.sliceExamplesSpec.vars) = true := by kernel_rfl
theorem fact6 : ((Rows.sliceExamplesRow.stops == [])) = true := by kernel_rfl
theorem fact7 : ((Tryz.prog.stops == [])) = true := by kernel_rfl
theorem fact8 : ((Rows.sliceExamplesRow.knobs == [])) = true := by kernel_rfl
theorem fact9 : ((Tryz.prog.stopKnobs == [])) = true := by kernel_rfl
theorem fact10 : ((Rows.sliceExamplesRow.inPlace == Tryz.prog.inPlace 3)) = true := by kernel_rfl
theorem fact11 : ((Rows.sliceExamplesRow.unfollowed == Tryz.prog.unfollowed 3)) = true := by kernel_rfl
theorem fact12 : ((Rows.sliceExamplesRow.recurses == Tryz.prog.recurses 3)) = true := by kernel_rfl
theorem fact13 : ((Rows.sliceExamplesRow.named == Tryz.prog.varsNamed 3)) = true := by kernel_rfl
theorem fact14 : ((Rows.sliceExamplesRow.maps == (Tryz.f3.params.toList ++ Rows.sliceExamplesSpec.plain.varTypes Tryz.prog).any (Tryz.prog.mapsRec ·))) = true := by kernel_rfl
theorem fact15 : ((Rows.sliceExamplesRow.ifaces == (Tryz.f3.params.toList ++ Rows.sliceExamplesSpec.plain.varTypes Tryz.prog).any (Tryz.prog.ifacesRec ·))) = true := by kernel_rfl
theorem fact16 : ((Rows.sliceExamplesRow.mapsOut == Tryz.prog.mapsAmong Tryz.f3.resultTypes.toList)) = true := by kernel_rfl
theorem fact17 : ((Rows.sliceExamplesRow.loops == (Tryz.f3.params.toList ++ Rows.sliceExamplesSpec.plain.varTypes Tryz.prog).any (Tryz.prog.loopsFrom ·))) = true := by kernel_rfl
theorem fact18 : ((Rows.sliceExamplesRow.wideKeys == (Tryz.f3.params.toList ++ Rows.sliceExamplesSpec.plain.varTypes Tryz.prog ++ Tryz.f3.resultTypes.toList).any (Tryz.prog.wideKeysFrom ·))) = true := by kernel_rfl
theorem fact19 : (Rows.sliceExamplesSpec.vars.all (Tryz.prog.varReadable ·)) = true := by kernel_rfl
theorem fact20 : (Tryz.f3.resultTypes.all (fun t => Tryz.prog.readableRec t && decide (t < Tryz.prog.types.size))) = true := by kernel_rfl
theorem fact21 : ((Rows.sliceExamplesRow.ifacesOut == Tryz.f3.resultTypes.toList.any (Tryz.prog.ifacesRec ·))) = true := by kernel_rfl
theorem fact22 : ((Rows.sliceExamplesRow.loopsOut == Tryz.f3.resultTypes.toList.any (Tryz.prog.loopsFrom ·))) = true := by kernel_rfl
theorem fact23 : ((Rows.sliceExamplesRow.plainKeys == Tryz.prog.plainKeys)) = true := by kernel_rfl
theorem fact24 : (Rows.sliceExamplesRow.shortTexts.isNone) = true := by kernel_rfl
theorem fact25 : (Tryz.prog.stopsHeard) = true := by kernel_rfl
theorem fact26 : (Tryz.prog.mayEnter) = true := by kernel_rfl
theorem fact27 : ((Rows.sliceExamplesRow.lifted == Tryz.prog.liftsFinal)) = true := by kernel_rfl
theorem fact28 : ((Tryz.prog.make == some Rows.sliceExamplesRow.make)) = true := by kernel_rfl
theorem fact29 : ((Rows.sliceExamplesRow.kinds == (if Rows.sliceExamplesRow.domain.isEmpty then [] else Tryz.f3.params.toList.map fun t => match Tryz.prog.underlying t with | some (.int k) => some k | _ => none))) = true := by kernel_rfl
theorem fact30 : ((Rows.sliceExamplesRow.pinned == Rows.sliceExamplesRow.pinnedBy)) = true := by kernel_rfl
theorem fact31 : ((Rows.sliceExamplesRow.veiled == (Tryz.f3.params.toList ++ Rows.sliceExamplesSpec.plain.varTypes Tryz.prog ++ Tryz.f3.resultTypes.toList).any (Tryz.prog.veiledRec ·))) = true := by kernel_rfl
theorem fact32 : (Rows.sliceExamplesRow.veiledFits Tryz.prog Tryz.f3.params.toList (Tryz.f3.params.toList ++ Rows.sliceExamplesSpec.plain.varTypes Tryz.prog ++ Tryz.f3.resultTypes.toList)) = true := by kernel_rfl
theorem closed : joinedFacts Tryz.prog 3 Tryz.f3 Rows.sliceExamplesSpec Rows.sliceExamplesRow = true := (both (both (both (both (both (both (both (both (both (both (both (both (both (both (both (both (both (both (both (both (both (both (both (both (both (both (both (both (both (both (both fact1 fact2) fact3) fact4) fact5) fact6) fact7) fact8) fact9) fact10) fact11) fact12) fact13) fact14) fact15) fact16) fact17) fact18) fact19) fact20) fact21) fact22) fact23) fact24) fact25) fact26) fact27) fact28) fact29) fact30) fact31) fact32)
theorem funcIs : Tryz.prog.funcNamed "spindle/spindlelaw31.SliceExamples" = some 3 := by kernel_rfl
theorem instanceOf : Tryz.f3.isInstance Tryz.prog Rows.sliceExamplesRow.origin Rows.sliceExamplesRow.targs := of_decide_eq_true (by kernel_rfl)
theorem wrapperOf : Tryz.f3.isWrapper Tryz.prog Rows.sliceExamplesRow.wrapper Rows.sliceExamplesRow.mainSum := by
  unfold Func.isWrapper
  rw [if_neg (of_decide_eq_false (by kernel_rfl))]
  exact ⟨rfl, rfl⟩

theorem row_holds : Rows.SliceExamplesSaid :=
  OpenClaim.holds_of_wide 3 Tryz.f3 rfl rfl rfl rfl rfl rfl rfl ⟨rfl, rfl, rfl, rfl, rfl⟩ rfl rfl rfl rfl rfl funcIs Tryz.func3 closed
    instanceOf wrapperOf (fun os started H enc _ => lifted os started H enc)

theorem byText : Rows.sliceExamplesRow.wfByText (OpenSpec.ofChange Rows.sliceExamplesSpec) = true := by kernel_rfl
theorem mainIs : Tryz.prog.mainIs = some (true, "1e61c5e46e1b628eee1ad959d82798972531014503b79d66f0cb56b4e52f10e4".toList) := by kernel_rfl
theorem looksAt : true = Tryz.prog.looks [] := by kernel_rfl
theorem goesNot : false = Rows.sliceExamplesRow.goesBy Tryz.prog := by kernel_rfl

theorem sliceExamples_holds : Rows.SliceExamplesCardSaid :=
  Claim7.holds_tied_plain_at .later [] [.data, .wider, .wider, .data] true (true, "1e61c5e46e1b628eee1ad959d82798972531014503b79d66f0cb56b4e52f10e4") true
    row_holds (fun _ h => by cases h) byText (fun _ h => by cases h) sliceExamples_row_tie rfl ⟨rfl, rfl⟩ mainIs rfl
    (fun f fn hf hfn => by
      obtain rfl : f = 3 := Option.some.inj (funcIs.symm.trans hf) |>.symm
      obtain rfl : fn = Tryz.f3 := (Option.some.inj (Tryz.func3.symm.trans hfn)).symm
      exact ⟨looksAt, fun j t ht => by
        rw [Tryz.params3] at ht
        simp at ht⟩)
    goesNot
#print axioms sliceExamples_holds
end Go.Proofs.YtakdilnnkjhaiaaGreatDoor
