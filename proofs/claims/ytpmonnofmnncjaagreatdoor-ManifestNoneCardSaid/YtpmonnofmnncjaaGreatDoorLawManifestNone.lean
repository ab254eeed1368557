/-
  A law without arguments holds, and its card: the second reading of the program tells true, and what it tells holds of the model's run, whatever the world (the listed variables are not read).
-/
import Derived.Test.YtpmonnofmnncjaaGreatDoorRows
import Derived.Test.YtpmonnofmnncjaaGreatDoorCards
import Derived.Test.YtpmonnofmnncjaaGreatDoorTie
import Derived.Test.YtpmonnofmnncjaaGreatDoorTold3
import Derived.Test.YtpmonnofmnncjaaGreatDoorFacts3
import Derived.WalkKit
import Derived.ProofKit
import Derived.OpenShut
import Derived.ShutString
import Derived.ChangeOld
import Derived.Below
import Derived.SizedLaws
import Derived.LaidMore
import Derived.Lay
import Derived.SevenTiedAt
import Derived.Stop.Joined
namespace Go.Proofs.YtpmonnofmnncjaaGreatDoor.manifestNone
open Go.ChangeShapes Go.WideShapes Go.ChangeAt Go.RowKit
set_option linter.unusedVariables false
theorem own : ownKnob Tryz.prog.godebug = none := by kernel_rfl
theorem mixed : Tryz.prog.follows .mixedOrders = true := by kernel_rfl
theorem tellsX : Ev.tellsX (Ev.callX Tryz.prog Ev.fsO 100000 100 3 [] ⟨.nil, 0⟩) = true := by rw [← Ev.callV_eq]; exact tellsV
theorem tells : Ev.told (Ev.callO Tryz.prog Ev.fsO 100000 100 3 [] ⟨.nil, 0⟩) = true := Ev.told_of Tryz.prog mixed Ev.sims_fs 100000 100 3 [] ⟨.nil, 0⟩ tellsX
set_option maxRecDepth 100000 in
theorem lifted (os : Os) (started : os.Started) (H : Type) (enc : TypeId × Value → H) :
    ReturnsInHanded {} Tryz.checked os 3 .any (fun w args => (Rows.manifestNoneSpec.pre enc Tryz.prog Tryz.f3 Rows.manifestNoneRow.domain false w args ∧ laidMetH Tryz.prog Rows.manifestNoneRow.laid w) ∧ sizedMet enc Tryz.prog Tryz.f3 (OpenSpec.ofChange Rows.manifestNoneSpec) false w args)
      (Rows.manifestNoneSpec.post enc Tryz.prog Tryz.f3 false true false false) := by
  refine returnsInHanded_of_change_and (C := Tryz.checked) (X := fun w _ => laidMetH Tryz.prog Rows.manifestNoneRow.laid w) (fun _ _ _ hh h => h.of_heap hh) own started (by kernel_rfl) Tryz.func3
    (ChangeSpec.witness_shaped (enc := enc) (C := Tryz.checked) (os := os) (X := fun w _ => laidMetH Tryz.prog Rows.manifestNoneRow.laid w) false (World.laidAll Tryz.prog os Rows.manifestNoneRow.laid) #[] 8 (World.laidAll_os _ _ _)
      (World.shaped_of_ZipB (by kernel_rfl) (by kernel_rfl)) (by kernel_rfl) (by kernel_rfl) (by kernel_rfl)
      (by rw [MakeChecks.laidMetH_plain _ _ _ (by kernel_rfl)]; exact laidMet_laidAll _ (by kernel_rfl) (by kernel_rfl))) ?_
  intro W base args ds gs before hval0 hW hc _ hL _
  have hW' := hW
  obtain ⟨p, q, hA0, hV, rfl, hfz, hnd⟩ := hW
  have hA : DataW.TrodAll enc Tryz.prog W 0 (fun _ => true) true Tryz.f3.params.toList args.toList ds p := hA0
  rw [Tryz.params3] at hA
  obtain ⟨hargs, rfl, rfl⟩ := trodAll_nil hA
  obtain rfl : args = #[] := by cases args; simp_all
  obtain ⟨rfl, rfl⟩ := trodVars_none hV
  clear hA0 hval0 hL
  refine (Ev.closed_okO Tryz.prog mixed Ev.sims_fs 100000 100 3 tells W).mono fun e W' ⟨he, bel⟩ => ?_
  subst he
  exact ⟨_, rfl, _, _, _, [], _, [], hW', trodAll_mk1 (shut_bool Tryz.underlying4 _), trodAll_mk0, rfl, bel.frame _, fun h => by cases h⟩
theorem over : Rows.manifestNoneRow.holds Tryz.pinned (OpenSpec.ofChange Rows.manifestNoneSpec) :=
  OpenClaim.holds_of_wide 3 Tryz.f3 rfl rfl rfl rfl rfl rfl rfl ⟨rfl, rfl, rfl, rfl, rfl⟩ rfl rfl rfl rfl rfl named Tryz.func3 facts inst wrap
    (fun os started H enc _ => lifted os started H enc)
theorem card : Rows.ManifestNoneCardSaid :=
  Claim7.holds_tied_plain_at .later [] Rows.manifestNoneCard.laidKinds true Rows.manifestNoneCard.stood.harness Rows.manifestNoneCard.stood.looks over (fun _ h => by cases h) byText (fun _ h => by cases h) manifestNone_row_tie rfl ⟨rfl, rfl⟩ mainIs rfl
    (fun f fn hf hfn => by
      obtain rfl : f = 3 := Option.some.inj (named.symm.trans hf) |>.symm
      obtain rfl : fn = Tryz.f3 := (Option.some.inj (Tryz.func3.symm.trans hfn)).symm
      exact ⟨looks, fun j t ht => by
        rw [Tryz.params3] at ht
        simp at ht⟩)
    goes
#print axioms card
end Go.Proofs.YtpmonnofmnncjaaGreatDoor.manifestNone
namespace Go.Proofs.YtpmonnofmnncjaaGreatDoor
/-- The card, under a short name, for the claim. -/
theorem manifestNone_holds : Rows.ManifestNoneCardSaid := manifestNone.card
end Go.Proofs.YtpmonnofmnncjaaGreatDoor
