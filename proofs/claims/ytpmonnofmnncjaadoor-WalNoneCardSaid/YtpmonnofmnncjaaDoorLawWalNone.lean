/-
  A law without arguments holds, and its card: the second reading of the program tells true, and what it tells holds of the model's run, whatever the world (the listed variables are not read).
-/
import Derived.Test.YtpmonnofmnncjaaDoorRows
import Derived.Test.YtpmonnofmnncjaaDoorCards
import Derived.Test.YtpmonnofmnncjaaDoorTie
import Derived.Test.YtpmonnofmnncjaaDoorEvFsU
import Derived.Test.YtpmonnofmnncjaaDoorEvX
import Derived.WalkKit
import Derived.ProofKit
import Derived.OpenShut
import Derived.ShutString
import Derived.ChangeOld
import Derived.Below
import Derived.SizedLaws
import Derived.LaidMore
import Derived.Lay
import Derived.SevenTiedAt
import Derived.Stop.Joined
namespace Go.Proofs.YtpmonnofmnncjaaDoor.walNone
open Go.ChangeShapes Go.WideShapes Go.ChangeAt Go.RowKit
set_option linter.unusedVariables false
theorem own : ownKnob Tryd.prog.godebug = none := by kernel_rfl
theorem mixed : Tryd.prog.follows .mixedOrders = true := by kernel_rfl
theorem tellsX : Ev.tellsX (Ev.callX Tryd.prog Ev.fsO 100000 100 3 [] ⟨.nil, 0⟩) = true := by kernel_rfl
theorem tells : Ev.told (Ev.callO Tryd.prog Ev.fsO 100000 100 3 [] ⟨.nil, 0⟩) = true := Ev.told_of Tryd.prog mixed Ev.sims_fs 100000 100 3 [] ⟨.nil, 0⟩ tellsX
set_option maxRecDepth 100000 in
theorem lifted (os : Os) (started : os.Started) (H : Type) (enc : TypeId × Value → H) :
    ReturnsInHanded {} Tryd.checked os 3 .any (fun w args => (Rows.walNoneSpec.pre enc Tryd.prog Tryd.f3 Rows.walNoneRow.domain false w args ∧ laidMetH Tryd.prog Rows.walNoneRow.laid w) ∧ sizedMet enc Tryd.prog Tryd.f3 (OpenSpec.ofChange Rows.walNoneSpec) false w args)
      (Rows.walNoneSpec.post enc Tryd.prog Tryd.f3 false true false false) := by
  refine returnsInHanded_of_change_and (C := Tryd.checked) (X := fun w _ => laidMetH Tryd.prog Rows.walNoneRow.laid w) (fun _ _ _ hh h => h.of_heap hh) own started (by kernel_rfl) Tryd.func3
    (ChangeSpec.witness_shaped (enc := enc) (C := Tryd.checked) (os := os) (X := fun w _ => laidMetH Tryd.prog Rows.walNoneRow.laid w) false (World.laidAll Tryd.prog os Rows.walNoneRow.laid) #[] 8 (World.laidAll_os _ _ _)
      (World.shaped_of_ZipB (by kernel_rfl) (by kernel_rfl)) (by kernel_rfl) (by kernel_rfl) (by kernel_rfl)
      (by rw [MakeChecks.laidMetH_plain _ _ _ (by kernel_rfl)]; exact laidMet_laidAll _ (by kernel_rfl) (by kernel_rfl))) ?_
  intro W base args ds gs before hval0 hW hc _ hL _
  have hW' := hW
  obtain ⟨p, q, hA0, hV, rfl, hfz, hnd⟩ := hW
  have hA : DataW.TrodAll enc Tryd.prog W 0 (fun _ => true) true Tryd.f3.params.toList args.toList ds p := hA0
  rw [Tryd.params3] at hA
  obtain ⟨hargs, rfl, rfl⟩ := trodAll_nil hA
  obtain rfl : args = #[] := by cases args; simp_all
  obtain ⟨rfl, rfl⟩ := trodVars_none hV
  clear hA0 hval0 hL
  refine (Ev.closed_okO Tryd.prog mixed Ev.sims_fs 100000 100 3 tells W).mono fun e W' ⟨he, bel⟩ => ?_
  subst he
  exact ⟨_, rfl, _, _, _, [], _, [], hW', trodAll_mk1 (shut_bool Tryd.underlying4 _), trodAll_mk0, rfl, bel.frame _, fun h => by cases h⟩
theorem over : Rows.walNoneRow.holds Tryd.pinned (OpenSpec.ofChange Rows.walNoneSpec) :=
  OpenClaim.holds_of_wide 3 Tryd.f3 rfl rfl rfl rfl rfl rfl rfl ⟨rfl, rfl, rfl, rfl, rfl⟩ rfl rfl rfl rfl rfl (by kernel_rfl) Tryd.func3 (by kernel_rfl)
    (of_decide_eq_true (by kernel_rfl)) (by unfold Func.isWrapper; first | (rw [if_pos (by decide +kernel)]; kernel_rfl) | (rw [if_neg (by decide +kernel)]; exact ⟨rfl, rfl⟩))
    (fun os started H enc _ => lifted os started H enc)
theorem card : Rows.WalNoneCardSaid :=
  Claim7.holds_tied_plain_at .later [] Rows.walNoneCard.laidKinds true Rows.walNoneCard.stood.harness Rows.walNoneCard.stood.looks over (fun _ h => by cases h) (by kernel_rfl) (fun _ h => by cases h) walNone_row_tie rfl ⟨rfl, rfl⟩ (by kernel_rfl) rfl
    (fun f fn hf hfn => by
      obtain rfl : f = 3 := Option.some.inj ((show Tryd.prog.funcNamed Rows.walNoneRow.func = some 3 by kernel_rfl).symm.trans hf) |>.symm
      obtain rfl : fn = Tryd.f3 := (Option.some.inj (Tryd.func3.symm.trans hfn)).symm
      exact ⟨by kernel_rfl, fun j t ht => by
        rw [Tryd.params3] at ht
        simp at ht⟩)
    (by kernel_rfl)
#print axioms card
end Go.Proofs.YtpmonnofmnncjaaDoor.walNone
namespace Go.Proofs.YtpmonnofmnncjaaDoor
/-- The card, under a short name, for the claim. -/
theorem walNone_holds : Rows.WalNoneCardSaid := walNone.card
end Go.Proofs.YtpmonnofmnncjaaDoor
