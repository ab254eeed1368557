/-
  A law without arguments holds: the second reading of the program tells true, and what it tells holds of the model's run, whatever the world.
-/
import Derived.Test.YtpmonnofmnncjaaRows
import Derived.Test.YtpmonnofmnncjaaEvFs
import Derived.WalkKit
import Derived.ProofKit
import Derived.OpenShut
import Derived.ShutString
import Derived.ChangeOld
import Derived.Below
import Derived.SizedLaws
namespace Go.Proofs.Ytpmonnofmnncjaa.filesNone
open Go.ChangeShapes Go.WideShapes Go.ChangeAt Go.RowKit
set_option linter.unusedVariables false
theorem own : ownKnob Try.prog.godebug = none := by kernel_rfl
theorem mixed : Try.prog.follows .mixedOrders = true := by kernel_rfl
theorem tellsX : Ev.tellsX (Ev.callX Try.prog Ev.fsO 100000 100 3 [] ⟨.nil, 0⟩) = true := by kernel_rfl
theorem tells : Ev.told (Ev.callO Try.prog Ev.fsO 100000 100 3 [] ⟨.nil, 0⟩) = true := Ev.told_of Try.prog mixed Ev.sims_fs 100000 100 3 [] ⟨.nil, 0⟩ tellsX
set_option maxRecDepth 100000 in
theorem lifted (os : Os) (started : os.Started) (H : Type) (enc : TypeId × Value → H) :
    ReturnsInHanded {} Try.checked os 3 .any (Rows.filesNoneSpec.pre6 enc Try.prog Try.f3 Rows.filesNoneRow.domain false) (Rows.filesNoneSpec.post enc Try.prog Try.f3 false true false false) := by
  refine returnsInHanded_of_change_sized (C := Try.checked) own started (by kernel_rfl) Try.func3
    (ChangeSpec.witness6 (enc := enc) (C := Try.checked) false ⟨#[], #[], []⟩ 8 (by kernel_rfl) (by kernel_rfl) (by kernel_rfl) (by kernel_rfl)) ?_
  intro W base args ds gs before hval0 hW hcnd hsz0 _
  have hW' := hW
  obtain ⟨p, q, hA0, hV, rfl, hfz, hnd⟩ := hW
  have hA : DataW.TrodAll enc Try.prog W 0 (fun _ => true) true Try.f3.params.toList args.toList ds p := hA0
  rw [Try.params3] at hA
  obtain ⟨hargs, rfl, rfl⟩ := trodAll_nil hA
  obtain rfl : args = #[] := by cases args; simp_all
  obtain ⟨rfl, rfl⟩ := trodVars_none hV
  clear hA0 hval0 hsz0
  refine (Ev.closed_okO Try.prog mixed Ev.sims_fs 100000 100 3 tells W).mono fun e W' ⟨he, bel⟩ => ?_
  subst he
  exact ⟨_, rfl, _, _, _, [], _, [], hW', trodAll_mk1 (shut_bool Try.underlying4 _), trodAll_mk0, rfl, bel.frame _, fun h => by cases h⟩
theorem over : Rows.filesNoneRow.holds Try.pinned (OpenSpec.ofChange Rows.filesNoneSpec) :=
  OpenClaim.holds_of_wide 3 Try.f3 rfl rfl rfl rfl rfl rfl rfl ⟨rfl, rfl, rfl, rfl, rfl⟩ rfl rfl rfl rfl rfl (by kernel_rfl) Try.func3 (by kernel_rfl)
    (of_decide_eq_true (by kernel_rfl)) (by unfold Func.isWrapper; first | (rw [if_pos (by decide +kernel)]; kernel_rfl) | (rw [if_neg (by decide +kernel)]; exact ⟨rfl, rfl⟩))
    (fun os started H enc _ => lifted os started H enc)
theorem proved : Rows.FilesNoneSaid := over
#print axioms proved
end Go.Proofs.Ytpmonnofmnncjaa.filesNone
namespace Go.Proofs.Ytpmonnofmnncjaa
/-- The row, under a short name, for the claim. -/
theorem filesNone_holds : Rows.FilesNoneSaid := filesNone.proved
end Go.Proofs.Ytpmonnofmnncjaa
