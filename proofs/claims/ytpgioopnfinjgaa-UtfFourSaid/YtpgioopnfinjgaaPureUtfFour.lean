/-
  Proved: for all four bytes, incipitlaw1.UtfFour returns true: utf.First tells of the four bytes what the reference tells. Conditions: none beyond each argument being a byte.
-/
import Derived.Test.YtpgioopnfinjgaaRefFirstUtfFour
import Derived.KernelRfl
namespace Go.Proofs.Ytpgioopnfinjgaa.Pure
open Go.RowKit Go.Proofs.Ytpgioopnfinjgaa.PUtfFour Go.Proofs.YtpgioopnfinjgaaW.PrintWords Go.Proofs.YtpgioopnfinjgaaW.PrintLast Go.Proofs.Ytpgioopnfinjgaa.Utf Go.Proofs.Ytpgioopnfinjgaa.PureUtfFour

theorem begun_30 : incipitlaw1_begun.f 30 = some true := by kernel_rfl

theorem UtfFour : incipitlaw1_UtfFour.Pure := by
  intro a b c d _ _ _ _
  refine ⟨30, ?_⟩
  unfold incipitlaw1_UtfFour.f
  rw [begun_30]
  simp only [Option.bind_some, if_true]
  rw [first_at (by omega), ref_first_at (by omega)]
  simp

end Go.Proofs.Ytpgioopnfinjgaa.Pure
