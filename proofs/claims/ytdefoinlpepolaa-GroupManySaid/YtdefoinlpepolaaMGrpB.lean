-- written by mp.py, a program of this session's over the kit's printer
import Derived.Test.YtdefoinlpepolaaMGrpx0
namespace Go.Proofs.Ytdefoinlpepolaa.MGrp
open Go.RowKit Go.Proofs.YtdefoinlpepolaaW.PrintWords Go.Proofs.YtdefoinlpepolaaW.PrintLast Go.Proofs.YtdefoinlpepolaaW.PrintMore
attribute [local go_sem] max2_int min2_int max_two min_two max_three min_three max_four min_four   -- for this text's walks alone
set_option linter.unusedVariables false
set_option linter.unusedSimpArgs false

/-! ### incipitlaw12_begun: function 14 -/
def incipitlaw12_begun.f : Option Bool := some true
theorem incipitlaw12_begun.calls (r : Bool) (w : World) (h : incipitlaw12_begun.f = some r) :
 Calls Try.prog 14 #[] w fun e w' => e = .returned (.bool r) ∧ Below w.heap.size w w' := by
 obtain rfl := Option.some.inj h
 exact Begun14.holds w

end Go.Proofs.Ytdefoinlpepolaa.MGrp
