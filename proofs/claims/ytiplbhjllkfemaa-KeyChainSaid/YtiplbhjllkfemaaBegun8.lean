/-
  A closed function of the program comes back true, and what was there before stays as it was: by the second reading, with strings compared by the host.
-/
import Derived.Test.YtiplbhjllkfemaaCmpEv
namespace Go.Proofs.Ytiplbhjllkfemaa.Begun8
theorem tells : Ev.told (Ev.callO Try.prog Ev.cmpO 100000 100 8 [] ⟨.nil, 0⟩) = true := by kernel_rfl
theorem holds (w : World) : Calls Try.prog 8 #[] w fun e w' => e = .returned (.bool true) ∧ Go.RowKit.Below w.heap.size w w' :=
  Ev.closed_okO Try.prog (by kernel_rfl) Ev.sims_cmp 100000 100 8 tells w
end Go.Proofs.Ytiplbhjllkfemaa.Begun8
