/-
  A closed function of the program comes back true, and what was there before stays as it was: by the second reading's swift form, with the sum of all files' sizes told by its contract.
-/
import Derived.Test.YtjhijcehcklipaaDoorEvFsU
import Derived.Test.YtjhijcehcklipaaDoorProg
import Derived.KernelRfl
namespace Go.Proofs.YtjhijcehcklipaaDoor.Begun4
theorem mixed : Tryd.prog.follows .mixedOrders = true := by kernel_rfl
theorem tellsX : Ev.tellsX (Ev.callX Tryd.prog Ev.fsO 100000 100 4 [] ⟨.nil, 0⟩) = true := by kernel_rfl
theorem tells : Ev.told (Ev.callO Tryd.prog Ev.fsO 100000 100 4 [] ⟨.nil, 0⟩) = true := Ev.told_of Tryd.prog mixed Ev.sims_fs 100000 100 4 [] ⟨.nil, 0⟩ tellsX
theorem holds (w : World) : Calls Tryd.prog 4 #[] w fun e w' => e = .returned (.bool true) ∧ Go.RowKit.Below w.heap.size w w' :=
  Ev.closed_okO Tryd.prog mixed Ev.sims_fs 100000 100 4 tells w
end Go.Proofs.YtjhijcehcklipaaDoor.Begun4
