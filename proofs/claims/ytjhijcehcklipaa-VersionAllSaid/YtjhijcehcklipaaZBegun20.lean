/-
  A closed function of the program comes back true, and what was there before stays as it was: by the second reading.
-/
import Derived.Test.YtjhijcehcklipaaZEvCall
import Derived.Test.YtjhijcehcklipaaZEvMeths
import Derived.Test.YtjhijcehcklipaaProg
import Derived.KernelRfl
namespace Go.Proofs.Ytjhijcehcklipaa.Begun20
theorem tells : Ev.told (Ev.call Try.prog 100000 100 20 [] ⟨.nil, 0⟩) = true := by kernel_rfl
theorem holds (w : World) : Calls Try.prog 20 #[] w fun e w' => e = .returned (.bool true) ∧ Go.RowKit.Below w.heap.size w w' :=
  Ev.closed_ok Try.prog (by kernel_rfl) 100000 100 20 tells w trivial
end Go.Proofs.Ytjhijcehcklipaa.Begun20
