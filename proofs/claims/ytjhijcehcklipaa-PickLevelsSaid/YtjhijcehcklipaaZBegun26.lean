/-
  A closed function of the program comes back true, and what was there before stays as it was: by the second reading.
-/
import Derived.Test.YtjhijcehcklipaaZEvCall
import Derived.Test.YtjhijcehcklipaaZEvMeths
import Derived.Test.YtjhijcehcklipaaProg
import Derived.KernelRfl
namespace Go.Proofs.Ytjhijcehcklipaa.Begun26
theorem tells : Ev.told (Ev.call Try.prog 100000 100 26 [] ⟨.nil, 0⟩) = true := by kernel_rfl
theorem holds (w : World) : Calls Try.prog 26 #[] w fun e w' => e = .returned (.bool true) ∧ Go.RowKit.Below w.heap.size w w' :=
  Ev.closed_ok Try.prog (by kernel_rfl) 100000 100 26 tells w trivial
end Go.Proofs.Ytjhijcehcklipaa.Begun26
