/-
  A law without arguments: the second reading of the program tells true.
-/
import Derived.Test.YtffhcdfikmpacaaGreatDoorEvParse
import Derived.Test.YtffhcdfikmpacaaGreatDoorEvX
namespace Go.Proofs.YtffhcdfikmpacaaGreatDoor.scriptNone
theorem tellsX : Ev.tellsX (Ev.callX Tryz.prog Ev.allO 100000 100 5 [] ⟨.nil, 0⟩) = true := by kernel_rfl
end Go.Proofs.YtffhcdfikmpacaaGreatDoor.scriptNone
