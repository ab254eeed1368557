/-
  A law without arguments: the second reading of the program tells true.
-/
import Derived.Test.YtffhcdfikmpacaaGreatDoorEvStore
import Derived.Test.YtffhcdfikmpacaaGreatDoorEvX
namespace Go.Proofs.YtffhcdfikmpacaaGreatDoor.storeNone
theorem tellsX : Ev.tellsX (Ev.callX Tryz.prog Memo.orc 100000 100 4 [] ⟨.nil, 0⟩) = true := by kernel_rfl
end Go.Proofs.YtffhcdfikmpacaaGreatDoor.storeNone
