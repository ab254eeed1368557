/-
  A law without arguments: the second reading of the program tells true.
-/
import Derived.Test.YtffhcdfikmpacaaGreatDoorSvScan
import Derived.Test.YtffhcdfikmpacaaGreatDoorSvX
namespace Go.Proofs.YtffhcdfikmpacaaGreatDoor.scanNone
theorem tellsX : Ev.tellsX (Ev.callX Tryz.prog Memo.orc 100000 100 3 [] ⟨.nil, 0⟩) = true := by kernel_rfl
end Go.Proofs.YtffhcdfikmpacaaGreatDoor.scanNone
