/-
  A law without arguments: the second reading of the program tells true.
-/
import Derived.Test.YtpmonnofmnncjaaGreatDoorEvFs
import Derived.Test.YtpmonnofmnncjaaGreatDoorEvY
namespace Go.Proofs.YtpmonnofmnncjaaGreatDoor.manifestNone
theorem tellsV : Ev.tellsX (Ev.callV Tryz.prog Ev.fsO 100000 100 3 [] ⟨.nil, 0⟩) = true := by kernel_rfl
end Go.Proofs.YtpmonnofmnncjaaGreatDoor.manifestNone
