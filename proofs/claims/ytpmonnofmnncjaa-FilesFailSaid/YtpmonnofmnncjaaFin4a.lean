/-
  The law of two numbers, told at these of the first.
-/
import Derived.Test.YtpmonnofmnncjaaFin4
namespace Go.Proofs.Ytpmonnofmnncjaa.Fin4
theorem row0 : allF 21 (fun k => run (.ofNat 0) (.ofNat k)) = true := by kernel_rfl
theorem row1 : allF 21 (fun k => run (.ofNat 1) (.ofNat k)) = true := by kernel_rfl
theorem row2 : allF 21 (fun k => run (.ofNat 2) (.ofNat k)) = true := by kernel_rfl
theorem row3 : allF 21 (fun k => run (.ofNat 3) (.ofNat k)) = true := by kernel_rfl
theorem row4 : allF 21 (fun k => run (.ofNat 4) (.ofNat k)) = true := by kernel_rfl
theorem row5 : allF 21 (fun k => run (.ofNat 5) (.ofNat k)) = true := by kernel_rfl
theorem row6 : allF 21 (fun k => run (.ofNat 6) (.ofNat k)) = true := by kernel_rfl
end Go.Proofs.Ytpmonnofmnncjaa.Fin4
