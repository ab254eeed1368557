/-
  The law of two numbers, told at these of the first.
-/
import Derived.Test.YtpmonnofmnncjaaFin4
namespace Go.Proofs.Ytpmonnofmnncjaa.Fin4
theorem row14 : allF 21 (fun k => run (.ofNat 14) (.ofNat k)) = true := by kernel_rfl
theorem row15 : allF 21 (fun k => run (.ofNat 15) (.ofNat k)) = true := by kernel_rfl
theorem row16 : allF 21 (fun k => run (.ofNat 16) (.ofNat k)) = true := by kernel_rfl
theorem row17 : allF 21 (fun k => run (.ofNat 17) (.ofNat k)) = true := by kernel_rfl
theorem row18 : allF 21 (fun k => run (.ofNat 18) (.ofNat k)) = true := by kernel_rfl
theorem row19 : allF 21 (fun k => run (.ofNat 19) (.ofNat k)) = true := by kernel_rfl
theorem row20 : allF 21 (fun k => run (.ofNat 20) (.ofNat k)) = true := by kernel_rfl
end Go.Proofs.Ytpmonnofmnncjaa.Fin4
