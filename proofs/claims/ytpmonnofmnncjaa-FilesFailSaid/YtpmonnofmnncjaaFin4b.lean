/-
  The law of two numbers, told at these of the first.
-/
import Derived.Test.YtpmonnofmnncjaaFin4
namespace Go.Proofs.Ytpmonnofmnncjaa.Fin4
theorem row7 : allF 21 (fun k => run (.ofNat 7) (.ofNat k)) = true := by kernel_rfl
theorem row8 : allF 21 (fun k => run (.ofNat 8) (.ofNat k)) = true := by kernel_rfl
theorem row9 : allF 21 (fun k => run (.ofNat 9) (.ofNat k)) = true := by kernel_rfl
theorem row10 : allF 21 (fun k => run (.ofNat 10) (.ofNat k)) = true := by kernel_rfl
theorem row11 : allF 21 (fun k => run (.ofNat 11) (.ofNat k)) = true := by kernel_rfl
theorem row12 : allF 21 (fun k => run (.ofNat 12) (.ofNat k)) = true := by kernel_rfl
theorem row13 : allF 21 (fun k => run (.ofNat 13) (.ofNat k)) = true := by kernel_rfl
end Go.Proofs.Ytpmonnofmnncjaa.Fin4
