/-
  So many marks behind one another: told at these numbers.
-/
import Derived.Test.YtpmonnofmnncjaaMarks
namespace Go.Proofs.Ytpmonnofmnncjaa.Marks
theorem part_false_0 : allF 13 (fun i => run (.ofNat (0 + i)) false) = true := by kernel_rfl
theorem part_false_13 : allF 5 (fun i => run (.ofNat (13 + i)) false) = true := by kernel_rfl
theorem part_false_18 : allF 4 (fun i => run (.ofNat (18 + i)) false) = true := by kernel_rfl
theorem part_false_22 : allF 4 (fun i => run (.ofNat (22 + i)) false) = true := by kernel_rfl
theorem part_false_26 : allF 3 (fun i => run (.ofNat (26 + i)) false) = true := by kernel_rfl
theorem part_false_29 : allF 3 (fun i => run (.ofNat (29 + i)) false) = true := by kernel_rfl
theorem part_false_32 : allF 4 (fun i => run (.ofNat (32 + i)) false) = true := by kernel_rfl
end Go.Proofs.Ytpmonnofmnncjaa.Marks
