/-
  So many marks behind one another: told at these numbers.
-/
import Derived.Test.YtpmonnofmnncjaaMarks
namespace Go.Proofs.Ytpmonnofmnncjaa.Marks
theorem part_true_0 : allF 12 (fun i => run (.ofNat (0 + i)) true) = true := by kernel_rfl
theorem part_true_12 : allF 5 (fun i => run (.ofNat (12 + i)) true) = true := by kernel_rfl
theorem part_true_17 : allF 4 (fun i => run (.ofNat (17 + i)) true) = true := by kernel_rfl
theorem part_true_21 : allF 3 (fun i => run (.ofNat (21 + i)) true) = true := by kernel_rfl
theorem part_true_24 : allF 3 (fun i => run (.ofNat (24 + i)) true) = true := by kernel_rfl
theorem part_true_27 : allF 3 (fun i => run (.ofNat (27 + i)) true) = true := by kernel_rfl
theorem part_true_30 : allF 3 (fun i => run (.ofNat (30 + i)) true) = true := by kernel_rfl
end Go.Proofs.Ytpmonnofmnncjaa.Marks
