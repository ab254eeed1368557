/-
  So many marks behind one another: told at these numbers.
-/
import Derived.Test.YtpmonnofmnncjaaMarks
namespace Go.Proofs.Ytpmonnofmnncjaa.Marks
theorem part_true_33 : allF 4 (fun i => run (.ofNat (33 + i)) true) = true := by kernel_rfl
theorem part_true_37 : allF 4 (fun i => run (.ofNat (37 + i)) true) = true := by kernel_rfl
theorem part_true_41 : allF 4 (fun i => run (.ofNat (41 + i)) true) = true := by kernel_rfl
theorem part_true_45 : allF 4 (fun i => run (.ofNat (45 + i)) true) = true := by kernel_rfl
theorem part_true_49 : allF 4 (fun i => run (.ofNat (49 + i)) true) = true := by kernel_rfl
theorem part_true_53 : allF 4 (fun i => run (.ofNat (53 + i)) true) = true := by kernel_rfl
theorem part_true_57 : allF 4 (fun i => run (.ofNat (57 + i)) true) = true := by kernel_rfl
end Go.Proofs.Ytpmonnofmnncjaa.Marks
