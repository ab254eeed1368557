/-
  So many marks behind one another: told at these numbers.
-/
import Derived.Test.YtpmonnofmnncjaaMarks
namespace Go.Proofs.Ytpmonnofmnncjaa.Marks
theorem part_false_36 : allF 4 (fun i => run (.ofNat (36 + i)) false) = true := by kernel_rfl
theorem part_false_40 : allF 4 (fun i => run (.ofNat (40 + i)) false) = true := by kernel_rfl
theorem part_false_44 : allF 4 (fun i => run (.ofNat (44 + i)) false) = true := by kernel_rfl
theorem part_false_48 : allF 4 (fun i => run (.ofNat (48 + i)) false) = true := by kernel_rfl
theorem part_false_52 : allF 4 (fun i => run (.ofNat (52 + i)) false) = true := by kernel_rfl
theorem part_false_56 : allF 4 (fun i => run (.ofNat (56 + i)) false) = true := by kernel_rfl
theorem part_false_60 : allF 1 (fun i => run (.ofNat (60 + i)) false) = true := by kernel_rfl
end Go.Proofs.Ytpmonnofmnncjaa.Marks
