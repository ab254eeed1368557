/-
  Runs of the law, told.
-/
import Derived.Test.YtjhijcehcklipaaSwitch
namespace Go.Proofs.Ytjhijcehcklipaa.Sw
open Ev
theorem p_m_1_n (a : Nat)  : run (.negSucc a) [.sg .i64 false] 1 = true := by kernel_rfl
theorem p_m_2_z (a : Nat)  : run (.negSucc a) [.n .i64 0] 2 = true := by kernel_rfl
theorem p_m_3_p (a : Nat)  : run (.negSucc a) [.sg .i64 true] 3 = true := by kernel_rfl
theorem p_m_5_n (a : Nat)  : run (.negSucc a) [.sg .i64 false] 5 = true := by kernel_rfl
theorem p_m_6_z (a : Nat) (b : Nat) : run (.negSucc a) [.n .i64 0] (b + 6) = true := by kernel_rfl
theorem p_0_1_p   : run (.ofNat 0) [.sg .i64 true] 1 = true := by kernel_rfl
theorem p_0_3_n   : run (.ofNat 0) [.sg .i64 false] 3 = true := by kernel_rfl
theorem p_0_4_z   : run (.ofNat 0) [.n .i64 0] 4 = true := by kernel_rfl
theorem p_0_5_p   : run (.ofNat 0) [.sg .i64 true] 5 = true := by kernel_rfl
theorem p_2_1_n   : run (.ofNat 2) [.sg .i64 false] 1 = true := by kernel_rfl
theorem p_2_2_z   : run (.ofNat 2) [.n .i64 0] 2 = true := by kernel_rfl
theorem p_2_3_p   : run (.ofNat 2) [.sg .i64 true] 3 = true := by kernel_rfl
theorem p_2_5_n   : run (.ofNat 2) [.sg .i64 false] 5 = true := by kernel_rfl
theorem p_2_6_z  (b : Nat) : run (.ofNat 2) [.n .i64 0] (b + 6) = true := by kernel_rfl
theorem p_3_1_p (a : Nat)  : run (.ofNat (a + 3)) [.sg .i64 true] 1 = true := by kernel_rfl
theorem p_3_3_n (a : Nat)  : run (.ofNat (a + 3)) [.sg .i64 false] 3 = true := by kernel_rfl
theorem p_3_4_z (a : Nat)  : run (.ofNat (a + 3)) [.n .i64 0] 4 = true := by kernel_rfl
theorem p_3_5_p (a : Nat)  : run (.ofNat (a + 3)) [.sg .i64 true] 5 = true := by kernel_rfl
theorem q_n : run (.ofNat 1) [.sg .i64 false] 1 = true := by kernel_rfl
theorem q_2_nz  : run (.ofNat 1) [.sg .i64 false, .n .i64 0] 2 = true := by kernel_rfl
theorem q_2_zp  : run (.ofNat 1) [.n .i64 0, .sg .i64 true] 2 = true := by kernel_rfl
theorem q_3_nn  : run (.ofNat 1) [.sg .i64 false, .sg .i64 false] 3 = true := by kernel_rfl
theorem q_3_zz  : run (.ofNat 1) [.n .i64 0, .n .i64 0] 3 = true := by kernel_rfl
theorem q_3_pp  : run (.ofNat 1) [.sg .i64 true, .sg .i64 true] 3 = true := by kernel_rfl
theorem q_4_zn  : run (.ofNat 1) [.n .i64 0, .sg .i64 false] 4 = true := by kernel_rfl
theorem q_4_pz  : run (.ofNat 1) [.sg .i64 true, .n .i64 0] 4 = true := by kernel_rfl
theorem q_5_np  : run (.ofNat 1) [.sg .i64 false, .sg .i64 true] 5 = true := by kernel_rfl
theorem q_5_pn  : run (.ofNat 1) [.sg .i64 true, .sg .i64 false] 5 = true := by kernel_rfl
theorem q_6_nz (b : Nat) : run (.ofNat 1) [.sg .i64 false, .n .i64 0] (b + 6) = true := by kernel_rfl
theorem q_6_zp (b : Nat) : run (.ofNat 1) [.n .i64 0, .sg .i64 true] (b + 6) = true := by kernel_rfl
theorem r_m (a : Nat) : run0 (.negSucc a) = true := by kernel_rfl
theorem r_1  : run0 (.ofNat 1) = true := by kernel_rfl
theorem r_3 (a : Nat) : run0 (.ofNat (a + 3)) = true := by kernel_rfl
end Go.Proofs.Ytjhijcehcklipaa.Sw
