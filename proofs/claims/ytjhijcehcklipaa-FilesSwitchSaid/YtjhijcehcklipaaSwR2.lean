/-
  Runs of the law, told.
-/
import Derived.Test.YtjhijcehcklipaaSwitch
namespace Go.Proofs.Ytjhijcehcklipaa.Sw
open Ev
theorem p_m_1_p (a : Nat)  : run (.negSucc a) [.sg .i64 true] 1 = true := by kernel_rfl
theorem p_m_3_n (a : Nat)  : run (.negSucc a) [.sg .i64 false] 3 = true := by kernel_rfl
theorem p_m_4_z (a : Nat)  : run (.negSucc a) [.n .i64 0] 4 = true := by kernel_rfl
theorem p_m_5_p (a : Nat)  : run (.negSucc a) [.sg .i64 true] 5 = true := by kernel_rfl
theorem p_0_1_n   : run (.ofNat 0) [.sg .i64 false] 1 = true := by kernel_rfl
theorem p_0_2_z   : run (.ofNat 0) [.n .i64 0] 2 = true := by kernel_rfl
theorem p_0_3_p   : run (.ofNat 0) [.sg .i64 true] 3 = true := by kernel_rfl
theorem p_0_5_n   : run (.ofNat 0) [.sg .i64 false] 5 = true := by kernel_rfl
theorem p_0_6_z  (b : Nat) : run (.ofNat 0) [.n .i64 0] (b + 6) = true := by kernel_rfl
theorem p_2_1_p   : run (.ofNat 2) [.sg .i64 true] 1 = true := by kernel_rfl
theorem p_2_3_n   : run (.ofNat 2) [.sg .i64 false] 3 = true := by kernel_rfl
theorem p_2_4_z   : run (.ofNat 2) [.n .i64 0] 4 = true := by kernel_rfl
theorem p_2_5_p   : run (.ofNat 2) [.sg .i64 true] 5 = true := by kernel_rfl
theorem p_3_1_n (a : Nat)  : run (.ofNat (a + 3)) [.sg .i64 false] 1 = true := by kernel_rfl
theorem p_3_2_z (a : Nat)  : run (.ofNat (a + 3)) [.n .i64 0] 2 = true := by kernel_rfl
theorem p_3_3_p (a : Nat)  : run (.ofNat (a + 3)) [.sg .i64 true] 3 = true := by kernel_rfl
theorem p_3_5_n (a : Nat)  : run (.ofNat (a + 3)) [.sg .i64 false] 5 = true := by kernel_rfl
theorem p_3_6_z (a : Nat) (b : Nat) : run (.ofNat (a + 3)) [.n .i64 0] (b + 6) = true := by kernel_rfl
theorem q_p : run (.ofNat 1) [.sg .i64 true] 1 = true := by kernel_rfl
theorem q_2_zn  : run (.ofNat 1) [.n .i64 0, .sg .i64 false] 2 = true := by kernel_rfl
theorem q_2_pz  : run (.ofNat 1) [.sg .i64 true, .n .i64 0] 2 = true := by kernel_rfl
theorem q_3_np  : run (.ofNat 1) [.sg .i64 false, .sg .i64 true] 3 = true := by kernel_rfl
theorem q_3_pn  : run (.ofNat 1) [.sg .i64 true, .sg .i64 false] 3 = true := by kernel_rfl
theorem q_4_nz  : run (.ofNat 1) [.sg .i64 false, .n .i64 0] 4 = true := by kernel_rfl
theorem q_4_zp  : run (.ofNat 1) [.n .i64 0, .sg .i64 true] 4 = true := by kernel_rfl
theorem q_5_nn  : run (.ofNat 1) [.sg .i64 false, .sg .i64 false] 5 = true := by kernel_rfl
theorem q_5_zz  : run (.ofNat 1) [.n .i64 0, .n .i64 0] 5 = true := by kernel_rfl
theorem q_5_pp  : run (.ofNat 1) [.sg .i64 true, .sg .i64 true] 5 = true := by kernel_rfl
theorem q_6_zn (b : Nat) : run (.ofNat 1) [.n .i64 0, .sg .i64 false] (b + 6) = true := by kernel_rfl
theorem q_6_pz (b : Nat) : run (.ofNat 1) [.sg .i64 true, .n .i64 0] (b + 6) = true := by kernel_rfl
theorem r_0  : run0 (.ofNat 0) = true := by kernel_rfl
theorem r_2  : run0 (.ofNat 2) = true := by kernel_rfl
end Go.Proofs.Ytjhijcehcklipaa.Sw
