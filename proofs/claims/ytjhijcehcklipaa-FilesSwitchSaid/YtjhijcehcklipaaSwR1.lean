/-
  Runs of the law, told.
-/
import Derived.Test.YtjhijcehcklipaaSwitch
namespace Go.Proofs.Ytjhijcehcklipaa.Sw
open Ev
theorem p_m_1_z (a : Nat)  : run (.negSucc a) [.n .i64 0] 1 = true := by kernel_rfl
theorem p_m_2_p (a : Nat)  : run (.negSucc a) [.sg .i64 true] 2 = true := by kernel_rfl
theorem p_m_4_n (a : Nat)  : run (.negSucc a) [.sg .i64 false] 4 = true := by kernel_rfl
theorem p_m_5_z (a : Nat)  : run (.negSucc a) [.n .i64 0] 5 = true := by kernel_rfl
theorem p_m_6_p (a : Nat) (b : Nat) : run (.negSucc a) [.sg .i64 true] (b + 6) = true := by kernel_rfl
theorem p_0_2_n   : run (.ofNat 0) [.sg .i64 false] 2 = true := by kernel_rfl
theorem p_0_3_z   : run (.ofNat 0) [.n .i64 0] 3 = true := by kernel_rfl
theorem p_0_4_p   : run (.ofNat 0) [.sg .i64 true] 4 = true := by kernel_rfl
theorem p_0_6_n  (b : Nat) : run (.ofNat 0) [.sg .i64 false] (b + 6) = true := by kernel_rfl
theorem p_2_1_z   : run (.ofNat 2) [.n .i64 0] 1 = true := by kernel_rfl
theorem p_2_2_p   : run (.ofNat 2) [.sg .i64 true] 2 = true := by kernel_rfl
theorem p_2_4_n   : run (.ofNat 2) [.sg .i64 false] 4 = true := by kernel_rfl
theorem p_2_5_z   : run (.ofNat 2) [.n .i64 0] 5 = true := by kernel_rfl
theorem p_2_6_p  (b : Nat) : run (.ofNat 2) [.sg .i64 true] (b + 6) = true := by kernel_rfl
theorem p_3_2_n (a : Nat)  : run (.ofNat (a + 3)) [.sg .i64 false] 2 = true := by kernel_rfl
theorem p_3_3_z (a : Nat)  : run (.ofNat (a + 3)) [.n .i64 0] 3 = true := by kernel_rfl
theorem p_3_4_p (a : Nat)  : run (.ofNat (a + 3)) [.sg .i64 true] 4 = true := by kernel_rfl
theorem p_3_6_n (a : Nat) (b : Nat) : run (.ofNat (a + 3)) [.sg .i64 false] (b + 6) = true := by kernel_rfl
theorem q_z : run (.ofNat 1) [.n .i64 0] 1 = true := by kernel_rfl
theorem q_2_np  : run (.ofNat 1) [.sg .i64 false, .sg .i64 true] 2 = true := by kernel_rfl
theorem q_2_pn  : run (.ofNat 1) [.sg .i64 true, .sg .i64 false] 2 = true := by kernel_rfl
theorem q_3_nz  : run (.ofNat 1) [.sg .i64 false, .n .i64 0] 3 = true := by kernel_rfl
theorem q_3_zp  : run (.ofNat 1) [.n .i64 0, .sg .i64 true] 3 = true := by kernel_rfl
theorem q_4_nn  : run (.ofNat 1) [.sg .i64 false, .sg .i64 false] 4 = true := by kernel_rfl
theorem q_4_zz  : run (.ofNat 1) [.n .i64 0, .n .i64 0] 4 = true := by kernel_rfl
theorem q_4_pp  : run (.ofNat 1) [.sg .i64 true, .sg .i64 true] 4 = true := by kernel_rfl
theorem q_5_zn  : run (.ofNat 1) [.n .i64 0, .sg .i64 false] 5 = true := by kernel_rfl
theorem q_5_pz  : run (.ofNat 1) [.sg .i64 true, .n .i64 0] 5 = true := by kernel_rfl
theorem q_6_np (b : Nat) : run (.ofNat 1) [.sg .i64 false, .sg .i64 true] (b + 6) = true := by kernel_rfl
theorem q_6_pn (b : Nat) : run (.ofNat 1) [.sg .i64 true, .sg .i64 false] (b + 6) = true := by kernel_rfl
theorem s_m (a : Nat) : runN (.negSucc a) = true := by kernel_rfl
theorem s_1  : runN (.ofNat 1) = true := by kernel_rfl
theorem s_3 (a : Nat) : runN (.ofNat (a + 3)) = true := by kernel_rfl
end Go.Proofs.Ytjhijcehcklipaa.Sw
