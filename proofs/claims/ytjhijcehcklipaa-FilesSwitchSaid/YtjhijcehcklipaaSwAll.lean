/-
  All runs of the law are told true.
-/
import Derived.Test.YtjhijcehcklipaaSwR0
import Derived.Test.YtjhijcehcklipaaSwR1
import Derived.Test.YtjhijcehcklipaaSwR2
import Derived.Test.YtjhijcehcklipaaSwR3
namespace Go.Proofs.Ytjhijcehcklipaa.Sw
open Ev
def Sg (x : AV) : Prop := x = .sg .i64 false ∨ x = .n .i64 0 ∨ x = .sg .i64 true
theorem all1 (n : Int) (len : Nat) (x : AV) (hn : n ≠ .ofNat 1) (hl : 0 < len) (hx : Sg x) : run n [x] len = true := by
  have hN : (∃ a, n = .negSucc a) ∨ n = .ofNat 0 ∨ n = .ofNat 1 ∨ n = .ofNat 2 ∨ ∃ a, n = .ofNat (a + 3) := by
    cases n with
    | negSucc a => exact .inl ⟨a, rfl⟩
    | ofNat k => match k with
      | 0 => exact .inr (.inl rfl)
      | 1 => exact .inr (.inr (.inl rfl))
      | 2 => exact .inr (.inr (.inr (.inl rfl)))
      | k + 3 => exact .inr (.inr (.inr (.inr ⟨k, rfl⟩)))
  have hL : len = 1 ∨ len = 2 ∨ len = 3 ∨ len = 4 ∨ len = 5 ∨ ∃ b, len = b + 6 := by
    rcases Nat.lt_or_ge len 6 with h | h
    · omega
    · exact .inr (.inr (.inr (.inr (.inr ⟨len - 6, by omega⟩))))
  rcases hN with ⟨a, rfl⟩ | rfl | rfl | rfl | ⟨a, rfl⟩
  · rcases hL with rfl | rfl | rfl | rfl | rfl | ⟨b, rfl⟩ <;> rcases hx with rfl | rfl | rfl
    · exact p_m_1_n a
    · exact p_m_1_z a
    · exact p_m_1_p a
    · exact p_m_2_n a
    · exact p_m_2_z a
    · exact p_m_2_p a
    · exact p_m_3_n a
    · exact p_m_3_z a
    · exact p_m_3_p a
    · exact p_m_4_n a
    · exact p_m_4_z a
    · exact p_m_4_p a
    · exact p_m_5_n a
    · exact p_m_5_z a
    · exact p_m_5_p a
    · exact p_m_6_n a b
    · exact p_m_6_z a b
    · exact p_m_6_p a b
  · rcases hL with rfl | rfl | rfl | rfl | rfl | ⟨b, rfl⟩ <;> rcases hx with rfl | rfl | rfl
    · exact p_0_1_n
    · exact p_0_1_z
    · exact p_0_1_p
    · exact p_0_2_n
    · exact p_0_2_z
    · exact p_0_2_p
    · exact p_0_3_n
    · exact p_0_3_z
    · exact p_0_3_p
    · exact p_0_4_n
    · exact p_0_4_z
    · exact p_0_4_p
    · exact p_0_5_n
    · exact p_0_5_z
    · exact p_0_5_p
    · exact p_0_6_n b
    · exact p_0_6_z b
    · exact p_0_6_p b
  · exact absurd rfl hn
  · rcases hL with rfl | rfl | rfl | rfl | rfl | ⟨b, rfl⟩ <;> rcases hx with rfl | rfl | rfl
    · exact p_2_1_n
    · exact p_2_1_z
    · exact p_2_1_p
    · exact p_2_2_n
    · exact p_2_2_z
    · exact p_2_2_p
    · exact p_2_3_n
    · exact p_2_3_z
    · exact p_2_3_p
    · exact p_2_4_n
    · exact p_2_4_z
    · exact p_2_4_p
    · exact p_2_5_n
    · exact p_2_5_z
    · exact p_2_5_p
    · exact p_2_6_n b
    · exact p_2_6_z b
    · exact p_2_6_p b
  · rcases hL with rfl | rfl | rfl | rfl | rfl | ⟨b, rfl⟩ <;> rcases hx with rfl | rfl | rfl
    · exact p_3_1_n a
    · exact p_3_1_z a
    · exact p_3_1_p a
    · exact p_3_2_n a
    · exact p_3_2_z a
    · exact p_3_2_p a
    · exact p_3_3_n a
    · exact p_3_3_z a
    · exact p_3_3_p a
    · exact p_3_4_n a
    · exact p_3_4_z a
    · exact p_3_4_p a
    · exact p_3_5_n a
    · exact p_3_5_z a
    · exact p_3_5_p a
    · exact p_3_6_n a b
    · exact p_3_6_z a b
    · exact p_3_6_p a b
theorem all2 (x : AV) (hx : Sg x) : run (.ofNat 1) [x] 1 = true := by
  rcases hx with rfl | rfl | rfl
  · exact q_n
  · exact q_z
  · exact q_p
theorem all3 (len : Nat) (x y : AV) (hl : 1 < len) (hx : Sg x) (hy : Sg y) : run (.ofNat 1) [x, y] len = true := by
  have hL : len = 2 ∨ len = 3 ∨ len = 4 ∨ len = 5 ∨ ∃ b, len = b + 6 := by
    rcases Nat.lt_or_ge len 6 with h | h
    · omega
    · exact .inr (.inr (.inr (.inr ⟨len - 6, by omega⟩)))
  rcases hL with rfl | rfl | rfl | rfl | ⟨b, rfl⟩ <;> rcases hx with rfl | rfl | rfl <;> rcases hy with rfl | rfl | rfl
  · exact q_2_nn
  · exact q_2_nz
  · exact q_2_np
  · exact q_2_zn
  · exact q_2_zz
  · exact q_2_zp
  · exact q_2_pn
  · exact q_2_pz
  · exact q_2_pp
  · exact q_3_nn
  · exact q_3_nz
  · exact q_3_np
  · exact q_3_zn
  · exact q_3_zz
  · exact q_3_zp
  · exact q_3_pn
  · exact q_3_pz
  · exact q_3_pp
  · exact q_4_nn
  · exact q_4_nz
  · exact q_4_np
  · exact q_4_zn
  · exact q_4_zz
  · exact q_4_zp
  · exact q_4_pn
  · exact q_4_pz
  · exact q_4_pp
  · exact q_5_nn
  · exact q_5_nz
  · exact q_5_np
  · exact q_5_zn
  · exact q_5_zz
  · exact q_5_zp
  · exact q_5_pn
  · exact q_5_pz
  · exact q_5_pp
  · exact q_6_nn b
  · exact q_6_nz b
  · exact q_6_np b
  · exact q_6_zn b
  · exact q_6_zz b
  · exact q_6_zp b
  · exact q_6_pn b
  · exact q_6_pz b
  · exact q_6_pp b
theorem all0 (n : Int) : run0 n = true := by
  have hN : (∃ a, n = .negSucc a) ∨ n = .ofNat 0 ∨ n = .ofNat 1 ∨ n = .ofNat 2 ∨ ∃ a, n = .ofNat (a + 3) := by
    cases n with
    | negSucc a => exact .inl ⟨a, rfl⟩
    | ofNat k => match k with
      | 0 => exact .inr (.inl rfl)
      | 1 => exact .inr (.inr (.inl rfl))
      | 2 => exact .inr (.inr (.inr (.inl rfl)))
      | k + 3 => exact .inr (.inr (.inr (.inr ⟨k, rfl⟩)))
  rcases hN with ⟨a, rfl⟩ | rfl | rfl | rfl | ⟨a, rfl⟩
  · exact r_m a
  · exact r_0
  · exact r_1
  · exact r_2
  · exact r_3 a
theorem allN (n : Int) : runN n = true := by
  have hN : (∃ a, n = .negSucc a) ∨ n = .ofNat 0 ∨ n = .ofNat 1 ∨ n = .ofNat 2 ∨ ∃ a, n = .ofNat (a + 3) := by
    cases n with
    | negSucc a => exact .inl ⟨a, rfl⟩
    | ofNat k => match k with
      | 0 => exact .inr (.inl rfl)
      | 1 => exact .inr (.inr (.inl rfl))
      | 2 => exact .inr (.inr (.inr (.inl rfl)))
      | k + 3 => exact .inr (.inr (.inr (.inr ⟨k, rfl⟩)))
  rcases hN with ⟨a, rfl⟩ | rfl | rfl | rfl | ⟨a, rfl⟩
  · exact s_m a
  · exact s_0
  · exact s_1
  · exact s_2
  · exact s_3 a
end Go.Proofs.Ytjhijcehcklipaa.Sw
