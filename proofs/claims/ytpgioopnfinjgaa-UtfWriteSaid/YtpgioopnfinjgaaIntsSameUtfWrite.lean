/-
  Ints of a list and itself is true.
-/
import Derived.Test.YtpgioopnfinjgaaFirstUtfWrite
namespace Go.Proofs.Ytpgioopnfinjgaa.PureUtfWrite
open Go.RowKit Go.Proofs.Ytpgioopnfinjgaa.MUtfWrite Go.Proofs.YtpgioopnfinjgaaW.PrintWords Go.Proofs.YtpgioopnfinjgaaW.PrintLast Go.Proofs.Ytpgioopnfinjgaa.Utf

theorem ints_l (xs : List Int) (d : Nat) : ∀ (k : Nat) (i : Int), 0 ≤ i → (xs.length : Int) ≤ 1000000 → i + d = xs.length → d < k → incipitlaw1_Ints.l0 k xs xs i = some true := by
  induction d with
  | zero =>
    intro k i h0 hl hd hk
    obtain ⟨k, rfl⟩ : ∃ m, k = m + 1 := ⟨k - 1, by omega⟩
    simp only [incipitlaw1_Ints.l0]; rw [if_neg (by omega)]
  | succ d ih =>
    intro k i h0 hl hd hk
    obtain ⟨k, rfl⟩ : ∃ m, k = m + 1 := ⟨k - 1, by omega⟩
    simp only [incipitlaw1_Ints.l0]; rw [if_pos (by omega), if_pos h0, if_pos (by omega), if_pos trivial, w64 (by omega) (by omega)]
    exact ih k (i + 1) (by omega) hl (by omega) (by omega)
theorem ints_f (xs : List Int) (k : Nat) (hl : (xs.length : Int) ≤ 1000000) (hk : xs.length < k) : incipitlaw1_Ints.f k xs xs = some true := by
  unfold incipitlaw1_Ints.f
  rw [if_pos rfl]
  exact ints_l xs xs.length k 0 (by omega) hl (by omega) hk

end Go.Proofs.Ytpgioopnfinjgaa.PureUtfWrite
