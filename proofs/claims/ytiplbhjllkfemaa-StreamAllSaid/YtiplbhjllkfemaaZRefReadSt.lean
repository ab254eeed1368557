/-
  the reference's Read comes to 'chars', for bytes that are not too many.
-/
import Derived.Test.YtiplbhjllkfemaaZReadSt
import Derived.Test.YtiplbhjllkfemaaZRefFirstSt
namespace Go.Proofs.Ytiplbhjllkfemaa.PureSt
open Go.RowKit Go.Proofs.Ytiplbhjllkfemaa.MSt Go.Proofs.YtiplbhjllkfemaaW.PrintWords Go.Proofs.YtiplbhjllkfemaaW.PrintLast Go.Proofs.Ytiplbhjllkfemaa.Utf

theorem rread_l (n : Nat) : ∀ (k : Nat) (s : ByteArray) (acc : List Int), s.size ≤ n → n + acc.length < 1000000 → n + 20 ≤ k → incipitref1_Read.l0 k s acc = some (told acc (bnums s)) := by
  induction n with
  | zero =>
    intro k s acc hs ha hk
    obtain ⟨k, rfl⟩ : ∃ m, k = m + 1 := ⟨k - 1, by omega⟩
    simp only [incipitref1_Read.l0]
    by_cases h0 : s.toList = ([] : List UInt8)
    · rw [if_pos h0]; simp [told, bnums_nil h0, chars_nil]
    · have := bnums_ne h0
      have e := bnums_length s
      have := List.length_pos_iff.2 this
      omega
  | succ n ih =>
    intro k s acc hs ha hk
    obtain ⟨k, rfl⟩ : ∃ m, k = m + 1 := ⟨k - 1, by omega⟩
    simp only [incipitref1_Read.l0]
    by_cases h0 : s.toList = ([] : List UInt8)
    · rw [if_pos h0]; simp [told, bnums_nil h0, chars_nil]
    · rw [if_neg h0, ref_first_at (by omega)]
      simp only [Option.bind_some]
      unfold told
      rw [chars_step (bnums_byte s) (bnums_ne h0)]
      by_cases h2 : (dec (bnums s)).2 = 0
      · rw [if_pos h2, if_pos h2]
      · rw [if_neg h2, if_neg h2]
        have hp := dec_pos (bnums_byte s) h2
        have e := bnums_length s
        rw [if_pos (by omega), if_pos hp.2.2, if_pos (by omega), ih _ _ _ (by rw [ByteArray.size_extract]; omega) (by simp; omega) (by omega)]
        unfold told
        rw [bnums_extract, List.take_of_length_le (by omega)]
        cases chars ((bnums s).drop (dec (bnums s)).2.toNat) <;> simp

end Go.Proofs.Ytiplbhjllkfemaa.PureSt
