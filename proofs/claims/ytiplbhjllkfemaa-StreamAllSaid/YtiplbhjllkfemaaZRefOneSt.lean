/-
  The reference's Valid and one: a character's bytes.
-/
import Derived.Test.YtiplbhjllkfemaaZFirstSt
import Derived.Test.YtiplbhjllkfemaaZMStx13
namespace Go.Proofs.Ytiplbhjllkfemaa.PureSt
open Go.RowKit Go.Proofs.Ytiplbhjllkfemaa.MSt Go.Proofs.YtiplbhjllkfemaaW.PrintWords Go.Proofs.YtiplbhjllkfemaaW.PrintLast Go.Proofs.Ytiplbhjllkfemaa.Utf

theorem rvalid_f (c : Int) : incipitref1_Valid.f c = some (decide (valid c)) := by
  unfold incipitref1_Valid.f
  by_cases h1 : c ≥ 0
  · rw [if_pos h1]
    by_cases h2 : c ≤ 1114111
    · rw [if_pos h2]
      by_cases h3 : c ≥ 55296
      · rw [if_pos h3]
        by_cases h4 : c ≤ 57343
        · rw [decide_eq_true h4]; exact congrArg some (decide_eq_false (show ¬ valid c by unfold valid; omega)).symm
        · rw [decide_eq_false h4]; exact congrArg some (decide_eq_true (show valid c by unfold valid; omega)).symm
      · rw [if_neg h3]; exact congrArg some (decide_eq_true (show valid c by unfold valid; omega)).symm
    · rw [if_neg h2]; exact congrArg some (decide_eq_false (show ¬ valid c by unfold valid; omega)).symm
  · rw [if_neg h1]; exact congrArg some (decide_eq_false (show ¬ valid c by unfold valid; omega)).symm

theorem one_f (c : Int) (h : valid c) : incipitref1_one.f c = some (strOfNums (enc c)) := by
  unfold valid at h
  unfold incipitref1_one.f enc
  by_cases h1 : c < 128
  · rw [if_pos h1, if_pos h1, show c % 256 = c by omega]
  · rw [if_neg h1, if_neg h1]
    by_cases h2 : c < 2048
    · rw [if_pos h2, if_pos h2, Int.tdiv_eq_ediv_of_nonneg h.1, Int.tmod_eq_emod_of_nonneg h.1, w64 (x := c / 64) (by omega) (by omega), w64 (x := 192 + c / 64) (by omega) (by omega), w64 (x := 128 + c % 64) (by omega) (by omega)]
      rw [show (192 + c / 64) % 256 = 192 + c / 64 by omega, show (128 + c % 64) % 256 = 128 + c % 64 by omega]
    · rw [if_neg h2, if_neg h2]
      by_cases h3 : c < 65536
      · rw [if_pos h3, if_pos h3, Int.tdiv_eq_ediv_of_nonneg h.1, Int.tdiv_eq_ediv_of_nonneg h.1, Int.tmod_eq_emod_of_nonneg h.1, w64 (x := c / 64) (by omega) (by omega), w64 (x := c / 4096) (by omega) (by omega),
          Int.tmod_eq_emod_of_nonneg (by omega : (0 : Int) ≤ c / 64), w64 (x := 224 + c / 4096) (by omega) (by omega), w64 (x := 128 + c / 64 % 64) (by omega) (by omega), w64 (x := 128 + c % 64) (by omega) (by omega)]
        rw [show (224 + c / 4096) % 256 = 224 + c / 4096 by omega, show (128 + c / 64 % 64) % 256 = 128 + c / 64 % 64 by omega, show (128 + c % 64) % 256 = 128 + c % 64 by omega]
      · rw [if_neg h3, if_neg h3, Int.tdiv_eq_ediv_of_nonneg h.1, Int.tdiv_eq_ediv_of_nonneg h.1, Int.tdiv_eq_ediv_of_nonneg h.1, Int.tmod_eq_emod_of_nonneg h.1, w64 (x := c / 64) (by omega) (by omega), w64 (x := c / 4096) (by omega) (by omega), w64 (x := c / 262144) (by omega) (by omega),
          Int.tmod_eq_emod_of_nonneg (by omega : (0 : Int) ≤ c / 64), Int.tmod_eq_emod_of_nonneg (by omega : (0 : Int) ≤ c / 4096), w64 (x := 240 + c / 262144) (by omega) (by omega), w64 (x := 128 + c / 4096 % 64) (by omega) (by omega), w64 (x := 128 + c / 64 % 64) (by omega) (by omega), w64 (x := 128 + c % 64) (by omega) (by omega)]
        rw [show (240 + c / 262144) % 256 = 240 + c / 262144 by omega, show (128 + c / 4096 % 64) % 256 = 128 + c / 4096 % 64 by omega, show (128 + c / 64 % 64) % 256 = 128 + c / 64 % 64 by omega, show (128 + c % 64) % 256 = 128 + c % 64 by omega]

end Go.Proofs.Ytiplbhjllkfemaa.PureSt
