/-
  utf.Write comes to 'encAll', or to nothing where a number is no character.
-/
import Derived.Test.YtiplbhjllkfemaaZFirstSt
namespace Go.Proofs.Ytiplbhjllkfemaa.PureSt
open Go.RowKit Go.Proofs.Ytiplbhjllkfemaa.MSt Go.Proofs.YtiplbhjllkfemaaW.PrintWords Go.Proofs.YtiplbhjllkfemaaW.PrintLast Go.Proofs.Ytiplbhjllkfemaa.Utf

theorem put_f (l : List Int) (c : Int) (h : valid c) (hl : l.length < 1000000000) : utf_Put.f l c = some (l ++ enc c) := by
  unfold valid at h
  unfold utf_Put.f enc
  by_cases h1 : c < 128
  · rw [if_pos h1, if_pos h1, if_pos (by omega), show c % 256 = c by omega]
  · rw [if_neg h1, if_neg h1]
    have a0 : bits .and .i64 c 63 = c % 64 := i64_and63 c h.1 (by omega)
    by_cases h2 : c < 2048
    · rw [if_pos h2, if_pos h2, Option.bind_some, a0, show (c / 64) % 256 = c / 64 by omega, show c % 64 % 256 = c % 64 by omega, u8_or192 _ (by omega) (by omega), u8_or128 _ (by omega) (by omega)]
      rw [if_pos (by simp only [List.length_cons, List.length_nil]; omega)]
    · rw [if_neg h2, if_neg h2]
      have a1 : bits .and .i64 (c / 64) 63 = c / 64 % 64 := i64_and63 _ (by omega) (by omega)
      by_cases h3 : c < 65536
      · rw [if_pos h3, if_pos h3, Option.bind_some, a0, a1, show (c / 4096) % 256 = c / 4096 by omega, show c / 64 % 64 % 256 = c / 64 % 64 by omega, show c % 64 % 256 = c % 64 by omega, u8_or224 _ (by omega) (by omega), u8_or128 _ (by omega) (by omega), u8_or128 _ (by omega) (by omega)]
        rw [if_pos (by simp only [List.length_cons, List.length_nil]; omega)]
      · have a2 : bits .and .i64 (c / 4096) 63 = c / 4096 % 64 := i64_and63 _ (by omega) (by omega)
        rw [if_neg h3, if_neg h3, Option.bind_some, a0, a1, a2, show (c / 262144) % 256 = c / 262144 by omega, show c / 4096 % 64 % 256 = c / 4096 % 64 by omega, show c / 64 % 64 % 256 = c / 64 % 64 by omega, show c % 64 % 256 = c % 64 by omega,
          u8_or240 _ (by omega) (by omega), u8_or128 _ (by omega) (by omega), u8_or128 _ (by omega) (by omega), u8_or128 _ (by omega) (by omega)]
        rw [if_pos (by simp only [List.length_cons, List.length_nil]; omega)]

theorem encAll_cons (c : Int) (l : List Int) : encAll (c :: l) = enc c ++ encAll l := by simp [encAll]
theorem encAll_len (l : List Int) : (encAll l).length ≤ 4 * l.length := by
  induction l with
  | nil => simp [encAll]
  | cons c l ih => rw [encAll_cons, List.length_append, List.length_cons]; have := enc_le c; omega
/-- What Write tells. -/
def wrote (acc : List Int) (l : List Int) : ByteArray × Bool := if ∀ c ∈ l, valid c then (strOfNums (acc ++ encAll l), true) else (⟨#[]⟩, false)

end Go.Proofs.Ytiplbhjllkfemaa.PureSt
