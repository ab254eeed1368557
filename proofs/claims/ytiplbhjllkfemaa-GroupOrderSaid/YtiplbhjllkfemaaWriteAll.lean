/-
  utf.Write comes to 'encAll', or to nothing where a number is no character.
-/
import Derived.Test.YtiplbhjllkfemaaFirstAll
namespace Go.Proofs.Ytiplbhjllkfemaa.PureAll
open Go.RowKit Go.Proofs.Ytiplbhjllkfemaa.MAll Go.Proofs.YtiplbhjllkfemaaW.PrintWords Go.Proofs.YtiplbhjllkfemaaW.PrintLast Go.Proofs.Ytiplbhjllkfemaa.Utf
theorem put_f (l : List Int) (c : Int) (h : valid c) (hl : l.length < 1000000000) : utf_Put.f l c = some (l ++ enc c) := by
  unfold valid at h
  unfold utf_Put.f enc
  by_cases h1 : c < 128
  · rw [if_pos h1, if_pos h1, if_pos (by omega), show c % 256 = c by omega]
  · rw [if_neg h1, if_neg h1]
    have a0 : bits .and .i64 c 63 = c % 64 := i64_and63 c h.1 (by omega)
    by_cases h2 : c < 2048
    · rw [if_pos h2, if_pos h2, Option.bind_some, a0, show (c / 64) % 256 = c / 64 by omega, show c % 64 % 256 = c % 64 by omega, u8_or192 _ (by omega) (by omega), u8_or128 _ (by omega) (by omega)]
      rw [if_pos (by simp only [List.length_cons, List.length_nil]; omega)]
    · rw [if_neg h2, if_neg h2]
      have a1 : bits .and .i64 (c / 64) 63 = c / 64 % 64 := i64_and63 _ (by omega) (by omega)
      by_cases h3 : c < 65536
      · rw [if_pos h3, if_pos h3, Option.bind_some, a0, a1, show (c / 4096) % 256 = c / 4096 by omega, show c / 64 % 64 % 256 = c / 64 % 64 by omega, show c % 64 % 256 = c % 64 by omega, u8_or224 _ (by omega) (by omega), u8_or128 _ (by omega) (by omega), u8_or128 _ (by omega) (by omega)]
        rw [if_pos (by simp only [List.length_cons, List.length_nil]; omega)]
      · have a2 : bits .and .i64 (c / 4096) 63 = c / 4096 % 64 := i64_and63 _ (by omega) (by omega)
        rw [if_neg h3, if_neg h3, Option.bind_some, a0, a1, a2, show (c / 262144) % 256 = c / 262144 by omega, show c / 4096 % 64 % 256 = c / 4096 % 64 by omega, show c / 64 % 64 % 256 = c / 64 % 64 by omega, show c % 64 % 256 = c % 64 by omega,
          u8_or240 _ (by omega) (by omega), u8_or128 _ (by omega) (by omega), u8_or128 _ (by omega) (by omega), u8_or128 _ (by omega) (by omega)]
        rw [if_pos (by simp only [List.length_cons, List.length_nil]; omega)]
theorem encAll_cons (c : Int) (l : List Int) : encAll (c :: l) = enc c ++ encAll l := by simp [encAll]
theorem encAll_len (l : List Int) : (encAll l).length ≤ 4 * l.length := by
  induction l with
  | nil => simp [encAll]
  | cons c l ih => rw [encAll_cons, List.length_append, List.length_cons]; have := enc_le c; omega
def wrote (acc : List Int) (l : List Int) : ByteArray × Bool := if ∀ c ∈ l, valid c then (strOfNums (acc ++ encAll l), true) else (⟨#[]⟩, false)
theorem write_l (l : List Int) (hl : l.length < 1000000) (d : Nat) : ∀ (k i : Nat) (acc : List Int), i + d = l.length → acc.length ≤ 4 * i → d < k → zic.l0 k acc l (l.length : Int) i = some (wrote acc (l.drop i)) := by
  induction d with
  | zero =>
    intro k i acc hi ha hk
    obtain ⟨k, rfl⟩ : ∃ m, k = m + 1 := ⟨k - 1, by omega⟩
    rw [zic.l0, if_neg (by omega), List.drop_of_length_le (by omega)]
    simp [wrote, encAll]
  | succ d ih =>
    intro k i acc hi ha hk
    obtain ⟨k, rfl⟩ : ∃ m, k = m + 1 := ⟨k - 1, by omega⟩
    have hlt : i < l.length := by omega
    have hr : rd l (i : Int) = l[i] := by
      unfold rd
      rw [Int.toNat_natCast, List.getD_eq_getElem?_getD, List.getElem?_eq_getElem hlt, Option.getD_some]
    rw [zic.l0, if_pos (by omega), if_pos (by omega), if_pos (by omega), hr, valid_f, Option.bind_some]
    have hd : l.drop i = l[i] :: l.drop (i + 1) := List.drop_eq_getElem_cons hlt
    by_cases hv : valid l[i]
    · rw [if_pos (by simpa using hv), put_f _ _ hv (by omega), Option.bind_some, w64 (by omega) (by omega)]
      have := ih k (i + 1) (acc ++ enc l[i]) (by omega) (by rw [List.length_append]; have := enc_le l[i]; omega) (by omega)
      rw [Int.natCast_succ] at this
      rw [this, hd]
      unfold wrote
      by_cases ha : ∀ c ∈ l.drop (i + 1), valid c
      · rw [if_pos ha, if_pos (by intro c hc; rcases List.mem_cons.1 hc with rfl | hc; exact hv; exact ha c hc), encAll_cons, List.append_assoc]
      · rw [if_neg ha, if_neg (fun h => ha fun c hc => h c (List.mem_cons_of_mem _ hc))]
    · rw [if_neg (by simpa using hv), hd]
      unfold wrote
      rw [if_neg (fun h => hv (h _ List.mem_cons_self))]
theorem write_f (l : List Int) (hl : l.length < 1000000) (k : Nat) (hk : l.length < k) : zic.f k l = some (wrote [] l) := by
  unfold zic.f
  have := write_l l hl l.length k 0 [] (by omega) (by simp) hk
  rw [List.drop_zero] at this
  exact this
end Go.Proofs.Ytiplbhjllkfemaa.PureAll
