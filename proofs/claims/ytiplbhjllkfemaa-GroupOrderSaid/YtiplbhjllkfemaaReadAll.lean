/-
  utf.Read comes to 'chars', for bytes that are not too many.
-/
import Derived.Test.YtiplbhjllkfemaaFirstAll
namespace Go.Proofs.Ytiplbhjllkfemaa.PureAll
open Go.RowKit Go.Proofs.Ytiplbhjllkfemaa.MAll Go.Proofs.YtiplbhjllkfemaaW.PrintWords Go.Proofs.YtiplbhjllkfemaaW.PrintLast Go.Proofs.Ytiplbhjllkfemaa.Utf
def told (acc : List Int) (l : List Int) : List Int × Bool := match chars l with
  | some m => (acc ++ m, true)
  | none => ([], false)
theorem read_l (n : Nat) : ∀ (k : Nat) (s : ByteArray) (acc : List Int), s.size ≤ n → n + acc.length < 1000000 → n + 20 ≤ k → zvc.l0 k s acc = some (told acc (bnums s)) := by
  induction n with
  | zero =>
    intro k s acc hs ha hk
    obtain ⟨k, rfl⟩ : ∃ m, k = m + 1 := ⟨k - 1, by omega⟩
    simp only [zvc.l0]
    by_cases h0 : s.toList = ([] : List UInt8)
    · rw [if_pos h0]; simp [told, bnums_nil h0, chars_nil]
    · have := bnums_ne h0
      have e := zhd s
      have := List.length_pos_iff.2 this
      omega
  | succ n ih =>
    intro k s acc hs ha hk
    obtain ⟨k, rfl⟩ : ∃ m, k = m + 1 := ⟨k - 1, by omega⟩
    simp only [zvc.l0]
    by_cases h0 : s.toList = ([] : List UInt8)
    · rw [if_pos h0]; simp [told, bnums_nil h0, chars_nil]
    · rw [if_neg h0, first_at (by omega)]
      simp only [Option.bind_some]
      unfold told
      rw [chars_step (zae s) (bnums_ne h0)]
      by_cases h2 : (dec (bnums s)).2 = 0
      · rw [if_pos h2, if_pos h2]
      · rw [if_neg h2, if_neg h2]
        have hp := dec_pos (zae s) h2
        have e := zhd s
        rw [if_pos (by omega), if_pos hp.2.2, if_pos (by omega), ih _ _ _ (by rw [ByteArray.size_extract]; omega) (by simp; omega) (by omega)]
        unfold told
        rw [bnums_extract, List.take_of_length_le (by omega)]
        cases chars ((bnums s).drop (dec (bnums s)).2.toNat) <;> simp
theorem charsN_len (n : Nat) : ∀ (l m : List Int), isByte l → charsN n l = some m → m.length ≤ l.length := by
  induction n with
  | zero => intro l m _ h; cases h
  | succ n ih =>
    intro l m hb h
    unfold charsN at h
    by_cases h0 : l = []
    · rw [if_pos h0] at h; cases h; simp
    · rw [if_neg h0] at h
      by_cases h2 : (dec l).2 = 0
      · rw [if_pos h2] at h; cases h
      · rw [if_neg h2] at h
        obtain ⟨m', hm', rfl⟩ := Option.map_eq_some_iff.1 h
        have hp := dec_pos hb h2
        have := ih _ _ (isByte_drop hb _) hm'
        rw [List.length_drop] at this
        simp
        omega
theorem told_len (l : List Int) (hb : isByte l) : (told [] l).1.length ≤ l.length := by
  unfold told
  cases h : chars l with
  | none => simp
  | some m => simpa using charsN_len _ _ _ hb h
end Go.Proofs.Ytiplbhjllkfemaa.PureAll
