/-
  utf.Read comes to 'chars', for bytes that are not too many.
-/
import Derived.Test.YtiplbhjllkfemaaZFirstSt
namespace Go.Proofs.Ytiplbhjllkfemaa.PureSt
open Go.RowKit Go.Proofs.Ytiplbhjllkfemaa.MSt Go.Proofs.YtiplbhjllkfemaaW.PrintWords Go.Proofs.YtiplbhjllkfemaaW.PrintLast Go.Proofs.Ytiplbhjllkfemaa.Utf

/-- What Read tells. -/
def told (acc : List Int) (l : List Int) : List Int × Bool := match chars l with
  | some m => (acc ++ m, true)
  | none => ([], false)

theorem charsN_len (n : Nat) : ∀ (l m : List Int), isByte l → charsN n l = some m → m.length ≤ l.length := by
  induction n with
  | zero => intro l m _ h; cases h
  | succ n ih =>
    intro l m hb h
    unfold charsN at h
    by_cases h0 : l = []
    · rw [if_pos h0] at h; cases h; simp
    · rw [if_neg h0] at h
      by_cases h2 : (dec l).2 = 0
      · rw [if_pos h2] at h; cases h
      · rw [if_neg h2] at h
        obtain ⟨m', hm', rfl⟩ := Option.map_eq_some_iff.1 h
        have hp := dec_pos hb h2
        have := ih _ _ (isByte_drop hb _) hm'
        rw [List.length_drop] at this
        simp
        omega

theorem told_len (l : List Int) (hb : isByte l) : (told [] l).1.length ≤ l.length := by
  unfold told
  cases h : chars l with
  | none => simp
  | some m => simpa using charsN_len _ _ _ hb h

end Go.Proofs.Ytiplbhjllkfemaa.PureSt
