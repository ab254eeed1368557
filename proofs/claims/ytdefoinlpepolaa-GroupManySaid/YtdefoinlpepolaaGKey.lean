/-
  Keys: what Make tells of any text that is not too long.
-/
import Derived.Test.YtdefoinlpepolaaNPlain
namespace Go.Proofs.Ytdefoinlpepolaa.GKey
open Go.RowKit Go.Proofs.Ytdefoinlpepolaa.MGrp Go.Proofs.YtdefoinlpepolaaW.PrintWords Go.Proofs.Ytdefoinlpepolaa.Utf Go.Proofs.Ytdefoinlpepolaa.NOrd Go.Proofs.Ytdefoinlpepolaa.NText Go.Proofs.Ytdefoinlpepolaa.NChars
def makef (s : ByteArray) : ByteArray × ByteArray × Int :=
  if s.toList = ([] : List UInt8) ∨ (s.size : Int) > 4096 then (⟨#[]⟩, ⟨#[]⟩, 1) else if (toldf (bnums s)).2 = true then ((toldf (bnums s)).1, s, 0) else (⟨#[]⟩, ⟨#[]⟩, 1)
theorem make_f (s : ByteArray) (hs : s.size ≤ 100000) : Evr (fun k => ckey_Make.f k s) (makef s) := by
  unfold ckey_Make.f makef
  by_cases h : s.toList = ([] : List UInt8)
  · rw [if_pos (Or.inl h)]
    exact Evr.congr (fun k => by rw [if_pos h]) (Evr.succ (fun k => by rw [ckey_Make.j0, if_pos (Eq.refl true)]) (Evr.of fun _ => rfl))
  · by_cases h2 : (s.size : Int) > 4096
    · rw [if_pos (Or.inr h2)]
      exact Evr.congr (fun k => by rw [if_neg h, decide_eq_true h2]) (Evr.succ (fun k => by rw [ckey_Make.j0, if_pos (Eq.refl true)]) (Evr.of fun _ => rfl))
    · rw [if_neg (not_or.2 ⟨h, h2⟩)]
      refine Evr.congr (fun k => by rw [if_neg h, decide_eq_false h2]) (Evr.succ (fun k => by rw [ckey_Make.j0, if_neg Bool.false_ne_true]) (Evr.bind (text_f s hs) (Evr.of fun _ => ?_)))
      split <;> rfl
/-- A text of bytes below 128 is its own form. -/
theorem told_low {l : List Int} (h0 : ∀ x ∈ l, 0 ≤ x) (h1 : ∀ x ∈ l, x < 128) : toldf (bnums (strOfNums l)) = (strOfNums l, true) := by
  unfold toldf
  rw [bnums_str (fun x hx => ⟨h0 x hx, by have := h1 x hx; omega⟩), form_low h0 h1]
theorem str_len {l : List Int} (h : isByte l) : (strOfNums l).size = l.length := by rw [← bnums_length, bnums_str h]
theorem empty_iff (s : ByteArray) : s.toList = ([] : List UInt8) ↔ s.size = 0 := by
  constructor
  · intro h; rw [← bnums_length, bnums_nil h]; rfl
  · intro h; by_cases e : s.toList = ([] : List UInt8)
    · exact e
    · have := List.length_pos_iff.2 (bnums_ne e)
      rw [bnums_length] at this; omega
theorem make_low {l : List Int} (h0 : ∀ x ∈ l, 0 ≤ x) (h1 : ∀ x ∈ l, x < 128) : makef (strOfNums l) = if l.length < 1 ∨ l.length > 4096 then (⟨#[]⟩, ⟨#[]⟩, 1) else (strOfNums l, strOfNums l, 0) := by
  have hb : isByte l := fun x hx => ⟨h0 x hx, by have := h1 x hx; omega⟩
  unfold makef
  rw [told_low h0 h1]
  by_cases h : l.length < 1 ∨ l.length > 4096
  · rw [if_pos h, if_pos]
    rw [empty_iff, str_len hb]; omega
  · rw [if_neg h, if_neg, if_pos (Eq.refl true)]
    rw [empty_iff, str_len hb]; omega
end Go.Proofs.Ytdefoinlpepolaa.GKey
