/-
  The document's Text: the same form.
-/
import Derived.Test.YtiplbhjllkfemaaZNText
import Derived.Test.YtiplbhjllkfemaaZNTabR
import Derived.Test.YtiplbhjllkfemaaZRefReadSt
import Derived.Test.YtiplbhjllkfemaaZRefWriteSt
namespace Go.Proofs.Ytiplbhjllkfemaa.NText
open Go.RowKit Go.Proofs.Ytiplbhjllkfemaa.MSt Go.Proofs.YtiplbhjllkfemaaW.PrintWords Go.Proofs.Ytiplbhjllkfemaa.Utf Go.Proofs.Ytiplbhjllkfemaa.NOrd Go.Proofs.Ytiplbhjllkfemaa.NTab Go.Proofs.Ytiplbhjllkfemaa.NChars Go.Proofs.Ytiplbhjllkfemaa.NTabR
open Go.Proofs.Ytiplbhjllkfemaa.PureSt (told told_len rread_l wrote rwrite_f encAll_cons encAll_len)

theorem rtext_f (s : ByteArray) (hs : s.size ≤ 100000) : Evr (fun k => incipitref1_Text.f k s) (toldf (bnums s)) := by
  unfold incipitref1_Text.f
  have h1 : Evr (fun k => incipitref1_Read.f k s) (told [] (bnums s)) := ⟨s.size + 20, fun k hk => rread_l s.size k s [] (Nat.le_refl _) (by simp; omega) hk⟩
  refine Evr.bind h1 ?_
  unfold toldf form told
  cases hc : chars (bnums s) with
  | none => exact Evr.of fun _ => rfl
  | some m =>
    have hv := chars_some (bnums s).length (Nat.le_refl _) (bnums_byte s) hc
    have hl := chars_len (bnums_byte s) hc
    rw [bnums_length] at hl
    have hcl := canon_len_le m
    simp only [List.nil_append, Option.map_some, if_true]
    refine Evr.bind (rchars_f m (by omega)) ?_
    have h2 : Evr (fun k => incipitref1_Write.f k (canon m)) (wrote [] (canon m)) := ⟨(canon m).length + 1, fun k hk => rwrite_f (canon m) (by omega) k (by omega)⟩
    refine Evr.bind h2 (Evr.of fun _ => ?_)
    rw [wrote, if_pos (canon_valid hv.1), List.nil_append]
theorem cut_f (s : ByteArray) (n : Int) (h0 : 0 ≤ n) : ∃ t, incipitlaw1_Cut.f s n = some t ∧ (t.size : Int) ≤ n := by
  unfold incipitlaw1_Cut.f
  by_cases h : (s.size : Int) > n
  · rw [if_pos h, if_pos h0, if_pos (by omega)]
    exact ⟨_, rfl, by rw [ByteArray.size_extract]; omega⟩
  · rw [if_neg h]; exact ⟨s, rfl, by omega⟩
/-- Two texts are the same. -/
def sameb (s t : ByteArray) : Bool := if (toldf (bnums s)).2 = true then (if (toldf (bnums t)).2 = true then ((toldf (bnums s)).1.toList == (toldf (bnums t)).1.toList) else false) else false
theorem sameb_symm (s t : ByteArray) : sameb s t = sameb t s := by
  unfold sameb
  cases (toldf (bnums s)).2 <;> cases (toldf (bnums t)).2 <;> simp [Bool.beq_comm]
theorem sameb_self (s : ByteArray) : sameb s s = (toldf (bnums s)).2 := by
  unfold sameb
  cases (toldf (bnums s)).2 <;> simp
theorem sameb_trans {s t u : ByteArray} (h : sameb s t = true) (h2 : sameb t u = true) : sameb s u = true := by
  unfold sameb at h h2 ⊢
  cases e1 : (toldf (bnums s)).2 <;> cases e2 : (toldf (bnums t)).2 <;> cases e3 : (toldf (bnums u)).2 <;> simp [e1, e2, e3] at h h2 ⊢
  exact h.trans h2
end Go.Proofs.Ytiplbhjllkfemaa.NText
