/-
  The reference's Write comes to the same as utf.Write.
-/
import Derived.Test.YtiplbhjllkfemaaZWriteSt
import Derived.Test.YtiplbhjllkfemaaZRefOneSt
namespace Go.Proofs.Ytiplbhjllkfemaa.PureSt
open Go.RowKit Go.Proofs.Ytiplbhjllkfemaa.MSt Go.Proofs.YtiplbhjllkfemaaW.PrintWords Go.Proofs.YtiplbhjllkfemaaW.PrintLast Go.Proofs.Ytiplbhjllkfemaa.Utf

theorem rwrite_l (l : List Int) (hl : l.length < 1000000) (d : Nat) : ∀ (k i : Nat) (acc : List Int), isByte acc → i + d = l.length → acc.length ≤ 4 * i → d < k → incipitref1_Write.l0 k l (strOfNums acc) i = some (wrote acc (l.drop i)) := by
  induction d with
  | zero =>
    intro k i acc hb hi ha hk
    obtain ⟨k, rfl⟩ : ∃ m, k = m + 1 := ⟨k - 1, by omega⟩
    rw [incipitref1_Write.l0, if_neg (by omega), List.drop_of_length_le (by omega)]
    simp [wrote, encAll]
  | succ d ih =>
    intro k i acc hb hi ha hk
    obtain ⟨k, rfl⟩ : ∃ m, k = m + 1 := ⟨k - 1, by omega⟩
    have hlt : i < l.length := by omega
    have hr : rd l (i : Int) = l[i] := by
      unfold rd
      rw [Int.toNat_natCast, List.getD_eq_getElem?_getD, List.getElem?_eq_getElem hlt, Option.getD_some]
    rw [incipitref1_Write.l0, if_pos (by omega), if_pos (by omega), hr, rvalid_f, Option.bind_some]
    have hd : l.drop i = l[i] :: l.drop (i + 1) := List.drop_eq_getElem_cons hlt
    by_cases hv : valid l[i]
    · rw [if_pos (by simpa using hv), one_f _ hv, Option.bind_some]
      have s1 : (strOfNums acc).size = acc.length := strOfNums_size _
      have s2 : (strOfNums (enc l[i])).size = (enc l[i]).length := strOfNums_size _
      have e4 := enc_le l[i]
      have hb2 : isByte (acc ++ enc l[i]) := isByte_append hb (enc_byte hv)
      have e : strOfNums acc ++ strOfNums (enc l[i]) = strOfNums (acc ++ enc l[i]) := by
        apply bnums_inj; rw [bnums_append, bnums_str hb, bnums_str (enc_byte hv), bnums_str hb2]
      rw [if_pos (by omega), e, w64 (by omega) (by omega)]
      have := ih k (i + 1) (acc ++ enc l[i]) hb2 (by omega) (by rw [List.length_append]; omega) (by omega)
      rw [Int.natCast_succ] at this
      rw [this, hd]
      unfold wrote
      by_cases ha : ∀ c ∈ l.drop (i + 1), valid c
      · rw [if_pos ha, if_pos (by intro c hc; rcases List.mem_cons.1 hc with rfl | hc; exact hv; exact ha c hc), encAll_cons, List.append_assoc]
      · rw [if_neg ha, if_neg (fun h => ha fun c hc => h c (List.mem_cons_of_mem _ hc))]
    · rw [if_neg (by simpa using hv), hd]
      unfold wrote
      rw [if_neg (fun h => hv (h _ List.mem_cons_self))]

theorem rwrite_f (l : List Int) (hl : l.length < 1000000) (k : Nat) (hk : l.length < k) : incipitref1_Write.f k l = some (wrote [] l) := by
  unfold incipitref1_Write.f
  have := rwrite_l l hl l.length k 0 [] (by intro x hx; cases hx) (by omega) (by simp) hk
  rw [List.drop_zero] at this
  exact this

end Go.Proofs.Ytiplbhjllkfemaa.PureSt
