/-
  Proved: for all lists of ints a, b, incipitlaw1.UtfJoin(a, b) returns true: what is written of a and of b (each cut to 30 numbers), put together, reads as a's numbers and then b's. Conditions: none beyond a list's length being one that the statement lets in.
-/
import Derived.Test.YtpgioopnfinjgaaWriteUtfJoin
import Derived.Test.YtpgioopnfinjgaaReadUtfJoin
import Derived.Test.YtpgioopnfinjgaaIntsSameUtfJoin
import Derived.KernelRfl
namespace Go.Proofs.Ytpgioopnfinjgaa.PureUtfJoin
open Go.RowKit Go.Proofs.Ytpgioopnfinjgaa.MUtfJoin Go.Proofs.YtpgioopnfinjgaaW.PrintWords Go.Proofs.YtpgioopnfinjgaaW.PrintLast Go.Proofs.Ytpgioopnfinjgaa.Utf

theorem begun_30 : incipitlaw1_begun.f 30 = some true := by kernel_rfl
theorem begun_f (k : Nat) (hk : 30 ≤ k) : incipitlaw1_begun.f k = some true := at_rounds incipitlaw1_begun.mono hk begun_30

theorem read_two (a b : List Int) (ha : a.length ≤ 30) (hb : b.length ≤ 30) (va : ∀ c ∈ a, valid c) (vb : ∀ c ∈ b, valid c) (k : Nat) (hk : 300 ≤ k) :
    utf_Read.f k (strOfNums ([] ++ encAll a) ++ strOfNums ([] ++ encAll b)) = some (a ++ b, true) := by
  unfold utf_Read.f
  have s := strOfNums_size ([] ++ encAll a)
  have s' := strOfNums_size ([] ++ encAll b)
  have e := encAll_len a
  have e' := encAll_len b
  rw [List.nil_append] at s s' ⊢
  rw [List.nil_append]
  rw [read_l 240 k _ [] (by rw [ByteArray.size_append]; omega) (by simp) (by omega)]
  unfold told
  rw [bnums_append, bnums_str (encAll_byte va), bnums_str (encAll_byte vb), chars_encAll a va (encAll_byte vb)]
  have := chars_encAll b vb (t := []) (by intro x hx; cases hx)
  rw [List.append_nil, chars_nil, Option.map_some, List.append_nil] at this
  rw [this]
  simp

/-- What follows behind the cuts. -/
theorem rest (a b : List Int) (ha : a.length ≤ 30) (hb : b.length ≤ 30) (k : Nat) (hk : 300 ≤ k) :
    ((utf_Write.f k a).bind fun bt161 => ((utf_Write.f k b).bind fun bt163 => (if bt161.2 = true then (if bt163.2 = true then (if bt161.1.size + bt163.1.size ≤ 9223372036854775807 then ((utf_Read.f k (bt161.1 ++ bt163.1)).bind fun bt165 => (if bt165.2 = true then (if ([] : List Int).length + a.length < 17592186044416 then ((some (([] : List Int) ++ a : List Int)).bind fun y169 => (if y169.length + b.length < 17592186044416 then ((incipitlaw1_Ints.f k bt165.1 (y169 ++ b)).bind fun t175 => (some t175)) else (none))) else (none)) else (some false))) else (none)) else (some true)) else (some true)))) = some true := by
  rw [write_f a (by omega) _ (by omega), Option.bind_some, write_f b (by omega) _ (by omega), Option.bind_some]
  by_cases va : ∀ c ∈ a, valid c
  · have hw : wrote [] a = (strOfNums ([] ++ encAll a), true) := by unfold wrote; rw [if_pos va]
    rw [hw]
    dsimp only
    rw [if_pos (Eq.refl true)]
    by_cases vb : ∀ c ∈ b, valid c
    · have hw' : wrote [] b = (strOfNums ([] ++ encAll b), true) := by unfold wrote; rw [if_pos vb]
      rw [hw']
      dsimp only
      have s := strOfNums_size ([] ++ encAll a)
      have s' := strOfNums_size ([] ++ encAll b)
      have e := encAll_len a
      have e' := encAll_len b
      rw [List.length_append, List.length_nil] at s s'
      rw [if_pos (Eq.refl true), if_pos (by omega), read_two a b ha hb va vb k hk, Option.bind_some, if_pos (Eq.refl true), if_pos (by simp only [List.length_nil]; omega), Option.bind_some, List.nil_append, if_pos (by omega),
        ints_f (a ++ b) k (by rw [List.length_append]; omega) (by rw [List.length_append]; omega)]
      rfl
    · have hw' : wrote [] b = (⟨#[]⟩, false) := by unfold wrote; rw [if_neg vb]
      rw [hw']
      dsimp only
      rw [if_neg Bool.false_ne_true]
  · have hw : wrote [] a = (⟨#[]⟩, false) := by unfold wrote; rw [if_neg va]
    rw [hw]
    dsimp only
    rw [if_neg Bool.false_ne_true]

theorem join_true (a b : List Int) (k : Nat) (hk : 300 ≤ k) : incipitlaw1_UtfJoin.f k a b = some true := by
  unfold incipitlaw1_UtfJoin.f
  rw [begun_f _ (by omega), Option.bind_some, if_pos (Eq.refl true)]
  by_cases h : (a.length : Int) > 30
  · have hy : (a.take 30).length = 30 := by rw [List.length_take]; omega
    rw [if_pos h, if_pos (by omega), Option.bind_some]
    generalize a.take 30 = x at hy ⊢
    by_cases h' : (b.length : Int) > 30
    · have hy' : (b.take 30).length = 30 := by rw [List.length_take]; omega
      rw [if_pos h', if_pos (by omega), Option.bind_some]
      generalize b.take 30 = y at hy' ⊢
      exact rest x y (by omega) (by omega) k hk
    · rw [if_neg h']
      exact rest x b (by omega) (by omega) k hk
  · rw [if_neg h]
    by_cases h' : (b.length : Int) > 30
    · have hy' : (b.take 30).length = 30 := by rw [List.length_take]; omega
      rw [if_pos h', if_pos (by omega), Option.bind_some]
      generalize b.take 30 = y at hy' ⊢
      exact rest a y (by omega) (by omega) k hk
    · rw [if_neg h']
      exact rest a b (by omega) (by omega) k hk

theorem UtfJoin : incipitlaw1_UtfJoin.Pure := by
  intro a b _ _ _ _ _ _
  exact ⟨300, join_true a b 300 (Nat.le_refl _)⟩

end Go.Proofs.Ytpgioopnfinjgaa.PureUtfJoin
namespace Go.Proofs.Ytpgioopnfinjgaa.Pure
theorem UtfJoin : MUtfJoin.incipitlaw1_UtfJoin.Pure := PureUtfJoin.UtfJoin
end Go.Proofs.Ytpgioopnfinjgaa.Pure
