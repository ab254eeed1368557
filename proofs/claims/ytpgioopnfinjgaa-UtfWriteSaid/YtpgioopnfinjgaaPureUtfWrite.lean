/-
  Proved: for every list of ints l, incipitlaw1.UtfWrite(l) returns true: of l (cut to 60 numbers) utf.Write and utf.Valid tell what the reference tells, and what is written is read again. Conditions: none beyond a list's length being one that the statement lets in.
-/
import Derived.Test.YtpgioopnfinjgaaRefWriteUtfWrite
import Derived.Test.YtpgioopnfinjgaaReadUtfWrite
import Derived.Test.YtpgioopnfinjgaaIntsSameUtfWrite
import Derived.KernelRfl
namespace Go.Proofs.Ytpgioopnfinjgaa.PureUtfWrite
open Go.RowKit Go.Proofs.Ytpgioopnfinjgaa.MUtfWrite Go.Proofs.YtpgioopnfinjgaaW.PrintWords Go.Proofs.YtpgioopnfinjgaaW.PrintLast Go.Proofs.Ytpgioopnfinjgaa.Utf

theorem begun_30 : incipitlaw1_begun.f 30 = some true := by kernel_rfl
theorem begun_f (k : Nat) (hk : 30 ≤ k) : incipitlaw1_begun.f k = some true := at_rounds incipitlaw1_begun.mono hk begun_30

theorem read_wrote (l : List Int) (hl : l.length ≤ 60) (h : ∀ c ∈ l, valid c) (k : Nat) (hk : 300 ≤ k) : utf_Read.f k (strOfNums ([] ++ encAll l)) = some (l, true) := by
  unfold utf_Read.f
  have s := strOfNums_size ([] ++ encAll l)
  have e := encAll_len l
  rw [List.nil_append] at s ⊢
  rw [read_l 240 k _ [] (by omega) (by simp) (by omega)]
  unfold told
  rw [bnums_str (encAll_byte h)]
  have := chars_encAll l h (t := []) (by intro x hx; cases hx)
  rw [List.append_nil, chars_nil, Option.map_some, List.append_nil] at this
  rw [this]
  simp

/-- What follows behind the loop over the numbers. -/
theorem rest (l : List Int) (hl : l.length ≤ 60) (k : Nat) (hk : 300 ≤ k) :
    (if (wrote [] l).2 = true then ((utf_Read.f k (wrote [] l).1).bind fun bt181 => (if (wrote [] l).2 = true then (if (wrote [] l).1.toList = (wrote [] l).1.toList then (if bt181.2 = true then ((incipitlaw1_Ints.f k l bt181.1).bind fun t185 => (some t185)) else (some false)) else (some false)) else (some false))) else (if (wrote [] l).2 = true then (some false) else (some ((wrote [] l).1.toList == ([] : List UInt8))))) = some true := by
  by_cases h : ∀ c ∈ l, valid c
  · have hw : wrote [] l = (strOfNums ([] ++ encAll l), true) := by unfold wrote; rw [if_pos h]
    rw [hw]
    dsimp only
    rw [if_pos (Eq.refl true), read_wrote l hl h k hk, Option.bind_some, if_pos (Eq.refl true), if_pos (Eq.refl (strOfNums ([] ++ encAll l)).toList), if_pos (Eq.refl true), ints_f l k (by omega) (by omega)]
    rfl
  · have hw : wrote [] l = (⟨#[]⟩, false) := by unfold wrote; rw [if_neg h]
    rw [hw]
    dsimp only
    rw [if_neg Bool.false_ne_true, if_neg Bool.false_ne_true]
    have e0 : (⟨#[]⟩ : ByteArray).toList = [] := by rw [_root_.Go.ByteArray.toList_eq]
    rw [e0]
    rfl

theorem loop0 (l : List Int) (hl : l.length ≤ 60) (d : Nat) : ∀ (k i : Nat), i + d = l.length → d + 301 ≤ k → incipitlaw1_UtfWrite.l0 k l (wrote [] l).1 (wrote [] l).2 (wrote [] l).1 (wrote [] l).2 i = some true := by
  induction d with
  | zero =>
    intro k i hi hk
    obtain ⟨k, rfl⟩ : ∃ m, k = m + 1 := ⟨k - 1, by omega⟩
    rw [incipitlaw1_UtfWrite.l0, if_neg (by omega)]
    exact rest l hl k (by omega)
  | succ d ih =>
    intro k i hi hk
    obtain ⟨k, rfl⟩ : ∃ m, k = m + 1 := ⟨k - 1, by omega⟩
    rw [incipitlaw1_UtfWrite.l0, if_pos (by omega), if_pos (by omega), valid_f, Option.bind_some, rvalid_f, Option.bind_some, if_neg (by simp), w64 (by omega) (by omega)]
    exact ih k (i + 1) (by omega) (by omega)
theorem loop1 (l : List Int) (hl : l.length ≤ 60) (d : Nat) : ∀ (k i : Nat), i + d = l.length → d + 301 ≤ k → incipitlaw1_UtfWrite.l101 k l (wrote [] l).1 (wrote [] l).2 (wrote [] l).1 (wrote [] l).2 i = some true := by
  induction d with
  | zero =>
    intro k i hi hk
    obtain ⟨k, rfl⟩ : ∃ m, k = m + 1 := ⟨k - 1, by omega⟩
    rw [incipitlaw1_UtfWrite.l101, if_neg (by omega)]
    exact rest l hl k (by omega)
  | succ d ih =>
    intro k i hi hk
    obtain ⟨k, rfl⟩ : ∃ m, k = m + 1 := ⟨k - 1, by omega⟩
    rw [incipitlaw1_UtfWrite.l101, if_pos (by omega), if_pos (by omega), valid_f, Option.bind_some, rvalid_f, Option.bind_some, if_neg (by simp), w64 (by omega) (by omega)]
    exact ih k (i + 1) (by omega) (by omega)

theorem write_true (l : List Int) (K : Nat) (hK : 500 ≤ K) : incipitlaw1_UtfWrite.f K l = some true := by
  unfold incipitlaw1_UtfWrite.f
  rw [begun_f _ (by omega), Option.bind_some, if_pos (Eq.refl true)]
  by_cases h : (l.length : Int) > 60
  · have hy : (l.take 60).length = 60 := by rw [List.length_take]; omega
    rw [if_pos h, if_pos (by omega), Option.bind_some]
    generalize l.take 60 = y at hy ⊢
    rw [write_f y (by omega) _ (by omega), Option.bind_some, rwrite_f y (by omega) _ (by omega), Option.bind_some]
    exact loop0 y (by omega) y.length K 0 (by omega) (by omega)
  · rw [if_neg h, write_f l (by omega) _ (by omega), Option.bind_some, rwrite_f l (by omega) _ (by omega), Option.bind_some]
    exact loop1 l (by omega) l.length K 0 (by omega) (by omega)

theorem UtfWrite : incipitlaw1_UtfWrite.Pure := by
  intro l _ _ _
  exact ⟨500, write_true l 500 (Nat.le_refl _)⟩

end Go.Proofs.Ytpgioopnfinjgaa.PureUtfWrite
namespace Go.Proofs.Ytpgioopnfinjgaa.Pure
theorem UtfWrite : MUtfWrite.incipitlaw1_UtfWrite.Pure := PureUtfWrite.UtfWrite
end Go.Proofs.Ytpgioopnfinjgaa.Pure
