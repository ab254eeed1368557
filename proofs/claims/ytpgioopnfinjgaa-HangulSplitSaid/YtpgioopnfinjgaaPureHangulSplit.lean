/-
  Proved: for every int c, incipitlaw3.HangulSplit(c) returns true: hangul.Split and the reference's Split tell the same letters, and hangul.Join makes c of them again. No condition beyond c being an int.
-/
import Derived.Test.YtpgioopnfinjgaaMHangulSplitx2
import Derived.KernelRfl
namespace Go.Proofs.Ytpgioopnfinjgaa.Pure
open Go.RowKit Go.Proofs.Ytpgioopnfinjgaa.MHangulSplit Go.Proofs.YtpgioopnfinjgaaW.PrintWords Go.Proofs.YtpgioopnfinjgaaW.PrintLast

theorem w64 {x : Int} (h0 : -9223372036854775808 ≤ x) (h1 : x < 9223372036854775808) : wrap64 x = x := by
  unfold wrap64; omega

/-- The letters of a syllable. -/
def letters (c : Int) : List Int :=
  if c < 44032 ∨ 55204 ≤ c then [] else
    if (c - 44032) % 28 = 0 then [4352 + (c - 44032) / 588, 4449 + (c - 44032) / 28 % 21]
    else [4352 + (c - 44032) / 588, 4449 + (c - 44032) / 28 % 21, 4519 + (c - 44032) % 28]

theorem split_f (k : Nat) (c : Int) : hangul_Split.f (k + 1) c = some (letters c) := by
  unfold hangul_Split.f letters
  by_cases h1 : c < 44032
  · rw [if_pos h1, if_pos (Or.inl h1)]; rfl
  · rw [if_neg h1]
    by_cases h2 : 55204 ≤ c
    · rw [if_pos (Or.inr h2)]
      have : decide (c ≥ 55204) = true := decide_eq_true h2
      rw [this]; rfl
    · rw [if_neg (by omega)]
      have : decide (c ≥ 55204) = false := decide_eq_false h2
      rw [this]
      have e0 : wrap64 (c - 44032) = c - 44032 := w64 (by omega) (by omega)
      simp only [hangul_Split.j0, e0, Bool.false_eq_true, if_false, Option.bind_some]
      rw [Int.tdiv_eq_ediv_of_nonneg (by omega), Int.tdiv_eq_ediv_of_nonneg (by omega), Int.tmod_eq_emod_of_nonneg (by omega : (0 : Int) ≤ c - 44032),
        w64 (x := (c - 44032) / 28) (by omega) (by omega), Int.tmod_eq_emod_of_nonneg (by omega), w64 (x := (c - 44032) / 588) (by omega) (by omega),
        w64 (x := 4352 + (c - 44032) / 588) (by omega) (by omega), w64 (x := 4449 + (c - 44032) / 28 % 21) (by omega) (by omega), w64 (x := 4519 + (c - 44032) % 28) (by omega) (by omega)]
      by_cases h3 : (c - 44032) % 28 = 0
      · rw [if_neg (by omega), if_pos h3]
      · rw [if_pos (by omega), if_pos (by simp), if_neg h3]; rfl

theorem letters_of (c x y : Int) (h1 : 44032 ≤ c) (h2 : c < 55204) (hy : 0 ≤ y) (hy' : y < 21) (hd : x * 21 + y = (c - 44032) / 28) :
    letters c = if c - 44032 - (x * 21 + y) * 28 = 0 then [4352 + x, 4449 + y] else [4352 + x, 4449 + y, 4519 + (c - 44032 - (x * 21 + y) * 28)] := by
  unfold letters
  rw [if_neg (by omega)]
  have a1 : (c - 44032) / 588 = x := by omega
  have a2 : (c - 44032) / 28 % 21 = y := by omega
  have a3 : (c - 44032) % 28 = c - 44032 - (x * 21 + y) * 28 := by omega
  rw [a1, a2, a3]

/-- One place of the two loops. -/
theorem ref_one (c : Int) (h1 : 44032 ≤ c) (h2 : c < 55204) (k : Nat) (x y : Int) (hx : 0 ≤ x) (hx' : x < 19) (hy : 0 ≤ y) (hy' : y < 21) (hd : x * 21 + y ≤ (c - 44032) / 28) :
    incipitref1_Split.l1 (k + 2) c x y = if x * 21 + y = (c - 44032) / 28 then some (letters c) else incipitref1_Split.l1 k c x (y + 1) := by
  rw [incipitref1_Split.l1, if_pos (by omega), w64 (x := c - 44032) (by omega) (by omega), w64 (x := x * 21) (by omega) (by omega), w64 (x := x * 21 + y) (by omega) (by omega), w64 (x := (x * 21 + y) * 28) (by omega) (by omega),
    w64 (x := c - 44032 - (x * 21 + y) * 28) (by omega) (by omega), if_pos (by omega)]
  by_cases e : x * 21 + y = (c - 44032) / 28
  · rw [if_pos e, decide_eq_true (show c - 44032 - (x * 21 + y) * 28 < 28 by omega), incipitref1_Split.j3, if_pos (Eq.refl true), letters_of c x y h1 h2 hy hy' e, w64 (x := 4352 + x) (by omega) (by omega), w64 (x := 4449 + y) (by omega) (by omega),
      w64 (x := 4519 + (c - 44032 - (x * 21 + y) * 28)) (by omega) (by omega)]
    split <;> rfl
  · rw [if_neg e, decide_eq_false (show ¬ c - 44032 - (x * 21 + y) * 28 < 28 by omega), incipitref1_Split.j3, if_neg Bool.false_ne_true, w64 (x := y + 1) (by omega) (by omega)]

theorem ref_l1 (c : Int) (h1 : 44032 ≤ c) (h2 : c < 55204) (d : Nat) : ∀ (k : Nat) (x y : Int), 0 ≤ x → x < 19 → 0 ≤ y → y ≤ 21 → (x * 21 + y) + d = (c - 44032) / 28 → 4 * d + 4 ≤ k →
    incipitref1_Split.l1 k c x y = some (letters c) := by
  induction d with
  | zero =>
    intro k x y hx hx' hy hy' hd hk
    by_cases hy2 : y = 21
    · obtain ⟨k, rfl⟩ : ∃ m, k = m + 4 := ⟨k - 4, by omega⟩
      rw [incipitref1_Split.l1, if_neg (by omega), incipitref1_Split.l0, w64 (by omega) (by omega), if_pos (by omega), ref_one c h1 h2 k (x + 1) 0 (by omega) (by omega) (by omega) (by omega) (by omega), if_pos (by omega)]
    · obtain ⟨k, rfl⟩ : ∃ m, k = m + 2 := ⟨k - 2, by omega⟩
      rw [ref_one c h1 h2 k x y hx hx' hy (by omega) (by omega), if_pos (by omega)]
  | succ d ih =>
    intro k x y hx hx' hy hy' hd hk
    by_cases hy2 : y = 21
    · obtain ⟨k, rfl⟩ : ∃ m, k = m + 4 := ⟨k - 4, by omega⟩
      rw [incipitref1_Split.l1, if_neg (by omega), incipitref1_Split.l0, w64 (by omega) (by omega), if_pos (by omega), ref_one c h1 h2 k (x + 1) 0 (by omega) (by omega) (by omega) (by omega) (by omega), if_neg (by omega)]
      exact ih k (x + 1) (0 + 1) (by omega) (by omega) (by omega) (by omega) (by omega) (by omega)
    · obtain ⟨k, rfl⟩ : ∃ m, k = m + 2 := ⟨k - 2, by omega⟩
      rw [ref_one c h1 h2 k x y hx hx' hy (by omega) (by omega), if_neg (by omega)]
      exact ih k x (y + 1) (by omega) (by omega) (by omega) (by omega) (by omega) (by omega)

theorem ref_f (k : Nat) (c : Int) (hk : 2000 ≤ k) : incipitref1_Split.f k c = some (letters c) := by
  obtain ⟨k, rfl⟩ : ∃ m, k = m + 2 := ⟨k - 2, by omega⟩
  unfold incipitref1_Split.f
  by_cases h1 : c < 44032
  · rw [if_pos h1]; unfold letters; rw [if_pos (Or.inl h1)]; rfl
  · rw [if_neg h1]
    by_cases h2 : 55204 ≤ c
    · have : decide (c > 55203) = true := decide_eq_true (by omega)
      rw [this]; unfold letters; rw [if_pos (Or.inr h2)]; rfl
    · have : decide (c > 55203) = false := decide_eq_false (by omega)
      rw [this]
      simp only [incipitref1_Split.j0, incipitref1_Split.l0, Bool.false_eq_true, if_false]
      rw [if_pos (by omega)]
      exact ref_l1 c (by omega) (by omega) ((c - 44032) / 28).toNat k 0 0 (by omega) (by omega) (by omega) (by omega) (by omega) (by omega)

theorem ints_l (xs : List Int) (d : Nat) : ∀ (k : Nat) (i : Int), 0 ≤ i → (xs.length : Int) ≤ 1000000 → i + d = xs.length → d < k → incipitlaw1_Ints.l0 k xs xs i = some true := by
  induction d with
  | zero =>
    intro k i h0 hl hd hk
    obtain ⟨k, rfl⟩ : ∃ m, k = m + 1 := ⟨k - 1, by omega⟩
    simp only [incipitlaw1_Ints.l0]; rw [if_neg (by omega)]
  | succ d ih =>
    intro k i h0 hl hd hk
    obtain ⟨k, rfl⟩ : ∃ m, k = m + 1 := ⟨k - 1, by omega⟩
    simp only [incipitlaw1_Ints.l0]; rw [if_pos (by omega), if_pos h0, if_pos (by omega), if_pos trivial, w64 (by omega) (by omega)]
    exact ih k (i + 1) (by omega) hl (by omega) (by omega)

theorem ints_f (xs : List Int) (k : Nat) (hl : (xs.length : Int) ≤ 1000000) (hk : xs.length < k) : incipitlaw1_Ints.f k xs xs = some true := by
  unfold incipitlaw1_Ints.f
  rw [if_pos rfl]
  exact ints_l xs xs.length k 0 (by omega) hl (by omega) hk

theorem join_two (c : Int) (h1 : 44032 ≤ c) (h2 : c < 55204) (h3 : (c - 44032) % 28 = 0) : hangul_Join.f (4352 + (c - 44032) / 588) (4449 + (c - 44032) / 28 % 21) 0 = some c := by
  unfold hangul_Join.f
  rw [if_pos (Eq.refl (0 : Int)), if_neg (by omega), if_neg (by omega), if_neg (by omega), if_neg (by omega)]
  rw [w64 (x := 4352 + (c - 44032) / 588 - 4352) (by omega) (by omega), w64 (x := (4352 + (c - 44032) / 588 - 4352) * 21) (by omega) (by omega), w64 (x := (4352 + (c - 44032) / 588 - 4352) * 21 + (4449 + (c - 44032) / 28 % 21)) (by omega) (by omega),
    w64 (x := (4352 + (c - 44032) / 588 - 4352) * 21 + (4449 + (c - 44032) / 28 % 21) - 4449) (by omega) (by omega), w64 (x := ((4352 + (c - 44032) / 588 - 4352) * 21 + (4449 + (c - 44032) / 28 % 21) - 4449) * 28) (by omega) (by omega),
    w64 (x := 44032 + ((4352 + (c - 44032) / 588 - 4352) * 21 + (4449 + (c - 44032) / 28 % 21) - 4449) * 28) (by omega) (by omega), w64 (x := 44032 + ((4352 + (c - 44032) / 588 - 4352) * 21 + (4449 + (c - 44032) / 28 % 21) - 4449) * 28 + 4519) (by omega) (by omega), w64 (by omega) (by omega)]
  congr 1; omega

theorem join_three (c : Int) (h1 : 44032 ≤ c) (h2 : c < 55204) (h3 : (c - 44032) % 28 ≠ 0) : hangul_Join.f (4352 + (c - 44032) / 588) (4449 + (c - 44032) / 28 % 21) (4519 + (c - 44032) % 28) = some c := by
  unfold hangul_Join.f
  rw [if_neg (by omega), if_neg (by omega), if_neg (by omega), if_neg (by omega), if_neg (by omega), if_neg (by omega), if_neg (by omega), if_neg (by omega)]
  rw [w64 (x := 4352 + (c - 44032) / 588 - 4352) (by omega) (by omega), w64 (x := (4352 + (c - 44032) / 588 - 4352) * 21) (by omega) (by omega), w64 (x := (4352 + (c - 44032) / 588 - 4352) * 21 + (4449 + (c - 44032) / 28 % 21)) (by omega) (by omega),
    w64 (x := (4352 + (c - 44032) / 588 - 4352) * 21 + (4449 + (c - 44032) / 28 % 21) - 4449) (by omega) (by omega), w64 (x := ((4352 + (c - 44032) / 588 - 4352) * 21 + (4449 + (c - 44032) / 28 % 21) - 4449) * 28) (by omega) (by omega),
    w64 (x := 44032 + ((4352 + (c - 44032) / 588 - 4352) * 21 + (4449 + (c - 44032) / 28 % 21) - 4449) * 28) (by omega) (by omega), w64 (x := 44032 + ((4352 + (c - 44032) / 588 - 4352) * 21 + (4449 + (c - 44032) / 28 % 21) - 4449) * 28 + (4519 + (c - 44032) % 28)) (by omega) (by omega), w64 (by omega) (by omega)]
  congr 1; omega

theorem begun_f (k : Nat) (hk : 10 ≤ k) : incipitlaw3_begun.f k = some true := by
  obtain ⟨k, rfl⟩ : ∃ m, k = m + 1 := ⟨k - 1, by omega⟩
  unfold incipitlaw3_begun.f
  have e1 : letters 54620 = [4370, 4449, 4523] := by decide
  have e2 : letters 97 = [] := by decide
  have e3 : hangul_Join.f 4370 4449 4523 = some 54620 := by decide +kernel
  have e4 : hangul_Join.f 97 4449 0 = some (-1) := by decide +kernel
  rw [split_f, e1]
  simp only [Option.bind_some]
  rw [ints_f _ _ (by simp) (by simp; omega)]
  simp only [Option.bind_some, if_true]
  rw [e3]
  simp only [Option.bind_some, if_true]
  rw [split_f, e2]
  simp only [Option.bind_some]
  rw [e4]
  rfl

theorem HangulSplit : incipitlaw3_HangulSplit.Pure := by
  intro c _
  refine ⟨2000, ?_⟩
  unfold incipitlaw3_HangulSplit.f
  rw [begun_f _ (by omega)]
  simp only [Option.bind_some, if_true]
  rw [split_f, ref_f _ _ (by omega)]
  simp only [Option.bind_some]
  have hl : (letters c).length ≤ 3 := by
    unfold letters
    split
    · simp
    · split <;> simp
  rw [ints_f _ _ (by omega) (by omega)]
  simp only [Option.bind_some, if_true]
  unfold letters
  by_cases h1 : c < 44032 ∨ 55204 ≤ c
  · simp [h1]
  · simp only [h1, if_false]
    by_cases h3 : (c - 44032) % 28 = 0
    · simp only [h3, if_true]
      have := join_two c (by omega) (by omega) h3
      simp [rd, this]
    · simp only [h3, if_false]
      have := join_three c (by omega) (by omega) h3
      simp [rd, this]

end Go.Proofs.Ytpgioopnfinjgaa.Pure
