/-
  Proved: for every int l, incipitlaw3.HangulLead(l) returns true: of a leading letter all its syllables are taken apart by hangul.Split and put together by hangul.Join. No condition beyond l being an int.
-/
import Derived.Test.YtpgioopnfinjgaaMHangulLeadx2
import Derived.KernelRfl
namespace Go.Proofs.Ytpgioopnfinjgaa.PureHangulLead
open Go.RowKit Go.Proofs.Ytpgioopnfinjgaa.MHangulLead Go.Proofs.YtpgioopnfinjgaaW.PrintWords Go.Proofs.YtpgioopnfinjgaaW.PrintLast

theorem w64 {x : Int} (h0 : -9223372036854775808 ≤ x) (h1 : x < 9223372036854775808) : wrap64 x = x := by
  unfold wrap64; omega

/-- The letters of a syllable. -/
def letters (c : Int) : List Int :=
  if c < 44032 ∨ 55204 ≤ c then [] else
    if (c - 44032) % 28 = 0 then [4352 + (c - 44032) / 588, 4449 + (c - 44032) / 28 % 21]
    else [4352 + (c - 44032) / 588, 4449 + (c - 44032) / 28 % 21, 4519 + (c - 44032) % 28]

theorem split_f (k : Nat) (c : Int) : hangul_Split.f (k + 1) c = some (letters c) := by
  unfold hangul_Split.f letters
  by_cases h1 : c < 44032
  · rw [if_pos h1, if_pos (Or.inl h1)]; rfl
  · rw [if_neg h1]
    by_cases h2 : 55204 ≤ c
    · rw [if_pos (Or.inr h2)]
      have : decide (c ≥ 55204) = true := decide_eq_true h2
      rw [this]; rfl
    · rw [if_neg (by omega)]
      have : decide (c ≥ 55204) = false := decide_eq_false h2
      rw [this]
      have e0 : wrap64 (c - 44032) = c - 44032 := w64 (by omega) (by omega)
      simp only [hangul_Split.j0, e0, Bool.false_eq_true, if_false, Option.bind_some]
      rw [Int.tdiv_eq_ediv_of_nonneg (by omega), Int.tdiv_eq_ediv_of_nonneg (by omega), Int.tmod_eq_emod_of_nonneg (by omega : (0 : Int) ≤ c - 44032),
        w64 (x := (c - 44032) / 28) (by omega) (by omega), Int.tmod_eq_emod_of_nonneg (by omega), w64 (x := (c - 44032) / 588) (by omega) (by omega),
        w64 (x := 4352 + (c - 44032) / 588) (by omega) (by omega), w64 (x := 4449 + (c - 44032) / 28 % 21) (by omega) (by omega), w64 (x := 4519 + (c - 44032) % 28) (by omega) (by omega)]
      by_cases h3 : (c - 44032) % 28 = 0
      · rw [if_neg (by omega), if_pos h3]
      · rw [if_pos (by omega), if_pos (by simp), if_neg h3]; rfl

theorem letters_of (c x y : Int) (h1 : 44032 ≤ c) (h2 : c < 55204) (hy : 0 ≤ y) (hy' : y < 21) (hd : x * 21 + y = (c - 44032) / 28) :
    letters c = if c - 44032 - (x * 21 + y) * 28 = 0 then [4352 + x, 4449 + y] else [4352 + x, 4449 + y, 4519 + (c - 44032 - (x * 21 + y) * 28)] := by
  unfold letters
  rw [if_neg (by omega)]
  have a1 : (c - 44032) / 588 = x := by omega
  have a2 : (c - 44032) / 28 % 21 = y := by omega
  have a3 : (c - 44032) % 28 = c - 44032 - (x * 21 + y) * 28 := by omega
  rw [a1, a2, a3]

theorem ints_l (xs : List Int) (d : Nat) : ∀ (k : Nat) (i : Int), 0 ≤ i → (xs.length : Int) ≤ 1000000 → i + d = xs.length → d < k → incipitlaw1_Ints.l0 k xs xs i = some true := by
  induction d with
  | zero =>
    intro k i h0 hl hd hk
    obtain ⟨k, rfl⟩ : ∃ m, k = m + 1 := ⟨k - 1, by omega⟩
    simp only [incipitlaw1_Ints.l0]; rw [if_neg (by omega)]
  | succ d ih =>
    intro k i h0 hl hd hk
    obtain ⟨k, rfl⟩ : ∃ m, k = m + 1 := ⟨k - 1, by omega⟩
    simp only [incipitlaw1_Ints.l0]; rw [if_pos (by omega), if_pos h0, if_pos (by omega), if_pos trivial, w64 (by omega) (by omega)]
    exact ih k (i + 1) (by omega) hl (by omega) (by omega)

theorem ints_f (xs : List Int) (k : Nat) (hl : (xs.length : Int) ≤ 1000000) (hk : xs.length < k) : incipitlaw1_Ints.f k xs xs = some true := by
  unfold incipitlaw1_Ints.f
  rw [if_pos rfl]
  exact ints_l xs xs.length k 0 (by omega) hl (by omega) hk

theorem join_two (c : Int) (h1 : 44032 ≤ c) (h2 : c < 55204) (h3 : (c - 44032) % 28 = 0) : hangul_Join.f (4352 + (c - 44032) / 588) (4449 + (c - 44032) / 28 % 21) 0 = some c := by
  unfold hangul_Join.f
  rw [if_pos (Eq.refl (0 : Int)), if_neg (by omega), if_neg (by omega), if_neg (by omega), if_neg (by omega)]
  rw [w64 (x := 4352 + (c - 44032) / 588 - 4352) (by omega) (by omega), w64 (x := (4352 + (c - 44032) / 588 - 4352) * 21) (by omega) (by omega), w64 (x := (4352 + (c - 44032) / 588 - 4352) * 21 + (4449 + (c - 44032) / 28 % 21)) (by omega) (by omega),
    w64 (x := (4352 + (c - 44032) / 588 - 4352) * 21 + (4449 + (c - 44032) / 28 % 21) - 4449) (by omega) (by omega), w64 (x := ((4352 + (c - 44032) / 588 - 4352) * 21 + (4449 + (c - 44032) / 28 % 21) - 4449) * 28) (by omega) (by omega),
    w64 (x := 44032 + ((4352 + (c - 44032) / 588 - 4352) * 21 + (4449 + (c - 44032) / 28 % 21) - 4449) * 28) (by omega) (by omega), w64 (x := 44032 + ((4352 + (c - 44032) / 588 - 4352) * 21 + (4449 + (c - 44032) / 28 % 21) - 4449) * 28 + 4519) (by omega) (by omega), w64 (by omega) (by omega)]
  congr 1; omega

theorem join_three (c : Int) (h1 : 44032 ≤ c) (h2 : c < 55204) (h3 : (c - 44032) % 28 ≠ 0) : hangul_Join.f (4352 + (c - 44032) / 588) (4449 + (c - 44032) / 28 % 21) (4519 + (c - 44032) % 28) = some c := by
  unfold hangul_Join.f
  rw [if_neg (by omega), if_neg (by omega), if_neg (by omega), if_neg (by omega), if_neg (by omega), if_neg (by omega), if_neg (by omega), if_neg (by omega)]
  rw [w64 (x := 4352 + (c - 44032) / 588 - 4352) (by omega) (by omega), w64 (x := (4352 + (c - 44032) / 588 - 4352) * 21) (by omega) (by omega), w64 (x := (4352 + (c - 44032) / 588 - 4352) * 21 + (4449 + (c - 44032) / 28 % 21)) (by omega) (by omega),
    w64 (x := (4352 + (c - 44032) / 588 - 4352) * 21 + (4449 + (c - 44032) / 28 % 21) - 4449) (by omega) (by omega), w64 (x := ((4352 + (c - 44032) / 588 - 4352) * 21 + (4449 + (c - 44032) / 28 % 21) - 4449) * 28) (by omega) (by omega),
    w64 (x := 44032 + ((4352 + (c - 44032) / 588 - 4352) * 21 + (4449 + (c - 44032) / 28 % 21) - 4449) * 28) (by omega) (by omega), w64 (x := 44032 + ((4352 + (c - 44032) / 588 - 4352) * 21 + (4449 + (c - 44032) / 28 % 21) - 4449) * 28 + (4519 + (c - 44032) % 28)) (by omega) (by omega), w64 (by omega) (by omega)]
  congr 1; omega

theorem begun_f (k : Nat) (hk : 10 ≤ k) : incipitlaw3_begun.f k = some true := by
  obtain ⟨k, rfl⟩ : ∃ m, k = m + 1 := ⟨k - 1, by omega⟩
  unfold incipitlaw3_begun.f
  have e1 : letters 54620 = [4370, 4449, 4523] := by decide
  have e2 : letters 97 = [] := by decide
  have e3 : hangul_Join.f 4370 4449 4523 = some 54620 := by decide +kernel
  have e4 : hangul_Join.f 97 4449 0 = some (-1) := by decide +kernel
  rw [split_f, e1]
  simp only [Option.bind_some]
  rw [ints_f _ _ (by simp) (by simp; omega)]
  simp only [Option.bind_some, if_true]
  rw [e3]
  simp only [Option.bind_some, if_true]
  rw [split_f, e2]
  simp only [Option.bind_some]
  rw [e4]
  rfl


theorem split_at {k : Nat} (hk : 1 ≤ k) (c : Int) : hangul_Split.f k c = some (letters c) := by
  obtain ⟨k, rfl⟩ : ∃ m, k = m + 1 := ⟨k - 1, by omega⟩
  exact split_f k c

/-- One syllable. -/
theorem one (l v t : Int) (k : Nat) (hk : 1 ≤ k) (l0 : 0 ≤ l) (l1 : l ≤ 18) (v0 : 0 ≤ v) (v1 : v < 21) (t0 : 0 ≤ t) (t1 : t < 28) :
    incipitlaw3_HangulLead.l1 (k + 1) l v t = incipitlaw3_HangulLead.l1 k l v (t + 1) := by
  rw [incipitlaw3_HangulLead.l1, if_pos (by omega), w64 (x := l * 21) (by omega) (by omega), w64 (x := l * 21 + v) (by omega) (by omega), w64 (x := (l * 21 + v) * 28) (by omega) (by omega), w64 (x := 44032 + (l * 21 + v) * 28) (by omega) (by omega),
    w64 (x := 44032 + (l * 21 + v) * 28 + t) (by omega) (by omega), w64 (x := t + 1) (by omega) (by omega), w64 (x := 4352 + l) (by omega) (by omega), w64 (x := 4449 + v) (by omega) (by omega), w64 (x := 4519 + t) (by omega) (by omega), split_at hk, Option.bind_some]
  have hd : l * 21 + v = (44032 + (l * 21 + v) * 28 + t - 44032) / 28 := by omega
  have hc : 44032 + (l * 21 + v) * 28 + t - 44032 - (l * 21 + v) * 28 = t := by omega
  have d1 : (44032 + (l * 21 + v) * 28 + t - 44032) / 588 = l := by omega
  have d2 : (44032 + (l * 21 + v) * 28 + t - 44032) / 28 % 21 = v := by omega
  have d3 : (44032 + (l * 21 + v) * 28 + t - 44032) % 28 = t := by omega
  by_cases h : t = 0
  · have e : letters (44032 + (l * 21 + v) * 28 + t) = [4352 + l, 4449 + v] := by
      rw [letters_of _ l v (by omega) (by omega) v0 v1 hd, hc, if_pos h]
    have j := join_two (44032 + (l * 21 + v) * 28 + t) (by omega) (by omega) (by omega)
    rw [d1, d2] at j
    rw [if_pos h, e, if_pos (by simp), if_pos (by simp), if_pos (by simp), show rd [4352 + l, 4449 + v] 0 = 4352 + l from rfl, show rd [4352 + l, 4449 + v] 1 = 4449 + v from rfl, j, Option.bind_some, if_pos (Eq.refl (44032 + (l * 21 + v) * 28 + t)), if_neg (by omega), if_pos (Eq.refl (4352 + l)), if_pos (Eq.refl (4449 + v))]
  · have e : letters (44032 + (l * 21 + v) * 28 + t) = [4352 + l, 4449 + v, 4519 + t] := by
      rw [letters_of _ l v (by omega) (by omega) v0 v1 hd, hc, if_neg h]
    have j := join_three (44032 + (l * 21 + v) * 28 + t) (by omega) (by omega) (by omega)
    rw [d1, d2, d3] at j
    rw [if_neg h, e, if_pos (by omega), if_pos (by simp), if_pos (by simp), show rd [4352 + l, 4449 + v, 4519 + t] 2 = 4519 + t from rfl, if_pos (Eq.refl (4519 + t)), if_pos (by simp), if_pos (by simp), show rd [4352 + l, 4449 + v, 4519 + t] 0 = 4352 + l from rfl,
      show rd [4352 + l, 4449 + v, 4519 + t] 1 = 4449 + v from rfl, j, Option.bind_some, if_pos (Eq.refl (44032 + (l * 21 + v) * 28 + t)), if_pos (Eq.refl (4352 + l)), if_pos (Eq.refl (4449 + v))]

theorem inner (l v : Int) (l0 : 0 ≤ l) (l1 : l ≤ 18) (v0 : 0 ≤ v) (v1 : v < 21) (d : Nat) : ∀ (k : Nat) (t : Int), 0 ≤ t → t + d = 28 → d + 2 ≤ k → incipitlaw3_HangulLead.l1 k l v t = incipitlaw3_HangulLead.l0 (k - d - 1) l (v + 1) := by
  induction d with
  | zero =>
    intro k t t0 ht hk
    obtain ⟨k, rfl⟩ : ∃ m, k = m + 1 := ⟨k - 1, by omega⟩
    rw [incipitlaw3_HangulLead.l1, if_neg (by omega), w64 (by omega) (by omega)]
    rfl
  | succ d ih =>
    intro k t t0 ht hk
    obtain ⟨k, rfl⟩ : ∃ m, k = m + 1 := ⟨k - 1, by omega⟩
    rw [one l v t k (by omega) l0 l1 v0 v1 t0 (by omega), ih k (t + 1) (by omega) (by omega) (by omega)]
    congr 1
    omega

theorem outer (l : Int) (l0 : 0 ≤ l) (l1 : l ≤ 18) (d : Nat) : ∀ (k : Nat) (v : Int), 0 ≤ v → v + d = 21 → 40 * d + 2 ≤ k → incipitlaw3_HangulLead.l0 k l v = some true := by
  induction d with
  | zero =>
    intro k v v0 hv hk
    obtain ⟨k, rfl⟩ : ∃ m, k = m + 1 := ⟨k - 1, by omega⟩
    rw [incipitlaw3_HangulLead.l0, if_neg (by omega)]
  | succ d ih =>
    intro k v v0 hv hk
    obtain ⟨k, rfl⟩ : ∃ m, k = m + 1 := ⟨k - 1, by omega⟩
    rw [incipitlaw3_HangulLead.l0, if_pos (by omega), inner l v l0 l1 v0 (by omega) 28 k 0 (by omega) (by omega) (by omega)]
    exact ih (k - 28 - 1) (v + 1) (by omega) (by omega) (by omega)

theorem lead_true (l : Int) (k : Nat) (hk : 1000 ≤ k) : incipitlaw3_HangulLead.f (k + 1) l = some true := by
  have hout : incipitlaw3_HangulLead.j0 (k + 1) l true = some true := by
    have e1 : letters 44031 = [] := by decide
    have e2 : letters 55204 = [] := by decide
    rw [incipitlaw3_HangulLead.j0, if_pos (Eq.refl true), split_at (by omega), Option.bind_some, e1, if_pos (by simp), split_at (by omega), Option.bind_some, e2]
    rfl
  unfold incipitlaw3_HangulLead.f
  rw [begun_f _ (by omega), Option.bind_some, if_pos (Eq.refl true)]
  by_cases h0 : l < 0
  · rw [if_pos h0, hout]
  · rw [if_neg h0]
    by_cases h1 : l > 18
    · rw [decide_eq_true h1, hout]
    · rw [decide_eq_false h1, incipitlaw3_HangulLead.j0, if_neg Bool.false_ne_true]
      exact outer l (by omega) (by omega) 21 k 0 (by omega) (by omega) (by omega)

theorem HangulLead : incipitlaw3_HangulLead.Pure := by
  intro l _
  exact ⟨1000 + 1, lead_true l 1000 (Nat.le_refl _)⟩

end Go.Proofs.Ytpgioopnfinjgaa.PureHangulLead
namespace Go.Proofs.Ytpgioopnfinjgaa.Pure
theorem HangulLead : MHangulLead.incipitlaw3_HangulLead.Pure := PureHangulLead.HangulLead
end Go.Proofs.Ytpgioopnfinjgaa.Pure
