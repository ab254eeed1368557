/-
  Proved: for every string s, incipitlaw1.UtfRead(s) returns true: utf.Read and utf.First tell of s (cut to 200 bytes) what the reference tells. Conditions: none beyond a string's length being one that the statement lets in.
-/
import Derived.Test.YtpgioopnfinjgaaRefFirstUtfRead
import Derived.KernelRfl
namespace Go.Proofs.Ytpgioopnfinjgaa.PureUtfRead
open Go.RowKit Go.Proofs.Ytpgioopnfinjgaa.PUtfRead Go.Proofs.YtpgioopnfinjgaaW.PrintWords Go.Proofs.YtpgioopnfinjgaaW.PrintLast Go.Proofs.Ytpgioopnfinjgaa.Utf

theorem begun_30 : incipitlaw1_begun.f 30 = some true := by kernel_rfl
theorem begun_f (k : Nat) (hk : 30 ≤ k) : incipitlaw1_begun.f k = some true := at_rounds incipitlaw1_begun.mono hk begun_30

/-- What Read tells. -/
def told (acc : List Int) (l : List Int) : List Int × Bool := match chars l with
  | some m => (acc ++ m, true)
  | none => ([], false)

theorem read_l (n : Nat) : ∀ (k : Nat) (s : ByteArray) (acc : List Int), s.size ≤ n → n + acc.length < 1000000 → n + 20 ≤ k → utf_Read.l0 k s acc = some (told acc (bnums s)) := by
  induction n with
  | zero =>
    intro k s acc hs ha hk
    obtain ⟨k, rfl⟩ : ∃ m, k = m + 1 := ⟨k - 1, by omega⟩
    simp only [utf_Read.l0]
    by_cases h0 : s.toList = ([] : List UInt8)
    · rw [if_pos h0]; simp [told, bnums_nil h0, chars_nil]
    · have := bnums_ne h0
      have e := bnums_length s
      have := List.length_pos_iff.2 this
      omega
  | succ n ih =>
    intro k s acc hs ha hk
    obtain ⟨k, rfl⟩ : ∃ m, k = m + 1 := ⟨k - 1, by omega⟩
    simp only [utf_Read.l0]
    by_cases h0 : s.toList = ([] : List UInt8)
    · rw [if_pos h0]; simp [told, bnums_nil h0, chars_nil]
    · rw [if_neg h0, first_at (by omega)]
      simp only [Option.bind_some]
      unfold told
      rw [chars_step (bnums_byte s) (bnums_ne h0)]
      by_cases h2 : (dec (bnums s)).2 = 0
      · rw [if_pos h2, if_pos h2]
      · rw [if_neg h2, if_neg h2]
        have hp := dec_pos (bnums_byte s) h2
        have e := bnums_length s
        rw [if_pos (by omega), if_pos hp.2.2, if_pos (by omega), ih _ _ _ (by rw [ByteArray.size_extract]; omega) (by simp; omega) (by omega)]
        unfold told
        rw [bnums_extract, List.take_of_length_le (by omega)]
        cases chars ((bnums s).drop (dec (bnums s)).2.toNat) <;> simp

theorem rread_l (n : Nat) : ∀ (k : Nat) (s : ByteArray) (acc : List Int), s.size ≤ n → n + acc.length < 1000000 → n + 20 ≤ k → incipitref1_Read.l0 k s acc = some (told acc (bnums s)) := by
  induction n with
  | zero =>
    intro k s acc hs ha hk
    obtain ⟨k, rfl⟩ : ∃ m, k = m + 1 := ⟨k - 1, by omega⟩
    simp only [incipitref1_Read.l0]
    by_cases h0 : s.toList = ([] : List UInt8)
    · rw [if_pos h0]; simp [told, bnums_nil h0, chars_nil]
    · have := bnums_ne h0
      have e := bnums_length s
      have := List.length_pos_iff.2 this
      omega
  | succ n ih =>
    intro k s acc hs ha hk
    obtain ⟨k, rfl⟩ : ∃ m, k = m + 1 := ⟨k - 1, by omega⟩
    simp only [incipitref1_Read.l0]
    by_cases h0 : s.toList = ([] : List UInt8)
    · rw [if_pos h0]; simp [told, bnums_nil h0, chars_nil]
    · rw [if_neg h0, ref_first_at (by omega)]
      simp only [Option.bind_some]
      unfold told
      rw [chars_step (bnums_byte s) (bnums_ne h0)]
      by_cases h2 : (dec (bnums s)).2 = 0
      · rw [if_pos h2, if_pos h2]
      · rw [if_neg h2, if_neg h2]
        have hp := dec_pos (bnums_byte s) h2
        have e := bnums_length s
        rw [if_pos (by omega), if_pos hp.2.2, if_pos (by omega), ih _ _ _ (by rw [ByteArray.size_extract]; omega) (by simp; omega) (by omega)]
        unfold told
        rw [bnums_extract, List.take_of_length_le (by omega)]
        cases chars ((bnums s).drop (dec (bnums s)).2.toNat) <;> simp

theorem charsN_len (n : Nat) : ∀ (l m : List Int), isByte l → charsN n l = some m → m.length ≤ l.length := by
  induction n with
  | zero => intro l m _ h; cases h
  | succ n ih =>
    intro l m hb h
    unfold charsN at h
    by_cases h0 : l = []
    · rw [if_pos h0] at h; cases h; simp
    · rw [if_neg h0] at h
      by_cases h2 : (dec l).2 = 0
      · rw [if_pos h2] at h; cases h
      · rw [if_neg h2] at h
        obtain ⟨m', hm', rfl⟩ := Option.map_eq_some_iff.1 h
        have hp := dec_pos hb h2
        have := ih _ _ (isByte_drop hb _) hm'
        rw [List.length_drop] at this
        simp
        omega

theorem told_len (l : List Int) (hb : isByte l) : (told [] l).1.length ≤ l.length := by
  unfold told
  cases h : chars l with
  | none => simp
  | some m => simpa using charsN_len _ _ _ hb h

theorem ints_l (xs : List Int) (d : Nat) : ∀ (k : Nat) (i : Int), 0 ≤ i → (xs.length : Int) ≤ 1000000 → i + d = xs.length → d < k → incipitlaw1_Ints.l0 k xs xs i = some true := by
  induction d with
  | zero =>
    intro k i h0 hl hd hk
    obtain ⟨k, rfl⟩ : ∃ m, k = m + 1 := ⟨k - 1, by omega⟩
    simp only [incipitlaw1_Ints.l0]; rw [if_neg (by omega)]
  | succ d ih =>
    intro k i h0 hl hd hk
    obtain ⟨k, rfl⟩ : ∃ m, k = m + 1 := ⟨k - 1, by omega⟩
    simp only [incipitlaw1_Ints.l0]; rw [if_pos (by omega), if_pos h0, if_pos (by omega), if_pos trivial, w64 (by omega) (by omega)]
    exact ih k (i + 1) (by omega) hl (by omega) (by omega)
theorem ints_f (xs : List Int) (k : Nat) (hl : (xs.length : Int) ≤ 1000000) (hk : xs.length < k) : incipitlaw1_Ints.f k xs xs = some true := by
  unfold incipitlaw1_Ints.f
  rw [if_pos rfl]
  exact ints_l xs xs.length k 0 (by omega) hl (by omega) hk

theorem cut_f (s : ByteArray) : ∃ t, incipitlaw1_Cut.f s 200 = some t ∧ t.size ≤ 200 := by
  unfold incipitlaw1_Cut.f
  by_cases h : (s.size : Int) > 200
  · rw [if_pos h, if_pos (by omega), if_pos (by omega)]
    exact ⟨_, rfl, by rw [ByteArray.size_extract, show (200 : Int).toNat = 200 from rfl]; omega⟩
  · rw [if_neg h]; exact ⟨s, rfl, by omega⟩

theorem UtfRead : incipitlaw1_UtfRead.Pure := by
  intro s _
  refine ⟨1010, ?_⟩
  unfold incipitlaw1_UtfRead.f
  rw [begun_f _ (by omega)]
  simp only [Option.bind_some, if_true]
  obtain ⟨t, ht, hs⟩ := cut_f s
  rw [ht]
  simp only [Option.bind_some]
  unfold utf_Read.f incipitref1_Read.f
  rw [read_l 200 _ t [] hs (by simp) (by omega), rread_l 200 _ t [] hs (by simp) (by omega)]
  simp only [Option.bind_some]
  rw [first_at (by omega), ref_first_at (by omega)]
  simp only [Option.bind_some]
  have hl := told_len (bnums t) (bnums_byte t)
  have e := bnums_length t
  rw [ints_f _ _ (by omega) (by omega)]
  simp

end Go.Proofs.Ytpgioopnfinjgaa.PureUtfRead
namespace Go.Proofs.Ytpgioopnfinjgaa.Pure
theorem UtfRead : PUtfRead.incipitlaw1_UtfRead.Pure := PureUtfRead.UtfRead
end Go.Proofs.Ytpgioopnfinjgaa.Pure
