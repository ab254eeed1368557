/-
  Proved: for every string s and all ints c, cut, incipitlaw1.UtfCut(s, c, cut) returns true: a character's bytes that are cut short are none behind whatever valid text, and whole they are that character. Conditions: none beyond a string's length being one that the statement lets in.
-/
import Derived.Test.YtpgioopnfinjgaaRefReadUtfCut
import Derived.KernelRfl
namespace Go.Proofs.Ytpgioopnfinjgaa.PureUtfCut
open Go.RowKit Go.Proofs.Ytpgioopnfinjgaa.PUtfCut Go.Proofs.YtpgioopnfinjgaaW.PrintWords Go.Proofs.YtpgioopnfinjgaaW.PrintLast Go.Proofs.Ytpgioopnfinjgaa.Utf

theorem begun_30 : incipitlaw1_begun.f 30 = some true := by kernel_rfl
theorem begun_f (k : Nat) (hk : 30 ≤ k) : incipitlaw1_begun.f k = some true := at_rounds incipitlaw1_begun.mono hk begun_30

theorem cut_f (s : ByteArray) : ∃ t, incipitlaw1_Cut.f s 60 = some t ∧ t.size ≤ 60 := by
  unfold incipitlaw1_Cut.f
  by_cases h : (s.size : Int) > 60
  · rw [if_pos h, if_pos (by omega), if_pos (by omega)]
    exact ⟨_, rfl, by rw [ByteArray.size_extract, show (60 : Int).toNat = 60 from rfl]; omega⟩
  · rw [if_neg h]; exact ⟨s, rfl, by omega⟩

theorem write_one {k : Nat} (hk : 5 ≤ k) (c : Int) : incipitref1_Write.f k [c] = some (if valid c then (strOfNums (enc c), true) else (⟨#[]⟩, false)) := by
  obtain ⟨k, rfl⟩ : ∃ m, k = m + 2 := ⟨k - 2, by omega⟩
  unfold incipitref1_Write.f
  rw [incipitref1_Write.l0, if_pos (by simp), if_pos (by omega), show rd [c] 0 = c from rfl, rvalid_f]
  simp only [Option.bind_some]
  by_cases h : valid c
  · rw [if_pos (by simpa using h), one_f c h]
    simp only [Option.bind_some]
    have e : (⟨#[]⟩ : ByteArray) ++ strOfNums (enc c) = strOfNums (enc c) := by
      apply bnums_inj; rw [bnums_append]; rfl
    have hl := enc_le c
    have hs : (strOfNums (enc c)).size = (enc c).length := strOfNums_size _
    rw [if_pos (by rw [hs, show (⟨#[]⟩ : ByteArray).size = 0 from rfl]; omega), e, incipitref1_Write.l0, w64 (by omega) (by omega), if_neg (by simp), if_pos h]
  · rw [if_neg (by simpa using h), if_neg h]

theorem dec_cut {c : Int} (h : valid c) (j : Nat) (hj : j < (enc c).length) : (dec ((enc c).take j)).2 = 0 := by
  by_cases h2 : (dec ((enc c).take j)).2 = 0
  · exact h2
  · have hb : isByte ((enc c).take j) := fun x hx => enc_byte h x (List.mem_of_mem_take hx)
    obtain ⟨v, e1, e2⟩ := dec_some hb h2
    have hp := dec_pos hb h2
    rw [List.length_take] at hp
    have e3 : (enc c) = enc (dec ((enc c).take j)).1 ++ (enc c).drop (dec ((enc c).take j)).2.toNat := by
      rw [← e2, List.take_take, Nat.min_eq_left (by omega), List.take_append_drop]
    have e4 := dec_enc h []
    rw [List.append_nil] at e4
    rw [e3, dec_enc v] at e4
    simp only [Prod.mk.injEq] at e4
    have e5 := e4.2
    rw [← e3] at e5
    omega

theorem told_true {l m : List Int} (h : chars l = some m) : told [] l = (m, true) := by simp [told, h]
theorem told_false {l : List Int} (h : chars l = none) : told [] l = ([], false) := by simp [told, h]

theorem cut_true (s : ByteArray) (c cut : Int) (hcut : -9223372036854775808 ≤ cut ∧ cut ≤ 9223372036854775807) (K : Nat) (hK : 200 ≤ K) : incipitlaw1_UtfCut.f (K + 1) s c cut = some true := by
  unfold incipitlaw1_UtfCut.f
  rw [begun_f _ (by omega)]
  simp only [Option.bind_some, if_true]
  obtain ⟨t, ht, hs⟩ := cut_f s
  rw [ht]
  simp only [Option.bind_some]
  unfold incipitref1_Read.f
  rw [rread_l 60 _ t [] hs (by simp) (by omega), write_one (by omega)]
  simp only [Option.bind_some]
  have hj : ∀ a b c d e, incipitlaw1_UtfCut.j0 (K + 1) a b c d e true = some true := by
    intro a b c d e; rw [incipitlaw1_UtfCut.j0, if_pos rfl]
  cases hm : chars (bnums t) with
  | none => rw [told_false hm, if_neg (by simp), hj]
  | some m =>
    rw [told_true hm, if_pos rfl]
    by_cases hv : valid c
    · rw [if_pos hv, if_pos rfl]
      have n1 : bnums (strOfNums (enc c)) = enc c := bnums_str (enc_byte hv)
      have hz : (strOfNums (enc c)).size = (enc c).length := strOfNums_size _
      dsimp only
      generalize strOfNums (enc c) = x at n1 hz ⊢
      by_cases h1 : cut < 1
      · rw [if_pos h1, hj]
      · rw [if_neg h1]
        by_cases h2 : cut ≥ ((x).size : Int)
        · rw [decide_eq_true h2, hj]
        · rw [decide_eq_false h2]
          have hl := enc_le c
          have hle := charsN_len _ _ _ (bnums_byte t) hm
          rw [bnums_length] at hle
          rw [incipitlaw1_UtfCut.j0, if_neg (by simp), w64 (by omega) (by omega), if_pos (by omega), if_pos (by omega)]
          have z1 : (x.extract 0 ((x.size : Int) - cut).toNat).size ≤ 4 := by rw [ByteArray.size_extract]; omega
          rw [if_pos (by omega)]
          unfold utf_Read.f
          rw [read_l 70 _ _ [] (by rw [ByteArray.size_append]; omega) (by simp) (by omega)]
          simp only [Option.bind_some]
          have c1 : chars (bnums (t ++ x.extract 0 ((x.size : Int) - cut).toNat)) = none := by
            have hb : isByte ((enc c).take ((x.size : Int) - cut).toNat) := fun x hx => enc_byte hv x (List.mem_of_mem_take hx)
            rw [bnums_append, bnums_extract, n1, List.drop_zero, chars_append (bnums_byte t) hb hm]
            have : (enc c).take ((x.size : Int) - cut).toNat ≠ [] := by
              intro e
              have := congrArg List.length e
              rw [List.length_take, List.length_nil] at this
              omega
            rw [chars_step hb this, if_pos (dec_cut hv _ (by omega))]
            rfl
          have c2 : chars (bnums (t ++ x)) = some (m ++ [c]) := by
            rw [bnums_append, n1, chars_append (bnums_byte t) (enc_byte hv) hm]
            have := chars_enc hv (t := []) (by intro x hx; cases hx)
            rw [List.append_nil, chars_nil] at this
            rw [this]; rfl
          rw [if_pos (by omega), read_l 70 _ _ [] (by rw [ByteArray.size_append]; omega) (by simp) (by omega), told_false c1, told_true c2, Option.bind_some]
          dsimp only
          rw [if_neg Bool.false_ne_true, if_pos (rfl : true = true)]
          have z2 : ((m ++ [c]).length : Int) = (m.length : Int) + 1 := by simp
          rw [z2, w64 (x := (m.length : Int) + 1) (by omega) (by omega), if_pos (Eq.refl ((m.length : Int) + 1)), w64 (x := (m.length : Int) + 1 - 1) (by omega) (by omega), if_pos (by omega), if_pos (by omega)]
          have z3 : rd (m ++ [c]) ((m.length : Int) + 1 - 1) = c := by
            unfold rd
            have : ((m.length : Int) + 1 - 1).toNat = m.length := by omega
            rw [this]; simp
          rw [z3]; simp
    · rw [if_neg hv, if_neg (by simp), hj]

theorem UtfCut : incipitlaw1_UtfCut.Pure := by
  intro s c cut _ _ hcut
  refine ⟨200 + 1, cut_true s c cut ?_ 200 (Nat.le_refl _)⟩
  simp [Lit.wf, IntKind.min, IntKind.max, IntKind.bits, IntKind.signed] at hcut
  omega

end Go.Proofs.Ytpgioopnfinjgaa.PureUtfCut
namespace Go.Proofs.Ytpgioopnfinjgaa.Pure
theorem UtfCut : PUtfCut.incipitlaw1_UtfCut.Pure := PureUtfCut.UtfCut
end Go.Proofs.Ytpgioopnfinjgaa.Pure
