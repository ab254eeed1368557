/-
  Versions, plainly: the document's printed functions are the plain ones.
-/
import Derived.Test.YtjhijcehcklipaaZVeR1
import Derived.Test.YtjhijcehcklipaaZMVex3
namespace Go.Proofs.Ytjhijcehcklipaa.MVe
open Go.RowKit Go.Proofs.YtjhijcehcklipaaW.PrintWords Go.Proofs.YtjhijcehcklipaaW.PrintLast Go.Proofs.YtjhijcehcklipaaW.PrintMore
set_option linter.unusedVariables false
set_option linter.unusedSimpArgs false

theorem rd_mid (pre rest : List S41) (c : S41) : rd_T41 (pre ++ c :: rest) (pre.length : Int) = c := by
  unfold rd_T41
  rw [Int.toNat_natCast, List.getD_eq_getElem?_getD, List.getElem?_append_right (Nat.le_refl _), Nat.sub_self]
  rfl
theorem len_mid {l pre rest : List S41} {c : S41} (e : l = pre ++ c :: rest) : l.length = pre.length + 1 + rest.length := by
  rw [e]; simp; omega
def idxA (p : S41 → Bool) (o : Nat) (xs : List S41) : Int := match xs.findIdx? p with
  | some i => ((o + i : Nat) : Int)
  | none => -1
theorem idxA_cons (p : S41 → Bool) (o : Nat) (c : S41) (r : List S41) : idxA p o (c :: r) = if p c = true then (o : Int) else idxA p (o + 1) r := by
  unfold idxA
  rw [List.findIdx?_cons]
  by_cases h : p c = true
  · rw [if_pos h, if_pos h]; rfl
  · rw [if_neg h, if_neg h]
    cases r.findIdx? p with
    | none => rfl
    | some i => show ((o + (i + 1) : Nat) : Int) = ((o + 1 + i : Nat) : Int); omega
theorem num_l (l : List S41) (n : Int) (hl : l.length ≤ 1000000) : ∀ (rest pre : List S41), l = pre ++ rest → ∃ k, incipitref12_num.l0 k l n (pre.length : Int) = some (idxA (fun x => x.f0 == n) pre.length rest)
  | [], pre, e => by
    rw [List.append_nil] at e
    subst e
    refine ⟨1, ?_⟩
    rw [incipitref12_num.l0, if_neg (by omega)]; rfl
  | c :: rest, pre, e => by
    have hlen := len_mid e
    have hr : rd_T41 l (pre.length : Int) = c := by rw [e]; exact rd_mid pre rest c
    obtain ⟨k, ih⟩ := num_l l n hl rest (pre ++ [c]) (by rw [e]; simp)
    have hp : ((pre ++ [c]).length : Int) = (pre.length : Int) + 1 := by rw [List.length_append]; rfl
    have hp2 : (pre ++ [c]).length = pre.length + 1 := by rw [List.length_append]; rfl
    rw [hp, hp2] at ih
    refine ⟨k + 1, ?_⟩
    rw [incipitref12_num.l0, if_pos (by omega), if_pos (by omega), hr, idxA_cons]
    by_cases h : c.f0 = n
    · rw [if_pos h, if_pos (by simpa using h)]
    · rw [if_neg h, if_neg (by simpa using h), w64_s (by omega) (by omega), ih]
theorem num_any (l : List S41) (n : Int) (hl : l.length ≤ 1000000) : ∃ k, incipitref12_num.f k l n = some (idx (fun x => x.f0 == n) l) := by
  obtain ⟨k, h⟩ := num_l l n hl l [] rfl
  refine ⟨k, ?_⟩
  have e : idxA (fun x => x.f0 == n) 0 l = idx (fun x => x.f0 == n) l := by
    unfold idxA idx
    cases l.findIdx? (fun x => x.f0 == n) with
    | none => rfl
    | some i => show ((0 + i : Nat) : Int) = (i : Int); omega
  rw [← e]
  exact h
theorem eq_l (l : List S41) (hl : l.length ≤ 1000000) : ∀ (rest pre : List S41), l = pre ++ rest → ∃ k, incipitref12_EqFiles.l0 k l l (pre.length : Int) = some true
  | [], pre, e => by
    rw [List.append_nil] at e
    subst e
    refine ⟨1, ?_⟩
    rw [incipitref12_EqFiles.l0, if_neg (by omega)]
  | c :: rest, pre, e => by
    have hlen := len_mid e
    obtain ⟨k, ih⟩ := eq_l l hl rest (pre ++ [c]) (by rw [e]; simp)
    have hp : ((pre ++ [c]).length : Int) = (pre.length : Int) + 1 := by rw [List.length_append]; rfl
    rw [hp] at ih
    refine ⟨k + 1, ?_⟩
    rw [incipitref12_EqFiles.l0, if_pos (by omega), if_pos (by omega), if_pos (by omega), if_pos (Eq.refl (rd_T41 l (pre.length : Int)).f0), if_pos (Eq.refl (rd_T41 l (pre.length : Int)).f1), if_pos (Eq.refl (rd_T41 l (pre.length : Int)).f2), if_pos (Eq.refl (rd_T41 l (pre.length : Int)).f3.toList), if_pos (Eq.refl (rd_T41 l (pre.length : Int)).f4.toList), w64_s (by omega) (by omega), ih]
theorem eq_any (l : List S41) (hl : l.length ≤ 1000000) : ∃ k, incipitref12_EqFiles.f k l l = some true := by
  obtain ⟨k, h⟩ := eq_l l hl l [] rfl
  refine ⟨k, ?_⟩
  unfold incipitref12_EqFiles.f
  rw [if_pos (Eq.refl (l.length : Int))]
  exact h
theorem fileOk_iff (c : S41) : fileOk c = true ↔ (1 ≤ c.f0 ∧ c.f0 ≤ 1125899906842624) ∧ (0 ≤ c.f1 ∧ c.f1 ≤ 4) ∧ (0 ≤ c.f2 ∧ c.f2 ≤ 16777216) ∧ leS c.f3 c.f4 = true ∧ (c.f3.size : Int) ≤ 13000 ∧ (c.f4.size : Int) ≤ 13000 := by
  unfold fileOk inB leS
  simp only [List.all_cons, List.all_nil, Bool.and_true, Bool.and_eq_true, decide_eq_true_eq]
end Go.Proofs.Ytjhijcehcklipaa.MVe
