/-
  Versions, plainly: texts of one byte; edits that only add.
-/
import Derived.Test.YtjhijcehcklipaaZVeW15
namespace Go.Proofs.Ytjhijcehcklipaa.MVe
open Go.RowKit Go.Proofs.YtjhijcehcklipaaW.PrintWords Go.Proofs.YtjhijcehcklipaaW.PrintLast Go.Proofs.YtjhijcehcklipaaW.PrintMore
set_option linter.unusedVariables false
set_option linter.unusedSimpArgs false

theorem bytes_list (s : ByteArray) : s.toList = s.data.toList := ByteArray.toList_eq s
/-- A text of one byte. -/
def s1 (x : Int) : ByteArray := strOfNums [x]
theorem s1_list (x : Int) : (s1 x).toList = [UInt8.ofNat x.toNat] := by rw [bytes_list]; exact strOfNums_data [x]
theorem s1_size (x : Int) : (s1 x).size = 1 := strOfNums_size [x]
theorem u8_lt {x y : Int} (hx : 0 ≤ x ∧ x ≤ 255) (hy : 0 ≤ y ∧ y ≤ 255) : UInt8.ofNat x.toNat < UInt8.ofNat y.toNat ↔ x < y := by
  rw [UInt8.lt_iff_toNat_lt, UInt8.toNat_ofNat_of_lt' (by show _ < 256; omega), UInt8.toNat_ofNat_of_lt' (by show _ < 256; omega)]
  omega
theorem u8_eq {x y : Int} (hx : 0 ≤ x ∧ x ≤ 255) (hy : 0 ≤ y ∧ y ≤ 255) : UInt8.ofNat x.toNat = UInt8.ofNat y.toNat ↔ x = y := by
  rw [← UInt8.toNat_inj, UInt8.toNat_ofNat_of_lt' (by show _ < 256; omega), UInt8.toNat_ofNat_of_lt' (by show _ < 256; omega)]
  omega
theorem less_s1 {x y : Int} (hx : 0 ≤ x ∧ x ≤ 255) (hy : 0 ≤ y ∧ y ≤ 255) : Op.bytesLess (s1 x).toList (s1 y).toList = decide (x < y) := by
  rw [s1_list, s1_list, Go.Proofs.bytesLess_eq]
  refine decide_eq_decide.2 ?_
  rw [List.cons_lt_cons_iff, u8_lt hx hy]
  simp
theorem leS_s1 {x y : Int} (hx : 0 ≤ x ∧ x ≤ 255) (hy : 0 ≤ y ∧ y ≤ 255) : leS (s1 x) (s1 y) = decide (x ≤ y) := by
  unfold leS
  rw [less_s1 hx hy, s1_list, s1_list]
  have e : ([UInt8.ofNat x.toNat] == [UInt8.ofNat y.toNat]) = decide (x = y) := by
    rw [Bool.eq_iff_iff]
    simp [u8_eq hx hy]
  rw [e, ← Bool.decide_or]
  exact decide_eq_decide.2 (by omega)
theorem maxS_s1 {x y : Int} (hx : 0 ≤ x ∧ x ≤ 255) (hy : 0 ≤ y ∧ y ≤ 255) : maxS (s1 x) (s1 y) = s1 (max x y) := by
  unfold maxS
  rw [less_s1 hx hy]
  by_cases h : x < y
  · rw [decide_eq_true h, if_pos rfl, Int.max_eq_right (by omega)]
  · rw [decide_eq_false h, if_neg (by decide), Int.max_eq_left (by omega)]
theorem minS_s1 {x y : Int} (hx : 0 ≤ x ∧ x ≤ 255) (hy : 0 ≤ y ∧ y ≤ 255) : minS (s1 x) (s1 y) = s1 (min x y) := by
  unfold minS
  rw [leS_s1 hx hy]
  by_cases h : x ≤ y
  · rw [decide_eq_true h, if_pos rfl, Int.min_eq_left h]
  · rw [decide_eq_false h, if_neg (by decide), Int.min_eq_right (by omega)]
/-- Whether two spans of bytes meet. -/
theorem meet_s1 {a b : S41} {x y z u : Int} (hx : 0 ≤ x ∧ x ≤ 255) (hy : 0 ≤ y ∧ y ≤ 255) (hz : 0 ≤ z ∧ z ≤ 255) (hu : 0 ≤ u ∧ u ≤ 255) (h1 : a.f3 = s1 x) (h2 : a.f4 = s1 y) (h3 : b.f3 = s1 z) (h4 : b.f4 = s1 u) : meetB a b = decide (max x z ≤ min y u) := by
  unfold meetB
  rw [h1, h2, h3, h4, maxS_s1 hx hz, minS_s1 hy hu, leS_s1 (by omega) (by omega)]

theorem idx_none {p : S41 → Bool} {xs : List S41} (h : ∀ x ∈ xs, p x = false) : idx p xs = -1 := by
  unfold idx
  rw [List.findIdx?_eq_none_iff.2 (fun x hx => h x hx)]
theorem addF_ok : ∀ (adds xs : List S41), (xs ++ adds).Pairwise (fun a b => a.f0 ≠ b.f0) → addF xs adds = some (xs ++ adds)
  | [], xs, _ => by rw [addF, List.append_nil]
  | a :: r, xs, h => by
    have h0 := List.pairwise_append.1 h
    have hn : idx (fun x => x.f0 == a.f0) xs = -1 := idx_none fun x hx => by
      have := h0.2.2 x hx a List.mem_cons_self
      simpa using this
    rw [addF, hn, if_neg (by decide), addF_ok r (xs ++ [a]) (by rw [List.append_assoc]; exact h), List.append_assoc]
    rfl
theorem apartB_ok {xs : List S41} (h : xs.Pairwise fun b a => hit a b = false) (hl : xs.length ≤ 200) : apartB xs = true := by
  unfold apartB
  rw [decide_eq_true h, decide_eq_true hl]; rfl
/-- An edit that only adds, and a new version. -/
theorem apV_adds {adds : List S41} {N : Int} (hN : 1 ≤ N ∧ N ≤ 1125899906842624) (hn : adds.Pairwise fun a b => a.f0 ≠ b.f0) (hf : ∀ x ∈ adds, fileOk x = true ∧ x.f0 < N) (ha : adds.Pairwise fun b a => hit a b = false) (hl : adds.length ≤ 200) :
    apV ⟨[], 1, 0, 0⟩ N 0 0 adds [] = some ⟨adds, N, 0, 0⟩ := by
  have he : editOk N 0 0 adds [] = true := by
    unfold editOk chainOk inB
    rw [List.all_eq_true.2 (fun x hx => (hf x hx).1)]
    simp
    omega
  unfold apV
  rw [if_pos he, delV_nil]
  unfold addV
  have h0 := addF_ok adds [] hn
  rw [List.nil_append] at h0
  show (match addF [] adds with | none => none | some ys => endV ⟨[], 1, 0, 0⟩ N 0 0 ys) = _
  rw [h0]
  show endV ⟨[], 1, 0, 0⟩ N 0 0 adds = _
  unfold endV
  have e1 : ltr 1 N = (N, true) := by unfold ltr; rw [if_neg (by omega), decide_eq_true (by omega)]
  have e2 : ltr 0 0 = (0, true) := rfl
  rw [e1, e2]
  have e3 : idx (fun x => decide (x.f0 ≥ N)) adds = -1 := idx_none fun x hx => decide_eq_false (by have := (hf x hx).2; omega)
  rw [if_pos]
  unfold finOk
  rw [apartB_ok ha hl, e3, decide_eq_false (show ¬ ((0 : Int) ≥ N) by omega)]
  rfl
end Go.Proofs.Ytjhijcehcklipaa.MVe
