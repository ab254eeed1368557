/-
  Proved: for every three ints first, a, b, incipitlaw4.NormOrder(first, a, b) returns true: where all are characters, a and b are not the same and are not taken apart, their order behind first is of no matter if and only if both have classes above 0 that are not the same. No condition beyond each being an int.
-/
import Derived.Test.YtklggdenloenlaaMNormLNormOrder
import Derived.Test.YtklggdenloenlaaIntsAny
namespace Go.Proofs.Ytklggdenloenlaa.PureNormOrder
open Go.RowKit Go.Proofs.Ytklggdenloenlaa.MNorm Go.Proofs.YtklggdenloenlaaW.PrintWords Go.Proofs.Ytklggdenloenlaa.Utf Go.Proofs.Ytklggdenloenlaa.NOrd Go.Proofs.Ytklggdenloenlaa.NTab Go.Proofs.Ytklggdenloenlaa.NText Go.Proofs.Ytklggdenloenlaa.NTabR
open Go.Proofs.Ytklggdenloenlaa.NChars hiding w64
open Go.Proofs.Ytklggdenloenlaa.PureNorm (rvalid_f)

theorem canon_two (x a b : Int) (ha : apt a = [a]) (hb : apt b = [b]) : canon [x, a, b] = (insr clf b (insr clf a (ordr clf [] (apt x)))).reverse := by
  have e : expand [x, a, b] = apt x ++ [a, b] := by
    show apt x ++ (apt a ++ (apt b ++ [])) = _
    rw [ha, hb]; rfl
  rw [canon, e, order, ordr_append]; rfl
theorem insr_zero {c : Int} (h : clf c = 0) (o : List Int) : insr clf c o = c :: o := by
  cases o with
  | nil => rfl
  | cons x xs => rw [insr, if_neg (by omega)]
theorem two_same (R : List Int) (a b : Int) (hne : a ≠ b) : insr clf b (insr clf a R) = insr clf a (insr clf b R) ↔ clf a ≠ 0 ∧ clf b ≠ 0 ∧ clf a ≠ clf b := by
  have pa := (clf_range a).1
  have pb := (clf_range b).1
  constructor
  · intro h
    refine ⟨fun h0 => ?_, fun h0 => ?_, fun h0 => ?_⟩
    · rw [insr_zero h0 (insr clf b R), insr_zero h0 R, insr, if_neg (by omega)] at h
      exact hne (List.cons.inj h).1.symm
    · rw [insr_zero h0 (insr clf a R), insr_zero h0 R, insr, if_neg (by omega)] at h
      exact hne (List.cons.inj h).1.symm
    · have h2 := congrArg (List.filter (fun x => clf x == clf a)) h
      rw [filter_insr, filter_insr, List.filter_cons, List.filter_cons, filter_insr, filter_insr, List.filter_cons, List.filter_cons, if_pos (by simp [h0]), if_pos (by simp), if_pos (by simp), if_pos (by simp [h0])] at h2
      exact hne (List.cons.inj h2).1.symm
  · intro ⟨h1, h2, h3⟩
    exact insr_swap clf (by omega) (by omega) h3 R
theorem j1_true (x0 x1 x2 : Int) : Evr (fun k => incipitlaw4_NormOrder.j1 k x0 x1 x2 true) true :=
  Evr.succ (h := fun _ => some true) (fun k => by rw [incipitlaw4_NormOrder.j1, if_pos (Eq.refl true)]) (Evr.of fun _ => rfl)
theorem j0_true (x0 x1 x2 : Int) : Evr (fun k => incipitlaw4_NormOrder.j0 k x0 x1 x2 true) true :=
  Evr.succ (h := fun _ => some true) (fun k => by rw [incipitlaw4_NormOrder.j0, if_pos (Eq.refl true)]) (Evr.of fun _ => rfl)
theorem j1_false (x a b : Int) (hne : a ≠ b) (ha : apt a = [a]) (hb : apt b = [b]) : Evr (fun k => incipitlaw4_NormOrder.j1 k x a b false) true := by
  have e1 := canon_two x a b ha hb
  have e2 := canon_two x b a hb ha
  have l1 := canon_len_le [x, a, b]
  have hi := ints_any (canon [x, a, b]) (canon [x, b, a]) (by simp at l1; omega)
  have key : canon [x, a, b] = canon [x, b, a] ↔ clf a ≠ 0 ∧ clf b ≠ 0 ∧ clf a ≠ clf b := by
    rw [e1, e2]
    constructor
    · intro h; exact (two_same _ a b hne).1 (List.reverse_inj.1 h)
    · intro h; rw [(two_same _ a b hne).2 h]
  refine Evr.succ (fun k => by rw [incipitlaw4_NormOrder.j1, if_neg Bool.false_ne_true]) (Evr.bind (rclass_f a) (Evr.bind (rclass_f b) (Evr.bind (chars_f [x, a, b] (by simp)) (Evr.bind (chars_f [x, b, a] (by simp)) (Evr.bind hi (Evr.of fun _ => ?_))))))
  by_cases h1 : clf a = 0
  · rw [if_pos h1, decide_eq_false (fun h => (key.1 h).1 h1)]; rfl
  · by_cases h2 : clf b = 0
    · rw [if_neg h1, if_pos h2, decide_eq_false (fun h => (key.1 h).2.1 h2)]; rfl
    · by_cases h3 : clf a = clf b
      · rw [if_neg h1, if_neg h2, if_pos h3, decide_eq_false (fun h => (key.1 h).2.2 h3)]; rfl
      · rw [if_neg h1, if_neg h2, if_neg h3, decide_eq_true (key.2 ⟨h1, h2, h3⟩)]
theorem one_of {l : List Int} {c : Int} (h : (l.length : Int) = 1) (h2 : rd l 0 = c) : l = [c] := by
  cases l with
  | nil => simp at h
  | cons x l =>
    cases l with
    | nil => simp [rd] at h2; rw [h2]
    | cons y l => simp at h; omega
theorem NormOrder : incipitlaw4_NormOrder.Pure := by
  intro x a b _ _ _
  suffices h : Evr (fun k => incipitlaw4_NormOrder.f k x a b) true by
    obtain ⟨k, hk⟩ := h
    exact ⟨k, hk k (Nat.le_refl _)⟩
  unfold incipitlaw4_NormOrder.f
  refine Evr.bind begun_f ?_
  refine Evr.congr (fun k => by rw [if_pos (Eq.refl true), rvalid_f, Option.bind_some]) ?_
  by_cases v0 : decide (valid x) = true
  · refine Evr.congr (fun k => by rw [if_pos v0, rvalid_f, Option.bind_some]) ?_
    by_cases v1 : decide (valid a) = true
    · refine Evr.congr (fun k => by rw [if_pos v1, rvalid_f, Option.bind_some]) ?_
      by_cases v2 : decide (valid b) = true
      · refine Evr.congr (fun k => by rw [if_pos v2]) ?_
        by_cases hab : a = b
        · have e : (a == b) = true := beq_iff_eq.2 hab
          rw [e]; exact j0_true x a b
        · have e : (a == b) = false := beq_eq_false_iff_ne.2 hab
          rw [e]
          refine Evr.succ (fun k => by rw [incipitlaw4_NormOrder.j0, if_neg Bool.false_ne_true]) (Evr.bind (rapart_f a) (Evr.bind (rapart_f b) ?_))
          by_cases c1 : ((apt a).length : Int) = 1
          · by_cases c2 : ((apt b).length : Int) = 1
            · refine Evr.congr (fun k => by rw [if_pos c1, if_pos c2, if_pos (by omega)]) ?_
              by_cases c3 : rd (apt a) 0 = a
              · refine Evr.congr (fun k => by rw [if_pos c3, if_pos (by omega)]) ?_
                by_cases c4 : rd (apt b) 0 = b
                · have e4 : (rd (apt b) 0 != b) = false := bne_eq_false_iff_eq.2 c4
                  rw [e4]
                  exact j1_false x a b hab (one_of c1 c3) (one_of c2 c4)
                · have e4 : (rd (apt b) 0 != b) = true := bne_iff_ne.2 c4
                  rw [e4]
                  exact j1_true x a b
              · exact Evr.congr (fun k => by rw [if_neg c3]) (j1_true x a b)
            · exact Evr.congr (fun k => by rw [if_pos c1, if_neg c2]) (j1_true x a b)
          · exact Evr.congr (fun k => by rw [if_neg c1]) (j1_true x a b)
      · exact Evr.congr (fun k => by rw [if_neg v2]) (j0_true x a b)
    · exact Evr.congr (fun k => by rw [if_neg v1]) (j0_true x a b)
  · exact Evr.congr (fun k => by rw [if_neg v0]) (j0_true x a b)
end Go.Proofs.Ytklggdenloenlaa.PureNormOrder
namespace Go.Proofs.Ytklggdenloenlaa.Pure
open Go.RowKit
theorem NormOrder : MNorm.incipitlaw4_NormOrder.Pure := PureNormOrder.NormOrder
end Go.Proofs.Ytklggdenloenlaa.Pure
