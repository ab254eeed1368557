/-
  Proved: for every int first and list of ints marks, incipitlaw4.NormMarks(first, marks) returns true: what norm.Chars makes of first and at most thirty marks is what the document tells, and no part of any is lost. No condition beyond the given bound on the list's size.
-/
import Derived.Test.YtklggdenloenlaaMNormLNormMarks
import Derived.Test.YtklggdenloenlaaIntsAny
namespace Go.Proofs.Ytklggdenloenlaa.PureNormMarks
open Go.RowKit Go.Proofs.Ytklggdenloenlaa.MNorm Go.Proofs.YtklggdenloenlaaW.PrintWords Go.Proofs.Ytklggdenloenlaa.NOrd Go.Proofs.Ytklggdenloenlaa.NTab Go.Proofs.Ytklggdenloenlaa.NText Go.Proofs.Ytklggdenloenlaa.NTabR
open Go.Proofs.Ytklggdenloenlaa.NChars

theorem l2_true (l out : List Int) (hl : l.length ≤ 1000) (ho : out.length = (expand l).length) : ∀ (rest pre : List Int), l = pre ++ rest → Evr (fun k => incipitlaw4_NormMarks.l2 k l out (expand pre).length pre.length) true
  | [], pre, e => by
    rw [List.append_nil] at e
    subst e
    refine Evr.succ (h := fun _ => some true) (fun k => ?_) (Evr.of fun _ => rfl)
    rw [incipitlaw4_NormMarks.l2, if_neg (by omega), ho, beq_self_eq_true]
  | c :: rest, pre, e => by
    have hlen : l.length = pre.length + 1 + rest.length := by rw [e]; simp; omega
    have h5 := expand_len pre
    have ha := apt_len c
    have hr : rd l pre.length = c := by rw [e]; exact rd_at _ _ _ rfl
    have ih := l2_true l out hl ho rest (pre ++ [c]) (by rw [e]; simp)
    have ex : expand (pre ++ [c]) = expand pre ++ apt c := by rw [expand_append]; simp [expand]
    rw [ex, List.length_append, List.length_append, List.length_singleton, Int.natCast_add, Int.natCast_add] at ih
    refine Evr.succ (fun k => by rw [incipitlaw4_NormMarks.l2, if_pos (by omega), if_pos (by omega), hr]) (Evr.bind (rapart_f c) ?_)
    refine Evr.congr (fun k => ?_) ih
    rw [w64 (x := (pre.length : Int) + 1) (by omega) (by omega), w64 (x := ((expand pre).length : Int) + (apt c).length) (by omega) (by omega)]; rfl
theorem j3_true (x : Int) (l : List Int) (hl : l.length ≤ 1000) (i : Int) : Evr (fun k => incipitlaw4_NormMarks.j3 k x l (canon l) i true) true := by
  have hp := List.length_pos_iff.2 (apt_ne x)
  have h5 := canon_len_le l
  have hi := ints_any (canon l) (canon l) (by omega)
  rw [decide_eq_true (Eq.refl (canon l))] at hi
  refine Evr.succ (fun k => by rw [incipitlaw4_NormMarks.j3, if_pos (Eq.refl true)]) (Evr.bind (rapart_f x) ?_)
  refine Evr.congr (fun k => if_pos (by omega)) (Evr.bind (rclass_f _) ?_)
  by_cases h : clf (rd (apt x) 0) > 0
  · exact Evr.of fun k => if_pos h
  · exact Evr.congr (fun k => if_neg h) (Evr.bind (rchars_f l (by omega)) (Evr.bind hi (Evr.of fun _ => rfl)))
theorem l1_true (x : Int) (l : List Int) (hl : l.length ≤ 1000) : ∀ (n : Nat) (i : Int), (((canon l).length : Int) - i).toNat = n → 1 ≤ i → i ≤ 100000 → Evr (fun k => incipitlaw4_NormMarks.l1 k x l (canon l) i) true := by
  have h5 := canon_len_le l
  intro n
  induction n using Nat.strongRecOn with
  | _ n ih =>
  intro i hn h0 h1
  by_cases hi : i < ((canon l).length : Int)
  · refine Evr.succ (fun k => by rw [incipitlaw4_NormMarks.l1, if_pos hi, w64 (x := i - 1) (by omega) (by omega), if_pos (by omega), if_pos (by omega)]) (Evr.bind (rclass_f _) ?_)
    refine Evr.congr (fun k => if_pos (by omega)) (Evr.bind (rclass_f _) ?_)
    by_cases c1 : clf (rd (canon l) (i - 1)) = 0
    · exact Evr.congr (fun k => if_pos c1) (j3_true x l hl i)
    · by_cases c2 : clf (rd (canon l) i) = 0
      · exact Evr.congr (fun k => by rw [if_neg c1, if_pos c2]) (j3_true x l hl i)
      · refine Evr.congr (fun k => by rw [if_neg c1, if_neg c2]) ?_
        by_cases c3 : clf (rd (canon l) (i - 1)) > clf (rd (canon l) i)
        · rw [decide_eq_true c3]; exact j3_true x l hl i
        · rw [decide_eq_false c3]
          refine Evr.succ (fun k => by rw [incipitlaw4_NormMarks.j3, if_neg Bool.false_ne_true, w64 (x := i + 1) (by omega) (by omega)]) (ih _ (by omega) (i + 1) rfl (by omega) (by omega))
  · refine Evr.succ (fun k => by rw [incipitlaw4_NormMarks.l1, if_neg hi]) ?_
    exact l2_true l (canon l) hl (canon_len l) l [] rfl
theorem end_true (x : Int) (l marks : List Int) (hl : l.length ≤ 1000) (i : Int) : Evr (fun k => incipitlaw4_NormMarks.j1 k x marks l i false) true := by
  have ha := apt_len x
  refine Evr.succ (fun k => by rw [incipitlaw4_NormMarks.j1, if_neg Bool.false_ne_true]) (Evr.bind (chars_f l (by omega)) (Evr.bind (rapart_f x) ?_))
  refine Evr.congr (fun k => by rw [w64 (x := ((apt x).length : Int) + 1) (by omega) (by omega)]) (l1_true x l hl _ _ rfl (by omega) (by omega))
theorem l0_true (x : Int) (marks : List Int) : ∀ (n : Nat) (i : Nat) (acc : List Int), 30 - i = n → i ≤ 30 → acc.length ≤ i + 1 → Evr (fun k => incipitlaw4_NormMarks.l0 k x marks acc i) true := by
  intro n
  induction n with
  | zero =>
    intro i acc hn hi ha
    by_cases h : (i : Int) < (marks.length : Int)
    · refine Evr.succ (fun k => by rw [incipitlaw4_NormMarks.l0, if_pos h, decide_eq_false (show ¬ (i : Int) < 30 by omega)]) (end_true x acc marks (by omega) i)
    · exact Evr.succ (fun k => by rw [incipitlaw4_NormMarks.l0, if_neg h]) (end_true x acc marks (by omega) i)
  | succ n ih =>
    intro i acc hn hi ha
    by_cases h : (i : Int) < (marks.length : Int)
    · refine Evr.succ (fun k => by rw [incipitlaw4_NormMarks.l0, if_pos h, decide_eq_true (show (i : Int) < 30 by omega)]) ?_
      refine Evr.succ (fun k => by rw [incipitlaw4_NormMarks.j1, if_pos (Eq.refl true), if_pos (by omega), if_pos h]) (Evr.bind (rclass_f _) ?_)
      by_cases c : clf (rd marks i) > 0
      · refine Evr.congr (fun k => by rw [if_pos c, if_pos (by omega), w64 (x := (i : Int) + 1) (by omega) (by omega)]) ?_
        exact ih (i + 1) (acc ++ [rd marks i]) (by omega) (by omega) (by rw [List.length_append, List.length_singleton]; omega)
      · refine Evr.congr (fun k => by rw [if_neg c, w64 (x := (i : Int) + 1) (by omega) (by omega)]) ?_
        exact ih (i + 1) acc (by omega) (by omega) (by omega)
    · exact Evr.succ (fun k => by rw [incipitlaw4_NormMarks.l0, if_neg h]) (end_true x acc marks (by omega) i)
theorem NormMarks : incipitlaw4_NormMarks.Pure := by
  intro x marks _ _ _ _
  suffices h : Evr (fun k => incipitlaw4_NormMarks.f k x marks) true by
    obtain ⟨k, hk⟩ := h
    exact ⟨k, hk k (Nat.le_refl _)⟩
  unfold incipitlaw4_NormMarks.f
  refine Evr.bind begun_f ?_
  exact Evr.congr (fun k => if_pos (Eq.refl true)) (l0_true x marks 30 0 [x] rfl (by omega) (by simp))
end Go.Proofs.Ytklggdenloenlaa.PureNormMarks
namespace Go.Proofs.Ytklggdenloenlaa.Pure
open Go.RowKit
theorem NormMarks : MNorm.incipitlaw4_NormMarks.Pure := PureNormMarks.NormMarks
end Go.Proofs.Ytklggdenloenlaa.Pure
