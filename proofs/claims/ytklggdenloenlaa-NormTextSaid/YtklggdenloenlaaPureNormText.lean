/-
  Proved: for every two texts s and t, incipitlaw4.NormText(s, t) returns true: of their first 120 bytes, norm.Text, Is, Same tell what the document tells, and a text's form comes to itself. No condition beyond the given bound on a text's size.
-/
import Derived.Test.YtklggdenloenlaaMNormLNormText
import Derived.Test.YtklggdenloenlaaRText
namespace Go.Proofs.Ytklggdenloenlaa.PureNormText
open Go.RowKit Go.Proofs.Ytklggdenloenlaa.MNorm Go.Proofs.YtklggdenloenlaaW.PrintWords Go.Proofs.Ytklggdenloenlaa.Utf Go.Proofs.Ytklggdenloenlaa.NOrd Go.Proofs.Ytklggdenloenlaa.NText

theorem j0_f (s : ByteArray) (hs : s.size ≤ 1000) : Evr (fun k => incipitlaw4_NormText.j0 k (toldf (bnums s)).1 (toldf (bnums s)).2 false) true := by
  have hz := toldf_size (s := s)
  have g := text_f (toldf (bnums s)).1 (by omega)
  have g2 := is_f (toldf (bnums s)).1 (by omega)
  cases ha : form (bnums s) with
  | none =>
    have e : toldf (bnums s) = (⟨#[]⟩, false) := by unfold toldf; rw [ha]
    rw [e] at g ⊢
    refine Evr.succ (fun k => by rw [incipitlaw4_NormText.j0, if_neg Bool.false_ne_true]) (Evr.bind g (Evr.of fun _ => ?_))
    rw [if_neg Bool.false_ne_true]
  | some a =>
    have e : toldf (bnums s) = (strOfNums a, true) := by unfold toldf; rw [ha]
    have ba := form_byte (bnums_byte s) ha
    have e2 : toldf (bnums (strOfNums a)) = (strOfNums a, true) := by unfold toldf; rw [bnums_str ba, form_form (bnums_byte s) ha]
    rw [e] at g g2 ⊢
    dsimp only at g g2 ⊢
    rw [e2] at g g2
    rw [if_pos (Eq.refl true), beq_self_eq_true] at g2
    refine Evr.succ (fun k => by rw [incipitlaw4_NormText.j0, if_neg Bool.false_ne_true]) (Evr.bind g ?_)
    exact Evr.congr (fun k => by rw [if_pos (Eq.refl true), if_pos (Eq.refl true), if_pos (Eq.refl _)]) (Evr.bind g2 (Evr.of fun _ => rfl))

theorem NormText : incipitlaw4_NormText.Pure := by
  intro a0 a1 _ _
  suffices h : Evr (fun k => incipitlaw4_NormText.f k a0 a1) true by
    obtain ⟨k, hk⟩ := h
    exact ⟨k, hk k (Nat.le_refl _)⟩
  unfold incipitlaw4_NormText.f
  refine Evr.bind begun_f ?_
  obtain ⟨a, ha, la⟩ := cut_f a0 120 (by omega)
  obtain ⟨b, hb, lb⟩ := cut_f a1 120 (by omega)
  refine Evr.congr (fun k => by rw [if_pos (Eq.refl true), ha, Option.bind_some, hb, Option.bind_some]) ?_
  refine Evr.bind (text_f a (by omega)) (Evr.bind (rtext_f a (by omega)) (Evr.bind (rtext_f b (by omega)) ?_))
  have hj := j0_f a (by omega)
  refine Evr.congr (fun k => by rw [if_neg (by simp), if_pos (Eq.refl _)]) (Evr.bind (is_f a (by omega)) ?_)
  have hsm := same_f a b (by omega) (by omega)
  by_cases h1 : (toldf (bnums a)).2 = true
  · refine Evr.congr (fun k => by rw [if_pos h1, if_pos h1, if_neg (by simp)]) (Evr.bind hsm ?_)
    by_cases h2 : (toldf (bnums b)).2 = true
    · refine Evr.congr (fun k => ?_) hj
      rw [if_pos h2, if_pos h1, if_pos h2]; simp
    · refine Evr.congr (fun k => ?_) hj
      rw [if_neg h2, if_pos h1, if_neg h2]; simp
  · refine Evr.congr (fun k => by rw [if_neg h1, if_neg h1, if_neg (by simp)]) (Evr.bind hsm ?_)
    refine Evr.congr (fun k => ?_) hj
    rw [if_neg h1]; simp
end Go.Proofs.Ytklggdenloenlaa.PureNormText
namespace Go.Proofs.Ytklggdenloenlaa.Pure
open Go.RowKit
theorem NormText : MNorm.incipitlaw4_NormText.Pure := PureNormText.NormText
end Go.Proofs.Ytklggdenloenlaa.Pure
