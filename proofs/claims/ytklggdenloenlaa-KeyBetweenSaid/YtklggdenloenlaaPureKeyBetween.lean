/-
  Proved: for every two texts a and b, incipitlaw6.KeyBetween(a, b) returns true: of their first 60 bytes, ckey.Between tells the text that the document tells, no longer than the first, not below it, and below the second if the first is. No condition beyond the given bound on a text's size.
-/
import Derived.Test.YtklggdenloenlaaKLKeyBetween
import Derived.Test.YtklggdenloenlaaNKeyC
namespace Go.Proofs.Ytklggdenloenlaa.PureKeyBetween
open Go.RowKit Go.Proofs.Ytklggdenloenlaa.MNorm Go.Proofs.YtklggdenloenlaaW.PrintWords Go.Proofs.Ytklggdenloenlaa.Utf Go.Proofs.Ytklggdenloenlaa.NOrd Go.Proofs.Ytklggdenloenlaa.NText Go.Proofs.Ytklggdenloenlaa.NKey

theorem KeyBetween : incipitlaw6_KeyBetween.Pure := by
  intro a0 a1 _ _
  suffices h : Evr (fun k => incipitlaw6_KeyBetween.f k a0 a1) true by
    obtain ⟨k, hk⟩ := h
    exact ⟨k, hk k (Nat.le_refl _)⟩
  unfold incipitlaw6_KeyBetween.f
  refine Evr.bind Go.Proofs.Ytklggdenloenlaa.NKey.begun_f ?_
  obtain ⟨a, ha, la⟩ := cut_f a0 60 (by omega)
  obtain ⟨b, hb, lb⟩ := cut_f a1 60 (by omega)
  refine Evr.congr (fun k => by rw [if_pos (Eq.refl true), ha, Option.bind_some, hb, Option.bind_some]) ?_
  refine Evr.bind (between_f a b (by omega)) (Evr.bind (rbetween_f a b (by omega)) ?_)
  refine Evr.congr (fun k => if_pos (Eq.refl (between a b).toList)) ?_
  by_cases h : Op.bytesLess a.toList b.toList = true
  · have e : between a b = strOfNums (btw (bnums a) (bnums b)) := if_pos h
    have hz := btw_len (bnums a) (bnums b)
    have hy := btw_byte (bnums a) (bnums b) (bnums_byte a)
    have hl := str_len hy
    rw [bnums_length] at hz
    have h' := h
    rw [less_nums] at h'
    obtain ⟨p, q⟩ := btw_between _ _ (bnums_byte a) (bnums_byte b) h'
    have p1 : ¬ Op.bytesLess (between a b).toList a.toList = true := by rw [less_nums, e, bnums_str hy, p]; exact Bool.false_ne_true
    have q1 : Op.bytesLess (between a b).toList b.toList = true := by rw [less_nums, e, bnums_str hy, q]
    rw [← e] at hl
    exact Evr.congr (fun k => by rw [if_neg (by omega), if_pos h, if_neg p1, q1]) (Evr.of fun _ => rfl)
  · have e : between a b = a := if_neg h
    rw [e]
    exact Evr.congr (fun k => by rw [if_neg (by omega), if_neg h, if_pos (Eq.refl a.toList)]) (Evr.of fun _ => rfl)
end Go.Proofs.Ytklggdenloenlaa.PureKeyBetween
namespace Go.Proofs.Ytklggdenloenlaa.Pure
open Go.RowKit
theorem KeyBetween : MNorm.incipitlaw6_KeyBetween.Pure := PureKeyBetween.KeyBetween
end Go.Proofs.Ytklggdenloenlaa.Pure
