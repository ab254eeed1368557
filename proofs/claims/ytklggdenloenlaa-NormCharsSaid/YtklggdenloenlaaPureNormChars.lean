/-
  Proved: for every list of ints, incipitlaw4.NormChars returns true: of its first forty, norm.Chars tells the list that the document tells. No condition beyond a list's length being one that the statement lets in.
-/
import Derived.Test.YtklggdenloenlaaMNormLNormChars
import Derived.Test.YtklggdenloenlaaIntsAny
namespace Go.Proofs.Ytklggdenloenlaa.PureNormChars
open Go.RowKit Go.Proofs.Ytklggdenloenlaa.MNorm Go.Proofs.YtklggdenloenlaaW.PrintWords Go.Proofs.Ytklggdenloenlaa.NOrd Go.Proofs.Ytklggdenloenlaa.NText Go.Proofs.Ytklggdenloenlaa.NTabR
open Go.Proofs.Ytklggdenloenlaa.NChars hiding w64

theorem cut_l (l : List Int) : ∃ m, incipitlaw4_cut.f l = some m ∧ m.length ≤ 40 := by
  unfold incipitlaw4_cut.f
  by_cases h : (l.length : Int) > 40
  · rw [if_pos h, if_pos (by omega)]
    exact ⟨_, rfl, by rw [List.length_take]; omega⟩
  · rw [if_neg h]; exact ⟨l, rfl, by omega⟩
theorem NormChars : incipitlaw4_NormChars.Pure := by
  intro l0 _ _ _
  suffices h : Evr (fun k => incipitlaw4_NormChars.f k l0) true by
    obtain ⟨k, hk⟩ := h
    exact ⟨k, hk k (Nat.le_refl _)⟩
  unfold incipitlaw4_NormChars.f
  refine Evr.bind begun_f ?_
  obtain ⟨l, hc, hl⟩ := cut_l l0
  refine Evr.congr (fun k => by rw [if_pos (Eq.refl true), hc, Option.bind_some]) ?_
  have h5 := canon_len_le l
  have hi := ints_any (canon l) (canon l) (by omega)
  rw [decide_eq_true (Eq.refl (canon l))] at hi
  exact Evr.bind (chars_f l (by omega)) (Evr.bind (rchars_f l (by omega)) (Evr.bind hi (Evr.of fun _ => rfl)))
end Go.Proofs.Ytklggdenloenlaa.PureNormChars
namespace Go.Proofs.Ytklggdenloenlaa.Pure
open Go.RowKit
theorem NormChars : MNorm.incipitlaw4_NormChars.Pure := PureNormChars.NormChars
end Go.Proofs.Ytklggdenloenlaa.Pure
