/-
  Proved: for every three texts a, b, c, incipitlaw4.NormSame(a, b, c) returns true: of their first 60 bytes, what is the same as one is the same as all that are the same as it, either way, and a text is the same as itself. No condition beyond the given bound on a text's size.
-/
import Derived.Test.YtklggdenloenlaaMNormLNormSame
import Derived.Test.YtklggdenloenlaaRText
namespace Go.Proofs.Ytklggdenloenlaa.PureNormSame
open Go.RowKit Go.Proofs.Ytklggdenloenlaa.MNorm Go.Proofs.YtklggdenloenlaaW.PrintWords Go.Proofs.Ytklggdenloenlaa.Utf Go.Proofs.Ytklggdenloenlaa.NOrd Go.Proofs.Ytklggdenloenlaa.NText

theorem NormSame : incipitlaw4_NormSame.Pure := by
  intro a0 a1 a2 _ _ _
  suffices h : Evr (fun k => incipitlaw4_NormSame.f k a0 a1 a2) true by
    obtain ⟨k, hk⟩ := h
    exact ⟨k, hk k (Nat.le_refl _)⟩
  unfold incipitlaw4_NormSame.f
  refine Evr.bind begun_f ?_
  obtain ⟨a, ha, la⟩ := cut_f a0 60 (by omega)
  obtain ⟨b, hb, lb⟩ := cut_f a1 60 (by omega)
  obtain ⟨c, hc, lc⟩ := cut_f a2 60 (by omega)
  refine Evr.congr (fun k => by rw [if_pos (Eq.refl true), ha, Option.bind_some, hb, Option.bind_some, hc, Option.bind_some]) ?_
  have f := fun (s t : ByteArray) (h1 : (s.size : Int) ≤ 60) (h2 : (t.size : Int) ≤ 60) => show Evr (fun k => norm_Same.f k s t) (sameb s t) from same_f s t (by omega) (by omega)
  refine Evr.bind (f a b la lb) (Evr.bind (f b c lb lc) (Evr.bind (f a c la lc) (Evr.bind (rtext_f a (by omega)) ?_)))
  have hba := f b a lb la
  rw [sameb_symm b a] at hba
  have haa := f a a la la
  rw [sameb_self] at haa
  have hend : Evr (fun k => (norm_Same.f k b a).bind fun t430 => (if (t430 == sameb a b) = true then ((norm_Same.f k a a).bind fun t431 => (some (t431 == (toldf (bnums a)).2))) else (none))) true := by
    refine Evr.bind hba ?_
    refine Evr.congr (fun k => by rw [if_pos (beq_self_eq_true _)]) (Evr.bind haa (Evr.of fun _ => ?_))
    rw [beq_self_eq_true]
  by_cases h1 : sameb a b = true
  · by_cases h2 : sameb b c = true
    · exact Evr.congr (fun k => by rw [if_pos h1, if_pos h2, if_pos (sameb_trans h1 h2)]) hend
    · exact Evr.congr (fun k => by rw [if_pos h1, if_neg h2]) hend
  · exact Evr.congr (fun k => by rw [if_neg h1]) hend
end Go.Proofs.Ytklggdenloenlaa.PureNormSame
namespace Go.Proofs.Ytklggdenloenlaa.Pure
open Go.RowKit
theorem NormSame : MNorm.incipitlaw4_NormSame.Pure := PureNormSame.NormSame
end Go.Proofs.Ytklggdenloenlaa.Pure
