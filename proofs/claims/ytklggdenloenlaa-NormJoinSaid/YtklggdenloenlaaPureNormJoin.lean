/-
  Proved: for every two texts s and t, incipitlaw4.NormJoin(s, t) returns true: of their first 80 bytes, if both are texts, the form of both put together is that of their forms put together, and as long as these. No condition beyond the given bound on a text's size.
-/
import Derived.Test.YtklggdenloenlaaNText
namespace Go.Proofs.Ytklggdenloenlaa.PureNormJoin
open Go.RowKit Go.Proofs.Ytklggdenloenlaa.MNormJoin Go.Proofs.YtklggdenloenlaaW.PrintWords Go.Proofs.Ytklggdenloenlaa.Utf Go.Proofs.Ytklggdenloenlaa.NOrd Go.Proofs.Ytklggdenloenlaa.NText

theorem cut_f (s : ByteArray) (n : Int) (h0 : 0 ≤ n) : ∃ t, incipitlaw1_Cut.f s n = some t ∧ (t.size : Int) ≤ n := by
  unfold incipitlaw1_Cut.f
  by_cases h : (s.size : Int) > n
  · rw [if_pos h, if_pos h0, if_pos (by omega)]
    exact ⟨_, rfl, by rw [ByteArray.size_extract]; omega⟩
  · rw [if_neg h]; exact ⟨s, rfl, by omega⟩

theorem NormJoin : incipitlaw4_NormJoin.Pure := by
  intro a0 a1 _ _
  suffices h : Evr (fun k => incipitlaw4_NormJoin.f k a0 a1) true by
    obtain ⟨k, hk⟩ := h
    exact ⟨k, hk k (Nat.le_refl _)⟩
  unfold incipitlaw4_NormJoin.f
  refine Evr.bind begun_f ?_
  obtain ⟨s, hs, ls⟩ := cut_f a0 80 (by omega)
  obtain ⟨t, ht, lt⟩ := cut_f a1 80 (by omega)
  refine Evr.congr (fun k => by rw [if_pos (Eq.refl true), hs, Option.bind_some, ht, Option.bind_some]) ?_
  refine Evr.bind (text_f s (by omega)) (Evr.bind (text_f t (by omega)) ?_)
  cases ha : form (bnums s) with
  | none =>
    have e : toldf (bnums s) = (⟨#[]⟩, false) := by unfold toldf; rw [ha]
    rw [e]
    refine Evr.succ (h := fun _ => some true) (fun k => ?_) (Evr.of fun _ => rfl)
    rw [if_neg Bool.false_ne_true, incipitlaw4_NormJoin.j0, if_pos (Eq.refl true)]
  | some a =>
    have e : toldf (bnums s) = (strOfNums a, true) := by unfold toldf; rw [ha]
    rw [e]
    cases hb : form (bnums t) with
    | none =>
      have e2 : toldf (bnums t) = (⟨#[]⟩, false) := by unfold toldf; rw [hb]
      rw [e2]
      refine Evr.succ (h := fun _ => some true) (fun k => ?_) (Evr.of fun _ => rfl)
      rw [if_pos (Eq.refl true), incipitlaw4_NormJoin.j0, if_pos (show (!(false : Bool)) = true from rfl)]
    | some b =>
      have e2 : toldf (bnums t) = (strOfNums b, true) := by unfold toldf; rw [hb]
      rw [e2]
      obtain ⟨c, c1, c2, c3⟩ := form_join (bnums_byte s) (bnums_byte t) ha hb
      have ba := form_byte (bnums_byte s) ha
      have bb := form_byte (bnums_byte t) hb
      have la := form_len (bnums_byte s) ha
      have lb := form_len (bnums_byte t) hb
      rw [bnums_length] at la lb
      have za : (strOfNums a).size = a.length := by rw [← bnums_length, bnums_str ba]
      have zb : (strOfNums b).size = b.length := by rw [← bnums_length, bnums_str bb]
      have t1 : toldf (bnums (s ++ t)) = (strOfNums c, true) := by unfold toldf; rw [bnums_append, c1]
      have t2 : toldf (bnums (strOfNums a ++ strOfNums b)) = (strOfNums c, true) := by unfold toldf; rw [bnums_append, bnums_str ba, bnums_str bb, c2]
      have bc : isByte c := form_byte (by rw [← bnums_append]; exact bnums_byte _) c1
      have zc : (strOfNums c).size = c.length := by rw [← bnums_length, bnums_str bc]
      have g1 := text_f (s ++ t) (by rw [ByteArray.size_append]; omega)
      have g2 := text_f (strOfNums a ++ strOfNums b) (by rw [ByteArray.size_append]; omega)
      rw [t1] at g1
      rw [t2] at g2
      refine Evr.succ (fun k => by rw [if_pos (Eq.refl true), incipitlaw4_NormJoin.j0, if_neg (show ¬ (!(true : Bool)) = true from Bool.false_ne_true), if_pos (by omega)]) ?_
      refine Evr.bind g1 ?_
      refine Evr.congr (fun k => by rw [if_pos (show (strOfNums a).size + (strOfNums b).size ≤ 9223372036854775807 by omega)]) ?_
      refine Evr.bind g2 (Evr.of fun _ => ?_)
      rw [if_pos (Eq.refl true), if_pos (Eq.refl true), if_pos (Eq.refl _)]
      have e9 : (((strOfNums c).size : Int) == wrap64 (((strOfNums a).size : Int) + ((strOfNums b).size : Int))) = true := by
        rw [w64 (by omega) (by omega)]
        exact beq_iff_eq.2 (by omega)
      rw [e9]
end Go.Proofs.Ytklggdenloenlaa.PureNormJoin
namespace Go.Proofs.Ytklggdenloenlaa.Pure
open Go.RowKit
theorem NormJoin : MNormJoin.incipitlaw4_NormJoin.Pure := PureNormJoin.NormJoin
end Go.Proofs.Ytklggdenloenlaa.Pure
