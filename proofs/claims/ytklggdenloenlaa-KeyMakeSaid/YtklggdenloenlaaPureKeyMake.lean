/-
  Proved: for every text s and every int more, incipitlaw6.KeyMake(s, more) returns true: of the first 100 bytes of s, and fewer than 5000 zero bytes behind them, ckey.Make tells the key or the error that the document tells, and the hash. No condition beyond the given bound on a text's size.
-/
import Derived.Test.YtklggdenloenlaaKLKeyMake
import Derived.Test.YtklggdenloenlaaNKeyB
namespace Go.Proofs.Ytklggdenloenlaa.PureKeyMake
open Go.RowKit Go.Proofs.Ytklggdenloenlaa.MNorm Go.Proofs.YtklggdenloenlaaW.PrintWords Go.Proofs.Ytklggdenloenlaa.Utf Go.Proofs.Ytklggdenloenlaa.NOrd Go.Proofs.Ytklggdenloenlaa.NText Go.Proofs.Ytklggdenloenlaa.NKey

theorem j1_f (s : ByteArray) (hs : s.size ≤ 10000) : Evr (fun k => incipitlaw6_KeyMake.j1 k s) true := by
  refine Evr.succ (fun k => by rw [incipitlaw6_KeyMake.j1]) (Evr.bind (make_f s (by omega)) (Evr.bind (rkey_f s (by omega)) ?_))
  unfold makef rkeyf
  by_cases h : s.toList = ([] : List UInt8) ∨ (s.size : Int) > 4096
  · rw [if_pos h, if_pos h]
    exact Evr.of fun _ => by dsimp only; rw [if_neg Bool.false_ne_true, if_pos (Eq.refl (1 : Int)), if_pos (by decide +kernel)]; exact congrArg some (by decide +kernel)
  · rw [if_neg h, if_neg h]
    by_cases h2 : (toldf (bnums s)).2 = true
    · rw [if_pos h2]
      have hz := toldf_size (s := s)
      have g := hash_f (toldf (bnums s)).1 (by omega)
      have g2 := rhash_f (toldf (bnums s)).1 (by omega)
      dsimp only
      refine Evr.congr (fun k => by rw [if_pos h2, if_pos (Eq.refl (0 : Int)), if_pos (Eq.refl _), if_pos (Eq.refl _)]) (Evr.bind g (Evr.bind g2 (Evr.of fun _ => ?_)))
      rw [beq_self_eq_true]
    · rw [if_neg h2]
      exact Evr.of fun _ => by dsimp only; rw [if_neg h2, if_pos (Eq.refl (1 : Int)), if_pos (by decide +kernel)]; exact congrArg some (by decide +kernel)
theorem zeros_byte (n : Nat) : isByte (List.replicate n 0) := by
  intro x hx
  obtain rfl := List.eq_of_mem_replicate hx
  omega
theorem KeyMake : incipitlaw6_KeyMake.Pure := by
  intro a0 a1 _ _
  suffices h : Evr (fun k => incipitlaw6_KeyMake.f k a0 a1) true by
    obtain ⟨k, hk⟩ := h
    exact ⟨k, hk k (Nat.le_refl _)⟩
  unfold incipitlaw6_KeyMake.f
  refine Evr.bind Go.Proofs.Ytklggdenloenlaa.NKey.begun_f ?_
  obtain ⟨s, ha, la⟩ := cut_f a0 100 (by omega)
  refine Evr.congr (fun k => by rw [if_pos (Eq.refl true), ha, Option.bind_some]) ?_
  have hplain := j1_f s (by omega)
  by_cases h0 : a1 > 0
  · by_cases h1 : a1 < 5000
    · have hl := str_len (zeros_byte a1.toNat)
      rw [List.length_replicate] at hl
      have hsz : (s ++ strOfNums (List.replicate a1.toNat 0)).size = s.size + (strOfNums (List.replicate a1.toNat 0)).size := by
        rw [← bnums_length, bnums_append, List.length_append, bnums_length, bnums_length]
      refine Evr.congr (fun k => by rw [if_pos h0, decide_eq_true h1]) (Evr.succ (fun k => by rw [incipitlaw6_KeyMake.j0, if_pos (Eq.refl true), if_pos (by omega), if_pos (by omega), Option.bind_some, if_pos (by omega)]) (j1_f _ (by omega)))
    · exact Evr.congr (fun k => by rw [if_pos h0, decide_eq_false h1]) (Evr.succ (fun k => by rw [incipitlaw6_KeyMake.j0, if_neg Bool.false_ne_true]) hplain)
  · exact Evr.congr (fun k => by rw [if_neg h0]) (Evr.succ (fun k => by rw [incipitlaw6_KeyMake.j0, if_neg Bool.false_ne_true]) hplain)
end Go.Proofs.Ytklggdenloenlaa.PureKeyMake
namespace Go.Proofs.Ytklggdenloenlaa.Pure
open Go.RowKit
theorem KeyMake : MNorm.incipitlaw6_KeyMake.Pure := PureKeyMake.KeyMake
end Go.Proofs.Ytklggdenloenlaa.Pure
