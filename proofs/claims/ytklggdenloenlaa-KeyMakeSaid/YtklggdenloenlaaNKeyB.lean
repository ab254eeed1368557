/-
  Keys: the document's Key and Hash.
-/
import Derived.Test.YtklggdenloenlaaNKeyA
import Derived.Test.YtklggdenloenlaaRTextK
import Derived.Test.YtklggdenloenlaaK17r
import Derived.Test.YtklggdenloenlaaK18
namespace Go.Proofs.Ytklggdenloenlaa.NKey
open Go.RowKit Go.Proofs.Ytklggdenloenlaa.MNorm Go.Proofs.YtklggdenloenlaaW.PrintWords Go.Proofs.Ytklggdenloenlaa.Utf Go.Proofs.Ytklggdenloenlaa.NOrd Go.Proofs.Ytklggdenloenlaa.NText Go.Proofs.Ytklggdenloenlaa.NChars
open Go.Proofs.Ytklggdenloenlaa.PureNorm (bt_nums)

def rkeyf (s : ByteArray) : ByteArray × Bool := if s.toList = ([] : List UInt8) ∨ (s.size : Int) > 4096 then (⟨#[]⟩, false) else toldf (bnums s)
theorem rkey_f (s : ByteArray) (hs : s.size ≤ 100000) : Evr (fun k => incipitref1_Key.f k s) (rkeyf s) := by
  unfold incipitref1_Key.f rkeyf
  by_cases h : s.toList = ([] : List UInt8)
  · rw [if_pos (Or.inl h)]
    exact Evr.congr (fun k => by rw [if_pos h]) (Evr.of fun _ => rfl)
  · by_cases h2 : (s.size : Int) > 4096
    · rw [if_pos (Or.inr h2)]
      exact Evr.congr (fun k => by rw [if_neg h, if_pos h2]) (Evr.of fun _ => rfl)
    · rw [if_neg (not_or.2 ⟨h, h2⟩)]
      exact Evr.congr (fun k => by rw [if_neg h, if_neg h2]) (Evr.bind (rtext_f s hs) (Evr.of fun _ => rfl))

theorem rhash_l (s : ByteArray) (hs : (s.size : Int) ≤ 1000000) : ∀ (d i : Nat) (h : Int), i + d = s.size → Evr (fun k => incipitref1_Hash.l0 k s h i) (((bnums s).drop i).foldl hstep h)
  | 0, i, h, e => by
    refine Evr.succ (fun k => by rw [incipitref1_Hash.l0, if_neg (by omega)]) (Evr.of fun _ => ?_)
    rw [List.drop_of_length_le (by rw [bnums_length]; omega)]; rfl
  | d + 1, i, h, e => by
    rw [drop_bt (by omega), List.foldl_cons]
    refine Evr.succ (fun k => by rw [incipitref1_Hash.l0, if_pos (by omega), if_pos (by omega), wrap_next (by omega)]) ?_
    exact rhash_l s hs d (i + 1) _ (by omega)
theorem rhash_f (s : ByteArray) (hs : s.size ≤ 100000) : Evr (fun k => incipitref1_Hash.f k s) (hashn s) := rhash_l s (by omega) s.size 0 _ (by omega)

end Go.Proofs.Ytklggdenloenlaa.NKey
