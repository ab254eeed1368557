/-
  The document's Text: the same form.
-/
import Derived.Test.YtklggdenloenlaaNTextK
import Derived.Test.YtklggdenloenlaaNTabRK
import Derived.Test.YtklggdenloenlaaRefReadNormK
import Derived.Test.YtklggdenloenlaaRefWriteNormK
namespace Go.Proofs.Ytklggdenloenlaa.NText
open Go.RowKit Go.Proofs.Ytklggdenloenlaa.MNorm Go.Proofs.YtklggdenloenlaaW.PrintWords Go.Proofs.Ytklggdenloenlaa.Utf Go.Proofs.Ytklggdenloenlaa.NOrd Go.Proofs.Ytklggdenloenlaa.NTab Go.Proofs.Ytklggdenloenlaa.NChars Go.Proofs.Ytklggdenloenlaa.NTabR
open Go.Proofs.Ytklggdenloenlaa.PureNorm (told told_len rread_l wrote rwrite_f encAll_cons encAll_len)

theorem rtext_f (s : ByteArray) (hs : s.size ≤ 100000) : Evr (fun k => incipitref1_Text.f k s) (toldf (bnums s)) := by
  unfold incipitref1_Text.f
  have h1 : Evr (fun k => incipitref1_Read.f k s) (told [] (bnums s)) := ⟨s.size + 20, fun k hk => rread_l s.size k s [] (Nat.le_refl _) (by simp; omega) hk⟩
  refine Evr.bind h1 ?_
  unfold toldf form told
  cases hc : chars (bnums s) with
  | none => exact Evr.of fun _ => rfl
  | some m =>
    have hv := chars_some (bnums s).length (Nat.le_refl _) (bnums_byte s) hc
    have hl := chars_len (bnums_byte s) hc
    rw [bnums_length] at hl
    have hcl := canon_len_le m
    simp only [List.nil_append, Option.map_some, if_true]
    refine Evr.bind (rchars_f m (by omega)) ?_
    have h2 : Evr (fun k => incipitref1_Write.f k (canon m)) (wrote [] (canon m)) := ⟨(canon m).length + 1, fun k hk => rwrite_f (canon m) (by omega) k (by omega)⟩
    refine Evr.bind h2 (Evr.of fun _ => ?_)
    rw [wrote, if_pos (canon_valid hv.1), List.nil_append]
end Go.Proofs.Ytklggdenloenlaa.NText
