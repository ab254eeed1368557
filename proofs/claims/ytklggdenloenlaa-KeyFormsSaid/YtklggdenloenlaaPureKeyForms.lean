/-
  Proved: for every text s, incipitlaw6.KeyForms(s) returns true: if the first 100 bytes of s are a key, its form is a key, too, with the same form and the same hash, and is its own form. No condition beyond the given bound on a text's size.
-/
import Derived.Test.YtklggdenloenlaaKLKeyForms
import Derived.Test.YtklggdenloenlaaNKeyA
namespace Go.Proofs.Ytklggdenloenlaa.PureKeyForms
open Go.RowKit Go.Proofs.Ytklggdenloenlaa.MNorm Go.Proofs.YtklggdenloenlaaW.PrintWords Go.Proofs.Ytklggdenloenlaa.Utf Go.Proofs.Ytklggdenloenlaa.NOrd Go.Proofs.Ytklggdenloenlaa.NText Go.Proofs.Ytklggdenloenlaa.NKey Go.Proofs.Ytklggdenloenlaa.NChars Go.Proofs.Ytklggdenloenlaa.NTab

theorem form_ne {l : List Int} (hb : isByte l) (h0 : l ≠ []) : form l ≠ some [] := by
  intro h
  obtain ⟨m, h1, _, h2, h3⟩ := form_some hb h
  rw [chars_nil] at h3
  have h4 : canon m = [] := (Option.some.inj h3).symm
  have h5 : (expand m).length = 0 := by rw [← canon_len, h4]; rfl
  have h6 : m = [] := by
    cases m with
    | nil => rfl
    | cons c m =>
      have := apt_ne c
      have h7 : (apt c).length = 0 := by
        have e : expand (c :: m) = apt c ++ expand m := by simp [expand]
        rw [e, List.length_append] at h5; omega
      exact absurd (List.eq_nil_of_length_eq_zero h7) this
  have := (chars_some l.length (Nat.le_refl _) hb h1).2
  rw [h6] at this
  exact h0 (by rw [this]; rfl)
theorem KeyForms : incipitlaw6_KeyForms.Pure := by
  intro a0 _
  suffices h : Evr (fun k => incipitlaw6_KeyForms.f k a0) true by
    obtain ⟨k, hk⟩ := h
    exact ⟨k, hk k (Nat.le_refl _)⟩
  unfold incipitlaw6_KeyForms.f
  refine Evr.bind Go.Proofs.Ytklggdenloenlaa.NKey.begun_f ?_
  obtain ⟨s, ha, la⟩ := cut_f a0 100 (by omega)
  refine Evr.congr (fun k => by rw [if_pos (Eq.refl true), ha, Option.bind_some]) ?_
  refine Evr.bind (make_f s (by omega)) ?_
  by_cases h : s.toList = ([] : List UInt8) ∨ (s.size : Int) > 4096
  · have e : makef s = (⟨#[]⟩, ⟨#[]⟩, 1) := if_pos h
    rw [e]
    exact Evr.of fun _ => if_neg (show ¬ ((1 : Int) = 0) by decide)
  · have hn : ¬ s.toList = ([] : List UInt8) := fun z => h (Or.inl z)
    by_cases h2 : (toldf (bnums s)).2 = true
    · have e : makef s = ((toldf (bnums s)).1, s, 0) := by unfold makef; rw [if_neg h, if_pos h2]
      rw [e]
      dsimp only
      cases hf : form (bnums s) with
      | none => unfold toldf at h2; rw [hf] at h2; exact absurd h2 Bool.false_ne_true
      | some b =>
        have e1 : toldf (bnums s) = (strOfNums b, true) := by unfold toldf; rw [hf]
        have hb := form_byte (bnums_byte s) hf
        have e2 : toldf (bnums (strOfNums b)) = (strOfNums b, true) := by unfold toldf; rw [bnums_str hb, form_form (bnums_byte s) hf]
        have hl := form_len (bnums_byte s) hf
        rw [bnums_length] at hl
        have hz : (strOfNums b).size = b.length := str_len hb
        have hne : ¬ (strOfNums b).toList = ([] : List UInt8) := by
          intro z
          have := bnums_nil z
          rw [bnums_str hb] at this
          subst this
          exact form_ne (bnums_byte s) (bnums_ne hn) hf
        have e3 : makef (strOfNums b) = (strOfNums b, strOfNums b, 0) := by
          unfold makef
          rw [if_neg (by rintro (z | z); exact hne z; omega), e2, if_pos (Eq.refl true)]
        rw [e1]
        dsimp only
        have g := make_f (strOfNums b) (by omega)
        rw [e3] at g
        have gh := hash_f (strOfNums b) (by omega)
        refine Evr.congr (fun k => if_pos (Eq.refl (0 : Int))) (Evr.bind g ?_)
        dsimp only
        refine Evr.congr (fun k => by rw [if_pos (Eq.refl (0 : Int)), if_pos (Eq.refl _), if_pos (Eq.refl _)]) (Evr.bind gh (Evr.bind gh ?_))
        refine Evr.congr (fun k => if_pos (Eq.refl _)) (Evr.of fun _ => ?_)
        have hc : ckey_Compare.f (strOfNums b) (strOfNums b) = some 0 := by
          unfold ckey_Compare.f strings_Compare.f bytealg_CompareString.f
          rw [compare_self]; rfl
        rw [hc]; rfl
    · have e : makef s = (⟨#[]⟩, ⟨#[]⟩, 1) := by unfold makef; rw [if_neg h, if_neg h2]
      rw [e]
      exact Evr.of fun _ => if_neg (show ¬ ((1 : Int) = 0) by decide)
end Go.Proofs.Ytklggdenloenlaa.PureKeyForms
namespace Go.Proofs.Ytklggdenloenlaa.Pure
open Go.RowKit
theorem KeyForms : MNorm.incipitlaw6_KeyForms.Pure := PureKeyForms.KeyForms
end Go.Proofs.Ytklggdenloenlaa.Pure
