/-
  Characters that are not taken apart and have no class are their own form.
-/
import Derived.Test.YtdefoinlpepolaaNText
namespace Go.Proofs.Ytdefoinlpepolaa.NText
open Go.RowKit Go.Proofs.Ytdefoinlpepolaa.MGrp Go.Proofs.YtdefoinlpepolaaW.PrintWords Go.Proofs.Ytdefoinlpepolaa.Utf Go.Proofs.Ytdefoinlpepolaa.NOrd Go.Proofs.Ytdefoinlpepolaa.NTab Go.Proofs.Ytdefoinlpepolaa.NChars

theorem apt_low {c : Int} (h : c < 192) : apt c = [c] := by
  unfold apt
  have e1 : letters c = [] := by unfold letters; rw [if_pos (by omega)]
  have e2 : mapf c = [] := by unfold mapf; rw [if_pos h]
  rw [if_pos e1, if_pos e2]
theorem clf_low {c : Int} (h : c < 192) : clf c = 0 := by unfold clf; rw [if_pos (by omega)]
theorem ordr_zero (l : List Int) : ∀ (o : List Int), (∀ x ∈ l, clf x = 0) → ordr clf o l = l.reverse ++ o := by
  induction l with
  | nil => intro o _; rfl
  | cons c l ih =>
    intro o h
    have e : insr clf c o = c :: o := by
      cases o with
      | nil => rfl
      | cons x xs => rw [insr, if_neg (by have := h c (by simp); omega)]
    rw [ordr_cons, e, ih _ (fun x hx => h x (by simp [hx]))]; simp
theorem canon_low {l : List Int} (h : ∀ x ∈ l, x < 192) : canon l = l := by
  rw [canon, expand_self (fun x hx => apt_low (h x hx)), order, ordr_zero l [] (fun x hx => clf_low (h x hx))]; simp
theorem enc_low {c : Int} (h : c < 128) : enc c = [c] := by unfold enc; rw [if_pos h]
theorem encAll_low : ∀ {l : List Int}, (∀ x ∈ l, x < 128) → encAll l = l
  | [], _ => rfl
  | c :: l, h => by
    show enc c ++ encAll l = _
    rw [enc_low (h c (by simp)), encAll_low (fun x hx => h x (by simp [hx]))]; rfl
theorem form_low {l : List Int} (h0 : ∀ x ∈ l, 0 ≤ x) (h : ∀ x ∈ l, x < 128) : form l = some l := by
  have e1 : chars l = some l := by
    have := chars_encAll l (fun c hc => by have a := h0 c hc; have b := h c hc; unfold valid; omega) (t := []) (by intro x hx; simp at hx)
    rw [encAll_low h, List.append_nil, chars_nil] at this
    rw [this]; simp
  unfold form
  rw [e1, Option.map_some, canon_low (fun x hx => by have := h x hx; omega), encAll_low h]
end Go.Proofs.Ytdefoinlpepolaa.NText
