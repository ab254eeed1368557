/-
  The laws' comparing of two lists of numbers.
-/
import Derived.Test.YtklggdenloenlaaNText
import Derived.Test.YtklggdenloenlaaNTabR
import Derived.Test.YtklggdenloenlaaRefOneNorm
namespace Go.Proofs.Ytklggdenloenlaa.NText
open Go.RowKit Go.Proofs.Ytklggdenloenlaa.MNorm Go.Proofs.YtklggdenloenlaaW.PrintWords Go.Proofs.Ytklggdenloenlaa.Utf Go.Proofs.Ytklggdenloenlaa.NOrd Go.Proofs.Ytklggdenloenlaa.NTab Go.Proofs.Ytklggdenloenlaa.NTabR
open Go.Proofs.Ytklggdenloenlaa.NChars hiding w64

theorem ints_l0 (xs ys : List Int) (hl : xs.length ≤ 1000000) : ∀ (a b p : List Int), a.length = b.length → xs = p ++ a → ys = p ++ b → Evr (fun k => incipitlaw1_Ints.l0 k xs ys p.length) (decide (a = b))
  | [], b, p, h, e1, e2 => by
    obtain rfl := List.eq_nil_of_length_eq_zero h.symm
    refine Evr.succ (h := fun _ => some true) (fun k => ?_) (Evr.of fun _ => rfl)
    rw [incipitlaw1_Ints.l0, if_neg (by rw [e1]; simp)]
  | x :: a, b, p, h, e1, e2 => by
    obtain ⟨y, b, rfl⟩ : ∃ y b', b = y :: b' := by
      cases b with
      | nil => simp at h
      | cons y b' => exact ⟨y, b', rfl⟩
    have h' : a.length = b.length := by simpa using h
    have lx : (xs.length : Int) = p.length + 1 + a.length := by rw [e1]; simp; omega
    have ly : (ys.length : Int) = p.length + 1 + b.length := by rw [e2]; simp; omega
    have r1 : rd xs p.length = x := by rw [e1]; exact rd_at _ _ _ rfl
    have r2 : rd ys p.length = y := by rw [e2]; exact rd_at _ _ _ rfl
    by_cases hxy : x = y
    · subst hxy
      have ih := ints_l0 xs ys hl a b (p ++ [x]) h' (by rw [e1]; simp) (by rw [e2]; simp)
      rw [List.length_append, List.length_singleton, Int.natCast_add] at ih
      have e : decide (x :: a = x :: b) = decide (a = b) := by simp
      rw [e]
      refine Evr.succ (fun k => ?_) ih
      rw [incipitlaw1_Ints.l0, if_pos (by omega), if_pos (by omega), if_pos (by omega), r1, r2, if_pos (Eq.refl x), w64 (by omega) (by omega)]; rfl
    · have e : decide (x :: a = y :: b) = false := by simp [hxy]
      rw [e]
      refine Evr.succ (h := fun _ => some false) (fun k => ?_) (Evr.of fun _ => rfl)
      rw [incipitlaw1_Ints.l0, if_pos (by omega), if_pos (by omega), if_pos (by omega), r1, r2, if_neg hxy]
theorem ints_any (xs ys : List Int) (hl : xs.length ≤ 1000000) : Evr (fun k => incipitlaw1_Ints.f k xs ys) (decide (xs = ys)) := by
  unfold incipitlaw1_Ints.f
  by_cases h : xs.length = ys.length
  · exact Evr.congr (fun k => if_pos (by omega)) (ints_l0 xs ys hl xs ys [] h rfl rfl)
  · have e : decide (xs = ys) = false := decide_eq_false (fun e => h (by rw [e]))
    rw [e]
    exact Evr.of fun k => if_neg (by omega)
end Go.Proofs.Ytklggdenloenlaa.NText
