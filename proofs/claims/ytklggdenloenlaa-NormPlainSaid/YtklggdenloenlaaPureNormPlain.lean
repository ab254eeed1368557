/-
  Proved: for every []byte b, incipitlaw4.NormPlain(b) returns true: of its first 100 bytes, each taken modulo 128, the text is its own canonical form. No condition beyond a list's length being one that the statement lets in, and its numbers being bytes.
-/
import Derived.Test.YtklggdenloenlaaNPlain
namespace Go.Proofs.Ytklggdenloenlaa.PureNormPlain
open Go.RowKit Go.Proofs.Ytklggdenloenlaa.MNorm Go.Proofs.YtklggdenloenlaaW.PrintWords Go.Proofs.Ytklggdenloenlaa.Utf Go.Proofs.Ytklggdenloenlaa.NOrd Go.Proofs.Ytklggdenloenlaa.NText

theorem short_f (l : List Int) (n : Int) (h0 : 0 ≤ n) : ∃ m, incipitlaw1_Short.f l n = some m ∧ (m.length : Int) ≤ n ∧ ∀ x ∈ m, x ∈ l := by
  unfold incipitlaw1_Short.f
  by_cases h : (l.length : Int) > n
  · rw [if_pos h, if_pos h0, if_pos (by omega)]
    exact ⟨_, rfl, by rw [List.length_take]; omega, fun x hx => List.mem_of_mem_take hx⟩
  · rw [if_neg h]; exact ⟨l, rfl, by omega, fun x hx => hx⟩
theorem loop (l : List Int) (hl : l.length ≤ 1000) (hb : ∀ x ∈ l, 0 ≤ x ∧ x < 256) (R : Bool) (hend : Evr (fun k => (norm_Text.f k (strOfNums (l.map fun x => Int.tmod x 128))).bind fun bt464 => (if bt464.2 = true then (if bt464.1.toList = (strOfNums (l.map fun x => Int.tmod x 128)).toList then ((norm_Is.f k bt464.1).bind fun t466 => (some t466)) else (none)) else (none))) R) :
    ∀ (rest pre : List Int) (z : List Int), l = pre ++ rest → z.length = rest.length → Evr (fun k => incipitlaw4_NormPlain.l0 k l ((pre.map fun x => Int.tmod x 128) ++ z) pre.length) R
  | [], pre, z, e, hz => by
    obtain rfl := List.eq_nil_of_length_eq_zero hz
    rw [List.append_nil] at e
    subst e
    refine Evr.succ (fun k => ?_) hend
    rw [incipitlaw4_NormPlain.l0, if_neg (by omega), List.append_nil]
  | c :: rest, pre, z, e, hz => by
    obtain ⟨y, z, rfl⟩ : ∃ y z', z = y :: z' := by
      cases z with
      | nil => simp at hz
      | cons y z' => exact ⟨y, z', rfl⟩
    have hz' : z.length = rest.length := by simpa using hz
    have hlen : l.length = pre.length + 1 + rest.length := by rw [e]; simp; omega
    have hr : rd l pre.length = c := by rw [e]; simp [rd]
    have ih := loop l hl hb R hend rest (pre ++ [c]) z (by rw [e]; simp) hz'
    rw [List.length_append, List.length_singleton, Int.natCast_add, List.map_append] at ih
    refine Evr.succ (fun k => ?_) ih
    rw [incipitlaw4_NormPlain.l0, if_pos (by omega), if_pos (by omega), if_pos (by simp; omega), hr, w64 (by omega) (by omega)]
    have es : ((pre.map fun x => Int.tmod x 128) ++ y :: z).set (pre.length : Int).toNat (Int.tmod c 128) = (pre.map fun x => Int.tmod x 128) ++ [c].map (fun x => Int.tmod x 128) ++ z := by
      rw [Int.toNat_natCast, List.set_append_right _ _ (by simp)]
      simp
    rw [es]; rfl

theorem NormPlain : incipitlaw4_NormPlain.Pure := by
  intro l0 _ _ hw
  suffices h : Evr (fun k => incipitlaw4_NormPlain.f k l0) true by
    obtain ⟨k, hk⟩ := h
    exact ⟨k, hk k (Nat.le_refl _)⟩
  unfold incipitlaw4_NormPlain.f
  refine Evr.bind begun_f ?_
  obtain ⟨l, hs, ls, hin⟩ := short_f l0 100 (by omega)
  have hb : ∀ x ∈ l, 0 ≤ x ∧ x < 256 := by
    intro x hx
    have := hw x (hin x hx)
    have h2 : (0 : Int) ≤ x ∧ x ≤ 255 := by
      simp [Lit.wf, IntKind.min, IntKind.max, IntKind.bits, IntKind.signed] at this
      omega
    omega
  refine Evr.congr (fun k => by rw [if_pos (Eq.refl true), hs, Option.bind_some, if_pos (by omega), if_pos (by omega)]) ?_
  have hm0 : ∀ x ∈ (l.map fun x => Int.tmod x 128), 0 ≤ x := by
    intro x hx
    obtain ⟨y, hy, rfl⟩ := List.mem_map.1 hx
    have := hb y hy
    show 0 ≤ Int.tmod y 128
    rw [Int.tmod_eq_emod_of_nonneg (by omega)]; omega
  have hm1 : ∀ x ∈ (l.map fun x => Int.tmod x 128), x < 128 := by
    intro x hx
    obtain ⟨y, hy, rfl⟩ := List.mem_map.1 hx
    have := hb y hy
    show Int.tmod y 128 < 128
    rw [Int.tmod_eq_emod_of_nonneg (by omega)]; omega
  have hby : isByte (l.map fun x => Int.tmod x 128) := fun x hx => ⟨hm0 x hx, by have := hm1 x hx; omega⟩
  have hn := bnums_str hby
  have hsz : (strOfNums (l.map fun x => Int.tmod x 128)).size ≤ 100 := by rw [← bnums_length, hn, List.length_map]; omega
  have ht : toldf (bnums (strOfNums (l.map fun x => Int.tmod x 128))) = (strOfNums (l.map fun x => Int.tmod x 128), true) := by
    unfold toldf
    rw [hn, form_low hm0 hm1]
  have g1 := text_f (strOfNums (l.map fun x => Int.tmod x 128)) (by omega)
  have g2 := is_f (strOfNums (l.map fun x => Int.tmod x 128)) (by omega)
  rw [ht] at g1 g2
  rw [if_pos (Eq.refl true), beq_self_eq_true] at g2
  have hend := Evr.bind g1 (B := fun k bt464 => (if bt464.2 = true then (if bt464.1.toList = (strOfNums (l.map fun x => Int.tmod x 128)).toList then ((norm_Is.f k bt464.1).bind fun t466 => (some t466)) else (none)) else (none))) (b := true)
    (Evr.congr (fun k => by rw [if_pos (Eq.refl true), if_pos (Eq.refl _)]) (Evr.bind g2 (Evr.of fun _ => rfl)))
  have := loop l (by omega) hb true hend l [] (List.replicate l.length 0) rfl (by simp)
  simpa using this
end Go.Proofs.Ytklggdenloenlaa.PureNormPlain
namespace Go.Proofs.Ytklggdenloenlaa.Pure
open Go.RowKit
theorem NormPlain : MNorm.incipitlaw4_NormPlain.Pure := PureNormPlain.NormPlain
end Go.Proofs.Ytklggdenloenlaa.Pure
