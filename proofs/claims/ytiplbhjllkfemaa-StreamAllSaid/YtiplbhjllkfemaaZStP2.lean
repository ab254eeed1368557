/-
  What can stand has come, the rest is held: plainly.
-/
import Derived.Test.YtiplbhjllkfemaaZStP
namespace Go.Proofs.Ytiplbhjllkfemaa.StP
open Go.RowKit Go.Proofs.YtiplbhjllkfemaaW.PrintWords Go.Proofs.Ytiplbhjllkfemaa.MSt Go.Proofs.Ytiplbhjllkfemaa.Stm Go.Proofs.Ytiplbhjllkfemaa.Utf Go.Proofs.Ytiplbhjllkfemaa.NOrd Go.Proofs.Ytiplbhjllkfemaa.NTab Go.Proofs.Ytiplbhjllkfemaa.NChars Go.Proofs.Ytiplbhjllkfemaa.NText Go.Proofs.Ytiplbhjllkfemaa.NTabR
open Go.Proofs.Ytiplbhjllkfemaa.PureSt (told rread_l rwrite_f wrote encAll_len)

theorem dec_take {z : List Int} (hz : isByte z) (hd : (dec z).2 = 0) (i : Nat) : (dec (z.take i)).2 = 0 := by
  refine Decidable.byContradiction fun hn => ?_
  have hb : isByte (z.take i) := fun x hx => hz x (List.mem_of_mem_take hx)
  obtain ⟨v, e1, e2⟩ := dec_some hb hn
  have h1 : z = enc (dec (z.take i)).1 ++ ((z.take i).drop (dec (z.take i)).2.toNat ++ z.drop i) := by
    rw [← List.append_assoc, ← e2, List.take_append_drop, List.take_append_drop]
  rw [h1, dec_enc v] at hd
  have := enc_pos (dec (z.take i)).1
  simp only at hd
  omega
theorem chars_cut {cs z : List Int} (hv : ∀ c ∈ cs, valid c) (hz : isByte z) (hd : (dec z).2 = 0) {i : Nat} (h0 : 0 < i) (h1 : i ≤ z.length) : chars (encAll cs ++ z.take i) = none := by
  have hb : isByte (z.take i) := fun x hx => hz x (List.mem_of_mem_take hx)
  have hne : z.take i ≠ [] := by
    intro e
    have := congrArg List.length e
    rw [List.length_take, List.length_nil] at this
    omega
  rw [chars_encAll cs hv hb, chars_step hb hne, if_pos (dec_take hz hd i)]; rfl
theorem chars_all {cs : List Int} (hv : ∀ c ∈ cs, valid c) : chars (encAll cs) = some cs := by
  have := chars_encAll cs hv isByte_nil
  rw [List.append_nil, chars_nil] at this
  rw [this]; simp
/-- What came out, and what is held, of the characters' form. -/
theorem canon_parts {B cs A o : List Int} {s : S} (h : Come B cs s o A) : ∃ U V : List Int, (∀ x ∈ V, 0 < clf x) ∧ o = encAll U ∧ (∀ c ∈ U, valid c) ∧
    ((canon cs = V ∧ U = [] ∧ s.held.length = V.length) ∨ ∃ x, clf x = 0 ∧ canon cs = U ++ x :: V ∧ s.held.length = V.length + 1) := by
  have hsp : canon cs = order clf A ++ order clf s.held := h.inv.sp
  have hcv := canon_valid h.val
  have hU : ∀ c ∈ order clf A, valid c := fun c hc => hcv c (by rw [hsp]; exact List.mem_append_left _ hc)
  cases hh : s.held with
  | nil =>
    have hA := h.inv.emp hh
    refine ⟨[], [], by simp, ?_, by simp, .inl ⟨?_, rfl, ?_⟩⟩
    · rw [h.inv.out, hA]; rfl
    · rw [hsp, hA, hh]; rfl
    · rfl
  | cons x r =>
    have ht : ∀ y ∈ r, 0 < clf y := fun y hy => h.inv.tail y (by rw [hh]; exact hy)
    by_cases hx : clf x = 0
    · obtain ⟨q, q1, q2⟩ := order_head hx r
      refine ⟨order clf A, q, fun y hy => ht y (q2.mem_iff.1 hy), h.inv.out, hU, .inr ⟨x, hx, ?_, ?_⟩⟩
      · rw [hsp, hh, q1]
      · rw [List.length_cons, q2.length_eq]
    · have hA : A = [] := Decidable.byContradiction fun e => by
        obtain ⟨y, z, h1, h2⟩ := h.inv.head e
        rw [hh] at h1
        exact hx ((List.cons.inj h1).1 ▸ h2)
      have hx0 := (clf_range x).1
      have hp := order_perm clf (x :: r)
      refine ⟨[], order clf (x :: r), fun y hy => ?_, ?_, by simp, .inl ⟨?_, rfl, ?_⟩⟩
      · rcases List.mem_cons.1 (hp.mem_iff.1 hy) with rfl | q
        · omega
        · exact ht y q
      · rw [h.inv.out, hA]; rfl
      · rw [hsp, hA, hh]; rfl
      · rw [hp.length_eq]
theorem read_any (s : ByteArray) (h : s.size ≤ 100000) : ∃ k, incipitref1_Read.f k s = some (told [] (bnums s)) := ⟨s.size + 20, rread_l s.size _ s [] (Nat.le_refl _) (by simp; omega) (Nat.le_refl _)⟩
theorem chars_any (l : List Int) (h : l.length ≤ 100000) : ∃ k, incipitref1_Chars.f k l = some (canon l) := by
  obtain ⟨k, hk⟩ := rchars_f l (by omega)
  exact ⟨k, hk k (Nat.le_refl _)⟩
theorem rclass_any (c : Int) : ∃ k, incipitref1_Class.f k c = some (clf c) := by
  obtain ⟨k, hk⟩ := rclass_f c
  exact ⟨k, hk k (Nat.le_refl _)⟩
theorem rwrite_any (l : List Int) (hv : ∀ c ∈ l, valid c) (h : l.length < 100000) : ∃ k, incipitref1_Write.f k l = some (strOfNums (encAll l), true) := by
  refine ⟨l.length + 1, ?_⟩
  rw [rwrite_f l (by omega) _ (by omega)]
  unfold wrote
  rw [if_pos hv, List.nil_append]
end Go.Proofs.Ytiplbhjllkfemaa.StP
