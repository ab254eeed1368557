/-
  The printed stable sort of marks, whole.
-/
import Derived.Test.YtiplbhjllkfemaaZNSort3
namespace Go.Proofs.Ytiplbhjllkfemaa.NSort
open Go.RowKit Go.Proofs.Ytiplbhjllkfemaa.MSt Go.Proofs.Ytiplbhjllkfemaa.NOrd

/-- Each block of n marks is in order. -/
def Blk (n : Nat) (x : List M) : Prop := ∀ p l v, x = p ++ l ++ v → n ∣ p.length → l.length ≤ n → Sorted c1 l
theorem Blk.nil (n : Nat) : Blk n [] := by
  intro p l v h _ _
  have : l = [] := by
    have := congrArg List.length h
    simp at this
    exact List.eq_nil_of_length_eq_zero (by omega)
  subst this; exact List.Pairwise.nil
theorem Blk.snoc {n : Nat} (_hn : 0 < n) {u s : List M} (h : Blk n u) (hu : n ∣ u.length) (hs : Sorted c1 s) : Blk n (u ++ s) := by
  intro p l v e hp hl
  rw [List.append_assoc] at e
  rcases List.append_eq_append_iff.1 e.symm with ⟨a', e1, e2⟩ | ⟨a', e1, e2⟩
  · -- u = p ++ a', l ++ v = a' ++ s
    rcases List.append_eq_append_iff.1 e2 with ⟨b', e3, e4⟩ | ⟨b', e3, e4⟩
    · exact h p l b' (by rw [e1, e3, List.append_assoc]) hp hl
    · -- l = a' ++ b', s = b' ++ v
      by_cases hb : b' = []
      · subst hb; rw [List.append_nil] at e3
        exact h p l [] (by rw [e1, e3, List.append_nil]) hp hl
      · by_cases ha : a' = []
        · subst ha
          rw [List.nil_append] at e3
          subst e3
          rw [e4] at hs; exact (List.pairwise_append.1 hs).1
        · exfalso
          have hb' := List.length_pos_iff.2 hb
          have ha' := List.length_pos_iff.2 ha
          have h1 := congrArg List.length e1
          have h3 := congrArg List.length e3
          simp only [List.length_append] at h1 h3
          have hd : n ∣ a'.length := (Nat.dvd_add_right hp).1 (h1 ▸ hu)
          have := Nat.le_of_dvd ha' hd
          omega
  · -- p = u ++ a', s = a' ++ (l ++ v)
    rw [e2] at hs
    exact (List.pairwise_append.1 (List.pairwise_append.1 hs).2.1).1
theorem Blk.right {n : Nat} {u s : List M} (h : Blk n (u ++ s)) (hu : n ∣ u.length) : Blk n s := by
  intro p l v e hp hl
  exact h (u ++ p) l v (by rw [e]; simp) (by rw [List.length_append]; exact Nat.dvd_add hu hp) hl

theorem blocks_l0 (n : Int) : ∀ (k : Nat) (rest u : List M) (a b : Int), rest.length = k → a = u.length → b = a + 20 → n = a + rest.length → Small (u ++ rest) → n ≤ 1000000000000000000 → 20 ∣ u.length → Blk 20 u →
    ∃ z, Rel c1 (u ++ rest) z ∧ Blk 20 z ∧ ∀ r, Evr (fun k => slices_stableCmpFunc_norm_mark.l1 k z n 20) r → Evr (fun k => slices_stableCmpFunc_norm_mark.l0 k (u ++ rest) n 20 a b) r := by
  intro k
  induction k using Nat.strongRecOn with
  | _ k ih =>
  intro rest u a b hk ha hb hn hs hl hd hB
  by_cases hc : b ≤ n
  · obtain ⟨l, v, rfl, hl1⟩ := cut_at rest 20 (by omega)
    simp only [List.length_append, Int.natCast_add] at hn hk
    obtain ⟨s', q1, q2, q3⟩ := ins_f u l v a b ha (by omega) (fun y hy => hs y (by simp [hy])) (by simp; omega)
    have ql := q1.length
    have hs' : Small (u ++ s' ++ v) := hs.perm (by
      have := (q1.around u v).perm
      simpa using this)
    obtain ⟨z, z1, z2, z3⟩ := ih v.length (by omega) v (u ++ s') b (b + 20) rfl (by simp; omega) rfl (by omega) (by simpa using hs') hl (by rw [List.length_append]; omega) (hB.snoc (by omega) hd q2)
    refine ⟨z, ?_, z2, fun r hr => ?_⟩
    · have := (q1.around u v).trans (by simpa using z1)
      simpa using this
    · have e : u ++ (l ++ v) = u ++ l ++ v := by simp
      refine Evr.succ (h := fun k => (slices_insertionSortCmpFunc_norm_mark.f k (u ++ l ++ v) a b).bind fun t => slices_stableCmpFunc_norm_mark.l0 k t n 20 b (b + 20)) (fun k => ?_) (Evr.bind q3 (z3 r hr))
      rw [slices_stableCmpFunc_norm_mark.l0, if_pos hc, e, w64 (x := b + 20) (by omega) (by omega)]
  · obtain ⟨s', q1, q2, q3⟩ := ins_f u rest [] a n ha hn (fun y hy => hs y (by simp [hy])) (by simp; omega)
    simp only [List.append_nil] at q3
    refine ⟨u ++ s', by simpa using q1.around u [], hB.snoc (by omega) hd q2, fun r hr => ?_⟩
    refine Evr.succ (h := fun k => (slices_insertionSortCmpFunc_norm_mark.f k (u ++ rest) a n).bind fun t => slices_stableCmpFunc_norm_mark.l1 k t n 20) (fun k => ?_) (Evr.bind q3 hr)
    rw [slices_stableCmpFunc_norm_mark.l0, if_neg hc]

theorem merges_l2 (n : Int) (bs : Nat) (hbs : 0 < bs) (hbn : (bs : Int) < n) : ∀ (k : Nat) (rest u : List M) (a b : Int), rest.length = k → a = u.length → b = a + 2 * bs → n = a + rest.length → Small (u ++ rest) → n ≤ 1000000000000000000 → 2 * bs ∣ u.length → Blk (2 * bs) u → Blk bs rest →
    ∃ z, Rel c1 (u ++ rest) z ∧ Blk (2 * bs) z ∧ ∀ r, Evr (fun k => slices_stableCmpFunc_norm_mark.l1 k z n (2 * bs)) r → Evr (fun k => slices_stableCmpFunc_norm_mark.l2 k (u ++ rest) n bs a b) r := by
  intro k
  induction k using Nat.strongRecOn with
  | _ k ih =>
  intro rest u a b hk ha hb hn hs hl hd hB hR
  have hz : (0 : Nat) % bs = 0 := Nat.zero_mod bs
  by_cases hc : b ≤ n
  · obtain ⟨l, v0, rfl, hl1⟩ := cut_at rest bs (by omega)
    simp only [List.length_append, Int.natCast_add] at hn hk
    obtain ⟨m, v, rfl, hm1⟩ := cut_at v0 bs (by omega)
    simp only [List.length_append, Int.natCast_add] at hn hk
    have so1 : Sorted c1 l := hR [] l (m ++ v) (by simp) (by simp) (by omega)
    have so2 : Sorted c1 m := hR l m v (by simp) (by rw [hl1]; exact Nat.dvd_refl _) (by omega)
    obtain ⟨s', q1, q2, q3⟩ := sym_f _ u l m v a (a + bs) b rfl ha (by omega) (by omega) (by omega) (by omega) (fun y hy => hs y (by simp at hy ⊢; rcases hy with h | h <;> simp [h])) (by simp; omega) so1 so2
    have ql := q1.length
    simp only [List.length_append] at ql
    have hs' : Small (u ++ s' ++ v) := hs.perm (by
      have := (q1.around u v).perm
      simpa using this)
    obtain ⟨z, z1, z2, z3⟩ := ih v.length (by omega) v (u ++ s') b (b + 2 * bs) rfl (by simp; omega) rfl (by omega) (by simpa using hs') hl (by rw [List.length_append]; exact Nat.dvd_add hd (by rw [← ql, hl1, hm1, Nat.two_mul]; exact Nat.dvd_refl _)) (hB.snoc (by omega) hd q2) ((hR.right (u := l) (by rw [hl1]; exact Nat.dvd_refl _)).right (by rw [hm1]; exact Nat.dvd_refl _))
    refine ⟨z, ?_, z2, fun r hr => ?_⟩
    · have := (q1.around u v).trans (by simpa using z1)
      simpa using this
    · have e : u ++ (l ++ (m ++ v)) = u ++ (l ++ m) ++ v := by simp
      refine Evr.succ (h := fun k => (slices_symMergeCmpFunc_norm_mark.f k (u ++ (l ++ m) ++ v) a (a + bs) b).bind fun t => slices_stableCmpFunc_norm_mark.l2 k t n bs b (b + 2 * bs)) (fun k => ?_) (Evr.bind q3 (z3 r hr))
      rw [slices_stableCmpFunc_norm_mark.l2, if_pos hc, e, w64 (x := a + bs) (by omega) (by omega), w64 (x := 2 * (bs : Int)) (by omega) (by omega), w64 (x := b + 2 * bs) (by omega) (by omega)]
  · by_cases hm : a + bs < n
    · obtain ⟨l, m, rfl, hl1⟩ := cut_at rest bs (by omega)
      simp only [List.length_append, Int.natCast_add] at hn hk
      have so1 : Sorted c1 l := hR [] l m (by simp) (by simp) (by omega)
      have so2 : Sorted c1 m := hR l m [] (by simp) (by rw [hl1]; exact Nat.dvd_refl _) (by omega)
      obtain ⟨s', q1, q2, q3⟩ := sym_f _ u l m [] a (a + bs) n rfl ha (by omega) (by omega) (by omega) (by omega) (fun y hy => hs y (by simp at hy ⊢; rcases hy with h | h <;> simp [h])) (by simp; omega) so1 so2
      simp only [List.append_nil] at q3
      refine ⟨u ++ s', by simpa using q1.around u [], hB.snoc (by omega) hd q2, fun r hr => ?_⟩
      refine Evr.succ (h := fun k => (slices_symMergeCmpFunc_norm_mark.f k (u ++ (l ++ m)) a (a + bs) n).bind fun t => slices_stableCmpFunc_norm_mark.l1 k t n (2 * bs)) (fun k => ?_) (Evr.bind q3 hr)
      rw [slices_stableCmpFunc_norm_mark.l2, if_neg hc, w64 (x := a + bs) (by omega) (by omega), if_pos hm, w64 (x := (bs : Int) * 2) (by omega) (by omega), Int.mul_comm]
    · have so1 : Sorted c1 rest := hR [] rest [] (by simp) (by simp) (by omega)
      refine ⟨u ++ rest, .refl _, hB.snoc (by omega) hd so1, fun r hr => ?_⟩
      refine Evr.succ (fun k => ?_) hr
      rw [slices_stableCmpFunc_norm_mark.l2, if_neg hc, w64 (x := a + bs) (by omega) (by omega), if_neg hm, w64 (x := (bs : Int) * 2) (by omega) (by omega), Int.mul_comm]

theorem all_l1 (n : Int) : ∀ (d : Nat) (x : List M) (bs : Nat), (n - bs).toNat = d → n = x.length → 0 < bs → Small x → n ≤ 1000000000000000000 → Blk bs x →
    ∃ z, Rel c1 x z ∧ Sorted c1 z ∧ Evr (fun k => slices_stableCmpFunc_norm_mark.l1 k x n bs) z := by
  intro d
  induction d using Nat.strongRecOn with
  | _ d ih =>
  intro x bs hd hn hbs hs hl hB
  by_cases hc : (bs : Int) < n
  · obtain ⟨z, z1, z2, z3⟩ := merges_l2 n bs hbs hc x.length x [] 0 (2 * bs) rfl rfl (by omega) (by omega) hs hl (by simp) (Blk.nil _) hB
    rw [List.nil_append] at z1 z3
    obtain ⟨y, y1, y2, y3⟩ := ih (n - (2 * bs : Nat)).toNat (by omega) z (2 * bs) rfl (by rw [← z1.length]; exact hn) (by omega) (hs.perm z1.perm) hl z2
    refine ⟨y, z1.trans y1, y2, ?_⟩
    refine Evr.succ (fun k => ?_) (z3 y (by simpa using y3))
    rw [slices_stableCmpFunc_norm_mark.l1, if_pos hc, w64 (x := 2 * (bs : Int)) (by omega) (by omega)]
  · refine ⟨x, .refl _, hB [] x [] (by simp) (by simp) (by omega), ?_⟩
    refine Evr.succ (h := fun _ => some x) (fun k => ?_) (Evr.of fun _ => rfl)
    rw [slices_stableCmpFunc_norm_mark.l1, if_neg hc]

theorem sort_f (x : List M) (hs : Small x) (hl : (x.length : Int) ≤ 1000000000000000000) : ∃ z, Rel c1 x z ∧ Sorted c1 z ∧ Evr (fun k => slices_SortStableFunc_norm_mark.f k x) z := by
  obtain ⟨z, z1, z2, z3⟩ := blocks_l0 x.length x.length x [] 0 20 rfl rfl rfl (by omega) hs hl (by simp) (Blk.nil _)
  rw [List.nil_append] at z1 z3
  obtain ⟨y, y1, y2, y3⟩ := all_l1 x.length _ z 20 rfl (by rw [z1.length]) (by omega) (hs.perm z1.perm) hl z2
  refine ⟨y, z1.trans y1, y2, ?_⟩
  have h := z3 y y3
  refine Evr.congr (fun k => ?_) (Evr.bind (B := fun _ t => some t) h (Evr.of fun _ => rfl))
  rfl
end Go.Proofs.Ytiplbhjllkfemaa.NSort
