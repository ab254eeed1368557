/-
  The printed symmetric merge, and the whole stable sort, of marks.
-/
import Derived.Test.YtiplbhjllkfemaaZNSort
namespace Go.Proofs.Ytiplbhjllkfemaa.NSort
open Go.RowKit Go.Proofs.Ytiplbhjllkfemaa.MSt Go.Proofs.Ytiplbhjllkfemaa.NOrd

theorem len_le {x : List M} {n : Nat} (h : x.length = n) : (x.length : Int) = n := by omega
/-- Lists in two parts. -/
theorem cut_at (l : List M) (n : Nat) (h : n ≤ l.length) : ∃ p q, l = p ++ q ∧ p.length = n := ⟨l.take n, l.drop n, (List.take_append_drop _ _).symm, by rw [List.length_take]; omega⟩
theorem rd_in (u l v : List M) {i : Int} (h0 : u.length ≤ i) (h1 : i < u.length + l.length) : ∃ p c q, l = p ++ c :: q ∧ i = u.length + p.length ∧ rd_T94 (u ++ l ++ v) i = c := by
  obtain ⟨p, q, rfl, hp⟩ := cut_at l (i - u.length).toNat (by omega)
  cases q with
  | nil => simp at h1; omega
  | cons c q =>
    refine ⟨p, c, q, rfl, by omega, ?_⟩
    have e : u ++ (p ++ c :: q) ++ v = (u ++ p) ++ c :: (q ++ v) := by simp
    rw [e]; exact rd_mid _ _ _ (by simp; omega)

/-- One mark that goes down behind those that are before it: 'for k := a; k < i-1; k++'. -/
theorem down_l1 (i : Int) : ∀ (q : List M) (c : M) (u v : List M) (k0 : Int), k0 = u.length → i - 1 = u.length + q.length →
    ((u ++ c :: q ++ v).length : Int) ≤ 4000000000000000000 → Evr (fun k => slices_symMergeCmpFunc_norm_mark.l1 k (u ++ c :: q ++ v) i k0) (u ++ q ++ c :: v) := by
  intro q
  induction q with
  | nil =>
    intro c u v k0 h1 h2 hl
    have hlen : ((u ++ c :: [] ++ v).length : Int) = u.length + 1 + v.length := by simp; omega
    refine Evr.succ (h := fun _ => some (u ++ [] ++ c :: v)) (fun k => ?_) (Evr.of fun _ => rfl)
    simp only [List.length_nil] at h2
    rw [slices_symMergeCmpFunc_norm_mark.l1, w64 (x := i - 1) (by omega) (by omega), if_neg (by omega)]
    simp
  | cons d q ih =>
    intro c u v k0 h1 h2 hl
    have hlen : ((u ++ c :: (d :: q) ++ v).length : Int) = u.length + 2 + q.length + v.length := by simp; omega
    rw [hlen] at hl
    simp only [List.length_cons, Int.natCast_succ] at h2
    have e1 : u ++ c :: (d :: q) ++ v = u ++ c :: (d :: q ++ v) := by simp
    have e2 : u ++ c :: (d :: q) ++ v = (u ++ [c]) ++ d :: (q ++ v) := by simp
    have r1 : rd_T94 (u ++ c :: (d :: q) ++ v) k0 = c := by rw [e1]; exact rd_mid _ _ _ h1
    have r2 : rd_T94 (u ++ c :: (d :: q) ++ v) (k0 + 1) = d := by rw [e2]; exact rd_mid _ _ _ (by rw [h1]; simp)
    have e3 : ((u ++ c :: (d :: q) ++ v).set k0.toNat d).set (k0 + 1).toNat c = (u ++ [d]) ++ c :: q ++ v := by
      rw [e1, set_mid _ _ _ _ h1]
      have : u ++ d :: (d :: q ++ v) = (u ++ [d]) ++ d :: (q ++ v) := by simp
      rw [this, set_mid _ _ _ _ (by rw [h1]; simp)]
      simp
    have hr := ih c (u ++ [d]) v (k0 + 1) (by simp; omega) (by simp; omega) (by simp; omega)
    have e4 : u ++ [d] ++ q ++ c :: v = u ++ (d :: q) ++ c :: v := by simp
    rw [e4] at hr
    refine Evr.succ (fun k => ?_) hr
    rw [slices_symMergeCmpFunc_norm_mark.l1, w64 (x := i - 1) (by omega) (by omega), if_pos (by omega), w64 (x := k0 + 1) (by omega) (by omega), if_pos (by omega), if_pos (by rw [hlen]; omega), if_pos (by omega), if_pos (by rw [hlen]; omega), r1, r2, eta, eta, e3]

/-- One mark that goes up before those that are behind it: 'for k := m; k > i; k--'. -/
theorem up_l3 (i : Int) : ∀ (n : Nat) (q : List M), q.length = n → ∀ (c : M) (u v : List M) (k0 : Int), i = u.length → k0 = u.length + q.length →
    ((u ++ q ++ c :: v).length : Int) ≤ 4000000000000000000 → Evr (fun k => slices_symMergeCmpFunc_norm_mark.l3 k (u ++ q ++ c :: v) i k0) (u ++ c :: q ++ v) := by
  intro n
  induction n with
  | zero =>
    intro q hq c u v k0 h1 h2 hl
    obtain rfl := List.eq_nil_of_length_eq_zero hq
    refine Evr.succ (h := fun _ => some (u ++ c :: [] ++ v)) (fun k => ?_) (Evr.of fun _ => rfl)
    simp only [List.length_nil] at h2
    rw [slices_symMergeCmpFunc_norm_mark.l3, if_neg (by omega)]
    simp
  | succ n ih =>
    intro q hq c u v k0 h1 h2 hl
    obtain ⟨q, d, rfl⟩ : ∃ q' d, q = q' ++ [d] := ⟨q.dropLast, q.getLast (by intro e; subst e; simp at hq), (List.dropLast_concat_getLast _).symm⟩
    have hq' : q.length = n := by simpa using hq
    have hlen : ((u ++ (q ++ [d]) ++ c :: v).length : Int) = u.length + 2 + q.length + v.length := by simp; omega
    rw [hlen] at hl
    have h2' : k0 = u.length + q.length + 1 := by rw [h2]; simp; omega
    have e1 : u ++ (q ++ [d]) ++ c :: v = (u ++ q ++ [d]) ++ c :: v := by simp
    have e2 : u ++ (q ++ [d]) ++ c :: v = (u ++ q) ++ d :: (c :: v) := by simp
    have r1 : rd_T94 (u ++ (q ++ [d]) ++ c :: v) k0 = c := by rw [e1]; exact rd_mid _ _ _ (by rw [h2']; simp; omega)
    have r2 : rd_T94 (u ++ (q ++ [d]) ++ c :: v) (k0 - 1) = d := by rw [e2]; exact rd_mid _ _ _ (by rw [h2']; simp)
    have e3 : ((u ++ (q ++ [d]) ++ c :: v).set k0.toNat d).set (k0 - 1).toNat c = u ++ q ++ c :: (d :: v) := by
      rw [e1, set_mid _ _ _ _ (by rw [h2']; simp; omega)]
      have : u ++ q ++ [d] ++ d :: v = (u ++ q) ++ d :: (d :: v) := by simp
      rw [this, set_mid _ _ _ _ (by rw [h2']; simp)]
    have hr := ih q hq' c u (d :: v) (k0 - 1) h1 (by omega) (by simp; omega)
    have e4 : u ++ c :: q ++ d :: v = u ++ c :: (q ++ [d]) ++ v := by simp
    rw [e4] at hr
    refine Evr.succ (fun k => ?_) hr
    rw [slices_symMergeCmpFunc_norm_mark.l3, if_pos (by omega), w64 (x := k0 - 1) (by omega) (by omega), if_pos (by omega), if_pos (by rw [hlen]; omega), if_pos (by omega), if_pos (by rw [hlen]; omega), r1, r2, eta, eta, e3]

theorem small_rd {x : List M} (hs : Small x) {i : Int} (h0 : 0 ≤ i) (h1 : i < x.length) : 0 ≤ (rd_T94 x i).f1 ∧ (rd_T94 x i).f1 < 1000 := by
  unfold rd_T94
  rw [List.getD_eq_getElem?_getD, List.getElem?_eq_getElem (by omega), Option.getD_some]
  exact hs _ (List.getElem_mem _)

/-- A search by halves: where it ends, P held before, and does not hold there. -/
theorem search {R : Type} (P : Int → Prop) [DecidablePred P] (S : Nat → Int → Int → Option R) (D : Nat → Int → Option R) (lo hi : Int)
    (hstep : ∀ k i j, lo ≤ i → i < j → j ≤ hi → S (k + 1) i j = if P ((i + j) / 2) then S k ((i + j) / 2 + 1) j else S k i ((i + j) / 2)) (hend : ∀ k i, lo ≤ i → i ≤ hi → S (k + 1) i i = D k i) :
    ∀ (n : Nat) (i j : Int), (j - i).toNat = n → lo ≤ i → i ≤ j → j ≤ hi → (i = lo ∨ P (i - 1)) → (j = hi ∨ ¬ P j) →
      ∃ s, lo ≤ s ∧ s ≤ hi ∧ (s = lo ∨ P (s - 1)) ∧ (s = hi ∨ ¬ P s) ∧ ∀ r, Evr (fun k => D k s) r → Evr (fun k => S k i j) r := by
  intro n
  induction n using Nat.strongRecOn with
  | _ n ih =>
  intro i j hn hi0 hij hj0 h1 h2
  by_cases e : i = j
  · subst e
    exact ⟨i, hi0, hj0, h1, h2, fun r hr => Evr.succ (fun k => hend k i hi0 hj0) hr⟩
  · by_cases hp : P ((i + j) / 2)
    · obtain ⟨s, a1, a2, a3, a4, a5⟩ := ih (j - ((i + j) / 2 + 1)).toNat (by omega) ((i + j) / 2 + 1) j rfl (by omega) (by omega) hj0 (.inr (by rw [show (i + j) / 2 + 1 - 1 = (i + j) / 2 by omega]; exact hp)) h2
      exact ⟨s, a1, a2, a3, a4, fun r hr => Evr.succ (fun k => by rw [hstep k i j hi0 (by omega) hj0, if_pos hp]) (a5 r hr)⟩
    · obtain ⟨s, a1, a2, a3, a4, a5⟩ := ih ((i + j) / 2 - i).toNat (by omega) i ((i + j) / 2) rfl hi0 (by omega) (by omega) h1 (.inr hp)
      exact ⟨s, a1, a2, a3, a4, fun r hr => Evr.succ (fun k => by rw [hstep k i j hi0 (by omega) hj0, if_neg hp]) (a5 r hr)⟩

theorem last_of {l : List M} (h : l ≠ []) : ∃ l' d, l = l' ++ [d] := ⟨l.dropLast, l.getLast h, (List.dropLast_concat_getLast _).symm⟩
theorem head_of {l : List M} (h : l ≠ []) : ∃ d l', l = d :: l' := by
  cases l with
  | nil => exact absurd rfl h
  | cons d l' => exact ⟨d, l', rfl⟩
theorem sle_last {l : List M} {d : M} (h : Sorted c1 (l ++ [d])) : ∀ x ∈ l ++ [d], x.f1 ≤ d.f1 := by
  intro x hx
  rcases List.mem_append.1 hx with hx | hx
  · exact (List.pairwise_append.1 h).2.2 x hx d (by simp)
  · rw [List.mem_singleton.1 hx]; exact Int.le_refl _
theorem sge_head {l : List M} {d : M} (h : Sorted c1 (d :: l)) : ∀ x ∈ d :: l, d.f1 ≤ x.f1 := by
  intro x hx
  rcases List.mem_cons.1 hx with rfl | hx
  · exact Int.le_refl _
  · exact List.rel_of_pairwise_cons h hx
theorem sleft {l m : List M} (h : Sorted c1 (l ++ m)) : Sorted c1 l := (List.pairwise_append.1 h).1
theorem sright {l m : List M} (h : Sorted c1 (l ++ m)) : Sorted c1 m := (List.pairwise_append.1 h).2.1
theorem sacross {l m : List M} (h : Sorted c1 (l ++ m)) : ∀ x ∈ l, ∀ y ∈ m, x.f1 ≤ y.f1 := (List.pairwise_append.1 h).2.2

/-- One mark ahead of a row. -/
theorem sym_one (u r v : List M) (c : M) (a m b : Int) (h1 : a = u.length) (h2 : m = a + 1) (h3 : b = m + r.length) (hs : Small (c :: r)) (hl : ((u ++ (c :: r) ++ v).length : Int) ≤ 4000000000000000000) (hr : Sorted c1 r) :
    ∃ z, Rel c1 (c :: r) z ∧ Sorted c1 z ∧ Evr (fun k => slices_symMergeCmpFunc_norm_mark.l0 k (u ++ (c :: r) ++ v) a m b) (u ++ z ++ v) := by
  have hlen : ((u ++ (c :: r) ++ v).length : Int) = u.length + 1 + r.length + v.length := by simp; omega
  rw [hlen] at hl
  have ex : u ++ (c :: r) ++ v = u ++ c :: (r ++ v) := by simp
  have rc : rd_T94 (u ++ (c :: r) ++ v) a = c := by rw [ex]; exact rd_mid _ _ _ h1
  have hrd : ∀ t, m ≤ t → t < b → 0 ≤ (rd_T94 (u ++ (c :: r) ++ v) t).f1 ∧ (rd_T94 (u ++ (c :: r) ++ v) t).f1 < 1000 := by
    intro t t0 t1
    obtain ⟨p, d, q, e, _, e2⟩ := rd_in (u ++ [c]) r v (i := t) (by simp; omega) (by simp; omega)
    have e3 : u ++ [c] ++ r ++ v = u ++ (c :: r) ++ v := by simp
    rw [e3] at e2
    rw [e2]
    exact hs d (by rw [e]; simp)
  obtain ⟨s, s0, s1, s2, s3, s4⟩ := search (fun t => (rd_T94 (u ++ (c :: r) ++ v) t).f1 < c.f1) (fun k i j => slices_symMergeCmpFunc_norm_mark.l0 k (u ++ (c :: r) ++ v) a i j) (fun k i => slices_symMergeCmpFunc_norm_mark.l1 k (u ++ (c :: r) ++ v) i a) m b
    (by
      intro k i j i0 ij j0
      show slices_symMergeCmpFunc_norm_mark.l0 (k + 1) (u ++ (c :: r) ++ v) a i j = _
      rw [slices_symMergeCmpFunc_norm_mark.l0, if_pos ij, half (by omega) (by omega) (by omega), if_pos (by omega), if_pos (by rw [hlen]; omega), if_pos (by omega), if_pos (by rw [hlen]; omega), rc, cmp_f (hrd _ (by omega) (by omega)) (hs c (by simp)), Option.bind_some, w64 (x := (i + j) / 2 + 1) (by omega) (by omega)]
      by_cases hlt : (rd_T94 (u ++ (c :: r) ++ v) ((i + j) / 2)).f1 < c.f1
      · rw [if_pos (by omega), if_pos hlt]
      · rw [if_neg (by omega), if_neg hlt])
    (by
      intro k i i0 i1
      show slices_symMergeCmpFunc_norm_mark.l0 (k + 1) (u ++ (c :: r) ++ v) a i i = _
      rw [slices_symMergeCmpFunc_norm_mark.l0, if_neg (by omega)])
    (b - m).toNat m b rfl (by omega) (by omega) (by omega) (.inl rfl) (.inl rfl)
  obtain ⟨r1, r2, rfl, hr1⟩ := cut_at r (s - m).toNat (by omega)
  simp only [List.length_append, Int.natCast_add] at h3 hl
  have b1 : ∀ y ∈ r1, y.f1 < c.f1 := by
    by_cases e : r1 = []
    · subst e; simp
    · obtain ⟨p, d, rfl⟩ := last_of e
      have hd : d.f1 < c.f1 := by
        rcases s2 with h | h
        · simp at hr1; omega
        · have e2 : u ++ (c :: (p ++ [d] ++ r2)) ++ v = (u ++ c :: p) ++ d :: (r2 ++ v) := by simp
          rwa [e2, rd_mid _ _ _ (by simp at hr1 ⊢; omega)] at h
      intro y hy
      have := sle_last (sleft hr) y hy
      omega
  have b2 : ∀ y ∈ r2, c.f1 ≤ y.f1 := by
    by_cases e : r2 = []
    · subst e; simp
    · obtain ⟨d, p, rfl⟩ := head_of e
      have hd : c.f1 ≤ d.f1 := by
        rcases s3 with h | h
        · simp at h3; omega
        · have e2 : u ++ (c :: (r1 ++ d :: p)) ++ v = (u ++ c :: r1) ++ d :: (p ++ v) := by simp
          rw [e2, rd_mid _ _ _ (by simp at hr1 ⊢; omega)] at h
          omega
      intro y hy
      have := sge_head (sright hr) y hy
      omega
  refine ⟨r1 ++ c :: r2, ?_, ?_, s4 _ ?_⟩
  · have := (Rel.over (cl := c1) c r1 b1).around [] r2
    simpa using this
  · refine Sorted.append (sleft hr) (List.pairwise_cons.2 ⟨b2, (sright hr)⟩) ?_
    intro x hx y hy
    have hx' := b1 x hx
    rcases List.mem_cons.1 hy with rfl | hy
    · show x.f1 ≤ y.f1; omega
    · have := b2 y hy; show x.f1 ≤ y.f1; omega
  · have := down_l1 s r1 c u (r2 ++ v) a h1 (by omega) (by simp; omega)
    simpa using this

/-- One mark behind a row. -/
theorem sym_last (u l v : List M) (c : M) (a m : Int) (h1 : a = u.length) (h2 : m = a + l.length) (hs : Small (l ++ [c])) (hl : ((u ++ (l ++ [c]) ++ v).length : Int) ≤ 4000000000000000000) (hr : Sorted c1 l) :
    ∃ z, Rel c1 (l ++ [c]) z ∧ Sorted c1 z ∧ Evr (fun k => slices_symMergeCmpFunc_norm_mark.l2 k (u ++ (l ++ [c]) ++ v) m a m) (u ++ z ++ v) := by
  have hlen : ((u ++ (l ++ [c]) ++ v).length : Int) = u.length + 1 + l.length + v.length := by simp; omega
  rw [hlen] at hl
  have ex : u ++ (l ++ [c]) ++ v = (u ++ l) ++ c :: v := by simp
  have rc : rd_T94 (u ++ (l ++ [c]) ++ v) m = c := by rw [ex]; exact rd_mid _ _ _ (by simp; omega)
  have hrd : ∀ t, a ≤ t → t < m → 0 ≤ (rd_T94 (u ++ (l ++ [c]) ++ v) t).f1 ∧ (rd_T94 (u ++ (l ++ [c]) ++ v) t).f1 < 1000 := by
    intro t t0 t1
    obtain ⟨p, d, q, e, _, e2⟩ := rd_in u l ([c] ++ v) (i := t) (by omega) (by omega)
    have e3 : u ++ l ++ ([c] ++ v) = u ++ (l ++ [c]) ++ v := by simp
    rw [e3] at e2
    rw [e2]
    exact hs d (by rw [e]; simp)
  obtain ⟨s, s0, s1, s2, s3, s4⟩ := search (fun t => ¬ c.f1 < (rd_T94 (u ++ (l ++ [c]) ++ v) t).f1) (fun k i j => slices_symMergeCmpFunc_norm_mark.l2 k (u ++ (l ++ [c]) ++ v) m i j) (fun k i => slices_symMergeCmpFunc_norm_mark.l3 k (u ++ (l ++ [c]) ++ v) i m) a m
    (by
      intro k i j i0 ij j0
      show slices_symMergeCmpFunc_norm_mark.l2 (k + 1) (u ++ (l ++ [c]) ++ v) m i j = _
      rw [slices_symMergeCmpFunc_norm_mark.l2, if_pos ij, half (by omega) (by omega) (by omega), if_pos (by omega), if_pos (by rw [hlen]; omega), if_pos (by omega), if_pos (by rw [hlen]; omega), rc, cmp_f (hs c (by simp)) (hrd _ (by omega) (by omega)), Option.bind_some, w64 (x := (i + j) / 2 + 1) (by omega) (by omega)]
      by_cases hlt : c.f1 < (rd_T94 (u ++ (l ++ [c]) ++ v) ((i + j) / 2)).f1
      · rw [if_pos (by omega), if_neg (by simpa using hlt)]
      · rw [if_neg (by omega), if_pos hlt])
    (by
      intro k i i0 i1
      show slices_symMergeCmpFunc_norm_mark.l2 (k + 1) (u ++ (l ++ [c]) ++ v) m i i = _
      rw [slices_symMergeCmpFunc_norm_mark.l2, if_neg (by omega)])
    (m - a).toNat a m rfl (by omega) (by omega) (by omega) (.inl rfl) (.inl rfl)
  obtain ⟨r1, r2, rfl, hr1⟩ := cut_at l (s - a).toNat (by omega)
  simp only [List.length_append, Int.natCast_add] at h2 hl
  have b1 : ∀ y ∈ r1, y.f1 ≤ c.f1 := by
    by_cases e : r1 = []
    · subst e; simp
    · obtain ⟨p, d, rfl⟩ := last_of e
      have hd : d.f1 ≤ c.f1 := by
        rcases s2 with h | h
        · simp at hr1; omega
        · have e2 : u ++ (p ++ [d] ++ r2 ++ [c]) ++ v = (u ++ p) ++ d :: (r2 ++ [c] ++ v) := by simp
          rw [e2, rd_mid _ _ _ (by simp at hr1 ⊢; omega)] at h
          omega
      intro y hy
      have := sle_last (sleft hr) y hy
      omega
  have b2 : ∀ y ∈ r2, c.f1 < y.f1 := by
    by_cases e : r2 = []
    · subst e; simp
    · obtain ⟨d, p, rfl⟩ := head_of e
      have hd : c.f1 < d.f1 := by
        rcases s3 with h | h
        · simp at h2; omega
        · have e2 : u ++ (r1 ++ d :: p ++ [c]) ++ v = (u ++ r1) ++ d :: (p ++ [c] ++ v) := by simp
          rw [e2, rd_mid _ _ _ (by simp at hr1 ⊢; omega)] at h
          omega
      intro y hy
      have := sge_head (sright hr) y hy
      omega
  refine ⟨r1 ++ c :: r2, ?_, ?_, s4 _ ?_⟩
  · have := (Rel.past (cl := c1) r2 [c] (by intro x hx y hy; rw [List.mem_singleton.1 hy]; exact b2 x hx)).around r1 []
    simpa using this
  · refine Sorted.append (sleft hr) (List.pairwise_cons.2 ⟨fun y hy => by have := b2 y hy; show c.f1 ≤ y.f1; omega, (sright hr)⟩) ?_
    intro x hx y hy
    have hx' := b1 x hx
    rcases List.mem_cons.1 hy with rfl | hy
    · exact hx'
    · have := b2 y hy; show x.f1 ≤ y.f1; omega
  · have := up_l3 s _ r2 rfl c (u ++ r1) v m (by simp; omega) (by simp; omega) (by simp; omega)
    simpa using this
end Go.Proofs.Ytiplbhjllkfemaa.NSort
