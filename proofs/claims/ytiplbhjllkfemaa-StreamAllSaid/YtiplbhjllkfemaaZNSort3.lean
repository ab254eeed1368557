/-
  The printed symmetric merge of marks, and the whole stable sort.
-/
import Derived.Test.YtiplbhjllkfemaaZNSort2
namespace Go.Proofs.Ytiplbhjllkfemaa.NSort
open Go.RowKit Go.Proofs.Ytiplbhjllkfemaa.MSt Go.Proofs.Ytiplbhjllkfemaa.NOrd

/-- What symMerge does of two rows in order. -/
def Merges (u l r v : List M) (a m b : Int) : Prop := ∃ z, Rel c1 (l ++ r) z ∧ Sorted c1 z ∧ Evr (fun k => slices_symMergeCmpFunc_norm_mark.f k (u ++ (l ++ r) ++ v) a m b) (u ++ z ++ v)

/-- Behind the search: the middle parts change their places, and either half is merged. -/
theorem sym_tail (u l1 l2 r1 r2 v : List M) (a m b mid s e : Int) (h1 : a = u.length) (h2 : s = a + l1.length) (h3 : m = s + l2.length) (h4 : e = m + r1.length) (h5 : b = e + r2.length) (h6 : mid = s + r1.length)
    (hl : ((u ++ (l1 ++ l2 ++ (r1 ++ r2)) ++ v).length : Int) ≤ 4000000000000000000) (hL : Sorted c1 (l1 ++ l2)) (hR : Sorted c1 (r1 ++ r2)) (hx : ∀ x ∈ l2, ∀ y ∈ r1, y.f1 < x.f1) (hy : ∀ x ∈ l1, ∀ y ∈ r2, x.f1 ≤ y.f1)
    (ih1 : l1 ≠ [] → r1 ≠ [] → Merges u l1 r1 (l2 ++ r2 ++ v) a s mid) (ih2 : l2 ≠ [] → r2 ≠ [] → ∀ z1 : List M, z1.length = l1.length + r1.length → Merges (u ++ z1) l2 r2 v mid e b) (n : Int) (hn : n = e + s) :
    ∃ z, Rel c1 (l1 ++ l2 ++ (r1 ++ r2)) z ∧ Sorted c1 z ∧ Evr (fun k => if s < m then (slices_symMergeCmpFunc_norm_mark.j6 k (u ++ (l1 ++ l2 ++ (r1 ++ r2)) ++ v) a m b mid s (wrap64 (n - s)) (decide (m < (wrap64 (n - s))))) else (slices_symMergeCmpFunc_norm_mark.j6 k (u ++ (l1 ++ l2 ++ (r1 ++ r2)) ++ v) a m b mid s (wrap64 (n - s)) false)) (u ++ z ++ v) := by
  have hlen : ((u ++ (l1 ++ l2 ++ (r1 ++ r2)) ++ v).length : Int) = u.length + l1.length + l2.length + r1.length + r2.length + v.length := by simp; omega
  rw [hlen] at hl
  have en : wrap64 (n - s) = e := by rw [w64 (by omega) (by omega)]; omega
  rw [en]
  -- the left half
  obtain ⟨z1, q1, q2, q3⟩ : ∃ z1, Rel c1 (l1 ++ r1) z1 ∧ Sorted c1 z1 ∧ (if l1 ≠ [] ∧ r1 ≠ [] then Evr (fun k => slices_symMergeCmpFunc_norm_mark.f k (u ++ (l1 ++ r1) ++ (l2 ++ r2 ++ v)) a s mid) (u ++ z1 ++ (l2 ++ r2 ++ v)) else z1 = l1 ++ r1) := by
    by_cases hc : l1 ≠ [] ∧ r1 ≠ []
    · obtain ⟨z1, q1, q2, q3⟩ := ih1 hc.1 hc.2
      exact ⟨z1, q1, q2, by rw [if_pos hc]; exact q3⟩
    · refine ⟨l1 ++ r1, .refl _, ?_, by rw [if_neg hc]⟩
      by_cases e1 : l1 = []
      · subst e1; exact sleft hR
      · by_cases e2 : r1 = []
        · subst e2; rw [List.append_nil]; exact sleft hL
        · exact absurd ⟨e1, e2⟩ hc
  have ql : z1.length = l1.length + r1.length := by have := q1.length; simp at this; omega
  obtain ⟨z2, p1, p2, p3⟩ : ∃ z2, Rel c1 (l2 ++ r2) z2 ∧ Sorted c1 z2 ∧ (if l2 ≠ [] ∧ r2 ≠ [] then Evr (fun k => slices_symMergeCmpFunc_norm_mark.f k (u ++ z1 ++ (l2 ++ r2) ++ v) mid e b) (u ++ z1 ++ z2 ++ v) else z2 = l2 ++ r2) := by
    by_cases hc : l2 ≠ [] ∧ r2 ≠ []
    · obtain ⟨z1, q1, q2, q3⟩ := ih2 hc.1 hc.2 z1 ql
      exact ⟨z1, q1, q2, by rw [if_pos hc]; exact q3⟩
    · refine ⟨l2 ++ r2, .refl _, ?_, by rw [if_neg hc]⟩
      by_cases e1 : l2 = []
      · subst e1; exact sright hR
      · by_cases e2 : r2 = []
        · subst e2; rw [List.append_nil]; exact sright hL
        · exact absurd ⟨e1, e2⟩ hc
  refine ⟨z1 ++ z2, ?_, ?_, ?_⟩
  · have g1 := (Rel.past (cl := c1) l2 r1 hx).around l1 r2
    have e1 : l1 ++ (l2 ++ r1) ++ r2 = l1 ++ l2 ++ (r1 ++ r2) := by simp
    have e2 : l1 ++ (r1 ++ l2) ++ r2 = (l1 ++ r1) ++ (l2 ++ r2) := by simp
    rw [e1, e2] at g1
    exact g1.trans (q1.join p1)
  · refine Sorted.append q2 p2 ?_
    intro x hx1 y hy1
    have hx2 := q1.perm.mem_iff.2 hx1
    have hy2 := p1.perm.mem_iff.2 hy1
    rcases List.mem_append.1 hx2 with hx2 | hx2 <;> rcases List.mem_append.1 hy2 with hy2 | hy2
    · exact sacross hL x hx2 y hy2
    · exact hy x hx2 y hy2
    · have := hx y hy2 x hx2; show x.f1 ≤ y.f1; omega
    · exact sacross hR x hx2 y hy2
  · -- the walk
    have w3 : ∀ (t : List M), t = u ++ z1 ++ (l2 ++ r2) ++ v → Evr (fun k => if mid < e then (if e < b then ((slices_symMergeCmpFunc_norm_mark.f k t mid e b).bind fun t' => some t') else some t) else some t) (u ++ (z1 ++ z2) ++ v) := by
      intro t ht
      subst ht
      have ez : u ++ (z1 ++ z2) ++ v = u ++ z1 ++ z2 ++ v := by simp
      rw [ez]
      by_cases hc : l2 ≠ [] ∧ r2 ≠ []
      · rw [if_pos hc] at p3
        have a1 : mid < e := by have := List.length_pos_iff.2 hc.1; omega
        have a2 : e < b := by have := List.length_pos_iff.2 hc.2; omega
        refine Evr.congr (fun k => by rw [if_pos a1, if_pos a2]) (Evr.bind p3 (Evr.of fun _ => rfl))
      · rw [if_neg hc] at p3
        subst p3
        refine Evr.of fun k => ?_
        by_cases a1 : mid < e
        · have : ¬ e < b := by
            intro a2
            exact hc ⟨fun h => by subst h; simp at h3; omega, fun h => by subst h; simp at h5; omega⟩
          rw [if_pos a1, if_neg this]
        · rw [if_neg a1]
    have w2 : Evr (fun k => slices_symMergeCmpFunc_norm_mark.j7 k (u ++ (l1 ++ r1) ++ (l2 ++ r2 ++ v)) a b mid s e) (u ++ (z1 ++ z2) ++ v) := by
      by_cases hc : l1 ≠ [] ∧ r1 ≠ []
      · rw [if_pos hc] at q3
        have a1 : a < s := by have := List.length_pos_iff.2 hc.1; omega
        have a2 : s < mid := by have := List.length_pos_iff.2 hc.2; omega
        refine Evr.succ (h := fun k => slices_symMergeCmpFunc_norm_mark.j8 k (u ++ (l1 ++ r1) ++ (l2 ++ r2 ++ v)) a b mid s e true) (fun k => by rw [slices_symMergeCmpFunc_norm_mark.j7, if_pos a1, decide_eq_true a2]) ?_
        refine Evr.succ (fun k => by rw [slices_symMergeCmpFunc_norm_mark.j8, if_pos (Eq.refl true)]) (Evr.bind q3 (w3 (u ++ z1 ++ (l2 ++ r2 ++ v)) (by simp)))
      · rw [if_neg hc] at q3
        subst q3
        have hf : Evr (fun k => slices_symMergeCmpFunc_norm_mark.j8 k (u ++ (l1 ++ r1) ++ (l2 ++ r2 ++ v)) a b mid s e false) (u ++ (l1 ++ r1 ++ z2) ++ v) := by
          refine Evr.succ (fun k => ?_) (w3 _ rfl)
          have e9 : u ++ (l1 ++ r1) ++ (l2 ++ r2 ++ v) = u ++ (l1 ++ r1) ++ (l2 ++ r2) ++ v := by simp
          rw [slices_symMergeCmpFunc_norm_mark.j8, if_neg Bool.false_ne_true, e9]
        refine Evr.succ (h := fun k => slices_symMergeCmpFunc_norm_mark.j8 k (u ++ (l1 ++ r1) ++ (l2 ++ r2 ++ v)) a b mid s e false) (fun k => ?_) hf
        rw [slices_symMergeCmpFunc_norm_mark.j7]
        by_cases a1 : a < s
        · have : ¬ s < mid := by
            intro a2
            exact hc ⟨fun h => by subst h; simp at h2; omega, fun h => by subst h; simp at h6; omega⟩
          rw [if_pos a1, decide_eq_false this]
        · rw [if_neg a1]
    by_cases hc : l2 ≠ [] ∧ r1 ≠ []
    · have c1' := List.length_pos_iff.2 hc.1
      have c2' := List.length_pos_iff.2 hc.2
      have a1 : s < m := by omega
      have a2 : m < e := by omega
      refine Evr.congr (fun k => by rw [if_pos a1, decide_eq_true a2]) ?_
      have hr := rot_f s m e (u ++ l1) l2 r1 (r2 ++ v) (by simp; omega) h3 h4 c1' c2' (by simp; omega)
      have e1 : u ++ l1 ++ l2 ++ r1 ++ (r2 ++ v) = u ++ (l1 ++ l2 ++ (r1 ++ r2)) ++ v := by simp
      have e2 : u ++ l1 ++ r1 ++ l2 ++ (r2 ++ v) = u ++ (l1 ++ r1) ++ (l2 ++ r2 ++ v) := by simp
      rw [e1, e2] at hr
      exact Evr.succ (fun k => by rw [slices_symMergeCmpFunc_norm_mark.j6, if_pos (Eq.refl true)]) (Evr.bind hr w2)
    · have e0 : u ++ (l1 ++ l2 ++ (r1 ++ r2)) ++ v = u ++ (l1 ++ r1) ++ (l2 ++ r2 ++ v) := by
        by_cases e1 : l2 = []
        · subst e1; simp
        · by_cases e2 : r1 = []
          · subst e2; simp
          · exact absurd ⟨e1, e2⟩ hc
      rw [e0]
      have hf : Evr (fun k => slices_symMergeCmpFunc_norm_mark.j6 k (u ++ (l1 ++ r1) ++ (l2 ++ r2 ++ v)) a m b mid s e false) (u ++ (z1 ++ z2) ++ v) :=
        Evr.succ (fun k => by rw [slices_symMergeCmpFunc_norm_mark.j6, if_neg Bool.false_ne_true]) w2
      refine Evr.congr (fun k => ?_) hf
      by_cases a1 : s < m
      · have : ¬ m < e := by
          intro a2
          exact hc ⟨fun h => by subst h; simp at h3; omega, fun h => by subst h; simp at h4; omega⟩
        rw [if_pos a1, decide_eq_false this]
      · rw [if_neg a1]

theorem sym_f : ∀ (n : Nat) (u l r v : List M) (a m b : Int), l.length + r.length = n → a = u.length → m = a + l.length → b = m + r.length → 0 < l.length → 0 < r.length → Small (l ++ r) →
    ((u ++ (l ++ r) ++ v).length : Int) ≤ 4000000000000000000 → Sorted c1 l → Sorted c1 r → Merges u l r v a m b := by
  intro n
  induction n using Nat.strongRecOn with
  | _ n ih =>
  intro u l r v a m b hn h1 h2 h3 hl0 hr0 hs hl hL hR
  have hlen : ((u ++ (l ++ r) ++ v).length : Int) = u.length + l.length + r.length + v.length := by simp; omega
  rw [hlen] at hl
  by_cases ha : m - a = 1
  · obtain ⟨c, rfl⟩ : ∃ c, l = [c] := by
      cases l with
      | nil => simp at hl0
      | cons c l =>
        cases l with
        | nil => exact ⟨c, rfl⟩
        | cons d l => simp at h2; omega
    obtain ⟨z, z1, z2, z3⟩ := sym_one u r v c a m b h1 (by omega) h3 (by simpa using hs) (by simp at hlen ⊢; omega) hR
    refine ⟨z, z1, z2, Evr.succ (fun k => ?_) z3⟩
    rw [slices_symMergeCmpFunc_norm_mark.f, if_pos (by rw [w64 (by omega) (by omega)]; exact ha)]; rfl
  · by_cases hb : b - m = 1
    · obtain ⟨c, rfl⟩ : ∃ c, r = [c] := by
        cases r with
        | nil => simp at hr0
        | cons c l =>
          cases l with
          | nil => exact ⟨c, rfl⟩
          | cons d l => simp at h3; omega
      obtain ⟨z, z1, z2, z3⟩ := sym_last u l v c a m h1 h2 hs (by rw [hlen]; exact hl) hL
      refine ⟨z, z1, z2, Evr.succ (fun k => ?_) z3⟩
      rw [slices_symMergeCmpFunc_norm_mark.f, if_neg (by rw [w64 (by omega) (by omega)]; exact ha), if_pos (by rw [w64 (by omega) (by omega)]; exact hb)]
    · -- the middle
      obtain ⟨mid, hmid⟩ : ∃ mid, mid = (a + b) / 2 := ⟨_, rfl⟩
      obtain ⟨lo, hi, hlohi⟩ : ∃ lo hi, (m > mid ∧ lo = mid + m - b ∧ hi = mid) ∨ (¬ m > mid ∧ lo = a ∧ hi = m) := by
        by_cases c : m > mid
        · exact ⟨_, _, .inl ⟨c, rfl, rfl⟩⟩
        · exact ⟨_, _, .inr ⟨c, rfl, rfl⟩⟩
      have hlo : a ≤ lo := by rcases hlohi with ⟨_, h, _⟩ | ⟨_, h, _⟩ <;> omega
      have hlh : lo ≤ hi := by rcases hlohi with ⟨_, h, _⟩ | ⟨_, h, _⟩ <;> omega
      have hhm : hi ≤ m := by rcases hlohi with ⟨_, _, h⟩ | ⟨_, _, h⟩ <;> omega
      have hp0 : mid + m - hi ≥ m := by rcases hlohi with ⟨_, _, h⟩ | ⟨_, _, h⟩ <;> omega
      have hp1 : mid + m - lo ≤ b := by rcases hlohi with ⟨_, h, _⟩ | ⟨_, h, _⟩ <;> omega
      have hrd : ∀ t, a ≤ t → t < b → 0 ≤ (rd_T94 (u ++ (l ++ r) ++ v) t).f1 ∧ (rd_T94 (u ++ (l ++ r) ++ v) t).f1 < 1000 := by
        intro t t0 t1
        obtain ⟨p, d, q, e, _, e2⟩ := rd_in u (l ++ r) v (i := t) (by omega) (by simp; omega)
        rw [e2]
        exact hs d (by rw [e]; simp)
      obtain ⟨s, s0, s1, s2, s3, s4⟩ := search (fun t => ¬ (rd_T94 (u ++ (l ++ r) ++ v) (mid + m - 1 - t)).f1 < (rd_T94 (u ++ (l ++ r) ++ v) t).f1)
        (fun k i j => slices_symMergeCmpFunc_norm_mark.l4 k (u ++ (l ++ r) ++ v) a m b mid (mid + m) i j (mid + m - 1))
        (fun k i => if i < m then (slices_symMergeCmpFunc_norm_mark.j6 k (u ++ (l ++ r) ++ v) a m b mid i (wrap64 (mid + m - i)) (decide (m < (wrap64 (mid + m - i))))) else (slices_symMergeCmpFunc_norm_mark.j6 k (u ++ (l ++ r) ++ v) a m b mid i (wrap64 (mid + m - i)) false)) lo hi
        (by
          intro k i j i0 ij j0
          show slices_symMergeCmpFunc_norm_mark.l4 (k + 1) (u ++ (l ++ r) ++ v) a m b mid (mid + m) i j (mid + m - 1) = _
          rw [slices_symMergeCmpFunc_norm_mark.l4, if_pos ij, half (by omega) (by omega) (by omega), w64 (x := mid + m - 1 - (i + j) / 2) (by omega) (by omega), if_pos (by omega), if_pos (by rw [hlen]; omega), if_pos (by omega), if_pos (by rw [hlen]; omega),
            cmp_f (hrd _ (by omega) (by omega)) (hrd _ (by omega) (by omega)), Option.bind_some, w64 (x := (i + j) / 2 + 1) (by omega) (by omega)]
          by_cases hlt : (rd_T94 (u ++ (l ++ r) ++ v) (mid + m - 1 - (i + j) / 2)).f1 < (rd_T94 (u ++ (l ++ r) ++ v) ((i + j) / 2)).f1
          · rw [if_pos (by omega), if_neg (by simpa using hlt)]
          · rw [if_neg (by omega), if_pos hlt])
        (by
          intro k i i0 i1
          show slices_symMergeCmpFunc_norm_mark.l4 (k + 1) (u ++ (l ++ r) ++ v) a m b mid (mid + m) i i (mid + m - 1) = _
          rw [slices_symMergeCmpFunc_norm_mark.l4, if_neg (by omega)])
        (hi - lo).toNat lo hi rfl (by omega) hlh (by omega) (.inl rfl) (.inl rfl)
      obtain ⟨l1, l2, rfl, hl1⟩ := cut_at l (s - a).toNat (by omega)
      obtain ⟨r1, r2, rfl, hr1⟩ := cut_at r (mid - s).toNat (by omega)
      simp only [List.length_append, Int.natCast_add] at h2 h3 hl hn hl0 hr0
      have hx : ∀ x ∈ l2, ∀ y ∈ r1, y.f1 < x.f1 := by
        by_cases e1 : l2 = []
        · subst e1; simp
        · by_cases e2 : r1 = []
          · subst e2; simp
          · obtain ⟨d, p, rfl⟩ := head_of e1
            obtain ⟨q, f, rfl⟩ := last_of e2
            have hd : f.f1 < d.f1 := by
              rcases s3 with h | h
              · simp at hr1 h2 h3; rcases hlohi with ⟨_, _, hh⟩ | ⟨_, _, hh⟩ <;> omega
              · have g1 : u ++ (l1 ++ d :: p ++ (q ++ [f] ++ r2)) ++ v = (u ++ l1) ++ d :: (p ++ (q ++ [f] ++ r2) ++ v) := by simp
                have g2 : u ++ (l1 ++ d :: p ++ (q ++ [f] ++ r2)) ++ v = (u ++ (l1 ++ d :: p ++ q)) ++ f :: (r2 ++ v) := by simp
                have v1 : rd_T94 (u ++ (l1 ++ d :: p ++ (q ++ [f] ++ r2)) ++ v) s = d := by rw [g1]; exact rd_mid _ _ _ (by simp; omega)
                have v2 : rd_T94 (u ++ (l1 ++ d :: p ++ (q ++ [f] ++ r2)) ++ v) (mid + m - 1 - s) = f := by rw [g2]; exact rd_mid _ _ _ (by simp at hr1 h2 h3 ⊢; omega)
                rw [v1, v2] at h
                omega
            intro x hx y hy
            have a1 := sge_head (sright hL) x hx
            have a2 := sle_last (sleft hR) y hy
            omega
      have hy : ∀ x ∈ l1, ∀ y ∈ r2, x.f1 ≤ y.f1 := by
        by_cases e1 : l1 = []
        · subst e1; simp
        · by_cases e2 : r2 = []
          · subst e2; simp
          · obtain ⟨p, d, rfl⟩ := last_of e1
            obtain ⟨f, q, rfl⟩ := head_of e2
            have hd : d.f1 ≤ f.f1 := by
              rcases s2 with h | h
              · simp at hl1 hr1 h2 h3; rcases hlohi with ⟨_, hh, _⟩ | ⟨_, hh, _⟩ <;> omega
              · have g1 : u ++ (p ++ [d] ++ l2 ++ (r1 ++ f :: q)) ++ v = (u ++ p) ++ d :: (l2 ++ (r1 ++ f :: q) ++ v) := by simp
                have g2 : u ++ (p ++ [d] ++ l2 ++ (r1 ++ f :: q)) ++ v = (u ++ (p ++ [d] ++ l2 ++ r1)) ++ f :: (q ++ v) := by simp
                have v1 : rd_T94 (u ++ (p ++ [d] ++ l2 ++ (r1 ++ f :: q)) ++ v) (s - 1) = d := by rw [g1]; exact rd_mid _ _ _ (by simp at hl1 ⊢; omega)
                have v2 : rd_T94 (u ++ (p ++ [d] ++ l2 ++ (r1 ++ f :: q)) ++ v) (mid + m - 1 - (s - 1)) = f := by rw [g2]; exact rd_mid _ _ _ (by simp at hl1 hr1 h2 h3 ⊢; omega)
                rw [v1, v2] at h
                omega
            intro x hx y hy
            have a1 := sle_last (sleft hL) x hx
            have a2 := sge_head (sright hR) y hy
            omega
      have hsm1 : Small (l1 ++ r1) := fun y hy => hs y (by simp at hy ⊢; rcases hy with h | h <;> simp [h])
      have hsm2 : Small (l2 ++ r2) := fun y hy => hs y (by simp at hy ⊢; rcases hy with h | h <;> simp [h])
      obtain ⟨z, z1, z2, z3⟩ := sym_tail u l1 l2 r1 r2 v a m b mid s (mid + m - s) h1 (by omega) (by omega) (by omega) (by omega) (by omega) (by rw [hlen]; simp; omega) hL hR hx hy
        (fun e1 e2 => ih (l1.length + r1.length) (by omega) u l1 r1 (l2 ++ r2 ++ v) a s mid rfl h1 (by omega) (by omega) (List.length_pos_iff.2 e1) (List.length_pos_iff.2 e2) hsm1 (by simp; omega) (sleft hL) (sleft hR))
        (fun e1 e2 z1 hz1 => ih (l2.length + r2.length) (by omega) (u ++ z1) l2 r2 v mid (mid + m - s) b rfl (by simp; omega) (by omega) (by omega) (List.length_pos_iff.2 e1) (List.length_pos_iff.2 e2) hsm2 (by simp; omega) (sright hL) (sright hR))
        (mid + m) (by omega)
      refine ⟨z, z1, z2, ?_⟩
      have hj := s4 _ z3
      refine Evr.succ (h := fun k => slices_symMergeCmpFunc_norm_mark.j4 k (u ++ (l1 ++ l2 ++ (r1 ++ r2)) ++ v) a m b mid (mid + m) lo hi) (fun k => ?_) (Evr.succ (fun k => ?_) hj)
      · rw [slices_symMergeCmpFunc_norm_mark.f, if_neg (by rw [w64 (by omega) (by omega)]; exact ha), if_neg (by rw [w64 (by omega) (by omega)]; exact hb), half (by omega) (by omega) (by omega), ← hmid, w64 (x := mid + m) (by omega) (by omega)]
        rcases hlohi with ⟨c, h, h'⟩ | ⟨c, h, h'⟩
        · rw [if_pos c, w64 (x := mid + m - b) (by omega) (by omega), h, h']
        · rw [if_neg c, h, h']
      · rw [slices_symMergeCmpFunc_norm_mark.j4, w64 (x := mid + m - 1) (by omega) (by omega)]
end Go.Proofs.Ytiplbhjllkfemaa.NSort
