/-
  The printed stable sort of marks (slices.SortStableFunc at norm's mark) puts marks in order of classes, by changes of neighbours of which the first has the greater class.
-/
import Derived.Test.YtiplbhjllkfemaaZMStx9
import Derived.Test.YtiplbhjllkfemaaZNOrd
namespace Go.Proofs.Ytiplbhjllkfemaa.NSort
open Go.RowKit Go.Proofs.Ytiplbhjllkfemaa.MSt Go.Proofs.Ytiplbhjllkfemaa.NOrd

abbrev M := S94
abbrev c1 : M → Int := fun x => x.f1
theorem w64 {x : Int} (h0 : -9223372036854775808 ≤ x) (h1 : x < 9223372036854775808) : wrap64 x = x := by
  unfold wrap64; omega
theorem half {i j : Int} (h0 : 0 ≤ i) (h1 : 0 ≤ j) (h2 : i + j < 9223372036854775808) : wrap64 ((IntKind.u64.wrap (wrap64 (i + j))) / 2) = (i + j) / 2 := by
  have e : wrap64 (i + j) = i + j := by unfold wrap64; omega
  rw [e]
  have e2 : IntKind.u64.wrap (i + j) = i + j := by
    simp [IntKind.wrap, IntKind.bits, IntKind.signed]
    omega
  rw [e2]; unfold wrap64; omega

def Small (x : List M) : Prop := ∀ y ∈ x, 0 ≤ y.f1 ∧ y.f1 < 1000
theorem Small.perm {x y : List M} (h : Small x) (p : x.Perm y) : Small y := fun z hz => h z (p.mem_iff.2 hz)
theorem cmp_f {a b : M} (ha : 0 ≤ a.f1 ∧ a.f1 < 1000) (hb : 0 ≤ b.f1 ∧ b.f1 < 1000) : norm_Order_1_1.f a.f0 a.f1 b.f0 b.f1 = some (a.f1 - b.f1) := by
  unfold norm_Order_1_1.f; rw [w64 (by omega) (by omega)]
theorem rd_mid (u : List M) (c : M) (v : List M) {i : Int} (h : i = u.length) : rd_T94 (u ++ c :: v) i = c := by
  subst h; simp [rd_T94]
theorem set_mid (u : List M) (c d : M) (v : List M) {i : Int} (h : i = u.length) : (u ++ c :: v).set i.toNat d = u ++ d :: v := by
  subst h; simp
theorem eta (c : M) : (⟨c.f0, c.f1⟩ : M) = c := by cases c; rfl

/-! ### insertion -/
theorem ins_l1 (u w : List M) (a b i : Int) (ha : a = u.length) : ∀ (n : Nat) (s1 : List M), s1.length = n → ∀ (c : M) (s2 : List M) (j : Int), j = a + s1.length →
    Small (s1 ++ c :: s2) → ((u ++ (s1 ++ c :: s2) ++ w).length : Int) ≤ 4000000000000000000 → Sorted c1 (s1 ++ s2) → (∀ y ∈ s2, c.f1 < y.f1) →
    ∃ s', Rel c1 (s1 ++ c :: s2) s' ∧ Sorted c1 s' ∧ ∀ r, Evr (fun k => slices_insertionSortCmpFunc_norm_mark.l0 k (u ++ s' ++ w) a b (wrap64 (i + 1))) r →
      Evr (fun k => slices_insertionSortCmpFunc_norm_mark.l1 k (u ++ (s1 ++ c :: s2) ++ w) a b i j) r := by
  intro n
  induction n with
  | zero =>
    intro s1 h1 c s2 j hj hs hl hso hc
    obtain rfl := List.eq_nil_of_length_eq_zero h1
    refine ⟨_, .refl _, List.pairwise_cons.2 ⟨fun y hy => by have := hc y hy; show c.f1 ≤ y.f1; omega, hso⟩, fun r hr => ?_⟩
    refine Evr.succ (h := fun k => slices_insertionSortCmpFunc_norm_mark.l0 k (u ++ ([] ++ c :: s2) ++ w) a b (wrap64 (i + 1))) (fun k => ?_) hr
    rw [slices_insertionSortCmpFunc_norm_mark.l1, if_neg (by simp at hj; omega)]
  | succ n ih =>
    intro s1 h1 c s2 j hj hs hl hso hc
    obtain ⟨s0, d, rfl⟩ : ∃ s0 d, s1 = s0 ++ [d] := ⟨s1.dropLast, s1.getLast (by intro e; subst e; simp at h1), (List.dropLast_concat_getLast _).symm⟩
    have h0 : s0.length = n := by simpa using h1
    have hlen : ((u ++ (s0 ++ [d] ++ c :: s2) ++ w).length : Int) = u.length + s0.length + 2 + s2.length + w.length := by simp; omega
    have hj2 : j = u.length + s0.length + 1 := by rw [hj, ha]; simp; omega
    have e1 : u ++ (s0 ++ [d] ++ c :: s2) ++ w = (u ++ s0 ++ [d]) ++ c :: (s2 ++ w) := by simp
    have e2 : u ++ (s0 ++ [d] ++ c :: s2) ++ w = (u ++ s0) ++ d :: (c :: s2 ++ w) := by simp
    have r1 : rd_T94 (u ++ (s0 ++ [d] ++ c :: s2) ++ w) j = c := by rw [e1]; exact rd_mid _ _ _ (by rw [hj2]; simp; omega)
    have r2 : rd_T94 (u ++ (s0 ++ [d] ++ c :: s2) ++ w) (j - 1) = d := by rw [e2]; exact rd_mid _ _ _ (by rw [hj2]; simp)
    have hcm : norm_Order_1_1.f c.f0 c.f1 d.f0 d.f1 = some (c.f1 - d.f1) := cmp_f (hs c (by simp)) (hs d (by simp))
    have step : ∀ k, slices_insertionSortCmpFunc_norm_mark.l1 (k + 1) (u ++ (s0 ++ [d] ++ c :: s2) ++ w) a b i j =
        if c.f1 - d.f1 < 0 then slices_insertionSortCmpFunc_norm_mark.l1 k (u ++ (s0 ++ c :: (d :: s2)) ++ w) a b i (j - 1) else slices_insertionSortCmpFunc_norm_mark.l0 k (u ++ (s0 ++ [d] ++ c :: s2) ++ w) a b (wrap64 (i + 1)) := by
      intro k
      rw [slices_insertionSortCmpFunc_norm_mark.l1, if_pos (by omega), if_pos (by omega), if_pos (by omega), w64 (x := j - 1) (by omega) (by omega), if_pos (by omega), if_pos (by omega), r1, r2, hcm, Option.bind_some, eta, eta]
      have e3 : ((u ++ (s0 ++ [d] ++ c :: s2) ++ w).set j.toNat d).set (j - 1).toNat c = u ++ (s0 ++ c :: (d :: s2)) ++ w := by
        rw [e1, set_mid _ _ _ _ (by rw [hj2]; simp; omega)]
        have : u ++ s0 ++ [d] ++ d :: (s2 ++ w) = (u ++ s0) ++ d :: (d :: s2 ++ w) := by simp
        rw [this, set_mid _ _ _ _ (by rw [hj2]; simp)]
        simp
      rw [e3]
    by_cases hlt : c.f1 - d.f1 < 0
    · have hs0 : Small (s0 ++ c :: (d :: s2)) := hs.perm (by
        have := (List.perm_middle (a := c) (l₁ := s0 ++ [d]) (l₂ := s2))
        simpa using (List.Perm.swap c d s2).append_left s0)
      obtain ⟨s', hr, hso', hev⟩ := ih s0 h0 c (d :: s2) (j - 1) (by rw [hj2, ha]; omega) hs0 (by rw [hlen] at hl; simp at hl ⊢; omega) (by simpa using hso) (by
        intro y hy
        rcases List.mem_cons.1 hy with rfl | hy
        · omega
        · exact hc y hy)
      refine ⟨s', .step (by simpa using Sw.mk (cl := c1) s0 d c s2 (by show c.f1 < d.f1; omega)) hr, hso', fun r hr2 => ?_⟩
      exact Evr.succ (fun k => by rw [step, if_pos hlt]) (hev r hr2)
    · refine ⟨_, .refl _, ?_, fun r hr => Evr.succ (fun k => by rw [step, if_neg hlt]) hr⟩
      have h3 := List.pairwise_append.1 hso
      have h4 := List.pairwise_append.1 h3.1
      refine List.pairwise_append.2 ⟨h3.1, List.pairwise_cons.2 ⟨fun y hy => by have := hc y hy; show c.f1 ≤ y.f1; omega, h3.2.1⟩, ?_⟩
      intro x hx y hy
      have hxd : x.f1 ≤ d.f1 := by
        rcases List.mem_append.1 hx with hx | hx
        · exact h4.2.2 x hx d (by simp)
        · rw [List.mem_singleton.1 hx]; exact Int.le_refl _
      rcases List.mem_cons.1 hy with rfl | hy
      · show x.f1 ≤ y.f1; omega
      · have := hc y hy; show x.f1 ≤ y.f1; omega

theorem ins_l0 (u v : List M) (a b : Int) (ha : a = u.length) : ∀ (rest : List M) (s : List M) (i : Int), i = a + s.length → b = a + s.length + rest.length → 0 < s.length →
    Small (s ++ rest) → ((u ++ (s ++ rest) ++ v).length : Int) ≤ 4000000000000000000 → Sorted c1 s →
    ∃ s', Rel c1 (s ++ rest) s' ∧ Sorted c1 s' ∧ Evr (fun k => slices_insertionSortCmpFunc_norm_mark.l0 k (u ++ (s ++ rest) ++ v) a b i) (u ++ s' ++ v) := by
  intro rest
  induction rest with
  | nil =>
    intro s i hi hb hs0 hs hl hso
    refine ⟨s, by rw [List.append_nil]; exact .refl _, hso, ?_⟩
    refine Evr.succ (h := fun _ => some (u ++ s ++ v)) (fun k => ?_) (Evr.of fun _ => rfl)
    rw [slices_insertionSortCmpFunc_norm_mark.l0, if_neg (by simp at hb; omega), List.append_nil]
  | cons c rest ih =>
    intro s i hi hb hs0 hs hl hso
    have hlen : ((u ++ (s ++ c :: rest) ++ v).length : Int) = u.length + s.length + 1 + rest.length + v.length := by simp; omega
    have e : u ++ (s ++ c :: rest) ++ v = u ++ (s ++ c :: []) ++ (rest ++ v) := by simp
    obtain ⟨s1, hr1, hso1, hev1⟩ := ins_l1 u (rest ++ v) a b i ha s.length s rfl c [] i hi (fun y hy => hs y (by simp at hy ⊢; rcases hy with h | h <;> simp [h])) (by rw [← e]; exact hl) (by simpa using hso) (by simp)
    have hlen1 := hr1.length
    simp at hlen1
    obtain ⟨s', hr, hso', hev⟩ := ih s1 (i + 1) (by omega) (by rw [hb]; simp; omega) (by omega) (hs.perm (by
      have := hr1.perm.append_right rest
      simpa using this)) (by rw [hlen] at hl; simp; omega) hso1
    refine ⟨s', Rel.trans (by have := hr1.around [] rest; simpa using this) hr, hso', ?_⟩
    refine Evr.succ (h := fun k => slices_insertionSortCmpFunc_norm_mark.l1 k (u ++ (s ++ c :: rest) ++ v) a b i i) (fun k => ?_) ?_
    · rw [slices_insertionSortCmpFunc_norm_mark.l0, if_pos (by rw [hb, hi]; simp; omega)]
    · rw [e]
      refine hev1 _ ?_
      rw [w64 (x := i + 1) (by omega) (by rw [hlen] at hl; omega)]
      have e5 : u ++ s1 ++ (rest ++ v) = u ++ (s1 ++ rest) ++ v := by simp
      rw [e5]; exact hev

theorem ins_f (u l v : List M) (a b : Int) (ha : a = u.length) (hb : b = a + l.length) (hs : Small l) (hl : ((u ++ l ++ v).length : Int) ≤ 4000000000000000000) :
    ∃ s', Rel c1 l s' ∧ Sorted c1 s' ∧ Evr (fun k => slices_insertionSortCmpFunc_norm_mark.f k (u ++ l ++ v) a b) (u ++ s' ++ v) := by
  have hlen : ((u ++ l ++ v).length : Int) = u.length + l.length + v.length := by simp; omega
  cases l with
  | nil =>
    refine ⟨[], .refl _, List.Pairwise.nil, ?_⟩
    refine Evr.succ (h := fun _ => some (u ++ [] ++ v)) (fun k => ?_) (Evr.of fun _ => rfl)
    unfold slices_insertionSortCmpFunc_norm_mark.f
    rw [w64 (x := a + 1) (by omega) (by omega), slices_insertionSortCmpFunc_norm_mark.l0, if_neg (by simp at hb; omega)]
  | cons c rest =>
    obtain ⟨s', h1, h2, h3⟩ := ins_l0 u v a b ha rest [c] (a + 1) (by simp) (by rw [hb]; simp; omega) (by simp) (by simpa using hs) (by simpa using hl) (List.pairwise_singleton _ _)
    refine ⟨s', by simpa using h1, h2, Evr.congr (fun k => ?_) h3⟩
    unfold slices_insertionSortCmpFunc_norm_mark.f
    rw [w64 (x := a + 1) (by omega) (by omega)]; rfl

/-! ### exchange of two parts -/
theorem swap_l0 (a b n : Int) : ∀ (p q : List M) (u w v : List M) (i : Int), p.length = q.length → a + i = u.length → b + i = u.length + p.length + w.length → n = i + p.length → 0 ≤ a → 0 ≤ b → 0 ≤ i →
    ((u ++ p ++ w ++ q ++ v).length : Int) ≤ 4000000000000000000 →
    Evr (fun k => slices_swapRangeCmpFunc_norm_mark.l0 k (u ++ p ++ w ++ q ++ v) a b n i) (u ++ q ++ w ++ p ++ v) := by
  intro p
  induction p with
  | nil =>
    intro q u w v i hpq h1 h2 h3 _ _ _ hl
    obtain rfl := List.eq_nil_of_length_eq_zero hpq.symm
    refine Evr.succ (h := fun _ => some (u ++ [] ++ w ++ [] ++ v)) (fun k => ?_) (Evr.of fun _ => rfl)
    rw [slices_swapRangeCmpFunc_norm_mark.l0, if_neg (by simp at h3; omega)]
  | cons c p ih =>
    intro q u w v i hpq h1 h2 h3 ha hb hi hl
    obtain ⟨d, q, rfl⟩ : ∃ d q', q = d :: q' := by
      cases q with
      | nil => simp at hpq
      | cons d q' => exact ⟨d, q', rfl⟩
    have hpq' : p.length = q.length := by simpa using hpq
    have hlen : ((u ++ (c :: p) ++ w ++ (d :: q) ++ v).length : Int) = u.length + p.length + w.length + q.length + v.length + 2 := by simp; omega
    simp only [List.length_cons, Int.natCast_succ] at h2 h3
    have e1 : u ++ (c :: p) ++ w ++ (d :: q) ++ v = u ++ c :: (p ++ w ++ d :: q ++ v) := by simp
    have e2 : u ++ (c :: p) ++ w ++ (d :: q) ++ v = (u ++ c :: p ++ w) ++ d :: (q ++ v) := by simp
    have r1 : rd_T94 (u ++ (c :: p) ++ w ++ (d :: q) ++ v) (a + i) = c := by rw [e1]; exact rd_mid _ _ _ h1
    have r2 : rd_T94 (u ++ (c :: p) ++ w ++ (d :: q) ++ v) (b + i) = d := by rw [e2]; exact rd_mid _ _ _ (by rw [h2]; simp; omega)
    have e3 : ((u ++ (c :: p) ++ w ++ (d :: q) ++ v).set (a + i).toNat d).set (b + i).toNat c = (u ++ [d]) ++ p ++ (w ++ [c]) ++ q ++ v := by
      rw [e1, set_mid _ _ _ _ h1]
      have : u ++ d :: (p ++ w ++ d :: q ++ v) = (u ++ d :: p ++ w) ++ d :: (q ++ v) := by simp
      rw [this, set_mid _ _ _ _ (by rw [h2]; simp; omega)]
      simp
    have hrec := ih q (u ++ [d]) (w ++ [c]) v (i + 1) hpq' (by simp; omega) (by simp; omega) (by omega) ha hb (by omega) (by rw [hlen] at hl; simp; omega)
    have e4 : u ++ [d] ++ q ++ (w ++ [c]) ++ p ++ v = u ++ (d :: q) ++ w ++ (c :: p) ++ v := by simp
    rw [e4] at hrec
    refine Evr.succ (fun k => ?_) hrec
    rw [hlen] at hl
    rw [slices_swapRangeCmpFunc_norm_mark.l0, if_pos (by omega), w64 (x := b + i) (by omega) (by omega), w64 (x := a + i) (by omega) (by omega), if_pos (by omega), if_pos (by rw [hlen]; omega), if_pos (by omega), if_pos (by rw [hlen]; omega), r1, r2, eta, eta, e3, w64 (x := i + 1) (by omega) (by omega)]
theorem swap_f (a b n : Int) (u p w q v : List M) (hpq : p.length = q.length) (h1 : a = u.length) (h2 : b = u.length + p.length + w.length) (h3 : n = p.length)
    (hl : ((u ++ p ++ w ++ q ++ v).length : Int) ≤ 4000000000000000000) : Evr (fun k => slices_swapRangeCmpFunc_norm_mark.f k (u ++ p ++ w ++ q ++ v) a b n) (u ++ q ++ w ++ p ++ v) :=
  swap_l0 a b n p q u w v 0 hpq (by omega) (by omega) (by omega) (by omega) (by omega) (by omega) hl

theorem rot_l0 (m : Int) : ∀ (n : Nat) (u p q v : List M) (i j : Int), p.length + q.length = n → m = u.length + p.length → i = p.length → j = q.length → 0 < p.length → 0 < q.length →
    ((u ++ p ++ q ++ v).length : Int) ≤ 4000000000000000000 →
    Evr (fun k => slices_rotateCmpFunc_norm_mark.l0 k (u ++ p ++ q ++ v) m i j) (u ++ q ++ p ++ v) := by
  intro n
  induction n using Nat.strongRecOn with
  | _ n ih =>
  intro u p q v i j hn hm hi hj hp hq hl
  have hlen : ((u ++ p ++ q ++ v).length : Int) = u.length + p.length + q.length + v.length := by simp; omega
  rw [hlen] at hl
  by_cases e : i = j
  · have hs := swap_f (m - i) m i u p [] q v (by omega) (by omega) (by simp; omega) hi (by simp; omega)
    simp only [List.append_nil] at hs
    refine Evr.succ (h := fun k => (slices_swapRangeCmpFunc_norm_mark.f k (u ++ p ++ q ++ v) (m - i) m i).bind fun t => some t) (fun k => ?_) (Evr.bind hs (Evr.of fun _ => rfl))
    rw [slices_rotateCmpFunc_norm_mark.l0, if_pos e, w64 (x := m - i) (by omega) (by omega)]
  · by_cases hgt : i > j
    · obtain ⟨p1, p2, rfl, hp1⟩ : ∃ p1 p2, p = p1 ++ p2 ∧ p1.length = q.length := ⟨p.take q.length, p.drop q.length, (List.take_append_drop _ _).symm, by rw [List.length_take]; omega⟩
      simp only [List.length_append, Int.natCast_add] at hm hi hn hp hl
      have hs := swap_f (m - i) m j u p1 p2 q v hp1 (by omega) (by omega) (by omega) (by simp; omega)
      have hr := ih (p2.length + p1.length) (by omega) (u ++ q) p2 p1 v (i - j) j rfl (by simp; omega) (by omega) (by omega) (by omega) (by omega) (by simp; omega)
      have e2 : u ++ q ++ p1 ++ p2 ++ v = u ++ q ++ (p1 ++ p2) ++ v := by simp
      rw [e2] at hr
      have e1 : u ++ (p1 ++ p2) ++ q ++ v = u ++ p1 ++ p2 ++ q ++ v := by simp
      rw [e1]
      refine Evr.succ (h := fun k => (slices_swapRangeCmpFunc_norm_mark.f k (u ++ p1 ++ p2 ++ q ++ v) (m - i) m j).bind fun t => slices_rotateCmpFunc_norm_mark.l0 k t m (i - j) j) (fun k => ?_) (Evr.bind hs hr)
      rw [slices_rotateCmpFunc_norm_mark.l0, if_neg e, if_pos hgt, w64 (x := m - i) (by omega) (by omega), w64 (x := i - j) (by omega) (by omega)]
    · obtain ⟨q1, q2, rfl, hq1⟩ : ∃ q1 q2, q = q1 ++ q2 ∧ q2.length = p.length := ⟨q.take (q.length - p.length), q.drop (q.length - p.length), (List.take_append_drop _ _).symm, by rw [List.length_drop]; omega⟩
      simp only [List.length_append, Int.natCast_add] at hj hn hq hl
      have hs := swap_f (m - i) (m + j - i) i u p q1 q2 v hq1.symm (by omega) (by omega) (by omega) (by simp; omega)
      have hr := ih (q2.length + q1.length) (by omega) u q2 q1 (p ++ v) i (j - i) rfl (by omega) (by omega) (by omega) (by omega) (by omega) (by simp; omega)
      have e2 : u ++ q1 ++ q2 ++ (p ++ v) = u ++ (q1 ++ q2) ++ p ++ v := by simp
      have e3 : u ++ q2 ++ q1 ++ (p ++ v) = u ++ q2 ++ q1 ++ p ++ v := by simp
      rw [e2, e3] at hr
      have e1 : u ++ p ++ (q1 ++ q2) ++ v = u ++ p ++ q1 ++ q2 ++ v := by simp
      rw [e1]
      refine Evr.succ (h := fun k => (slices_swapRangeCmpFunc_norm_mark.f k (u ++ p ++ q1 ++ q2 ++ v) (m - i) (m + j - i) i).bind fun t => slices_rotateCmpFunc_norm_mark.l0 k t m i (j - i)) (fun k => ?_) (Evr.bind hs hr)
      rw [slices_rotateCmpFunc_norm_mark.l0, if_neg e, if_neg hgt, w64 (x := m - i) (by omega) (by omega), w64 (x := m + j) (by omega) (by omega), w64 (x := m + j - i) (by omega) (by omega), w64 (x := j - i) (by omega) (by omega)]
theorem rot_f (a m b : Int) (u p q v : List M) (h1 : a = u.length) (h2 : m = a + p.length) (h3 : b = m + q.length) (hp : 0 < p.length) (hq : 0 < q.length)
    (hl : ((u ++ p ++ q ++ v).length : Int) ≤ 4000000000000000000) : Evr (fun k => slices_rotateCmpFunc_norm_mark.f k (u ++ p ++ q ++ v) a m b) (u ++ q ++ p ++ v) := by
  have hlen : ((u ++ p ++ q ++ v).length : Int) = u.length + p.length + q.length + v.length := by simp; omega
  refine Evr.congr (fun k => ?_) (rot_l0 m _ u p q v p.length q.length rfl (by omega) rfl rfl hp hq hl)
  unfold slices_rotateCmpFunc_norm_mark.f
  rw [w64 (x := m - a) (by omega) (by omega), w64 (x := b - m) (by omega) (by omega), show m - a = p.length by omega, show b - m = q.length by omega]
end Go.Proofs.Ytiplbhjllkfemaa.NSort
