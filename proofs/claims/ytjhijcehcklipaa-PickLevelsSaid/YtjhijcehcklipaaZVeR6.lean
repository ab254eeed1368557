/-
  Versions, plainly: a level has one order alone.
-/
import Derived.Test.YtjhijcehcklipaaZVeR5
namespace Go.Proofs.Ytjhijcehcklipaa.MVe
open Go.RowKit Go.Proofs.YtjhijcehcklipaaW.PrintWords Go.Proofs.YtjhijcehcklipaaW.PrintLast Go.Proofs.YtjhijcehcklipaaW.PrintMore
set_option linter.unusedVariables false
set_option linter.unusedSimpArgs false

theorem less_iff (a b : ByteArray) : Op.bytesLess a.toList b.toList = true ↔ a.data.toList < b.data.toList := by
  rw [Go.Proofs.bytesLess_eq, decide_eq_true_eq, bytes_list, bytes_list]
theorem bef_iff (n : Int) (f y : S41) : befR n f y = true ↔ (n = 0 ∧ f.f0 < y.f0) ∨ (0 < n ∧ y.f3.data.toList < f.f3.data.toList) := by
  unfold befR
  rw [Bool.or_eq_true, Bool.and_eq_true, Bool.and_eq_true, beq_iff_eq, decide_eq_true_eq, decide_eq_true_eq, less_iff]
theorem bef_trans {n : Int} {a b c : S41} (h1 : befR n a b = true) (h2 : befR n b c = true) : befR n a c = true := by
  rw [bef_iff] at *
  rcases h1 with ⟨h0, h1⟩ | ⟨h0, h1⟩
  · rcases h2 with ⟨_, h2⟩ | ⟨h3, _⟩
    · exact .inl ⟨h0, by omega⟩
    · omega
  · rcases h2 with ⟨h3, _⟩ | ⟨_, h2⟩
    · omega
    · exact .inr ⟨h0, List.lt_trans h2 h1⟩
theorem bef_le {n : Int} {a c : S41} (h : befR n c a = true) : ltOf (cfL n) c a = false := by
  rw [ltOf_cfL]
  rw [bef_iff] at h
  rcases h with ⟨h0, h1⟩ | ⟨h0, h1⟩
  · rw [if_pos h0]; exact decide_eq_false (by omega)
  · rw [if_neg (by omega)]; exact decide_eq_false (fun h2 => List.lt_irrefl _ (List.lt_trans h1 h2))
theorem tw_mem {p : S41 → Bool} : ∀ {ys : List S41} {y : S41}, y ∈ ys.takeWhile p → p y = true
  | [], y, h => by cases h
  | x :: r, y, h => by
    rw [List.takeWhile_cons] at h
    cases hx : p x with
    | false => rw [hx] at h; cases h
    | true =>
      rw [hx] at h
      rcases List.mem_cons.1 h with rfl | h
      · exact hx
      · exact tw_mem h
theorem insR_sorted {n : Int} {f : S41} {ys : List S41} (hs : ys.Pairwise fun a c => befR n c a = true) (ht : ∀ y ∈ ys, befR n f y = true ∨ befR n y f = true) : (insR n f ys).Pairwise fun a c => befR n c a = true := by
  unfold insR
  have hall := List.takeWhile_append_dropWhile (p := befR n f) (l := ys)
  have hs2 := hs
  rw [← hall] at hs2
  obtain ⟨s1, s2, s3⟩ := List.pairwise_append.1 hs2
  have hf : ∀ z ∈ ys.dropWhile (befR n f), befR n z f = true := by
    cases hd : ys.dropWhile (befR n f) with
    | nil => intro z hz; cases hz
    | cons z0 r =>
      have h0 : befR n f z0 = false := by
        have := List.head_dropWhile_not (befR n f) (l := ys) (by rw [hd]; simp)
        simpa [hd] using this
      have hz0 : z0 ∈ ys := (List.dropWhile_sublist _).subset (by rw [hd]; exact List.mem_cons_self)
      have h1 : befR n z0 f = true := (ht z0 hz0).resolve_left (by rw [h0]; decide)
      rw [hd] at s2
      intro z hz
      rcases List.mem_cons.1 hz with rfl | hz
      · exact h1
      · exact bef_trans ((List.pairwise_cons.1 s2).1 z hz) h1
  refine List.pairwise_append.2 ⟨s1, List.pairwise_cons.2 ⟨hf, s2⟩, fun y hy z hz => ?_⟩
  have hp : befR n f y = true := by
    exact tw_mem hy
  rcases List.mem_cons.1 hz with rfl | hz
  · exact hp
  · exact s3 y hy z hz
theorem levR_sorted_aux {n : Int} : ∀ (xs l : List S41), l.Pairwise (fun a c => befR n c a = true) → (∀ y ∈ l, ∀ x ∈ xs, x.f1 = n → befR n x y = true ∨ befR n y x = true) → (xs.Pairwise fun a b => a.f1 = n → b.f1 = n → befR n a b = true ∨ befR n b a = true) →
    (xs.foldl (fun l f => if (f.f1 == n) = true then insR n f l else l) l).Pairwise fun a c => befR n c a = true
  | [], l, hl, _, _ => hl
  | x :: r, l, hl, h1, h2 => by
    obtain ⟨h3, h4⟩ := List.pairwise_cons.1 h2
    rw [List.foldl_cons]
    by_cases h : x.f1 = n
    · rw [if_pos (beq_iff_eq.2 h)]
      refine levR_sorted_aux r _ (insR_sorted hl (fun y hy => h1 y hy x List.mem_cons_self h)) (fun y hy z hz hzn => ?_) h4
      rcases List.mem_cons.1 ((insR_perm n x l).subset hy) with rfl | hy
      · exact (h3 z hz h hzn).symm
      · exact h1 y hy z (List.mem_cons_of_mem _ hz) hzn
    · rw [if_neg (fun e => h (beq_iff_eq.1 e))]
      exact levR_sorted_aux r l hl (fun y hy z hz => h1 y hy z (List.mem_cons_of_mem _ hz)) h4
theorem perm_eq {α : Type} {le : α → α → Prop} : ∀ {xs ys : List α}, (∀ a ∈ xs, ∀ b ∈ xs, le a b → le b a → a = b) → xs.Pairwise le → ys.Pairwise le → xs.Perm ys → xs = ys
  | [], ys, _, _, _, hp => (List.nil_perm.1 hp).symm
  | x :: r, [], _, _, _, hp => absurd (List.perm_nil.1 hp) (by simp)
  | x :: r, y :: s, h, hx, hy, hp => by
    obtain ⟨x1, x2⟩ := List.pairwise_cons.1 hx
    obtain ⟨y1, y2⟩ := List.pairwise_cons.1 hy
    have hyx : y ∈ x :: r := hp.symm.subset List.mem_cons_self
    have hxy : x ∈ y :: s := hp.subset List.mem_cons_self
    have e : x = y := by
      rcases List.mem_cons.1 hyx with e | h1
      · exact e.symm
      rcases List.mem_cons.1 hxy with e | h2
      · exact e
      exact h x List.mem_cons_self y hyx (x1 y h1) (y1 x h2)
    subst e
    rw [perm_eq (fun a ha b hb => h a (List.mem_cons_of_mem _ ha) b (List.mem_cons_of_mem _ hb)) x2 y2 (List.Perm.cons_inv hp)]
theorem pair_mem {α : Type} {R : α → α → Prop} {xs : List α} (h : xs.Pairwise R) {a b : α} (ha : a ∈ xs) (hb : b ∈ xs) : a = b ∨ R a b ∨ R b a := by
  obtain ⟨i, hi, rfl⟩ := List.mem_iff_getElem.1 ha
  obtain ⟨j, hj, rfl⟩ := List.mem_iff_getElem.1 hb
  rcases Nat.lt_trichotomy i j with h1 | rfl | h1
  · exact .inr (.inl (List.pairwise_iff_getElem.1 h i j hi hj h1))
  · exact .inl rfl
  · exact .inr (.inr (List.pairwise_iff_getElem.1 h j i hj hi h1))
/-- Tables of a version of one level above 0 have unlike small texts. -/
theorem small_ne {a b : S41} (ha : fileOk a = true) (hb : fileOk b = true) (h1 : a.f1 = b.f1) (h0 : 0 < a.f1) (h : hit a b = false) : ¬ a.f3.data.toList = b.f3.data.toList := by
  intro e
  have hh : hit a b = true := by
    unfold hit
    rw [show decide (a.f1 > 0) = true from decide_eq_true h0, beq_iff_eq.2 h1, Bool.true_and, Bool.true_and, meet_iff]
    have e2 : a.f3 = b.f3 := by
      cases ha3 : a.f3; cases hb3 : b.f3
      rw [ha3, hb3] at e
      simp only [ByteArray.mk.injEq]
      exact Array.toList_inj.1 e
    have sa := fileOk_span ha
    have sb := fileOk_span hb
    rw [e2] at sa ⊢
    exact ⟨⟨sa, sb⟩, sa, sb⟩
  rw [h] at hh
  cases hh
theorem VGood.total {v : Ver} (h : VGood v) (n : Int) : v.files.Pairwise fun a b => a.f1 = n → b.f1 = n → befR n a b = true ∨ befR n b a = true := by
  have h2 := h.num.and h.apart
  refine List.Pairwise.imp_of_mem (fun {a b} ha hb hab h1 h3 => ?_) h2
  obtain ⟨hn, hh⟩ := hab
  have la := fileOk_level (h.ok a ha)
  rcases Nat.lt_or_ge 0 n.toNat with q | q
  · have hne := small_ne (h.ok b hb) (h.ok a ha) (by omega) (by omega) hh
    rw [bef_iff, bef_iff]
    by_cases hl : b.f3.data.toList < a.f3.data.toList
    · exact .inl (.inr ⟨by omega, hl⟩)
    · right; right
      refine ⟨by omega, ?_⟩
      rcases List.le_iff_lt_or_eq.1 (List.not_lt.1 hl) with h4 | h4
      · exact h4
      · exact absurd h4.symm hne
  · rw [bef_iff, bef_iff]
    have : n = 0 := by omega
    rcases Int.lt_or_gt_of_ne hn with h4 | h4
    · exact .inl (.inl ⟨this, h4⟩)
    · exact .inr (.inl ⟨this, h4⟩)
theorem lev_eq {v : Ver} (h : VGood v) {n : Int} {ys : List S41} (hl : LevOf n v.files ys) : ys = levR n v.files := by
  have hs := (levR_sorted_aux (n := n) v.files [] List.Pairwise.nil (fun y hy => by cases hy) (h.total n)).imp (fun {a c} hac => bef_le hac)
  refine perm_eq (le := fun a c => ltOf (cfL n) c a = false) (fun a ha b hb h1 h2 => ?_) hl.2 hs (hl.1.trans (levR_perm n v.files).symm)
  have ha' := List.mem_filter.1 (hl.1.subset ha)
  have hb' := List.mem_filter.1 (hl.1.subset hb)
  rcases pair_mem (h.total n) ha'.1 hb'.1 with e | hh | hh
  · exact e
  · rcases hh (beq_iff_eq.1 ha'.2) (beq_iff_eq.1 hb'.2) with q | q
    · have := bef_iff n a b |>.1 q
      rw [ltOf_cfL] at h1 h2
      rcases this with ⟨h0, q⟩ | ⟨h0, q⟩
      · rw [if_pos h0] at h1 h2; first | exact absurd q (of_decide_eq_false h1) | exact absurd q (of_decide_eq_false h2)
      · rw [if_neg (by omega)] at h1 h2; first | exact absurd q (of_decide_eq_false h1) | exact absurd q (of_decide_eq_false h2)
    · have := bef_iff n b a |>.1 q
      rw [ltOf_cfL] at h1 h2
      rcases this with ⟨h0, q⟩ | ⟨h0, q⟩
      · rw [if_pos h0] at h1 h2; first | exact absurd q (of_decide_eq_false h1) | exact absurd q (of_decide_eq_false h2)
      · rw [if_neg (by omega)] at h1 h2; first | exact absurd q (of_decide_eq_false h1) | exact absurd q (of_decide_eq_false h2)
  · rcases hh (beq_iff_eq.1 hb'.2) (beq_iff_eq.1 ha'.2) with q | q
    · have := bef_iff n b a |>.1 q
      rw [ltOf_cfL] at h1 h2
      rcases this with ⟨h0, q⟩ | ⟨h0, q⟩
      · rw [if_pos h0] at h1 h2; first | exact absurd q (of_decide_eq_false h1) | exact absurd q (of_decide_eq_false h2)
      · rw [if_neg (by omega)] at h1 h2; first | exact absurd q (of_decide_eq_false h1) | exact absurd q (of_decide_eq_false h2)
    · have := bef_iff n a b |>.1 q
      rw [ltOf_cfL] at h1 h2
      rcases this with ⟨h0, q⟩ | ⟨h0, q⟩
      · rw [if_pos h0] at h1 h2; first | exact absurd q (of_decide_eq_false h1) | exact absurd q (of_decide_eq_false h2)
      · rw [if_neg (by omega)] at h1 h2; first | exact absurd q (of_decide_eq_false h1) | exact absurd q (of_decide_eq_false h2)
/-- The levels 0 to k-1, one behind the other. -/
def allR (xs : List S41) : Nat → List S41
  | 0 => []
  | k + 1 => allR xs k ++ levR (k : Int) xs
theorem all_eq {v : Ver} (h : VGood v) : ∀ {k : Nat} {zs : List S41}, AllOf v.files k zs → zs = allR v.files k
  | 0, zs, ha => ha
  | k + 1, zs, ha => by
    obtain ⟨ys, l, h1, h2, rfl⟩ := ha
    rw [all_eq h h1, lev_eq h h2]; rfl
theorem levR_out {v : Ver} (h : VGood v) {n : Int} (hn : n < 0 ∨ 4 < n) : levR n v.files = [] := by
  have : (v.files.filter fun x => x.f1 == n) = [] := List.filter_eq_nil_iff.2 (fun x hx => by
    have := fileOk_level (h.ok x hx)
    rw [beq_iff_eq]; omega)
  have h2 := levR_perm n v.files
  rw [this] at h2
  exact List.perm_nil.1 h2
end Go.Proofs.Ytjhijcehcklipaa.MVe
