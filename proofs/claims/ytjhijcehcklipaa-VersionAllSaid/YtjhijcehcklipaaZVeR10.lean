/-
  Versions, plainly: levels lie apart; a version's own edit makes it anew.
-/
import Derived.Test.YtjhijcehcklipaaZVeR8
import Derived.Test.YtjhijcehcklipaaZVeM1
namespace Go.Proofs.Ytjhijcehcklipaa.MVe
open Go.RowKit Go.Proofs.YtjhijcehcklipaaW.PrintWords Go.Proofs.YtjhijcehcklipaaW.PrintLast Go.Proofs.YtjhijcehcklipaaW.PrintMore
set_option linter.unusedVariables false
set_option linter.unusedSimpArgs false

theorem meet_symm (a b : S41) : meetB a b = meetB b a := by
  rw [Bool.eq_iff_iff, meet_iff, meet_iff]
  exact ⟨fun h => ⟨⟨h.2.2, h.2.1⟩, h.1.2, h.1.1⟩, fun h => ⟨⟨h.2.2, h.2.1⟩, h.1.2, h.1.1⟩⟩
theorem hit_symm {a b : S41} (h : hit a b = false) : hit b a = false := by
  rw [← h]
  unfold hit
  rw [meet_symm b a, Bool.eq_iff_iff]
  simp only [Bool.and_eq_true, decide_eq_true_eq, beq_iff_eq]
  constructor
  · rintro ⟨⟨h1, h2⟩, h3⟩; exact ⟨⟨by omega, h2.symm⟩, h3⟩
  · rintro ⟨⟨h1, h2⟩, h3⟩; exact ⟨⟨by omega, h2.symm⟩, h3⟩
theorem lev_apart {v : Ver} (h : VGood v) {n : Int} (hn : 1 ≤ n) {k : Nat} (hk : k + 1 < (levR n v.files).length) : leS (levR n v.files)[k + 1].f3 (levR n v.files)[k].f4 = false := by
  have hs : (levR n v.files).Pairwise fun a c => befR n c a = true := levR_sorted_aux (n := n) v.files [] List.Pairwise.nil (fun y hy => by cases hy) (h.total n)
  have hb : befR n (levR n v.files)[k + 1] (levR n v.files)[k] = true := List.pairwise_iff_getElem.1 hs k (k + 1) (by omega) hk (by omega)
  have mem : ∀ i (hi : i < (levR n v.files).length), (levR n v.files)[i] ∈ v.files ∧ (levR n v.files)[i].f1 = n := fun i hi => by
    have := List.mem_filter.1 ((levR_perm n v.files).subset (List.getElem_mem hi))
    exact ⟨this.1, beq_iff_eq.1 this.2⟩
  obtain ⟨m1, e1⟩ := mem (k + 1) hk
  obtain ⟨m2, e2⟩ := mem k (by omega)
  generalize (levR n v.files)[k + 1] = x at *
  generalize (levR n v.files)[k] = y at *
  rw [bef_iff] at hb
  have hlt : y.f3.data.toList < x.f3.data.toList := by
    rcases hb with ⟨h0, _⟩ | ⟨_, h1⟩
    · omega
    · exact h1
  have hh : hit x y = false := by
    rcases pair_mem h.apart m1 m2 with e | q | q
    · subst e; exact absurd hlt (List.lt_irrefl _)
    · exact hit_symm q
    · exact q
  rw [Bool.eq_false_iff]
  intro hle
  have : hit x y = true := by
    unfold hit
    rw [show decide (x.f1 > 0) = true from decide_eq_true (by omega), beq_iff_eq.2 (e1.trans e2.symm), Bool.true_and, Bool.true_and, meet_iff]
    have hx := fileOk_span (h.ok x m1)
    have hy := fileOk_span (h.ok y m2)
    have hyx : leS y.f3 x.f3 = true := by
      rw [leS_iff, bytes_list, bytes_list]
      exact fun h2 => List.lt_irrefl _ (List.lt_trans h2 hlt)
    exact ⟨⟨hx, hle⟩, leS_trans hyx hx, hy⟩
  rw [hh] at this
  cases this
theorem perm_split {p q : S41 → Bool} : ∀ (xs : List S41), (∀ x ∈ xs, p x = true → q x = false) → (xs.filter p ++ xs.filter q).Perm (xs.filter fun x => p x || q x)
  | [], _ => List.Perm.refl _
  | x :: r, h => by
    have ih := perm_split r (fun y hy => h y (List.mem_cons_of_mem _ hy))
    rw [List.filter_cons, List.filter_cons, List.filter_cons]
    cases hp : p x with
    | true =>
      rw [h x List.mem_cons_self hp]
      exact List.Perm.cons x ih
    | false =>
      cases hq : q x with
      | true => exact List.perm_middle.trans (List.Perm.cons x ih)
      | false => exact ih
theorem allR_filter (xs : List S41) : ∀ k : Nat, (allR xs k).Perm (xs.filter fun x => decide (0 ≤ x.f1 ∧ x.f1 < (k : Int)))
  | 0 => by
    rw [List.filter_eq_nil_iff.2 (fun x _ => by rw [decide_eq_true_eq]; omega)]
    exact List.Perm.refl _
  | k + 1 => by
    rw [allR]
    refine ((allR_filter xs k).append (levR_perm (k : Int) xs)).trans ((perm_split xs fun x _ h => ?_).trans (List.Perm.of_eq ?_))
    · have := of_decide_eq_true h
      exact beq_eq_false_iff_ne.2 (by omega)
    · refine List.filter_congr fun x _ => ?_
      rw [Bool.eq_iff_iff, Bool.or_eq_true, decide_eq_true_eq, decide_eq_true_eq, beq_iff_eq]
      omega
theorem allR_files {v : Ver} (h : VGood v) : (allR v.files 5).Perm v.files := by
  refine (allR_filter v.files 5).trans (List.Perm.of_eq (List.filter_eq_self.2 fun x hx => ?_))
  have := fileOk_level (h.ok x hx)
  exact decide_eq_true (by omega)
theorem edit_anew {v : Ver} (h : VGood v) : apV ⟨[], 1, 0, 0⟩ v.next v.log v.last (allR v.files 5) [] = some ⟨allR v.files 5, v.next, v.log, v.last⟩ := by
  have hp := allR_files h
  have hmem : ∀ x ∈ allR v.files 5, x ∈ v.files := fun x hx => hp.subset hx
  have hnum : (allR v.files 5).Pairwise fun a b => a.f0 ≠ b.f0 := (hp.pairwise_iff (fun {x y} h => Ne.symm h)).2 h.num
  have hap : (allR v.files 5).Pairwise fun b a => hit a b = false := (hp.pairwise_iff (fun {x y} h => hit_symm h)).2 h.apart
  have hlen : (allR v.files 5).length ≤ 200 := by rw [hp.length_eq]; exact h.len
  have h1 := h.next
  have h2 := h.nmax
  have h3 := h.log
  have h4 := h.last
  have hok : editOk v.next v.log v.last (allR v.files 5) [] = true := by
    rw [edit_split]
    have hb : badM v.next v.log v.last (allR v.files 5).length ([] : List Int).length = false := by
      unfold badM
      simp only [List.length_nil, Bool.or_eq_false_iff, decide_eq_false_iff_not]
      omega
    rw [hb, List.all_eq_true.2 (fun x hx => h.ok x (hmem x hx))]
    rfl
  unfold apV
  rw [if_pos hok, delV_nil]
  unfold addV
  have h0 := addF_ok (allR v.files 5) [] hnum
  rw [List.nil_append] at h0
  show (match addF [] (allR v.files 5) with | none => none | some ys => endV ⟨[], 1, 0, 0⟩ v.next v.log v.last ys) = _
  rw [h0]
  show endV ⟨[], 1, 0, 0⟩ v.next v.log v.last (allR v.files 5) = _
  unfold endV
  have e1 : ltr 1 v.next = (v.next, true) := by unfold ltr; rw [if_neg (by omega), decide_eq_true (by omega)]
  have e2 : ∀ a : Int, 0 ≤ a → ltr 0 a = (a, true) := fun a ha => by
    unfold ltr
    by_cases h5 : a = 0
    · rw [if_pos h5, h5]
    · rw [if_neg h5, decide_eq_true ha]
  rw [e1, e2 v.log h3.1, e2 v.last h4.1]
  have e3 : idx (fun x => decide (x.f0 ≥ v.next)) (allR v.files 5) = -1 := idx_none fun x hx => decide_eq_false (by have := h.below x (hmem x hx); omega)
  rw [if_pos]
  unfold finOk
  rw [apartB_ok hap hlen]
  show (true && (true && (true && (true && (!decide (v.log ≥ v.next) && !decide (idx (fun x => decide (x.f0 ≥ v.next)) (allR v.files 5) ≥ 0)))))) = true
  rw [e3, decide_eq_false (show ¬ v.log ≥ v.next by omega)]
  rfl
end Go.Proofs.Ytjhijcehcklipaa.MVe
