/-
  VersionSpan, walked.
-/
import Derived.Test.YtjhijcehcklipaaZVeW16
import Derived.Test.YtjhijcehcklipaaZVeW9
import Derived.Test.YtjhijcehcklipaaZEvCall
import Derived.Test.YtjhijcehcklipaaZEvMeths
import Derived.Test.YtjhijcehcklipaaProg
namespace Go.Proofs.Ytjhijcehcklipaa.MVe
open Go.RowKit Go.Proofs.YtjhijcehcklipaaW.PrintWords Go.Proofs.YtjhijcehcklipaaW.PrintLast Go.Proofs.YtjhijcehcklipaaW.PrintMore
attribute [local go_sem] max2_int min2_int max_two min_two max_three min_three max_four min_four
set_option linter.unusedVariables false
set_option linter.unusedSimpArgs false

/-- The law's table. -/
def tabS (i : Nat) : S41 := ⟨(i : Int) + 1, 2, 0, s1 (97 + 2 * i), s1 (97 + 2 * i + 1)⟩
def tabsS (n : Nat) : List S41 := (List.range n).map tabS
theorem tabsS_succ (n : Nat) : tabsS (n + 1) = tabsS n ++ [tabS n] := by unfold tabsS; rw [List.range_succ, List.map_append]; rfl
theorem tabsS_len (n : Nat) : (tabsS n).length = n := by unfold tabsS; rw [List.length_map, List.length_range]
theorem tabsS_mem {n : Nat} {x : S41} (h : x ∈ tabsS n) : ∃ i, i < n ∧ x = tabS i := by
  obtain ⟨i, hi, rfl⟩ := List.mem_map.1 h
  exact ⟨i, List.mem_range.1 hi, rfl⟩
theorem tabsS_pair {n : Nat} {R : S41 → S41 → Prop} (h : ∀ i j, i < j → j < n → R (tabS i) (tabS j)) : (tabsS n).Pairwise R := by
  rw [List.pairwise_iff_getElem]
  intro i j hi hj hij
  have hj' : j < n := by rw [tabsS_len] at hj; exact hj
  have e : ∀ k (hk : k < (tabsS n).length), (tabsS n)[k] = tabS k := fun k hk => by simp [tabsS]
  rw [e i hi, e j hj]
  exact h i j hij hj'
theorem spans_ap {n : Nat} (hn : n ≤ 12) : apV ⟨[], 1, 0, 0⟩ 50 0 0 (tabsS n) [] = some ⟨tabsS n, 50, 0, 0⟩ := by
  refine apV_adds (by omega) (tabsS_pair fun i j hij hj => by show (i : Int) + 1 ≠ (j : Int) + 1; omega) (fun x hx => ?_) (tabsS_pair fun i j hij hj => ?_) (by rw [tabsS_len]; omega)
  · obtain ⟨i, hi, rfl⟩ := tabsS_mem hx
    refine ⟨?_, by show (i : Int) + 1 < 50; omega⟩
    unfold fileOk tabS inB
    have h1 := leS_s1 (x := 97 + 2 * (i : Int)) (y := 97 + 2 * i + 1) (by omega) (by omega)
    unfold leS at h1
    simp only [h1, s1_size]
    simp
    omega
  · unfold hit
    rw [meet_s1 (x := 97 + 2 * (j : Int)) (y := 97 + 2 * j + 1) (z := 97 + 2 * (i : Int)) (u := 97 + 2 * i + 1) (by omega) (by omega) (by omega) (by omega) rfl rfl rfl rfl]
    rw [decide_eq_false (show ¬ (max (97 + 2 * (j : Int)) (97 + 2 * i) ≤ min (97 + 2 * (j : Int) + 1) (97 + 2 * i + 1)) by omega), Bool.and_false]
/-- How many there are. -/
def wantS (a b : Int) : Nat → Nat
  | 0 => 0
  | i + 1 => wantS a b i + (if a ≤ b ∧ 2 * (i : Int) ≤ b ∧ 2 * (i : Int) + 1 ≥ a then 1 else 0)
theorem wantS_le (a b : Int) : ∀ n, wantS a b n ≤ n
  | 0 => Nat.le_refl _
  | n + 1 => by have := wantS_le a b n; unfold wantS; split <;> omega
theorem spans_over {n : Nat} {a b : Int} (hn : n ≤ 12) (ha : 0 ≤ a ∧ a ≤ 25) (hb : 0 ≤ b ∧ b ≤ 25) {zs : List S41} (h : OverOf 2 (s1 (97 + a)) (s1 (97 + b)) (tabsS n) zs) : zs.length = wantS a b n := by
  unfold OverOf at h
  rw [leS_s1 (by omega) (by omega)] at h
  by_cases hab : a ≤ b
  · rw [if_pos (decide_eq_true (by omega))] at h
    obtain ⟨ys, ⟨hp, _⟩, rfl⟩ := h
    have e1 : (tabsS n).filter (fun x => x.f1 == 2) = tabsS n := List.filter_eq_self.2 fun x hx => by obtain ⟨i, _, rfl⟩ := tabsS_mem hx; rfl
    rw [e1] at hp
    rw [(hp.filter _).length_eq]
    clear hp e1
    revert hn
    induction n with
    | zero => intro _; rfl
    | succ n ih =>
      intro hn
      rw [tabsS_succ, List.filter_append, List.length_append, ih (by omega), wantS]
      congr 1
      rw [List.filter_cons, List.filter_nil, meet_s1 (x := 97 + 2 * (n : Int)) (y := 97 + 2 * n + 1) (z := 97 + a) (u := 97 + b) (by omega) (by omega) (by omega) (by omega) rfl rfl rfl rfl]
      by_cases hc : a ≤ b ∧ 2 * (n : Int) ≤ b ∧ 2 * (n : Int) + 1 ≥ a
      · rw [if_pos hc, if_pos (decide_eq_true (by omega))]; rfl
      · rw [if_neg hc, if_neg (by rw [decide_eq_true_eq]; omega)]; rfl
  · rw [if_neg (by rw [decide_eq_true_eq]; omega)] at h
    subst h
    have : ∀ n, wantS a b n = 0 := by
      intro n
      induction n with
      | zero => rfl
      | succ n ih => rw [wantS, ih, if_neg (by omega)]
    rw [this]; rfl
theorem conv1 (W : World) (c : Int) : (convert 28 9 (.slice (some ⟨W.heap.size, 0, none⟩) 1 1)).run Try.prog (W.alloc (.cells #[.int .u8 c] 5)) = .ok (.string (s1 c)) (W.alloc (.cells #[.int .u8 c] 5)) :=
  run_convert_bytes_arg (W.alloc (.cells #[.int .u8 c] 5)) 28 5 Try.underlying28 Try.underlying5 W.heap.size 0 1 1 [c] rfl (fun i hi => by
    have h0 : i = 0 := by simpa using hi
    subst h0
    exact (blk_cell (blk_new W (.cells #[.int .u8 c] 5)) 0).trans rfl) 9 Try.underlying9
theorem conv2 (W : World) (o : Obj) (c : Int) : (convert 28 9 (.slice (some ⟨W.heap.size + 1, 0, none⟩) 1 1)).run Try.prog ((W.alloc o).alloc (.cells #[.int .u8 c] 5)) = .ok (.string (s1 c)) ((W.alloc o).alloc (.cells #[.int .u8 c] 5)) := by
  have h := conv1 (W.alloc o) c
  have e : (W.alloc o).heap.size = W.heap.size + 1 := by simp
  rw [e] at h
  exact h
theorem u8_in (x : Int) (h : 0 ≤ x ∧ x ≤ 255) : IntKind.u8.wrap x = x := by simp [IntKind.wrap, IntKind.bits, IntKind.signed]; omega
theorem VInv.grown {w0 w w1 : World} {g : Nat} {v : Ver} {row : Option Nat} (h : VInv w0 (fun _ => False) g v w) (hg : w.grownBy w1 row) (hr : ∀ k, row = some k → w0.heap.size ≤ k ∧ k ≠ g) : VInv w0 (fun _ => False) g v w1 := by
  obtain ⟨h1, h2, vf, h3, h4⟩ := h
  exact ⟨Below.grown h1 hg h1.size (fun k hk => (hr k hk).1), h2, vf, blk_grown h3 hg (fun e => (hr g e.symm).2 rfl), Kd.R_grown h4 hg (fun k hk => hk.elim)⟩
theorem VInv.wide {w0 w : World} {P Q : Nat → Prop} {g : Nat} {v : Ver} (h : VInv w0 P g v w) (hp : ∀ k, P k → Q k) : VInv w0 Q g v w := by
  obtain ⟨h1, h2, vf, h3, h4⟩ := h
  exact ⟨h1, h2, vf, h3, Kd.R_mono h4 hp⟩

end Go.Proofs.Ytjhijcehcklipaa.MVe
