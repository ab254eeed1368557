/-
  Versions: the sort of a level's tables.
-/
import Derived.Test.YtjhijcehcklipaaZVeW11
namespace Go.Proofs.Ytjhijcehcklipaa.MVe
open Go.RowKit Go.Proofs.YtjhijcehcklipaaW.PrintWords Go.Proofs.YtjhijcehcklipaaW.PrintLast Go.Proofs.YtjhijcehcklipaaW.PrintMore
open Go.Sort (flatK size_flatK get_flatK HoldsK Holds putCells putRow putRowK mapBlock SWO PermIn SortedIn)
attribute [local go_sem] max2_int min2_int max_two min_two max_three min_three max_four min_four
set_option linter.unusedVariables false
set_option linter.unusedSimpArgs false

theorem R_cases {w : World} {b : Nat} {P : Nat → Prop} {v : Value} {xs : List S41} (h : Kd.R k41 41 w b P v xs) : (v = .slice none 0 0 ∧ xs = []) ∨ ∃ g cap, v = .slice (some ⟨g, 0, none⟩) xs.length cap ∧ P g ∧ b ≤ g ∧ xs.length ≤ cap := by
  obtain ⟨hok, inner, ⟨hl, ho⟩, hr⟩ := h
  rcases ho with ⟨rfl, h0⟩ | ⟨g, cap, cur, rfl, hg, hblk, hcap, hr2⟩
  · exact .inl ⟨rfl, List.length_eq_zero_iff.1 h0⟩
  · exact .inr ⟨g, cap, rfl, hok g (by simp [Value.ownBlock]), hg, hcap⟩
theorem bits0.calls (w : World) : Calls Try.prog 82 #[.int .u64 0] w fun e w' => e = .returned (.int .i64 0) ∧ w' = w := by
  have h := Any.bits_Len (SlLaysF0.n15.bits (P := Try.prog) (ρ := Try.sortF_ren) { Try.sortF with }) (0 : Int) w (by omega) (by omega)
  exact h
set_option maxHeartbeats 1000000 in
set_option maxRecDepth 100000 in
theorem ins0.calls (f : Value) (w : World) : Calls Try.prog 92 #[.slice none 0 0, .int .i64 0, .int .i64 0, f] w fun e w' => e = .returned (.tuple #[]) ∧ w' = w := by
  go_enter Try.func92, Try.ntmps92
  go_wp2
  refine wp_loop_rounds 1 ?_
  rw [rounds_succ]
  go_wp2
  go_end0
  exact ⟨rfl, rfl⟩
set_option maxHeartbeats 1000000 in
set_option maxRecDepth 100000 in
theorem pdq0.calls (f : Value) (w : World) : Calls Try.prog 81 #[.slice none 0 0, .int .i64 0, .int .i64 0, .int .i64 0, f] w fun e w' => e = .returned (.tuple #[]) ∧ w' = w := by
  go_enter Try.func81, Try.ntmps81
  go_wp2
  refine wp_loop_rounds 1 ?_
  rw [rounds_succ]
  go_wp2_with (
    go_at_call 92
    refine (ins0.calls f _).mono ?_
    rintro e w' ⟨rfl, rfl⟩)
  (try simp only [Exit.inBlock, Exit.then])
  refine bodyPost_ret (results_none rfl _ _ _) rfl ?_
  exact ⟨rfl, rfl⟩
set_option maxHeartbeats 1000000 in
set_option maxRecDepth 100000 in
theorem sort0.calls (f : Value) (w : World) : Calls Try.prog 59 #[.slice none 0 0, f] w fun e w' => e = .returned (.tuple #[]) ∧ w' = w := by
  go_enter Try.func59, Try.ntmps59
  go_wp2_with (first
    | (go_at_call 82
       refine (bits0.calls _).mono ?_
       rintro e w' ⟨rfl, rfl⟩)
    | (go_at_call 81
       refine (pdq0.calls f _).mono ?_
       rintro e w' ⟨rfl, rfl⟩))
  go_end0
  exact ⟨rfl, rfl⟩
set_option maxRecDepth 100000 in
theorem isAgg41 : ∀ w, (isAgg 41).run Try.prog w = .ok true w := fun w => by
  have h := Try.underlying41
  simp [isAgg, run_underlying h]
set_option maxRecDepth 100000 in
theorem sizeOf41 : ∀ w, (Go.sizeOf 41).run Try.prog w = .ok 5 w := fun w => by
  obtain ⟨ti, hti, htz⟩ := Option.map_eq_some_iff.1 info41
  injection htz with h1 h2
  injection h2 with h2 h3
  simp [Go.sizeOf, typeInfo, hti, h2]
theorem perm_list {d d' : Array S41} (h : PermIn 0 d.size d d') : d'.toList.Perm d.toList ∧ d'.size = d.size := by
  obtain ⟨h1, h2, h3⟩ := h
  refine ⟨?_, h1⟩
  have e : d.extract 0 d.size = d := by simp
  have e' : d'.extract 0 d.size = d' := by rw [← h1]; simp
  rw [e, e'] at h3
  exact h3
theorem sorted_list {lt : S41 → S41 → Bool} {d : Array S41} {n : Nat} (hn : d.size = n) (h : SortedIn lt 0 n d) : d.toList.Pairwise (fun a b => lt b a = false) := by
  rw [List.pairwise_iff_getElem]
  intro i j hi hj hij
  have hj' : j < d.size := by rw [Array.length_toList] at hj; exact hj
  have := h i j (Nat.zero_le _) hij (by omega)
  rw [getElem!_pos d i (by omega), getElem!_pos d j hj'] at this
  rw [Array.getElem_toList, Array.getElem_toList]
  exact this
/-- slices.SortFunc by a level's order. -/
theorem SortL.calls (b : Nat) (n : Int) (v : Value) (xs : List S41) (P : Nat → Prop) (w0 w : World) (hR : Kd.R k41 41 w w0.heap.size P v xs) (hB : Below w0.heap.size w0 w) (hb : w.heap[b]? = some (.cells #[.int .i64 n] 3 (0, 0))) (hne : ∀ k, P k → k ≠ b) (hl : xs.length < 4611686018427387904) :
    Calls Try.prog 59 #[v, .func (.func 60) #[] #[.pointer (some ⟨b, 0, none⟩)]] w fun e w' => e = .returned (.tuple #[]) ∧ ∃ ys, ys.Perm xs ∧ ys.Pairwise (fun a c => ltOf (cfL n) c a = false) ∧ Kd.R k41 41 w' w0.heap.size P v ys ∧ Below w0.heap.size w0 w' ∧ Kept w w' P := by
  rcases R_cases hR with ⟨rfl, rfl⟩ | ⟨g, cap, rfl, hP, hg, hcap⟩
  · refine (sort0.calls _ w).mono ?_
    rintro e w' ⟨rfl, rfl⟩
    exact ⟨rfl, [], List.Perm.refl _, List.Pairwise.nil, hR, hB, Kept.refl _ _⟩
  · obtain ⟨hH, hlt⟩ := R_holds hR
    have hcon := AnyQ.slices_SortFunc Try.sortF 5 isAgg41 sizeOf41 enc5 enc5_len enc5_one (cfL n) (swoL n) 60 #[.pointer (some ⟨b, 0, none⟩)] g 0 cap xs.toArray w enters60 (cmpLays60 b g _ n w hb (fun e => hne g hP e.symm)) hH hlt (by simpa using hl)
    refine Calls.mono (show Calls Try.prog 59 #[.slice (some ⟨g, 0, none⟩) xs.length cap, .func (.func 60) #[] #[.pointer (some ⟨b, 0, none⟩)]] w _ from hcon) ?_
    rintro e w' ⟨rfl, d', m, os, hp, hs, rfl⟩
    obtain ⟨hp1, hp2⟩ := perm_list hp
    have hsz : d'.size = xs.length := hp2
    obtain ⟨r1, r2⟩ := R_sorted (n := m) os hsz hR
    have hPg : ∀ k, k = g → P k := fun k e => e ▸ hP
    exact ⟨rfl, d'.toList, hp1, sorted_list hp2 hs, r1, sorted_below d' os hB hB.size hg, Kept.mono r2 hPg⟩
end Go.Proofs.Ytjhijcehcklipaa.MVe
