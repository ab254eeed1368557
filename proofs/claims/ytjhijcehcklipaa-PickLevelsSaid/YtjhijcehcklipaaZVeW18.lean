/-
  Versions: all tables, walked.
-/
import Derived.Test.YtjhijcehcklipaaZVeW15
namespace Go.Proofs.Ytjhijcehcklipaa.MVe
open Go.RowKit Go.Proofs.YtjhijcehcklipaaW.PrintWords Go.Proofs.YtjhijcehcklipaaW.PrintLast Go.Proofs.YtjhijcehcklipaaW.PrintMore
attribute [local go_sem] max2_int min2_int max_two min_two max_three min_three max_four min_four
set_option linter.unusedVariables false
set_option linter.unusedSimpArgs false

/-- The levels below n, one behind the other. -/
def AllOf (files : List S41) : Nat → List S41 → Prop
  | 0, zs => zs = []
  | n + 1, zs => ∃ ys l, AllOf files n ys ∧ LevOf (n : Int) files l ∧ zs = ys ++ l
theorem AllOf.len {files : List S41} : ∀ {n : Nat} {zs : List S41}, AllOf files n zs → zs.length = (files.filter fun x => decide (0 ≤ x.f1) && decide (x.f1 < (n : Int))).length
  | 0, zs, h => by
    have h : zs = [] := h
    subst h
    rw [List.filter_eq_nil_iff.2 (fun x _ => by simp only [Bool.and_eq_true, decide_eq_true_eq]; omega)]
  | n + 1, zs, h => by
    obtain ⟨ys, l, h1, h2, rfl⟩ := h
    rw [List.length_append, h1.len, h2.1.length_eq]
    clear h1 h2
    induction files with
    | nil => rfl
    | cons x r ih =>
      simp only [List.filter_cons]
      by_cases c1 : 0 ≤ x.f1 ∧ x.f1 < n
      · rw [if_pos (by simp only [Bool.and_eq_true, decide_eq_true_eq, beq_iff_eq]; omega), if_neg (by simp only [Bool.and_eq_true, decide_eq_true_eq, beq_iff_eq]; omega), if_pos (by simp only [Bool.and_eq_true, decide_eq_true_eq, beq_iff_eq]; omega)]
        simp only [List.length_cons]; omega
      · by_cases c2 : x.f1 = n
        · rw [if_neg (by simp only [Bool.and_eq_true, decide_eq_true_eq, beq_iff_eq]; omega), if_pos (by simp only [Bool.and_eq_true, decide_eq_true_eq, beq_iff_eq]; omega), if_pos (by simp only [Bool.and_eq_true, decide_eq_true_eq, beq_iff_eq]; omega)]
          simp only [List.length_cons]; omega
        · rw [if_neg (by simp only [Bool.and_eq_true, decide_eq_true_eq, beq_iff_eq]; omega), if_neg (by simp only [Bool.and_eq_true, decide_eq_true_eq, beq_iff_eq]; omega), if_neg (by simp only [Bool.and_eq_true, decide_eq_true_eq, beq_iff_eq]; omega)]
          exact ih
set_option maxHeartbeats 2000000 in
set_option maxRecDepth 100000 in
theorem All.calls (w0 : World) (P : Nat → Prop) (g : Nat) (v : Ver) (w : World) (hI : VInv w0 P g v w) (hl : v.files.length ≤ 1000000) (hg : g < w.heap.size) :
    Calls Try.prog 25 #[.pointer (some ⟨g, 0, none⟩)] w fun e w' => ∃ vf zs, e = .returned vf ∧ Kd.R k41 41 w' w.heap.size (fun _ => True) vf zs ∧ Below w.heap.size w w' ∧ AllOf v.files 5 zs := by
  have HI := Aside0.mk hI
  have HB := Aside0.mk (Below.refl w.heap.size w)
  clear hI
  go_enter Try.func25, Try.ntmps25
  go_wp2
  go_loopw [3, 5] (fun s i wr => ∃ (j : Nat) (ys : List S41), j ≤ 5 ∧ i = .int .i64 j ∧ Aside0 (AllOf v.files j ys) ∧ Aside0 (Kd.R k41 41 wr w.heap.size (fun _ => True) s ys) ∧ Aside0 (Below w.heap.size w wr)) (fun _ i _ => 5 - (intOf i).toNat)
  case atStart => exact ⟨0, [], Nat.zero_le _, rfl, ⟨rfl⟩, ⟨Kd.R_nil _ _ _ _ _⟩, HB⟩
  case round =>
    clear HB
    obtain ⟨j, ys, hj, rfl, HA, HR, HB⟩ := hrel
    by_cases hlt : j < 5
    · have hyl : ys.length ≤ 1000000 := by rw [HA.out.len]; exact Nat.le_trans (List.length_filter_le _ _) hl
      go_wp2_with (first
        | (go_at_call 24
           refine (Level.calls w0 P g v j _ (HI.out.step HB.out) hl).mono ?_
           rintro e w1 ⟨vf, l, rfl, hR1, hb1, hL⟩
           obtain ⟨A1, c1, e1, hc1, hC1⟩ := Kd.R_reads hR1
           subst e1
           have HC1 := Aside0.mk hC1
           have HB1 := Aside0.mk hb1
           have HL1 := Aside0.mk hL
           have hll : l.length ≤ 1000000 := by rw [hL.1.length_eq]; exact Nat.le_trans (List.length_filter_le _ _) hl
           have HRS := Aside0.mk (Kd.R_bound HR.out)
           clear hR1 hC1 hb1 hL)
        | (at_builtin
           refine Kd.R_append_rows k41 (w0 := w) w.heap.size rfl (.tmp 8) (.tmp 11) 39 41 (.agg #[.int .i64 0, .int .i64 0, .int .i64 0, .string ⟨#[]⟩, .string ⟨#[]⟩]) 56 rfl Try.underlying39 info41 rfl (by decide) (by omega) u3 ys l A1 l.length c1 (fun _ => True) (fun _ => False) rfl rfl ?aO ?aR (fun _ _ h => h) (fun _ h => h.elim) (fun _ _ => trivial) ?aB ?aS ?aL ?_
           (case aR => exact ReadsRow.imp_ HC1.out (Below.refl _ _) (fun x cs h => by rw [k41_open h]; exact k41_mkM _ _ _ x))
           (case aO => exact Kd.R_below HR.out HB1.out)
           (case aB => exact below_then HB.out HB.out.size HB1.out)
           (case aS => exact Nat.le_trans HB.out.size HB1.out.size)
           (case aL => omega)
           intro v5 w5 ho hb hg hat
           have HB5 := Aside0.mk hb
           have HO5 := Aside0.mk ho
           clear ho hb hg hat))
      go_roundw
      case rel => first
        | exact ⟨j + 1, ys ++ l, by omega, by go_num, ⟨⟨ys, l, HA.out, HL1.out, rfl⟩⟩, HO5, HB5⟩
        | exact ⟨_, _, _, _, _, _, _, _, _, _, ⟨j + 1, ys ++ l, by omega, by go_num, ⟨⟨ys, l, HA.out, HL1.out, rfl⟩⟩, HO5, HB5⟩, rfl⟩
        | (trace_state; fail)
      case measure => simp [intOf]; omega
    · obtain rfl : j = 5 := by omega
      go_wp2
      go_ret
      exact ⟨_, ys, rfl, HR.out, HB.out, HA.out⟩
end Go.Proofs.Ytjhijcehcklipaa.MVe
