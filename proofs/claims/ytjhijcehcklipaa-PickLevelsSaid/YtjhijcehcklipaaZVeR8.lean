/-
  The law's Same, walked.
-/
import Derived.Test.YtjhijcehcklipaaZVeR7
import Derived.Test.YtjhijcehcklipaaZVeW18
namespace Go.Proofs.Ytjhijcehcklipaa.MVe
open Go.RowKit Go.Proofs.YtjhijcehcklipaaW.PrintWords Go.Proofs.YtjhijcehcklipaaW.PrintLast Go.Proofs.YtjhijcehcklipaaW.PrintMore
attribute [local go_sem] max2_int min2_int max_two min_two max_three min_three max_four min_four
set_option linter.unusedVariables false
set_option linter.unusedSimpArgs false

theorem lev_perm {u v : Ver} (hu : VGood u) (hv : VGood v) (hp : u.files.Perm v.files) (n : Int) : levR n u.files = levR n v.files := by
  have hs := (levR_sorted_aux (n := n) u.files [] List.Pairwise.nil (fun y hy => by cases hy) (hu.total n)).imp (fun {a c} hac => bef_le hac)
  exact lev_eq hv ⟨(levR_perm n u.files).trans (hp.filter _), hs⟩
theorem all_perm {u v : Ver} (hu : VGood u) (hv : VGood v) (hp : u.files.Perm v.files) : ∀ k, allR u.files k = allR v.files k
  | 0 => rfl
  | k + 1 => by rw [allR, allR, all_perm hu hv hp k, lev_perm hu hv hp]
theorem allR_len {v : Ver} (h : VGood v) (k : Nat) : (allR v.files k).length ≤ 1000 * k := by
  induction k with
  | zero => exact Nat.zero_le _
  | succ k ih =>
    rw [allR, List.length_append]
    have h1 := levR_len (k : Int) v.files
    have h2 := h.len
    omega
set_option maxHeartbeats 8000000 in
set_option maxRecDepth 100000 in
theorem Same.calls (w0 : World) (P Q : Nat → Prop) (g h : Nat) (u v : Ver) (w : World) (hU : VInv w0 P g u w) (hV : RInv w0 Q h v w) (gu : VGood u) (gv : VGood v) (hp : u.files.Perm v.files) (hn : u.next = v.next) (hlo : u.log = v.log) (hla : u.last = v.last) :
    Calls Try.prog 32 #[.pointer (some ⟨g, 0, none⟩), .pointer (some ⟨h, 0, none⟩)] w fun e w' => e = .returned (.bool true) ∧ Below w.heap.size w w' := by
  have hu41 := Try.underlying41
  have hu113 := Try.underlying113
  have HU := Aside0.mk hU
  have HV := Aside0.mk hV
  have HP := Aside0.mk hp
  have hfl := gv.len
  have hul := gu.len
  obtain ⟨-, -, vf, hblk, -⟩ := hV
  obtain ⟨-, n1, n2, n3⟩ := hblk.cells
  rw [← hn] at n1
  rw [← hlo] at n2
  rw [← hla] at n3
  clear hU hblk hp hn hlo hla
  go_enter Try.func32, Try.ntmps32
  go_wp2
  go_quiet (first
    | (go_at_call 47; refine Calls.quiet_of_same (vNext.calls w0 P g u _ (HU.out.step (pw_below_drewN (Below.refl _ _) _))))
    | (go_at_call 69; refine Calls.quiet_of_same (vLog.calls w0 P g u _ (HU.out.step (pw_below_drewN (Below.refl _ _) _))))
    | (go_at_call 70; refine Calls.quiet_of_same (vLast.calls w0 P g u _ (HU.out.step (pw_below_drewN (Below.refl _ _) _)))))
  clear n1 n2 n3
  have HB := Aside0.mk (pw_below_drewN (Below.refl w.heap.size w) nq)
  have HFL := Aside0.mk (fun k => allR_len gv k)
  go_wp2
  go_loopw [5, 6] (fun s i wr => ∃ (j : Nat) (I : Int), j ≤ 7 ∧ i = .int .i64 I ∧ Aside0 (I = (j : Int) - 1) ∧ Aside0 (Kd.R k41 41 wr w.heap.size (fun _ => True) s (allR v.files (min (j - 1) 5))) ∧ Aside0 (Below w.heap.size w wr)) (fun _ i _ => (6 - intOf i).toNat)
  case atStart => exact ⟨0, -1, by omega, rfl, ⟨rfl⟩, ⟨Kd.R_nil _ _ _ _ _⟩, HB⟩
  case round =>
    clear HB
    obtain ⟨j, I, hj, rfl, HI, HR, HB⟩ := hrel
    have hI0 : -1 ≤ I := by have := HI.out; omega
    by_cases hlt : I ≤ 5
    · have hw1 : IntKind.i64.wrap (I + 1) = I + 1 := IntWalk.i64_in _ (by omega)
      have HYL := Aside0.mk (show (allR v.files (min (j - 1) 5)).length ≤ 5000 from Nat.le_trans (HFL.out _) (by omega))
      have HLL := Aside0.mk (levR_len I v.files)
      have HLV := Aside0.mk (fun ys (h : LevOf I u.files ys) => (lev_eq gu h).trans (lev_perm gu gv HP.out I))
      by_cases hin : 0 ≤ I ∧ I ≤ 4
      · obtain ⟨c1, c2⟩ := hin
        have e1 : decide (I < 0) = false := decide_eq_false (by omega)
        have e2 : decide (5 ≤ I) = false := decide_eq_false (by omega)
        have HAL := Aside0.mk (show allR v.files (min (j + 1 - 1) 5) = allR v.files (min (j - 1) 5) ++ levR I v.files by
          have := HI.out
          rw [show min (j + 1 - 1) 5 = (j - 1) + 1 by omega, show min (j - 1) 5 = j - 1 by omega, allR, show ((j - 1 : Nat) : Int) = I by omega])
        obtain ⟨ls, hls⟩ : ∃ ls, levR I v.files = ls := ⟨_, rfl⟩
        rw [hls] at HAL HLL HLV
        have hll : ls.length ≤ 1000 := by have := HLL.out; omega
        obtain ⟨ke, hke⟩ := eq_any ls (by omega)
        have HKE := Aside0.mk hke
        clear hke
        go_wp2_with (first
          | (go_at_call 71
             refine (RLevel.calls w0 Q h v I _ (HV.out.step HB.out) (by omega)).mono ?_
             rintro e w1 ⟨vf, rfl, hR1, hb1⟩
             rw [hls] at hR1
             obtain ⟨A1, c1_, e1_, hc1, hC1⟩ := Kd.R_reads hR1
             subst e1_
             have HC1 := Aside0.mk hC1
             have HB1 := Aside0.mk (below_step HB.out hb1)
             have HW1 := Aside0.mk hb1
             clear hR1 hb1 hC1)
          | (go_at_call 24
             refine (Level.calls w0 P g u I _ (HU.out.step HB1.out) (by omega)).mono ?_
             rintro e w2 ⟨vy, ys, rfl, hR2, hb2, hL⟩
             rw [HLV.out ys hL] at hR2
             obtain ⟨A2, c2_, e2_, hc2, hC2⟩ := Kd.R_reads hR2
             subst e2_
             have HC2 := Aside0.mk hC2
             have HB2 := Aside0.mk (below_step HB1.out hb2)
             have HC12 := Aside0.mk (Kd.C_below HC1.out hb2)
             have HW2 := Aside0.mk (below_step HW1.out hb2)
             clear hR2 hb2 hL hC2)
          | (go_at_call 29
             refine (incipitref12_EqFiles.calls ke A2 c2_ ls A1 c1_ ls true _ HC2.out hc2 HC12.out hc1 HKE.out).mono ?_
             rintro e w3 ⟨rfl, ⟨nd, rfl⟩⟩)
          | (at_builtin
             refine Kd.R_append_rows k41 (w0 := w) w.heap.size rfl (.tmp 56) (.tmp 57) 39 41 (.agg #[.int .i64 0, .int .i64 0, .int .i64 0, .string ⟨#[]⟩, .string ⟨#[]⟩]) 56 rfl Try.underlying39 info41 rfl (by decide) (by omega) u5 (allR v.files (min (j - 1) 5)) ls A1 ls.length c1_ (fun _ => True) (fun _ => False) rfl rfl ?aO ?aR (fun _ _ h => h) (fun _ h => h.elim) (fun _ _ => trivial) ?aB ?aS ?aL ?_
             (case aR => exact ReadsRow.imp_ (Kd.C_below HC12.out (pw_below_drewN (Below.refl _ _) nd)) (Below.refl _ _) (fun x cs h => by rw [k41_open h]; exact k41_mkM _ _ _ x))
             (case aO => exact Kd.R_below HR.out (pw_below_drewN HW2.out nd))
             (case aB => exact pw_below_drewN HB2.out nd)
             (case aS => exact (pw_below_drewN HB2.out nd).size)
             (case aL => have := HYL.out; omega)
             intro v5 w5 ho hb hg hat
             have HB5 := Aside0.mk hb
             have HO5 := Aside0.mk ho
             clear ho hb hg hat))
        go_roundw
        case rel => first
          | exact ⟨j + 1, I + 1, by have := HI.out; omega, rfl, ⟨by have := HI.out; omega⟩, ⟨by rw [HAL.out]; exact HO5.out⟩, HB5⟩
          | (trace_state; fail)
        case measure => simp [intOf]; omega
      · have HO := Aside0.mk (levR_out gv (n := I) (by omega))
        have HOU := Aside0.mk (levR_out gu (n := I) (by omega))
        have hj' : j = 0 ∨ j = 6 := by have := HI.out; omega
        have HAL := Aside0.mk (show allR v.files (min (j + 1 - 1) 5) = allR v.files (min (j - 1) 5) by rcases hj' with rfl | rfl <;> rfl)
        obtain ⟨b1, hb1⟩ : ∃ b, decide (I < 0) = b := ⟨_, rfl⟩
        have e2 : b1 = false → decide (5 ≤ I) = true := fun h => decide_eq_true (by have : ¬ I < 0 := of_decide_eq_false (hb1.trans h); omega)
        obtain ⟨ke, hke⟩ := eq_any [] (by decide)
        have HKE := Aside0.mk hke
        clear hke hin hj'
        have HE2 := Aside0.mk e2
        clear e2
        cases b1 with
        | true =>
          go_wp2_with (first
            | (go_at_call 71
               refine (RLevel.calls w0 Q h v I _ (HV.out.step HB.out) (by omega)).mono ?_
               rintro e w1 ⟨vf, rfl, hR1, hb1_⟩
               have HB1 := Aside0.mk (below_step HB.out hb1_)
               have HW1 := Aside0.mk hb1_
               clear hR1 hb1_)
            | (go_at_call 24
               refine (Level.calls w0 P g u I _ (HU.out.step HB1.out) (by omega)).mono ?_
               rintro e w2 ⟨vy, ys, rfl, hR2, hb2, hL⟩
               rw [(lev_eq gu hL).trans HOU.out] at hR2
               obtain ⟨A2, c2_, e2_, hc2, hC2⟩ := Kd.R_reads hR2
               have e3_ : vy = .slice A2 0 c2_ := e2_
               subst e3_
               have HC2 := Aside0.mk hC2
               have HB2 := Aside0.mk (below_step HB1.out hb2)
               have HW2 := Aside0.mk (below_step HW1.out hb2)
               clear hR2 hb2 hL hC2 e2_)
            | (go_at_call 29
               refine (incipitref12_EqFiles.calls ke A2 c2_ [] none 0 [] true _ HC2.out hc2 (Kd.C_nil _ _) (Nat.le_refl _) HKE.out).mono ?_
               rintro e w3 ⟨rfl, ⟨nd, rfl⟩⟩)
            | (at_builtin
               refine Kd.R_append_rows k41 (w0 := w) w.heap.size rfl (.tmp 56) (.tmp 57) 39 41 (.agg #[.int .i64 0, .int .i64 0, .int .i64 0, .string ⟨#[]⟩, .string ⟨#[]⟩]) 56 rfl Try.underlying39 info41 rfl (by decide) (by omega) u5 (allR v.files (min (j - 1) 5)) [] none 0 0 (fun _ => True) (fun _ => False) rfl rfl ?aO ?aR (fun _ _ h => h) (fun _ h => h.elim) (fun _ _ => trivial) ?aB ?aS ?aL ?_
               (case aR => exact ReadsRow.imp_ (Kd.C_nil k41 _) (Below.refl _ _) (fun x cs h => by rw [k41_open h]; exact k41_mkM _ _ _ x))
               (case aO => exact Kd.R_below HR.out (pw_below_drewN HW2.out nd))
               (case aB => exact pw_below_drewN HB2.out nd)
               (case aS => exact (pw_below_drewN HB2.out nd).size)
               (case aL => have := HYL.out; omega)
               intro v5 w5 ho hb hg hat
               rw [List.append_nil] at ho
               have HB5 := Aside0.mk hb
               have HO5 := Aside0.mk ho
               clear ho hb hg hat))
          go_roundw
          case rel => first
            | exact ⟨j + 1, I + 1, by have := HI.out; omega, rfl, ⟨by have := HI.out; omega⟩, ⟨by rw [HAL.out]; exact HO5.out⟩, HB5⟩
            | (trace_state; fail)
          case measure => simp [intOf]; omega
        | false =>
          have e2 := HE2.out rfl
          go_wp2_with (first
            | (go_at_call 71
               refine (RLevel.calls w0 Q h v I _ (HV.out.step HB.out) (by omega)).mono ?_
               rintro e w1 ⟨vf, rfl, hR1, hb1_⟩
               have HB1 := Aside0.mk (below_step HB.out hb1_)
               have HW1 := Aside0.mk hb1_
               clear hR1 hb1_)
            | (go_at_call 24
               refine (Level.calls w0 P g u I _ (HU.out.step HB1.out) (by omega)).mono ?_
               rintro e w2 ⟨vy, ys, rfl, hR2, hb2, hL⟩
               rw [(lev_eq gu hL).trans HOU.out] at hR2
               obtain ⟨A2, c2_, e2_, hc2, hC2⟩ := Kd.R_reads hR2
               have e3_ : vy = .slice A2 0 c2_ := e2_
               subst e3_
               have HC2 := Aside0.mk hC2
               have HB2 := Aside0.mk (below_step HB1.out hb2)
               have HW2 := Aside0.mk (below_step HW1.out hb2)
               clear hR2 hb2 hL hC2 e2_)
            | (go_at_call 29
               refine (incipitref12_EqFiles.calls ke A2 c2_ [] none 0 [] true _ HC2.out hc2 (Kd.C_nil _ _) (Nat.le_refl _) HKE.out).mono ?_
               rintro e w3 ⟨rfl, ⟨nd, rfl⟩⟩)
            | (at_builtin
               refine Kd.R_append_rows k41 (w0 := w) w.heap.size rfl (.tmp 56) (.tmp 57) 39 41 (.agg #[.int .i64 0, .int .i64 0, .int .i64 0, .string ⟨#[]⟩, .string ⟨#[]⟩]) 56 rfl Try.underlying39 info41 rfl (by decide) (by omega) u5 (allR v.files (min (j - 1) 5)) [] none 0 0 (fun _ => True) (fun _ => False) rfl rfl ?aO ?aR (fun _ _ h => h) (fun _ h => h.elim) (fun _ _ => trivial) ?aB ?aS ?aL ?_
               (case aR => exact ReadsRow.imp_ (Kd.C_nil k41 _) (Below.refl _ _) (fun x cs h => by rw [k41_open h]; exact k41_mkM _ _ _ x))
               (case aO => exact Kd.R_below HR.out (pw_below_drewN HW2.out nd))
               (case aB => exact pw_below_drewN HB2.out nd)
               (case aS => exact (pw_below_drewN HB2.out nd).size)
               (case aL => have := HYL.out; omega)
               intro v5 w5 ho hb hg hat
               rw [List.append_nil] at ho
               have HB5 := Aside0.mk hb
               have HO5 := Aside0.mk ho
               clear ho hb hg hat))
          go_roundw
          case rel => first
            | exact ⟨j + 1, I + 1, by have := HI.out; omega, rfl, ⟨by have := HI.out; omega⟩, ⟨by rw [HAL.out]; exact HO5.out⟩, HB5⟩
            | (trace_state; fail)
          case measure => simp [intOf]; omega
    · obtain rfl : j = 7 := by have := HI.out; omega
      have HALL := Aside0.mk (fun zs (h : AllOf u.files 5 zs) => (all_eq gu h).trans (all_perm gu gv HP.out 5))
      have hal := HFL.out 5
      have HR7 := Aside0.mk (show Kd.R k41 41 wr w.heap.size (fun _ => True) u5 (allR v.files 5) from HR.out)
      obtain ⟨ls, hls⟩ : ∃ ls, allR v.files 5 = ls := ⟨_, rfl⟩
      rw [hls] at HALL HR7 hal
      obtain ⟨ke, hke⟩ := eq_any ls (by omega)
      have HKE := Aside0.mk hke
      obtain ⟨A1, c1_, e1_, hc1, hC1⟩ := Kd.R_reads HR7.out
      subst e1_
      have HC1 := Aside0.mk hC1
      have HGL := Aside0.mk (HU.out.step HB.out).lt
      clear hke hC1 hls HR HR7
      go_wp2_with (first
        | (go_at_call 25
           refine (All.calls w0 P g u _ (HU.out.step HB.out) (by omega) HGL.out).mono ?_
           rintro e w2 ⟨vy, zs, rfl, hR2, hb2, hL⟩
           rw [HALL.out zs hL] at hR2
           obtain ⟨A2, c2_, e2_, hc2, hC2⟩ := Kd.R_reads hR2
           subst e2_
           have HC2 := Aside0.mk hC2
           have HB2 := Aside0.mk (below_step HB.out hb2)
           have HC12 := Aside0.mk (Kd.C_below HC1.out hb2)
           clear hR2 hb2 hL hC2)
        | (go_at_call 29
           refine (incipitref12_EqFiles.calls ke A2 c2_ ls A1 c1_ ls true _ HC2.out hc2 HC12.out hc1 HKE.out).mono ?_
           rintro e w3 ⟨rfl, ⟨nd, rfl⟩⟩))
      go_ret
      exact ⟨rfl, pw_below_drewN HB2.out nd⟩
end Go.Proofs.Ytjhijcehcklipaa.MVe
