/-
  VersionAll, walked.
-/
import Derived.Test.YtjhijcehcklipaaZVeR9
import Derived.Test.YtjhijcehcklipaaZVeR10
namespace Go.Proofs.Ytjhijcehcklipaa.MVe
open Go.RowKit Go.Proofs.YtjhijcehcklipaaW.PrintWords Go.Proofs.YtjhijcehcklipaaW.PrintLast Go.Proofs.YtjhijcehcklipaaW.PrintMore
attribute [local go_sem] max2_int min2_int max_two min_two max_three min_three max_four min_four
set_option linter.unusedVariables false
set_option linter.unusedSimpArgs false

set_option maxHeartbeats 8000000 in
set_option maxRecDepth 100000 in
theorem vEdit.calls (w0 : World) (P : Nat → Prop) (g : Nat) (v : Ver) (w : World) (hI : VInv w0 P g v w) (hg : VGood v) :
    Calls Try.prog 31 #[.pointer (some ⟨g, 0, none⟩)] w fun e w' => ∃ A c, e = .returned (.agg #[.int .i64 v.next, .int .i64 v.log, .int .i64 v.last, .slice A (allR v.files 5).length c, .slice none 0 0]) ∧ Kd.R k41 41 w' w.heap.size (fun _ => True) (.slice A (allR v.files 5).length c) (allR v.files 5) ∧ Below w.heap.size w w' := by
  have hu41 := Try.underlying41
  have hu45 := Try.underlying45
  have hu93 := Try.underlying93
  have hlen := hg.len
  have HALL := Aside0.mk (fun zs (h : AllOf v.files 5 zs) => all_eq hg h)
  obtain ⟨ls, hls⟩ : ∃ ls, allR v.files 5 = ls := ⟨_, rfl⟩
  rw [hls] at HALL ⊢
  have HI1 := Aside0.mk (hI.step (below_alloc (Below.refl w.heap.size w) (.cells #[.int .i64 0, .int .i64 0, .int .i64 0, .slice none 0 0, .slice none 0 0] 45)))
  have HB := Aside0.mk (below_alloc (Below.refl w.heap.size w) (.cells #[.int .i64 0, .int .i64 0, .int .i64 0, .slice none 0 0, .slice none 0 0] 45))
  have HX := Aside0.mk (blk_new w (.cells #[.int .i64 0, .int .i64 0, .int .i64 0, .slice none 0 0, .slice none 0 0] 45))
  clear hI hg hls
  go_enter Try.func31, Try.ntmps31
  go_upto_region 3 with (fail)
  obtain ⟨W, hW⟩ : ∃ W, W = w.alloc (.cells #[.int .i64 0, .int .i64 0, .int .i64 0, .slice none 0 0, .slice none 0 0] 45) := ⟨_, rfl⟩
  rw [← hW] at HI1 HB HX
  rw [← hW]
  clear hW
  obtain ⟨-, -, vf, hblk, -⟩ := HI1.out
  obtain ⟨-, q1, q2, q3⟩ := hblk.cells
  clear hblk
  have HGL := Aside0.mk HI1.out.lt
  go_region_with (
    go_at_call 25
    refine (All.calls w0 P g v _ (HI1.out.step (below_drew (Below.refl _ _))) (by omega) HGL.out).mono ?_
    rintro e w2 ⟨vy, zs, rfl, hR2, hb2, hL⟩
    rw [HALL.out zs hL] at hR2
    obtain ⟨A2, c2_, e2_, -, -⟩ := Kd.R_reads hR2
    subst e2_
    have HB2 := Aside0.mk (below_then (below_drew (Below.refl W.heap.size W)) (Nat.le_refl _) hb2)
    have HR2 := Aside0.mk hR2
    have HX2 := Aside0.mk ((HB2.out.block _ (blk_lt HX.out)).trans HX.out)
    obtain ⟨-, -, vf2, hblk2, -⟩ := HI1.out.step HB2.out
    obtain ⟨-, p1, p2, p3⟩ := hblk2.cells
    have r0 : w2.cell? ⟨w.heap.size, 0, none⟩ = some (.int .i64 0) := (blk_cell HX2.out 0).trans rfl
    have r1 : w2.cell? ⟨w.heap.size, 1, none⟩ = some (.int .i64 0) := (blk_cell HX2.out 1).trans rfl
    have r2 : w2.cell? ⟨w.heap.size, 2, none⟩ = some (.int .i64 0) := (blk_cell HX2.out 2).trans rfl
    have r3 : w2.cell? ⟨w.heap.size, 3, none⟩ = some (.slice none 0 0) := (blk_cell HX2.out 3).trans rfl
    have r4 : w2.cell? ⟨w.heap.size, 4, none⟩ = some (.slice none 0 0) := (blk_cell HX2.out 4).trans rfl
    have z0 := blk_frozen HX2.out 0
    have z1 := blk_frozen HX2.out 1
    have z2 := blk_frozen HX2.out 2
    have z3 := blk_frozen HX2.out 3
    have z4 := blk_frozen HX2.out 4
    have HE := Aside0.mk (show Below w.heap.size w (((((w2.setCell ⟨w.heap.size, 0, none⟩ (.int .i64 v.next)).setCell ⟨w.heap.size, 1, none⟩ (.int .i64 v.log)).setCell ⟨w.heap.size, 2, none⟩ (.int .i64 v.last)).setCell ⟨w.heap.size, 3, none⟩ (.slice A2 ls.length c2_)).setCell ⟨w.heap.size, 4, none⟩ (.slice none 0 0)) from
      ((((((below_then HB.out HB.out.size HB2.out).setCell (p := ⟨w.heap.size, 0, none⟩) (Nat.le_refl _) _).setCell (p := ⟨w.heap.size, 1, none⟩) (Nat.le_refl _) _).setCell (p := ⟨w.heap.size, 2, none⟩) (Nat.le_refl _) _).setCell (p := ⟨w.heap.size, 3, none⟩) (Nat.le_refl _) _).setCell (p := ⟨w.heap.size, 4, none⟩) (Nat.le_refl _) _))
    have hne : ∀ k, (True ∧ W.heap.size ≤ k) → k ≠ w.heap.size := fun k hk => by have := blk_lt HX.out; have := hk.2; omega
    have HRE := Aside0.mk (show Kd.R k41 41 (((((w2.setCell ⟨w.heap.size, 0, none⟩ (.int .i64 v.next)).setCell ⟨w.heap.size, 1, none⟩ (.int .i64 v.log)).setCell ⟨w.heap.size, 2, none⟩ (.int .i64 v.last)).setCell ⟨w.heap.size, 3, none⟩ (.slice A2 ls.length c2_)).setCell ⟨w.heap.size, 4, none⟩ (.slice none 0 0)) w.heap.size (fun _ => True) (.slice A2 ls.length c2_) ls from
      Kd.R_lower (Kd.R_mono (Kd.R_far (Kd.R_far (Kd.R_far (Kd.R_far (Kd.R_far (R_above HR2.out) (p := ⟨w.heap.size, 0, none⟩) hne (.int .i64 v.next)) (p := ⟨w.heap.size, 1, none⟩) hne (.int .i64 v.log)) (p := ⟨w.heap.size, 2, none⟩) hne (.int .i64 v.last)) (p := ⟨w.heap.size, 3, none⟩) hne (.slice A2 ls.length c2_)) (p := ⟨w.heap.size, 4, none⟩) hne (.slice none 0 0)) (fun _ _ => trivial)) HB.out.size)
    have HRES := Aside0.mk ((blk_set (blk_set (blk_set (blk_set (blk_set HX2.out 0 (.int .i64 v.next)) 1 (.int .i64 v.log)) 2 (.int .i64 v.last)) 3 (.slice A2 ls.length c2_)) 4 (.slice none 0 0)).trans (show _ = some (.cells #[.int .i64 v.next, .int .i64 v.log, .int .i64 v.last, .slice A2 ls.length c2_, .slice none 0 0] 45 (0, 0)) from rfl))
    clear hR2 hb2 hL hblk2 hne)
  all_goals go_wp2
  all_goals (try simp only [Exit.inBlock, Exit.then])
  all_goals refine bodyPost_ret (results_cell_row (P := Try.prog) rfl _ _ w.heap.size 45 #[.int .i64 v.next, .int .i64 v.log, .int .i64 v.last, .slice A2 ls.length c2_, .slice none 0 0] (0, 0) _ rfl HRES.out Try.underlying45 rfl info45) rfl ?_
  all_goals exact ⟨A2, c2_, rfl, HRE.out, HE.out⟩
set_option maxHeartbeats 8000000 in
set_option maxRecDepth 100000 in
theorem VersionAll.calls (Ae : Option Addr) (ce : Nat) (es : List Ed) (n : Int) (sx sy : ByteArray) (w : World) (he : EdAt w Ae es) :
    Calls Try.prog 9 #[.slice Ae es.length ce, .int .i64 n, .string sx, .string sy] w fun e w' => e = .returned (.bool true) ∧ Below w.heap.size w w' := by
  have hu41 := Try.underlying41
  have HE := Aside0.mk he
  clear he
  go_enter Try.func9, Try.ntmps9
  go_wp2_with (first
    | (go_at_call 20
       refine (Begun20.holds _).mono ?_
       rintro e w1 ⟨rfl, hb⟩
       have HB1 := Aside0.mk hb
       clear hb)
    | (go_at_call 28
       refine (Made.calls Ae ce es 15 w _ HB1.out HE.out).mono ?_
       rintro e w2 ⟨g, h, v, rfl, hG, hV, hR, hgh⟩
       have HG := Aside0.mk hG
       have HV := Aside0.mk hV
       have HR := Aside0.mk hR
       have hfl := hG.len
       have HOL := Aside0.mk (fun zs (hh : OverOf n sx sy v.files zs) => over_eq hG hh)
       have hoo : (overL n sx sy v.files).length ≤ 200 := by
         unfold overL overR
         split
         · simp
         · exact Nat.le_trans (List.length_filter_le _ _) (Nat.le_trans (levR_len n v.files) hfl)
       obtain ⟨os, hos⟩ : ∃ os, overL n sx sy v.files = os := ⟨_, rfl⟩
       rw [hos] at HOL hoo
       have HOS := Aside0.mk hos
       obtain ⟨ko, hko⟩ := eq_any os (by omega)
       have HKO := Aside0.mk hko
       clear hG hV hR hgh hos hko)
    | (go_at_call 23
       refine (Over.calls w _ g v n sx sy _ HV.out (by omega)).mono ?_
       rintro e w3 ⟨vo, zs, rfl, hR3, hb3, hO⟩
       rw [HOL.out zs hO] at hR3
       obtain ⟨A3, c3, e3, hc3, hC3⟩ := Kd.R_reads hR3
       subst e3
       have HC3 := Aside0.mk hC3
       have HV3 := Aside0.mk (HV.out.step hb3)
       have HR3 := Aside0.mk (HR.out.step hb3)
       clear hR3 hb3 hO hC3)
    | (go_at_call 30
       refine (over_.calls w _ h v n sx sy _ HR3.out (by omega)).mono ?_
       rintro e w4 ⟨vo, rfl, hR4, hb4⟩
       rw [HOS.out] at hR4
       obtain ⟨A4, c4, e4, hc4, hC4⟩ := Kd.R_reads hR4
       subst e4
       have HC4 := Aside0.mk hC4
       have HC34 := Aside0.mk (Kd.C_below HC3.out hb4)
       have HV4 := Aside0.mk (HV3.out.step hb4)
       have HR4 := Aside0.mk (HR3.out.step hb4)
       clear hR4 hb4 hC4)
    | (go_at_call 29
       refine (incipitref12_EqFiles.calls ko A3 c3 os A4 c4 os true _ HC34.out hc3 HC4.out hc4 HKO.out).mono ?_
       rintro e w5 ⟨rfl, ⟨nd, rfl⟩⟩)
    | (go_at_call 21
       refine (vNew.calls w _ (pw_below_drewN HV4.out.below nd)).mono ?_
       rintro e w6 ⟨g2, rfl, hg2, hI, hb6⟩
       have HI6 := Aside0.mk (hI (fun _ => False))
       have HV6 := Aside0.mk (HV4.out.step (below_then (pw_below_drewN (Below.refl _ _) nd) (Nat.le_refl _) hb6))
       have HR6 := Aside0.mk (HR4.out.step (below_then (pw_below_drewN (Below.refl _ _) nd) (Nat.le_refl _) hb6))
       have HGG := Aside0.mk (show g2 ≠ h ∧ g2 ≠ g by
         have h1 := HV4.out.lt
         have h2 := HR4.out.lt
         have h3 : w4.heap.size ≤ g2 := hg2
         omega)
       clear hg2 hI hb6)
    | (go_at_call 31
       refine (vEdit.calls w _ g v _ HV6.out HG.out).mono ?_
       rintro e w7 ⟨A7, c7, rfl, hR7, hb7⟩
       have HR7 := Aside0.mk (HR6.out.step hb7)
       have HI7 := Aside0.mk (HI6.out.step hb7)
       have hc7 : (allR v.files 5).length ≤ c7 := by
         obtain ⟨A9, c9, e9, hc9, -⟩ := Kd.R_reads hR7
         injection e9 with _ _ e10
         subst e10
         exact hc9
       have HC7 := Aside0.mk (Kd.R_reads' hR7).2.2
       clear hR7 hb7)
    | (go_at_call 22
       refine (Apply.calls w g2 ⟨[], 1, 0, 0⟩ v.next v.log v.last A7 none c7 0 (allR v.files 5) [] _ (HI7.out.wide (fun _ hk => hk.elim)) (by simp) HC7.out hc7 (Kd.C_nil _ _) (Nat.le_refl _) (by simp)).mono ?_
       rintro e w8 hpost
       have hpost2 : e = .returned (.int .i64 0) ∧ VInv w (fun k => k ≠ g2) g2 ⟨allR v.files 5, v.next, v.log, v.last⟩ w8 ∧ Kept w7 w8 (fun k => k = g2) := by
         rw [edit_anew HG.out] at hpost
         rcases hpost with ⟨h1, _⟩ | ⟨v2, h1, h2, h3, h4⟩
         · cases h1
         · cases h1; exact ⟨h2, h3, h4⟩
       obtain ⟨rfl, hv8, hk8⟩ := hpost2
       have HV8 := Aside0.mk hv8
       obtain ⟨-, -, vf8, hvb8, -⟩ := HI7.out
       have HR8 := Aside0.mk ((HR7.out.apart hvb8 (by decide)).kept hv8.below hk8 (fun e => HGG.out.1 e.symm) (fun k hk => hk.2))
       clear hpost hv8 hk8 hvb8)
    | (go_at_call 32
       refine (Same.calls w _ _ g2 h ⟨allR v.files 5, v.next, v.log, v.last⟩ v _ HV8.out HR8.out (VGood.start.ap (edit_anew HG.out)) HG.out (allR_files HG.out) rfl rfl rfl).mono ?_
       rintro e w9 ⟨rfl, hb9⟩
       have HB9 := Aside0.mk (below_then HV8.out.below HV8.out.below.size hb9)
       clear hb9))
  go_ret
  exact ⟨rfl, HB9.out⟩
end Go.Proofs.Ytjhijcehcklipaa.MVe
