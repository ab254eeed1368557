/-
  Versions: a level's tables, walked.
-/
import Derived.Test.YtjhijcehcklipaaZVeW12
namespace Go.Proofs.Ytjhijcehcklipaa.MVe
open Go.RowKit Go.Proofs.YtjhijcehcklipaaW.PrintWords Go.Proofs.YtjhijcehcklipaaW.PrintLast Go.Proofs.YtjhijcehcklipaaW.PrintMore
attribute [local go_sem] max2_int min2_int max_two min_two max_three min_three max_four min_four
set_option linter.unusedVariables false
set_option linter.unusedSimpArgs false

theorem filter_snoc (p : S41 → Bool) (xs : List S41) (x : S41) : (xs ++ [x]).filter p = xs.filter p ++ (if p x = true then [x] else []) := by
  rw [List.filter_append, List.filter_cons, List.filter_nil]
/-- A level's tables, in its order. -/
def LevOf (n : Int) (files ys : List S41) : Prop := ys.Perm (files.filter fun x => x.f1 == n) ∧ ys.Pairwise (fun a c => ltOf (cfL n) c a = false)

set_option maxHeartbeats 2000000 in
set_option maxRecDepth 100000 in
theorem Level.calls (w0 : World) (P : Nat → Prop) (g : Nat) (v : Ver) (n : Int) (w : World) (hI : VInv w0 P g v w) (hl : v.files.length ≤ 1000000) :
    Calls Try.prog 24 #[.pointer (some ⟨g, 0, none⟩), .int .i64 n] w fun e w' => ∃ vf ys, e = .returned vf ∧ Kd.R k41 41 w' w.heap.size (fun _ => True) vf ys ∧ Below w.heap.size w w' ∧ LevOf n v.files ys := by
  have hu41 := Try.underlying41
  have hu93 := Try.underlying93
  obtain ⟨-, -, vh, hblk, hr⟩ := hI
  obtain ⟨A, c, e, hcap, hC⟩ := Kd.R_reads hr
  subst e
  obtain ⟨q0, q1, q2, q3⟩ := hblk.cells
  have HC := Aside0.mk hC
  have HB := Aside0.mk (below_alloc (Below.refl w.heap.size w) (.cells #[.int .i64 n] 3))
  have HX := Aside0.mk (blk_new w (.cells #[.int .i64 n] 3))
  clear hblk hr hC q1 q2 q3
  have hlt0 := World.block_lt_of_cell? w _ q0
  go_enter Try.func24, Try.ntmps24
  go_wp2
  go_loopw [5, 15] (fun s i wr => ∃ (j : Nat) (ys : List S41), j ≤ v.files.length ∧ i = .int .i64 j ∧ Aside0 (ys = (v.files.take j).filter fun x => x.f1 == n) ∧ Aside0 (Kd.R k41 41 wr w.heap.size (fun k => k ≠ w.heap.size) s ys) ∧ Aside0 (Below w.heap.size w wr) ∧ Aside0 (wr.heap[w.heap.size]? = some (.cells #[.int .i64 n] 3 (0, 0)))) (fun _ i _ => v.files.length - (intOf i).toNat)
  case atStart => exact ⟨0, [], Nat.zero_le _, rfl, ⟨rfl⟩, ⟨Kd.R_nil _ _ _ _ _⟩, HB, HX⟩
  case round =>
    clear HB HX
    obtain ⟨j, ys, hj, rfl, HY, HR, HB, HX⟩ := hrel
    have hyl : ys.length ≤ 1000000 := by
      rw [HY.out]
      exact Nat.le_trans (List.length_filter_le _ _) (by rw [List.length_take]; omega)
    by_cases hlt : j < v.files.length
    · obtain ⟨ad, ea, hx0, hx1, hx2, hx3, hx4⟩ := at_T41 (Kd.C_below HC.out HB.out) (j : Int) (by omega) (by omega)
      cases ea
      have e : rd_T41 v.files (j : Int) = v.files[j] := by unfold rd_T41; rw [Int.toNat_natCast, List.getD_eq_getElem?_getD, List.getElem?_eq_getElem hlt, Option.getD_some]
      rw [e, Int.toNat_natCast] at hx0 hx1 hx2 hx3 hx4
      have hd : v.files.take (j + 1) = v.files.take j ++ [v.files[j]] := List.take_succ_eq_append_getElem hlt
      have HD := Aside0.mk (show (v.files.take (j + 1)).filter (fun x => x.f1 == n) = ys ++ (if v.files[j].f1 == n then [v.files[j]] else []) by rw [hd, filter_snoc, ← HY.out])
      clear e hd
      obtain ⟨x, hxx⟩ : ∃ x, v.files[j] = x := ⟨_, rfl⟩
      rw [hxx] at hx0 hx1 hx2 hx3 hx4 HD
      clear hxx
      have hbx : wr.cell? ⟨w.heap.size, 0, none⟩ = some (.int .i64 n) := (blk_cell HX.out 0).trans rfl
      have hltx := World.block_lt_of_cell? wr _ hbx
      by_cases hq : (x.f1 == n) = true
      · rw [if_pos hq] at HD
        have HQ := Aside0.mk hq
        have h1 : decide (x.f1 = n) = true := by simpa using hq
        go_wp2_with (
          at_builtin
          refine Kd.R_append k41 (w0 := w) w.heap.size rfl (.tmp 23) (.tmp 25) 39 41 (.agg #[.int .i64 0, .int .i64 0, .int .i64 0, .string ⟨#[]⟩, .string ⟨#[]⟩]) 56 rfl Try.underlying39 info41 rfl (by decide) (by omega) u5 ys x [.int .i64 x.f0, .int .i64 x.f1, .int .i64 x.f2, .string x.f3, .string x.f4] (fun k => k ≠ w.heap.size) (fun _ => False) rfl (by first | (go_simp; done) | (go_simp; rfl)) ?aP (fun _ hk => hk.elim) ?aF ?aO ?aB ?aS ?aL ?_
          (case aP => exact k41_mkM _ _ _ x)
          (case aF => exact fun k hk => by have h0 : w.heap.size < wr.heap.size := hltx; have h1 : wr.heap.size ≤ k := Nat.le_trans (below_alloc (Below.refl wr.heap.size wr) _).size hk; omega)
          (case aO => exact Kd.R_below HR.out (below_alloc (Below.refl _ _) _))
          (case aB => exact below_alloc HB.out _)
          (case aS => exact Nat.le_trans HB.out.size (below_alloc (Below.refl wr.heap.size wr) _).size)
          (case aL => omega)
          intro v3 w3 ho hb hg hat
          have HR3 := Aside0.mk ho
          have HB3 := Aside0.mk hb
          have HX3 := Aside0.mk (blk_grown (blk_alloc HX.out _) hg (fun e => HR.out.1 _ e.symm rfl))
          clear ho hb hg hat)
        go_roundw
        case rel => exact ⟨j + 1, ys ++ [x], by omega, by go_num, ⟨HD.out.symm⟩, HR3, HB3, HX3⟩
        case measure => simp [intOf]; omega
      · have HQ := Aside0.mk hq
        rw [if_neg hq, List.append_nil] at HD
        have h1 : decide (x.f1 = n) = false := by simpa using hq
        have h2 : ¬ x.f1 = n := by simpa using hq
        have HB1 := Aside0.mk (below_alloc HB.out (.cells #[.int .i64 x.f0, .int .i64 x.f1, .int .i64 x.f2, .string x.f3, .string x.f4] 41))
        have HR1 := Aside0.mk (Kd.R_below HR.out (below_alloc (Below.refl _ _) (.cells #[.int .i64 x.f0, .int .i64 x.f1, .int .i64 x.f2, .string x.f3, .string x.f4] 41)))
        have HX1 := Aside0.mk (blk_alloc HX.out (.cells #[.int .i64 x.f0, .int .i64 x.f1, .int .i64 x.f2, .string x.f3, .string x.f4] 41))
        go_wp2
        go_roundw
        case rel => exact ⟨j + 1, ys, by omega, by go_num, ⟨HD.out.symm⟩, HR1, HB1, HX1⟩
        case measure => simp [intOf]; omega
    · obtain rfl : j = v.files.length := by omega
      rw [List.take_length] at HY
      go_wp2_with (
        go_at_call 59
        refine (SortL.calls w.heap.size n u5 ys (fun k => k ≠ w.heap.size) w _ HR.out HB.out HX.out (fun k hk => hk) (by omega)).mono ?_
        rintro e w3 ⟨rfl, zs, hp, hs, hR3, hb3, hk3⟩
        have HP3 := Aside0.mk hp
        have HS3 := Aside0.mk hs
        have HR3 := Aside0.mk hR3
        have HB3 := Aside0.mk hb3
        clear hp hs hR3 hb3 hk3)
      go_ret
      exact ⟨_, zs, rfl, Kd.R_mono HR3.out (fun _ _ => trivial), HB3.out, by rw [← HY.out]; exact HP3.out, HS3.out⟩
end Go.Proofs.Ytjhijcehcklipaa.MVe
