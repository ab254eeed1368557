/-
  Edits: may an edit be? Walked.
-/
import Derived.Test.YtjhijcehcklipaaZVeW4
namespace Go.Proofs.Ytjhijcehcklipaa.MVe
open Go.RowKit Go.Proofs.YtjhijcehcklipaaW.PrintWords Go.Proofs.YtjhijcehcklipaaW.PrintLast Go.Proofs.YtjhijcehcklipaaW.PrintMore
attribute [local go_sem] max2_int min2_int max_two min_two max_three min_three max_four min_four
set_option linter.unusedVariables false
set_option linter.unusedSimpArgs false

/-- Are numbers from a to b? -/
def inB (a b : Int) (l : List Int) : Bool := l.all fun n => decide (a ≤ n) && decide (n ≤ b)
theorem in_l (a b : Int) (l : List Int) (hl : l.length ≤ 1000000) : ∀ (d : Nat) (rest pre : List Int), rest.length ≤ d → l = pre ++ rest → ∃ k, edit_in.l0 k a b l (l.length : Int) (pre.length : Int) = some (inB a b rest)
  | d, [], pre, _, e => by
    rw [List.append_nil] at e
    subst e
    refine ⟨1, ?_⟩
    rw [edit_in.l0, if_neg (by omega)]; rfl
  | 0, c :: rest, pre, h, e => by simp at h
  | d + 1, c :: rest, pre, h, e => by
    have hlen : l.length = pre.length + 1 + rest.length := by rw [e]; simp; omega
    have hr : rd l (pre.length : Int) = c := by rw [e]; simp [rd]
    obtain ⟨k, ih⟩ := in_l a b l hl d rest (pre ++ [c]) (by simpa using h) (by rw [e]; simp)
    have hp : ((pre ++ [c]).length : Int) = (pre.length : Int) + 1 := by rw [List.length_append]; rfl
    have hi : inB a b (c :: rest) = ((decide (a ≤ c) && decide (c ≤ b)) && inB a b rest) := rfl
    rw [hp] at ih
    refine ⟨k + 1, ?_⟩
    rw [edit_in.l0, if_pos (by omega), if_pos (by omega), if_pos (by omega), hr, hi]
    by_cases h1 : c < a
    · rw [if_pos h1, decide_eq_false (show ¬ a ≤ c by omega)]; rfl
    · rw [if_neg h1, decide_eq_true (show a ≤ c by omega)]
      by_cases h2 : c > b
      · rw [if_pos h2, decide_eq_false (show ¬ c ≤ b by omega)]; rfl
      · rw [if_neg h2, decide_eq_true (show c ≤ b by omega), w64_s (by omega) (by omega), ih]; rfl
theorem in_any (a b : Int) (l : List Int) (hl : l.length ≤ 1000000) : ∃ k, edit_in.f k a b l = some (inB a b l) := in_l a b l hl l.length l [] (Nat.le_refl _) rfl
theorem litI_C (W : World) (p : List Int) (h : p.length ≤ 1000) : Kd.C (Kd.int .i64) (W.alloc (.cells (nums .i64 p).toArray 2)) (some ⟨W.heap.size, 0, none⟩) p.length p := by
  have h1 := own_lit W 0 2 .i64 p (Nat.zero_le _) (by omega)
  have h2 : Kd.R (Kd.int .i64) 2 (W.alloc (.cells (nums .i64 p).toArray 2)) 0 (fun _ => True) (.slice (some ⟨W.heap.size, 0, none⟩) p.length p.length) p := Kd.R_of_own h1 (fun _ _ => trivial)
  exact (Kd.R_reads' h2).2.2
/-- May a table be? -/
def fileOk (x : S41) : Bool := inB 1 1125899906842624 [x.f0] && (inB 0 4 [x.f1] && (inB 0 16777216 [x.f2] && ((Op.bytesLess x.f3.toList x.f4.toList || x.f3.toList == x.f4.toList) && (decide ((x.f3.size : Int) ≤ 13000) && decide ((x.f4.size : Int) ≤ 13000)))))
theorem xcells {w : World} {b : Nat} {x : S41} (h : w.heap[b]? = some (.cells #[.int .i64 x.f0, .int .i64 x.f1, .int .i64 x.f2, .string x.f3, .string x.f4] 41 (0, 0))) : w.cell? ⟨b, 0, none⟩ = some (.int .i64 x.f0) ∧ w.cell? ⟨b, 1, none⟩ = some (.int .i64 x.f1) ∧ w.cell? ⟨b, 2, none⟩ = some (.int .i64 x.f2) ∧ w.cell? ⟨b, 3, none⟩ = some (.string x.f3) ∧ w.cell? ⟨b, 4, none⟩ = some (.string x.f4) :=
  ⟨(blk_cell h 0).trans rfl, (blk_cell h 1).trans rfl, (blk_cell h 2).trans rfl, (blk_cell h 3).trans rfl, (blk_cell h 4).trans rfl⟩
set_option maxHeartbeats 600000 in
set_option maxRecDepth 100000 in
theorem file.calls (x : S41) (w : World) : Calls Try.prog 78 #[fv x] w fun e w' => e = .returned (.bool (fileOk x)) ∧ Below w.heap.size w w' := by
  have hu41 := Try.underlying41
  have HB := Aside0.mk (below_alloc (Below.refl w.heap.size w) (.cells #[.int .i64 x.f0, .int .i64 x.f1, .int .i64 x.f2, .string x.f3, .string x.f4] 41))
  have hb0 := blk_new w (.cells #[.int .i64 x.f0, .int .i64 x.f1, .int .i64 x.f2, .string x.f3, .string x.f4] 41)
  have HK := Aside0.mk hb0
  clear hb0
  obtain ⟨y1, hy1⟩ : ∃ y : List Int, y = [x.f0] := ⟨_, rfl⟩
  obtain ⟨k1, h1⟩ := in_any 1 1125899906842624 y1 (by rw [hy1]; simp)
  obtain ⟨y2, hy2⟩ : ∃ y : List Int, y = [x.f1] := ⟨_, rfl⟩
  obtain ⟨k2, h2⟩ := in_any 0 4 y2 (by rw [hy2]; simp)
  obtain ⟨y3, hy3⟩ : ∃ y : List Int, y = [x.f2] := ⟨_, rfl⟩
  obtain ⟨k3, h3⟩ := in_any 0 16777216 y3 (by rw [hy3]; simp)
  unfold fileOk
  rw [← hy1]
  generalize inB 1 1125899906842624 y1 = b1 at h1
  have HY1 := Aside0.mk hy1
  clear hy1
  rw [← hy2]
  generalize inB 0 4 y2 = b2 at h2
  have HY2 := Aside0.mk hy2
  clear hy2
  rw [← hy3]
  generalize inB 0 16777216 y3 = b3 at h3
  have HY3 := Aside0.mk hy3
  clear hy3
  have H1 := Aside0.mk h1
  have H2 := Aside0.mk h2
  have H3 := Aside0.mk h3
  clear h1 h2 h3
  cases b1 with
  | false =>
    unfold fv
    go_enter Try.func78, Try.ntmps78
    go_wp2_with (first
           | ((with_reducible refine gate_dst (N := 5) rfl ?_)
              (try (refine gate_guard (by rfl) ?_; dsimp only))
              refine Kd.R_lit (Kd.int .i64) (w0 := w) w.heap.size 2 ?hg (N := 5) ?hd (xs := [x.f0]) (inner := [.int .i64 x.f0]) (ok := fun _ => True) (okp := fun _ => True) ?hr ?hp (fun _ hk => hk) trivial ?aB ?aS (by simp) ?_
              (case hd => rfl)
              (case hg => rfl)
              (case hr => first | (go_simp; done) | (go_simp; rfl))
              (case hp => exact Reps.one (show Kd.M (Kd.int .i64) _ _ _ (x.f0) [.int .i64 (x.f0)] from rfl) (Reps.none _ _))
              (case aB => exact HB.out)
              (case aS => exact (HB.out).size)
              intro v5 w5 ho hb hg hat
              rw [← HY1.out] at ho
              obtain ⟨A5, c5, e5, hc5, hC5⟩ := Kd.R_reads ho
              subst e5
              have HC5 := Aside0.mk hC5
              have HCL5 := Aside0.mk hc5
              have HB5 := Aside0.mk hb
              have HK5 := Aside0.mk ((hg.block w.heap.size (blk_lt HK.out) (by simp)).trans HK.out)
              obtain ⟨q5_0, q5_1, q5_2, q5_3, q5_4⟩ := xcells HK5.out
              clear ho hb hg hat hC5 hc5)
           | (go_at_call 77
              (with_reducible refine (edit_in.calls k1 1 1125899906842624 A5 c5 y1 false _ HC5.out HCL5.out H1.out).mono ?_)
              rintro e w' ⟨rfl, ⟨nd1, rfl⟩⟩))
    go_ret
    exact ⟨rfl, pw_below_drewN HB5.out _⟩
  | true =>
    cases b2 with
    | false =>
      unfold fv
      go_enter Try.func78, Try.ntmps78
      go_wp2_with (first
             | ((with_reducible refine gate_dst (N := 5) rfl ?_)
                (try (refine gate_guard (by rfl) ?_; dsimp only))
                refine Kd.R_lit (Kd.int .i64) (w0 := w) w.heap.size 2 ?hg (N := 5) ?hd (xs := [x.f0]) (inner := [.int .i64 x.f0]) (ok := fun _ => True) (okp := fun _ => True) ?hr ?hp (fun _ hk => hk) trivial ?aB ?aS (by simp) ?_
                (case hd => rfl)
                (case hg => rfl)
                (case hr => first | (go_simp; done) | (go_simp; rfl))
                (case hp => exact Reps.one (show Kd.M (Kd.int .i64) _ _ _ (x.f0) [.int .i64 (x.f0)] from rfl) (Reps.none _ _))
                (case aB => exact HB.out)
                (case aS => exact (HB.out).size)
                intro v5 w5 ho hb hg hat
                rw [← HY1.out] at ho
                obtain ⟨A5, c5, e5, hc5, hC5⟩ := Kd.R_reads ho
                subst e5
                have HC5 := Aside0.mk hC5
                have HCL5 := Aside0.mk hc5
                have HB5 := Aside0.mk hb
                have HK5 := Aside0.mk ((hg.block w.heap.size (blk_lt HK.out) (by simp)).trans HK.out)
                obtain ⟨q5_0, q5_1, q5_2, q5_3, q5_4⟩ := xcells HK5.out
                clear ho hb hg hat hC5 hc5)
             | (go_at_call 77
                (with_reducible refine (edit_in.calls k1 1 1125899906842624 A5 c5 y1 true _ HC5.out HCL5.out H1.out).mono ?_)
                rintro e w' ⟨rfl, ⟨nd1, rfl⟩⟩)
             | ((with_reducible refine gate_dst (N := 10) rfl ?_)
                (try (refine gate_guard (by rfl) ?_; dsimp only))
                refine Kd.R_lit (Kd.int .i64) (w0 := w) w.heap.size 2 ?hg (N := 10) ?hd (xs := [x.f1]) (inner := [.int .i64 x.f1]) (ok := fun _ => True) (okp := fun _ => True) ?hr ?hp (fun _ hk => hk) trivial ?aB ?aS (by simp) ?_
                (case hd => rfl)
                (case hg => rfl)
                (case hr => first | (go_simp; done) | (go_simp; rfl))
                (case hp => exact Reps.one (show Kd.M (Kd.int .i64) _ _ _ (x.f1) [.int .i64 (x.f1)] from rfl) (Reps.none _ _))
                (case aB => exact (pw_below_drewN HB5.out nd1))
                (case aS => exact ((pw_below_drewN HB5.out nd1)).size)
                intro v10 w10 ho hb hg hat
                rw [← HY2.out] at ho
                obtain ⟨A10, c10, e10, hc10, hC10⟩ := Kd.R_reads ho
                subst e10
                have HC10 := Aside0.mk hC10
                have HCL10 := Aside0.mk hc10
                have HB10 := Aside0.mk hb
                have HK10 := Aside0.mk ((hg.block w.heap.size (blk_lt (show (w5.drewN nd1).heap[w.heap.size]? = _ from HK5.out)) (by simp)).trans (show (w5.drewN nd1).heap[w.heap.size]? = _ from HK5.out))
                obtain ⟨q10_0, q10_1, q10_2, q10_3, q10_4⟩ := xcells HK10.out
                clear ho hb hg hat hC10 hc10)
             | (go_at_call 77
                (with_reducible refine (edit_in.calls k2 0 4 A10 c10 y2 false _ HC10.out HCL10.out H2.out).mono ?_)
                rintro e w' ⟨rfl, ⟨nd2, rfl⟩⟩))
      go_ret
      exact ⟨rfl, pw_below_drewN HB10.out _⟩
    | true =>
      cases b3 with
      | false =>
        unfold fv
        go_enter Try.func78, Try.ntmps78
        go_wp2_with (first
               | ((with_reducible refine gate_dst (N := 5) rfl ?_)
                  (try (refine gate_guard (by rfl) ?_; dsimp only))
                  refine Kd.R_lit (Kd.int .i64) (w0 := w) w.heap.size 2 ?hg (N := 5) ?hd (xs := [x.f0]) (inner := [.int .i64 x.f0]) (ok := fun _ => True) (okp := fun _ => True) ?hr ?hp (fun _ hk => hk) trivial ?aB ?aS (by simp) ?_
                  (case hd => rfl)
                  (case hg => rfl)
                  (case hr => first | (go_simp; done) | (go_simp; rfl))
                  (case hp => exact Reps.one (show Kd.M (Kd.int .i64) _ _ _ (x.f0) [.int .i64 (x.f0)] from rfl) (Reps.none _ _))
                  (case aB => exact HB.out)
                  (case aS => exact (HB.out).size)
                  intro v5 w5 ho hb hg hat
                  rw [← HY1.out] at ho
                  obtain ⟨A5, c5, e5, hc5, hC5⟩ := Kd.R_reads ho
                  subst e5
                  have HC5 := Aside0.mk hC5
                  have HCL5 := Aside0.mk hc5
                  have HB5 := Aside0.mk hb
                  have HK5 := Aside0.mk ((hg.block w.heap.size (blk_lt HK.out) (by simp)).trans HK.out)
                  obtain ⟨q5_0, q5_1, q5_2, q5_3, q5_4⟩ := xcells HK5.out
                  clear ho hb hg hat hC5 hc5)
               | (go_at_call 77
                  (with_reducible refine (edit_in.calls k1 1 1125899906842624 A5 c5 y1 true _ HC5.out HCL5.out H1.out).mono ?_)
                  rintro e w' ⟨rfl, ⟨nd1, rfl⟩⟩)
               | ((with_reducible refine gate_dst (N := 10) rfl ?_)
                  (try (refine gate_guard (by rfl) ?_; dsimp only))
                  refine Kd.R_lit (Kd.int .i64) (w0 := w) w.heap.size 2 ?hg (N := 10) ?hd (xs := [x.f1]) (inner := [.int .i64 x.f1]) (ok := fun _ => True) (okp := fun _ => True) ?hr ?hp (fun _ hk => hk) trivial ?aB ?aS (by simp) ?_
                  (case hd => rfl)
                  (case hg => rfl)
                  (case hr => first | (go_simp; done) | (go_simp; rfl))
                  (case hp => exact Reps.one (show Kd.M (Kd.int .i64) _ _ _ (x.f1) [.int .i64 (x.f1)] from rfl) (Reps.none _ _))
                  (case aB => exact (pw_below_drewN HB5.out nd1))
                  (case aS => exact ((pw_below_drewN HB5.out nd1)).size)
                  intro v10 w10 ho hb hg hat
                  rw [← HY2.out] at ho
                  obtain ⟨A10, c10, e10, hc10, hC10⟩ := Kd.R_reads ho
                  subst e10
                  have HC10 := Aside0.mk hC10
                  have HCL10 := Aside0.mk hc10
                  have HB10 := Aside0.mk hb
                  have HK10 := Aside0.mk ((hg.block w.heap.size (blk_lt (show (w5.drewN nd1).heap[w.heap.size]? = _ from HK5.out)) (by simp)).trans (show (w5.drewN nd1).heap[w.heap.size]? = _ from HK5.out))
                  obtain ⟨q10_0, q10_1, q10_2, q10_3, q10_4⟩ := xcells HK10.out
                  clear ho hb hg hat hC10 hc10)
               | (go_at_call 77
                  (with_reducible refine (edit_in.calls k2 0 4 A10 c10 y2 true _ HC10.out HCL10.out H2.out).mono ?_)
                  rintro e w' ⟨rfl, ⟨nd2, rfl⟩⟩)
               | ((with_reducible refine gate_dst (N := 16) rfl ?_)
                  (try (refine gate_guard (by rfl) ?_; dsimp only))
                  refine Kd.R_lit (Kd.int .i64) (w0 := w) w.heap.size 2 ?hg (N := 16) ?hd (xs := [x.f2]) (inner := [.int .i64 x.f2]) (ok := fun _ => True) (okp := fun _ => True) ?hr ?hp (fun _ hk => hk) trivial ?aB ?aS (by simp) ?_
                  (case hd => rfl)
                  (case hg => rfl)
                  (case hr => first | (go_simp; done) | (go_simp; rfl))
                  (case hp => exact Reps.one (show Kd.M (Kd.int .i64) _ _ _ (x.f2) [.int .i64 (x.f2)] from rfl) (Reps.none _ _))
                  (case aB => exact (pw_below_drewN HB10.out nd2))
                  (case aS => exact ((pw_below_drewN HB10.out nd2)).size)
                  intro v16 w16 ho hb hg hat
                  rw [← HY3.out] at ho
                  obtain ⟨A16, c16, e16, hc16, hC16⟩ := Kd.R_reads ho
                  subst e16
                  have HC16 := Aside0.mk hC16
                  have HCL16 := Aside0.mk hc16
                  have HB16 := Aside0.mk hb
                  have HK16 := Aside0.mk ((hg.block w.heap.size (blk_lt (show (w10.drewN nd2).heap[w.heap.size]? = _ from HK10.out)) (by simp)).trans (show (w10.drewN nd2).heap[w.heap.size]? = _ from HK10.out))
                  obtain ⟨q16_0, q16_1, q16_2, q16_3, q16_4⟩ := xcells HK16.out
                  clear ho hb hg hat hC16 hc16)
               | (go_at_call 77
                  (with_reducible refine (edit_in.calls k3 0 16777216 A16 c16 y3 false _ HC16.out HCL16.out H3.out).mono ?_)
                  rintro e w' ⟨rfl, ⟨nd3, rfl⟩⟩))
        go_ret
        exact ⟨rfl, pw_below_drewN HB16.out _⟩
      | true =>
        cases hA : Op.bytesLess x.f3.toList x.f4.toList <;> cases hE : (x.f3.toList == x.f4.toList) <;> by_cases hs : (x.f3.size : Int) ≤ 13000
        all_goals
          first
          | have hs1 : decide ((x.f3.size : Int) ≤ 13000) = true := decide_eq_true hs
          | have hs1 : decide ((x.f3.size : Int) ≤ 13000) = false := decide_eq_false hs
          first
          | have hs2 : decide (x.f3.size ≤ 13000) = true := decide_eq_true (by omega)
          | have hs2 : decide (x.f3.size ≤ 13000) = false := decide_eq_false (by omega)
          rw [hs1]
          have HS := Aside0.mk hs1
          clear hs
          unfold fv
          go_enter Try.func78, Try.ntmps78
          go_wp2_with (first
                 | ((with_reducible refine gate_dst (N := 5) rfl ?_)
                    (try (refine gate_guard (by rfl) ?_; dsimp only))
                    refine Kd.R_lit (Kd.int .i64) (w0 := w) w.heap.size 2 ?hg (N := 5) ?hd (xs := [x.f0]) (inner := [.int .i64 x.f0]) (ok := fun _ => True) (okp := fun _ => True) ?hr ?hp (fun _ hk => hk) trivial ?aB ?aS (by simp) ?_
                    (case hd => rfl)
                    (case hg => rfl)
                    (case hr => first | (go_simp; done) | (go_simp; rfl))
                    (case hp => exact Reps.one (show Kd.M (Kd.int .i64) _ _ _ (x.f0) [.int .i64 (x.f0)] from rfl) (Reps.none _ _))
                    (case aB => exact HB.out)
                    (case aS => exact (HB.out).size)
                    intro v5 w5 ho hb hg hat
                    rw [← HY1.out] at ho
                    obtain ⟨A5, c5, e5, hc5, hC5⟩ := Kd.R_reads ho
                    subst e5
                    have HC5 := Aside0.mk hC5
                    have HCL5 := Aside0.mk hc5
                    have HB5 := Aside0.mk hb
                    have HK5 := Aside0.mk ((hg.block w.heap.size (blk_lt HK.out) (by simp)).trans HK.out)
                    obtain ⟨q5_0, q5_1, q5_2, q5_3, q5_4⟩ := xcells HK5.out
                    clear ho hb hg hat hC5 hc5)
                 | (go_at_call 77
                    (with_reducible refine (edit_in.calls k1 1 1125899906842624 A5 c5 y1 true _ HC5.out HCL5.out H1.out).mono ?_)
                    rintro e w' ⟨rfl, ⟨nd1, rfl⟩⟩)
                 | ((with_reducible refine gate_dst (N := 10) rfl ?_)
                    (try (refine gate_guard (by rfl) ?_; dsimp only))
                    refine Kd.R_lit (Kd.int .i64) (w0 := w) w.heap.size 2 ?hg (N := 10) ?hd (xs := [x.f1]) (inner := [.int .i64 x.f1]) (ok := fun _ => True) (okp := fun _ => True) ?hr ?hp (fun _ hk => hk) trivial ?aB ?aS (by simp) ?_
                    (case hd => rfl)
                    (case hg => rfl)
                    (case hr => first | (go_simp; done) | (go_simp; rfl))
                    (case hp => exact Reps.one (show Kd.M (Kd.int .i64) _ _ _ (x.f1) [.int .i64 (x.f1)] from rfl) (Reps.none _ _))
                    (case aB => exact (pw_below_drewN HB5.out nd1))
                    (case aS => exact ((pw_below_drewN HB5.out nd1)).size)
                    intro v10 w10 ho hb hg hat
                    rw [← HY2.out] at ho
                    obtain ⟨A10, c10, e10, hc10, hC10⟩ := Kd.R_reads ho
                    subst e10
                    have HC10 := Aside0.mk hC10
                    have HCL10 := Aside0.mk hc10
                    have HB10 := Aside0.mk hb
                    have HK10 := Aside0.mk ((hg.block w.heap.size (blk_lt (show (w5.drewN nd1).heap[w.heap.size]? = _ from HK5.out)) (by simp)).trans (show (w5.drewN nd1).heap[w.heap.size]? = _ from HK5.out))
                    obtain ⟨q10_0, q10_1, q10_2, q10_3, q10_4⟩ := xcells HK10.out
                    clear ho hb hg hat hC10 hc10)
                 | (go_at_call 77
                    (with_reducible refine (edit_in.calls k2 0 4 A10 c10 y2 true _ HC10.out HCL10.out H2.out).mono ?_)
                    rintro e w' ⟨rfl, ⟨nd2, rfl⟩⟩)
                 | ((with_reducible refine gate_dst (N := 16) rfl ?_)
                    (try (refine gate_guard (by rfl) ?_; dsimp only))
                    refine Kd.R_lit (Kd.int .i64) (w0 := w) w.heap.size 2 ?hg (N := 16) ?hd (xs := [x.f2]) (inner := [.int .i64 x.f2]) (ok := fun _ => True) (okp := fun _ => True) ?hr ?hp (fun _ hk => hk) trivial ?aB ?aS (by simp) ?_
                    (case hd => rfl)
                    (case hg => rfl)
                    (case hr => first | (go_simp; done) | (go_simp; rfl))
                    (case hp => exact Reps.one (show Kd.M (Kd.int .i64) _ _ _ (x.f2) [.int .i64 (x.f2)] from rfl) (Reps.none _ _))
                    (case aB => exact (pw_below_drewN HB10.out nd2))
                    (case aS => exact ((pw_below_drewN HB10.out nd2)).size)
                    intro v16 w16 ho hb hg hat
                    rw [← HY3.out] at ho
                    obtain ⟨A16, c16, e16, hc16, hC16⟩ := Kd.R_reads ho
                    subst e16
                    have HC16 := Aside0.mk hC16
                    have HCL16 := Aside0.mk hc16
                    have HB16 := Aside0.mk hb
                    have HK16 := Aside0.mk ((hg.block w.heap.size (blk_lt (show (w10.drewN nd2).heap[w.heap.size]? = _ from HK10.out)) (by simp)).trans (show (w10.drewN nd2).heap[w.heap.size]? = _ from HK10.out))
                    obtain ⟨q16_0, q16_1, q16_2, q16_3, q16_4⟩ := xcells HK16.out
                    clear ho hb hg hat hC16 hc16)
                 | (go_at_call 77
                    (with_reducible refine (edit_in.calls k3 0 16777216 A16 c16 y3 true _ HC16.out HCL16.out H3.out).mono ?_)
                    rintro e w' ⟨rfl, ⟨nd3, rfl⟩⟩))
          go_ret
          exact ⟨by first | rfl | simp, pw_below_drewN HB16.out _⟩
end Go.Proofs.Ytjhijcehcklipaa.MVe
