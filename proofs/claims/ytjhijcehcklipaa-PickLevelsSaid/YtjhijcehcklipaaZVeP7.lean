/-
  PickAll, walked.
-/
import Derived.Test.YtjhijcehcklipaaZVeP5
import Derived.Test.YtjhijcehcklipaaZVeR9
import Derived.Test.YtjhijcehcklipaaZBegun26
namespace Go.Proofs.Ytjhijcehcklipaa.MVe
open Go.RowKit Go.Proofs.YtjhijcehcklipaaW.PrintWords Go.Proofs.YtjhijcehcklipaaW.PrintLast Go.Proofs.YtjhijcehcklipaaW.PrintMore
attribute [local go_sem] max2_int min2_int max_two min_two max_three min_three max_four min_four
set_option linter.unusedVariables false
set_option linter.unusedSimpArgs false

theorem overL_in {n : Int} (h0 : 0 ≤ n) (h4 : n ≤ 4) (a b : ByteArray) (files : List S41) : overL n a b files = overR n a b files := by
  unfold overL
  rw [if_neg (by omega)]
theorem size68 : (Try.prog.info? 68).map (fun i => i.size) = some 4 := by kernel_rfl
/-- Pick's state: the result's block, the job's. -/
structure PSt (w : World) (J : Nat) (lv : Int) (vi vb : Value) (ins bel : List S41) (bot : Bool) (W : World) : Prop where
  below : Below w.heap.size w W
  res : W.heap[w.heap.size]? = some (.cells #[.int .i64 0, .slice none 0 0, .slice none 0 0, .bool false] 68 (0, 0))
  job : W.heap[J]? = some (.cells #[.int .i64 lv, vi, vb, .bool bot] 68 (0, 0))
  ord : w.heap.size < J
  ri : Kd.R k41 41 W w.heap.size (fun k => k ≠ w.heap.size ∧ k ≠ J) vi ins
  rb : Kd.R k41 41 W w.heap.size (fun k => k ≠ w.heap.size ∧ k ≠ J) vb bel
theorem PSt.step {w W W2 : World} {J : Nat} {lv : Int} {vi vb : Value} {ins bel : List S41} {bot : Bool} (h : PSt w J lv vi vb ins bel bot W) (hb : Below W.heap.size W W2) : PSt w J lv vi vb ins bel bot W2 := by
  obtain ⟨h1, h2, h3, h4, h5, h6⟩ := h
  exact ⟨below_then h1 h1.size hb, (hb.block _ (blk_lt h2)).trans h2, (hb.block _ (blk_lt h3)).trans h3, h4, Kd.R_below h5 hb, Kd.R_below h6 hb⟩
theorem PSt.set0 {w W : World} {J : Nat} {lv : Int} {vi vb : Value} {ins bel : List S41} {bot : Bool} (h : PSt w J lv vi vb ins bel bot W) (n : Int) : PSt w J n vi vb ins bel bot (W.setCell ⟨J, 0, none⟩ (.int .i64 n)) := by
  obtain ⟨h1, h2, h3, h4, h5, h6⟩ := h
  exact ⟨h1.setCell (p := ⟨J, 0, none⟩) (Nat.le_of_lt h4) _, blk_far (p := ⟨J, 0, none⟩) h2 (Nat.ne_of_lt h4) _, (blk_set h3 0 _).trans rfl, h4, Kd.R_far h5 (p := ⟨J, 0, none⟩) (fun k hk => hk.2) _, Kd.R_far h6 (p := ⟨J, 0, none⟩) (fun k hk => hk.2) _⟩
theorem PSt.set1 {w W : World} {J : Nat} {lv : Int} {vi vb : Value} {ins bel : List S41} {bot : Bool} (h : PSt w J lv vi vb ins bel bot W) {u : Value} {l : List S41} (hu : Kd.R k41 41 W w.heap.size (fun k => k ≠ w.heap.size ∧ k ≠ J) u l) : PSt w J lv u vb l bel bot (W.setCell ⟨J, 1, none⟩ u) := by
  obtain ⟨h1, h2, h3, h4, h5, h6⟩ := h
  exact ⟨h1.setCell (p := ⟨J, 1, none⟩) (Nat.le_of_lt h4) _, blk_far (p := ⟨J, 1, none⟩) h2 (Nat.ne_of_lt h4) _, (blk_set h3 1 _).trans rfl, h4, Kd.R_far hu (p := ⟨J, 1, none⟩) (fun k hk => hk.2) _, Kd.R_far h6 (p := ⟨J, 1, none⟩) (fun k hk => hk.2) _⟩
theorem PSt.set2 {w W : World} {J : Nat} {lv : Int} {vi vb : Value} {ins bel : List S41} {bot : Bool} (h : PSt w J lv vi vb ins bel bot W) {u : Value} {l : List S41} (hu : Kd.R k41 41 W w.heap.size (fun k => k ≠ w.heap.size ∧ k ≠ J) u l) : PSt w J lv vi u ins l bot (W.setCell ⟨J, 2, none⟩ u) := by
  obtain ⟨h1, h2, h3, h4, h5, h6⟩ := h
  exact ⟨h1.setCell (p := ⟨J, 2, none⟩) (Nat.le_of_lt h4) _, blk_far (p := ⟨J, 2, none⟩) h2 (Nat.ne_of_lt h4) _, (blk_set h3 2 _).trans rfl, h4, Kd.R_far h5 (p := ⟨J, 2, none⟩) (fun k hk => hk.2) _, Kd.R_far hu (p := ⟨J, 2, none⟩) (fun k hk => hk.2) _⟩
theorem PSt.set3 {w W : World} {J : Nat} {lv : Int} {vi vb : Value} {ins bel : List S41} {bot : Bool} (h : PSt w J lv vi vb ins bel bot W) (b : Bool) : PSt w J lv vi vb ins bel b (W.setCell ⟨J, 3, none⟩ (.bool b)) := by
  obtain ⟨h1, h2, h3, h4, h5, h6⟩ := h
  exact ⟨h1.setCell (p := ⟨J, 3, none⟩) (Nat.le_of_lt h4) _, blk_far (p := ⟨J, 3, none⟩) h2 (Nat.ne_of_lt h4) _, (blk_set h3 3 _).trans rfl, h4, Kd.R_far h5 (p := ⟨J, 3, none⟩) (fun k hk => hk.2) _, Kd.R_far h6 (p := ⟨J, 3, none⟩) (fun k hk => hk.2) _⟩
theorem PSt.row {w W W2 : World} {J : Nat} {lv : Int} {vi vb : Value} {ins bel : List S41} {bot : Bool} (h : PSt w J lv vi vb ins bel bot W) {Q : Nat → Prop} {u : Value} {l : List S41} (hu : Kd.R k41 41 W2 W.heap.size Q u l) : Kd.R k41 41 W2 w.heap.size (fun k => k ≠ w.heap.size ∧ k ≠ J) u l := by
  have h1 := blk_lt h.res
  have h2 := blk_lt h.job
  exact Kd.R_lower (Kd.R_mono (R_above hu) (fun k hk => by have := hk.2; exact ⟨by omega, by omega⟩)) h.below.size
theorem PSt.cells {w W : World} {J : Nat} {lv : Int} {vi vb : Value} {ins bel : List S41} {bot : Bool} (h : PSt w J lv vi vb ins bel bot W) :
    (W.cell? ⟨J, 0, none⟩ = some (.int .i64 lv) ∧ W.cell? ⟨J, 1, none⟩ = some vi ∧ W.cell? ⟨J, 2, none⟩ = some vb ∧ W.cell? ⟨J, 3, none⟩ = some (.bool bot)) ∧ W.frozen? ⟨J, 0, none⟩ = false ∧ W.frozen? ⟨J, 1, none⟩ = false ∧ W.frozen? ⟨J, 2, none⟩ = false ∧ W.frozen? ⟨J, 3, none⟩ = false :=
  ⟨⟨(blk_cell h.job 0).trans rfl, (blk_cell h.job 1).trans rfl, (blk_cell h.job 2).trans rfl, (blk_cell h.job 3).trans rfl⟩, blk_frozen h.job 0, blk_frozen h.job 1, blk_frozen h.job 2, blk_frozen h.job 3⟩
theorem PSt.start (w : World) : PSt w (w.heap.size + 1) (-1) (.slice none 0 0) (.slice none 0 0) [] [] false ((w.alloc (.cells #[.int .i64 0, .slice none 0 0, .slice none 0 0, .bool false] 68)).alloc (.cells #[.int .i64 (-1), .slice none 0 0, .slice none 0 0, .bool false] 68)) :=
  ⟨below_alloc (below_alloc (Below.refl _ _) _) _, blk_alloc (blk_new _ _) _, by have h := blk_new (w.alloc (.cells #[.int .i64 0, .slice none 0 0, .slice none 0 0, .bool false] 68)) (.cells #[.int .i64 (-1), .slice none 0 0, .slice none 0 0, .bool false] 68); simpa using h, Nat.lt_succ_self _, Kd.R_nil _ _ _ _ _, Kd.R_nil _ _ _ _ _⟩
/-- What the first loop has found by level j. -/
def Found (files : List S41) (j : Nat) (lv : Int) (ins : List S41) : Prop := (lv = -1 ∧ ins = [] ∧ inD files = (scanR files (4 - j) j).getD (0, [])) ∨ (0 ≤ lv ∧ lv ≤ 3 ∧ inD files = (lv, ins) ∧ 0 < ins.length ∧ ins.length ≤ 200)
/-- What the loop hands on. -/
def Done (files : List S41) (lv : Int) (ins : List S41) : Prop := (lv = -1 ∧ (inD files).2 = []) ∨ (0 ≤ lv ∧ lv ≤ 3 ∧ inD files = (lv, ins) ∧ 0 < ins.length ∧ ins.length ≤ 200)
set_option maxHeartbeats 16000000 in
set_option maxRecDepth 100000 in
theorem RPick.calls (w0 : World) (P : Nat → Prop) (h : Nat) (v : Ver) (w : World) (hI : RInv w0 P h v w) (hg : VGood v) :
    Calls Try.prog 35 #[.pointer (some ⟨h, 0, none⟩)] w fun e w' => ∃ vi vb, e = .returned (.tuple #[.agg #[.int .i64 (jobR v.files).lv, vi, vb, .bool (jobR v.files).bot], .bool (jobR v.files).ok]) ∧ Kd.R k41 41 w' w.heap.size (fun _ => True) vi (jobR v.files).ins ∧ Kd.R k41 41 w' w.heap.size (fun _ => True) vb (jobR v.files).bel ∧ Below w.heap.size w w' := by
  have hu41 := Try.underlying41
  have hu68 := Try.underlying68
  have hlen := hg.len
  have HG := Aside0.mk hg
  have HI := Aside0.mk hI
  have HLL := Aside0.mk (fun n : Int => levR_len n v.files)
  have HST := Aside0.mk (PSt.start w)
  clear hI hg
  obtain ⟨ls, hls⟩ : ∃ ls, levR 0 v.files = ls := ⟨_, rfl⟩
  have HLS := Aside0.mk hls
  have hll : ls.length ≤ 200 := by have := HLL.out 0; rw [hls] at this; omega
  clear hls
  go_enter Try.func35, Try.ntmps35
  go_upto_region 2 with (fail)
  obtain ⟨W, hW⟩ : ∃ W, W = ((w.alloc (.cells #[.int .i64 0, .slice none 0 0, .slice none 0 0, .bool false] 68)).alloc (.cells #[.int .i64 (-1), .slice none 0 0, .slice none 0 0, .bool false] 68)) := ⟨_, rfl⟩
  rw [← hW] at HST
  rw [← hW]
  obtain ⟨J, hJ⟩ : ∃ J, w.heap.size + 1 = J := ⟨_, rfl⟩
  simp only [hJ] at HST ⊢
  clear hW hJ
  go_upto_if 17 with (
    go_at_call 71
    refine (RLevel.calls w0 P h v 0 _ (HI.out.step HST.out.below) (by omega)).mono ?_
    rintro e w2 ⟨vy, rfl, hR2, hb2⟩
    rw [HLS.out] at hR2
    obtain ⟨A2, c2_, e2_⟩ := Kd.R_slice hR2
    subst e2_
    have HST2 := Aside0.mk (HST.out.step hb2)
    clear hR2 hb2)
  clear HST
  go_cut [] (fun wc => ∃ (lv : Int) (vi : Value) (ins : List S41), Aside0 (Found v.files 1 lv ins) ∧ Aside0 (PSt w J lv vi (.slice none 0 0) ins [] false wc))
  case first =>
    obtain ⟨⟨j0, j1, j2, j3⟩, f0, f1, f2, f3⟩ := HST2.out.cells
    by_cases h4 : 4 ≤ ls.length
    · have e1 : decide ((4 : Int) ≤ (ls.length : Int)) = true := decide_eq_true (by omega)
      have HF := Aside0.mk (show Found v.files 1 0 ls from .inr ⟨by omega, by omega, by unfold inD inR; rw [HLS.out, if_pos h4]; rfl, by omega, by omega⟩)
      have HST3 := Aside0.mk (HST2.out.set0 0)
      rw [e1]
      go_upto_region 4 with (fail)
      obtain ⟨W3, hW3⟩ : ∃ W, W = w2.setCell ⟨J, 0, none⟩ (.int .i64 0) := ⟨_, rfl⟩
      rw [← hW3] at HST3
      rw [← hW3]
      clear hW3 j0 j1 j2 j3 f0 f1 f2 f3
      go_wp2_with (
        go_at_call 71
        refine (RLevel.calls w0 P h v 0 _ (HI.out.step HST3.out.below) (by omega)).mono ?_
        rintro e w4 ⟨vy, rfl, hR4, hb4⟩
        rw [HLS.out] at hR4
        obtain ⟨A4, c4_, e4_⟩ := Kd.R_slice hR4
        subst e4_
        have HST4 := Aside0.mk (HST3.out.step hb4)
        have HR4 := Aside0.mk (HST3.out.row hR4)
        obtain ⟨⟨j0, j1, j2, j3⟩, f0, f1, f2, f3⟩ := HST4.out.cells
        clear hR4 hb4)
      go_meet
      case rel => exact ⟨_, _, _, HF, ⟨HST4.out.set1 HR4.out⟩⟩
    · have e1 : decide ((4 : Int) ≤ (ls.length : Int)) = false := decide_eq_false (by omega)
      have HF := Aside0.mk (show Found v.files 1 (-1) [] from .inl ⟨rfl, rfl, by unfold inD inR; rw [HLS.out, if_neg h4]⟩)
      rw [e1]
      go_wp2
      go_meet
      case rel => exact ⟨_, _, _, HF, HST2⟩
  obtain ⟨lv, vi, ins, HF, HST⟩ := hcut
  clear HST2
  go_upto_block 0 with (fail)
  go_cut [] (fun wc => ∃ (lv : Int) (vi : Value) (ins : List S41), Aside0 (Done v.files lv ins) ∧ Aside0 (PSt w J lv vi (.slice none 0 0) ins [] false wc))
  case first =>
    go_wp2
    go_loopw [5, 6] (fun s i wr => ∃ (j : Nat) (lv : Int) (vi : Value) (ins : List S41), 1 ≤ j ∧ j ≤ 4 ∧ s = .int .i64 (bnd j) ∧ i = .int .i64 j ∧ Aside0 (Found v.files j lv ins) ∧ Aside0 (PSt w J lv vi (.slice none 0 0) ins [] false wr)) (fun _ i _ => 4 - (intOf i).toNat)
    case atStart => exact ⟨1, lv, vi, ins, by omega, by omega, rfl, rfl, HF, HST⟩
    case round =>
      clear HF HST
      obtain ⟨j, lv, vi, ins, hj1, hj, rfl, rfl, HF, HST⟩ := hrel
      obtain ⟨⟨j0, j1, j2, j3⟩, f0, f1, f2, f3⟩ := HST.out.cells
      by_cases hlt : j < 4
      · have hle3 : (j : Int) ≤ 3 := by omega
        have e3 : decide ((j : Int) ≤ 3) = true := decide_eq_true hle3
        rcases HF.out with ⟨rfl, rfl, hin⟩ | ⟨h1, h2, h3, h4, h5⟩
        · have hb0 := bnd_in j
          have HBN := Aside0.mk (bnd_next hj1 hlt)
          have HS2 := Aside0.mk (show inD v.files = (if sumS (levR (j : Int) v.files) > bnd j then some ((j : Int), [minT (levR (j : Int) v.files)]) else scanR v.files (4 - (j + 1)) (j + 1)).getD (0, []) by
            rw [hin, show 4 - j = (4 - (j + 1)) + 1 by omega, scanR])
          obtain ⟨ks, hks⟩ : ∃ ks, levR (j : Int) v.files = ks := ⟨_, rfl⟩
          have HKS := Aside0.mk hks
          have HSZ := Aside0.mk (fun W hW => RSize.calls w0 P h v (j : Int) W hW HG.out)
          simp only [hks] at HSZ
          rw [hks] at HS2
          have hkl : ks.length ≤ 200 := by have := HLL.out (j : Int); rw [hks] at this; omega
          obtain ⟨b, hb⟩ : ∃ b, bnd j = b := ⟨_, rfl⟩
          rw [hb] at HS2 hb0 HBN ⊢
          obtain ⟨S, hSS⟩ : ∃ S, sumS ks = S := ⟨_, rfl⟩
          have HPOS := Aside0.mk (show 0 < S → 0 < ks.length from fun h => sum_pos (by rw [hSS]; exact h))
          rw [hSS] at HS2
          simp only [hSS] at HSZ
          have hw4 : IntKind.i64.wrap (b * 4) = b * 4 := IntWalk.i64_in _ (by omega)
          clear hks hb hSS hin HF
          by_cases hc : b < S
          · have d1 : decide (b < S) = true := decide_eq_true hc
            have hpos := HPOS.out (by omega)
            have HRES := Aside0.mk (show inD v.files = ((j : Int), [minT ks]) by rw [HS2.out, if_pos hc]; rfl)
            clear hc
            go_upto_block 2 with (first
              | (go_at_call 34
                 refine (HSZ.out _ (HI.out.step HST.out.below)).mono ?_
                 rintro e w3 ⟨rfl, hb3⟩
                 have HST3 := Aside0.mk (HST.out.step hb3)
                 obtain ⟨⟨k0, k1, k2, k3⟩, g0, g1, g2, g3⟩ := HST3.out.cells
                 have HST4 := Aside0.mk (HST3.out.set0 (j : Int))
                 clear hb3)
              | (go_at_call 71
                 refine (RLevel.calls w0 P h v (j : Int) _ (HI.out.step HST4.out.below) (by omega)).mono ?_
                 rintro e w5 ⟨vy, rfl, hR5, hb5⟩
                 rw [HKS.out] at hR5
                 obtain ⟨A5, c5_, e5_, -, hC5⟩ := Kd.R_reads hR5
                 subst e5_
                 have HC5 := Aside0.mk hC5
                 have HST5 := Aside0.mk (HST4.out.step hb5)
                 clear hR5 hb5 hC5))
            have e0 : ks.getD 0 z41 = ks[0] := by rw [List.getD_eq_getElem?_getD, List.getElem?_eq_getElem hpos, Option.getD_some]
            have HM1 := Aside0.mk (show ks[0]? = some (minF ks[0] (ks.take 1)) by
              rw [List.getElem?_eq_getElem hpos, minF_take hpos]
              exact congrArg some (if_neg (by show ¬ ks[0].f0 < ks[0].f0; omega)).symm)
            have HMT := Aside0.mk (show minT ks = minF ks[0] ks by unfold minT; rw [e0])
            obtain ⟨x0, hx0⟩ : ∃ a, ks[0] = a := ⟨_, rfl⟩
            rw [hx0] at HM1 HMT
            clear e0 hx0 j0 j1 j2 j3 f0 f1 f2 f3 k0 k1 k2 k3 g0 g1 g2 g3
            go_wp2
            go_loopw [8, 9] (fun a i wr => ∃ (p q : Nat), p < ks.length ∧ 1 ≤ q ∧ q ≤ ks.length ∧ a = .int .i64 p ∧ i = .int .i64 q ∧ Aside0 (ks[p]? = some (minF x0 (ks.take q))) ∧ Aside0 (PSt w J (j : Int) vi (.slice none 0 0) [] [] false wr) ∧ Aside0 (Kd.C k41 wr A5 ks.length ks)) (fun _ i _ => ks.length - (intOf i).toNat)
            case atStart => exact ⟨0, 1, hpos, Nat.le_refl _, hpos, rfl, rfl, HM1, HST5, HC5⟩
            case round =>
              clear HM1 HST5 HC5
              obtain ⟨p, q, hp, hq1, hq, rfl, rfl, HM, HST, HC⟩ := hrel
              obtain ⟨adp, ea, hy0, hy1, hy2, hy3, hy4⟩ := at_T41 HC.out (p : Int) (by omega) (by omega)
              cases ea
              rw [rd_at hp, Int.toNat_natCast] at hy0 hy1 hy2 hy3 hy4
              obtain ⟨y, hyy⟩ : ∃ y, ks[p] = y := ⟨_, rfl⟩
              rw [hyy] at hy0 hy1 hy2 hy3 hy4
              have HY := Aside0.mk (show minF x0 (ks.take q) = y by
                have := HM.out
                rw [List.getElem?_eq_getElem hp, hyy] at this
                exact (Option.some.inj this).symm)
              have HYP := Aside0.mk hyy
              clear hyy
              by_cases hlt2 : q < ks.length
              · obtain ⟨adq, ea, hx0, hx1, hx2, hx3, hx4⟩ := at_T41 HC.out (q : Int) (by omega) (by omega)
                cases ea
                rw [rd_at hlt2, Int.toNat_natCast] at hx0
                have HT := Aside0.mk (minF_take (a := x0) hlt2)
                rw [HY.out] at HT
                obtain ⟨x, hxx⟩ : ∃ x, ks[q] = x := ⟨_, rfl⟩
                rw [hxx] at hx0 HT
                have HXQ := Aside0.mk hxx
                clear hxx hx1 hx2 hx3 hx4 hy1 hy2 hy3 hy4
                by_cases hd : x.f0 < y.f0
                · have d2 : decide (x.f0 < y.f0) = true := decide_eq_true hd
                  have HN := Aside0.mk (show ks[q]? = some (minF x0 (ks.take (q + 1))) by rw [HT.out, if_pos hd, List.getElem?_eq_getElem hlt2, HXQ.out])
                  go_wp2
                  go_quiet (fail)
                  go_wp2
                  go_roundw
                  case rel => exact ⟨q, q + 1, hlt2, by omega, by omega, rfl, by go_num, HN, ⟨HST.out.step (pw_below_drewN (Below.refl _ _) _)⟩, ⟨Kd.C_below HC.out (pw_below_drewN (Below.refl _ _) _)⟩⟩
                  case measure => simp [intOf]; omega
                · have d2 : decide (x.f0 < y.f0) = false := decide_eq_false hd
                  have HN := Aside0.mk (show ks[p]? = some (minF x0 (ks.take (q + 1))) by rw [HT.out, if_neg hd, List.getElem?_eq_getElem hp, HYP.out])
                  go_wp2
                  go_quiet (fail)
                  go_wp2
                  go_roundw
                  case rel => exact ⟨p, q + 1, hp, by omega, by omega, rfl, by go_num, HN, ⟨HST.out.step (pw_below_drewN (Below.refl _ _) _)⟩, ⟨Kd.C_below HC.out (pw_below_drewN (Below.refl _ _) _)⟩⟩
                  case measure => simp [intOf]; omega
              · obtain rfl : q = ks.length := by omega
                have HYM := Aside0.mk (show minT ks = y by rw [HMT.out, ← HY.out, List.take_length])
                have HF2 := Aside0.mk (show Found v.files (j + 1) (j : Int) [y] from .inr ⟨by omega, by omega, by rw [HRES.out, HYM.out], by simp, by simp⟩)
                have HST6 := Aside0.mk (HST.out.step (below_alloc (Below.refl _ _) (.cells #[.int .i64 y.f0, .int .i64 y.f1, .int .i64 y.f2, .string y.f3, .string y.f4] 41)))
                have HR6 := Aside0.mk (HST.out.row (lit41_R wr wr.heap.size (Nat.le_refl _) y))
                obtain ⟨⟨k0, k1, k2, k3⟩, g0, g1, g2, g3⟩ := HST6.out.cells
                have HST7 := Aside0.mk (HST6.out.set1 HR6.out)
                clear hlt2
                go_wp2
                go_roundw
                case rel => exact ⟨j + 1, _, _, _, by omega, by omega, by rw [HBN.out], by go_num, HF2, HST7⟩
                case measure => simp [intOf]; omega
          · have d1 : decide (b < S) = false := decide_eq_false hc
            have HF2 := Aside0.mk (show Found v.files (j + 1) (-1) [] from .inl ⟨rfl, rfl, by rw [HS2.out, if_neg hc]⟩)
            clear hc
            go_wp2_with (
              go_at_call 34
              refine (HSZ.out _ (HI.out.step HST.out.below)).mono ?_
              rintro e w3 ⟨rfl, hb3⟩
              have HST3 := Aside0.mk (HST.out.step hb3)
              clear hb3)
            go_roundw
            case rel => exact ⟨j + 1, _, _, _, by omega, by omega, by rw [HBN.out], by go_num, HF2, HST3⟩
            case measure => simp [intOf]; omega
        · have e4 : decide (lv < 0) = false := decide_eq_false (by omega)
          have hnl : ¬ lv < 0 := by omega
          have HDN := Aside0.mk (show Done v.files lv ins from .inr ⟨h1, h2, h3, h4, h5⟩)
          clear h3 HF
          go_wp2
          go_meet
          case rel => exact ⟨_, _, _, HDN, HST⟩
      · obtain rfl : j = 4 := by omega
        have HDN := Aside0.mk (show Done v.files lv ins by
          rcases HF.out with ⟨rfl, rfl, hin⟩ | h
          · exact .inl ⟨rfl, by rw [hin]; rfl⟩
          · exact .inr h)
        clear HF
        go_wp2
        go_meet
        case rel => exact ⟨_, _, _, HDN, HST⟩
  clear HF HST
  obtain ⟨lv, vi, ins, HD, HST⟩ := hcut
  rcases HD.out with ⟨rfl, hin⟩ | ⟨h1, h2, h3, h4, h5⟩
  · have HJB := Aside0.mk (show jobR v.files = ⟨0, [], [], false, false⟩ by unfold jobR; rw [hin]; rfl)
    obtain ⟨⟨j0, j1, j2, j3⟩, -, -, -, -⟩ := HST.out.cells
    have r0 : wc.cell? ⟨w.heap.size, 0, none⟩ = some (.int .i64 0) := (blk_cell HST.out.res 0).trans rfl
    have r1 : wc.cell? ⟨w.heap.size, 1, none⟩ = some (.slice none 0 0) := (blk_cell HST.out.res 1).trans rfl
    have r2 : wc.cell? ⟨w.heap.size, 2, none⟩ = some (.slice none 0 0) := (blk_cell HST.out.res 2).trans rfl
    have r3 : wc.cell? ⟨w.heap.size, 3, none⟩ = some (.bool false) := (blk_cell HST.out.res 3).trans rfl
    have z0 := blk_frozen HST.out.res 0
    have z1 := blk_frozen HST.out.res 1
    have z2 := blk_frozen HST.out.res 2
    have z3 := blk_frozen HST.out.res 3
    have HE := Aside0.mk ((((HST.out.below.setCell (p := ⟨w.heap.size, 0, none⟩) (Nat.le_refl _) (.int .i64 0)).setCell (p := ⟨w.heap.size, 1, none⟩) (Nat.le_refl _) (.slice none 0 0)).setCell (p := ⟨w.heap.size, 2, none⟩) (Nat.le_refl _) (.slice none 0 0)).setCell (p := ⟨w.heap.size, 3, none⟩) (Nat.le_refl _) (.bool false))
    have HRES := Aside0.mk ((blk_set (blk_set (blk_set (blk_set HST.out.res 0 (.int .i64 0)) 1 (.slice none 0 0)) 2 (.slice none 0 0)) 3 (.bool false)).trans (show _ = some (.cells #[.int .i64 0, .slice none 0 0, .slice none 0 0, .bool false] 68 (0, 0)) from rfl))
    clear hin
    go_wp2
    (try simp only [Exit.inBlock, Exit.then])
    refine bodyPost_ret (results_job rfl _ _ w.heap.size 68 #[.int .i64 0, .slice none 0 0, .slice none 0 0, .bool false] (0, 0) _ (.bool false) rfl rfl HRES.out Try.underlying68 size68) rfl ?_
    rw [HJB.out]
    exact ⟨_, _, rfl, Kd.R_nil _ _ _ _ _, Kd.R_nil _ _ _ _ _, HE.out⟩
  · obtain ⟨L, rfl⟩ : ∃ L : Nat, lv = (L : Int) := ⟨lv.toNat, by omega⟩
    have hL2 : L ≤ 3 := by omega
    have HBL := Aside0.mk (overL_len ((L : Int) + 1) (loS ins) (hiS ins) v.files)
    obtain ⟨bl, hbl⟩ : ∃ bl, overL ((L : Int) + 1) (loS ins) (hiS ins) v.files = bl := ⟨_, rfl⟩
    have HJB := Aside0.mk (show jobR v.files = ⟨L, ins, bl, botF v.files (loS (ins ++ bl)) (hiS (ins ++ bl)) (L + 2) (3 - L), true⟩ by
      unfold jobR belR
      rw [h3]
      have he : ins.isEmpty = false := by cases ins with
        | nil => simp at h4
        | cons x r => rfl
      dsimp only
      rw [he, if_neg (by decide), Int.toNat_natCast, hbl])
    have HBLE := Aside0.mk hbl
    rw [hbl] at HBL
    have hbll : bl.length ≤ 200 := by have := HBL.out; omega
    obtain ⟨a, ha⟩ : ∃ a, loS ins = a := ⟨_, rfl⟩
    obtain ⟨b, hb⟩ : ∃ b, hiS ins = b := ⟨_, rfl⟩
    have HSP := Aside0.mk (fun A c W hC => RSpan.calls A c ins W hC h4)
    simp only [ha, hb] at HSP HBLE
    obtain ⟨N2, hN2⟩ : ∃ n, (ins ++ bl).length = n := ⟨_, rfl⟩
    have HSP2 := Aside0.mk (fun (A : Option Addr) (c : Nat) (W : World) (hC : Kd.C k41 W A N2 (ins ++ bl)) => show Calls Try.prog 72 #[.slice A N2 c] W fun e w' => e = .returned (.tuple #[.string (loS (ins ++ bl)), .string (hiS (ins ++ bl))]) ∧ Below W.heap.size W w' from by subst hN2; exact RSpan.calls A c (ins ++ bl) W hC (by rw [List.length_append]; omega))
    have HN2 := Aside0.mk hN2
    clear hN2
    obtain ⟨a2, ha2⟩ : ∃ a, loS (ins ++ bl) = a := ⟨_, rfl⟩
    obtain ⟨b2, hb2⟩ : ∃ b, hiS (ins ++ bl) = b := ⟨_, rfl⟩
    simp only [ha2, hb2] at HSP2
    rw [ha2, hb2] at HJB
    have HOI := Aside0.mk (fun (k : Int) a b (h0 : 0 ≤ k) (h4 : k ≤ 4) => overL_in h0 h4 a b v.files)
    have HBR := Aside0.mk (show overR ((L : Int) + 1) a b v.files = bl by rw [← HBLE.out]; exact (HOI.out _ _ _ (by omega) (by omega)).symm)
    have hw1 : IntKind.i64.wrap ((L : Int) + 1) = (L : Int) + 1 := IntWalk.i64_in _ (by omega)
    have hw2 : IntKind.i64.wrap ((L : Int) + 2) = (L : Int) + 2 := IntWalk.i64_in _ (by omega)
    have hn0 : ¬ (L : Int) < 0 := by omega
    have e0 : decide ((L : Int) < 0) = false := decide_eq_false hn0
    obtain ⟨Ai, ci, ei⟩ := Kd.R_slice HST.out.ri
    subst ei
    have HCI := Aside0.mk (Kd.R_reads' HST.out.ri).2.2
    obtain ⟨⟨j0, j1, j2, j3⟩, f0, f1, f2, f3⟩ := HST.out.cells
    clear hbl ha hb ha2 hb2 h3 HD
    go_upto_region 24 with (first
      | (go_at_call 72
         refine (HSP.out Ai ci _ HCI.out).mono ?_
         rintro e w3 ⟨rfl, hb3⟩
         have HST3 := Aside0.mk (HST.out.step hb3)
         obtain ⟨⟨k0, k1, k2, k3⟩, g0, g1, g2, g3⟩ := HST3.out.cells
         clear hb3)
      | (go_at_call 68
         refine (ROver.calls w0 P h v ((L : Int) + 1) a b _ (HI.out.step HST3.out.below) (by omega)).mono ?_
         rintro e w4 ⟨vo, rfl, hR4, hb4⟩
         rw [HBR.out] at hR4
         obtain ⟨A4, c4, e4⟩ := Kd.R_slice hR4
         subst e4
         have HST4 := Aside0.mk (HST3.out.step hb4)
         have HST5 := Aside0.mk (HST4.out.set2 (HST3.out.row hR4))
         obtain ⟨⟨m0, m1, m2, m3⟩, o0, o1, o2, o3⟩ := HST4.out.cells
         clear hR4 hb4))
    obtain ⟨W, hW⟩ : ∃ W, W = w4.setCell ⟨J, 2, none⟩ (.slice A4 bl.length c4) := ⟨_, rfl⟩
    rw [← hW] at HST5
    rw [← hW]
    clear hW j0 j1 j2 j3 f0 f1 f2 f3 k0 k1 k2 k3 g0 g1 g2 g3 m0 m1 m2 m3 o0 o1 o2 o3 HST4 HST3 HST
    have HCI5 := Aside0.mk (Kd.R_reads' HST5.out.ri).2.2
    have HCB5 := Aside0.mk (Kd.R_reads' HST5.out.rb).2.2
    obtain ⟨⟨j0, j1, j2, j3⟩, f0, f1, f2, f3⟩ := HST5.out.cells
    go_cut [10, 11] (fun s6 s7 wc => s6 = .string a2 ∧ s7 = .string b2 ∧ Aside0 (PSt w J (L : Int) (.slice Ai ins.length ci) (.slice A4 bl.length c4) ins bl false wc))
    case first =>
      refine wp_region_held_drew (S := fun w' => w'.cell? ⟨J, 1, none⟩ = some (.slice Ai ins.length ci) ∧ w'.cell? ⟨J, 2, none⟩ = some (.slice A4 bl.length c4)) (by kernel_rfl) ⟨j1, j2⟩ (fun hHeld => ?_)
      refine wpAnyH_take (i := 0) (v := ?_) rfl (by kernel_rfl) (by kernel_rfl) (by kernel_rfl) (fun _ _ _ h => h) (Or.inl ⟨by rfl, ?_⟩) (by assumption) ?_
      rotate_left
      · (intro w hSw; (try dsimp only at hSw); go_simp; try with_reducible rfl)
      try simp only [Act.put, List.setIfInBounds_toArray, List.set_cons_zero, List.set_cons_succ]
      refine wpAnyH_take (i := 1) (v := ?_) rfl (by kernel_rfl) (by kernel_rfl) (by kernel_rfl) (fun _ _ _ h => h) (Or.inl ⟨by rfl, ?_⟩) (by assumption) ?_
      rotate_left
      · (intro w hSw; (try dsimp only at hSw); go_simp; try with_reducible rfl)
      try simp only [Act.put, List.setIfInBounds_toArray, List.set_cons_zero, List.set_cons_succ]
      refine wpAnyH_take (i := 3) (v := ?_) rfl (by kernel_rfl) (by kernel_rfl) (by kernel_rfl) (fun _ _ _ h => h) (Or.inl ⟨by rfl, ?_⟩) (by assumption) ?_
      rotate_left
      · (intro w hSw; (try dsimp only at hSw); go_simp; try with_reducible rfl)
      try simp only [Act.put, List.setIfInBounds_toArray, List.set_cons_zero, List.set_cons_succ]
      refine wpAnyH_take (i := 4) (v := ?_) rfl (by kernel_rfl) (by kernel_rfl) (by kernel_rfl) (fun _ _ _ h => h) (Or.inl ⟨by rfl, ?_⟩) (by assumption) ?_
      rotate_left
      · (intro w hSw; (try dsimp only at hSw); go_simp; try with_reducible rfl)
      try simp only [Act.put, List.setIfInBounds_toArray, List.set_cons_zero, List.set_cons_succ]
      refine wpAnyH_ready (rs := [2]) (by kernel_rfl) (by simp) ?_
      refine AllReadyH.cons rfl (fun K hK => ?_) AllReadyH.nil
      refine Kd.R_append_rows_step k41 (w0 := W) W.heap.size (by rfl) (.const (.slice none 0 0)) (.tmp 87) 39 41 (.agg #[.int .i64 0, .int .i64 0, .int .i64 0, .string ⟨#[]⟩, .string ⟨#[]⟩]) 56 rfl Try.underlying39 info41 rfl (by decide) (by decide) (.slice none 0 0) [] ins Ai ins.length ci (fun _ => True) (fun _ => False) (by rfl) (by rfl) (Kd.R_nil _ _ _ _ _) (ReadsRow.imp_ (Kd.C_drew HCI5.out) (Below.refl _ _) (fun x cs h => by rw [k41_open h]; exact k41_mkM _ _ _ x)) (fun _ _ h => h) (fun _ h => h.elim) (fun _ _ => trivial) (below_drew (Below.refl W.heap.size W)) (Nat.le_refl _) (by simp; omega) ?_
      intro v6 w6 hR6 hb6 hg6 hat6
      rw [List.nil_append] at hR6
      obtain ⟨A6, c6, e6⟩ := Kd.R_slice hR6
      subst e6
      have HR6 := Aside0.mk hR6
      have HB6 := Aside0.mk hb6
      have HCB6 := Aside0.mk (Kd.C_below HCB5.out hb6)
      have i6 : w6.cell? ⟨J, 1, none⟩ = some (.slice Ai ins.length ci) := (hb6.cell (World.block_lt_of_cell? W _ j1)).trans j1
      have j6 : w6.cell? ⟨J, 2, none⟩ = some (.slice A4 bl.length c4) := (hb6.cell (World.block_lt_of_cell? W _ j2)).trans j2
      clear hR6 hb6 hg6 hat6
      refine hK.out _ _ ⟨i6, j6⟩ (fun hHeld => ?_)
      clear hK K
      try simp only [Act.put, List.setIfInBounds_toArray, List.set_cons_zero, List.set_cons_succ]
      refine wpAnyH_ready (rs := [5]) (by kernel_rfl) (by simp) ?_
      refine AllReadyH.cons rfl (fun K hK => ?_) AllReadyH.nil
      refine Kd.R_append_rows_step k41 (w0 := W) W.heap.size (by rfl) (.tmp 88) (.tmp 90) 39 41 (.agg #[.int .i64 0, .int .i64 0, .int .i64 0, .string ⟨#[]⟩, .string ⟨#[]⟩]) 56 rfl Try.underlying39 info41 rfl (by decide) (by decide) (.slice A6 ins.length c6) ins bl A4 bl.length c4 (fun _ => True) (fun _ => False) (by rfl) (by rfl) HR6.out (ReadsRow.imp_ HCB6.out (Below.refl _ _) (fun x cs h => by rw [k41_open h]; exact k41_mkM _ _ _ x)) (fun _ _ h => h) (fun _ h => h.elim) (fun _ _ => trivial) HB6.out HB6.out.size (by omega) ?_
      intro v7 w7 hR7 hb7 hg7 hat7
      obtain ⟨A7, c7, e7, -, hC7⟩ := Kd.R_reads hR7
      rw [HN2.out] at e7 hC7
      subst e7
      have HC7 := Aside0.mk hC7
      have HB7 := Aside0.mk hb7
      have i7 : w7.cell? ⟨J, 1, none⟩ = some (.slice Ai ins.length ci) := (hb7.cell (World.block_lt_of_cell? W _ j1)).trans j1
      have j7 : w7.cell? ⟨J, 2, none⟩ = some (.slice A4 bl.length c4) := (hb7.cell (World.block_lt_of_cell? W _ j2)).trans j2
      clear hR7 hb7 hg7 hat7 hC7
      refine hK.out _ _ ⟨i7, j7⟩ (fun hHeld => ?_)
      clear hK K
      try simp only [Act.put, List.setIfInBounds_toArray, List.set_cons_zero, List.set_cons_succ]
      refine wpAnyH_ready (rs := [6]) (by kernel_rfl) (by simp) ?_
      refine AllReadyH.cons rfl (fun K hK => ?_) AllReadyH.nil
      go_simp
      (with_reducible refine (HSP2.out A7 c7 _ HC7.out).mono ?_)
      rintro e w8 ⟨rfl, hb8⟩
      have HB8 := Aside0.mk (below_then HB7.out HB7.out.size hb8)
      have i8 : w8.cell? ⟨J, 1, none⟩ = some (.slice Ai ins.length ci) := (HB8.out.cell (World.block_lt_of_cell? W _ j1)).trans j1
      have j8 : w8.cell? ⟨J, 2, none⟩ = some (.slice A4 bl.length c4) := (HB8.out.cell (World.block_lt_of_cell? W _ j2)).trans j2
      clear hb8
      (try dsimp only)
      refine hK.out _ _ ⟨i8, j8⟩ (fun hHeld => ?_)
      clear hK K
      try simp only [Act.put, List.setIfInBounds_toArray, List.set_cons_zero, List.set_cons_succ]
      refine wpAnyH_take (i := 7) (v := ?_) rfl (by kernel_rfl) (by kernel_rfl) (by kernel_rfl) (fun _ _ _ h => h) (Or.inl ⟨by rfl, ?_⟩) (by assumption) ?_
      rotate_left
      · (intro w hSw; (try dsimp only at hSw); go_simp; try with_reducible rfl)
      try simp only [Act.put, List.setIfInBounds_toArray, List.set_cons_zero, List.set_cons_succ]
      refine wpAnyH_take (i := 8) (v := ?_) rfl (by kernel_rfl) (by kernel_rfl) (by kernel_rfl) (fun _ _ _ h => h) (Or.inl ⟨by rfl, ?_⟩) (by assumption) ?_
      rotate_left
      · (intro w hSw; (try dsimp only at hSw); go_simp; try with_reducible rfl)
      try simp only [Act.put, List.setIfInBounds_toArray, List.set_cons_zero, List.set_cons_succ]
      refine wpAnyH_take (i := 9) (v := ?_) rfl (by kernel_rfl) (by kernel_rfl) (by kernel_rfl) (fun _ _ _ h => h) (Or.inl ⟨by rfl, ?_⟩) (by assumption) ?_
      rotate_left
      · (intro w hSw; (try dsimp only at hSw); go_simp; try with_reducible rfl)
      try simp only [Act.put, List.setIfInBounds_toArray, List.set_cons_zero, List.set_cons_succ]
      refine wpAnyH_ready (rs := [10]) (by kernel_rfl) (by simp) ?_
      refine AllReadyH.cons rfl (fun K hK => ?_) AllReadyH.nil
      go_simp
      refine hK.out _ _ ⟨i8, j8⟩ (fun hHeld => ?_)
      clear hK K
      try simp only [Act.put, List.setIfInBounds_toArray, List.set_cons_zero, List.set_cons_succ]
      refine wpAnyH_ready (rs := [11]) (by kernel_rfl) (by simp) ?_
      refine AllReadyH.cons rfl (fun K hK => ?_) AllReadyH.nil
      go_simp
      refine hK.out _ _ ⟨i8, j8⟩ (fun hHeld => ?_)
      clear hK K
      try simp only [Act.put, List.setIfInBounds_toArray, List.set_cons_zero, List.set_cons_succ]
      refine wpAnyH_done (by kernel_rfl) ?_ _
      go_wp2
      go_meet
      case rel => exact ⟨rfl, rfl, ⟨HST5.out.step HB8.out⟩⟩
    obtain ⟨rfl, rfl, HST8⟩ := hcut
    clear HST5 j0 j1 j2 j3 f0 f1 f2 f3 HCI HCI5 HCB5
    obtain ⟨⟨j0, j1, j2, j3⟩, f0, f1, f2, f3⟩ := HST8.out.cells
    have HST9 := Aside0.mk (HST8.out.set3 true)
    obtain ⟨⟨k0, k1, k2, k3⟩, g0, g1, g2, g3⟩ := HST9.out.cells
    go_wp2
    clear j0 j1 j2 j3 f0 f1 f2 f3 k0 k1 k2 k3 g0 g1 g2 g3
    go_loopw [12] (fun i wr => ∃ (q : Nat) (K : Int), q ≤ 3 - L ∧ i = .int .i64 K ∧ Aside0 (K = ((L + 2 + q : Nat) : Int)) ∧ Aside0 (PSt w J (L : Int) (.slice Ai ins.length ci) (.slice A4 bl.length c4) ins bl (botF v.files a2 b2 (L + 2) q) wr)) (fun i _ => 5 - (intOf i).toNat)
    case atStart => exact ⟨0, (L : Int) + 2, by omega, rfl, ⟨by omega⟩, HST9⟩
    case round =>
      clear HST8 HST9
      obtain ⟨q, K, hq, rfl, HK, HST⟩ := hrel
      have hK0 : 2 ≤ K ∧ K ≤ 5 := by have := HK.out; omega
      obtain ⟨⟨j0, j1, j2, j3⟩, f0, f1, f2, f3⟩ := HST.out.cells
      by_cases hlt : K < 5
      · have hw3 : IntKind.i64.wrap (K + 1) = K + 1 := IntWalk.i64_in _ (by omega)
        have HBS := Aside0.mk (show botF v.files a2 b2 (L + 2) (q + 1) = (botF v.files a2 b2 (L + 2) q && (overL K a2 b2 v.files).isEmpty) by rw [botF, ← HK.out])
        obtain ⟨os, hos⟩ : ∃ os, overL K a2 b2 v.files = os := ⟨_, rfl⟩
        have HOS := Aside0.mk (show overR K a2 b2 v.files = os by rw [← hos]; exact (HOI.out _ _ _ (by omega) (by omega)).symm)
        rw [hos] at HBS
        obtain ⟨b9, hb9⟩ : ∃ b, os.isEmpty = b := ⟨_, rfl⟩
        have e9 : ((os.length : Int) == 0) = b9 := by rw [← hb9]; cases os <;> simp <;> omega
        have e10 : (os.length == 0) = b9 := by rw [← hb9]; cases os <;> simp
        rw [hb9] at HBS
        clear hos hb9 j0 j1 j2 f0 f1 f2
        cases hbb : botF v.files a2 b2 (L + 2) q with
        | false =>
          rw [hbb] at j3 HBS
          have HN2 := Aside0.mk (HST.out.set3 false)
          clear hbb
          go_wp2
          go_roundw
          case rel => exact ⟨q + 1, K + 1, by have := HK.out; omega, rfl, ⟨by have := HK.out; omega⟩, ⟨by rw [HBS.out]; exact HN2.out⟩⟩
          case measure => simp [intOf]; omega
        | true =>
          rw [hbb] at j3 HBS
          clear hbb
          go_wp2_with (
            go_at_call 68
            refine (ROver.calls w0 P h v K a2 b2 _ (HI.out.step HST.out.below) (by omega)).mono ?_
            rintro e w9 ⟨vo, rfl, hR9, hb9⟩
            rw [HOS.out] at hR9
            obtain ⟨A9, c9, e9_⟩ := Kd.R_slice hR9
            subst e9_
            have HST9 := Aside0.mk (HST.out.step hb9)
            have HST10 := Aside0.mk (HST9.out.set3 b9)
            obtain ⟨⟨k0, k1, k2, k3⟩, g0, g1, g2, g3⟩ := HST9.out.cells
            clear hR9 hb9)
          go_roundw
          case rel => exact ⟨q + 1, K + 1, by have := HK.out; omega, rfl, ⟨by have := HK.out; omega⟩, ⟨by rw [HBS.out]; exact HST10.out⟩⟩
          case measure => simp [intOf]; omega
      · obtain rfl : q = 3 - L := by have := HK.out; omega
        obtain ⟨bb, hbb⟩ : ∃ bb, botF v.files a2 b2 (L + 2) (3 - L) = bb := ⟨_, rfl⟩
        rw [hbb] at j3 HST HJB
        have r0 : wr.cell? ⟨w.heap.size, 0, none⟩ = some (.int .i64 0) := (blk_cell HST.out.res 0).trans rfl
        have r1 : wr.cell? ⟨w.heap.size, 1, none⟩ = some (.slice none 0 0) := (blk_cell HST.out.res 1).trans rfl
        have r2 : wr.cell? ⟨w.heap.size, 2, none⟩ = some (.slice none 0 0) := (blk_cell HST.out.res 2).trans rfl
        have r3 : wr.cell? ⟨w.heap.size, 3, none⟩ = some (.bool false) := (blk_cell HST.out.res 3).trans rfl
        have y0 := blk_frozen HST.out.res 0
        have y1 := blk_frozen HST.out.res 1
        have y2 := blk_frozen HST.out.res 2
        have y3 := blk_frozen HST.out.res 3
        have HE := Aside0.mk ((((HST.out.below.setCell (p := ⟨w.heap.size, 0, none⟩) (Nat.le_refl _) (.int .i64 L)).setCell (p := ⟨w.heap.size, 1, none⟩) (Nat.le_refl _) (.slice Ai ins.length ci)).setCell (p := ⟨w.heap.size, 2, none⟩) (Nat.le_refl _) (.slice A4 bl.length c4)).setCell (p := ⟨w.heap.size, 3, none⟩) (Nat.le_refl _) (.bool bb))
        have HRES := Aside0.mk ((blk_set (blk_set (blk_set (blk_set HST.out.res 0 (.int .i64 L)) 1 (.slice Ai ins.length ci)) 2 (.slice A4 bl.length c4)) 3 (.bool bb)).trans (show _ = some (.cells #[.int .i64 L, .slice Ai ins.length ci, .slice A4 bl.length c4, .bool bb] 68 (0, 0)) from rfl))
        have hne : ∀ k, (k ≠ w.heap.size ∧ k ≠ J) → k ≠ w.heap.size := fun k hk => hk.1
        have HRI := Aside0.mk (Kd.R_far (Kd.R_far (Kd.R_far (Kd.R_far HST.out.ri (p := ⟨w.heap.size, 0, none⟩) hne (.int .i64 L)) (p := ⟨w.heap.size, 1, none⟩) hne (.slice Ai ins.length ci)) (p := ⟨w.heap.size, 2, none⟩) hne (.slice A4 bl.length c4)) (p := ⟨w.heap.size, 3, none⟩) hne (.bool bb))
        have HRB := Aside0.mk (Kd.R_far (Kd.R_far (Kd.R_far (Kd.R_far HST.out.rb (p := ⟨w.heap.size, 0, none⟩) hne (.int .i64 L)) (p := ⟨w.heap.size, 1, none⟩) hne (.slice Ai ins.length ci)) (p := ⟨w.heap.size, 2, none⟩) hne (.slice A4 bl.length c4)) (p := ⟨w.heap.size, 3, none⟩) hne (.bool bb))
        clear hne hbb
        go_wp2
        (try simp only [Exit.inBlock, Exit.then])
        refine bodyPost_ret (results_job rfl _ _ w.heap.size 68 #[.int .i64 L, .slice Ai ins.length ci, .slice A4 bl.length c4, .bool bb] (0, 0) _ (.bool true) rfl rfl HRES.out Try.underlying68 size68) rfl ?_
        rw [HJB.out]
        exact ⟨_, _, rfl, Kd.R_mono HRI.out (fun _ _ => trivial), Kd.R_mono HRB.out (fun _ _ => trivial), HE.out⟩
end Go.Proofs.Ytjhijcehcklipaa.MVe
namespace Go.Proofs.Ytjhijcehcklipaa.MVe
open Go.RowKit Go.Proofs.YtjhijcehcklipaaW.PrintWords Go.Proofs.YtjhijcehcklipaaW.PrintLast Go.Proofs.YtjhijcehcklipaaW.PrintMore
attribute [local go_sem] max2_int min2_int max_two min_two max_three min_three max_four min_four
set_option linter.unusedVariables false
set_option linter.unusedSimpArgs false

theorem jobR_len {files : List S41} (hl : files.length ≤ 200) : (jobR files).ins.length ≤ 200 ∧ (jobR files).bel.length ≤ 200 := by
  obtain ⟨L, -, -, h3⟩ := inD_in files hl
  unfold jobR
  split
  · exact ⟨Nat.zero_le _, Nat.zero_le _⟩
  · exact ⟨h3, Nat.le_trans (overL_len _ _ _ _) hl⟩
set_option maxHeartbeats 8000000 in
set_option maxRecDepth 100000 in
theorem PickAll.calls (Ae : Option Addr) (ce : Nat) (es : List Ed) (w : World) (he : EdAt w Ae es) :
    Calls Try.prog 10 #[.slice Ae es.length ce] w fun e w' => e = .returned (.bool true) ∧ Below w.heap.size w w' := by
  have hu41 := Try.underlying41
  have hu52 := Try.underlying52
  have hu68 := Try.underlying68
  have HE := Aside0.mk he
  clear he
  go_enter Try.func10, Try.ntmps10
  go_wp2_with (first
    | (go_at_call 26
       refine (Begun26.holds _).mono ?_
       rintro e w1 ⟨rfl, hb⟩
       have HB1 := Aside0.mk hb
       clear hb)
    | (go_at_call 28
       refine (Made.calls Ae ce es 20 w _ HB1.out HE.out).mono ?_
       rintro e w2 ⟨g, h, v, rfl, hG, hV, hR, -⟩
       have HG := Aside0.mk hG
       have HV := Aside0.mk hV
       have HR := Aside0.mk hR
       clear hG hV hR))
  have hfl := HG.out.len
  go_loopw [7] (fun i wr => ∃ j : Nat, j ≤ 5 ∧ i = .int .i64 j ∧ Aside0 (VInv w (fun k => k ≠ g ∧ k ≠ h) g v wr) ∧ Aside0 (RInv w (fun k => k ≠ h ∧ k ≠ g) h v wr)) (fun i _ => 5 - (intOf i).toNat)
  case atStart => exact ⟨0, by omega, rfl, HV, HR⟩
  case round =>
    clear HV HR
    obtain ⟨j, hj, rfl, HV, HR⟩ := hrel
    by_cases hlt : j < 5
    · have hlt' : (j : Int) < 5 := by omega
      have HS1 := Aside0.mk (fun W hW => pSize.calls w (fun k => k ≠ g ∧ k ≠ h) g v (j : Int) W hW HG.out)
      have HS2 := Aside0.mk (fun W hW => RSize.calls w (fun k => k ≠ h ∧ k ≠ g) h v (j : Int) W hW HG.out)
      obtain ⟨S, hS⟩ : ∃ S, sumS (levR (j : Int) v.files) = S := ⟨_, rfl⟩
      simp only [hS] at HS1 HS2
      clear hS
      go_wp2_with (first
        | (go_at_call 33
           refine (HS1.out _ HV.out).mono ?_
           rintro e w3 ⟨rfl, hb⟩
           have HV3 := Aside0.mk (HV.out.step hb)
           have HR3 := Aside0.mk (HR.out.step hb)
           clear hb)
        | (go_at_call 34
           refine (HS2.out _ HR3.out).mono ?_
           rintro e w4 ⟨rfl, hb⟩
           have HV4 := Aside0.mk (HV3.out.step hb)
           have HR4 := Aside0.mk (HR3.out.step hb)
           clear hb))
      go_roundw
      case rel => exact ⟨j + 1, by omega, by go_num, HV4, HR4⟩
      case measure => simp [intOf]; omega
    · obtain rfl : j = 5 := by omega
      have HJL := Aside0.mk (jobR_len hfl)
      have HN := Aside0.mk (fun W hW => Next.calls w (fun k => k ≠ g ∧ k ≠ h) g v W hW HG.out)
      have HP := Aside0.mk (fun W hW => RPick.calls w (fun k => k ≠ h ∧ k ≠ g) h v W hW HG.out)
      obtain ⟨⟨lv, ins, bel, bot, ok⟩, hjb⟩ : ∃ j, jobR v.files = j := ⟨_, rfl⟩
      simp only [hjb] at HJL HN HP
      have hil : ins.length ≤ 200 ∧ bel.length ≤ 200 := HJL.out
      obtain ⟨k1, hk1⟩ := eq_any ins (by omega)
      obtain ⟨k2, hk2⟩ := eq_any bel (by omega)
      have HK1 := Aside0.mk hk1
      have HK2 := Aside0.mk hk2
      clear hjb hk1 hk2 HJL
      go_upto_region 14 with (first
        | (go_at_call 27
           refine (HN.out _ HV.out).mono ?_
           rintro e w3 ⟨vi, vb, rfl, hi, hb, hbw⟩
           obtain ⟨A1, c1, e1, hc1, hC1⟩ := Kd.R_reads hi
           obtain ⟨A2, c2, e2, hc2, hC2⟩ := Kd.R_reads hb
           subst e1
           subst e2
           have HC1 := Aside0.mk hC1
           have HC2 := Aside0.mk hC2
           have HBA3 := Aside0.mk (below_alloc (Below.refl w3.heap.size w3) (.cells #[.int .i64 lv, .slice A1 ins.length c1, .slice A2 bel.length c2, .bool bot] 52))
           have HX3 := Aside0.mk (blk_new w3 (.cells #[.int .i64 lv, .slice A1 ins.length c1, .slice A2 bel.length c2, .bool bot] 52))
           have HR3 := Aside0.mk ((HR.out.step hbw).step HBA3.out)
           clear hi hb hbw hC1 hC2)
        | (go_at_call 35
           refine (HP.out _ HR3.out).mono ?_
           rintro e w4 ⟨vi, vb, rfl, hi, hb, hbw⟩
           obtain ⟨A3, c3, e3, hc3, hC3⟩ := Kd.R_reads hi
           obtain ⟨A4, c4, e4, hc4, hC4⟩ := Kd.R_reads hb
           subst e3
           subst e4
           have HBA4 := Aside0.mk (below_alloc (Below.refl w4.heap.size w4) (.cells #[.int .i64 lv, .slice A3 ins.length c3, .slice A4 bel.length c4, .bool bot] 68))
           have HX4 := Aside0.mk (blk_new w4 (.cells #[.int .i64 lv, .slice A3 ins.length c3, .slice A4 bel.length c4, .bool bot] 68))
           have HC3 := Aside0.mk (Kd.C_below hC3 HBA4.out)
           have HC4 := Aside0.mk (Kd.C_below hC4 HBA4.out)
           have HC13 := Aside0.mk (Kd.C_below (Kd.C_below (Kd.C_below HC1.out HBA3.out) hbw) HBA4.out)
           have HC24 := Aside0.mk (Kd.C_below (Kd.C_below (Kd.C_below HC2.out HBA3.out) hbw) HBA4.out)
           have HX34 := Aside0.mk (blk_alloc ((hbw.block _ (blk_lt HX3.out)).trans HX3.out) (.cells #[.int .i64 lv, .slice A3 ins.length c3, .slice A4 bel.length c4, .bool bot] 68))
           have HB4 := Aside0.mk (below_then HR3.out.below HR3.out.below.size (below_step hbw HBA4.out))
           clear hi hb hbw hC3 hC4))
      obtain ⟨W, hW⟩ : ∃ W, W = w4.alloc (.cells #[.int .i64 lv, .slice A3 ins.length c3, .slice A4 bel.length c4, .bool bot] 68) := ⟨_, rfl⟩
      rw [← hW] at HX4 HC3 HC4 HC13 HC24 HX34 HB4
      rw [← hW]
      clear hW
      obtain ⟨p0, p1, p2, p3⟩ : W.cell? ⟨w3.heap.size, 0, none⟩ = some (.int .i64 lv) ∧ W.cell? ⟨w3.heap.size, 1, none⟩ = some (.slice A1 ins.length c1) ∧ W.cell? ⟨w3.heap.size, 2, none⟩ = some (.slice A2 bel.length c2) ∧ W.cell? ⟨w3.heap.size, 3, none⟩ = some (.bool bot) :=
        ⟨(blk_cell HX34.out 0).trans rfl, (blk_cell HX34.out 1).trans rfl, (blk_cell HX34.out 2).trans rfl, (blk_cell HX34.out 3).trans rfl⟩
      obtain ⟨q0, q1, q2, q3⟩ : W.cell? ⟨w4.heap.size, 0, none⟩ = some (.int .i64 lv) ∧ W.cell? ⟨w4.heap.size, 1, none⟩ = some (.slice A3 ins.length c3) ∧ W.cell? ⟨w4.heap.size, 2, none⟩ = some (.slice A4 bel.length c4) ∧ W.cell? ⟨w4.heap.size, 3, none⟩ = some (.bool bot) :=
        ⟨(blk_cell HX4.out 0).trans rfl, (blk_cell HX4.out 1).trans rfl, (blk_cell HX4.out 2).trans rfl, (blk_cell HX4.out 3).trans rfl⟩
      go_wp2_with (first
        | (go_at_call 29
           (with_reducible refine (incipitref12_EqFiles.calls k1 A1 c1 ins A3 c3 ins true _ HC13.out hc1 HC3.out hc3 HK1.out).mono ?_)
           rintro e w5 ⟨rfl, ⟨nd1, rfl⟩⟩)
        | (go_at_call 29
           (with_reducible refine (incipitref12_EqFiles.calls k2 A2 c2 bel A4 c4 bel true _ (Kd.C_below HC24.out (pw_below_drewN (Below.refl _ _) nd1)) hc2 (Kd.C_below HC4.out (pw_below_drewN (Below.refl _ _) nd1)) hc4 HK2.out).mono ?_)
           rintro e w6 ⟨rfl, ⟨nd2, rfl⟩⟩))
      go_ret
      exact ⟨rfl, pw_below_drewN HB4.out _⟩
end Go.Proofs.Ytjhijcehcklipaa.MVe
